/- Printed by the kit's print.py, from a print with stand-ins for two functions; their contracts are proved by hand. -/
import Derived.Test.YthjgjfelbagljabDoorBT0
import Derived.Test.YthjgjfelbagljabDoorSplitLay
import Derived.Test.YthjgjfelbagljabDoorBT3
namespace Go.Proofs.YthjgjfelbagljabDoor.PBoundsTells
open Go.RowKit Go.Proofs.YthjgjfelbagljabDoorW.PrintWords Go.Proofs.YthjgjfelbagljabDoorW.PrintLast Go.Proofs.YthjgjfelbagljabDoorW.PrintMore
attribute [local go_sem] max2_int min2_int max_two min_two max_three min_three max_four min_four   -- for this text's walks alone
set_option linter.unusedVariables false
set_option linter.unusedSimpArgs false

-- NOT PRINTED: function 33 (utf8_RuneCountInString)

-- NOT PRINTED: function 37 (utf8_decodeRuneInStringSlow)

-- NOT PRINTED: function 34 (utf8_DecodeRuneInString)

-- NOT PRINTED: function 30 (strings_explode)

-- NOT PRINTED: function 42 (bytealg_IndexByteString)

-- NOT PRINTED: function 38 (stringslite_IndexByte)

-- NOT PRINTED: function 39 (bytealg_IndexString)

/-! ### bounds_Name: function 8 -/
def bounds_Name.f (a0 : Int) : Option (ByteArray) := (some (([(⟨#[]⟩ : ByteArray), (⟨#[114, 97, 105, 115, 101, 100]⟩ : ByteArray), (⟨#[108, 111, 119, 101, 114, 101, 100]⟩ : ByteArray), (⟨#[112, 114, 117, 110, 101, 100]⟩ : ByteArray), (⟨#[101, 118, 105, 99, 116, 101, 100]⟩ : ByteArray), (⟨#[102, 111, 114, 103, 111, 116, 116, 101, 110]⟩ : ByteArray), (⟨#[99, 108, 101, 97, 114, 101, 100]⟩ : ByteArray), (⟨#[101, 110, 100, 101, 100]⟩ : ByteArray), (⟨#[100, 111, 110, 101]⟩ : ByteArray), (⟨#[115, 116, 101, 112, 115]⟩ : ByteArray)] : List ByteArray) : List ByteArray)).bind fun y300 => (if a0 < 1 then (some (⟨#[]⟩ : ByteArray)) else (if a0 > 9 then (some (⟨#[]⟩ : ByteArray)) else (if 0 ≤ a0 then (if a0 < (y300.length : Int) then (some (rdOf ByteArray.empty y300 a0)) else (none)) else (none))))
/-- internal/bytealg.MaxLen holds a number. -/
def MaxAt (w : World) : Prop := ∃ m, w.cell? ⟨0, 0, none⟩ = some (.int .i64 m)
theorem MaxAt.below {w w' : World} (h : MaxAt w) (hb : Below w.heap.size w w') : MaxAt w' := by
  obtain ⟨m, h⟩ := h
  exact ⟨m, (hb.cell (p := ⟨0, 0, none⟩) (World.block_lt_of_cell? w _ h)).trans h⟩
def namesB : ByteArray := ⟨#[32, 114, 97, 105, 115, 101, 100, 32, 108, 111, 119, 101, 114, 101, 100, 32, 112, 114, 117, 110, 101, 100, 32, 101, 118, 105, 99, 116, 101, 100, 32, 102, 111, 114, 103, 111, 116, 116, 101, 110, 32, 99, 108, 101, 97, 114, 101, 100, 32, 101, 110, 100, 101, 100, 32, 100, 111, 110, 101, 32, 115, 116, 101, 112, 115]⟩
def blankB : ByteArray := ⟨#[32]⟩
def piecesB : List ByteArray := [(⟨#[]⟩ : ByteArray), (⟨#[114, 97, 105, 115, 101, 100]⟩ : ByteArray), (⟨#[108, 111, 119, 101, 114, 101, 100]⟩ : ByteArray), (⟨#[112, 114, 117, 110, 101, 100]⟩ : ByteArray), (⟨#[101, 118, 105, 99, 116, 101, 100]⟩ : ByteArray), (⟨#[102, 111, 114, 103, 111, 116, 116, 101, 110]⟩ : ByteArray), (⟨#[99, 108, 101, 97, 114, 101, 100]⟩ : ByteArray), (⟨#[101, 110, 100, 101, 100]⟩ : ByteArray), (⟨#[100, 111, 110, 101]⟩ : ByteArray), (⟨#[115, 116, 101, 112, 115]⟩ : ByteArray)]
set_option maxRecDepth 100000 in
theorem names_count : Lib.countB namesB blankB = 9 := by decide +kernel
set_option maxRecDepth 100000 in
theorem names_split : Lib.splitB blankB 0 9 namesB = piecesB := by decide +kernel
set_option maxRecDepth 100000 in
set_option maxHeartbeats 1000000 in
theorem bounds_Name.calls (a0 : Int) (r : ByteArray) (w : World) (hM : MaxAt w) (h : bounds_Name.f a0 = some r) :
    Calls Tryd.prog 8 #[.int .i64 a0] w fun e w' => e = .returned (.string r) ∧ Below w.heap.size w w' := by
  obtain ⟨m, hm⟩ := hM
  have hS := Split_calls namesB blankB m w (by decide +kernel) hm (by decide +kernel)
  rw [names_count, names_split] at hS
  have HS := Lib.hid hS
  clear hS hm
  unfold bounds_Name.f at h
  rw [Option.bind_some] at h
  by_cases h0 : a0 < 1
  · rw [if_pos h0] at h
    obtain rfl := Option.some.inj h
    go_enter Tryd.func8, Tryd.ntmps8
    go_wp2_with fail
    go_ret
    exact ⟨rfl, Below.refl _ _⟩
  · rw [if_neg h0] at h
    by_cases h9 : a0 > 9
    · rw [if_pos h9] at h
      obtain rfl := Option.some.inj h
      have h9b : decide (9 < a0) = true := decide_eq_true h9
      go_enter Tryd.func8, Tryd.ntmps8
      go_wp2_with fail
      go_ret
      exact ⟨rfl, Below.refl _ _⟩
    · rw [if_neg h9] at h
      obtain ⟨n, rfl⟩ : ∃ n : Nat, a0 = (n : Int) := ⟨a0.toNat, by omega⟩
      have hn1 : 1 ≤ n := by omega
      have hn9 : n ≤ 9 := by omega
      have hr : piecesB[n]? = some r := by
        rw [if_pos (by omega), if_pos (by show (n : Int) < 10; omega)] at h
        have hlt : n < piecesB.length := by show n < 10; omega
        have e := Option.some.inj h
        rw [List.getElem?_eq_getElem hlt, ← e]
        unfold rdOf
        rw [Int.toNat_natCast]
        show some piecesB[n] = some (piecesB.getD n ByteArray.empty)
        rw [List.getD_eq_getElem?_getD, List.getElem?_eq_getElem hlt]
        rfl
      clear h
      have hc : (w.alloc (.cells (piecesB.map Value.string).toArray 9)).cell? ⟨w.heap.size, n, none⟩ = some (.string r) := by
        rw [(Blk.new w (piecesB.map Value.string).toArray 9).cell, ← Array.getElem?_toList]
        show (piecesB.map Value.string)[n]? = _
        rw [List.getElem?_map, hr]
        rfl
      have hB : Below w.heap.size w (w.alloc (.cells (piecesB.map Value.string).toArray 9)) := (Below.refl _ w).alloc (Nat.le_refl _) _
      have z0 : (0 : Int) ≤ (n : Int) := by omega
      have z1 : (n : Int) < 10 := by omega
      have z2 : ¬ (9 : Int) < (n : Int) := by omega
      have z3 : ¬ (n : Int) < 1 := by omega
      clear hr h0 h9
      go_enter Tryd.func8, Tryd.ntmps8
      go_wp2_with fail
      refine HS.out.mono ?_
      rintro e w1 ⟨rfl, rfl⟩
      generalize w.alloc (.cells (piecesB.map Value.string).toArray 9) = w2 at hc hB ⊢
      go_wp2_with fail
      go_ret
      exact ⟨rfl, hB⟩

/-! ### hutchref34_Name: function 9 -/
def hutchref34_Name.f (a0 : Int) : Option (ByteArray) := (some (([(⟨#[]⟩ : ByteArray), (⟨#[114, 97, 105, 115, 101, 100]⟩ : ByteArray), (⟨#[108, 111, 119, 101, 114, 101, 100]⟩ : ByteArray), (⟨#[112, 114, 117, 110, 101, 100]⟩ : ByteArray), (⟨#[101, 118, 105, 99, 116, 101, 100]⟩ : ByteArray), (⟨#[102, 111, 114, 103, 111, 116, 116, 101, 110]⟩ : ByteArray), (⟨#[99, 108, 101, 97, 114, 101, 100]⟩ : ByteArray), (⟨#[101, 110, 100, 101, 100]⟩ : ByteArray), (⟨#[100, 111, 110, 101]⟩ : ByteArray), (⟨#[115, 116, 101, 112, 115]⟩ : ByteArray)] : List ByteArray) : List ByteArray)).bind fun y304 => (if a0 < 1 then (some (⟨#[]⟩ : ByteArray)) else (if a0 > 9 then (some (⟨#[]⟩ : ByteArray)) else (if 0 ≤ a0 then (if a0 < (y304.length : Int) then (some (rdOf ByteArray.empty y304 a0)) else (none)) else (none))))
set_option maxHeartbeats 8000000 in
set_option maxRecDepth 100000 in
theorem hutchref34_Name.calls (a0 : Int) (r : ByteArray) (w : World) (h : hutchref34_Name.f a0 = some r) :
    Calls Tryd.prog 9 #[.int .i64 a0] w fun e w' => e = .returned (.string r) ∧ Below w.heap.size w w' := by
  have HB := Aside0.mk (Below.refl w.heap.size w)
  have H : ((some (([(⟨#[]⟩ : ByteArray), (⟨#[114, 97, 105, 115, 101, 100]⟩ : ByteArray), (⟨#[108, 111, 119, 101, 114, 101, 100]⟩ : ByteArray), (⟨#[112, 114, 117, 110, 101, 100]⟩ : ByteArray), (⟨#[101, 118, 105, 99, 116, 101, 100]⟩ : ByteArray), (⟨#[102, 111, 114, 103, 111, 116, 116, 101, 110]⟩ : ByteArray), (⟨#[99, 108, 101, 97, 114, 101, 100]⟩ : ByteArray), (⟨#[101, 110, 100, 101, 100]⟩ : ByteArray), (⟨#[100, 111, 110, 101]⟩ : ByteArray), (⟨#[115, 116, 101, 112, 115]⟩ : ByteArray)] : List ByteArray) : List ByteArray)).bind fun y304 => (if a0 < 1 then (some (⟨#[]⟩ : ByteArray)) else (if a0 > 9 then (some (⟨#[]⟩ : ByteArray)) else (if 0 ≤ a0 then (if a0 < (y304.length : Int) then (some (rdOf ByteArray.empty y304 a0)) else (none)) else (none))))) = some r := h
  clear h
  obtain ⟨y304, hy304⟩ : ∃ y_ : List ByteArray, y_ = (([(⟨#[]⟩ : ByteArray), (⟨#[114, 97, 105, 115, 101, 100]⟩ : ByteArray), (⟨#[108, 111, 119, 101, 114, 101, 100]⟩ : ByteArray), (⟨#[112, 114, 117, 110, 101, 100]⟩ : ByteArray), (⟨#[101, 118, 105, 99, 116, 101, 100]⟩ : ByteArray), (⟨#[102, 111, 114, 103, 111, 116, 116, 101, 110]⟩ : ByteArray), (⟨#[99, 108, 101, 97, 114, 101, 100]⟩ : ByteArray), (⟨#[101, 110, 100, 101, 100]⟩ : ByteArray), (⟨#[100, 111, 110, 101]⟩ : ByteArray), (⟨#[115, 116, 101, 112, 115]⟩ : ByteArray)] : List ByteArray)) := ⟨_, rfl⟩
  replace H : (if a0 < 1 then (some (⟨#[]⟩ : ByteArray)) else (if a0 > 9 then (some (⟨#[]⟩ : ByteArray)) else (if 0 ≤ a0 then (if a0 < (y304.length : Int) then (some (rdOf ByteArray.empty y304 a0)) else (none)) else (none)))) = some r := by first | (rw [hy304]; with_reducible exact H) | (have H2_ := (Option.bind_some _ _).symm.trans H; rw [hy304]; with_reducible exact H2_) | (have H2_ := (Option.bind_some _ _).symm.trans H; with_reducible exact H2_) | with_reducible exact H | (rw [hy304]; exact H) | exact H
  have Ny304 := Aside0.mk hy304
  clear hy304
  by_cases c2 : a0 < 1
  · rw [if_pos c2] at H
    have c2b0 : decide (a0 < 1) = true := decide_eq_true c2
    clear c2
    obtain rfl := Option.some.inj H
    go_enter Tryd.func9, Tryd.ntmps9
    go_wp2_with (first | ((with_reducible refine gate_dst (N := 4) rfl ?_); refine Kd.R_lit Kd.string _ 9 ?hg (N := 4) ?hd (xs := ([(⟨#[]⟩ : ByteArray), (⟨#[114, 97, 105, 115, 101, 100]⟩ : ByteArray), (⟨#[108, 111, 119, 101, 114, 101, 100]⟩ : ByteArray), (⟨#[112, 114, 117, 110, 101, 100]⟩ : ByteArray), (⟨#[101, 118, 105, 99, 116, 101, 100]⟩ : ByteArray), (⟨#[102, 111, 114, 103, 111, 116, 116, 101, 110]⟩ : ByteArray), (⟨#[99, 108, 101, 97, 114, 101, 100]⟩ : ByteArray), (⟨#[101, 110, 100, 101, 100]⟩ : ByteArray), (⟨#[100, 111, 110, 101]⟩ : ByteArray), (⟨#[115, 116, 101, 112, 115]⟩ : ByteArray)] : List ByteArray)) (inner := [.string (⟨#[]⟩ : ByteArray), .string (⟨#[114, 97, 105, 115, 101, 100]⟩ : ByteArray), .string (⟨#[108, 111, 119, 101, 114, 101, 100]⟩ : ByteArray), .string (⟨#[112, 114, 117, 110, 101, 100]⟩ : ByteArray), .string (⟨#[101, 118, 105, 99, 116, 101, 100]⟩ : ByteArray), .string (⟨#[102, 111, 114, 103, 111, 116, 116, 101, 110]⟩ : ByteArray), .string (⟨#[99, 108, 101, 97, 114, 101, 100]⟩ : ByteArray), .string (⟨#[101, 110, 100, 101, 100]⟩ : ByteArray), .string (⟨#[100, 111, 110, 101]⟩ : ByteArray), .string (⟨#[115, 116, 101, 112, 115]⟩ : ByteArray)]) (ok := fun _ => True) (okp := fun _ => True) ?hr ?hp (fun _ hk => hk) trivial (Below.refl _ _) (Nat.le_refl _) (by simp) ?_; (case hd => rfl); (case hg => rfl); (case hr => first | (go_simp; done) | (go_simp; rfl)); (case hp => exact (Reps.one (show Kd.M Kd.string _ _ _ (⟨#[]⟩ : ByteArray) [.string (⟨#[]⟩ : ByteArray)] from rfl) (Reps.one (show Kd.M Kd.string _ _ _ (⟨#[114, 97, 105, 115, 101, 100]⟩ : ByteArray) [.string (⟨#[114, 97, 105, 115, 101, 100]⟩ : ByteArray)] from rfl) (Reps.one (show Kd.M Kd.string _ _ _ (⟨#[108, 111, 119, 101, 114, 101, 100]⟩ : ByteArray) [.string (⟨#[108, 111, 119, 101, 114, 101, 100]⟩ : ByteArray)] from rfl) (Reps.one (show Kd.M Kd.string _ _ _ (⟨#[112, 114, 117, 110, 101, 100]⟩ : ByteArray) [.string (⟨#[112, 114, 117, 110, 101, 100]⟩ : ByteArray)] from rfl) (Reps.one (show Kd.M Kd.string _ _ _ (⟨#[101, 118, 105, 99, 116, 101, 100]⟩ : ByteArray) [.string (⟨#[101, 118, 105, 99, 116, 101, 100]⟩ : ByteArray)] from rfl) (Reps.one (show Kd.M Kd.string _ _ _ (⟨#[102, 111, 114, 103, 111, 116, 116, 101, 110]⟩ : ByteArray) [.string (⟨#[102, 111, 114, 103, 111, 116, 116, 101, 110]⟩ : ByteArray)] from rfl) (Reps.one (show Kd.M Kd.string _ _ _ (⟨#[99, 108, 101, 97, 114, 101, 100]⟩ : ByteArray) [.string (⟨#[99, 108, 101, 97, 114, 101, 100]⟩ : ByteArray)] from rfl) (Reps.one (show Kd.M Kd.string _ _ _ (⟨#[101, 110, 100, 101, 100]⟩ : ByteArray) [.string (⟨#[101, 110, 100, 101, 100]⟩ : ByteArray)] from rfl) (Reps.one (show Kd.M Kd.string _ _ _ (⟨#[100, 111, 110, 101]⟩ : ByteArray) [.string (⟨#[100, 111, 110, 101]⟩ : ByteArray)] from rfl) (Reps.one (show Kd.M Kd.string _ _ _ (⟨#[115, 116, 101, 112, 115]⟩ : ByteArray) [.string (⟨#[115, 116, 101, 112, 115]⟩ : ByteArray)] from rfl) (Reps.none _ _)))))))))))); intro v305 w3 ho4 hb hg_ hnew_; clear hg_ hnew_; (first | rw [← Ny304.out] at ho4 | (simp only [Int.reduceToNat] at ho4; rw [← Ny304.out] at ho4)); have n0_ := Aside0.mk (Kd.R_lower ho4 (below_size (by repeat (first | (with_reducible first | exact HB.out | apply below_alloc | apply pw_below_drewN | apply below_drew1) | exact HB.out)))); have n1_ := Aside0.mk (below_step (by repeat (first | (with_reducible first | exact HB.out | apply below_alloc | apply pw_below_drewN | apply below_drew1) | exact HB.out)) hb); clear HB; have HO306 := n0_; have HB := n1_; clear n0_ n1_; clear hb ho4))
    go_ret
    exact ⟨by first | rfl | (simp [errW_none, errW_some] <;> rfl) | (simp [*, errW_none, errW_some] <;> rfl), by repeat (first | (with_reducible first | exact HB.out | apply below_alloc | apply pw_below_drewN | apply below_drew1) | exact HB.out)⟩
  · rw [if_neg c2] at H
    have c2b0 : decide (a0 < 1) = false := decide_eq_false c2
    clear c2
    by_cases c5 : a0 > 9
    · rw [if_pos c5] at H
      have c5b0 : decide (9 < a0) = true := decide_eq_true c5
      clear c5
      obtain rfl := Option.some.inj H
      go_enter Tryd.func9, Tryd.ntmps9
      go_wp2_with (first | ((with_reducible refine gate_dst (N := 4) rfl ?_); refine Kd.R_lit Kd.string _ 9 ?hg (N := 4) ?hd (xs := ([(⟨#[]⟩ : ByteArray), (⟨#[114, 97, 105, 115, 101, 100]⟩ : ByteArray), (⟨#[108, 111, 119, 101, 114, 101, 100]⟩ : ByteArray), (⟨#[112, 114, 117, 110, 101, 100]⟩ : ByteArray), (⟨#[101, 118, 105, 99, 116, 101, 100]⟩ : ByteArray), (⟨#[102, 111, 114, 103, 111, 116, 116, 101, 110]⟩ : ByteArray), (⟨#[99, 108, 101, 97, 114, 101, 100]⟩ : ByteArray), (⟨#[101, 110, 100, 101, 100]⟩ : ByteArray), (⟨#[100, 111, 110, 101]⟩ : ByteArray), (⟨#[115, 116, 101, 112, 115]⟩ : ByteArray)] : List ByteArray)) (inner := [.string (⟨#[]⟩ : ByteArray), .string (⟨#[114, 97, 105, 115, 101, 100]⟩ : ByteArray), .string (⟨#[108, 111, 119, 101, 114, 101, 100]⟩ : ByteArray), .string (⟨#[112, 114, 117, 110, 101, 100]⟩ : ByteArray), .string (⟨#[101, 118, 105, 99, 116, 101, 100]⟩ : ByteArray), .string (⟨#[102, 111, 114, 103, 111, 116, 116, 101, 110]⟩ : ByteArray), .string (⟨#[99, 108, 101, 97, 114, 101, 100]⟩ : ByteArray), .string (⟨#[101, 110, 100, 101, 100]⟩ : ByteArray), .string (⟨#[100, 111, 110, 101]⟩ : ByteArray), .string (⟨#[115, 116, 101, 112, 115]⟩ : ByteArray)]) (ok := fun _ => True) (okp := fun _ => True) ?hr ?hp (fun _ hk => hk) trivial (Below.refl _ _) (Nat.le_refl _) (by simp) ?_; (case hd => rfl); (case hg => rfl); (case hr => first | (go_simp; done) | (go_simp; rfl)); (case hp => exact (Reps.one (show Kd.M Kd.string _ _ _ (⟨#[]⟩ : ByteArray) [.string (⟨#[]⟩ : ByteArray)] from rfl) (Reps.one (show Kd.M Kd.string _ _ _ (⟨#[114, 97, 105, 115, 101, 100]⟩ : ByteArray) [.string (⟨#[114, 97, 105, 115, 101, 100]⟩ : ByteArray)] from rfl) (Reps.one (show Kd.M Kd.string _ _ _ (⟨#[108, 111, 119, 101, 114, 101, 100]⟩ : ByteArray) [.string (⟨#[108, 111, 119, 101, 114, 101, 100]⟩ : ByteArray)] from rfl) (Reps.one (show Kd.M Kd.string _ _ _ (⟨#[112, 114, 117, 110, 101, 100]⟩ : ByteArray) [.string (⟨#[112, 114, 117, 110, 101, 100]⟩ : ByteArray)] from rfl) (Reps.one (show Kd.M Kd.string _ _ _ (⟨#[101, 118, 105, 99, 116, 101, 100]⟩ : ByteArray) [.string (⟨#[101, 118, 105, 99, 116, 101, 100]⟩ : ByteArray)] from rfl) (Reps.one (show Kd.M Kd.string _ _ _ (⟨#[102, 111, 114, 103, 111, 116, 116, 101, 110]⟩ : ByteArray) [.string (⟨#[102, 111, 114, 103, 111, 116, 116, 101, 110]⟩ : ByteArray)] from rfl) (Reps.one (show Kd.M Kd.string _ _ _ (⟨#[99, 108, 101, 97, 114, 101, 100]⟩ : ByteArray) [.string (⟨#[99, 108, 101, 97, 114, 101, 100]⟩ : ByteArray)] from rfl) (Reps.one (show Kd.M Kd.string _ _ _ (⟨#[101, 110, 100, 101, 100]⟩ : ByteArray) [.string (⟨#[101, 110, 100, 101, 100]⟩ : ByteArray)] from rfl) (Reps.one (show Kd.M Kd.string _ _ _ (⟨#[100, 111, 110, 101]⟩ : ByteArray) [.string (⟨#[100, 111, 110, 101]⟩ : ByteArray)] from rfl) (Reps.one (show Kd.M Kd.string _ _ _ (⟨#[115, 116, 101, 112, 115]⟩ : ByteArray) [.string (⟨#[115, 116, 101, 112, 115]⟩ : ByteArray)] from rfl) (Reps.none _ _)))))))))))); intro v305 w6 ho7 hb hg_ hnew_; clear hg_ hnew_; (first | rw [← Ny304.out] at ho7 | (simp only [Int.reduceToNat] at ho7; rw [← Ny304.out] at ho7)); have n0_ := Aside0.mk (Kd.R_lower ho7 (below_size (by repeat (first | (with_reducible first | exact HB.out | apply below_alloc | apply pw_below_drewN | apply below_drew1) | exact HB.out)))); have n1_ := Aside0.mk (below_step (by repeat (first | (with_reducible first | exact HB.out | apply below_alloc | apply pw_below_drewN | apply below_drew1) | exact HB.out)) hb); clear HB; have HO306 := n0_; have HB := n1_; clear n0_ n1_; clear hb ho7))
      go_ret
      exact ⟨by first | rfl | (simp [errW_none, errW_some] <;> rfl) | (simp [*, errW_none, errW_some] <;> rfl), by repeat (first | (with_reducible first | exact HB.out | apply below_alloc | apply pw_below_drewN | apply below_drew1) | exact HB.out)⟩
    · rw [if_neg c5] at H
      have c5b0 : decide (9 < a0) = false := decide_eq_false c5
      clear c5
      by_cases c8 : 0 ≤ a0
      · rw [if_pos c8] at H
        have c8b0 : decide (0 ≤ a0) = true := decide_eq_true c8
        clear c8
        by_cases c9 : a0 < (y304.length : Int)
        · rw [if_pos c9] at H
          have c9b0 : decide (a0 < (y304.length : Int)) = true := decide_eq_true c9
          clear c9
          obtain rfl := Option.some.inj H
          go_enter Tryd.func9, Tryd.ntmps9
          go_wp2_with (first | ((with_reducible refine gate_dst (N := 4) rfl ?_); refine Kd.R_lit Kd.string _ 9 ?hg (N := 4) ?hd (xs := ([(⟨#[]⟩ : ByteArray), (⟨#[114, 97, 105, 115, 101, 100]⟩ : ByteArray), (⟨#[108, 111, 119, 101, 114, 101, 100]⟩ : ByteArray), (⟨#[112, 114, 117, 110, 101, 100]⟩ : ByteArray), (⟨#[101, 118, 105, 99, 116, 101, 100]⟩ : ByteArray), (⟨#[102, 111, 114, 103, 111, 116, 116, 101, 110]⟩ : ByteArray), (⟨#[99, 108, 101, 97, 114, 101, 100]⟩ : ByteArray), (⟨#[101, 110, 100, 101, 100]⟩ : ByteArray), (⟨#[100, 111, 110, 101]⟩ : ByteArray), (⟨#[115, 116, 101, 112, 115]⟩ : ByteArray)] : List ByteArray)) (inner := [.string (⟨#[]⟩ : ByteArray), .string (⟨#[114, 97, 105, 115, 101, 100]⟩ : ByteArray), .string (⟨#[108, 111, 119, 101, 114, 101, 100]⟩ : ByteArray), .string (⟨#[112, 114, 117, 110, 101, 100]⟩ : ByteArray), .string (⟨#[101, 118, 105, 99, 116, 101, 100]⟩ : ByteArray), .string (⟨#[102, 111, 114, 103, 111, 116, 116, 101, 110]⟩ : ByteArray), .string (⟨#[99, 108, 101, 97, 114, 101, 100]⟩ : ByteArray), .string (⟨#[101, 110, 100, 101, 100]⟩ : ByteArray), .string (⟨#[100, 111, 110, 101]⟩ : ByteArray), .string (⟨#[115, 116, 101, 112, 115]⟩ : ByteArray)]) (ok := fun _ => True) (okp := fun _ => True) ?hr ?hp (fun _ hk => hk) trivial (Below.refl _ _) (Nat.le_refl _) (by simp) ?_; (case hd => rfl); (case hg => rfl); (case hr => first | (go_simp; done) | (go_simp; rfl)); (case hp => exact (Reps.one (show Kd.M Kd.string _ _ _ (⟨#[]⟩ : ByteArray) [.string (⟨#[]⟩ : ByteArray)] from rfl) (Reps.one (show Kd.M Kd.string _ _ _ (⟨#[114, 97, 105, 115, 101, 100]⟩ : ByteArray) [.string (⟨#[114, 97, 105, 115, 101, 100]⟩ : ByteArray)] from rfl) (Reps.one (show Kd.M Kd.string _ _ _ (⟨#[108, 111, 119, 101, 114, 101, 100]⟩ : ByteArray) [.string (⟨#[108, 111, 119, 101, 114, 101, 100]⟩ : ByteArray)] from rfl) (Reps.one (show Kd.M Kd.string _ _ _ (⟨#[112, 114, 117, 110, 101, 100]⟩ : ByteArray) [.string (⟨#[112, 114, 117, 110, 101, 100]⟩ : ByteArray)] from rfl) (Reps.one (show Kd.M Kd.string _ _ _ (⟨#[101, 118, 105, 99, 116, 101, 100]⟩ : ByteArray) [.string (⟨#[101, 118, 105, 99, 116, 101, 100]⟩ : ByteArray)] from rfl) (Reps.one (show Kd.M Kd.string _ _ _ (⟨#[102, 111, 114, 103, 111, 116, 116, 101, 110]⟩ : ByteArray) [.string (⟨#[102, 111, 114, 103, 111, 116, 116, 101, 110]⟩ : ByteArray)] from rfl) (Reps.one (show Kd.M Kd.string _ _ _ (⟨#[99, 108, 101, 97, 114, 101, 100]⟩ : ByteArray) [.string (⟨#[99, 108, 101, 97, 114, 101, 100]⟩ : ByteArray)] from rfl) (Reps.one (show Kd.M Kd.string _ _ _ (⟨#[101, 110, 100, 101, 100]⟩ : ByteArray) [.string (⟨#[101, 110, 100, 101, 100]⟩ : ByteArray)] from rfl) (Reps.one (show Kd.M Kd.string _ _ _ (⟨#[100, 111, 110, 101]⟩ : ByteArray) [.string (⟨#[100, 111, 110, 101]⟩ : ByteArray)] from rfl) (Reps.one (show Kd.M Kd.string _ _ _ (⟨#[115, 116, 101, 112, 115]⟩ : ByteArray) [.string (⟨#[115, 116, 101, 112, 115]⟩ : ByteArray)] from rfl) (Reps.none _ _)))))))))))); intro v305 w10 ho11 hb hg_ hnew_; clear hg_ hnew_; (first | rw [← Ny304.out] at ho11 | (simp only [Int.reduceToNat] at ho11; rw [← Ny304.out] at ho11)); have n0_ := Aside0.mk (Kd.R_lower ho11 (below_size (by repeat (first | (with_reducible first | exact HB.out | apply below_alloc | apply pw_below_drewN | apply below_drew1) | exact HB.out)))); have n1_ := Aside0.mk (below_step (by repeat (first | (with_reducible first | exact HB.out | apply below_alloc | apply pw_below_drewN | apply below_drew1) | exact HB.out)) hb); clear HB; have HO306 := n0_; have HB := n1_; clear n0_ n1_; clear hb ho11; obtain ⟨Ao12, co12, eo12⟩ := Kd.R_slice HO306.out; subst eo12; have p307 : 0 ≤ (a0 : Int) := of_decide_eq_true (by first | (with_reducible assumption) | assumption); have q307 : a0 < (y304.length : Int) := of_decide_eq_true (by first | (with_reducible assumption) | assumption); obtain ⟨ad307, e307, hx307_0⟩ := Kd.at_string (Kd.R_reads' HO306.out).2.2 a0 p307 q307; cases e307; replace p307 := eq_true p307; replace q307 := eq_true q307))
          go_ret
          exact ⟨by first | rfl | (simp [errW_none, errW_some] <;> rfl) | (simp [*, errW_none, errW_some] <;> rfl), by repeat (first | (with_reducible first | exact HB.out | apply below_alloc | apply pw_below_drewN | apply below_drew1) | exact HB.out)⟩
        · rw [if_neg c9] at H
          exact absurd H (by simp)
      · rw [if_neg c8] at H
        exact absurd H (by simp)

/-! ### hutchlaw34_alive: function 10 -/
def hutchlaw34_alive.f (k : Nat)  : Option (Bool) := (bounds_Broken.f k 0 0 0 0 0 0 0 0 0 0 0).bind fun t308 => ((bounds_Broken.f k 0 0 0 0 0 0 0 0 0 1 768).bind fun t311 => (if (t308.length : Int) = 0 then (if (t311.length : Int) = 1 then (if 0 < (t311.length : Int) then (if (rd t311 0) = 9 then ((bounds_Name.f 9).bind fun t315 => (some (t315.toList == ([115, 116, 101, 112, 115] : List UInt8)))) else (some false)) else (none)) else (some false)) else (some false)))
theorem hutchlaw34_alive.mono : ∀ k, LeO (hutchlaw34_alive.f k ) (hutchlaw34_alive.f (k + 1) ) := by
  intro  k
  unfold hutchlaw34_alive.f
  repeat' first
      | (with_reducible exact bounds_Broken.mono _ _ _ _ _ _ _ _ _ _ _ _)
      | (with_reducible exact LeO.refl _)
      | (with_reducible exact LeO.none _)
      | (with_reducible refine LeO.ite ?_ ?_)
      | (with_reducible refine LeO.bind ?_ (fun _ => ?_))
      | exact bounds_Broken.mono _ _ _ _ _ _ _ _ _ _ _ _
      | exact LeO.none _
      | refine LeO.ite ?_ ?_
      | refine LeO.bind ?_ (fun _ => ?_)
set_option maxHeartbeats 8000000 in
set_option maxRecDepth 100000 in
theorem hutchlaw34_alive.calls (k : Nat)  (r : Bool) (w : World) (hM : MaxAt w) (h : hutchlaw34_alive.f k  = some r) :
    Calls Tryd.prog 10 #[] w fun e w' => e = .returned (.bool r) ∧ Below w.heap.size w w' := by
  have HM := Aside0.mk hM
  clear hM
  have hu24 := Tryd.underlying24
  have HB := Aside0.mk (Below.refl w.heap.size w)
  have H : ((bounds_Broken.f k 0 0 0 0 0 0 0 0 0 0 0).bind fun t308 => ((bounds_Broken.f k 0 0 0 0 0 0 0 0 0 1 768).bind fun t311 => (if (t308.length : Int) = 0 then (if (t311.length : Int) = 1 then (if 0 < (t311.length : Int) then (if (rd t311 0) = 9 then ((bounds_Name.f 9).bind fun t315 => (some (t315.toList == ([115, 116, 101, 112, 115] : List UInt8)))) else (some false)) else (none)) else (some false)) else (some false)))) = some r := h
  clear h
  replace H := Option.bind_eq_some_iff.mp H
  obtain ⟨t308, A10, H⟩ := H
  replace H : ((bounds_Broken.f k 0 0 0 0 0 0 0 0 0 1 768).bind fun t311 => (if (t308.length : Int) = 0 then (if (t311.length : Int) = 1 then (if 0 < (t311.length : Int) then (if (rd t311 0) = 9 then ((bounds_Name.f 9).bind fun t315 => (some (t315.toList == ([115, 116, 101, 112, 115] : List UInt8)))) else (some false)) else (none)) else (some false)) else (some false))) = some r := H
  have A1 := Aside0.mk A10
  clear A10
  replace H := Option.bind_eq_some_iff.mp H
  obtain ⟨t311, A20, H⟩ := H
  replace H : (if (t308.length : Int) = 0 then (if (t311.length : Int) = 1 then (if 0 < (t311.length : Int) then (if (rd t311 0) = 9 then ((bounds_Name.f 9).bind fun t315 => (some (t315.toList == ([115, 116, 101, 112, 115] : List UInt8)))) else (some false)) else (none)) else (some false)) else (some false)) = some r := H
  have A2 := Aside0.mk A20
  clear A20
  by_cases c3 : (t308.length : Int) = 0
  · rw [if_pos c3] at H
    have c3b0 : ((t308.length : Int) == 0) = true := beq_iff_eq.mpr c3
    have c3b1 : ((t308.length : Int) != 0) = false := bne_eq_false_iff_eq.mpr c3
    clear c3
    by_cases c4 : (t311.length : Int) = 1
    · rw [if_pos c4] at H
      have c4b0 : ((t311.length : Int) == 1) = true := beq_iff_eq.mpr c4
      have c4b1 : ((t311.length : Int) != 1) = false := bne_eq_false_iff_eq.mpr c4
      clear c4
      by_cases c5 : 0 < (t311.length : Int)
      · rw [if_pos c5] at H
        have c5b0 : decide (0 < (t311.length : Int)) = true := decide_eq_true c5
        have c5b1 : decide (0 < t311.length) = true := decide_eq_true (by omega)
        clear c5
        by_cases c6 : (rd t311 0) = 9
        · rw [if_pos c6] at H
          have c6b0 : ((rd t311 0) == 9) = true := beq_iff_eq.mpr c6
          have c6b1 : ((rd t311 0) != 9) = false := bne_eq_false_iff_eq.mpr c6
          clear c6
          replace H := Option.bind_eq_some_iff.mp H
          obtain ⟨t315, A70, H⟩ := H
          replace H : (some (t315.toList == ([115, 116, 101, 112, 115] : List UInt8))) = some r := H
          have A7 := Aside0.mk A70
          clear A70
          obtain rfl := Option.some.inj H
          go_enter Tryd.func10, Tryd.ntmps10
          go_wp2_with (first | ((with_reducible refine gate_callee (f := 6) rfl ?_); refine goesL_ (some 4) rfl rfl Tryd.func6 (by kernel_rfl) rfl #[.agg #[.int .u64 0, .int .u64 0, .int .u64 0, .int .u64 0, .int .u64 0, .int .u64 0, .int .u64 0, .int .u64 0, .int .u64 0, .int .u64 0], .int .i64 0] rfl (by (try simp only [List.map_toArray, List.map_cons, List.map_nil]); first | done | rfl | (simp only [List.length_drop, List.length_take]; rfl)) ?_; (with_reducible refine (bounds_Broken.calls k 0 0 0 0 0 0 0 0 0 0 0 t308 _ A1.out).mono ?_); rintro e w8 ⟨v309, rfl, ho0, hb⟩; refine ⟨_, rfl, ?_⟩; have n0_ := Aside0.mk (Kd.R_lower ho0 (below_size (by repeat (first | (with_reducible first | exact HB.out | apply below_alloc | apply pw_below_drewN | apply below_drew1) | exact HB.out)))); have n1_ := Aside0.mk (below_step (by repeat (first | (with_reducible first | exact HB.out | apply below_alloc | apply pw_below_drewN | apply below_drew1) | exact HB.out)) hb); clear HB; have HO310 := n0_; have HB := n1_; clear n0_ n1_; (try clear hb); (try clear hb2); (try clear hk); (try clear hi); (try clear ho0)) | ((with_reducible refine gate_callee (f := 6) rfl ?_); refine goesL_ (some 6) rfl rfl Tryd.func6 (by kernel_rfl) rfl #[.agg #[.int .u64 0, .int .u64 0, .int .u64 0, .int .u64 0, .int .u64 0, .int .u64 0, .int .u64 0, .int .u64 0, .int .u64 0, .int .u64 1], .int .i64 768] rfl (by (try simp only [List.map_toArray, List.map_cons, List.map_nil]); first | done | rfl | (simp only [List.length_drop, List.length_take]; rfl)) ?_; (with_reducible refine (bounds_Broken.calls k 0 0 0 0 0 0 0 0 0 1 768 t311 _ A2.out).mono ?_); rintro e w9 ⟨v312, rfl, ho0, hb⟩; refine ⟨_, rfl, ?_⟩; have n0_ := Aside0.mk (Kd.R_elder' (by (with_reducible repeat (first | apply Kd.R_alloc | apply Kd.R_drewN | apply Kd.R_drew)); exact HO310.out) (Kd.R_base ho0) hb); have n1_ := Aside0.mk (Kd.R_lower (Kd.R_new' ho0 (Kd.R_lt (by (with_reducible repeat (first | apply Kd.R_alloc | apply Kd.R_drewN | apply Kd.R_drew)); exact HO310.out))) (below_size (by repeat (first | (with_reducible first | exact HB.out | apply below_alloc | apply pw_below_drewN | apply below_drew1) | exact HB.out)))); have n2_ := Aside0.mk (below_step (by repeat (first | (with_reducible first | exact HB.out | apply below_alloc | apply pw_below_drewN | apply below_drew1) | exact HB.out)) hb); clear HO310; clear HB; have HO310 := n0_; have HO313 := n1_; have HB := n2_; clear n0_ n1_ n2_; (try clear hb); (try clear hb2); (try clear hk); (try clear hi); (try clear ho0); obtain ⟨Ao10, co10, eo10⟩ := Kd.R_slice HO310.out; subst eo10; obtain ⟨Ao11, co11, eo11⟩ := Kd.R_slice HO313.out; subst eo11; have p314 : 0 ≤ (0 : Int) := (by omega); have q314 : 0 < (t311.length : Int) := of_decide_eq_true (by first | (with_reducible assumption) | assumption); obtain ⟨ad314, e314, hx314_0⟩ := Kd.at_int (Kd.R_reads' HO313.out).2.2 0 p314 q314; cases e314; have qi314 : (0 < t311.length) = True := eq_true (by omega); (try rw [show ((0 : Int)).toNat = 0 from rfl] at hx314_0); (try rw [Addr.add_zero'] at hx314_0); replace p314 := eq_true p314; replace q314 := eq_true q314) | (go_at_call 8; (with_reducible refine (bounds_Name.calls 9 t315 _ (MaxAt.below HM.out (by repeat (first | (with_reducible first | exact HB.out | apply below_alloc | apply pw_below_drewN | apply below_drew1) | exact HB.out))) A7.out).mono ?_); rintro e w12 ⟨rfl, hb⟩; have n0_ := Aside0.mk (Kd.R_below (by (with_reducible repeat (first | apply Kd.R_alloc | apply Kd.R_drewN | apply Kd.R_drew)); exact HO310.out) hb); have n1_ := Aside0.mk (Kd.R_below (by (with_reducible repeat (first | apply Kd.R_alloc | apply Kd.R_drewN | apply Kd.R_drew)); exact HO313.out) hb); have n2_ := Aside0.mk (below_step (by repeat (first | (with_reducible first | exact HB.out | apply below_alloc | apply pw_below_drewN | apply below_drew1) | exact HB.out)) hb); clear HO310; clear HO313; clear HB; have HO310 := n0_; have HO313 := n1_; have HB := n2_; clear n0_ n1_ n2_; (try clear hb); (try clear hb2); (try clear hk); (try clear hi)))
          go_ret
          exact ⟨by first | rfl | (simp [errW_none, errW_some] <;> rfl) | (simp [*, errW_none, errW_some] <;> rfl), by repeat (first | (with_reducible first | exact HB.out | apply below_alloc | apply pw_below_drewN | apply below_drew1) | exact HB.out)⟩
        · rw [if_neg c6] at H
          have c6b0 : ((rd t311 0) == 9) = false := beq_eq_false_iff_ne.mpr c6
          have c6b1 : ((rd t311 0) != 9) = true := bne_iff_ne.mpr c6
          obtain rfl := Option.some.inj H
          go_enter Tryd.func10, Tryd.ntmps10
          go_wp2_with (first | ((with_reducible refine gate_callee (f := 6) rfl ?_); refine goesL_ (some 4) rfl rfl Tryd.func6 (by kernel_rfl) rfl #[.agg #[.int .u64 0, .int .u64 0, .int .u64 0, .int .u64 0, .int .u64 0, .int .u64 0, .int .u64 0, .int .u64 0, .int .u64 0, .int .u64 0], .int .i64 0] rfl (by (try simp only [List.map_toArray, List.map_cons, List.map_nil]); first | done | rfl | (simp only [List.length_drop, List.length_take]; rfl)) ?_; (with_reducible refine (bounds_Broken.calls k 0 0 0 0 0 0 0 0 0 0 0 t308 _ A1.out).mono ?_); rintro e w13 ⟨v309, rfl, ho0, hb⟩; refine ⟨_, rfl, ?_⟩; have n0_ := Aside0.mk (Kd.R_lower ho0 (below_size (by repeat (first | (with_reducible first | exact HB.out | apply below_alloc | apply pw_below_drewN | apply below_drew1) | exact HB.out)))); have n1_ := Aside0.mk (below_step (by repeat (first | (with_reducible first | exact HB.out | apply below_alloc | apply pw_below_drewN | apply below_drew1) | exact HB.out)) hb); clear HB; have HO310 := n0_; have HB := n1_; clear n0_ n1_; (try clear hb); (try clear hb2); (try clear hk); (try clear hi); (try clear ho0)) | ((with_reducible refine gate_callee (f := 6) rfl ?_); refine goesL_ (some 6) rfl rfl Tryd.func6 (by kernel_rfl) rfl #[.agg #[.int .u64 0, .int .u64 0, .int .u64 0, .int .u64 0, .int .u64 0, .int .u64 0, .int .u64 0, .int .u64 0, .int .u64 0, .int .u64 1], .int .i64 768] rfl (by (try simp only [List.map_toArray, List.map_cons, List.map_nil]); first | done | rfl | (simp only [List.length_drop, List.length_take]; rfl)) ?_; (with_reducible refine (bounds_Broken.calls k 0 0 0 0 0 0 0 0 0 1 768 t311 _ A2.out).mono ?_); rintro e w14 ⟨v312, rfl, ho0, hb⟩; refine ⟨_, rfl, ?_⟩; have n0_ := Aside0.mk (Kd.R_elder' (by (with_reducible repeat (first | apply Kd.R_alloc | apply Kd.R_drewN | apply Kd.R_drew)); exact HO310.out) (Kd.R_base ho0) hb); have n1_ := Aside0.mk (Kd.R_lower (Kd.R_new' ho0 (Kd.R_lt (by (with_reducible repeat (first | apply Kd.R_alloc | apply Kd.R_drewN | apply Kd.R_drew)); exact HO310.out))) (below_size (by repeat (first | (with_reducible first | exact HB.out | apply below_alloc | apply pw_below_drewN | apply below_drew1) | exact HB.out)))); have n2_ := Aside0.mk (below_step (by repeat (first | (with_reducible first | exact HB.out | apply below_alloc | apply pw_below_drewN | apply below_drew1) | exact HB.out)) hb); clear HO310; clear HB; have HO310 := n0_; have HO313 := n1_; have HB := n2_; clear n0_ n1_ n2_; (try clear hb); (try clear hb2); (try clear hk); (try clear hi); (try clear ho0); obtain ⟨Ao15, co15, eo15⟩ := Kd.R_slice HO310.out; subst eo15; obtain ⟨Ao16, co16, eo16⟩ := Kd.R_slice HO313.out; subst eo16; have p314 : 0 ≤ (0 : Int) := (by omega); have q314 : 0 < (t311.length : Int) := of_decide_eq_true (by first | (with_reducible assumption) | assumption); obtain ⟨ad314, e314, hx314_0⟩ := Kd.at_int (Kd.R_reads' HO313.out).2.2 0 p314 q314; cases e314; have qi314 : (0 < t311.length) = True := eq_true (by omega); (try rw [show ((0 : Int)).toNat = 0 from rfl] at hx314_0); (try rw [Addr.add_zero'] at hx314_0); replace p314 := eq_true p314; replace q314 := eq_true q314))
          go_ret
          exact ⟨by first | rfl | (simp [errW_none, errW_some] <;> rfl) | (simp [*, errW_none, errW_some] <;> rfl), by repeat (first | (with_reducible first | exact HB.out | apply below_alloc | apply pw_below_drewN | apply below_drew1) | exact HB.out)⟩
      · rw [if_neg c5] at H
        exact absurd H (by simp)
    · rw [if_neg c4] at H
      have c4b0 : ((t311.length : Int) == 1) = false := beq_eq_false_iff_ne.mpr c4
      have c4b1 : ((t311.length : Int) != 1) = true := bne_iff_ne.mpr c4
      obtain rfl := Option.some.inj H
      go_enter Tryd.func10, Tryd.ntmps10
      go_wp2_with (first | ((with_reducible refine gate_callee (f := 6) rfl ?_); refine goesL_ (some 4) rfl rfl Tryd.func6 (by kernel_rfl) rfl #[.agg #[.int .u64 0, .int .u64 0, .int .u64 0, .int .u64 0, .int .u64 0, .int .u64 0, .int .u64 0, .int .u64 0, .int .u64 0, .int .u64 0], .int .i64 0] rfl (by (try simp only [List.map_toArray, List.map_cons, List.map_nil]); first | done | rfl | (simp only [List.length_drop, List.length_take]; rfl)) ?_; (with_reducible refine (bounds_Broken.calls k 0 0 0 0 0 0 0 0 0 0 0 t308 _ A1.out).mono ?_); rintro e w17 ⟨v309, rfl, ho0, hb⟩; refine ⟨_, rfl, ?_⟩; have n0_ := Aside0.mk (Kd.R_lower ho0 (below_size (by repeat (first | (with_reducible first | exact HB.out | apply below_alloc | apply pw_below_drewN | apply below_drew1) | exact HB.out)))); have n1_ := Aside0.mk (below_step (by repeat (first | (with_reducible first | exact HB.out | apply below_alloc | apply pw_below_drewN | apply below_drew1) | exact HB.out)) hb); clear HB; have HO310 := n0_; have HB := n1_; clear n0_ n1_; (try clear hb); (try clear hb2); (try clear hk); (try clear hi); (try clear ho0)) | ((with_reducible refine gate_callee (f := 6) rfl ?_); refine goesL_ (some 6) rfl rfl Tryd.func6 (by kernel_rfl) rfl #[.agg #[.int .u64 0, .int .u64 0, .int .u64 0, .int .u64 0, .int .u64 0, .int .u64 0, .int .u64 0, .int .u64 0, .int .u64 0, .int .u64 1], .int .i64 768] rfl (by (try simp only [List.map_toArray, List.map_cons, List.map_nil]); first | done | rfl | (simp only [List.length_drop, List.length_take]; rfl)) ?_; (with_reducible refine (bounds_Broken.calls k 0 0 0 0 0 0 0 0 0 1 768 t311 _ A2.out).mono ?_); rintro e w18 ⟨v312, rfl, ho0, hb⟩; refine ⟨_, rfl, ?_⟩; have n0_ := Aside0.mk (Kd.R_elder' (by (with_reducible repeat (first | apply Kd.R_alloc | apply Kd.R_drewN | apply Kd.R_drew)); exact HO310.out) (Kd.R_base ho0) hb); have n1_ := Aside0.mk (Kd.R_lower (Kd.R_new' ho0 (Kd.R_lt (by (with_reducible repeat (first | apply Kd.R_alloc | apply Kd.R_drewN | apply Kd.R_drew)); exact HO310.out))) (below_size (by repeat (first | (with_reducible first | exact HB.out | apply below_alloc | apply pw_below_drewN | apply below_drew1) | exact HB.out)))); have n2_ := Aside0.mk (below_step (by repeat (first | (with_reducible first | exact HB.out | apply below_alloc | apply pw_below_drewN | apply below_drew1) | exact HB.out)) hb); clear HO310; clear HB; have HO310 := n0_; have HO313 := n1_; have HB := n2_; clear n0_ n1_ n2_; (try clear hb); (try clear hb2); (try clear hk); (try clear hi); (try clear ho0); obtain ⟨Ao19, co19, eo19⟩ := Kd.R_slice HO310.out; subst eo19; obtain ⟨Ao20, co20, eo20⟩ := Kd.R_slice HO313.out; subst eo20))
      go_ret
      exact ⟨by first | rfl | (simp [errW_none, errW_some] <;> rfl) | (simp [*, errW_none, errW_some] <;> rfl), by repeat (first | (with_reducible first | exact HB.out | apply below_alloc | apply pw_below_drewN | apply below_drew1) | exact HB.out)⟩
  · rw [if_neg c3] at H
    have c3b0 : ((t308.length : Int) == 0) = false := beq_eq_false_iff_ne.mpr c3
    have c3b1 : ((t308.length : Int) != 0) = true := bne_iff_ne.mpr c3
    have c3b2 : ¬ (t308 = []) := fun h_ => c3 (by rw [h_]; rfl)
    obtain rfl := Option.some.inj H
    go_enter Tryd.func10, Tryd.ntmps10
    go_wp2_with (first | ((with_reducible refine gate_callee (f := 6) rfl ?_); refine goesL_ (some 4) rfl rfl Tryd.func6 (by kernel_rfl) rfl #[.agg #[.int .u64 0, .int .u64 0, .int .u64 0, .int .u64 0, .int .u64 0, .int .u64 0, .int .u64 0, .int .u64 0, .int .u64 0, .int .u64 0], .int .i64 0] rfl (by (try simp only [List.map_toArray, List.map_cons, List.map_nil]); first | done | rfl | (simp only [List.length_drop, List.length_take]; rfl)) ?_; (with_reducible refine (bounds_Broken.calls k 0 0 0 0 0 0 0 0 0 0 0 t308 _ A1.out).mono ?_); rintro e w21 ⟨v309, rfl, ho0, hb⟩; refine ⟨_, rfl, ?_⟩; have n0_ := Aside0.mk (Kd.R_lower ho0 (below_size (by repeat (first | (with_reducible first | exact HB.out | apply below_alloc | apply pw_below_drewN | apply below_drew1) | exact HB.out)))); have n1_ := Aside0.mk (below_step (by repeat (first | (with_reducible first | exact HB.out | apply below_alloc | apply pw_below_drewN | apply below_drew1) | exact HB.out)) hb); clear HB; have HO310 := n0_; have HB := n1_; clear n0_ n1_; (try clear hb); (try clear hb2); (try clear hk); (try clear hi); (try clear ho0)) | ((with_reducible refine gate_callee (f := 6) rfl ?_); refine goesL_ (some 6) rfl rfl Tryd.func6 (by kernel_rfl) rfl #[.agg #[.int .u64 0, .int .u64 0, .int .u64 0, .int .u64 0, .int .u64 0, .int .u64 0, .int .u64 0, .int .u64 0, .int .u64 0, .int .u64 1], .int .i64 768] rfl (by (try simp only [List.map_toArray, List.map_cons, List.map_nil]); first | done | rfl | (simp only [List.length_drop, List.length_take]; rfl)) ?_; (with_reducible refine (bounds_Broken.calls k 0 0 0 0 0 0 0 0 0 1 768 t311 _ A2.out).mono ?_); rintro e w22 ⟨v312, rfl, ho0, hb⟩; refine ⟨_, rfl, ?_⟩; have n0_ := Aside0.mk (Kd.R_elder' (by (with_reducible repeat (first | apply Kd.R_alloc | apply Kd.R_drewN | apply Kd.R_drew)); exact HO310.out) (Kd.R_base ho0) hb); have n1_ := Aside0.mk (Kd.R_lower (Kd.R_new' ho0 (Kd.R_lt (by (with_reducible repeat (first | apply Kd.R_alloc | apply Kd.R_drewN | apply Kd.R_drew)); exact HO310.out))) (below_size (by repeat (first | (with_reducible first | exact HB.out | apply below_alloc | apply pw_below_drewN | apply below_drew1) | exact HB.out)))); have n2_ := Aside0.mk (below_step (by repeat (first | (with_reducible first | exact HB.out | apply below_alloc | apply pw_below_drewN | apply below_drew1) | exact HB.out)) hb); clear HO310; clear HB; have HO310 := n0_; have HO313 := n1_; have HB := n2_; clear n0_ n1_ n2_; (try clear hb); (try clear hb2); (try clear hk); (try clear hi); (try clear ho0); obtain ⟨Ao23, co23, eo23⟩ := Kd.R_slice HO310.out; subst eo23))
    go_ret
    exact ⟨by first | rfl | (simp [errW_none, errW_some] <;> rfl) | (simp [*, errW_none, errW_some] <;> rfl), by repeat (first | (with_reducible first | exact HB.out | apply below_alloc | apply pw_below_drewN | apply below_drew1) | exact HB.out)⟩

end Go.Proofs.YthjgjfelbagljabDoor.PBoundsTells
