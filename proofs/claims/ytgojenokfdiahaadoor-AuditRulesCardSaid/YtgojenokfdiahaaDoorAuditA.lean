/- Walks over audit: Name, Rules; the reference's Name; alive. -/
import Derived.Test.YtgojenokfdiahaaDoorIterAC
import Derived.Test.YtgojenokfdiahaaDoorSplitLay
import Derived.Great.BuildSlice
import Derived.Laws.Rows
import Derived.Deep.DeepCutAuto
import Derived.Deep.CutBlock
import Derived.Sort.CutIn
attribute [local go_sem] Go.Oper.semAt_some
namespace Go.Proofs.YtgojenokfdiahaaDoor
open Go.RowKit Go.Shelf
namespace Aud
/-- internal/bytealg.MaxLen holds a number. -/
def MaxAt (w : World) : Prop := ∃ m, w.cell? ⟨0, 0, none⟩ = some (.int .i64 m)
theorem MaxAt.kept {F : Nat → Prop} {w w' : World} (h : MaxAt w) (hk : Kept F w w') (hF : ¬ F 0) : MaxAt w' := by
  obtain ⟨m, h⟩ := h
  exact ⟨m, (World.cell?_of_block (hk.block 0 (World.block_lt_of_cell? w _ h) hF)).trans h⟩
theorem MaxAt.lt {w : World} (h : MaxAt w) : 0 < w.heap.size := by
  obtain ⟨m, h⟩ := h
  exact World.block_lt_of_cell? w _ h
theorem MaxAt.below {w w' : World} (h : MaxAt w) (hb : Below w.heap.size w w') : MaxAt w' := h.kept (Kept.of_below hb (fun _ => False)) id
def namesB : ByteArray := ⟨#[32, 99, 111, 110, 102, 105, 103, 32, 112, 97, 103, 101, 115, 32, 116, 119, 105, 99, 101, 32, 114, 111, 119, 115, 32, 98, 111, 116, 116, 111, 109, 32, 104, 111, 116, 32, 107, 101, 112, 116, 32, 103, 111, 110, 101, 32, 104, 97, 110, 100, 115]⟩
def blankB : ByteArray := ⟨#[32]⟩
def piecesB : List ByteArray := [(⟨#[]⟩ : ByteArray), (⟨#[99, 111, 110, 102, 105, 103]⟩ : ByteArray), (⟨#[112, 97, 103, 101, 115]⟩ : ByteArray), (⟨#[116, 119, 105, 99, 101]⟩ : ByteArray), (⟨#[114, 111, 119, 115]⟩ : ByteArray), (⟨#[98, 111, 116, 116, 111, 109]⟩ : ByteArray), (⟨#[104, 111, 116]⟩ : ByteArray), (⟨#[107, 101, 112, 116]⟩ : ByteArray), (⟨#[103, 111, 110, 101]⟩ : ByteArray), (⟨#[104, 97, 110, 100, 115]⟩ : ByteArray)]
set_option maxRecDepth 100000 in
theorem names_count : Lib.countB namesB blankB = 9 := by decide +kernel
set_option maxRecDepth 100000 in
theorem names_split : Lib.splitB blankB 0 9 namesB = piecesB := by decide +kernel
/-- A rule's name. -/
def rule (n : Nat) : ByteArray := piecesB.getD n ByteArray.empty
set_option maxRecDepth 100000 in
set_option maxHeartbeats 1000000 in
theorem Name_calls (n : Nat) (hn1 : 1 ≤ n) (hn9 : n ≤ 9) (w : World) (hM : MaxAt w) :
    Calls Tryd.prog 8 #[.int .i64 n] w fun e w' => e = .returned (.string (rule n)) ∧ Below w.heap.size w w' := by
  obtain ⟨m, hm⟩ := hM
  have hS := Split_calls namesB blankB m w (by decide +kernel) hm (by decide +kernel)
  rw [names_count, names_split] at hS
  have HS := Lib.hid hS
  clear hS hm
  have hr : piecesB[n]? = some (rule n) := by
    have hlt : n < piecesB.length := by show n < 10; omega
    rw [List.getElem?_eq_getElem hlt]
    unfold rule
    rw [List.getD_eq_getElem?_getD, List.getElem?_eq_getElem hlt]
    rfl
  generalize rule n = r at hr ⊢
  have hc : (w.alloc (.cells (piecesB.map Value.string).toArray 9)).cell? ⟨w.heap.size, n, none⟩ = some (.string r) := by
    rw [(Blk.new w (piecesB.map Value.string).toArray 9).cell, ← Array.getElem?_toList]
    show (piecesB.map Value.string)[n]? = _
    rw [List.getElem?_map, hr]
    rfl
  have hB : Below w.heap.size w (w.alloc (.cells (piecesB.map Value.string).toArray 9)) := (Below.refl _ w).alloc (Nat.le_refl _) _
  have z0 : (0 : Int) ≤ (n : Int) := by omega
  have z1 : (n : Int) < 10 := by omega
  have z2 : ¬ (9 : Int) < (n : Int) := by omega
  have z3 : ¬ (n : Int) < 1 := by omega
  clear hr
  go_enter Tryd.func8, Tryd.ntmps8
  go_wp2_with fail
  refine HS.out.mono ?_
  rintro e w1 ⟨rfl, rfl⟩
  generalize w.alloc (.cells (piecesB.map Value.string).toArray 9) = w2 at hc hB ⊢
  go_wp2_with fail
  go_ret
  exact ⟨rfl, hB⟩
set_option maxRecDepth 100000 in
set_option maxHeartbeats 1000000 in
theorem RefName_calls (n : Nat) (hn1 : 1 ≤ n) (hn9 : n ≤ 9) (w : World) :
    Calls Tryd.prog 5 #[.int .i64 n] w fun e w' => e = .returned (.string (rule n)) ∧ Below w.heap.size w w' := by
  have hB : Below w.heap.size w (w.alloc (.cells (piecesB.map Value.string).toArray 9)) := (Below.refl _ w).alloc (Nat.le_refl _) _
  have hr : piecesB[n]? = some (rule n) := by
    have hlt : n < piecesB.length := by show n < 10; omega
    rw [List.getElem?_eq_getElem hlt]
    unfold rule
    rw [List.getD_eq_getElem?_getD, List.getElem?_eq_getElem hlt]
    rfl
  generalize rule n = r at hr ⊢
  have hc : (w.alloc (.cells (piecesB.map Value.string).toArray 9)).cell? ⟨w.heap.size, n, none⟩ = some (.string r) := by
    rw [(Blk.new w (piecesB.map Value.string).toArray 9).cell, ← Array.getElem?_toList]
    show (piecesB.map Value.string)[n]? = _
    rw [List.getElem?_map, hr]
    rfl
  have z0 : (0 : Int) ≤ (n : Int) := by omega
  have z1 : (n : Int) < 10 := by omega
  have z2 : ¬ (9 : Int) < (n : Int) := by omega
  have z3 : ¬ (n : Int) < 1 := by omega
  clear hr
  go_enter Tryd.func5, Tryd.ntmps5
  go_upto_region 2 with fail
  change Code.wp _ _ _ _ (w.alloc (.cells (piecesB.map Value.string).toArray 9))
  generalize w.alloc (.cells (piecesB.map Value.string).toArray 9) = w2 at hc hB ⊢
  go_wp2_with fail
  go_ret
  exact ⟨rfl, hB⟩
set_option maxRecDepth 100000 in
/-- A config that has nothing may not be. -/
theorem Check_zero (w : World) : Calls Tryd.prog 11 #[.agg #[.int .i64 0, .int .i64 0, .int .i64 0, .int .i64 0]] w fun e w' => e = .returned (.int .i64 2) ∧ Below w.heap.size w w' := by
  have B1 := Blk.new w #[.int .i64 0, .int .i64 0, .int .i64 0, .int .i64 0] 34
  have b0 := B1.cell 0
  have b1 := B1.cell 1
  have b2 := B1.cell 2
  have b3 := B1.cell 3
  simp at b0 b1 b2 b3
  go_enter Tryd.func11, Tryd.ntmps11
  go_wp2_with fail
  go_ret
  exact ⟨rfl, (Below.refl _ w).alloc (Nat.le_refl _) _⟩
def zeroSt : Array Value := #[.int .i64 0, .int .i64 0, .int .i64 0, .int .i64 0, .int .i64 0, .slice none 0 0, .slice none 0 0, .slice none 0 0, .int .i64 0, .int .i64 0,
  .int .u64 0, .int .u64 0, .int .u64 0, .int .u64 0, .int .u64 0, .int .u64 0, .int .u64 0, .int .u64 0, .int .u64 0, .int .u64 0]
set_option maxRecDepth 100000 in
theorem Broken_zero (w : World) : Calls Tryd.prog 9 #[.agg zeroSt] w fun e w' => ∃ b, e = .returned (.slice (some ⟨b, 0, none⟩) 1 1) ∧ w'.cell? ⟨b, 0, none⟩ = some (.int .i64 1) ∧ Below w.heap.size w w' := by
  go_enter Tryd.func9, Tryd.ntmps9
  go_upto_region 1 with fail
  have B1 := Blk.new w zeroSt 41
  have H1 : Below w.heap.size w (w.alloc (.cells zeroSt 41)) := (Below.refl _ w).alloc (Nat.le_refl _) _
  generalize w.alloc (.cells zeroSt 41) = w1 at B1 H1 ⊢
  generalize hNN : w.heap.size = N at B1 H1 ⊢
  have b0 : w1.cell? ⟨N, 0, none⟩ = some (.int .i64 0) := (B1.cell 0).trans rfl
  have b1 : w1.cell? ⟨N, 1, none⟩ = some (.int .i64 0) := (B1.cell 1).trans rfl
  have b2 : w1.cell? ⟨N, 2, none⟩ = some (.int .i64 0) := (B1.cell 2).trans rfl
  have b3 : w1.cell? ⟨N, 3, none⟩ = some (.int .i64 0) := (B1.cell 3).trans rfl
  have hN : N ≤ w1.heap.size := Nat.le_of_lt B1.lt
  go_upto_region 2 with (go_at_call 11; refine (Check_zero _).mono ?_; rintro e w2 ⟨rfl, hb2⟩; have H2 := Lib.hid (H1.trans (hb2.mono hN)); have S2 := Lib.hid (Nat.le_trans hN hb2.size); clear hb2)
  go_wp2_with fail
  go_ret
  exact ⟨_, rfl, ((Blk.new _ _ _).cell 0).trans rfl, by rw [hNN]; exact H2.out.alloc S2.out _⟩
set_option maxRecDepth 100000 in
theorem alive_calls (w : World) (hM : MaxAt w) : Calls Tryd.prog 6 #[] w fun e w' => e = .returned (.bool true) ∧ Below w.heap.size w w' := by
  have HM := Lib.hid hM
  clear hM
  go_enter Tryd.func6, Tryd.ntmps6
  go_upto_region 1 with fail
  refine wp_region_lit ?_
  refine wpList_buildTo rfl 41 #[] rfl (some 2) rfl zeroSt (by kernel_rfl) ?_
  go_upto_region 2 with (go_at_call 9; refine (Broken_zero w).mono ?_; rintro e w1 ⟨b, rfl, hc, hb⟩)
  have H1 := Lib.hid hb
  have M1 := Lib.hid (HM.out.below hb)
  have N1 := Lib.hid (Name_calls 1 (by decide) (by decide) w1 M1.out)
  clear hb
  have r1 : rule 1 = ⟨#[99, 111, 110, 102, 105, 103]⟩ := rfl
  have r9 : rule 9 = ⟨#[104, 97, 110, 100, 115]⟩ := rfl
  rw [r1] at N1
  have N9 := Lib.hid (fun w2 (h : MaxAt w2) => Name_calls 9 (by decide) (by decide) w2 h)
  rw [r9] at N9
  clear r1 r9
  go_wp2_with (first | (go_at_call 8; refine N1.out.mono ?_; clear N1; rintro e w2 ⟨rfl, hb2⟩; have H2 := Lib.hid (H1.out.trans (hb2.mono H1.out.size)); have M2 := Lib.hid (M1.out.below hb2); clear hb2) | (go_at_call 8; refine (N9.out _ M2.out).mono ?_; rintro e w3 ⟨rfl, hb3⟩; have H3 := Lib.hid (H2.out.trans (hb3.mono H2.out.size)); clear hb3))
  go_ret
  exact ⟨rfl, H3.out⟩
end Aud
end Go.Proofs.YtgojenokfdiahaaDoor
