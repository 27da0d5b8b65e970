/- The law ChainPlays: its functions neighbours and lists. The law ChainPlays: hutchref04.Of, and lists. The law ChainPlays: step. The law ChainPlays: step, where a node is put in behind another one, or removed. The law ChainPlays: step of every kind; the reference's new chains. The walk of the law ChainPlays. -/
import Derived.Test.YthjgjfelbagljaaRefChains
import Derived.Test.YthjgjfelbagljaaTurned
import Derived.Test.YthjgjfelbagljaaNodesW
import Derived.Deep.RegionHeld3
namespace Go.Proofs.Ythjgjfelbagljaa
open Go.RowKit Go.Proofs.YthjgjfelbagljaaW.PrintWords Go.Proofs.YthjgjfelbagljaaW.PrintLast Go.Proofs.YthjgjfelbagljaaW.PrintMore Go.Proofs.Ythjgjfelbagljaa.PChainPlays
namespace Ref04
open Chain (Inv St At nth nth_lt nth_ge)

/-- rv reads as the reference's lists. -/
def RefAt (w : World) (rv : Value) (ls : List (List Int)) : Prop := ∃ A c, rv = .slice A (rows ls).length c ∧ (rows ls).length ≤ c ∧ Kd.C k98 w A (rows ls).length (rows ls)
theorem RefAt.below {w w' : World} {rv : Value} {ls : List (List Int)} (h : RefAt w rv ls) (hb : Below w.heap.size w w') : RefAt w' rv ls := by
  obtain ⟨A, c, e, hl, hc⟩ := h
  exact ⟨A, c, e, hl, Kd.C_below hc hb⟩
theorem RefAt.calm {w w' : World} {rv : Value} {ls : List (List Int)} (h : RefAt w rv ls) (hk : Calm w w') : RefAt w' rv ls := h.below (Kept.below hk (fun _ _ h => h))
/-- One of the lists. -/
theorem RefAt.row {w : World} {A : Option Addr} {n c : Nat} {ls : List (List Int)} (h : RefAt w (.slice A n c) ls) {i : Nat} (hi : i < ls.length) :
    ∃ ad A0 c0, A = some ad ∧ w.cell? (ad.add i) = some (.slice A0 (ls.getD i []).length c0) ∧ (ls.getD i []).length ≤ c0 ∧ (Kd.int .i32).C w A0 (ls.getD i []).length (ls.getD i []) := by
  obtain ⟨A', c', e, hl, hc⟩ := h
  injection e with e1 e2 e3
  subst e1
  obtain ⟨ad, A0, c0, e, h1, h2, h3⟩ := at_T98 hc (i : Int) (by omega) (by rw [rows_length]; omega)
  rw [rows_get, Int.toNat_natCast] at h1
  rw [rows_get] at h2 h3
  exact ⟨ad, A0, c0, e, h1, h2, h3⟩
theorem C_cells {k : IntKind} {w : World} {A : Option Addr} {xs : List Int} (h : (Kd.int k).C w A xs.length xs) (hx : 0 < xs.length) : ∃ ad, A = some ad ∧ ∀ i, i < xs.length → w.cell? (ad.add i) = some (.int k (xs.getD i 0)) := by
  have hr := Kd.reads_of_C (enc := Value.int k) (d := (0 : Int)) (h1 := fun _ => rfl) h
  exact hr.2.2 hx
theorem getD_reverse0 {A : List Int} (h : 0 < A.length) : A.reverse.getD 0 0 = A.getD (A.length - 1) 0 := by
  rw [List.getD_eq_getElem?_getD, List.getD_eq_getElem?_getD, List.getElem?_reverse (by omega)]
  rfl
theorem prev_val {s : St} {ls : List (List Int)} (h : Inv s ls) {j : Nat} (hj : j < ls.length) {A B : List Int} {n : Int} (hAB : ls.getD j [] = A ++ n :: B) :
    s.prev n = if 0 < A.length then ((ls.getD j []).getD (A.length - 1) 0, true) else (0, false) := by
  rw [h.prev_eq hj hAB]
  by_cases h0 : 0 < A.length
  · rw [if_pos h0, nth_lt (by rw [List.length_reverse]; exact h0), getD_reverse0 h0, hAB, List.getD_eq_getElem?_getD, List.getD_eq_getElem?_getD, List.getElem?_append_left (by omega)]
  · rw [if_neg h0, nth_ge (by rw [List.length_reverse]; omega)]
theorem next_val {s : St} {ls : List (List Int)} (h : Inv s ls) {j : Nat} (hj : j < ls.length) {A B : List Int} {n : Int} (hAB : ls.getD j [] = A ++ n :: B) :
    s.next n = if A.length + 1 < (ls.getD j []).length then ((ls.getD j []).getD (A.length + 1) 0, true) else (0, false) := by
  rw [h.next_eq hj hAB]
  have hl : (ls.getD j []).length = A.length + 1 + B.length := by rw [hAB]; simp; omega
  by_cases h0 : 0 < B.length
  · rw [if_pos (by omega), nth_lt h0, hAB, List.getD_eq_getElem?_getD, List.getD_eq_getElem?_getD, List.getElem?_append_right (by omega), show A.length + 1 - A.length = 0 + 1 by omega, List.getElem?_cons_succ]
  · rw [if_neg (by omega), nth_ge (by omega)]

set_option maxRecDepth 100000 in
set_option maxHeartbeats 1000000 in
theorem neighbours_calls (w : World) (b b1 b2 : Nat) (s : St) (ls : List (List Int)) (n : Int) (rv : Value) (hs : At w b b1 b2 s) (h : Inv s ls) (hf : Few ls) (hr : RefAt w rv ls) (hw : n < 2147483648) :
    Calls Try.prog 32 #[.pointer (some ⟨b, 0, none⟩), .agg #[.int .i64 (s.links.length : Int), rv], .int .i32 n] w fun e w' => e = .returned (.bool true) ∧ Below w.heap.size w w' := by
  have h8 : ∀ i, (s.lk i).list ≤ 8 := fun i => (h.valid.mark i).2
  obtain ⟨A, c, rfl, hl, hc⟩ := hr
  by_cases hin : ∃ j : Nat, j < ls.length ∧ n ∈ ls.getD j []
  · obtain ⟨j, hj, hm⟩ := hin
    obtain ⟨P, B, K, hAB, hK⟩ := place_in h hf (s.links.length : Int) hj hm
    have HP := Lib.hid (fun W hW => hutchref04_Place.calls K (s.links.length : Int) A c (rows ls) n _ _ W hW hl hK)
    have hR : RefAt w (.slice A (rows ls).length c) ls := ⟨A, c, rfl, hl, hc⟩
    obtain ⟨ad, A0, c0, hAd, hcl, hl0, hC0⟩ := hR.row hj
    subst hAd
    obtain ⟨ad2, hA2, hcells⟩ := C_cells hC0 (by have := List.length_pos_of_mem hm; omega)
    subst hA2
    have e1 : s.list n = ((j : Int), true) := h.list_eq hj hAB
    have e2 := prev_val h hj hAB
    have e3 := next_val h hj hAB
    have hlen := hf.len j hj
    have hlP : (ls.getD j []).length = P.length + 1 + B.length := by rw [hAB]; simp; omega
    have h8 := hf.many
    have hrl : (rows ls).length = ls.length := rows_length ls
    have hj2 : (j : Int) < ((rows ls).length : Int) := by omega
    have hkl : P.length < (ls.getD j []).length := by omega
    have HC := Lib.hid hc
    have H8 := Lib.hid (fun i => (h.valid.mark i).2)
    have hlr : ((rows ls).length : Int) ≤ 8 := by omega
    clear hK hc hR hlP hAB h hf hm hC0
    generalize ls.getD j [] = LL at *
    generalize P.length = kk at *
    have E1 := Lib.hid e1
    have E2 := Lib.hid e2
    have E3 := Lib.hid e3
    have HCE := Lib.hid hcells
    have HCL := Lib.hid hcl
    clear hcells hcl e1 e2 e3 hrl h8 hj
    go_enter Try.func32, Try.ntmps32
    go_wp2_with fail
    refine (HP.out _ (Kd.C_alloc HC.out _)).mono ?_
    rintro e w1 ⟨rfl, hb1⟩
    have hK1 : Calm w w1 := ((Kept.refl _ _).alloc _).trans (Kept.of_below hb1 _)
    have hs1 : At w1 b b1 b2 s := hs.calm hK1
    have hBk : Blk w1 w.heap.size #[.int .i64 (s.links.length : Int), .slice (some ad) (rows ls).length c] := (Blk.new w _ 63).calm (Kept.of_below hb1 _)
    have gb := (hBk.cell 1).trans rfl
    have g1 := cell_kept' hK1 HCL.out id
    have g2 : ∀ i, i < LL.length → w1.cell? (ad2.add i) = some (.int .i32 (LL.getD i 0)) := fun i hi => cell_kept' hK1 (HCE.out i hi) id
    have l1 := Chain.List_calls w1 b b1 b2 s n hs1 hw H8.out
    rw [E1.out] at l1
    have l2 := Chain.Prev_calls w1 b b1 b2 s n hs1 hw
    rw [E2.out] at l2
    have l3 := Chain.Next_calls w1 b b1 b2 s n hs1 hw
    rw [E3.out] at l3
    have z0 : ¬ ((j : Int) < 0) := by omega
    have z1 : (kk : Int) < (LL.length : Int) := by omega
    by_cases hp : 0 < kk <;> by_cases hq : kk + 1 < LL.length
    · rw [if_pos hp] at l2
      rw [if_pos hq] at l3
      have g3 := g2 (kk - 1) (by omega)
      have q1 : IntKind.i64.wrap ((kk : Int) - 1) = ((kk - 1 : Nat) : Int) := by rw [IntKind.wrap_i64]; omega
      have q2 : (0 : Int) < (kk : Int) := by omega
      have q3 : ((kk - 1 : Nat) : Int) < (LL.length : Int) := by omega
      have z2 : IntKind.i64.wrap ((kk : Int) + 1) = ((kk + 1 : Nat) : Int) := by rw [IntKind.wrap_i64]; omega
      have g4 := g2 (kk + 1) (by omega)
      have q4 : ((kk + 1 : Nat) : Int) < (LL.length : Int) := by omega
      have L1 := Lib.hid l1
      have L2 := Lib.hid l2
      have L3 := Lib.hid l3
      clear l1 l2 l3 g2 hp hq
      generalize LL.getD (kk - 1) 0 = y1 at L2 g3
      generalize kk - 1 = k1 at g3 q1 q3
      generalize LL.getD (kk + 1) 0 = y2 at L3 g4
      generalize kk + 1 = k2 at g4 z2 q4
      go_wp2_with (first
        | (go_at_call 38; refine L1.out.mono ?_; rintro e w' ⟨rfl, rfl⟩)
        | (go_at_call 37; refine L2.out.mono ?_; rintro e w' ⟨rfl, rfl⟩)
        | (go_at_call 36; refine L3.out.mono ?_; rintro e w' ⟨rfl, rfl⟩))
      go_ret
      exact ⟨rfl, hK1.below⟩
    · rw [if_pos hp] at l2
      rw [if_neg hq] at l3
      have g3 := g2 (kk - 1) (by omega)
      have q1 : IntKind.i64.wrap ((kk : Int) - 1) = ((kk - 1 : Nat) : Int) := by rw [IntKind.wrap_i64]; omega
      have q2 : (0 : Int) < (kk : Int) := by omega
      have q3 : ((kk - 1 : Nat) : Int) < (LL.length : Int) := by omega
      have z2 : IntKind.i64.wrap ((kk : Int) + 1) = ((kk + 1 : Nat) : Int) := by rw [IntKind.wrap_i64]; omega
      have q4 : ¬ ((kk + 1 : Nat) : Int) < (LL.length : Int) := by omega
      have L1 := Lib.hid l1
      have L2 := Lib.hid l2
      have L3 := Lib.hid l3
      clear l1 l2 l3 g2 hp hq
      generalize LL.getD (kk - 1) 0 = y1 at L2 g3
      generalize kk - 1 = k1 at g3 q1 q3
      generalize kk + 1 = k2 at  z2 q4
      go_wp2_with (first
        | (go_at_call 38; refine L1.out.mono ?_; rintro e w' ⟨rfl, rfl⟩)
        | (go_at_call 37; refine L2.out.mono ?_; rintro e w' ⟨rfl, rfl⟩)
        | (go_at_call 36; refine L3.out.mono ?_; rintro e w' ⟨rfl, rfl⟩))
      go_ret
      exact ⟨rfl, hK1.below⟩
    · rw [if_neg hp] at l2
      rw [if_pos hq] at l3
      obtain rfl : kk = 0 := by omega
      have g4 := g2 (1) (by omega)
      have q4 : (1 : Int) < (LL.length : Int) := by omega
      have L1 := Lib.hid l1
      have L2 := Lib.hid l2
      have L3 := Lib.hid l3
      clear l1 l2 l3 g2 hp hq
      simp only [Nat.zero_add] at L3
      generalize LL.getD 1 0 = y2 at g4 L3
      have g5 : w1.cell? ⟨ad2.block, ad2.off + 1, none⟩ = some (.int .i32 y2) := g4
      go_wp2_with (first
        | (go_at_call 38; refine L1.out.mono ?_; rintro e w' ⟨rfl, rfl⟩)
        | (go_at_call 37; refine L2.out.mono ?_; rintro e w' ⟨rfl, rfl⟩)
        | (go_at_call 36; refine L3.out.mono ?_; rintro e w' ⟨rfl, rfl⟩))
      go_ret
      exact ⟨rfl, hK1.below⟩
    · rw [if_neg hp] at l2
      rw [if_neg hq] at l3
      obtain rfl : kk = 0 := by omega
      have q4 : ¬ (1 : Int) < (LL.length : Int) := by omega
      have L1 := Lib.hid l1
      have L2 := Lib.hid l2
      have L3 := Lib.hid l3
      clear l1 l2 l3 g2 hp hq
      go_wp2_with (first
        | (go_at_call 38; refine L1.out.mono ?_; rintro e w' ⟨rfl, rfl⟩)
        | (go_at_call 37; refine L2.out.mono ?_; rintro e w' ⟨rfl, rfl⟩)
        | (go_at_call 36; refine L3.out.mono ?_; rintro e w' ⟨rfl, rfl⟩))
      go_ret
      exact ⟨rfl, hK1.below⟩
  · obtain ⟨K, hK⟩ := place_free h hf (s.links.length : Int) n hin
    have hst : ¬ s.stands n := fun h' => hin ((h.stands_iff n).1 h')
    have HP := Lib.hid (fun W hW => hutchref04_Place.calls K (s.links.length : Int) A c (rows ls) n (-1) (-1) W hW hl hK)
    have e1 : s.list n = (0, false) := if_neg hst
    have e2 : s.prev n = (0, false) := if_neg hst
    have e3 : s.next n = (0, false) := if_neg hst
    have HC := Lib.hid hc
    have H8 := Lib.hid h8
    clear hK hc h8 hin hst h hf
    go_enter Try.func32, Try.ntmps32
    go_wp2_with fail
    refine (HP.out _ (Kd.C_alloc HC.out _)).mono ?_
    rintro e w1 ⟨rfl, hb1⟩
    have hs1 : At w1 b b1 b2 s := (hs.calm ((Kept.refl _ _).alloc _)).calm (Kept.of_below hb1 _)
    have l1 := Chain.List_calls w1 b b1 b2 s n hs1 hw H8.out
    rw [e1] at l1
    have l2 := Chain.Prev_calls w1 b b1 b2 s n hs1 hw
    rw [e2] at l2
    have l3 := Chain.Next_calls w1 b b1 b2 s n hs1 hw
    rw [e3] at l3
    have L1 := Lib.hid l1
    have L2 := Lib.hid l2
    have L3 := Lib.hid l3
    clear l1 l2 l3 e1 e2 e3
    go_wp2_with (first
      | (go_at_call 38; refine L1.out.mono ?_; rintro e w' ⟨rfl, rfl⟩)
      | (go_at_call 37; refine L2.out.mono ?_; rintro e w' ⟨rfl, rfl⟩)
      | (go_at_call 36; refine L3.out.mono ?_; rintro e w' ⟨rfl, rfl⟩))
    go_ret
    exact ⟨rfl, (((Kept.refl (fun _ => False) w).alloc _).trans (Kept.of_below hb1 _)).below (fun _ _ h => h)⟩
end Ref04
end Go.Proofs.Ythjgjfelbagljaa
namespace Go.Proofs.Ythjgjfelbagljaa
open Go.RowKit Go.Proofs.YthjgjfelbagljaaW.PrintWords Go.Proofs.YthjgjfelbagljaaW.PrintLast Go.Proofs.YthjgjfelbagljaaW.PrintMore Go.Proofs.Ythjgjfelbagljaa.PChainPlays
namespace Ref04
open Chain (Inv St At nth nth_lt nth_ge)

/-- The list of a number; none, if there is none. -/
def ofL (ls : List (List Int)) (i : Int) : List Int := if 0 ≤ i ∧ i < ls.length then ls.getD i.toNat [] else []
set_option maxRecDepth 100000 in
set_option maxHeartbeats 1000000 in
theorem Of_calls (w : World) (ls : List (List Int)) (i nodes : Int) (rv : Value) (h8 : (ls.length : Int) ≤ 8) (hr : RefAt w rv ls) :
    Calls Try.prog 54 #[.agg #[.int .i64 nodes, rv], .int .i64 i] w fun e w' => ∃ A c, e = .returned (.slice A (ofL ls i).length c) ∧ (ofL ls i).length ≤ c ∧ (Kd.int .i32).C w' A (ofL ls i).length (ofL ls i) ∧ Calm w w' := by
  obtain ⟨A, c, rfl, hl, hc⟩ := hr
  have hrl : (rows ls).length = ls.length := rows_length ls
  by_cases hi : 0 ≤ i ∧ i < ls.length
  · have eL : ofL ls i = ls.getD i.toNat [] := if_pos hi
    obtain ⟨j, rfl⟩ : ∃ j : Nat, i = (j : Int) := ⟨i.toNat, by omega⟩
    rw [eL, Int.toNat_natCast]
    have hj : j < ls.length := by omega
    have hR : RefAt w (.slice A (rows ls).length c) ls := ⟨A, c, rfl, hl, hc⟩
    obtain ⟨ad, A0, c0, hAd, hcl, hl0, hC0⟩ := hR.row hj
    subst hAd
    have g1 : (w.alloc (.cells #[.int .i64 nodes, .slice (some ad) (rows ls).length c] 63)).cell? (ad.add j) = some (.slice A0 (ls.getD j []).length c0) := cell_kept' ((Kept.refl (fun _ => False) w).alloc _) hcl id
    have HC0 := Lib.hid hC0
    have q1 : (j : Int) < ((rows ls).length : Int) := by omega
    have q2 : ((rows ls).length : Int) ≤ 8 := by omega
    have q3 : ¬ (j : Int) < 0 := by omega
    clear hR hC0 hcl hc eL hi hrl h8 hj
    generalize ls.getD j [] = LL at *
    go_enter Try.func54, Try.ntmps54
    go_wp2_with fail
    go_ret
    exact ⟨_, _, rfl, hl0, Kd.C_alloc HC0.out _, (Kept.refl _ w).alloc _⟩
  · have eL : ofL ls i = [] := if_neg hi
    rw [eL]
    clear eL hc
    by_cases h0 : i < 0
    · clear hi
      go_enter Try.func54, Try.ntmps54
      go_wp2_with fail
      go_ret
      first | exact ⟨none, 0, rfl, Nat.le_refl _, Kd.C_nil _ _, (Kept.refl _ w).alloc _⟩ | exact ⟨none, ⟨0, rfl⟩, Kd.C_nil _ _, (Kept.refl _ w).alloc _⟩
    · have q1 : ((rows ls).length : Int) ≤ i := by omega
      have q2 : ((rows ls).length : Int) ≤ 8 := by omega
      clear hi hrl h8
      go_enter Try.func54, Try.ntmps54
      go_wp2_with fail
      go_ret
      first | exact ⟨none, 0, rfl, Nat.le_refl _, Kd.C_nil _ _, (Kept.refl _ w).alloc _⟩ | exact ⟨none, ⟨0, rfl⟩, Kd.C_nil _ _, (Kept.refl _ w).alloc _⟩

theorem ints_of_C {w : World} {ad : Addr} {c : Nat} {xs : List Int} (h : (Kd.int .i32).C w (some ad) xs.length xs) (hl : xs.length ≤ c) : IntsW .i32 w (.slice (some ad) xs.length c) xs := by
  refine ⟨_, c, rfl, hl, ?_⟩
  by_cases h0 : 0 < xs.length
  · obtain ⟨ad', e, hc⟩ := C_cells h h0
    exact .inr ⟨ad', e, hc⟩
  · exact .inl (List.eq_nil_of_length_eq_zero (by omega))
/-- What the chain tells of a list. -/
structure Tells (s : St) (i : Int) (L : List Int) : Prop where
  first : s.first i = nth L 0
  last : s.last i = nth L.reverse 0
  len : s.len i = L.length
  way : Chain.Way (s.first i) s.next L
  back : Chain.Way (s.last i) s.prev L.reverse
  few : (L.length : Int) ≤ 1000
theorem tells {s : St} {ls : List (List Int)} (h : Inv s ls) (hf : Few ls) (i : Int) : Tells s i (ofL ls i) := by
  unfold ofL
  by_cases hi : 0 ≤ i ∧ i < ls.length
  · rw [if_pos hi]
    obtain ⟨j, rfl⟩ : ∃ j : Nat, i = (j : Int) := ⟨i.toNat, by omega⟩
    have hj : j < ls.length := by omega
    rw [Int.toNat_natCast]
    exact ⟨h.first_eq hj, h.last_eq hj, h.len_eq hj, h.way hj, h.way_back hj, hf.len j hj⟩
  · rw [if_neg hi]
    have hno : ¬ s.hasList i := fun h' => hi ⟨h'.1, by have := h'.2; have := h.len; omega⟩
    have e1 := Chain.first_out hno
    have e2 := Chain.last_out hno
    refine ⟨e1, e2, if_neg hno, ?_, ?_, by simp⟩
    · rw [e1]; exact Chain.Way.nil
    · rw [e2]; exact Chain.Way.nil

set_option maxRecDepth 100000 in
set_option maxHeartbeats 2000000 in
theorem lists_calls (w : World) (b b1 b2 : Nat) (s : St) (ls : List (List Int)) (i : Int) (rv : Value) (hs : At w b b1 b2 s) (h : Inv s ls) (hf : Few ls) (hr : RefAt w rv ls) :
    Calls Try.prog 33 #[.pointer (some ⟨b, 0, none⟩), .agg #[.int .i64 (s.links.length : Int), rv], .int .i64 i] w fun e w' => e = .returned (.bool true) ∧ Below w.heap.size w w' := by
  have ht := tells h hf i
  have HO := Lib.hid (fun W (hW : RefAt W rv ls) => Of_calls W ls i (s.links.length : Int) rv hf.many hW)
  have HR := Lib.hid hr
  have HT := Lib.hid ht
  clear ht h hf hr
  go_enter Try.func33, Try.ntmps33
  go_wp2_with fail
  refine (HO.out _ (HR.out.calm ((Kept.refl _ _).alloc _))).mono ?_
  rintro e w1 ⟨A, c, rfl, hl, hC, hk1⟩
  have K1 : Calm w w1 := ((Kept.refl _ w).alloc _).trans hk1
  have hs1 : At w1 b b1 b2 s := hs.calm K1
  have l1 := Chain.First_calls w1 b b1 b2 s i hs1
  have l2 := Chain.Last_calls w1 b b1 b2 s i hs1
  have l3 := Chain.Len_calls w1 b b1 b2 s i hs1
  rw [HT.out.first] at l1
  rw [HT.out.last] at l2
  rw [HT.out.len] at l3
  have hfew := HT.out.few
  generalize ofL ls i = L at *
  have HCL := Lib.hid hC
  by_cases h0 : 0 < L.length
  · obtain ⟨ad2, hA, hcells⟩ := C_cells hC h0
    have g1 : w1.cell? ad2 = some (.int .i32 (L.getD 0 0)) := hcells 0 h0
    have g2 := hcells (L.length - 1) (by omega)
    rw [nth_lt h0] at l1
    rw [nth_lt (by rw [List.length_reverse]; exact h0), getD_reverse0 h0] at l2
    have q1 : (0 : Int) < (L.length : Int) := by omega
    have q2 : IntKind.i64.wrap ((L.length : Int) - 1) = ((L.length - 1 : Nat) : Int) := by rw [IntKind.wrap_i64]; omega
    have q3 : ((L.length - 1 : Nat) : Int) < (L.length : Int) := by omega
    have L1 := Lib.hid l1
    have L2 := Lib.hid l2
    have L3 := Lib.hid l3
    clear l1 l2 l3 hcells hC h0
    generalize L.getD 0 0 = y1 at g1 L1
    generalize L.getD (L.length - 1) 0 = y2 at g2 L2
    generalize L.length - 1 = k1 at g2 q2 q3
    subst hA
    go_wp2_with (first
      | (go_at_call 34; refine L1.out.mono ?_; rintro e w' ⟨rfl, rfl⟩)
      | (go_at_call 35; refine L2.out.mono ?_; rintro e w' ⟨rfl, rfl⟩)
      | (go_at_call 26; refine L3.out.mono ?_; rintro e w' ⟨rfl, rfl⟩)
      | (go_at_call 19; fail))
    have T0 := Chain.told_at i 1000 L hs1 HT.out.way (by decide)
    rw [List.take_of_length_le (show L.length ≤ 1000 by omega)] at T0
    have HT0 := Lib.hid T0
    clear T0
    refine HT0.out.mono ?_
    rintro e w2 ⟨v2, rfl, hr2, hb2⟩
    have hs2 : At w2 b b1 b2 s := hs1.calm (Kept.of_below hb2 _)
    have T1 := Chain.back_at i 1000 L.reverse hs2 HT.out.back (by decide)
    rw [List.take_of_length_le (show L.reverse.length ≤ 1000 by rw [List.length_reverse]; omega)] at T1
    have HT1 := Lib.hid T1
    have HI2 := Lib.hid (Ints.of_owns hr2)
    clear T1 hr2
    go_wp2_with fail
    refine HT1.out.mono ?_
    rintro e w3 ⟨v3, rfl, hr3, hb3⟩
    have HI3 := Lib.hid (Ints.of_owns hr3)
    have hC3 := Kd.C_below (Kd.C_below HCL.out hb2) hb3
    have HIL := Lib.hid (ints_of_C hC3 hl)
    have HTu := Lib.hid (Ref04.Turned_calls w3 (some ad2) c L hC3 hl (by omega))
    have HC3 := Lib.hid hC3
    clear hr3 hC3
    go_wp2_with fail
    refine (Ref04.NodesW_calls w3 _ _ L L (HI2.out.below hb3).w HIL.out (by omega) (by omega)).mono ?_
    rw [decide_eq_true rfl]
    rintro e w' ⟨rfl, n1, rfl⟩
    have HTv := Lib.hid (Ref04.Turned_calls (w3.drewN n1) (some ad2) c L (Kd.C_drewN HC3.out n1) hl (by omega))
    clear HTu
    go_wp2_with fail
    refine HTv.out.mono ?_
    rintro e w4 ⟨v4, rfl, hr4, hb4⟩
    have HI4 := Lib.hid (Ints.of_owns hr4)
    have k34 : Calm w3 w4 := ((Kept.refl (fun _ => False) w3).drewN n1).trans (Kept.of_below hb4 _)
    clear hr4
    go_wp2_with fail
    refine (Ref04.Nodes_calls w4 _ _ L.reverse L.reverse (HI3.out.calm k34) HI4.out (by rw [List.length_reverse]; omega) (by rw [List.length_reverse]; omega)).mono ?_
    rw [decide_eq_true rfl]
    rintro e w' ⟨rfl, n2, rfl⟩
    go_wp2_with fail
    go_ret
    exact ⟨rfl, ((((K1.trans (Kept.of_below hb2 _)).trans (Kept.of_below hb3 _)).trans k34).drewN n2).below (fun _ _ h => h)⟩
  · obtain rfl : L = [] := List.eq_nil_of_length_eq_zero (by omega)
    have l1' : Calls Try.prog 34 #[.pointer (some ⟨b, 0, none⟩), .int .i64 i] w1 fun e w' => e = .returned (.tuple #[.int .i32 0, .bool false]) ∧ w1 = w' := l1
    have l2' : Calls Try.prog 35 #[.pointer (some ⟨b, 0, none⟩), .int .i64 i] w1 fun e w' => e = .returned (.tuple #[.int .i32 0, .bool false]) ∧ w1 = w' := l2
    have l3' : Calls Try.prog 26 #[.pointer (some ⟨b, 0, none⟩), .int .i64 i] w1 fun e w' => e = .returned (.int .i64 0) ∧ w1 = w' := l3
    have L1 := Lib.hid l1'
    have L2 := Lib.hid l2'
    have L3 := Lib.hid l3'
    clear l1 l2 l3 l1' l2' l3' hC h0
    go_wp2_with (first
      | (go_at_call 34; refine L1.out.mono ?_; rintro e w' ⟨rfl, rfl⟩)
      | (go_at_call 35; refine L2.out.mono ?_; rintro e w' ⟨rfl, rfl⟩)
      | (go_at_call 26; refine L3.out.mono ?_; rintro e w' ⟨rfl, rfl⟩)
      | (go_at_call 19; fail))
    have T0 := Chain.told_at i 1000 ([] : List Int) hs1 HT.out.way (by decide)
    have HT0 := Lib.hid T0
    clear T0
    refine HT0.out.mono ?_
    rintro e w2 ⟨v2, rfl, hr2, hb2⟩
    have hs2 : At w2 b b1 b2 s := hs1.calm (Kept.of_below hb2 _)
    have T1 := Chain.back_at i 1000 ([] : List Int) hs2 HT.out.back (by decide)
    have HT1 := Lib.hid T1
    have HI2 := Lib.hid (Ints.of_owns hr2)
    clear T1 hr2
    go_wp2_with fail
    refine HT1.out.mono ?_
    rintro e w3 ⟨v3, rfl, hr3, hb3⟩
    have HI3 := Lib.hid (Ints.of_owns hr3)
    have hC3 := Kd.C_below (Kd.C_below HCL.out hb2) hb3
    have HIL := Lib.hid ((show IntsW .i32 w3 (.slice A ([] : List Int).length c) ([] : List Int) from ⟨A, c, rfl, hl, .inl rfl⟩))
    have HTu := Lib.hid (Ref04.Turned_calls w3 A c [] hC3 hl (by decide))
    have HC3 := Lib.hid hC3
    clear hr3 hC3
    go_wp2_with fail
    refine (Ref04.NodesW_calls w3 _ _ [] [] (HI2.out.below hb3).w HIL.out (by decide) (by decide)).mono ?_
    rw [decide_eq_true rfl]
    rintro e w' ⟨rfl, n1, rfl⟩
    have HTv := Lib.hid (Ref04.Turned_calls (w3.drewN n1) A c [] (Kd.C_drewN HC3.out n1) hl (by decide))
    clear HTu
    go_wp2_with fail
    refine HTv.out.mono ?_
    rintro e w4 ⟨v4, rfl, hr4, hb4⟩
    have HI4 := Lib.hid (Ints.of_owns hr4)
    have k34 : Calm w3 w4 := ((Kept.refl (fun _ => False) w3).drewN n1).trans (Kept.of_below hb4 _)
    clear hr4
    go_wp2_with fail
    refine (Ref04.Nodes_calls w4 _ _ [] [] (HI3.out.calm k34) HI4.out (by decide) (by decide)).mono ?_
    rw [decide_eq_true rfl]
    rintro e w' ⟨rfl, n2, rfl⟩
    go_wp2_with fail
    go_ret
    exact ⟨rfl, ((((K1.trans (Kept.of_below hb2 _)).trans (Kept.of_below hb3 _)).trans k34).drewN n2).below (fun _ _ h => h)⟩
end Ref04
end Go.Proofs.Ythjgjfelbagljaa
namespace Go.Proofs.Ythjgjfelbagljaa
open Go.RowKit Go.Proofs.YthjgjfelbagljaaW.PrintWords Go.Proofs.YthjgjfelbagljaaW.PrintLast Go.Proofs.YthjgjfelbagljaaW.PrintMore Go.Proofs.Ythjgjfelbagljaa.PChainPlays
namespace Ref04
open Chain (Inv St At Two)

/-- The reference's lists, apart from the chain's blocks. -/
def RefV (q b b1 b2 : Nat) (w : World) (rv : Value) (ls : List (List Int)) : Prop := Kd.V k98 98 w w.heap.size (fun k => ¬ (k = b ∨ Two b1 b2 k ∨ k = q)) rv (rows ls)
theorem RefV.kept {q b b1 b2 : Nat} {w w' : World} {rv : Value} {ls : List (List Int)} (h : RefV q b b1 b2 w rv ls) (hk : Go.Proofs.Ythjgjfelbagljaa.Kept (Two b1 b2) w w') : RefV q b b1 b2 w' rv ls :=
  Kd.V_step h (fun k hk1 hk2 => hk.block k hk2 (fun h => hk1 (.inr (.inl h))))
theorem RefV.at {q b b1 b2 : Nat} {w : World} {rv : Value} {ls : List (List Int)} (h : RefV q b b1 b2 w rv ls) : RefAt w rv ls := by
  obtain ⟨A, c, rfl⟩ := Kd.V_slice h
  obtain ⟨_, h2, h3⟩ := Kd.V_reads' h
  exact ⟨A, c, rfl, h2, h3⟩

theorem ahead_len (s : St) (l n : Int) : (s.ahead l n).links.length = s.links.length := by
  unfold St.ahead
  split
  · exact (Chain.join_len _ _ _ _ _).1
  · rfl
set_option maxRecDepth 100000 in
set_option maxHeartbeats 1000000 in
theorem step_put (w : World) (q b b1 b2 : Nat) (hq : q < w.heap.size) (s : St) (ls : List (List Int)) (k l n a : Int) (rv : Value) (hs : At w b b1 b2 s) (h : Inv s ls) (hf : Few ls) (hr : RefV q b b1 b2 w rv ls) (hw : -2147483648 ≤ n ∧ n < 2147483648) (hk : k = 0) :
    Calls Try.prog 31 #[.pointer (some ⟨b, 0, none⟩), .agg #[.int .i64 (s.links.length : Int), rv], .agg #[.int .i64 k, .int .i64 l, .int .i32 n, .int .i32 a]] w fun e w' =>
      ∃ v s' ls', e = .returned (.tuple #[.agg #[.int .i64 (s'.links.length : Int), v], .bool true]) ∧ At w' b b1 b2 s' ∧ Inv s' ls' ∧ Step ls ls' ∧ RefV q b b1 b2 w' v ls' ∧ Go.Proofs.Ythjgjfelbagljaa.Kept (Two b1 b2) w w' := by
  subst hk
  obtain ⟨K, ls', hP, hI, hst⟩ := put_spec h hf l n hw false
  obtain ⟨A, c, rfl⟩ := Kd.V_slice hr
  have HI := Lib.hid hI
  have HP := Lib.hid hP
  have HR := Lib.hid hr
  have HV := Lib.hid h.valid
  clear hI hP hr h hf
  go_enter Try.func31, Try.ntmps31
  go_wp2_with fail
  have B5 := ((Blk.new (w.alloc (.cells #[.int .i64 (s.links.length : Int), .slice A (rows ls).length c] 63)) #[.int .i64 0, .int .i64 l, .int .i32 n, .int .i32 a] 66).alloc (.cells #[.int .i64 0, .slice none 0 0] 63))
  have B6 := Blk.new ((w.alloc (.cells #[.int .i64 (s.links.length : Int), .slice A (rows ls).length c] 63)).alloc (.cells #[.int .i64 0, .int .i64 l, .int .i32 n, .int .i32 a] 66)) #[.int .i64 0, .slice none 0 0] 63
  have K3 : Calm w (((w.alloc (.cells #[.int .i64 (s.links.length : Int), .slice A (rows ls).length c] 63)).alloc (.cells #[.int .i64 0, .int .i64 l, .int .i32 n, .int .i32 a] 66)).alloc (.cells #[.int .i64 0, .slice none 0 0] 63)) := (((Kept.refl _ w).alloc _).alloc _).alloc _
  rw [World.size_alloc] at B5
  rw [World.size_alloc, World.size_alloc] at B6
  generalize ((w.alloc (.cells #[.int .i64 (s.links.length : Int), .slice A (rows ls).length c] 63)).alloc (.cells #[.int .i64 0, .int .i64 l, .int .i32 n, .int .i32 a] 66)).alloc (.cells #[.int .i64 0, .slice none 0 0] 63) = W3 at B5 B6 K3 ⊢
  have hV3 := Kd.V_below (Kd.V_bound HR.out) K3.below
  refine (hutchref04_Put.calls K (s.links.length : Int) (fun k => ¬ (k = b ∨ Two b1 b2 k ∨ k = q) ∧ k < w.heap.size) A c (rows ls) l n false _ _ _ W3 hV3 HP.out).mono ?_
  rintro e W4 ⟨v1, rfl, hV4, hb4⟩
  obtain ⟨A1, cc1, rfl⟩ := Kd.V_slice hV4
  have hb0 : b < W3.heap.size := by have := hs.head.lt; have := K3.size; omega
  have hs3 : At W3 b b1 b2 s := hs.calm K3
  have hb1 := hs3.links.lt
  have hb2 := hs3.lists.lt
  have hS3 : w.heap.size + 1 + 1 < W3.heap.size := B6.lt
  have hV4' := Kd.V_mono (ok' := fun k => ¬ (k = b ∨ Two b1 b2 k ∨ k = q) ∧ k ≠ w.heap.size + 1 + 1) hV4 (fun k hk => ⟨hk.elim And.left (fun h1 h2 => by unfold Two at h2; omega), hk.elim (fun h1 => by have := h1.2; omega) (fun h1 => by omega)⟩)
  have hs4 : At W4 b b1 b2 s := hs3.calm (Kept.of_below hb4 _)
  have B5' := B5.calm (Kept.of_below hb4 _)
  have B6' := B6.calm (Kept.of_below hb4 _)
  have c1 := (B5'.cell 1).trans rfl
  have c2 := (B5'.cell 2).trans rfl
  have c0 := (B5'.cell 0).trans rfl
  clear hV4
  go_upto_region 5 with fail
  have B8 := Blk.new W4 #[.int .i64 (s.links.length : Int), .slice A1 (rows ls').length cc1] 63
  have K5 : Calm W4 (W4.alloc (.cells #[.int .i64 (s.links.length : Int), .slice A1 (rows ls').length cc1] 63)) := (Kept.refl _ _).alloc _
  have hlt8 : W3.heap.size ≤ W4.heap.size := hb4.size
  clear c0 c1 c2
  generalize W4.heap.size = p8 at B8 hlt8 ⊢
  generalize W4.alloc (.cells #[.int .i64 (s.links.length : Int), .slice A1 (rows ls').length cc1] 63) = W5 at B8 K5 ⊢
  have C5 := B5'.calm K5
  have C6 := B6'.calm K5
  have c0 := (C5.cell 0).trans rfl
  have c1 := (C5.cell 1).trans rfl
  have c2 := (C5.cell 2).trans rfl
  have hs5 : At W5 b b1 b2 s := hs4.calm K5
  have H1 := Lib.hid (Chain.Ahead_calls W5 b b1 b2 s l n hs5 HV.out hw.2)
  go_wp2_with fail
  refine H1.out.mono ?_
  rintro e W6 ⟨rfl, hs6, hk6⟩
  have hbw1 := hs.links.lt
  have hbw2 := hs.lists.lt
  have D8 := B8.kept hk6 (fun h => by unfold Two at h; omega)
  have D6 := C6.kept hk6 (fun h => by unfold Two at h; omega)
  have d0 := (D8.cell 0).trans rfl
  have d1 := (D8.cell 1).trans rfl
  have d2 := (D6.cell 0).trans rfl
  have d3 := (D6.cell 1).trans rfl
  have d4 := fun o => D6.frozen o
  clear c0 c1 c2
  go_wp2_with fail
  have E6 : Blk ((W6.setCell ⟨w.heap.size + 1 + 1, 0, none⟩ (.int .i64 (s.links.length : Int))).setCell ⟨w.heap.size + 1 + 1, 1, none⟩ (.slice A1 (rows ls').length cc1)) (w.heap.size + 1 + 1) #[.int .i64 (s.links.length : Int), .slice A1 (rows ls').length cc1] := (D6.set 0 _).set 1 _
  have KW : Go.Proofs.Ythjgjfelbagljaa.Kept (Two b1 b2) w W6 := (((K3.mono (fun _ _ h => h.elim)).trans (Kept.of_below hb4 _)).trans (K5.mono (fun _ _ h => h.elim))).trans hk6
  have K7 : Go.Proofs.Ythjgjfelbagljaa.Kept (fun k => k = w.heap.size + 1 + 1) W6 ((W6.setCell ⟨w.heap.size + 1 + 1, 0, none⟩ (.int .i64 (s.links.length : Int))).setCell ⟨w.heap.size + 1 + 1, 1, none⟩ (.slice A1 (rows ls').length cc1)) :=
    ((Kept.refl (fun k => k = w.heap.size + 1 + 1) W6).setCell (p := ⟨w.heap.size + 1 + 1, 0, none⟩) (fun _ => rfl) _).setCell (p := ⟨w.heap.size + 1 + 1, 1, none⟩) (fun _ => rfl) _
  generalize (W6.setCell ⟨w.heap.size + 1 + 1, 0, none⟩ (.int .i64 (s.links.length : Int))).setCell ⟨w.heap.size + 1 + 1, 1, none⟩ (.slice A1 (rows ls').length cc1) = WF at E6 K7 ⊢
  have KF := KW.step (F := Two b1 b2) K7 (fun i hi h => absurd (show i = w.heap.size + 1 + 1 from h) (by omega))
  have hsF := hs6.kept K7 (fun h => absurd (show b = w.heap.size + 1 + 1 from h) (by have := hs.head.lt; omega)) (fun h => absurd (show b1 = w.heap.size + 1 + 1 from h) (by omega)) (fun h => absurd (show b2 = w.heap.size + 1 + 1 from h) (by omega))
  have hV6 := Kd.V_step (w1 := W6) hV4' (fun k hk hlt => (hk6.block k (by have := K5.size; omega) (fun h => hk.1 (.inr (.inl h)))).trans (K5.block k hlt id))
  have hVF : RefV q b b1 b2 WF (.slice A1 (rows ls').length cc1) ls' := by
    have h := Kd.V_mono (Kd.V_step (w1 := WF) hV6 (fun k hk hlt => K7.block k hlt hk.2)) (fun k hk => hk.1)
    exact h
  obtain ⟨t6, h6⟩ := E6
  refine bodyPost_ret (results_ct rfl _ _ (w.heap.size + 1 + 1) t6 #[.int .i64 (s.links.length : Int), .slice A1 (rows ls').length cc1] (0, 0) _ rfl h6 Try.underlying63 rfl (by kernel_rfl)) rfl ?_
  refine ⟨_, s.ahead l n, ls', ?_, hsF, HI.out, hst, hVF, KF⟩
  rw [ahead_len]
  rfl
set_option maxRecDepth 100000 in
set_option maxHeartbeats 1000000 in
theorem step_behind (w : World) (q b b1 b2 : Nat) (hq : q < w.heap.size) (s : St) (ls : List (List Int)) (k l n a : Int) (rv : Value) (hs : At w b b1 b2 s) (h : Inv s ls) (hf : Few ls) (hr : RefV q b b1 b2 w rv ls) (hw : -2147483648 ≤ n ∧ n < 2147483648) (hk : k = 1) :
    Calls Try.prog 31 #[.pointer (some ⟨b, 0, none⟩), .agg #[.int .i64 (s.links.length : Int), rv], .agg #[.int .i64 k, .int .i64 l, .int .i32 n, .int .i32 a]] w fun e w' =>
      ∃ v s' ls', e = .returned (.tuple #[.agg #[.int .i64 (s'.links.length : Int), v], .bool true]) ∧ At w' b b1 b2 s' ∧ Inv s' ls' ∧ Step ls ls' ∧ RefV q b b1 b2 w' v ls' ∧ Go.Proofs.Ythjgjfelbagljaa.Kept (Two b1 b2) w w' := by
  subst hk
  obtain ⟨K, ls', hP, hI, hst⟩ := put_spec h hf l n hw true
  obtain ⟨A, c, rfl⟩ := Kd.V_slice hr
  have HI := Lib.hid hI
  have HP := Lib.hid hP
  have HR := Lib.hid hr
  have HV := Lib.hid h.valid
  clear hI hP hr h hf
  go_enter Try.func31, Try.ntmps31
  go_wp2_with fail
  have B5 := ((Blk.new (w.alloc (.cells #[.int .i64 (s.links.length : Int), .slice A (rows ls).length c] 63)) #[.int .i64 1, .int .i64 l, .int .i32 n, .int .i32 a] 66).alloc (.cells #[.int .i64 0, .slice none 0 0] 63))
  have B6 := Blk.new ((w.alloc (.cells #[.int .i64 (s.links.length : Int), .slice A (rows ls).length c] 63)).alloc (.cells #[.int .i64 1, .int .i64 l, .int .i32 n, .int .i32 a] 66)) #[.int .i64 0, .slice none 0 0] 63
  have K3 : Calm w (((w.alloc (.cells #[.int .i64 (s.links.length : Int), .slice A (rows ls).length c] 63)).alloc (.cells #[.int .i64 1, .int .i64 l, .int .i32 n, .int .i32 a] 66)).alloc (.cells #[.int .i64 0, .slice none 0 0] 63)) := (((Kept.refl _ w).alloc _).alloc _).alloc _
  rw [World.size_alloc] at B5
  rw [World.size_alloc, World.size_alloc] at B6
  generalize ((w.alloc (.cells #[.int .i64 (s.links.length : Int), .slice A (rows ls).length c] 63)).alloc (.cells #[.int .i64 1, .int .i64 l, .int .i32 n, .int .i32 a] 66)).alloc (.cells #[.int .i64 0, .slice none 0 0] 63) = W3 at B5 B6 K3 ⊢
  have hV3 := Kd.V_below (Kd.V_bound HR.out) K3.below
  refine (hutchref04_Put.calls K (s.links.length : Int) (fun k => ¬ (k = b ∨ Two b1 b2 k ∨ k = q) ∧ k < w.heap.size) A c (rows ls) l n true _ _ _ W3 hV3 HP.out).mono ?_
  rintro e W4 ⟨v1, rfl, hV4, hb4⟩
  obtain ⟨A1, cc1, rfl⟩ := Kd.V_slice hV4
  have hb0 : b < W3.heap.size := by have := hs.head.lt; have := K3.size; omega
  have hs3 : At W3 b b1 b2 s := hs.calm K3
  have hb1 := hs3.links.lt
  have hb2 := hs3.lists.lt
  have hS3 : w.heap.size + 1 + 1 < W3.heap.size := B6.lt
  have hV4' := Kd.V_mono (ok' := fun k => ¬ (k = b ∨ Two b1 b2 k ∨ k = q) ∧ k ≠ w.heap.size + 1 + 1) hV4 (fun k hk => ⟨hk.elim And.left (fun h1 h2 => by unfold Two at h2; omega), hk.elim (fun h1 => by have := h1.2; omega) (fun h1 => by omega)⟩)
  have hs4 : At W4 b b1 b2 s := hs3.calm (Kept.of_below hb4 _)
  have B5' := B5.calm (Kept.of_below hb4 _)
  have B6' := B6.calm (Kept.of_below hb4 _)
  have c1 := (B5'.cell 1).trans rfl
  have c2 := (B5'.cell 2).trans rfl
  have c0 := (B5'.cell 0).trans rfl
  clear hV4
  go_upto_region 5 with fail
  have B8 := Blk.new W4 #[.int .i64 (s.links.length : Int), .slice A1 (rows ls').length cc1] 63
  have K5 : Calm W4 (W4.alloc (.cells #[.int .i64 (s.links.length : Int), .slice A1 (rows ls').length cc1] 63)) := (Kept.refl _ _).alloc _
  have hlt8 : W3.heap.size ≤ W4.heap.size := hb4.size
  clear c0 c1 c2
  generalize W4.heap.size = p8 at B8 hlt8 ⊢
  generalize W4.alloc (.cells #[.int .i64 (s.links.length : Int), .slice A1 (rows ls').length cc1] 63) = W5 at B8 K5 ⊢
  have C5 := B5'.calm K5
  have C6 := B6'.calm K5
  have c0 := (C5.cell 0).trans rfl
  have c1 := (C5.cell 1).trans rfl
  have c2 := (C5.cell 2).trans rfl
  have hs5 : At W5 b b1 b2 s := hs4.calm K5
  have H1 := Lib.hid (Chain.Behind_calls W5 b b1 b2 s l n hs5 HV.out hw.2)
  go_wp2_with fail
  refine H1.out.mono ?_
  rintro e W6 ⟨rfl, hs6, hk6⟩
  have hbw1 := hs.links.lt
  have hbw2 := hs.lists.lt
  have D8 := B8.kept hk6 (fun h => by unfold Two at h; omega)
  have D6 := C6.kept hk6 (fun h => by unfold Two at h; omega)
  have d0 := (D8.cell 0).trans rfl
  have d1 := (D8.cell 1).trans rfl
  have d2 := (D6.cell 0).trans rfl
  have d3 := (D6.cell 1).trans rfl
  have d4 := fun o => D6.frozen o
  clear c0 c1 c2
  go_wp2_with fail
  have E6 : Blk ((W6.setCell ⟨w.heap.size + 1 + 1, 0, none⟩ (.int .i64 (s.links.length : Int))).setCell ⟨w.heap.size + 1 + 1, 1, none⟩ (.slice A1 (rows ls').length cc1)) (w.heap.size + 1 + 1) #[.int .i64 (s.links.length : Int), .slice A1 (rows ls').length cc1] := (D6.set 0 _).set 1 _
  have KW : Go.Proofs.Ythjgjfelbagljaa.Kept (Two b1 b2) w W6 := (((K3.mono (fun _ _ h => h.elim)).trans (Kept.of_below hb4 _)).trans (K5.mono (fun _ _ h => h.elim))).trans hk6
  have K7 : Go.Proofs.Ythjgjfelbagljaa.Kept (fun k => k = w.heap.size + 1 + 1) W6 ((W6.setCell ⟨w.heap.size + 1 + 1, 0, none⟩ (.int .i64 (s.links.length : Int))).setCell ⟨w.heap.size + 1 + 1, 1, none⟩ (.slice A1 (rows ls').length cc1)) :=
    ((Kept.refl (fun k => k = w.heap.size + 1 + 1) W6).setCell (p := ⟨w.heap.size + 1 + 1, 0, none⟩) (fun _ => rfl) _).setCell (p := ⟨w.heap.size + 1 + 1, 1, none⟩) (fun _ => rfl) _
  generalize (W6.setCell ⟨w.heap.size + 1 + 1, 0, none⟩ (.int .i64 (s.links.length : Int))).setCell ⟨w.heap.size + 1 + 1, 1, none⟩ (.slice A1 (rows ls').length cc1) = WF at E6 K7 ⊢
  have KF := KW.step (F := Two b1 b2) K7 (fun i hi h => absurd (show i = w.heap.size + 1 + 1 from h) (by omega))
  have hsF := hs6.kept K7 (fun h => absurd (show b = w.heap.size + 1 + 1 from h) (by have := hs.head.lt; omega)) (fun h => absurd (show b1 = w.heap.size + 1 + 1 from h) (by omega)) (fun h => absurd (show b2 = w.heap.size + 1 + 1 from h) (by omega))
  have hV6 := Kd.V_step (w1 := W6) hV4' (fun k hk hlt => (hk6.block k (by have := K5.size; omega) (fun h => hk.1 (.inr (.inl h)))).trans (K5.block k hlt id))
  have hVF : RefV q b b1 b2 WF (.slice A1 (rows ls').length cc1) ls' := by
    have h := Kd.V_mono (Kd.V_step (w1 := WF) hV6 (fun k hk hlt => K7.block k hlt hk.2)) (fun k hk => hk.1)
    exact h
  obtain ⟨t6, h6⟩ := E6
  refine bodyPost_ret (results_ct rfl _ _ (w.heap.size + 1 + 1) t6 #[.int .i64 (s.links.length : Int), .slice A1 (rows ls').length cc1] (0, 0) _ rfl h6 Try.underlying63 rfl (by kernel_rfl)) rfl ?_
  refine ⟨_, s.behind l n, ls', ?_, hsF, HI.out, hst, hVF, KF⟩
  rw [Chain.behind_len]
  rfl
end Ref04
end Go.Proofs.Ythjgjfelbagljaa
namespace Go.Proofs.Ythjgjfelbagljaa
open Go.RowKit Go.Proofs.YthjgjfelbagljaaW.PrintWords Go.Proofs.YthjgjfelbagljaaW.PrintLast Go.Proofs.YthjgjfelbagljaaW.PrintMore Go.Proofs.Ythjgjfelbagljaa.PChainPlays
namespace Ref04
open Chain (Inv St At Two)

theorem insert_len (s : St) (n a : Int) : (s.insert n a).links.length = s.links.length := by
  unfold St.insert
  split
  · exact (Chain.join_len _ _ _ _ _).1
  · rfl
set_option maxRecDepth 100000 in
set_option maxHeartbeats 1000000 in
theorem step_insert (w : World) (q b b1 b2 : Nat) (hq : q < w.heap.size) (s : St) (ls : List (List Int)) (k l n a : Int) (rv : Value) (hs : At w b b1 b2 s) (h : Inv s ls) (hf : Few ls) (hr : RefV q b b1 b2 w rv ls) (hw : -2147483648 ≤ n ∧ n < 2147483648) (hwa : -2147483648 ≤ a ∧ a < 2147483648) (hk : k = 2) :
    Calls Try.prog 31 #[.pointer (some ⟨b, 0, none⟩), .agg #[.int .i64 (s.links.length : Int), rv], .agg #[.int .i64 k, .int .i64 l, .int .i32 n, .int .i32 a]] w fun e w' =>
      ∃ v s' ls', e = .returned (.tuple #[.agg #[.int .i64 (s'.links.length : Int), v], .bool true]) ∧ At w' b b1 b2 s' ∧ Inv s' ls' ∧ Step ls ls' ∧ RefV q b b1 b2 w' v ls' ∧ Go.Proofs.Ythjgjfelbagljaa.Kept (Two b1 b2) w w' := by
  subst hk
  obtain ⟨K, ls', hP, hI, hst⟩ := insert_spec h hf n a hw hwa
  obtain ⟨A, c, rfl⟩ := Kd.V_slice hr
  have HI := Lib.hid hI
  have HP := Lib.hid hP
  have HR := Lib.hid hr
  have HV := Lib.hid h.valid
  clear hI hP hr h hf
  go_enter Try.func31, Try.ntmps31
  go_wp2_with fail
  have B5 := ((Blk.new (w.alloc (.cells #[.int .i64 (s.links.length : Int), .slice A (rows ls).length c] 63)) #[.int .i64 2, .int .i64 l, .int .i32 n, .int .i32 a] 66).alloc (.cells #[.int .i64 0, .slice none 0 0] 63))
  have B6 := Blk.new ((w.alloc (.cells #[.int .i64 (s.links.length : Int), .slice A (rows ls).length c] 63)).alloc (.cells #[.int .i64 2, .int .i64 l, .int .i32 n, .int .i32 a] 66)) #[.int .i64 0, .slice none 0 0] 63
  have K3 : Calm w (((w.alloc (.cells #[.int .i64 (s.links.length : Int), .slice A (rows ls).length c] 63)).alloc (.cells #[.int .i64 2, .int .i64 l, .int .i32 n, .int .i32 a] 66)).alloc (.cells #[.int .i64 0, .slice none 0 0] 63)) := (((Kept.refl _ w).alloc _).alloc _).alloc _
  rw [World.size_alloc] at B5
  rw [World.size_alloc, World.size_alloc] at B6
  generalize ((w.alloc (.cells #[.int .i64 (s.links.length : Int), .slice A (rows ls).length c] 63)).alloc (.cells #[.int .i64 2, .int .i64 l, .int .i32 n, .int .i32 a] 66)).alloc (.cells #[.int .i64 0, .slice none 0 0] 63) = W3 at B5 B6 K3 ⊢
  have hV3 := Kd.V_below (Kd.V_bound HR.out) K3.below
  refine (hutchref04_Insert.calls K (s.links.length : Int) (fun k => ¬ (k = b ∨ Two b1 b2 k ∨ k = q) ∧ k < w.heap.size) A c (rows ls) n a _ _ _ W3 hV3 HP.out).mono ?_
  rintro e W4 ⟨v1, rfl, hV4, hb4⟩
  obtain ⟨A1, cc1, rfl⟩ := Kd.V_slice hV4
  have hb0 : b < W3.heap.size := by have := hs.head.lt; have := K3.size; omega
  have hs3 : At W3 b b1 b2 s := hs.calm K3
  have hb1 := hs3.links.lt
  have hb2 := hs3.lists.lt
  have hS3 : w.heap.size + 1 + 1 < W3.heap.size := B6.lt
  have hV4' := Kd.V_mono (ok' := fun k => ¬ (k = b ∨ Two b1 b2 k ∨ k = q) ∧ k ≠ w.heap.size + 1 + 1) hV4 (fun k hk => ⟨hk.elim And.left (fun h1 h2 => by unfold Two at h2; omega), hk.elim (fun h1 => by have := h1.2; omega) (fun h1 => by omega)⟩)
  have hs4 : At W4 b b1 b2 s := hs3.calm (Kept.of_below hb4 _)
  have B5' := B5.calm (Kept.of_below hb4 _)
  have B6' := B6.calm (Kept.of_below hb4 _)
  clear hV4
  go_upto_region 12 with fail
  have B8 := Blk.new W4 #[.int .i64 (s.links.length : Int), .slice A1 (rows ls').length cc1] 63
  have K5 : Calm W4 (W4.alloc (.cells #[.int .i64 (s.links.length : Int), .slice A1 (rows ls').length cc1] 63)) := (Kept.refl _ _).alloc _
  have hlt8 : W3.heap.size ≤ W4.heap.size := hb4.size
  generalize W4.heap.size = p8 at B8 hlt8 ⊢
  generalize W4.alloc (.cells #[.int .i64 (s.links.length : Int), .slice A1 (rows ls').length cc1] 63) = W5 at B8 K5 ⊢
  have C5 := B5'.calm K5
  have C6 := B6'.calm K5
  have hs5 : At W5 b b1 b2 s := hs4.calm K5
  have hbw0 := hs.head.lt
  have hbw1 := hs.links.lt
  have hbw2 := hs.lists.lt
  have hS : ∀ W, Go.Proofs.Ythjgjfelbagljaa.Kept (fun k => Two b1 b2 k ∨ k = w.heap.size + 1 + 1) W5 W → (W.cell? ⟨p8, 0, none⟩ = some (.int .i64 (s.links.length : Int)) ∧ W.cell? ⟨p8, 1, none⟩ = some (.slice A1 (rows ls').length cc1) ∧ W.cell? ⟨w.heap.size + 1, 2, none⟩ = some (.int .i32 n) ∧ W.cell? ⟨w.heap.size + 1, 3, none⟩ = some (.int .i32 a)) := fun W hW => by
    have D8 := B8.kept hW (fun h => by unfold Two at h; omega)
    have D5 := C5.kept hW (fun h => by unfold Two at h; omega)
    exact ⟨(D8.cell 0).trans rfl, (D8.cell 1).trans rfl, (D5.cell 2).trans rfl, (D5.cell 3).trans rfl⟩
  have hD : ∀ W, Go.Proofs.Ythjgjfelbagljaa.Kept (Two b1 b2) W5 W → Blk W (w.heap.size + 1 + 1) #[.int .i64 0, .slice none 0 0] := fun W hW => C6.kept hW (fun h => by unfold Two at h; omega)
  have hH : ∀ W, Go.Proofs.Ythjgjfelbagljaa.Kept (fun k => k = w.heap.size + 1 + 1) W5 W → Calls Try.prog 24 #[.pointer (some ⟨b, 0, none⟩), .int .i32 n, .int .i32 a] W fun e w' =>
      e = .returned (.int .i64 (s.insertErr n a)) ∧ At w' b b1 b2 (s.insert n a) ∧ Go.Proofs.Ythjgjfelbagljaa.Kept (Two b1 b2) W w' := fun W hW =>
    Chain.Insert_calls W b b1 b2 s n a (hs5.kept hW (fun h => by have : b = w.heap.size + 1 + 1 := h; omega) (fun h => by have : b1 = w.heap.size + 1 + 1 := h; omega) (fun h => by have : b2 = w.heap.size + 1 + 1 := h; omega)) HV.out hw.2 hwa.2
  have HS := Lib.hid hS
  have HD := Lib.hid hD
  have HH := Lib.hid hH
  have e1 : w.heap.size + 1 ≠ w.heap.size + 1 + 1 := by omega
  have e2 : p8 ≠ w.heap.size + 1 + 1 := by omega
  have d2 := (C6.cell 0).trans rfl
  have d3 := (C6.cell 1).trans rfl
  have d4 := fun o => C6.frozen o
  clear hS hD hH
  go_cut [7] (fun v wz => v = .bool true ∧ At wz b b1 b2 (s.insert n a) ∧ Go.Proofs.Ythjgjfelbagljaa.Kept (fun k => Two b1 b2 k ∨ k = w.heap.size + 1 + 1) W5 wz ∧ Blk wz (w.heap.size + 1 + 1) #[.int .i64 (s.links.length : Int), .slice A1 (rows ls').length cc1])
  case first =>
    go_region_held3 (fun W => W.cell? ⟨p8, 0, none⟩ = some (.int .i64 (s.links.length : Int)) ∧ W.cell? ⟨p8, 1, none⟩ = some (.slice A1 (rows ls').length cc1) ∧ W.cell? ⟨w.heap.size + 1, 2, none⟩ = some (.int .i32 n) ∧ W.cell? ⟨w.heap.size + 1, 3, none⟩ = some (.int .i32 a))
      (first | with_reducible assumption | exact HS.out _ ((Kept.refl _ _).drew) | exact HS.out _ (((Kept.refl _ _).drew.setCell (p := ⟨w.heap.size + 1 + 1, 0, none⟩) (fun _ => .inr rfl) _).setCell (p := ⟨w.heap.size + 1 + 1, 1, none⟩) (fun _ => .inr rfl) _) | exact HS.out _ ((hKw.setCell (p := ⟨w.heap.size + 1 + 1, 0, none⟩) (fun _ => .inr rfl) _).setCell (p := ⟨w.heap.size + 1 + 1, 1, none⟩) (fun _ => .inr rfl) _))
      (first
        | (go_at_call 24; refine (HH.out _ ((Kept.refl _ _).drew)).mono ?_; rintro e w' ⟨rfl, hsw, hkw⟩; have hBw := HD.out _ (((Kept.refl _ W5).drew).trans hkw); have hKw := ((Kept.refl (fun k => Two b1 b2 k ∨ k = w.heap.size + 1 + 1) W5).drew).trans (hkw.mono (fun _ _ h => .inl h)); have hSw := HS.out _ hKw; have d2' := (hBw.cell 0).trans rfl; have d3' := (hBw.cell 1).trans rfl; have d4' := fun o => hBw.frozen o)
        | (go_at_call 24; refine (HH.out _ (((Kept.refl _ _).drew.setCell (p := ⟨w.heap.size + 1 + 1, 0, none⟩) (fun _ => rfl) _).setCell (p := ⟨w.heap.size + 1 + 1, 1, none⟩) (fun _ => rfl) _)).mono ?_; rintro e w' ⟨rfl, hsw, hkw⟩; have hKw := (((Kept.refl (fun k => Two b1 b2 k ∨ k = w.heap.size + 1 + 1) W5).drew.setCell (p := ⟨w.heap.size + 1 + 1, 0, none⟩) (fun _ => .inr rfl) _).setCell (p := ⟨w.heap.size + 1 + 1, 1, none⟩) (fun _ => .inr rfl) _).trans (hkw.mono (fun _ _ h => .inl h)); have hSw := HS.out _ hKw))
    go_wp2_with fail
    go_meet
    refine ⟨by simp, hsw.kept (((Kept.refl (fun k => k = w.heap.size + 1 + 1) _).setCell (p := ⟨w.heap.size + 1 + 1, 0, none⟩) (fun _ => rfl) _).setCell (p := ⟨w.heap.size + 1 + 1, 1, none⟩) (fun _ => rfl) _) (fun h => by have : b = w.heap.size + 1 + 1 := h; omega) (fun h => by have : b1 = w.heap.size + 1 + 1 := h; omega) (fun h => by have : b2 = w.heap.size + 1 + 1 := h; omega), (hKw.setCell (p := ⟨w.heap.size + 1 + 1, 0, none⟩) (fun _ => .inr rfl) _).setCell (p := ⟨w.heap.size + 1 + 1, 1, none⟩) (fun _ => .inr rfl) _, (hBw.set 0 _).set 1 _⟩
  case rest =>
    obtain ⟨rfl, hsF, hKF, E6⟩ := hcut
    clear d2 d3 d4
    go_wp2_with fail
    have KW : Go.Proofs.Ythjgjfelbagljaa.Kept (Two b1 b2) w W5 := ((K3.mono (fun _ _ h => h.elim)).trans (Kept.of_below hb4 _)).trans (K5.mono (fun _ _ h => h.elim))
    have KF := KW.step (F := Two b1 b2) hKF (fun i hi h => h.resolve_right (by omega))
    have hVF : RefV q b b1 b2 wc (.slice A1 (rows ls').length cc1) ls' := by
      have h := Kd.V_mono (Kd.V_step (w1 := wc) hV4' (fun k hk hlt => (hKF.block k (by have := K5.size; omega) (fun h => h.elim (fun h => hk.1 (.inr (.inl h))) hk.2)).trans (K5.block k hlt id))) (fun k hk => hk.1)
      exact h
    obtain ⟨t6, h6⟩ := E6
    refine bodyPost_ret (results_ct rfl _ _ (w.heap.size + 1 + 1) t6 #[.int .i64 (s.links.length : Int), .slice A1 (rows ls').length cc1] (0, 0) _ rfl h6 Try.underlying63 rfl (by kernel_rfl)) rfl ?_
    refine ⟨_, s.insert n a, ls', ?_, hsF, HI.out, hst, hVF, KF⟩
    rw [insert_len]
    rfl
set_option maxRecDepth 100000 in
set_option maxHeartbeats 1000000 in
theorem step_remove (w : World) (q b b1 b2 : Nat) (hq : q < w.heap.size) (s : St) (ls : List (List Int)) (k l n a : Int) (rv : Value) (hs : At w b b1 b2 s) (h : Inv s ls) (hf : Few ls) (hr : RefV q b b1 b2 w rv ls) (hw : -2147483648 ≤ n ∧ n < 2147483648) (hk0 : k ≠ 0) (hk1 : k ≠ 1) (hk2 : k ≠ 2) :
    Calls Try.prog 31 #[.pointer (some ⟨b, 0, none⟩), .agg #[.int .i64 (s.links.length : Int), rv], .agg #[.int .i64 k, .int .i64 l, .int .i32 n, .int .i32 a]] w fun e w' =>
      ∃ v s' ls', e = .returned (.tuple #[.agg #[.int .i64 (s'.links.length : Int), v], .bool true]) ∧ At w' b b1 b2 s' ∧ Inv s' ls' ∧ Step ls ls' ∧ RefV q b b1 b2 w' v ls' ∧ Go.Proofs.Ythjgjfelbagljaa.Kept (Two b1 b2) w w' := by
  obtain ⟨K, ls', hP, hI, hst⟩ := remove_spec h hf n
  obtain ⟨A, c, rfl⟩ := Kd.V_slice hr
  have HI := Lib.hid hI
  have HP := Lib.hid hP
  have HR := Lib.hid hr
  have HV := Lib.hid h.valid
  have HM := Lib.hid h.many_pos
  have q0 : (k == 0) = false := by simpa using hk0
  have q1 : (k == 1) = false := by simpa using hk1
  have q2 : (k == 2) = false := by simpa using hk2
  clear hI hP hr h hf
  go_enter Try.func31, Try.ntmps31
  go_wp2_with fail
  have B5 := ((Blk.new (w.alloc (.cells #[.int .i64 (s.links.length : Int), .slice A (rows ls).length c] 63)) #[.int .i64 k, .int .i64 l, .int .i32 n, .int .i32 a] 66).alloc (.cells #[.int .i64 0, .slice none 0 0] 63))
  have B6 := Blk.new ((w.alloc (.cells #[.int .i64 (s.links.length : Int), .slice A (rows ls).length c] 63)).alloc (.cells #[.int .i64 k, .int .i64 l, .int .i32 n, .int .i32 a] 66)) #[.int .i64 0, .slice none 0 0] 63
  have K3 : Calm w (((w.alloc (.cells #[.int .i64 (s.links.length : Int), .slice A (rows ls).length c] 63)).alloc (.cells #[.int .i64 k, .int .i64 l, .int .i32 n, .int .i32 a] 66)).alloc (.cells #[.int .i64 0, .slice none 0 0] 63)) := (((Kept.refl _ w).alloc _).alloc _).alloc _
  rw [World.size_alloc] at B5
  rw [World.size_alloc, World.size_alloc] at B6
  generalize ((w.alloc (.cells #[.int .i64 (s.links.length : Int), .slice A (rows ls).length c] 63)).alloc (.cells #[.int .i64 k, .int .i64 l, .int .i32 n, .int .i32 a] 66)).alloc (.cells #[.int .i64 0, .slice none 0 0] 63) = W3 at B5 B6 K3 ⊢
  have hV3 := Kd.V_below (Kd.V_bound HR.out) K3.below
  refine (hutchref04_Remove.calls K (s.links.length : Int) (fun k => ¬ (k = b ∨ Two b1 b2 k ∨ k = q) ∧ k < w.heap.size) A c (rows ls) n _ _ _ W3 hV3 HP.out).mono ?_
  rintro e W4 ⟨v1, rfl, hV4, hb4⟩
  obtain ⟨A1, cc1, rfl⟩ := Kd.V_slice hV4
  have hb0 : b < W3.heap.size := by have := hs.head.lt; have := K3.size; omega
  have hs3 : At W3 b b1 b2 s := hs.calm K3
  have hb1 := hs3.links.lt
  have hb2 := hs3.lists.lt
  have hS3 : w.heap.size + 1 + 1 < W3.heap.size := B6.lt
  have hV4' := Kd.V_mono (ok' := fun k => ¬ (k = b ∨ Two b1 b2 k ∨ k = q) ∧ k ≠ w.heap.size + 1 + 1) hV4 (fun k hk => ⟨hk.elim And.left (fun h1 h2 => by unfold Two at h2; omega), hk.elim (fun h1 => by have := h1.2; omega) (fun h1 => by omega)⟩)
  have hs4 : At W4 b b1 b2 s := hs3.calm (Kept.of_below hb4 _)
  have B5' := B5.calm (Kept.of_below hb4 _)
  have B6' := B6.calm (Kept.of_below hb4 _)
  clear hV4
  go_upto_region 14 with fail
  have B8 := Blk.new W4 #[.int .i64 (s.links.length : Int), .slice A1 (rows ls').length cc1] 63
  have K5 : Calm W4 (W4.alloc (.cells #[.int .i64 (s.links.length : Int), .slice A1 (rows ls').length cc1] 63)) := (Kept.refl _ _).alloc _
  have hlt8 : W3.heap.size ≤ W4.heap.size := hb4.size
  generalize W4.heap.size = p8 at B8 hlt8 ⊢
  generalize W4.alloc (.cells #[.int .i64 (s.links.length : Int), .slice A1 (rows ls').length cc1] 63) = W5 at B8 K5 ⊢
  have C5 := B5'.calm K5
  have C6 := B6'.calm K5
  have hs5 : At W5 b b1 b2 s := hs4.calm K5
  have hbw0 := hs.head.lt
  have hbw1 := hs.links.lt
  have hbw2 := hs.lists.lt
  have hS : ∀ W, Go.Proofs.Ythjgjfelbagljaa.Kept (fun k => Two b1 b2 k ∨ k = w.heap.size + 1 + 1) W5 W → (W.cell? ⟨p8, 0, none⟩ = some (.int .i64 (s.links.length : Int)) ∧ W.cell? ⟨p8, 1, none⟩ = some (.slice A1 (rows ls').length cc1) ∧ W.cell? ⟨w.heap.size + 1, 2, none⟩ = some (.int .i32 n)) := fun W hW => by
    have D8 := B8.kept hW (fun h => by unfold Two at h; omega)
    have D5 := C5.kept hW (fun h => by unfold Two at h; omega)
    exact ⟨(D8.cell 0).trans rfl, (D8.cell 1).trans rfl, (D5.cell 2).trans rfl⟩
  have hD : ∀ W, Go.Proofs.Ythjgjfelbagljaa.Kept (Two b1 b2) W5 W → Blk W (w.heap.size + 1 + 1) #[.int .i64 0, .slice none 0 0] := fun W hW => C6.kept hW (fun h => by unfold Two at h; omega)
  have hH : ∀ W, Go.Proofs.Ythjgjfelbagljaa.Kept (fun k => k = w.heap.size + 1 + 1) W5 W → Calls Try.prog 20 #[.pointer (some ⟨b, 0, none⟩), .int .i32 n] W fun e w' =>
      e = .returned (.bool (decide (s.stands n))) ∧ At w' b b1 b2 (s.remove n) ∧ Go.Proofs.Ythjgjfelbagljaa.Kept (Two b1 b2) W w' := fun W hW =>
    Chain.Remove_calls W b b1 b2 s n (hs5.kept hW (fun h => by have : b = w.heap.size + 1 + 1 := h; omega) (fun h => by have : b1 = w.heap.size + 1 + 1 := h; omega) (fun h => by have : b2 = w.heap.size + 1 + 1 := h; omega)) HV.out hw.2 (HM.out n)
  have HS := Lib.hid hS
  have HD := Lib.hid hD
  have HH := Lib.hid hH
  have e1 : w.heap.size + 1 ≠ w.heap.size + 1 + 1 := by omega
  have e2 : p8 ≠ w.heap.size + 1 + 1 := by omega
  have d2 := (C6.cell 0).trans rfl
  have d3 := (C6.cell 1).trans rfl
  have d4 := fun o => C6.frozen o
  clear hS hD hH
  go_cut [7] (fun v wz => v = .bool true ∧ At wz b b1 b2 (s.remove n) ∧ Go.Proofs.Ythjgjfelbagljaa.Kept (fun k => Two b1 b2 k ∨ k = w.heap.size + 1 + 1) W5 wz ∧ Blk wz (w.heap.size + 1 + 1) #[.int .i64 (s.links.length : Int), .slice A1 (rows ls').length cc1])
  case first =>
    go_region_held3 (fun W => W.cell? ⟨p8, 0, none⟩ = some (.int .i64 (s.links.length : Int)) ∧ W.cell? ⟨p8, 1, none⟩ = some (.slice A1 (rows ls').length cc1) ∧ W.cell? ⟨w.heap.size + 1, 2, none⟩ = some (.int .i32 n))
      (first | with_reducible assumption | exact HS.out _ ((Kept.refl _ _).drew) | exact HS.out _ (((Kept.refl _ _).drew.setCell (p := ⟨w.heap.size + 1 + 1, 0, none⟩) (fun _ => .inr rfl) _).setCell (p := ⟨w.heap.size + 1 + 1, 1, none⟩) (fun _ => .inr rfl) _) | exact HS.out _ ((hKw.setCell (p := ⟨w.heap.size + 1 + 1, 0, none⟩) (fun _ => .inr rfl) _).setCell (p := ⟨w.heap.size + 1 + 1, 1, none⟩) (fun _ => .inr rfl) _))
      (first
        | (go_at_call 20; refine (HH.out _ ((Kept.refl _ _).drew)).mono ?_; rintro e w' ⟨rfl, hsw, hkw⟩; have hBw := HD.out _ (((Kept.refl _ W5).drew).trans hkw); have hKw := ((Kept.refl (fun k => Two b1 b2 k ∨ k = w.heap.size + 1 + 1) W5).drew).trans (hkw.mono (fun _ _ h => .inl h)); have hSw := HS.out _ hKw; have d2' := (hBw.cell 0).trans rfl; have d3' := (hBw.cell 1).trans rfl; have d4' := fun o => hBw.frozen o)
        | (go_at_call 20; refine (HH.out _ (((Kept.refl _ _).drew.setCell (p := ⟨w.heap.size + 1 + 1, 0, none⟩) (fun _ => rfl) _).setCell (p := ⟨w.heap.size + 1 + 1, 1, none⟩) (fun _ => rfl) _)).mono ?_; rintro e w' ⟨rfl, hsw, hkw⟩; have hKw := (((Kept.refl (fun k => Two b1 b2 k ∨ k = w.heap.size + 1 + 1) W5).drew.setCell (p := ⟨w.heap.size + 1 + 1, 0, none⟩) (fun _ => .inr rfl) _).setCell (p := ⟨w.heap.size + 1 + 1, 1, none⟩) (fun _ => .inr rfl) _).trans (hkw.mono (fun _ _ h => .inl h)); have hSw := HS.out _ hKw))
    go_wp2_with fail
    go_meet
    refine ⟨by simp, hsw.kept (((Kept.refl (fun k => k = w.heap.size + 1 + 1) _).setCell (p := ⟨w.heap.size + 1 + 1, 0, none⟩) (fun _ => rfl) _).setCell (p := ⟨w.heap.size + 1 + 1, 1, none⟩) (fun _ => rfl) _) (fun h => by have : b = w.heap.size + 1 + 1 := h; omega) (fun h => by have : b1 = w.heap.size + 1 + 1 := h; omega) (fun h => by have : b2 = w.heap.size + 1 + 1 := h; omega), (hKw.setCell (p := ⟨w.heap.size + 1 + 1, 0, none⟩) (fun _ => .inr rfl) _).setCell (p := ⟨w.heap.size + 1 + 1, 1, none⟩) (fun _ => .inr rfl) _, (hBw.set 0 _).set 1 _⟩
  case rest =>
    obtain ⟨rfl, hsF, hKF, E6⟩ := hcut
    clear d2 d3 d4
    go_wp2_with fail
    have KW : Go.Proofs.Ythjgjfelbagljaa.Kept (Two b1 b2) w W5 := ((K3.mono (fun _ _ h => h.elim)).trans (Kept.of_below hb4 _)).trans (K5.mono (fun _ _ h => h.elim))
    have KF := KW.step (F := Two b1 b2) hKF (fun i hi h => h.resolve_right (by omega))
    have hVF : RefV q b b1 b2 wc (.slice A1 (rows ls').length cc1) ls' := by
      have h := Kd.V_mono (Kd.V_step (w1 := wc) hV4' (fun k hk hlt => (hKF.block k (by have := K5.size; omega) (fun h => h.elim (fun h => hk.1 (.inr (.inl h))) hk.2)).trans (K5.block k hlt id))) (fun k hk => hk.1)
      exact h
    obtain ⟨t6, h6⟩ := E6
    refine bodyPost_ret (results_ct rfl _ _ (w.heap.size + 1 + 1) t6 #[.int .i64 (s.links.length : Int), .slice A1 (rows ls').length cc1] (0, 0) _ rfl h6 Try.underlying63 rfl (by kernel_rfl)) rfl ?_
    refine ⟨_, s.remove n, ls', ?_, hsF, HI.out, hst, hVF, KF⟩
    rw [Chain.remove_len]
    rfl
end Ref04
end Go.Proofs.Ythjgjfelbagljaa
namespace Go.Proofs.Ythjgjfelbagljaa
open Go.RowKit Go.Proofs.YthjgjfelbagljaaW.PrintWords Go.Proofs.YthjgjfelbagljaaW.PrintLast Go.Proofs.YthjgjfelbagljaaW.PrintMore Go.Proofs.Ythjgjfelbagljaa.PChainPlays
namespace Ref04
open Chain (Inv St At Two)

theorem step_calls (w : World) (q b b1 b2 : Nat) (hq : q < w.heap.size) (s : St) (ls : List (List Int)) (k l n a : Int) (rv : Value) (hs : At w b b1 b2 s) (h : Inv s ls) (hf : Few ls) (hr : RefV q b b1 b2 w rv ls) (hw : -2147483648 ≤ n ∧ n < 2147483648) (hwa : -2147483648 ≤ a ∧ a < 2147483648) :
    Calls Try.prog 31 #[.pointer (some ⟨b, 0, none⟩), .agg #[.int .i64 (s.links.length : Int), rv], .agg #[.int .i64 k, .int .i64 l, .int .i32 n, .int .i32 a]] w fun e w' =>
      ∃ v s' ls', e = .returned (.tuple #[.agg #[.int .i64 (s'.links.length : Int), v], .bool true]) ∧ At w' b b1 b2 s' ∧ Inv s' ls' ∧ Step ls ls' ∧ RefV q b b1 b2 w' v ls' ∧ Go.Proofs.Ythjgjfelbagljaa.Kept (Two b1 b2) w w' := by
  by_cases h0 : k = 0
  · exact step_put w q b b1 b2 hq s ls k l n a rv hs h hf hr hw h0
  by_cases h1 : k = 1
  · exact step_behind w q b b1 b2 hq s ls k l n a rv hs h hf hr hw h1
  by_cases h2 : k = 2
  · exact step_insert w q b b1 b2 hq s ls k l n a rv hs h hf hr hw hwa h2
  exact step_remove w q b b1 b2 hq s ls k l n a rv hs h hf hr hw h0 h1 h2

theorem new_l0 (nodes : Int) (m : Nat) (hm : m ≤ 8) : ∀ (d i : Nat), i + d = m → hutchref04_New.l0 (d + 1) (m : Int) (i : Int) nodes (List.replicate i ⟨[]⟩) = some (nodes, List.replicate m ⟨[]⟩)
  | 0, i, h => by
    obtain rfl : i = m := by omega
    rw [hutchref04_New.l0, if_neg (by omega)]
  | d + 1, i, h => by
    rw [hutchref04_New.l0, if_pos (by omega), if_pos (by rw [List.length_replicate]; omega), wrap_succ i (by omega), ← List.replicate_succ']
    exact new_l0 nodes m hm d (i + 1) (by omega)
theorem new_f (nodes : Int) (m : Nat) (hm : m ≤ 8) : hutchref04_New.f (m + 1) nodes (m : Int) = some (nodes, rows (List.replicate m [])) := by
  have := new_l0 nodes m hm m 0 (by omega)
  rw [show rows (List.replicate m ([] : List Int)) = List.replicate m ⟨[]⟩ by unfold rows; rw [List.map_replicate]]
  exact this
theorem may_f (n m : Int) : hutchref04_May.f n m = some (decide (n ≥ 0 ∧ n ≤ 65536 ∧ m ≥ 1 ∧ m ≤ 8)) := by
  unfold hutchref04_May.f
  by_cases h0 : n ≥ 0 <;> by_cases h1 : n ≤ 65536 <;> by_cases h2 : m ≥ 1 <;> simp [h0, h1, h2]
end Ref04
end Go.Proofs.Ythjgjfelbagljaa
namespace Go.Proofs.Ythjgjfelbagljaa
open Go.RowKit Go.Proofs.YthjgjfelbagljaaW.PrintWords Go.Proofs.YthjgjfelbagljaaW.PrintLast Go.Proofs.YthjgjfelbagljaaW.PrintMore Go.Proofs.Ythjgjfelbagljaa.PChainPlays
namespace Ref04
open Chain (Inv St At Two)

/-- An act. -/
structure ActR where
  k : Int
  l : Int
  n : Int
  a : Int
instance : Inhabited ActR := ⟨⟨0, 0, 0, 0⟩⟩
structure ActR.ok (x : ActR) : Prop where
  n : -2147483648 ≤ x.n ∧ x.n < 2147483648
  a : -2147483648 ≤ x.a ∧ x.a < 2147483648
/-- A slice of acts. -/
def ActsW (w : World) (v : Value) (xs : List ActR) : Prop := ∃ A c, v = .slice A xs.length c ∧ xs.length ≤ c ∧ (xs = [] ∨ ∃ ad, A = some ad ∧ ∀ i, i < xs.length →
  w.cell? (ad.add (i * 4)) = some (.int .i64 (xs.getD i default).k) ∧ w.cell? ⟨(ad.add (i * 4)).block, (ad.add (i * 4)).off + 1, none⟩ = some (.int .i64 (xs.getD i default).l) ∧ w.cell? ⟨(ad.add (i * 4)).block, (ad.add (i * 4)).off + 2, none⟩ = some (.int .i32 (xs.getD i default).n) ∧ w.cell? ⟨(ad.add (i * 4)).block, (ad.add (i * 4)).off + 3, none⟩ = some (.int .i32 (xs.getD i default).a))

theorem mem_getD {α : Type} {l : List α} {i : Nat} {d : α} (h : i < l.length) : l.getD i d ∈ l := by
  rw [List.getD_eq_getElem?_getD, List.getElem?_eq_getElem h]
  exact List.getElem_mem h
/-- What stands between two acts. -/
structure Stand (m p9 b b1 b2 j : Nat) (wr : World) (s : St) (ls : List (List Int)) (rv : Value) : Prop where
  here : At wr b b1 b2 s
  inv : Inv s ls
  refv : RefV p9 b b1 b2 wr rv ls
  many : ls.length = m
  few : ∀ l, l < ls.length → (ls.getD l []).length ≤ j
  box : Blk wr p9 #[.int .i64 (s.links.length : Int), rv]
theorem Stand.calm {m p9 b b1 b2 j : Nat} {wr w' : World} {s : St} {ls : List (List Int)} {rv : Value} (h : Stand m p9 b b1 b2 j wr s ls rv) (hk : Calm wr w') : Stand m p9 b b1 b2 j w' s ls rv :=
  { h with here := h.here.calm hk, refv := h.refv.kept (hk.mono (fun _ _ h => h.elim)), box := h.box.calm hk }
theorem Stand.Few {m p9 b b1 b2 j : Nat} {wr : World} {s : St} {ls : List (List Int)} {rv : Value} (h : Stand m p9 b b1 b2 j wr s ls rv) (hm : m ≤ 8) (hj : j ≤ 100) : Few ls :=
  ⟨by have := h.many; omega, fun l hl => by have := h.few l hl; omega⟩

set_option maxRecDepth 100000 in
set_option maxHeartbeats 4000000 in
theorem ChainPlays_calls (w : World) (nodes many : Int) (v : Value) (xs : List ActR) (hv : ActsW w v xs) (hr : ∀ x ∈ xs, x.ok) :
    Calls Try.prog 7 #[.int .i64 nodes, .int .i64 many, v] w fun e w' => e = .returned (.bool true) ∧ Below w.heap.size w w' := by
  obtain ⟨A, c, rfl, hc, hxa⟩ := hv
  have HX := Lib.hid hxa
  clear hxa
  by_cases hmay : nodes ≥ 0 ∧ nodes ≤ 65536 ∧ many ≥ 1 ∧ many ≤ 8
  · have hM := may_f nodes many
    rw [decide_eq_true hmay] at hM
    have HM := Lib.hid hM
    clear hM
    obtain ⟨m0, m1, m2, m3⟩ := hmay
    obtain ⟨m, rfl⟩ : ∃ m : Nat, many = (m : Int) := ⟨many.toNat, by omega⟩
    obtain ⟨N, rfl⟩ : ∃ N : Nat, nodes = (N : Int) := ⟨nodes.toNat, by omega⟩
    have hN := Chain.New_calls w (N : Int) (m : Int) m0 m1 m2 m3
    rw [Int.toNat_natCast, Int.toNat_natCast] at hN
    have HN := Lib.hid hN
    have hF := new_f (N : Int) m (by omega)
    have HF := Lib.hid hF
    have hI := Chain.Inv.new N m (by omega) (by omega)
    have HI := Lib.hid hI
    clear hN hF hI
    by_cases h100 : 100 < xs.length
    · have c100 : (100 : Int) < (xs.length : Int) := by omega
      clear h100
      go_enter Try.func7, Try.ntmps7
      go_wp2_with fail
      refine HN.out.mono ?_
      rintro e wa ⟨b, b1, b2, rfl, hs, hka, z0, z1, z2⟩
      go_wp2_with fail
      refine (hutchref04_May.calls (N : Int) (m : Int) _ wa HM.out).mono ?_
      rintro e wb ⟨rfl, hd⟩
      go_wp2_with (first | (go_at_call 16; refine (Chain.alive_calls _).mono ?_; rintro e w' ⟨rfl, hbc⟩))
      go_ret
      exact ⟨rfl, ((hka.trans (Kept.of_below hd.below _)).trans (Kept.of_below hbc _)).below (fun _ _ h => h)⟩
    have c100 : (xs.length : Int) ≤ 100 := by omega
    go_enter Try.func7, Try.ntmps7
    go_wp2_with fail
    refine HN.out.mono ?_
    rintro e wa ⟨b, b1, b2, rfl, hs, hka, z0, z1, z2⟩
    go_wp2_with fail
    refine (hutchref04_May.calls (N : Int) (m : Int) _ wa HM.out).mono ?_
    rintro e wb ⟨rfl, hd⟩
    have hs1 : At wb b b1 b2 (St.new N m) := hs.calm (Kept.of_below hd.below _)
    have hK1 : Calm w wb := hka.trans (Kept.of_below hd.below _)
    clear hd hs hka
    go_wp2_with fail
    refine (hutchref04_New.calls (m + 1) (N : Int) (m : Int) _ _ wb HF.out).mono ?_
    rintro e wc ⟨v1, rfl, hV, hbc⟩
    have hV0 : Kd.V k98 98 wc wc.heap.size (fun k => ¬ (k = b ∨ Two b1 b2 k ∨ k = wc.heap.size)) v1 (rows (List.replicate m [])) :=
      Kd.V_mono (Kd.S_V (Kd.S_bound hV)) (fun k hk => fun h => by
        have y0 := hs1.head.lt
        have y1 := hs1.links.lt
        have y2 := hs1.lists.lt
        have := hk.2.1
        have := hk.2.2
        unfold Two at h
        omega)
    obtain ⟨A1, c1, rfl⟩ := Kd.V_slice hV0
    clear hV
    go_upto_region 9 with fail
    have B9 := Blk.new wc #[.int .i64 (N : Int), .slice A1 (rows (List.replicate m [])).length c1] 63
    have K9 : Calm wc (wc.alloc (.cells #[.int .i64 (N : Int), .slice A1 (rows (List.replicate m [])).length c1] 63)) := (Kept.refl _ _).alloc _
    have q9 : wc.heap.size < (wc.alloc (.cells #[.int .i64 (N : Int), .slice A1 (rows (List.replicate m [])).length c1] 63)).heap.size := by rw [World.size_alloc]; omega
    have hq0 : w.heap.size ≤ wc.heap.size := by have := hK1.size; have := hbc.size; omega
    have n9 : ¬ Two b1 b2 wc.heap.size := by
      have := hs1.links.lt
      have := hs1.lists.lt
      have := hbc.size
      unfold Two
      omega
    have nb9 : b ≠ wc.heap.size := by
      have := hs1.head.lt
      have := hbc.size
      omega
    have hK2 : Calm w wc := hK1.trans (Kept.of_below hbc _)
    have hs2 : At wc b b1 b2 (St.new N m) := hs1.calm (Kept.of_below hbc _)
    generalize wc.heap.size = p9 at *
    generalize wc.alloc (.cells #[.int .i64 (N : Int), .slice A1 (rows (List.replicate m [])).length c1] 63) = wd at B9 K9 q9 ⊢
    have hs3 : At wd b b1 b2 (St.new N m) := hs2.calm K9
    have hR3 : RefV p9 b b1 b2 wd (.slice A1 (rows (List.replicate m [])).length c1) (List.replicate m []) := Kd.V_step hV0 (fun k _ hk => K9.block k hk id)
    have hK3 : Calm w wd := hK2.trans K9
    clear hs1 hs2 hV0 hK2 K9 hbc hK1
    have hS0 : Stand m p9 b b1 b2 0 wd (St.new N m) (List.replicate m []) (.slice A1 (rows (List.replicate m [])).length c1) :=
      { here := hs3, inv := HI.out, refv := hR3, many := List.length_replicate, few := fun l hl => by
          rw [List.getD_eq_getElem?_getD, List.getElem?_replicate]
          split <;> simp
        box := by rw [show (St.new N m).links.length = N from List.length_replicate]; exact B9 }
    clear hs3 hR3 B9
    have m8 : m ≤ 8 := by omega
    go_wp2_with fail
    go_loopw [49] (fun i wr => ∃ (j : Nat) (s : St) (ls : List (List Int)) (rv : Value), j ≤ xs.length ∧ i = .int .i64 (j : Int) ∧ Stand m p9 b b1 b2 j wr s ls rv ∧ Calm w wr) (fun i _ => xs.length - (intOf i).toNat)
    case atStart => exact ⟨0, _, _, _, Nat.zero_le _, rfl, hS0, hK3⟩
    case round =>
      obtain ⟨j, s, ls, rv, hj, rfl, hst, hkept⟩ := hrel
      by_cases hlt : j < xs.length
      · have hxa := HX.out
        rcases hxa with h0 | ⟨ad, rfl, hxa⟩
        · subst h0; simp at hlt
        obtain ⟨c0, c1', c2, c3⟩ := hxa j hlt
        have z2 : (j : Int) < (xs.length : Int) := by omega
        have hok := hr _ (mem_getD (d := default) hlt)
        generalize xs.getD j default = x at c0 c1' c2 c3 hok
        have c0 := cell_kept' hkept c0 (fun h => h)
        have c1' := cell_kept' hkept c1' (fun h => h)
        have c2 := cell_kept' hkept c2 (fun h => h)
        have c3 := cell_kept' hkept c3 (fun h => h)
        have HST := Lib.hid hst
        clear hst hxa
        have hq9 : p9 < wr.heap.size := HST.out.box.lt
        go_upto_region 12 with fail
        have B11 := Blk.new wr #[.int .i64 x.k, .int .i64 x.l, .int .i32 x.n, .int .i32 x.a] 66
        have K11 : Calm wr (wr.alloc (.cells #[.int .i64 x.k, .int .i64 x.l, .int .i32 x.n, .int .i32 x.a] 66)) := (Kept.refl _ _).alloc _
        have hy0 := HST.out.here.head.lt
        have hy1 := HST.out.here.links.lt
        have hy2 := HST.out.here.lists.lt
        generalize hp11 : wr.heap.size = p11 at B11 hy0 hy1 hy2 hq9 ⊢
        generalize wr.alloc (.cells #[.int .i64 x.k, .int .i64 x.l, .int .i32 x.n, .int .i32 x.a] 66) = w1 at B11 K11 ⊢
        have S1 := HST.out.calm K11
        obtain ⟨A9, c9, rfl⟩ := Kd.V_slice S1.refv
        have d0 := (S1.box.cell 0).trans rfl
        have d1 := (S1.box.cell 1).trans rfl
        have e0 := (B11.cell 0).trans rfl
        have e1 := (B11.cell 1).trans rfl
        have e2 := (B11.cell 2).trans rfl
        have e3 := (B11.cell 3).trans rfl
        clear c0 c1' c2 c3
        have HC := Lib.hid (step_calls w1 p9 b b1 b2 S1.box.lt s ls x.k x.l x.n x.a _ S1.here S1.inv (S1.Few m8 (by omega)) S1.refv hok.n hok.a)
        have HS1 := Lib.hid S1
        clear S1 HST
        go_wp2_with fail
        refine HC.out.mono ?_
        rintro e w2 ⟨v2, s2, ls2, rfl, hat2, hinv2, hstep, href2, hkept2⟩
        obtain ⟨A12, c12, rfl⟩ := Kd.V_slice href2
        have B9' := HS1.out.box.kept hkept2 n9
        have B11' := B11.kept hkept2 (fun h => by unfold Two at h; omega)
        clear d0 d1 e0 e1 e2 e3 HC
        go_upto_region 13 with fail
        have B12 := Blk.new w2 #[.int .i64 (s2.links.length : Int), .slice A12 (rows ls2).length c12] 63
        have K12 : Calm w2 (w2.alloc (.cells #[.int .i64 (s2.links.length : Int), .slice A12 (rows ls2).length c12] 63)) := (Kept.refl _ _).alloc _
        have hp2 : p11 < w2.heap.size := B11'.lt
        generalize w2.heap.size = p12 at B12 hp2 ⊢
        generalize w2.alloc (.cells #[.int .i64 (s2.links.length : Int), .slice A12 (rows ls2).length c12] 63) = w3 at B12 K12 ⊢
        have C9 := B9'.calm K12
        have C11 := B11'.calm K12
        have hat3 := hat2.calm K12
        have href3 := href2.kept (K12.mono (fun _ _ h => h.elim))
        have d0 := (C9.cell 0).trans rfl
        have d1 := (C9.cell 1).trans rfl
        have d2 := fun o => C9.frozen o
        have e0 := (B12.cell 0).trans rfl
        have e1 := (B12.cell 1).trans rfl
        go_upto_region 14 with fail
        have D9 : Blk ((w3.setCell ⟨p9, 0, none⟩ (.int .i64 (s2.links.length : Int))).setCell ⟨p9, 1, none⟩ (.slice A12 (rows ls2).length c12)) p9 #[.int .i64 (s2.links.length : Int), .slice A12 (rows ls2).length c12] := (C9.set 0 _).set 1 _
        have K13 : Go.Proofs.Ythjgjfelbagljaa.Kept (fun k => k = p9) w3 ((w3.setCell ⟨p9, 0, none⟩ (.int .i64 (s2.links.length : Int))).setCell ⟨p9, 1, none⟩ (.slice A12 (rows ls2).length c12)) := ((Kept.refl (fun k => k = p9) w3).setCell (p := ⟨p9, 0, none⟩) (fun _ => rfl) _).setCell (p := ⟨p9, 1, none⟩) (fun _ => rfl) _
        generalize ((w3.setCell ⟨p9, 0, none⟩ (.int .i64 (s2.links.length : Int))).setCell ⟨p9, 1, none⟩ (.slice A12 (rows ls2).length c12)) = w4 at D9 K13 ⊢
        have hat4 := hat3.kept K13 (fun h => nb9 h) (fun h => n9 (.inl h.symm)) (fun h => n9 (.inr h.symm))
        have href4 : RefV p9 b b1 b2 w4 (.slice A12 (rows ls2).length c12) ls2 := Kd.V_step href3 (fun k hk hlt => K13.block k hlt (fun h => hk (.inr (.inr h))))
        have D11 := C11.kept K13 (fun h => by have : p11 = p9 := h; omega)
        have S4 : Stand m p9 b b1 b2 (j + 1) w4 s2 ls2 (.slice A12 (rows ls2).length c12) :=
          { here := hat4, inv := hinv2, refv := href4, many := hstep.len.trans HS1.out.many
            few := fun l hl => by have := hstep.more l (by rw [← hstep.len]; exact hl); have := HS1.out.few l (by rw [← hstep.len]; exact hl); omega
            box := D9 }
        have hf4 := S4.Few m8 (by omega)
        have hat4' : At w4 b b1 b2 s2 := hat4
        have hNb : ∀ W n, Calm w4 W → n < 2147483648 → Calls Try.prog 32 #[.pointer (some ⟨b, 0, none⟩), .agg #[.int .i64 (s2.links.length : Int), .slice A12 (rows ls2).length c12], .int .i32 n] W fun e w' => e = .returned (.bool true) ∧ Calm w4 w' := fun W n hW hn =>
          (neighbours_calls W b b1 b2 s2 ls2 n _ (hat4.calm hW) hinv2 hf4 (href4.at.calm hW) hn).mono (fun _ _ h => ⟨h.1, hW.trans (Kept.of_below h.2 _)⟩)
        have hLs : ∀ W i, Calm w4 W → Calls Try.prog 33 #[.pointer (some ⟨b, 0, none⟩), .agg #[.int .i64 (s2.links.length : Int), .slice A12 (rows ls2).length c12], .int .i64 i] W fun e w' => e = .returned (.bool true) ∧ Calm w4 w' := fun W i hW =>
          (lists_calls W b b1 b2 s2 ls2 i _ (hat4.calm hW) hinv2 hf4 (href4.at.calm hW)).mono (fun _ _ h => ⟨h.1, hW.trans (Kept.of_below h.2 _)⟩)
        have hCl : ∀ W, Calm w4 W → W.cell? ⟨p9, 0, none⟩ = some (.int .i64 (s2.links.length : Int)) ∧ W.cell? ⟨p9, 1, none⟩ = some (.slice A12 (rows ls2).length c12) ∧ W.cell? ⟨p11, 1, none⟩ = some (.int .i64 x.l) ∧ W.cell? ⟨p11, 2, none⟩ = some (.int .i32 x.n) ∧ W.cell? ⟨p11, 3, none⟩ = some (.int .i32 x.a) := fun W hW =>
          ⟨((D9.calm hW).cell 0).trans rfl, ((D9.calm hW).cell 1).trans rfl, ((D11.calm hW).cell 1).trans rfl, ((D11.calm hW).cell 2).trans rfl, ((D11.calm hW).cell 3).trans rfl⟩
        have HNb := Lib.hid hNb
        have HLs := Lib.hid hLs
        have HCl := Lib.hid hCl
        have HS4 := Lib.hid S4
        have hK4 : Calm w w4 := by
          have k1 : Go.Proofs.Ythjgjfelbagljaa.Kept (fun k => Two b1 b2 k ∨ k = p9) w1 w4 := (hkept2.mono (fun _ _ h => .inl h)).trans ((K12.mono (fun _ _ h => h.elim)).trans (K13.mono (fun _ _ h => .inr h)))
          exact (hkept.trans K11).step k1 (fun i hi h => by unfold Two at h; omega)
        have g0 := HCl.out w4 (Kept.refl _ _)
        obtain ⟨g0, g1, g2, g3, g4⟩ := g0
        clear hNb hLs hCl S4 hf4 d0 d1 d2 e0 e1 hat4 hat4' href4 hat3 href3 href2 hat2 HS1
        obtain ⟨⟨kn0, kn1⟩, ⟨ka0, ka1⟩⟩ := hok
        go_wp2_with (first
          | (go_at_call 32; refine (HNb.out _ _ (by first | exact Kept.refl _ _ | assumption) (by assumption)).mono ?_; rintro e w' ⟨rfl, hC⟩; obtain ⟨g0, g1, g2, g3, g4⟩ := HCl.out _ hC)
          | (go_at_call 33; refine (HLs.out _ _ (by first | exact Kept.refl _ _ | assumption)).mono ?_; rintro e w' ⟨rfl, hC⟩; obtain ⟨g0, g1, g2, g3, g4⟩ := HCl.out _ hC))
        refine ⟨⟨j + 1, s2, ls2, _, by omega, by go_num, HS4.out.calm hC, hK4.trans hC⟩, ?_⟩
        simp [intOf]
        omega
      · obtain rfl : j = xs.length := by omega
        obtain ⟨A9, c9, rfl⟩ := Kd.V_slice hst.refv
        have HST := Lib.hid hst
        clear hst
        go_upto_region 18 with fail
        have HSF := Lib.hid (HST.out.Few m8 (by omega))
        go_loopw [14] (fun i wy => ∃ t : Nat, t ≤ m + 2 ∧ i = .int .i64 ((t : Int) - 1) ∧ Calm wr wy) (fun i _ => m + 2 - (intOf i + 1).toNat)
        case atStart => exact ⟨0, Nat.zero_le _, rfl, Kept.refl _ _⟩
        case round =>
          obtain ⟨t, ht, rfl, hcy⟩ := hrel
          by_cases htm : t ≤ m + 1
          · have hle : (t : Int) - 1 ≤ (m : Int) := by omega
            have SY := HST.out.calm hcy
            have d0 := (SY.box.cell 0).trans rfl
            have d1 := (SY.box.cell 1).trans rfl
            have HL := Lib.hid (lists_calls _ b b1 b2 s ls ((t : Int) - 1) _ SY.here SY.inv HSF.out SY.refv.at)
            have hwr : IntKind.i64.wrap ((t : Int) - 1 + 1) = (t : Int) := by rw [IntKind.wrap_i64]; omega
            clear SY
            go_wp2_with (first | (go_at_call 33; refine HL.out.mono ?_; rintro e w' ⟨rfl, hbl⟩))
            refine ⟨⟨t + 1, by omega, by rw [Int.natCast_add]; simp, hcy.trans (Kept.of_below hbl _)⟩, ?_⟩
            simp [intOf]
            omega
          · have hle : ¬ (t : Int) - 1 ≤ (m : Int) := by omega
            have hle' : (m : Int) < (t : Int) - 1 := by omega
            go_wp2_with (first | (go_at_call 16; refine (Chain.alive_calls _).mono ?_; rintro e w' ⟨rfl, hbc⟩))
            go_ret
            exact ⟨rfl, ((hkept.trans hcy).trans (Kept.of_below hbc _)).below (fun _ _ h => h)⟩
  · have hM := may_f nodes many
    rw [decide_eq_false hmay] at hM
    have HM := Lib.hid hM
    clear hM
    have hbad : nodes < 0 ∨ 65536 < nodes ∨ many < 1 ∨ 8 < many := by omega
    go_enter Try.func7, Try.ntmps7
    go_wp2_with fail
    refine (Chain.New_bad w nodes many hbad).mono ?_
    rintro e wa ⟨rfl, rfl⟩
    go_wp2_with fail
    refine (hutchref04_May.calls nodes many _ w HM.out).mono ?_
    rintro e wb ⟨rfl, hd⟩
    go_wp2_with (first | (go_at_call 16; refine (Chain.alive_calls _).mono ?_; rintro e w' ⟨rfl, hbc⟩))
    go_ret
    exact ⟨rfl, ((Kept.of_below hd.below (fun _ => False)).trans (Kept.of_below hbc _)).below (fun _ _ h => h)⟩
end Ref04
end Go.Proofs.Ythjgjfelbagljaa
