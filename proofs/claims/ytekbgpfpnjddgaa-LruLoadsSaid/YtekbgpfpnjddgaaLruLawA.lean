/- hutchlaw16: asked, alive. -/
import Derived.Test.YtekbgpfpnjddgaaLruH
import Derived.Test.YtekbgpfpnjddgaaKeys
namespace Go.Proofs.Ytekbgpfpnjddgaa
open Go.RowKit
namespace Lru
section
variable {w : World} {e : Nat} {F : Nat → Prop} {c : Conf} {n : Cnt} {ks : List Int} {m : Int}
theorem evicts_n0 : ∀ (k : Nat) (n : Cnt), (evicts k n).n0 = n.n0
  | 0, _ => rfl
  | k + 1, n => evicts_n0 k n
/-- What a key that is asked does to the keys. -/
def ask (most : Nat) (ks : List Int) (key : Int) : List Int := if key ∈ ks then key :: without ks key else key :: ks.take most
/-- What a key that was asked leaves. -/
def Asked (w w' : World) (e : Nat) (F : Nat → Prop) (c : Conf) (n : Cnt) (ks : List Int) (most : Nat) (key : Int) : Prop :=
  Go.Proofs.Ytekbgpfpnjddgaa.Kept F w w' ∧ ∃ (F' : Nat → Prop) (n' : Cnt) (m' : Int), (∀ q, F' q → (F q ∨ w.heap.size ≤ q) ∧ q < w'.heap.size) ∧ n'.n0 = (if key ∈ ks then IntKind.u64.wrap (n.n0 + 1) else n.n0) ∧ Stands w' e F' c n' (ask most ks key) m'
set_option maxRecDepth 100000 in
theorem asked_calls (h : Stands w e F c n ks m) (key : Int) (most : Nat) (hc : c.cap = (most : Int) + 1) (hm : most < 256) :
    Calls Try.prog 9 #[.pointer (some ⟨e, 0, none⟩), .int .u64 key] w fun e' w' => e' = .returned (.bool (decide (key ∈ ks))) ∧ Asked w w' e F c n ks most key := by
  by_cases hk : key ∈ ks
  · have HT := Lib.hid (Touch_stands_yes h hk)
    have HK := Lib.hid hk
    rw [decide_eq_true hk]
    clear h hk hc
    go_enter Try.func9, Try.ntmps9
    go_wp2_with (go_at_call 23; refine HT.out.mono ?_; rintro e' w1 ⟨rfl, hs, hk1⟩; have HS := Lib.hid hs; have HK1 := Lib.hid hk1; clear hs hk1)
    go_ret
    refine ⟨rfl, HK1.out, fun k => F k ∧ k < w1.heap.size, hit n, m, fun q z => ⟨.inl z.1, z.2⟩, ?_, ?_⟩
    · rw [if_pos HK.out]; rfl
    · rw [show ask most ks key = key :: without ks key from if_pos HK.out]
      exact HS.out.trim
  · have HT := Lib.hid (Touch_stands_no h hk)
    have HA := Lib.hid (Admit_stands_yes h hk most hc hm)
    have HK := Lib.hid hk
    rw [decide_eq_false hk]
    clear h hk hc
    go_enter Try.func9, Try.ntmps9
    go_wp2_with (first | (go_at_call 23; refine HT.out.mono ?_; rintro e' w1 ⟨rfl, rfl⟩) | (go_at_call 20; refine HA.out.mono ?_; rintro e' w2 ⟨v, rfl, hr, hk2, F', j, z1, z2, z3, z4, z5⟩; have HK2 := Lib.hid hk2; have HS := Lib.hid z5; have H2 := Lib.hid z2; have H3 := Lib.hid z3; clear z1 z2 z3 z4 z5 hr hk2))
    go_ret
    refine ⟨rfl, HK2.out, F', evicts (ks.length - most) (miss n), IntKind.u64.wrap (m + j), fun q z => ⟨H2.out q z, H3.out q z⟩, ?_, ?_⟩
    rotate_left
    · rw [show ask most ks key = key :: ks.take most from if_neg HK.out]
      exact HS.out
    · rw [if_neg HK.out, evicts_n0]; rfl
theorem Kept.toCalm {F : Nat → Prop} {w w1 w2 : World} (h : Calm w w1) (hk : Go.Proofs.Ytekbgpfpnjddgaa.Kept F w1 w2) (hF : ∀ k, F k → w.heap.size ≤ k) : Calm w w2 := h.step hk (fun k h1 h2 => by have := hF k h2; omega)
/-- The same, where all blocks from B on may be the engine's. -/
def From (B : Nat) (c : Conf) (w : World) (e : Nat) (ks : List Int) : Prop := B ≤ w.heap.size ∧ ∃ n m, Stands w e (fun k => B ≤ k) c n ks m
theorem From.calm {B : Nat} {w' : World} (h : From B c w e ks) (hk : Calm w w') : From B c w' e ks := by
  obtain ⟨h0, n, m, h1⟩ := h
  exact ⟨Nat.le_trans h0 hk.size, n, m, h1.calm hk⟩
theorem From.push {B : Nat} (h : From B c w e ks) {key : Int} (hk : key ∉ ks) (most : Nat) (hc : c.cap = (most : Int) + 1) (hm : most < 256) :
    Calls Try.prog 20 #[.pointer (some ⟨e, 0, none⟩), .int .u64 key] w fun e' w' => ∃ v, e' = .returned (.tuple #[v, .bool true]) ∧ Ints .u64 w' v ((ks.drop most).reverse) ∧ Below B w w' ∧ From B c w' e (key :: ks.take most) := by
  obtain ⟨h0, n, m, h1⟩ := h
  refine (Admit_stands_yes h1 hk most hc hm).mono ?_
  rintro e' w' ⟨v, rfl, hr, hk', F', j, _, z2, _, _, z5⟩
  exact ⟨v, rfl, Ints.of_owns hr, ⟨hk'.os, hk'.tape, hk'.output, hk'.size, fun k hkB => hk'.block k (by omega) (by omega)⟩, Nat.le_trans h0 hk'.size, _, _, z5.mono (fun q y => (z2 q y).elim id (fun y => by omega))⟩
theorem From.touch {B : Nat} (h : From B c w e ks) {key : Int} (hk : key ∈ ks) :
    Calls Try.prog 23 #[.pointer (some ⟨e, 0, none⟩), .int .u64 key] w fun e' w' => e' = .returned (.bool true) ∧ Below B w w' ∧ From B c w' e (key :: without ks key) := by
  obtain ⟨h0, n, m, h1⟩ := h
  refine (Touch_stands_yes h1 hk).mono ?_
  rintro e' w' ⟨rfl, hs, hk'⟩
  exact ⟨rfl, ⟨hk'.os, hk'.tape, hk'.output, hk'.size, fun k hkB => hk'.block k (by omega) (by omega)⟩, Nat.le_trans h0 hk'.size, _, _, hs⟩
theorem From.kind {B : Nat} (h : From B c w e ks) (key : Int) :
    Calls Try.prog 13 #[.pointer (some ⟨e, 0, none⟩), .int .u64 key] w fun e' w' => e' = .returned (.int .i64 (if key ∈ ks then 2 else 0)) ∧ w' = w := by
  obtain ⟨h0, n, m, h1⟩ := h
  exact Kind_stands h1 key
theorem From.len {B : Nat} (h : From B c w e ks) :
    Calls Try.prog 25 #[.pointer (some ⟨e, 0, none⟩)] w fun e' w' => e' = .returned (.int .i64 ks.length) ∧ w' = w := by
  obtain ⟨h0, n, m, h1⟩ := h
  exact Len_stands h1
theorem From.new (w : World) (c : Conf) (hc : c.fits = true) :
    Calls Try.prog 7 #[c.agg] w fun e' w' => ∃ e, e' = .returned (.tuple #[.pointer (some ⟨e, 0, none⟩), .int .i64 0]) ∧ Below w.heap.size w w' ∧ From w.heap.size c w' e [] := by
  refine (New_good (w := w) c hc).mono ?_
  rintro e' w' ⟨e, rfl, hi, hk⟩
  exact ⟨e, rfl, hk.below, hk.size, _, _, [], hi, rfl⟩
set_option maxRecDepth 100000 in
set_option maxHeartbeats 1000000 in
theorem alive_calls (w : World) : Calls Try.prog 8 #[] w fun e' w' => e' = .returned (.bool true) ∧ Below w.heap.size w w' := by
  generalize hB : w.heap.size = B
  go_enter Try.func8, Try.ntmps8
  go_upto_region 4 with (go_at_call 7; refine (From.new w ⟨3, 2, 1, 0⟩ (by decide)).mono ?_; rw [hB]; rintro e' w1 ⟨e, rfl, hb1, hf1⟩; have B1 := Lib.hid hb1; have S1 := Lib.hid hf1; clear hb1 hf1)
  clear hB
  go_upto_region 5 with (go_at_call 20; refine (S1.out.push (key := 1) (by decide) 1 rfl (by decide)).mono ?_; rintro e' w2 ⟨v, rfl, hr, hb, hf⟩; have B2 := Lib.hid (B1.out.trans hb); have S2 := Lib.hid (show From B ⟨3, 2, 1, 0⟩ w2 e [1] from hf); clear hr hb hf)
  clear B1 S1
  go_upto_region 6 with (go_at_call 20; refine (S2.out.push (key := 2) (by decide) 1 rfl (by decide)).mono ?_; rintro e' w3 ⟨v, rfl, hr, hb, hf⟩; have B3 := Lib.hid (B2.out.trans hb); have S3 := Lib.hid (show From B ⟨3, 2, 1, 0⟩ w3 e [2, 1] from hf); clear hr hb hf)
  clear B2 S2
  go_upto_region 7 with (go_at_call 23; refine (S3.out.touch (key := 1) (by decide)).mono ?_; rintro e' w4 ⟨rfl, hb, hf⟩; have B4 := Lib.hid (B3.out.trans hb); have S4 := Lib.hid (show From B ⟨3, 2, 1, 0⟩ w4 e [1, 2] from hf); clear hb hf)
  clear B3 S3
  go_upto_region 8 with (go_at_call 20; refine (S4.out.push (key := 3) (by decide) 1 rfl (by decide)).mono ?_; rintro e' w5 ⟨v5, rfl, hr, hb, hf⟩; have B5 := Lib.hid (B4.out.trans hb); have S5 := Lib.hid (show From B ⟨3, 2, 1, 0⟩ w5 e [3, 1] from hf); have R5 := Lib.hid (show Ints .u64 w5 v5 [2] from hr); clear hr hb hf)
  clear B4 S4
  go_wp2_with fail
  have r5 : Ints .u64 (w5.alloc (.cells #[.int .u64 2] 31)) v5 [2] := R5.out.calm ((Kept.refl _ _).alloc _)
  have S6 := Lib.hid (S5.out.calm ((Kept.refl _ _).alloc (.cells #[.int .u64 2] 31)))
  have C6 : Calm w5 (w5.alloc (.cells #[.int .u64 2] 31)) := (Kept.refl _ _).alloc _
  have hlit := (Ints.lit (k := .u64) (xs := [2]) (Blk.new w5 #[.int .u64 2] 31))
  refine (Keys.Same_calls _ v5 _ [2] [2] r5.w hlit.w (by decide) (by decide)).mono ?_
  rintro e' w7 ⟨rfl, n7, rfl⟩
  rw [decide_eq_true rfl]
  have S7 := Lib.hid (S6.out.calm ((Kept.refl _ _).drewN n7))
  have B7 := Lib.hid (B5.out.trans ((C6.drewN n7).below (fun _ _ h => h) |>.mono S5.out.1))
  clear r5 hlit S6 C6
  generalize (w5.alloc (.cells #[.int .u64 2] 31)).drewN n7 = w7 at S7 B7 ⊢
  go_wp2_with (first | (go_at_call 13; refine (S7.out.kind _).mono ?_; rintro e' w' ⟨rfl, rfl⟩) | (go_at_call 25; refine S7.out.len.mono ?_; rintro e' w' ⟨rfl, rfl⟩))
  go_ret
  exact ⟨rfl, B7.out⟩
end
end Lru
end Go.Proofs.Ytekbgpfpnjddgaa
