/- Two states that are the same, as hutchref12.Same has it. -/
import Derived.Test.YtekbgpfpnjddgaaLruLM
import Derived.Test.YtekbgpfpnjddgaaPLruSame
import Derived.Test.YtekbgpfpnjddgaaLruRec
namespace Go.Proofs.Ytekbgpfpnjddgaa
open Go.RowKit Go.Proofs.YtekbgpfpnjddgaaW.PrintWords
open Go.Proofs.Ytekbgpfpnjddgaa.PLruLoads
namespace Lru
/-- A kept page. -/
def pg (k : Int) : S42 := ⟨k, 2, false, false⟩
theorem pages_l0 {l : List S42} (hl : l.length < 100000) : ∀ (k i : Nat), l.length - i < k → i ≤ l.length → hutchref12_Pages.l0 k l l i = some true
  | 0, _, h, _ => by omega
  | k + 1, i, h, hi => by
    unfold hutchref12_Pages.l0
    by_cases hlt : i < l.length
    · rw [if_pos (by omega), if_pos (by omega), if_pos (by omega), if_neg (by simp), wrap_succ (by omega)]
      exact pages_l0 hl k (i + 1) (by omega) (by omega)
    · rw [if_neg (by omega)]
theorem same_f (c : Conf) (n : Cnt) (l : List S42) (hl : l.length < 100000) {k : Nat} (hk : l.length + 2 < k) :
    hutchref12_Same.f k c.pol c.cap c.quota c.ghosts 0 l [] [] 0 0 n.n0 n.n1 n.n2 n.n3 n.n4 n.n5 n.n6 n.n7 n.n8 n.n9 c.pol c.cap c.quota c.ghosts 0 l [] [] 0 0 n.n0 n.n1 n.n2 n.n3 n.n4 n.n5 n.n6 n.n7 n.n8 n.n9 = some true := by
  obtain ⟨k, rfl⟩ : ∃ k', k = k' + 1 := ⟨k - 1, by omega⟩
  have h1 : hutchref12_Pages.f (k + 1) l l = some true := by
    unfold hutchref12_Pages.f
    rw [if_pos rfl]
    exact pages_l0 hl (k + 1) 0 (by omega) (Nat.zero_le _)
  have h2 : hutchref06_Same.f (k + 1) [] [] = some true := rfl
  unfold hutchref12_Same.f
  rw [h1, h2]
  simp
theorem pages_C {w : World} {base : Nat} {v : Value} {ks : List Int} (h : w.ownsRow base 42 4 v ks.length (ks.flatMap pageV)) (hl : ks.length ≤ 100000) :
    ∃ A cp, v = .slice A ks.length cp ∧ ks.length ≤ cp ∧ Kd.C k42 w A (ks.map pg).length (ks.map pg) := by
  rcases h.2 with ⟨rfl, h0⟩ | ⟨g, cap, cur, rfl, _, _, hnc, _⟩
  · have : ks = [] := List.eq_nil_of_length_eq_zero h0
    subst this
    exact ⟨none, 0, rfl, Nat.le_refl _, rfl, by simp, fun q => absurd q (Nat.lt_irrefl 0)⟩
  · refine ⟨_, cap, rfl, hnc, rfl, by rw [List.length_map]; omega, fun q => ⟨⟨g, 0, none⟩, rfl, ?_⟩⟩
    intro j p hp
    have hj : j < ks.length := by have := (List.getElem?_eq_some_iff.1 hp).1; simpa using this
    have ep : p = pg (ks.getD j 0) := by
      rw [List.getElem?_map, List.getElem?_eq_getElem hj] at hp
      rw [List.getD_eq_getElem?_getD, List.getElem?_eq_getElem hj]
      injection hp with hp
      exact hp.symm
    subst ep
    obtain ⟨g', cap', hg, p0, p1, p2, p3⟩ := pages_get h hj
    injection hg with hg1
    injection hg1 with hg1
    injection hg1 with hg1
    subst hg1
    refine ⟨[.int .u64 (ks.getD j 0), .int .i64 2, .bool false, .bool false], rfl, k42_mk w (pg (ks.getD j 0)), ?_⟩
    intro i u hu
    rw [Addr.add_lit, Nat.zero_add]
    have hi : i < 4 := by have := (List.getElem?_eq_some_iff.1 hu).1; simpa using this
    rcases (show i = 0 ∨ i = 1 ∨ i = 2 ∨ i = 3 by omega) with rfl | rfl | rfl | rfl
    · rw [← hu]; exact p0
    · rw [← hu]; exact p1
    · rw [← hu]; exact p2
    · rw [← hu]; exact p3
/-- An engine's state, and one with the same pages whose other lists are empty. -/
theorem Same_calls {w : World} (c : Conf) (n : Cnt) {base : Nat} {v : Value} {ks : List Int} (h : w.ownsRow base 42 4 v ks.length (ks.flatMap pageV)) (hl : ks.length ≤ 1000) (A : Option Addr) (cp : Nat) (hcp : ks.length ≤ cp) (hp : Kd.C k42 w A (ks.map pg).length (ks.map pg))
    (Aq : Option Addr) (cq : Nat) (Ag : Option Addr) (cg : Nat) :
    Calls Try.prog 18 #[stAgg c n v, .agg (inCells c 0 (.slice A ks.length cp) (.slice Aq 0 cq) (.slice Ag 0 cg) 0 0 n)] w fun e w' => e = .returned (.bool true) ∧ Calm w w' := by
  obtain ⟨B, cb, rfl, hcb, hB⟩ := pages_C h (by omega)
  have hnil : ∀ (A : Option Addr), Kd.C (Kd.int .u64) w A ([] : List Int).length [] := fun A => ⟨rfl, by simp, fun q => absurd q (Nat.lt_irrefl 0)⟩
  have := hutchref12_Same.calls (ks.length + 3) c.pol c.cap c.quota c.ghosts 0 B cb (ks.map pg) none 0 [] none 0 [] 0 0 n.n0 n.n1 n.n2 n.n3 n.n4 n.n5 n.n6 n.n7 n.n8 n.n9 c.pol c.cap c.quota c.ghosts 0 A cp (ks.map pg) Aq cq [] Ag cg [] 0 0 n.n0 n.n1 n.n2 n.n3 n.n4 n.n5 n.n6 n.n7 n.n8 n.n9 true w hB (by rw [List.length_map]; exact hcb) (hnil _) (Nat.zero_le _) (hnil _) (Nat.zero_le _) hp (by rw [List.length_map]; exact hcp) (hnil _) (Nat.zero_le _) (hnil _) (Nat.zero_le _) (same_f c n _ (by rw [List.length_map]; omega) (by rw [List.length_map]; omega))
  rw [List.length_map] at this
  refine Calls.mono this ?_
  rintro e w' ⟨he, hb⟩
  exact ⟨he, Kept.of_below hb _⟩
end Lru
end Go.Proofs.Ytekbgpfpnjddgaa
