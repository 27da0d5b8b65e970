/- Keys that are asked, as plain lists: what came last. -/
import Derived.Test.YtekbgpfpnjddgaaLruLawA
namespace Go.Proofs.Ytekbgpfpnjddgaa
namespace Lru
/-- Keys of unlike kinds, each where it comes first. -/
def firsts : List Int → List Int
  | [] => []
  | k :: r => k :: without (firsts r) k
theorem mem_without {ks : List Int} {k x : Int} : x ∈ without ks k ↔ x ∈ ks ∧ x ≠ k := by simp [without]
theorem mem_firsts {x : Int} : ∀ l, x ∈ firsts l ↔ x ∈ l
  | [] => by simp [firsts]
  | k :: r => by
    rw [firsts, List.mem_cons, List.mem_cons, mem_without, mem_firsts r]
    by_cases h : x = k <;> simp [h]
theorem nodup_without {ks : List Int} (h : ks.Nodup) (k : Int) : (without ks k).Nodup := h.filter _
theorem nodup_firsts : ∀ l, (firsts l).Nodup
  | [] => List.nodup_nil
  | k :: r => List.nodup_cons.2 ⟨fun h => (mem_without.1 h).2 rfl, nodup_without (nodup_firsts r) k⟩
theorem without_cons_ne {a k : Int} (h : a ≠ k) (l : List Int) : without (a :: l) k = a :: without l k := by
  unfold without; rw [List.filter_cons]; simp [h]
theorem without_cons_eq (k : Int) (l : List Int) : without (k :: l) k = without l k := by
  unfold without; rw [List.filter_cons]; simp
theorem take_without (k : Int) : ∀ (D : List Int) (N : Nat), D.Nodup → (without D k).take N = if k ∈ D.take (N + 1) then without (D.take (N + 1)) k else D.take N
  | [], N, _ => by simp [without]
  | a :: D, N, hn => by
    rw [List.nodup_cons] at hn
    by_cases ha : a = k
    · subst ha
      rw [without_cons_eq, without_not hn.1, List.take_succ_cons, if_pos (List.mem_cons_self ..), without_cons_eq, without_not (fun h => hn.1 (List.mem_of_mem_take h))]
    · rw [without_cons_ne ha]
      have hak : ¬ k = a := fun q => ha q.symm
      cases N with
      | zero => simp [hak]
      | succ N =>
        rw [List.take_succ_cons, take_without k D N hn.2, List.take_succ_cons]
        by_cases hm : k ∈ D.take (N + 1)
        · rw [if_pos hm, if_pos (List.mem_cons_of_mem _ hm), without_cons_ne ha]
        · rw [if_neg hm, if_neg (by simp [hak, hm]), List.take_succ_cons]
/-- Behind keys that were asked, one by one. -/
theorem ask_firsts (most : Nat) (r : List Int) (k : Int) : ask most ((firsts r).take (most + 1)) k = (firsts (k :: r)).take (most + 1) := by
  unfold ask
  rw [firsts, List.take_succ_cons, take_without k _ most (nodup_firsts r)]
  by_cases h : k ∈ (firsts r).take (most + 1)
  · rw [if_pos h, if_pos h]
  · rw [if_neg h, if_neg h, List.take_take, Nat.min_eq_left (by omega)]
theorem firsts_snoc (x : Int) : ∀ l, firsts (l ++ [x]) = if x ∈ l then firsts l else firsts l ++ [x]
  | [] => by simp [firsts, without]
  | k :: r => by
    rw [List.cons_append, firsts, firsts_snoc x r, firsts]
    by_cases hk : x = k
    · subst hk
      rw [if_pos (List.mem_cons_self ..)]
      by_cases hr : x ∈ r
      · rw [if_pos hr]
      · rw [if_neg hr]
        unfold without
        rw [List.filter_append]
        simp
    · have e : (x ∈ k :: r) = (x ∈ r) := by simp [hk]
      simp only [e]
      by_cases hr : x ∈ r
      · rw [if_pos hr, if_pos hr]
      · rw [if_neg hr, if_neg hr]
        unfold without
        rw [List.filter_append]
        simp [hk]
theorem firsts_prefix : ∀ (t l : List Int), ∃ s, firsts (l ++ t) = firsts l ++ s
  | [], l => ⟨[], by simp⟩
  | x :: t, l => by
    obtain ⟨s, hs⟩ := firsts_prefix t (l ++ [x])
    rw [List.append_assoc] at hs
    rw [firsts_snoc] at hs
    split at hs
    · exact ⟨s, hs⟩
    · exact ⟨x :: s, by rw [show l ++ x :: t = l ++ ([x] ++ t) from rfl, hs]; simp⟩
theorem firsts_length (l : List Int) : (firsts l).length ≤ l.length := by
  induction l with
  | nil => simp [firsts]
  | cons k r ih =>
    have : (without (firsts r) k).length ≤ (firsts r).length := List.length_filter_le ..
    simp only [firsts, List.length_cons]
    omega
end Lru
end Go.Proofs.Ytekbgpfpnjddgaa
