/- Pairs of a number and something: taking out, and finding. -/
import Derived.WalkKit
namespace Go.Proofs.Ytekbgpfpnjddgaa
namespace Assoc
variable {β : Type}
def del (L : List (Int × β)) (k : Int) : List (Int × β) := L.filter (fun x => !(x.1 == k))
theorem mem_del {L : List (Int × β)} {k : Int} {x : Int × β} : x ∈ del L k ↔ x ∈ L ∧ x.1 ≠ k := by simp [del]
theorem nd_del {L : List (Int × β)} (h : (L.map Prod.fst).Nodup) (k : Int) : ((del L k).map Prod.fst).Nodup :=
  List.Nodup.sublist (List.Sublist.map _ List.filter_sublist) h
theorem del_none {L : List (Int × β)} {k : Int} (h : ∀ v, (k, v) ∉ L) : del L k = L := by
  unfold del
  rw [List.filter_eq_self]
  intro x hx
  obtain ⟨a, v⟩ := x
  simp only [Bool.not_eq_true', beq_eq_false_iff_ne, ne_eq]
  rintro rfl
  exact h v hx
theorem len_del : ∀ {L : List (Int × β)} {k : Int} {v : β}, (L.map Prod.fst).Nodup → (k, v) ∈ L → (del L k).length + 1 = L.length
  | [], k, v, _, h => by cases h
  | (a, u) :: L, k, v, hn, h => by
    rw [List.map_cons, List.nodup_cons] at hn
    by_cases c : a = k
    · subst c
      have h2 : ∀ v, (a, v) ∉ L := fun v q => hn.1 (List.mem_map.2 ⟨_, q, rfl⟩)
      have e : del ((a, u) :: L) a = del L a := by simp [del]
      rw [e, del_none h2]; rfl
    · have h2 : (k, v) ∈ L := by
        rcases List.mem_cons.1 h with h | h
        · injection h with h _; exact absurd h.symm c
        · exact h
      have e : del ((a, u) :: L) k = (a, u) :: del L k := by simp [del, c]
      rw [e, List.length_cons, List.length_cons, len_del hn.2 h2]
theorem uniq {L : List (Int × β)} (hn : (L.map Prod.fst).Nodup) {k : Int} {v u : β} (h : (k, v) ∈ L) (h2 : (k, u) ∈ L) : v = u := by
  induction L with
  | nil => cases h
  | cons y L ih =>
    rw [List.map_cons, List.nodup_cons] at hn
    rcases List.mem_cons.1 h with q | q
    · rcases List.mem_cons.1 h2 with q2 | q2
      · rw [← q2] at q; injection q
      · exact absurd (List.mem_map.2 ⟨_, q2, by rw [← q]⟩) hn.1
    · rcases List.mem_cons.1 h2 with q2 | q2
      · exact absurd (List.mem_map.2 ⟨_, q, by rw [← q2]⟩) hn.1
      · exact ih (h := q) (h2 := q2) hn.2
end Assoc
end Go.Proofs.Ytekbgpfpnjddgaa
