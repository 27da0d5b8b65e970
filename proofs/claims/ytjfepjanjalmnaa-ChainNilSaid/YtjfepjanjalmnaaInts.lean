/- Slices of whole numbers that are read. -/
import Derived.Test.YtjfepjanjalmnaaMem
namespace Go.Proofs.Ytjfepjanjalmnaa
open Go.RowKit

/-- v is a slice that reads as xs. -/
def Ints (k : IntKind) (w : World) (v : Value) (xs : List Int) : Prop :=
  ∃ A c, v = .slice A xs.length c ∧ xs.length ≤ c ∧ (xs = [] ∨ ∃ g off, A = some ⟨g, off, none⟩ ∧ ∀ i, i < xs.length → w.cell? ⟨g, off + i, none⟩ = some (.int k (xs.getD i 0)))
theorem Ints.nil (k : IntKind) (w : World) : Ints k w (.slice none 0 0) [] := ⟨none, 0, rfl, Nat.le_refl _, .inl rfl⟩
theorem Ints.of_owns {k : IntKind} {w : World} {base e n : Nat} {v : Value} {xs : List Int} (h : w.ownsRow base e 1 v n (xs.map (Value.int k))) : Ints k w v xs := by
  have hn : n = xs.length := by have := h.1; simp at this; omega
  subst hn
  rcases h.2 with ⟨rfl, h0⟩ | ⟨g, cap, cur, rfl, _, hgb, hnc, _, hcs, htake⟩
  · have : xs = [] := List.eq_nil_of_length_eq_zero h0
    subst this
    exact Ints.nil k w
  · refine ⟨_, cap, rfl, hnc, .inr ⟨g, 0, rfl, fun i hi => ?_⟩⟩
    simp only [World.cell?, hgb, Nat.zero_add]
    have h1 : cur.toList[i]? = some (.int k (xs.getD i 0)) := by
      rw [← List.getElem?_take_of_lt (j := xs.length * 1) (by omega), htake, List.getElem?_map, List.getElem?_eq_getElem hi, List.getD_eq_getElem?_getD, List.getElem?_eq_getElem hi]
      rfl
    rw [Array.getElem?_toList] at h1
    exact h1
theorem Ints.same {k : IntKind} {w w' : World} {v : Value} {xs : List Int} (h : Ints k w v xs) (hs : ∀ b o u, w.cell? ⟨b, o, none⟩ = some u → v.ownBlock = some b → w'.cell? ⟨b, o, none⟩ = some u) : Ints k w' v xs := by
  obtain ⟨A, c, rfl, hc, h⟩ := h
  refine ⟨A, c, rfl, hc, h.imp id ?_⟩
  rintro ⟨g, off, rfl, hcell⟩
  exact ⟨g, off, rfl, fun i hi => hs _ _ _ (hcell i hi) rfl⟩
theorem cell_kept {F : Nat → Prop} {w w' : World} (hk : Kept F w w') {b o : Nat} {u : Value} (h : w.cell? ⟨b, o, none⟩ = some u) (hF : ¬ F b) : w'.cell? ⟨b, o, none⟩ = some u :=
  (World.cell?_of_block (hk.block b (World.block_lt_of_cell? w _ h) hF)).trans h
theorem Ints.kept {F : Nat → Prop} {k : IntKind} {w w' : World} {v : Value} {xs : List Int} (h : Ints k w v xs) (hk : Kept F w w') (hF : ∀ b, v.ownBlock = some b → ¬ F b) : Ints k w' v xs :=
  h.same (fun _ _ _ hc hb => cell_kept hk hc (hF _ hb))
theorem Ints.calm {k : IntKind} {w w' : World} {v : Value} {xs : List Int} (h : Ints k w v xs) (hk : Calm w w') : Ints k w' v xs := h.kept hk (fun _ _ h => h)
theorem Ints.below {k : IntKind} {w w' : World} {v : Value} {xs : List Int} (h : Ints k w v xs) (hk : Below w.heap.size w w') : Ints k w' v xs := h.calm (Kept.of_below hk _)
/-- A literal's block. -/
theorem Ints.lit {k : IntKind} {w : World} {b : Nat} {xs : List Int} (h : Blk w b (xs.map (Value.int k)).toArray) : Ints k w (.slice (some ⟨b, 0, none⟩) xs.length xs.length) xs :=
  ⟨_, _, rfl, Nat.le_refl _, .inr ⟨b, 0, rfl, fun i hi => by
    rw [Nat.zero_add, h.cell, List.getElem?_toArray, List.getElem?_map, List.getElem?_eq_getElem hi, List.getD_eq_getElem?_getD, List.getElem?_eq_getElem hi]; rfl⟩⟩
theorem Ints.cell {k : IntKind} {w : World} {A : Option Addr} {n c : Nat} {xs : List Int} (h : Ints k w (.slice A n c) xs) : n = xs.length ∧ n ≤ c ∧ (xs = [] ∨ ∃ g off, A = some ⟨g, off, none⟩ ∧ ∀ i, i < xs.length → w.cell? ⟨g, off + i, none⟩ = some (.int k (xs.getD i 0))) := by
  obtain ⟨A', c', he, hc, h⟩ := h
  cases he
  exact ⟨rfl, hc, h⟩
end Go.Proofs.Ytjfepjanjalmnaa
