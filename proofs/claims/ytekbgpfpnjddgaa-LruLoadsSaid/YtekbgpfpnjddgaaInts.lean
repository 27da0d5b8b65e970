/- Slices of whole numbers that are read. -/
import Derived.Test.YtekbgpfpnjddgaaMem
namespace Go.Proofs.Ytekbgpfpnjddgaa
open Go.RowKit

/-- v is a slice that reads as xs. -/
def Ints (k : IntKind) (w : World) (v : Value) (xs : List Int) : Prop :=
  ∃ A c, v = .slice A xs.length c ∧ xs.length ≤ c ∧ (xs = [] ∨ ∃ g off, A = some ⟨g, off, none⟩ ∧ ∀ i, i < xs.length → w.cell? ⟨g, off + i, none⟩ = some (.int k (xs.getD i 0)))
theorem Ints.nil (k : IntKind) (w : World) : Ints k w (.slice none 0 0) [] := ⟨none, 0, rfl, Nat.le_refl _, .inl rfl⟩
theorem Ints.of_owns {k : IntKind} {w : World} {base e n : Nat} {v : Value} {xs : List Int} (h : w.ownsRow base e 1 v n (xs.map (Value.int k))) : Ints k w v xs := by
  have hn : n = xs.length := by have := h.1; simp at this; omega
  subst hn
  rcases h.2 with ⟨rfl, h0⟩ | ⟨g, cap, cur, rfl, _, hgb, hnc, _, hcs, htake⟩
  · have : xs = [] := List.eq_nil_of_length_eq_zero h0
    subst this
    exact Ints.nil k w
  · refine ⟨_, cap, rfl, hnc, .inr ⟨g, 0, rfl, fun i hi => ?_⟩⟩
    simp only [World.cell?, hgb, Nat.zero_add]
    have h1 : cur.toList[i]? = some (.int k (xs.getD i 0)) := by
      rw [← List.getElem?_take_of_lt (j := xs.length * 1) (by omega), htake, List.getElem?_map, List.getElem?_eq_getElem hi, List.getD_eq_getElem?_getD, List.getElem?_eq_getElem hi]
      rfl
    rw [Array.getElem?_toList] at h1
    exact h1
theorem Ints.same {k : IntKind} {w w' : World} {v : Value} {xs : List Int} (h : Ints k w v xs) (hs : ∀ b o u, w.cell? ⟨b, o, none⟩ = some u → v.ownBlock = some b → w'.cell? ⟨b, o, none⟩ = some u) : Ints k w' v xs := by
  obtain ⟨A, c, rfl, hc, h⟩ := h
  refine ⟨A, c, rfl, hc, h.imp id ?_⟩
  rintro ⟨g, off, rfl, hcell⟩
  exact ⟨g, off, rfl, fun i hi => hs _ _ _ (hcell i hi) rfl⟩
theorem cell_kept {F : Nat → Prop} {w w' : World} (hk : Kept F w w') {b o : Nat} {u : Value} (h : w.cell? ⟨b, o, none⟩ = some u) (hF : ¬ F b) : w'.cell? ⟨b, o, none⟩ = some u :=
  (World.cell?_of_block (hk.block b (World.block_lt_of_cell? w _ h) hF)).trans h
theorem Ints.kept {F : Nat → Prop} {k : IntKind} {w w' : World} {v : Value} {xs : List Int} (h : Ints k w v xs) (hk : Kept F w w') (hF : ∀ b, v.ownBlock = some b → ¬ F b) : Ints k w' v xs :=
  h.same (fun _ _ _ hc hb => cell_kept hk hc (hF _ hb))
theorem Ints.calm {k : IntKind} {w w' : World} {v : Value} {xs : List Int} (h : Ints k w v xs) (hk : Calm w w') : Ints k w' v xs := h.kept hk (fun _ _ h => h)
theorem Ints.below {k : IntKind} {w w' : World} {v : Value} {xs : List Int} (h : Ints k w v xs) (hk : Below w.heap.size w w') : Ints k w' v xs := h.calm (Kept.of_below hk _)
/-- The same for an argument: its address may be any. -/
def IntsW (k : IntKind) (w : World) (v : Value) (xs : List Int) : Prop :=
  ∃ A c, v = .slice A xs.length c ∧ xs.length ≤ c ∧ (xs = [] ∨ ∃ ad, A = some ad ∧ ∀ i, i < xs.length → w.cell? (ad.add i) = some (.int k (xs.getD i 0)))
theorem cell_kept' {F : Nat → Prop} {w w' : World} (hk : Kept F w w') {p : Addr} {u : Value} (h : w.cell? p = some u) (hF : ¬ F p.block) : w'.cell? p = some u :=
  (World.cell?_of_block (hk.block p.block (World.block_lt_of_cell? w _ h) hF)).trans h
/-- An argument that is a slice of whole numbers, as the row opens it. -/
def RowArg (k : IntKind) (w : World) (a : Option Addr) (len cap : Nat) (zs : List Int) : Prop :=
  (a = none ∧ len = 0 ∧ cap = 0 ∧ zs = []) ∨ ∃ x, a = some x ∧ len ≤ cap ∧ cap ≤ maxLen ∧ zs.length = cap ∧ (∀ i, i < zs.length → w.cell? (x.add i) = some (.int k (zs.getD i 0))) ∧ ∀ n ∈ zs, (Lit.int k n).wf = true
theorem RowArg.ints {k : IntKind} {w : World} {a : Option Addr} {len cap : Nat} {zs : List Int} (h : RowArg k w a len cap zs) : IntsW k w (.slice a len cap) (zs.take len) := by
  rcases h with ⟨rfl, rfl, rfl, rfl⟩ | ⟨x, rfl, hl, _, hz, hc, _⟩
  · exact ⟨none, 0, rfl, Nat.le_refl _, .inl rfl⟩
  · have e : (zs.take len).length = len := by rw [List.length_take]; omega
    refine ⟨some x, cap, by rw [e], by omega, .inr ⟨x, rfl, fun i hi => ?_⟩⟩
    rw [hc i (by omega), List.getD_eq_getElem?_getD, List.getD_eq_getElem?_getD, List.getElem?_take_of_lt (by omega)]
theorem RowArg.wfs {k : IntKind} {w : World} {a : Option Addr} {len cap : Nat} {zs : List Int} (h : RowArg k w a len cap zs) : ∀ n ∈ zs.take len, (Lit.int k n).wf = true := by
  intro n hn
  rcases h with ⟨rfl, rfl, rfl, rfl⟩ | ⟨x, rfl, hl, _, hz, hc, hw⟩
  · cases hn
  · exact hw n (List.mem_of_mem_take hn)
theorem of_wf {k : IntKind} {n : Int} (h : (Lit.int k n).wf = true) : k.min ≤ n ∧ n ≤ k.max := by
  simpa [Lit.wf] using h
theorem u8_of_wf {n : Int} (h : (Lit.int .u8 n).wf = true) : 0 ≤ n ∧ n ≤ 255 := of_wf h
theorem u64_of_wf {n : Int} (h : (Lit.int .u64 n).wf = true) : 0 ≤ n ∧ n ≤ 18446744073709551615 := of_wf h
theorem i32_of_wf {n : Int} (h : (Lit.int .i32 n).wf = true) : -2147483648 ≤ n ∧ n ≤ 2147483647 := of_wf h
theorem i64_of_wf {n : Int} (h : (Lit.int .i64 n).wf = true) : -9223372036854775808 ≤ n ∧ n ≤ 9223372036854775807 := of_wf h
/-- A literal's block. -/
theorem Ints.lit {k : IntKind} {w : World} {b : Nat} {xs : List Int} (h : Blk w b (xs.map (Value.int k)).toArray) : Ints k w (.slice (some ⟨b, 0, none⟩) xs.length xs.length) xs :=
  ⟨_, _, rfl, Nat.le_refl _, .inr ⟨b, 0, rfl, fun i hi => by
    rw [Nat.zero_add, h.cell, List.getElem?_toArray, List.getElem?_map, List.getElem?_eq_getElem hi, List.getD_eq_getElem?_getD, List.getElem?_eq_getElem hi]; rfl⟩⟩
theorem Ints.cell {k : IntKind} {w : World} {A : Option Addr} {n c : Nat} {xs : List Int} (h : Ints k w (.slice A n c) xs) : n = xs.length ∧ n ≤ c ∧ (xs = [] ∨ ∃ g off, A = some ⟨g, off, none⟩ ∧ ∀ i, i < xs.length → w.cell? ⟨g, off + i, none⟩ = some (.int k (xs.getD i 0))) := by
  obtain ⟨A', c', he, hc, h⟩ := h
  cases he
  exact ⟨rfl, hc, h⟩
theorem Ints.take {k : IntKind} {w : World} {A : Option Addr} {n c : Nat} {xs : List Int} (h : Ints k w (.slice A n c) xs) (m : Nat) (hm : m ≤ xs.length) : Ints k w (.slice A m c) (xs.take m) := by
  obtain ⟨rfl, hc, h⟩ := h.cell
  have e : (xs.take m).length = m := by rw [List.length_take]; omega
  refine ⟨A, c, by rw [e], by omega, ?_⟩
  rcases h with rfl | ⟨g, off, rfl, hcell⟩
  · exact .inl (by simp)
  · refine .inr ⟨g, off, rfl, fun i hi => ?_⟩
    rw [hcell i (by omega), List.getD_eq_getElem?_getD, List.getD_eq_getElem?_getD, List.getElem?_take_of_lt (by omega)]
end Go.Proofs.Ytekbgpfpnjddgaa
