/- A range over a function: what abides, and what a round that appends keeps. -/
import Derived.Test.YthjgjfelbagljaaIter
import Derived.Maps.OwnIn
import Derived.Maps.AppendAt
namespace Go.Proofs.Ythjgjfelbagljaa
open Go.RowKit

theorem Boxed.mine {Bs : List Nat} {n₀ : Nat} {W W' : World} {B : Nat} {t : TypeId} {v : Value} (h : Boxed W B t v) (hm : Mine Bs n₀ W W') (hB : B < n₀) : Boxed W' B t v := (hm.kept B h.lt (.inl hB)).trans h
theorem Blk.mine {Bs : List Nat} {n₀ : Nat} {W W' : World} {b : Nat} {cs : Array Value} (h : Blk W b cs) (hm : Mine Bs n₀ W W') (hB : b < n₀) : Blk W' b cs := h.of_eq (hm.kept b h.lt (.inl hB))
theorem ownsRow_mine {Bs : List Nat} {n₀ : Nat} {W W' : World} {B : Nat} {base : Nat} {t e : TypeId} {size : Nat} {v : Value} {k : Nat} {xs : List Value} (h : W.ownsRow base e size v k xs) (hb : Boxed W B t v) (hB : B ∈ Bs) (hm : Mine Bs n₀ W W') : W'.ownsRow base e size v k xs := by
  refine ⟨h.1, ?_⟩
  rcases h.2 with h2 | ⟨g, cap, cur, hv, hg, hh, r⟩
  · exact .inl h2
  · refine .inr ⟨g, cap, cur, hv, hg, ?_, r⟩
    refine (hm.kept g (Array.getElem?_eq_some_iff.1 hh).1 (.inr ⟨⟨B, hB, 0, v, hb.cell, by rw [hv]; rfl⟩, _, hh, rfl⟩)).trans hh
theorem abiding_holds {Bs : List Nat} {n₀ : Nat} {β : Type} (base B : Nat) (t e : TypeId) (size : Nat) (k : β → Nat) (f : β → List Value) (G : β → Value → Prop) (hB : B ∈ Bs) (hn : B < n₀) :
    Abiding Bs n₀ (fun s W => ∃ v, Boxed W B t v ∧ W.ownsRow base e size v (k s) (f s) ∧ G s v) :=
  fun _ _ _ ⟨v, hv, hr, hG⟩ hm => ⟨v, Boxed.mine hv hm hn, ownsRow_mine hr hv hB hm, hG⟩
theorem abiding_below {Bs : List Nat} {n₀ n : Nat} {β : Type} {w₀ : World} (hn : n ≤ n₀) (hs : n ≤ w₀.heap.size) : Abiding Bs n₀ (fun (_ : β) W => Below n w₀ W) :=
  fun _ W W' h hm => ⟨hm.os.trans h.os, hm.tape.trans h.tape, hm.output.trans h.output, Nat.le_trans h.size hm.size, fun k hk => (hm.kept k (by have := h.size; omega) (.inl (by omega))).trans (h.block k hk)⟩
theorem abiding_kept {Bs : List Nat} {n₀ : Nat} {β : Type} {G : Nat → Prop} {w₀ : World} (hs : w₀.heap.size ≤ n₀) : Abiding Bs n₀ (fun (_ : β) W => Kept G w₀ W) :=
  fun _ W W' h hm => ⟨hm.os.trans h.os, hm.tape.trans h.tape, hm.output.trans h.output, Nat.le_trans h.size hm.size, fun k hk hG => (hm.kept k (by have := h.size; omega) (.inl (by omega))).trans (h.block k hk hG)⟩
theorem abiding_size {Bs : List Nat} {n₀ m : Nat} {β : Type} : Abiding Bs n₀ (fun (_ : β) W => m ≤ W.heap.size) := fun _ _ _ h hm => Nat.le_trans h hm.size
theorem mine_of_below {Bs : List Nat} {n₀ : Nat} {W W' : World} (h : Below n₀ W W') (hn : W.heap.size ≤ n₀) : Mine Bs n₀ W W' := ⟨h.os, h.tape, h.output, h.size, fun k hk _ => h.block k (by omega)⟩

/-- A step that turns blocks below n₀ alone, or new ones, and points none of the boxes elsewhere. -/
theorem Yours.of_kept {Bs : List Nat} {n₀ : Nat} {F : Nat → Prop} {W W' : World} (h : Kept F W W') (hF : ∀ k, n₀ ≤ k → k < W.heap.size → ¬ F k) (hB : ∀ B ∈ Bs, B < W.heap.size ∧ ¬ F B) : Yours Bs n₀ W W' := by
  refine ⟨h.size, fun k hk => ?_, fun k hn hk _ => h.block k hk (hF k hn hk)⟩
  by_cases hkW : k < W.heap.size
  · by_cases hkn : n₀ ≤ k
    · left
      obtain ⟨⟨B, hb, o, v, hc, hv⟩, ob, hob, hcl⟩ := hk
      refine ⟨⟨B, hb, o, v, ?_, hv⟩, ob, ?_, hcl⟩
      · rw [← World.cell?_of_block (w := W) (w' := W') (a := ⟨B, o, none⟩) (h.block B (hB B hb).1 (hB B hb).2)]; exact hc
      · rw [← h.block k hkW (hF k hkn hkW)]; exact hob
    · exact .inr (.inr (by omega))
  · exact .inr (.inl (by omega))

/-- A store into a box. -/
theorem Yours.setBox {Bs : List Nat} {n₀ : Nat} {W : World} {B : Nat} {t : TypeId} {u v : Value} (hb : Boxed W B t u) (hB : B < n₀) (hv : v.ownBlock = none ∨ ∀ g, v.ownBlock = some g → Own Bs W g ∨ g < n₀) : Yours Bs n₀ W (W.setCell ⟨B, 0, none⟩ v) := by
  have hset := hb.set v
  refine ⟨by simp, fun k hk => ?_, fun k hn hk _ => Below.heap_setCell _ _ _ _ (by simp; omega)⟩
  obtain ⟨⟨B', hb', o, x, hc, hx⟩, ob, hob, hcl⟩ := hk
  by_cases e : B' = B
  · subst e
    have h1 := World.cell?_setCell_same W ⟨B', 0, none⟩ v hb.cell
    by_cases ho : o = 0
    · subst ho
      rw [h1] at hc
      cases hc
      rcases hv with h2 | h2
      · rw [h2] at hx; cases hx
      · rcases h2 k hx with h3 | h3
        · exact .inl h3
        · exact .inr (.inr h3)
    · exfalso
      unfold World.cell? at hc
      rw [show (W.setCell ⟨B', 0, none⟩ v).heap[B']? = _ from hset] at hc
      cases o with
      | zero => exact ho rfl
      | succ o => simp at hc
  · left
    refine ⟨⟨B', hb', o, x, ?_, hx⟩, ?_⟩
    · rw [← World.cell?_setCell_other W ⟨B, 0, none⟩ ⟨B', o, none⟩ v (fun h => e (by cases h; rfl))]; exact hc
    · by_cases ek : k = B
      · subst ek
        exact ⟨_, hb, rfl⟩
      · rw [Below.heap_setCell _ _ _ _ (by simpa using ek)] at hob
        exact ⟨ob, hob, hcl⟩

/-- 'out = append(out, ..)': what the round owes its iterator. -/
theorem Yours.appended {Bs : List Nat} {W w1 : World} {n₀ base B : Nat} {t e : TypeId} {size : Nat} {v v' : Value} {k m : Nat} {xs ys : List Value} {tmp : Obj}
    (hv : Boxed W B t v) (hte : t ≠ e) (hrow : W.ownsRow base e size v k xs) (hBs : B ∈ Bs) (hB : B < n₀)
    (_ : w1.ownsRow base e size v' m ys) (hgrow : (W.alloc tmp).grownBy w1 v.ownBlock) (hat : v'.ownBlock = v.ownBlock ∨ v'.ownBlock = some (W.alloc tmp).heap.size) (hall : ∀ B' ∈ Bs, B' < n₀ ∧ B' < W.heap.size ∧ some B' ≠ v.ownBlock) :
    Yours Bs n₀ W (w1.setCell ⟨B, 0, none⟩ v') := by
  have hv1 : Boxed w1 B t v := (hv.alloc tmp).kept hgrow (hv.not_row hte hrow)
  have hown : ∀ g, v.ownBlock = some g → Own Bs W g := fun g hg => by
    refine ⟨⟨B, hBs, 0, v, hv.cell, hg⟩, ?_⟩
    rcases hrow.2 with ⟨rfl, _⟩ | ⟨g', cap, cur, rfl, _, hgb, _⟩
    · cases hg
    · simp [Value.ownBlock] at hg
      subst hg
      exact ⟨_, hgb, rfl⟩
  have hsame : ∀ j, j < W.heap.size → some j ≠ v.ownBlock → w1.heap[j]? = W.heap[j]? := fun j hj hne => by
    rw [hgrow.block j (by simp; omega) hne, Below.heap_alloc _ _ _ hj]
  have hsz : W.heap.size ≤ w1.heap.size := by have := hgrow.size; simp at this; omega
  have hset : Boxed (w1.setCell ⟨B, 0, none⟩ v') B t v' := hv1.set v'
  refine ⟨by simpa using hsz, fun j hj => ?_, fun j hn hj ho => ?_⟩
  · by_cases hjW : j < W.heap.size
    · by_cases hjn : j < n₀
      · exact .inr (.inr hjn)
      · left
        obtain ⟨⟨B', hb', o, x, hc, hx⟩, ob, hob, hcl⟩ := hj
        have ejB : j ≠ B := by omega
        rw [Below.heap_setCell _ _ _ _ (by simpa using ejB)] at hob
        by_cases e : B' = B
        · subst e
          cases o with
          | zero =>
            rw [hset.cell] at hc
            cases hc
            rcases hat with h2 | h2
            · rw [h2] at hx; exact hown j hx
            · rw [h2] at hx; simp at hx; omega
          | succ o =>
            exfalso
            unfold World.cell? at hc
            rw [show (w1.setCell ⟨B', 0, none⟩ v').heap[B']? = _ from hset] at hc
            simp at hc
        · by_cases hne : some j = v.ownBlock
          · exact hown j hne.symm
          · refine ⟨⟨B', hb', o, x, ?_, hx⟩, ob, by rw [← hsame j hjW hne]; exact hob, hcl⟩
            rw [World.cell?_setCell_other w1 ⟨B, 0, none⟩ ⟨B', o, none⟩ v' (fun h => e (by cases h; rfl))] at hc
            rw [← World.cell?_of_block (w := W) (w' := w1) (a := ⟨B', o, none⟩) (hsame B' (hall B' hb').2.1 (hall B' hb').2.2)]
            exact hc
    · exact .inr (.inl (by omega))
  · have hne : some j ≠ v.ownBlock := fun h => ho (hown j h.symm)
    rw [Below.heap_setCell _ _ _ _ (by simp; omega)]
    exact hsame j hj hne

/-- Behind 'out = append(out, ..)': the box still holds v when the store comes; behind it it holds v', which owns the longer row. -/
theorem boxed_appended {W w1 : World} {n base B : Nat} {t e : TypeId} {size : Nat} {v v' : Value} {k m : Nat} {xs ys : List Value} {tmp : Obj}
    (hv : Boxed W B t v) (hte : t ≠ e) (hrow : W.ownsRow base e size v k xs) (hn : n ≤ W.heap.size) (hb : n ≤ base) (hB : n ≤ B)
    (hown' : w1.ownsRow base e size v' m ys) (hgrow : (W.alloc tmp).grownBy w1 v.ownBlock) :
    Boxed w1 B t v ∧ Boxed (w1.setCell ⟨B, 0, none⟩ v') B t v' ∧ (w1.setCell ⟨B, 0, none⟩ v').ownsRow base e size v' m ys ∧ Below n W (w1.setCell ⟨B, 0, none⟩ v') := by
  have hv1 : Boxed w1 B t v := (hv.alloc tmp).kept hgrow (hv.not_row hte hrow)
  refine ⟨hv1, hv1.set v', hown'.kept (grownBy_setCell' w1 B v') (.inr (hv1.not_row hte hown').symm), ?_⟩
  refine (((Below.refl n W).alloc hn tmp).grown hgrow (by simp; omega) fun j ej => ?_).setCell (p := ⟨B, 0, none⟩) hB v'
  have := (hrow.lt) j ej
  omega
theorem Kept.appended {W w1 : World} {F : Nat → Prop} {base B : Nat} {e : TypeId} {size : Nat} {v v' : Value} {k : Nat} {xs : List Value} {tmp : Obj}
    (hrow : W.ownsRow base e size v k xs) (hgrow : (W.alloc tmp).grownBy w1 v.ownBlock) (hB : F B) (hF : ∀ j, base ≤ j → F j) : Kept F W (w1.setCell ⟨B, 0, none⟩ v') := by
  refine ⟨hgrow.os, hgrow.tape, hgrow.output, by have := hgrow.size; simp at this ⊢; omega, fun j hj hn => ?_⟩
  rw [Below.heap_setCell _ _ _ _ (fun h => hn (by rw [h]; exact hB)), hgrow.block j (by simp; omega) (fun h => hn ?_), Below.heap_alloc _ _ _ hj]
  exact hF j ((hrow.lt) j h.symm).1
end Go.Proofs.Ythjgjfelbagljaa
