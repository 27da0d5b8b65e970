/- A range over a function whose loop boxes what it is handed. -/
import Derived.Test.YthjgjfelbagljaaIterB
namespace Go.Proofs.Ythjgjfelbagljaa
open Go.RowKit
variable {F : Fence} {n : Nat} {P : Program}
/-- The box of a round stands where the loop's own record turns. -/
theorem Blk.putObj {W : World} {q l : Nat} {cs : Array Value} {o o' : Obj} (h : Blk W q cs) (hl : W.heap[l]? = some o) (ho : o.isCells = false) : Blk (W.putObj l o') q cs := by
  refine h.of_eq (World.putObj_heap_other (fun e => ?_))
  subst e
  obtain ⟨t, h⟩ := h
  rw [h] at hl
  cases hl
  cases ho
theorem rangeFunc_box {α : Type} (T : Array Value → α → Nat → Array Value) (bx : α → Array Value) {g : Operand} {ps : Array Tmp} {assign body : Code} {Q : Exit → Act → World → Prop} {a : Act} {w : World}
    (hro : F.round = none) (h1 : 1 ≤ n) {gf : Nat} {lb : Array Value} (hg : a.eval g = .func (.func gf) #[] lb) (hFg : F.fn gf) (eg : ∀ args w, (callFunc gf args).run P w = .ok (.enter gf args) w)
    {encs : α → Array Value} {Kp : World → World → Prop} {S Sp : List α → Prop} {N : Nat} {Bs : List Nat} {w0 : World} (hseq : Iter F (n - 1) P gf lb encs Kp S Sp N Bs w0)
    (hKt : ∀ {A B C : World}, Kp A B → Kp B C → Kp A C) (hKb : ∀ (W : World) (l : Nat) (o o' : Obj), w.heap.size ≤ l → W.heap[l]? = some o → o.isCells = false → o'.isCells = false → Kp W (W.putObj l o'))
    (hb0 : Below w0.heap.size w0 w) (hBs : ∀ B ∈ Bs, B < w.heap.size) (hsn : Snug Bs w) (hps : ∀ x, (encs x).size = ps.size)
    (I : List α → World → Prop) (Ix : Code → List α → World → Prop) (hI : Abiding Bs w.heap.size I) (hIx : ∀ c, Abiding Bs w.heap.size (Ix c)) (h0 : I [] w)
    (hassign : ∀ (l : Nat) (pre : List α) (x : α) (W : World) (K : Act → World → Prop), I pre W → w.heap.size ≤ W.heap.size → (∀ a' W', Yours Bs w.heap.size W W' → Kp W W' → I pre W' → (∃ q, w.heap.size ≤ q ∧ Blk W' q (bx x) ∧ a' = ({ tmps := T a.tmps x q, defers := [] } : Act)) → K a' W') →
      assign.wpIn (F.inRound l) (n - 1 - 1) P (Exit.then K (fun _ _ _ => False)) { tmps := (ps.zip (encs x)).foldl (fun t (p, v) => t.setIfInBounds p v) a.tmps, defers := [] } W)
    (hbody : ∀ (l : Nat) (pre : List α) (x : α) (q : Nat) (W : World), w.heap.size ≤ l → (∃ r, W.heap[l]? = some (.loop r)) → I pre W → w.heap.size ≤ q → Blk W q (bx x) → pre.length < N → Sp (pre ++ [x]) → body.wpIn (F.inRound l) (n - 1 - 1) P (iterPost Bs w.heap.size Kp I Ix (pre ++ [x]) W) { tmps := T a.tmps x q, defers := [] } W)
    (hdone : ∀ (D : Nat) (xs : List α) (W : World), w.heap.size ≤ D → S xs → I xs W → W.heap[D]? = some (.deferred (some [])) → Q .normal { a with defers := { target := .collected D, args := #[] } :: a.defers } W)
    (hstop : ∀ (D : Nat) (c : Code) (pre : List α) (W : World), w.heap.size ≤ D → Sp pre → Ix c pre W → W.heap[D]? = some (.deferred (some [])) → c.wpIn F n P Q { a with defers := { target := .collected D, args := #[] } :: a.defers } W) :
    (Code.rangeFunc g ps assign body).wpIn F n P Q a w :=
  rangeFunc_lawW hro h1 hg hFg eg hseq hKt hKb hb0 hBs hsn hps I Ix hI hIx h0 (fun x a' W => ∃ q, w.heap.size ≤ q ∧ Blk W q (bx x) ∧ a' = ({ tmps := T a.tmps x q, defers := [] } : Act))
    (fun _ _ _ _ _ _ _ hl ho ⟨q, hq, hb, e⟩ => ⟨q, hq, hb.putObj hl ho, e⟩) hassign (fun l pre x a' W h1 h2 h3 ⟨q, hq, hb, e⟩ h5 h6 => e ▸ hbody l pre x q W h1 h2 h3 hq hb h5 h6) hdone hstop
end Go.Proofs.Ythjgjfelbagljaa
