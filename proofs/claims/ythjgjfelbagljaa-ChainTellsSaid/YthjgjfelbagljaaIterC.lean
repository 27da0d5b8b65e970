/- A range over a function whose loop has one variable. -/
import Derived.Test.YthjgjfelbagljaaIterB
namespace Go.Proofs.Ythjgjfelbagljaa
open Go.RowKit
variable {F : Fence} {n : Nat} {P : Program}
/-- The same, where the loop's variable (slot d) takes what slot p is handed. -/
theorem rangeFunc_law1 {α : Type} (p d : Nat) (en : α → Value) {g : Operand} {ps : Array Tmp} {assign body : Code} {Q : Exit → Act → World → Prop} {a : Act} {w : World}
    (hro : F.round = none) (h1 : 1 ≤ n) {gf : Nat} {lb : Array Value} (hg : a.eval g = .func (.func gf) #[] lb) (hFg : F.fn gf) (eg : ∀ args w, (callFunc gf args).run P w = .ok (.enter gf args) w)
    {encs : α → Array Value} {Kp : World → World → Prop} {S Sp : List α → Prop} {N : Nat} {Bs : List Nat} {w0 : World} (hseq : Iter F (n - 1) P gf lb encs Kp S Sp N Bs w0)
    (hKt : ∀ {A B C : World}, Kp A B → Kp B C → Kp A C) (hKb : ∀ (W : World) (l : Nat) (o o' : Obj), w.heap.size ≤ l → W.heap[l]? = some o → o.isCells = false → o'.isCells = false → Kp W (W.putObj l o'))
    (hb0 : Below w0.heap.size w0 w) (hBs : ∀ B ∈ Bs, B < w.heap.size) (hsn : Snug Bs w) (hps : ∀ x, (encs x).size = ps.size)
    (I : List α → World → Prop) (Ix : Code → List α → World → Prop) (hI : Abiding Bs w.heap.size I) (hIx : ∀ c, Abiding Bs w.heap.size (Ix c)) (h0 : I [] w) (hassign : ∀ (l : Nat) (pre : List α) (x : α) (W : World) (K : Act → World → Prop), I pre W → w.heap.size ≤ W.heap.size → (∀ a' W', Yours Bs w.heap.size W W' → Kp W W' → I pre W' → a' = ({ tmps := (a.tmps.setIfInBounds p (en x)).setIfInBounds d (en x), defers := [] } : Act) → K a' W') →
      assign.wpIn (F.inRound l) (n - 1 - 1) P (Exit.then K (fun _ _ _ => False)) { tmps := (ps.zip (encs x)).foldl (fun t (p, v) => t.setIfInBounds p v) a.tmps, defers := [] } W)
    (hbody : ∀ (l : Nat) (pre : List α) (x : α) (a' : Act) (W : World), w.heap.size ≤ l → (∃ r, W.heap[l]? = some (.loop r)) → I pre W → a' = ({ tmps := (a.tmps.setIfInBounds p (en x)).setIfInBounds d (en x), defers := [] } : Act) → pre.length < N → Sp (pre ++ [x]) → body.wpIn (F.inRound l) (n - 1 - 1) P (iterPost Bs w.heap.size Kp I Ix (pre ++ [x]) W) a' W)
    (hdone : ∀ (D : Nat) (xs : List α) (W : World), w.heap.size ≤ D → S xs → I xs W → W.heap[D]? = some (.deferred (some [])) → Q .normal { a with defers := { target := .collected D, args := #[] } :: a.defers } W)
    (hstop : ∀ (D : Nat) (c : Code) (pre : List α) (W : World), w.heap.size ≤ D → Sp pre → Ix c pre W → W.heap[D]? = some (.deferred (some [])) → c.wpIn F n P Q { a with defers := { target := .collected D, args := #[] } :: a.defers } W) :
    (Code.rangeFunc g ps assign body).wpIn F n P Q a w :=
  rangeFunc_law hro h1 hg hFg eg hseq hKt hKb hb0 hBs hsn hps I Ix hI hIx h0 (fun x a' _ => a' = ({ tmps := (a.tmps.setIfInBounds p (en x)).setIfInBounds d (en x), defers := [] } : Act)) (fun _ _ _ _ _ h _ => h) hassign hbody hdone hstop
end Go.Proofs.Ythjgjfelbagljaa
