/- A range over a function: what the iterator keeps, what the round keeps; an iterator may have cells of its own, and a round may append to what the caller's boxes hold. A range over a function: what abides, and what a round that appends keeps. A range over a function whose loop has one variable. -/
import Derived.Test.YtgojenokfdiahaaDoorMem
import Derived.RangeFuncNested
import Derived.RangeFuncBound
import Derived.RangeFuncCalls
import Derived.RangeFuncLeaves
import Derived.OwnWalkIn
import Derived.TacticsInMore
import Derived.LoopNIn
import Derived.LoopIn
import Derived.Maps.OwnIn
import Derived.Maps.AppendAt
namespace Go.Proofs.YtgojenokfdiahaaDoor
open Go.RowKit

/-- Block k is the row of a slice that one of the boxes holds. -/
def Own (Bs : List Nat) (W : World) (k : Nat) : Prop :=
  (∃ B, B ∈ Bs ∧ ∃ o v, W.cell? ⟨B, o, none⟩ = some v ∧ v.ownBlock = some k) ∧ ∃ ob : Obj, W.heap[k]? = some ob ∧ ob.isCells = true

/-- The iterator's own steps: what lay below n₀, and what the boxes own, is as it was. -/
structure Mine (Bs : List Nat) (n₀ : Nat) (W W' : World) : Prop where
  os : W'.os = W.os
  tape : W'.tape = W.tape
  output : W'.output = W.output
  size : W.heap.size ≤ W'.heap.size
  kept : ∀ k, k < W.heap.size → (k < n₀ ∨ Own Bs W k) → W'.heap[k]? = W.heap[k]?

/-- A round: what lies from n₀ on and is not the boxes' own is as it was. -/
structure Yours (Bs : List Nat) (n₀ : Nat) (W W' : World) : Prop where
  size : W.heap.size ≤ W'.heap.size
  own : ∀ k, Own Bs W' k → Own Bs W k ∨ W.heap.size ≤ k ∨ k < n₀
  kept : ∀ k, n₀ ≤ k → k < W.heap.size → ¬ Own Bs W k → W'.heap[k]? = W.heap[k]?

theorem not_own {Bs : List Nat} {W : World} {k : Nat} {o : Obj} (h : W.heap[k]? = some o) (ho : o.isCells = false) : ¬ Own Bs W k := by
  rintro ⟨_, ob, hb, hc⟩
  rw [h] at hb
  cases hb
  rw [ho] at hc
  cases hc
theorem Mine.refl (Bs : List Nat) (n₀ : Nat) (W : World) : Mine Bs n₀ W W := ⟨rfl, rfl, rfl, Nat.le_refl _, fun _ _ _ => rfl⟩
theorem Mine.alloc (Bs : List Nat) (n₀ : Nat) (W : World) (o : Obj) : Mine Bs n₀ W (W.alloc o) := ⟨rfl, rfl, rfl, by simp, fun k hk _ => Below.heap_alloc _ _ _ hk⟩
theorem Mine.mono {Bs : List Nat} {n₀ n₁ : Nat} {W W' : World} (h : Mine Bs n₀ W W') (hn : n₁ ≤ n₀) : Mine Bs n₁ W W' :=
  ⟨h.os, h.tape, h.output, h.size, fun k hk hc => h.kept k hk (hc.imp (fun h => by omega) id)⟩
theorem Mine.putObj {Bs : List Nat} {n₀ : Nat} {W : World} {l : Nat} {o : Obj} (o' : Obj) (hl : W.heap[l]? = some o) (ho : o.isCells = false) (hn : n₀ ≤ l) : Mine Bs n₀ W (W.putObj l o') :=
  ⟨rfl, rfl, rfl, by simp, fun k hk hc => World.putObj_heap_other (fun e => by
    subst e
    rcases hc with hc | hc
    · omega
    · exact not_own hl ho hc)⟩
/-- The boxes lie below n₀: what they own is as it was, and no other. -/
theorem Mine.own {Bs : List Nat} {n₀ : Nat} {W W' : World} (h : Mine Bs n₀ W W') (hB : ∀ B ∈ Bs, B < n₀) (hW : n₀ ≤ W.heap.size) {k : Nat} (_ : k < W.heap.size) : Own Bs W' k → (∃ B, B ∈ Bs ∧ ∃ o v, W.cell? ⟨B, o, none⟩ = some v ∧ v.ownBlock = some k) := by
  rintro ⟨⟨B, hb, o, v, hc, hv⟩, _⟩
  refine ⟨B, hb, o, v, ?_, hv⟩
  have := World.cell?_of_block (w := W) (w' := W') (a := ⟨B, o, none⟩) (h.kept B (by have := hB B hb; omega) (.inl (hB B hb)))
  rw [← this]
  exact hc
theorem Yours.refl (Bs : List Nat) (n₀ : Nat) (W : World) : Yours Bs n₀ W W := ⟨Nat.le_refl _, fun _ h => .inl h, fun _ _ _ _ => rfl⟩
theorem Yours.trans {Bs : List Nat} {n₀ : Nat} {A B C : World} (h : Yours Bs n₀ A B) (k : Yours Bs n₀ B C) : Yours Bs n₀ A C :=
  ⟨Nat.le_trans h.size k.size, fun i hi => by
    rcases k.own i hi with h1 | h1 | h1
    · exact h.own i h1
    · exact .inr (.inl (Nat.le_trans h.size h1))
    · exact .inr (.inr h1), fun i hn hi ho => by
    refine (k.kept i hn (Nat.lt_of_lt_of_le hi h.size) (fun hb => ?_)).trans (h.kept i hn hi ho)
    rcases h.own i hb with h1 | h1 | h1
    · exact ho h1
    · omega
    · omega⟩
theorem Yours.mono {Bs : List Nat} {n₀ n₁ : Nat} {W W' : World} (h : Yours Bs n₀ W W') (hn : n₀ ≤ n₁) : Yours Bs n₁ W W' :=
  ⟨h.size, fun k hk => (h.own k hk).imp id (Or.imp id (fun h => by omega)), fun k hk hs ho => h.kept k (by omega) hs ho⟩
theorem cell_putObj {W : World} {l : Nat} {o o' : Obj} (hl : W.heap[l]? = some o) (ho : o.isCells = false) (ho' : o'.isCells = false) (a : Addr) : (W.putObj l o').cell? a = W.cell? a := by
  by_cases e : a.block = l
  · have hlt := (Array.getElem?_eq_some_iff.1 hl).1
    have h1 : (W.putObj l o').heap[a.block]? = some o' := by rw [e]; exact World.putObj_heap_same hlt
    unfold World.cell?
    rw [h1, e, hl]
    cases o <;> cases o' <;> simp_all [Obj.isCells]
  · exact World.cell?_of_block (World.putObj_heap_other e)
theorem Yours.putObj {Bs : List Nat} {n₀ : Nat} {W : World} {l : Nat} {o o' : Obj} (hl : W.heap[l]? = some o) (ho : o.isCells = false) (ho' : o'.isCells = false) (hn : l < n₀) : Yours Bs n₀ W (W.putObj l o') :=
  ⟨by simp, fun k hk => by
    obtain ⟨⟨B, hb, q, v, hc, hv⟩, ob, hob, hcl⟩ := hk
    refine .inl ⟨⟨B, hb, q, v, by rw [← cell_putObj hl ho ho']; exact hc, hv⟩, ?_⟩
    by_cases e : k = l
    · subst e
      rw [World.putObj_heap_same (Array.getElem?_eq_some_iff.1 hl).1] at hob
      cases hob
      rw [ho'] at hcl; cases hcl
    · exact ⟨ob, by rw [← hob]; exact (World.putObj_heap_other e).symm, hcl⟩, fun k hk hs _ => World.putObj_heap_other (by omega)⟩

/-- J holds on behind the iterator's own steps. -/
def Abiding (Bs : List Nat) (n₀ : Nat) {β : Type} (J : β → World → Prop) : Prop := ∀ s W W', J s W → Mine Bs n₀ W W' → J s W'
theorem Abiding.mono {Bs : List Nat} {n₀ n₁ : Nat} {β : Type} {J : β → World → Prop} (h : Abiding Bs n₀ J) (hn : n₀ ≤ n₁) : Abiding Bs n₁ J := fun s W W' hs hm => h s W W' hs (hm.mono hn)
theorem Abiding.and {Bs : List Nat} {n₀ : Nat} {β : Type} {J K : β → World → Prop} (h : Abiding Bs n₀ J) (k : Abiding Bs n₀ K) : Abiding Bs n₀ (fun s W => J s W ∧ K s W) := fun s W W' hs hm => ⟨h s W W' hs.1 hm, k s W W' hs.2 hm⟩
theorem Abiding.pure {Bs : List Nat} {n₀ : Nat} {β : Type} (p : β → Prop) : Abiding Bs n₀ (fun s (_ : World) => p s) := fun _ _ _ hs _ => hs

/-- The boxes hold no slice of a block that is not there yet. -/
def Snug (Bs : List Nat) (W : World) : Prop := ∀ B, B ∈ Bs → ∀ o v g, W.cell? ⟨B, o, none⟩ = some v → v.ownBlock = some g → g < W.heap.size
theorem Snug.alloc {Bs : List Nat} {W : World} (h : Snug Bs W) (hB : ∀ B ∈ Bs, B < W.heap.size) (ob : Obj) : Snug Bs (W.alloc ob) := fun B hb o v g hc hv => by
  rw [World.cell?_alloc_lt _ _ _ (hB B hb)] at hc
  have := h B hb o v g hc hv
  simp; omega
theorem Snug.nil (W : World) : Snug [] W := fun _ h => by cases h
/-- THE ITERATOR's CONTRACT. -/
def Iter {α : Type} (F : Fence) (n : Nat) (P : Program) (g : Nat) (lb : Array Value) (encs : α → Array Value) (Kp : World → World → Prop) (S Sp : List α → Prop) (N : Nat) (Bs : List Nat) (w : World) : Prop :=
  ∀ (l : Nat) (J Jx : List α → World → Prop) (W : World), Below w.heap.size w W → (∀ B ∈ Bs, B < W.heap.size) → Snug Bs W → Abiding Bs W.heap.size J → Abiding Bs W.heap.size Jx →
    (∀ pre x W1, J pre W1 → pre.length < N → W.heap.size ≤ W1.heap.size → Sp (pre ++ [x]) → YieldAt F (n - 1) P l (encs x) W1 fun e W' =>
      (e = .returned (.bool true) ∧ J (pre ++ [x]) W' ∧ Yours Bs W.heap.size W1 W' ∧ Kp W1 W') ∨ (e = .returned (.bool false) ∧ Jx (pre ++ [x]) W' ∧ Yours Bs W.heap.size W1 W')) →
    J [] W →
    CallsIn F n P g (#[.func (.yield l) #[] #[]] ++ lb) W fun e W' => (∃ v, e = .returned v) ∧ ((∃ xs, S xs ∧ J xs W') ∨ (∃ pre, Sp pre ∧ Jx pre W'))

theorem Iter.inRound {α : Type} {F : Fence} {n : Nat} {P : Program} {g : Nat} {lb : Array Value} {encs : α → Array Value} {Kp : World → World → Prop} {S Sp : List α → Prop} {N : Nat} {Bs : List Nat} {w : World} (l : Nat)
    (h : Iter F n P g lb encs Kp S Sp N Bs w) : Iter (F.inRound l) n P g lb encs Kp S Sp N Bs w := h

/-- HOW THE BODY OF A ROUND MAY BE LEFT. -/
def iterPost {α : Type} (Bs : List Nat) (n₀ : Nat) (Kp : World → World → Prop) (I : List α → World → Prop) (Ix : Code → List α → World → Prop) (xs : List α) (W : World) : Exit → Act → World → Prop
  | .normal, _, W' => Yours Bs n₀ W W' ∧ Kp W W' ∧ I xs W'
  | .ret, _, W' => Yours Bs n₀ W W' ∧ Ix .ret xs W'
  | .exit id, _, W' => Yours Bs n₀ W W' ∧ Ix (.exit id) xs W'
  | .goto t, _, W' => Yours Bs n₀ W W' ∧ Ix (.goto t) xs W'
  | .panic _, _, _ => False
  | .outgrown, _, _ => False

variable {F : Fence} {n : Nat} {P : Program}

/-- THE LAW, outside every round. -/
theorem rangeFunc_lawW {α : Type} {g : Operand} {ps : Array Tmp} {assign body : Code} {Q : Exit → Act → World → Prop} {a : Act} {w : World}
    (hro : F.round = none) (h1 : 1 ≤ n) {gf : Nat} {lb : Array Value} (hg : a.eval g = .func (.func gf) #[] lb) (hFg : F.fn gf) (eg : ∀ args w, (callFunc gf args).run P w = .ok (.enter gf args) w)
    {encs : α → Array Value} {Kp : World → World → Prop} {S Sp : List α → Prop} {N : Nat} {Bs : List Nat} {w0 : World} (hseq : Iter F (n - 1) P gf lb encs Kp S Sp N Bs w0)
    (hKt : ∀ {A B C : World}, Kp A B → Kp B C → Kp A C) (hKb : ∀ (W : World) (l : Nat) (o o' : Obj), w.heap.size ≤ l → W.heap[l]? = some o → o.isCells = false → o'.isCells = false → Kp W (W.putObj l o'))
    (hb0 : Below w0.heap.size w0 w) (hBs : ∀ B ∈ Bs, B < w.heap.size) (hsn : Snug Bs w) (hps : ∀ x, (encs x).size = ps.size)
    (I : List α → World → Prop) (Ix : Code → List α → World → Prop) (hI : Abiding Bs w.heap.size I) (hIx : ∀ c, Abiding Bs w.heap.size (Ix c)) (h0 : I [] w) (Ax : α → Act → World → Prop) (hAx : ∀ x a' W l o o', w.heap.size ≤ l → W.heap[l]? = some o → o.isCells = false → Ax x a' W → Ax x a' (W.putObj l o'))
    (hassign : ∀ (l : Nat) (pre : List α) (x : α) (W : World) (K : Act → World → Prop), I pre W → w.heap.size ≤ W.heap.size → (∀ a' W', Yours Bs w.heap.size W W' → Kp W W' → I pre W' → Ax x a' W' → K a' W') →
      assign.wpIn (F.inRound l) (n - 1 - 1) P (Exit.then K (fun _ _ _ => False)) { tmps := (ps.zip (encs x)).foldl (fun t (p, v) => t.setIfInBounds p v) a.tmps, defers := [] } W)
    (hbody : ∀ (l : Nat) (pre : List α) (x : α) (a' : Act) (W : World), w.heap.size ≤ l → (∃ r, W.heap[l]? = some (.loop r)) → I pre W → Ax x a' W → pre.length < N → Sp (pre ++ [x]) → body.wpIn (F.inRound l) (n - 1 - 1) P (iterPost Bs w.heap.size Kp I Ix (pre ++ [x]) W) a' W)
    (hdone : ∀ (D : Nat) (xs : List α) (W : World), w.heap.size ≤ D → S xs → I xs W → W.heap[D]? = some (.deferred (some [])) → Q .normal { a with defers := { target := .collected D, args := #[] } :: a.defers } W)
    (hstop : ∀ (D : Nat) (c : Code) (pre : List α) (W : World), w.heap.size ≤ D → Sp pre → Ix c pre W → W.heap[D]? = some (.deferred (some [])) → c.wpIn F n P Q { a with defers := { target := .collected D, args := #[] } :: a.defers } W) :
    (Code.rangeFunc g ps assign body).wpIn F n P Q a w := by
  refine wpIn_rangeFunc ?_
  intro fn hfn
  rw [hro]
  obtain ⟨rec, hrec⟩ : ∃ rec : LoopState → Option Code → Loop, rec = fun st pe => { state := st, pending := pe, fn, tmps := a.tmps, params := ps, assign, body, defers := w.heap.size } := ⟨_, rfl⟩
  obtain ⟨W1, hW1⟩ : ∃ W1, (w.alloc (.deferred (some []))).alloc (.loop (rec .ready none)) = W1 := ⟨_, rfl⟩
  have hL1 : W1.heap[w.heap.size + 1]? = some (.loop (rec .ready none)) := by
    rw [← hW1]; have := World.alloc_heap_new (w.alloc (.deferred (some []))) (.loop (rec .ready none)); rwa [World.size_alloc] at this
  have hK1 : W1.heap[w.heap.size]? = some (.deferred (some [])) := by
    rw [← hW1]; exact (Below.heap_alloc _ _ _ (by simp)).trans (World.alloc_heap_new w _)
  have hS1 : W1.heap.size = w.heap.size + 2 := by rw [← hW1]; simp
  have hI1 : I [] W1 := by rw [← hW1]; exact hI _ _ _ (hI _ _ _ h0 (Mine.alloc _ _ _ _)) (Mine.alloc _ _ _ _)
  have hb1 : Below w0.heap.size w0 W1 := by
    rw [← hW1]; exact hb0.trans ((((Below.refl _ w).alloc (Nat.le_refl _) _).alloc (by simp) _).mono hb0.size)
  refine ⟨w.heap.size + 1, [{ target := .collected w.heap.size, args := #[] }], W1, { target := .fn (.func gf) lb, args := #[.func (.yield (w.heap.size + 1)) #[] #[]] }, W1, gf,
    #[.func (.yield (w.heap.size + 1)) #[] #[]] ++ lb, W1, ?_, ?_, ?_, ?_, fun _ => h1, ?_⟩
  · rw [← hW1, hrec]; exact run_enterLoop_outer _ _ _ _ _
  · simp only [resolve, hg]
    simp [go_sem]
  · intro f' hf'; simp [Target.leads] at hf'; subst hf'; exact hFg
  · simp [invoke, go_sem, eg]
  · have keep : ∀ {A B : World} {k : Nat} {o : Obj}, Mine Bs W1.heap.size A B → k < w.heap.size + 2 → A.heap[k]? = some o → B.heap[k]? = some o := fun hm hk h =>
      (hm.kept _ (Array.getElem?_eq_some_iff.1 h).1 (.inl (by omega))).trans h
    refine (hseq (w.heap.size + 1)
      (fun pre W => (I pre W ∧ w.heap.size ≤ W.heap.size) ∧ W.heap[w.heap.size + 1]? = some (.loop (rec .ready none)) ∧ W.heap[w.heap.size]? = some (.deferred (some [])))
      (fun pre W => ∃ c, Ix c pre W ∧ W.heap[w.heap.size + 1]? = some (.loop (rec .done (some c))) ∧ W.heap[w.heap.size]? = some (.deferred (some [])))
      W1 hb1 (fun B hB => by have := hBs B hB; omega) (by rw [← hW1]; exact (hsn.alloc hBs _).alloc (fun B hB => by have := hBs B hB; simp; omega) _)
      (fun s A B hs hm => ⟨⟨hI s A B hs.1.1 (hm.mono (by omega)), Nat.le_trans hs.1.2 hm.size⟩, keep hm (by omega) hs.2.1, keep hm (by omega) hs.2.2⟩)
      (fun s A B hs hm => by
        obtain ⟨c, hc, hl, hk⟩ := hs
        exact ⟨c, hIx c s A B hc (hm.mono (by omega)), keep hm (by omega) hl, keep hm (by omega) hk⟩)
      ?_ ⟨⟨hI1, by omega⟩, hL1, hK1⟩).mono ?_
    · -- ONE ROUND
      rintro pre x W ⟨⟨hi, hsz⟩, hl, hk⟩ hlen _ hsp
      have hlt : w.heap.size + 1 < W.heap.size := (Array.getElem?_eq_some_iff.1 hl).1
      have hy := run_yield (P := P) (args := encs x) hl (by rw [hrec]; exact hps x)
      rw [hrec] at hy
      refine ⟨fn, _, assign, body, hy, roundIn_of_wpIn hfn (hassign _ pre x W _ hi hsz ?_)⟩
      clear hy
      intro a' Wa hya hkpa hia hax
      have same : ∀ {A B : World} {k : Nat} {o : Obj}, Yours Bs w.heap.size A B → w.heap.size ≤ k → A.heap[k]? = some o → o.isCells = false → B.heap[k]? = some o := fun hy hk h ho =>
        (hy.kept _ hk (Array.getElem?_eq_some_iff.1 h).1 (not_own h ho)).trans h
      replace hl := same hya (by omega) hl rfl
      replace hk := same hya (Nat.le_refl _) hk rfl
      replace hlt : w.heap.size + 1 < Wa.heap.size := (Array.getElem?_eq_some_iff.1 hl).1
      refine ⟨_, run_beginRound hl (by rw [hrec]), ?_⟩
      have hl2 : (Wa.putObj (w.heap.size + 1) (.loop { rec .ready none with state := .busy })).heap[w.heap.size + 1]? = some (.loop { rec .ready none with state := .busy }) := World.putObj_heap_same hlt
      have hk2 : (Wa.putObj (w.heap.size + 1) (.loop { rec .ready none with state := .busy })).heap[w.heap.size]? = some (.deferred (some [])) := (World.putObj_heap_other (by omega)).trans hk
      have hw2 : Yours Bs W1.heap.size Wa (Wa.putObj (w.heap.size + 1) (.loop { rec .ready none with state := .busy })) := Yours.putObj hl rfl rfl (by omega)
      have hw3 : Kp Wa (Wa.putObj (w.heap.size + 1) (.loop { rec .ready none with state := .busy })) := hKb _ _ _ _ (by omega) hl rfl rfl
      refine wpIn_mono (hbody _ pre x a' _ (by omega) ⟨_, hl2⟩ (hI _ _ _ hia (Mine.putObj _ hl rfl (by omega))) (hAx x a' _ _ _ _ (by omega) hl rfl hax) hlen hsp) ?_
      have fin : ∀ (jump : Option Code) (W3 : World), Yours Bs w.heap.size (Wa.putObj (w.heap.size + 1) (.loop { rec .ready none with state := .busy })) W3 →
          (Instr.endRound (w.heap.size + 1) jump).run P W3 = .ok (.bool jump.isNone) (W3.putObj (w.heap.size + 1) (.loop (rec (if jump.isNone then .ready else .done) jump))) ∧
          W3.heap[w.heap.size + 1]? = some (.loop { rec .ready none with state := .busy }) ∧
          (W3.putObj (w.heap.size + 1) (.loop (rec (if jump.isNone then .ready else .done) jump))).heap[w.heap.size + 1]? = some (.loop (rec (if jump.isNone then .ready else .done) jump)) ∧
          (W3.putObj (w.heap.size + 1) (.loop (rec (if jump.isNone then .ready else .done) jump))).heap[w.heap.size]? = some (.deferred (some [])) := fun jump W3 hy3 => by
        have hl3 := same hy3 (by omega) hl2 rfl
        have := run_endRound (P := P) jump hl3
        rw [hrec] at this ⊢
        exact ⟨this, by rw [hrec] at hl3; exact hl3, World.putObj_heap_same (Array.getElem?_eq_some_iff.1 hl3).1, (World.putObj_heap_other (by omega)).trans (same hy3 (Nat.le_refl _) hk2 rfl)⟩
      rintro e a3 W3 hp
      cases e with
      | normal =>
        obtain ⟨hy3, hkp3, hi3⟩ := hp
        obtain ⟨hr, hl3, hl4, hk4⟩ := fin none W3 hy3
        have hz3 : w.heap.size ≤ W3.heap.size := by have := (Array.getElem?_eq_some_iff.1 hl3).1; omega
        exact ⟨_, _, hr, .inl ⟨rfl, ⟨⟨hI _ _ _ hi3 (Mine.putObj _ hl3 rfl (by omega)), by simpa using hz3⟩, hl4, hk4⟩, ((hya.mono (by omega)).trans hw2).trans ((hy3.mono (by omega)).trans (Yours.putObj hl3 rfl rfl (by omega))), hKt (hKt hkpa hw3) (hKt hkp3 (hKb _ _ _ _ (by omega) hl3 rfl rfl))⟩⟩
      | ret =>
        obtain ⟨hy3, hi3⟩ := hp
        obtain ⟨hr, hl3, hl4, hk4⟩ := fin (some .ret) W3 hy3
        exact ⟨_, _, hr, .inr ⟨rfl, ⟨.ret, hIx _ _ _ _ hi3 (Mine.putObj _ hl3 rfl (by omega)), hl4, hk4⟩, ((hya.mono (by omega)).trans hw2).trans ((hy3.mono (by omega)).trans (Yours.putObj hl3 rfl rfl (by omega)))⟩⟩
      | exit id =>
        obtain ⟨hy3, hi3⟩ := hp
        obtain ⟨hr, hl3, hl4, hk4⟩ := fin (some (.exit id)) W3 hy3
        exact ⟨_, _, hr, .inr ⟨rfl, ⟨.exit id, hIx _ _ _ _ hi3 (Mine.putObj _ hl3 rfl (by omega)), hl4, hk4⟩, ((hya.mono (by omega)).trans hw2).trans ((hy3.mono (by omega)).trans (Yours.putObj hl3 rfl rfl (by omega)))⟩⟩
      | goto t =>
        obtain ⟨hy3, hi3⟩ := hp
        obtain ⟨hr, hl3, hl4, hk4⟩ := fin (some (.goto t)) W3 hy3
        exact ⟨_, _, hr, .inr ⟨rfl, ⟨.goto t, hIx _ _ _ _ hi3 (Mine.putObj _ hl3 rfl (by omega)), hl4, hk4⟩, ((hya.mono (by omega)).trans hw2).trans ((hy3.mono (by omega)).trans (Yours.putObj hl3 rfl rfl (by omega)))⟩⟩
      | panic ch => exact hp.elim
      | outgrown => exact hp.elim
    · -- BEHIND THE ITERATOR
      rintro e W2 ⟨⟨v, rfl⟩, (⟨xs, hS, ⟨hi, _⟩, hl, hk⟩ | ⟨pre, hSp, c, hi, hl, hk⟩)⟩
      · exact ⟨none, _, by have := run_endLoop (P := P) hl (by rw [hrec]; simp); rw [hrec] at this; exact this, hdone _ xs _ (Nat.le_refl _) hS (hI _ _ _ hi (Mine.putObj _ hl rfl (by omega))) ((World.putObj_heap_other (by omega)).trans hk)⟩
      · exact ⟨some c, _, by have := run_endLoop (P := P) hl (by rw [hrec]; simp); rw [hrec] at this; exact this, hstop _ c pre _ (Nat.le_refl _) hSp (hIx c _ _ _ hi (Mine.putObj _ hl rfl (by omega))) ((World.putObj_heap_other (by omega)).trans hk)⟩
/-- The same, where what the assignment leaves abides behind any step of the iterator. -/
theorem rangeFunc_law {α : Type} {g : Operand} {ps : Array Tmp} {assign body : Code} {Q : Exit → Act → World → Prop} {a : Act} {w : World}
    (hro : F.round = none) (h1 : 1 ≤ n) {gf : Nat} {lb : Array Value} (hg : a.eval g = .func (.func gf) #[] lb) (hFg : F.fn gf) (eg : ∀ args w, (callFunc gf args).run P w = .ok (.enter gf args) w)
    {encs : α → Array Value} {Kp : World → World → Prop} {S Sp : List α → Prop} {N : Nat} {Bs : List Nat} {w0 : World} (hseq : Iter F (n - 1) P gf lb encs Kp S Sp N Bs w0)
    (hKt : ∀ {A B C : World}, Kp A B → Kp B C → Kp A C) (hKb : ∀ (W : World) (l : Nat) (o o' : Obj), w.heap.size ≤ l → W.heap[l]? = some o → o.isCells = false → o'.isCells = false → Kp W (W.putObj l o'))
    (hb0 : Below w0.heap.size w0 w) (hBs : ∀ B ∈ Bs, B < w.heap.size) (hsn : Snug Bs w) (hps : ∀ x, (encs x).size = ps.size)
    (I : List α → World → Prop) (Ix : Code → List α → World → Prop) (hI : Abiding Bs w.heap.size I) (hIx : ∀ c, Abiding Bs w.heap.size (Ix c)) (h0 : I [] w) (Ax : α → Act → World → Prop) (hAx : ∀ x a', Abiding Bs w.heap.size (fun (_ : Unit) W => Ax x a' W))
    (hassign : ∀ (l : Nat) (pre : List α) (x : α) (W : World) (K : Act → World → Prop), I pre W → w.heap.size ≤ W.heap.size → (∀ a' W', Yours Bs w.heap.size W W' → Kp W W' → I pre W' → Ax x a' W' → K a' W') →
      assign.wpIn (F.inRound l) (n - 1 - 1) P (Exit.then K (fun _ _ _ => False)) { tmps := (ps.zip (encs x)).foldl (fun t (p, v) => t.setIfInBounds p v) a.tmps, defers := [] } W)
    (hbody : ∀ (l : Nat) (pre : List α) (x : α) (a' : Act) (W : World), w.heap.size ≤ l → (∃ r, W.heap[l]? = some (.loop r)) → I pre W → Ax x a' W → pre.length < N → Sp (pre ++ [x]) → body.wpIn (F.inRound l) (n - 1 - 1) P (iterPost Bs w.heap.size Kp I Ix (pre ++ [x]) W) a' W)
    (hdone : ∀ (D : Nat) (xs : List α) (W : World), w.heap.size ≤ D → S xs → I xs W → W.heap[D]? = some (.deferred (some [])) → Q .normal { a with defers := { target := .collected D, args := #[] } :: a.defers } W)
    (hstop : ∀ (D : Nat) (c : Code) (pre : List α) (W : World), w.heap.size ≤ D → Sp pre → Ix c pre W → W.heap[D]? = some (.deferred (some [])) → c.wpIn F n P Q { a with defers := { target := .collected D, args := #[] } :: a.defers } W) :
    (Code.rangeFunc g ps assign body).wpIn F n P Q a w :=
  rangeFunc_lawW hro h1 hg hFg eg hseq hKt hKb hb0 hBs hsn hps I Ix hI hIx h0 Ax (fun x a' _ _ _ _ hl hh ho h => hAx x a' () _ _ h (Mine.putObj _ hh ho hl)) hassign hbody hdone hstop
end Go.Proofs.YtgojenokfdiahaaDoor
namespace Go.Proofs.YtgojenokfdiahaaDoor
open Go.RowKit

theorem Boxed.mine {Bs : List Nat} {n₀ : Nat} {W W' : World} {B : Nat} {t : TypeId} {v : Value} (h : Boxed W B t v) (hm : Mine Bs n₀ W W') (hB : B < n₀) : Boxed W' B t v := (hm.kept B h.lt (.inl hB)).trans h
theorem Blk.mine {Bs : List Nat} {n₀ : Nat} {W W' : World} {b : Nat} {cs : Array Value} (h : Blk W b cs) (hm : Mine Bs n₀ W W') (hB : b < n₀) : Blk W' b cs := h.of_eq (hm.kept b h.lt (.inl hB))
theorem ownsRow_mine {Bs : List Nat} {n₀ : Nat} {W W' : World} {B : Nat} {base : Nat} {t e : TypeId} {size : Nat} {v : Value} {k : Nat} {xs : List Value} (h : W.ownsRow base e size v k xs) (hb : Boxed W B t v) (hB : B ∈ Bs) (hm : Mine Bs n₀ W W') : W'.ownsRow base e size v k xs := by
  refine ⟨h.1, ?_⟩
  rcases h.2 with h2 | ⟨g, cap, cur, hv, hg, hh, r⟩
  · exact .inl h2
  · refine .inr ⟨g, cap, cur, hv, hg, ?_, r⟩
    refine (hm.kept g (Array.getElem?_eq_some_iff.1 hh).1 (.inr ⟨⟨B, hB, 0, v, hb.cell, by rw [hv]; rfl⟩, _, hh, rfl⟩)).trans hh
theorem abiding_holds {Bs : List Nat} {n₀ : Nat} {β : Type} (base B : Nat) (t e : TypeId) (size : Nat) (k : β → Nat) (f : β → List Value) (G : β → Value → Prop) (hB : B ∈ Bs) (hn : B < n₀) :
    Abiding Bs n₀ (fun s W => ∃ v, Boxed W B t v ∧ W.ownsRow base e size v (k s) (f s) ∧ G s v) :=
  fun _ _ _ ⟨v, hv, hr, hG⟩ hm => ⟨v, Boxed.mine hv hm hn, ownsRow_mine hr hv hB hm, hG⟩
theorem abiding_below {Bs : List Nat} {n₀ n : Nat} {β : Type} {w₀ : World} (hn : n ≤ n₀) (hs : n ≤ w₀.heap.size) : Abiding Bs n₀ (fun (_ : β) W => Below n w₀ W) :=
  fun _ W W' h hm => ⟨hm.os.trans h.os, hm.tape.trans h.tape, hm.output.trans h.output, Nat.le_trans h.size hm.size, fun k hk => (hm.kept k (by have := h.size; omega) (.inl (by omega))).trans (h.block k hk)⟩
theorem abiding_kept {Bs : List Nat} {n₀ : Nat} {β : Type} {G : Nat → Prop} {w₀ : World} (hs : w₀.heap.size ≤ n₀) : Abiding Bs n₀ (fun (_ : β) W => Kept G w₀ W) :=
  fun _ W W' h hm => ⟨hm.os.trans h.os, hm.tape.trans h.tape, hm.output.trans h.output, Nat.le_trans h.size hm.size, fun k hk hG => (hm.kept k (by have := h.size; omega) (.inl (by omega))).trans (h.block k hk hG)⟩
theorem abiding_size {Bs : List Nat} {n₀ m : Nat} {β : Type} : Abiding Bs n₀ (fun (_ : β) W => m ≤ W.heap.size) := fun _ _ _ h hm => Nat.le_trans h hm.size
theorem mine_of_below {Bs : List Nat} {n₀ : Nat} {W W' : World} (h : Below n₀ W W') (hn : W.heap.size ≤ n₀) : Mine Bs n₀ W W' := ⟨h.os, h.tape, h.output, h.size, fun k hk _ => h.block k (by omega)⟩

/-- A step that turns blocks below n₀ alone, or new ones, and points none of the boxes elsewhere. -/
theorem Yours.of_kept {Bs : List Nat} {n₀ : Nat} {F : Nat → Prop} {W W' : World} (h : Kept F W W') (hF : ∀ k, n₀ ≤ k → k < W.heap.size → ¬ F k) (hB : ∀ B ∈ Bs, B < W.heap.size ∧ ¬ F B) : Yours Bs n₀ W W' := by
  refine ⟨h.size, fun k hk => ?_, fun k hn hk _ => h.block k hk (hF k hn hk)⟩
  by_cases hkW : k < W.heap.size
  · by_cases hkn : n₀ ≤ k
    · left
      obtain ⟨⟨B, hb, o, v, hc, hv⟩, ob, hob, hcl⟩ := hk
      refine ⟨⟨B, hb, o, v, ?_, hv⟩, ob, ?_, hcl⟩
      · rw [← World.cell?_of_block (w := W) (w' := W') (a := ⟨B, o, none⟩) (h.block B (hB B hb).1 (hB B hb).2)]; exact hc
      · rw [← h.block k hkW (hF k hkn hkW)]; exact hob
    · exact .inr (.inr (by omega))
  · exact .inr (.inl (by omega))

/-- A store into a box. -/
theorem Yours.setBox {Bs : List Nat} {n₀ : Nat} {W : World} {B : Nat} {t : TypeId} {u v : Value} (hb : Boxed W B t u) (hB : B < n₀) (hv : v.ownBlock = none ∨ ∀ g, v.ownBlock = some g → Own Bs W g ∨ g < n₀) : Yours Bs n₀ W (W.setCell ⟨B, 0, none⟩ v) := by
  have hset := hb.set v
  refine ⟨by simp, fun k hk => ?_, fun k hn hk _ => Below.heap_setCell _ _ _ _ (by simp; omega)⟩
  obtain ⟨⟨B', hb', o, x, hc, hx⟩, ob, hob, hcl⟩ := hk
  by_cases e : B' = B
  · subst e
    have h1 := World.cell?_setCell_same W ⟨B', 0, none⟩ v hb.cell
    by_cases ho : o = 0
    · subst ho
      rw [h1] at hc
      cases hc
      rcases hv with h2 | h2
      · rw [h2] at hx; cases hx
      · rcases h2 k hx with h3 | h3
        · exact .inl h3
        · exact .inr (.inr h3)
    · exfalso
      unfold World.cell? at hc
      rw [show (W.setCell ⟨B', 0, none⟩ v).heap[B']? = _ from hset] at hc
      cases o with
      | zero => exact ho rfl
      | succ o => simp at hc
  · left
    refine ⟨⟨B', hb', o, x, ?_, hx⟩, ?_⟩
    · rw [← World.cell?_setCell_other W ⟨B, 0, none⟩ ⟨B', o, none⟩ v (fun h => e (by cases h; rfl))]; exact hc
    · by_cases ek : k = B
      · subst ek
        exact ⟨_, hb, rfl⟩
      · rw [Below.heap_setCell _ _ _ _ (by simpa using ek)] at hob
        exact ⟨ob, hob, hcl⟩

/-- 'out = append(out, ..)': what the round owes its iterator. -/
theorem Yours.appended {Bs : List Nat} {W w1 : World} {n₀ base B : Nat} {t e : TypeId} {size : Nat} {v v' : Value} {k m : Nat} {xs ys : List Value} {tmp : Obj}
    (hv : Boxed W B t v) (hte : t ≠ e) (hrow : W.ownsRow base e size v k xs) (hBs : B ∈ Bs) (hB : B < n₀)
    (_ : w1.ownsRow base e size v' m ys) (hgrow : (W.alloc tmp).grownBy w1 v.ownBlock) (hat : v'.ownBlock = v.ownBlock ∨ v'.ownBlock = some (W.alloc tmp).heap.size) (hall : ∀ B' ∈ Bs, B' < n₀ ∧ B' < W.heap.size ∧ some B' ≠ v.ownBlock) :
    Yours Bs n₀ W (w1.setCell ⟨B, 0, none⟩ v') := by
  have hv1 : Boxed w1 B t v := (hv.alloc tmp).kept hgrow (hv.not_row hte hrow)
  have hown : ∀ g, v.ownBlock = some g → Own Bs W g := fun g hg => by
    refine ⟨⟨B, hBs, 0, v, hv.cell, hg⟩, ?_⟩
    rcases hrow.2 with ⟨rfl, _⟩ | ⟨g', cap, cur, rfl, _, hgb, _⟩
    · cases hg
    · simp [Value.ownBlock] at hg
      subst hg
      exact ⟨_, hgb, rfl⟩
  have hsame : ∀ j, j < W.heap.size → some j ≠ v.ownBlock → w1.heap[j]? = W.heap[j]? := fun j hj hne => by
    rw [hgrow.block j (by simp; omega) hne, Below.heap_alloc _ _ _ hj]
  have hsz : W.heap.size ≤ w1.heap.size := by have := hgrow.size; simp at this; omega
  have hset : Boxed (w1.setCell ⟨B, 0, none⟩ v') B t v' := hv1.set v'
  refine ⟨by simpa using hsz, fun j hj => ?_, fun j hn hj ho => ?_⟩
  · by_cases hjW : j < W.heap.size
    · by_cases hjn : j < n₀
      · exact .inr (.inr hjn)
      · left
        obtain ⟨⟨B', hb', o, x, hc, hx⟩, ob, hob, hcl⟩ := hj
        have ejB : j ≠ B := by omega
        rw [Below.heap_setCell _ _ _ _ (by simpa using ejB)] at hob
        by_cases e : B' = B
        · subst e
          cases o with
          | zero =>
            rw [hset.cell] at hc
            cases hc
            rcases hat with h2 | h2
            · rw [h2] at hx; exact hown j hx
            · rw [h2] at hx; simp at hx; omega
          | succ o =>
            exfalso
            unfold World.cell? at hc
            rw [show (w1.setCell ⟨B', 0, none⟩ v').heap[B']? = _ from hset] at hc
            simp at hc
        · by_cases hne : some j = v.ownBlock
          · exact hown j hne.symm
          · refine ⟨⟨B', hb', o, x, ?_, hx⟩, ob, by rw [← hsame j hjW hne]; exact hob, hcl⟩
            rw [World.cell?_setCell_other w1 ⟨B, 0, none⟩ ⟨B', o, none⟩ v' (fun h => e (by cases h; rfl))] at hc
            rw [← World.cell?_of_block (w := W) (w' := w1) (a := ⟨B', o, none⟩) (hsame B' (hall B' hb').2.1 (hall B' hb').2.2)]
            exact hc
    · exact .inr (.inl (by omega))
  · have hne : some j ≠ v.ownBlock := fun h => ho (hown j h.symm)
    rw [Below.heap_setCell _ _ _ _ (by simp; omega)]
    exact hsame j hj hne

/-- Behind 'out = append(out, ..)': the box still holds v when the store comes; behind it it holds v', which owns the longer row. -/
theorem boxed_appended {W w1 : World} {n base B : Nat} {t e : TypeId} {size : Nat} {v v' : Value} {k m : Nat} {xs ys : List Value} {tmp : Obj}
    (hv : Boxed W B t v) (hte : t ≠ e) (hrow : W.ownsRow base e size v k xs) (hn : n ≤ W.heap.size) (hb : n ≤ base) (hB : n ≤ B)
    (hown' : w1.ownsRow base e size v' m ys) (hgrow : (W.alloc tmp).grownBy w1 v.ownBlock) :
    Boxed w1 B t v ∧ Boxed (w1.setCell ⟨B, 0, none⟩ v') B t v' ∧ (w1.setCell ⟨B, 0, none⟩ v').ownsRow base e size v' m ys ∧ Below n W (w1.setCell ⟨B, 0, none⟩ v') := by
  have hv1 : Boxed w1 B t v := (hv.alloc tmp).kept hgrow (hv.not_row hte hrow)
  refine ⟨hv1, hv1.set v', hown'.kept (grownBy_setCell' w1 B v') (.inr (hv1.not_row hte hown').symm), ?_⟩
  refine (((Below.refl n W).alloc hn tmp).grown hgrow (by simp; omega) fun j ej => ?_).setCell (p := ⟨B, 0, none⟩) hB v'
  have := (hrow.lt) j ej
  omega
theorem Kept.appended {W w1 : World} {F : Nat → Prop} {base B : Nat} {e : TypeId} {size : Nat} {v v' : Value} {k : Nat} {xs : List Value} {tmp : Obj}
    (hrow : W.ownsRow base e size v k xs) (hgrow : (W.alloc tmp).grownBy w1 v.ownBlock) (hB : F B) (hF : ∀ j, base ≤ j → F j) : Kept F W (w1.setCell ⟨B, 0, none⟩ v') := by
  refine ⟨hgrow.os, hgrow.tape, hgrow.output, by have := hgrow.size; simp at this ⊢; omega, fun j hj hn => ?_⟩
  rw [Below.heap_setCell _ _ _ _ (fun h => hn (by rw [h]; exact hB)), hgrow.block j (by simp; omega) (fun h => hn ?_), Below.heap_alloc _ _ _ hj]
  exact hF j ((hrow.lt) j h.symm).1
end Go.Proofs.YtgojenokfdiahaaDoor
namespace Go.Proofs.YtgojenokfdiahaaDoor
open Go.RowKit
variable {F : Fence} {n : Nat} {P : Program}
/-- The same, where the loop's variable (slot d) takes what slot p is handed. -/
theorem rangeFunc_law1 {α : Type} (p d : Nat) (en : α → Value) {g : Operand} {ps : Array Tmp} {assign body : Code} {Q : Exit → Act → World → Prop} {a : Act} {w : World}
    (hro : F.round = none) (h1 : 1 ≤ n) {gf : Nat} {lb : Array Value} (hg : a.eval g = .func (.func gf) #[] lb) (hFg : F.fn gf) (eg : ∀ args w, (callFunc gf args).run P w = .ok (.enter gf args) w)
    {encs : α → Array Value} {Kp : World → World → Prop} {S Sp : List α → Prop} {N : Nat} {Bs : List Nat} {w0 : World} (hseq : Iter F (n - 1) P gf lb encs Kp S Sp N Bs w0)
    (hKt : ∀ {A B C : World}, Kp A B → Kp B C → Kp A C) (hKb : ∀ (W : World) (l : Nat) (o o' : Obj), w.heap.size ≤ l → W.heap[l]? = some o → o.isCells = false → o'.isCells = false → Kp W (W.putObj l o'))
    (hb0 : Below w0.heap.size w0 w) (hBs : ∀ B ∈ Bs, B < w.heap.size) (hsn : Snug Bs w) (hps : ∀ x, (encs x).size = ps.size)
    (I : List α → World → Prop) (Ix : Code → List α → World → Prop) (hI : Abiding Bs w.heap.size I) (hIx : ∀ c, Abiding Bs w.heap.size (Ix c)) (h0 : I [] w) (hassign : ∀ (l : Nat) (pre : List α) (x : α) (W : World) (K : Act → World → Prop), I pre W → w.heap.size ≤ W.heap.size → (∀ a' W', Yours Bs w.heap.size W W' → Kp W W' → I pre W' → a' = ({ tmps := (a.tmps.setIfInBounds p (en x)).setIfInBounds d (en x), defers := [] } : Act) → K a' W') →
      assign.wpIn (F.inRound l) (n - 1 - 1) P (Exit.then K (fun _ _ _ => False)) { tmps := (ps.zip (encs x)).foldl (fun t (p, v) => t.setIfInBounds p v) a.tmps, defers := [] } W)
    (hbody : ∀ (l : Nat) (pre : List α) (x : α) (a' : Act) (W : World), w.heap.size ≤ l → (∃ r, W.heap[l]? = some (.loop r)) → I pre W → a' = ({ tmps := (a.tmps.setIfInBounds p (en x)).setIfInBounds d (en x), defers := [] } : Act) → pre.length < N → Sp (pre ++ [x]) → body.wpIn (F.inRound l) (n - 1 - 1) P (iterPost Bs w.heap.size Kp I Ix (pre ++ [x]) W) a' W)
    (hdone : ∀ (D : Nat) (xs : List α) (W : World), w.heap.size ≤ D → S xs → I xs W → W.heap[D]? = some (.deferred (some [])) → Q .normal { a with defers := { target := .collected D, args := #[] } :: a.defers } W)
    (hstop : ∀ (D : Nat) (c : Code) (pre : List α) (W : World), w.heap.size ≤ D → Sp pre → Ix c pre W → W.heap[D]? = some (.deferred (some [])) → c.wpIn F n P Q { a with defers := { target := .collected D, args := #[] } :: a.defers } W) :
    (Code.rangeFunc g ps assign body).wpIn F n P Q a w :=
  rangeFunc_law hro h1 hg hFg eg hseq hKt hKb hb0 hBs hsn hps I Ix hI hIx h0 (fun x a' _ => a' = ({ tmps := (a.tmps.setIfInBounds p (en x)).setIfInBounds d (en x), defers := [] } : Act)) (fun _ _ _ _ _ h _ => h) hassign hbody hdone hstop
end Go.Proofs.YtgojenokfdiahaaDoor
