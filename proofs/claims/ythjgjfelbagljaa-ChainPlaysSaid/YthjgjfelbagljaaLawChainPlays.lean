/- A slice of acts that came in: what it holds. The row of the law ChainPlays: for every input the call returns true, and each argument reads behind it as it read before. -/
import Derived.Test.YthjgjfelbagljaaPlays
import Derived.Deep.Slices
import Derived.Lib.SmallJoins
import Derived.Test.YthjgjfelbagljaaRows
import Derived.WalkKit
import Derived.ProofKit
import Derived.OpenShut
import Derived.ShutString
import Derived.ChangeOld
import Derived.Below
import Derived.SizedLaws
import Derived.ChangeSlices
import Derived.Carry
namespace Go.Proofs.Ythjgjfelbagljaa
open Go.ChangeShapes Go.WideShapes Go.ChangeAt Go.RowKit Go.Deep Go.Joins
namespace Ref04
section
variable {H : Type} {enc : TypeId × Value → H} {P : Program} {w : World} {base : Nat} {spare : Nat → Bool} {held : Bool}
theorem open_act {e : TypeId} {f0 f1 f2 f3 : Field} {n : Nat} {cs : List Value} {y : DataW H × List MemPlace} (he : P.underlying e = some (.struct #[f0, f1, f2, f3])) (hone : oneCellFields P #[f0, f1, f2, f3] = true)
    (k0 : P.underlying f0.type = some (.int .i64)) (k1 : P.underlying f1.type = some (.int .i64)) (k2 : P.underlying f2.type = some (.int .i32)) (k3 : P.underlying f3.type = some (.int .i32)) (hl : cs.length = 4)
    (h : DataW.trod enc P w base spare held n e cs = some y) : ∃ x : ActR, cs = [.int .i64 x.k, .int .i64 x.l, .int .i32 x.n, .int .i32 x.a] ∧ x.ok := by
  match cs, hl with
  | [v0, v1, v2, v3], _ =>
    obtain ⟨y0, y1, y2, y3, n, _, _, h0, h1, h2, h3⟩ := trod_struct4 he h
    obtain ⟨o0, c0⟩ := hone_of hone 0 f0 rfl
    obtain ⟨o1, c1⟩ := hone_of hone 1 f1 rfl
    obtain ⟨o2, c2⟩ := hone_of hone 2 f2 rfl
    obtain ⟨o3, c3⟩ := hone_of hone 3 f3 rfl
    obtain ⟨z0, e0, _, _⟩ := DataW.trod_int k0 h0
    obtain ⟨z1, e1, _, _⟩ := DataW.trod_int k1 h1
    obtain ⟨z2, e2, _, w2⟩ := DataW.trod_int k2 h2
    obtain ⟨z3, e3, _, w3⟩ := DataW.trod_int k3 h3
    simp [o0, c0] at e0
    simp [o1, c1] at e1
    simp [o2, c2] at e2
    simp [o3, c3] at e3
    subst e0 e1 e2 e3
    refine ⟨⟨z0, z1, z2, z3⟩, rfl, ?_, ?_⟩
    · have w2 : IntKind.i32.min ≤ z2 ∧ z2 ≤ IntKind.i32.max := by simpa [Lit.wf] using w2
      rw [show IntKind.i32.min = -2147483648 from rfl, show IntKind.i32.max = 2147483647 from rfl] at w2
      exact ⟨w2.1, by have := w2.2; show z2 < 2147483648; omega⟩
    · have w3 : IntKind.i32.min ≤ z3 ∧ z3 ≤ IntKind.i32.max := by simpa [Lit.wf] using w3
      rw [show IntKind.i32.min = -2147483648 from rfl, show IntKind.i32.max = 2147483647 from rfl] at w3
      exact ⟨w3.1, by have := w3.2; show z3 < 2147483648; omega⟩
theorem open_acts {t e : TypeId} {f0 f1 f2 f3 : Field} {fuel : Nat} {A : Option Addr} {n c : Nat} {x : DataW H × List MemPlace} (ht : P.underlying t = some (.slice e)) (he : P.underlying e = some (.struct #[f0, f1, f2, f3])) (hone : oneCellFields P #[f0, f1, f2, f3] = true) (hC : P.cellsOf e = 4)
    (k0 : P.underlying f0.type = some (.int .i64)) (k1 : P.underlying f1.type = some (.int .i64)) (k2 : P.underlying f2.type = some (.int .i32)) (k3 : P.underlying f3.type = some (.int .i32))
    (h : DataW.trod enc P w base spare held fuel t [.slice A n c] = some x) : ∃ xs : List ActR, ActsW w (.slice A n c) xs ∧ ∀ x ∈ xs, x.ok := by
  rcases Deep.open_slice ht h with ⟨hcs, _⟩ | ⟨a, len, cap, m, k, D, Pl, hcs, _, hl, hm, hmm, _, hx⟩
  · simp at hcs
    obtain ⟨rfl, rfl, rfl⟩ := hcs
    exact ⟨[], ⟨_, _, rfl, Nat.le_refl _, .inl rfl⟩, fun _ h => by cases h⟩
  · simp at hcs
    obtain ⟨rfl, rfl, rfl⟩ := hcs
    have hle : n ≤ m := by rw [hmm]; split <;> omega
    have each : ∀ i, i < n → ∃ x : ActR, (w.cell? (a.add (i * 4)) = some (.int .i64 x.k) ∧ w.cell? ⟨(a.add (i * 4)).block, (a.add (i * 4)).off + 1, none⟩ = some (.int .i64 x.l) ∧ w.cell? ⟨(a.add (i * 4)).block, (a.add (i * 4)).off + 2, none⟩ = some (.int .i32 x.n) ∧ w.cell? ⟨(a.add (i * 4)).block, (a.add (i * 4)).off + 3, none⟩ = some (.int .i32 x.a)) ∧ x.ok := by
      intro i hi
      obtain ⟨cs', h1, h2⟩ := hx i (by omega)
      rw [hC] at h1
      obtain ⟨_, hlen, hcell⟩ := World.cells?_some h1
      obtain ⟨x, rfl, hok⟩ := open_act he hone k0 k1 k2 k3 hlen h2
      exact ⟨x, ⟨hcell 0 (by omega), hcell 1 (by omega), hcell 2 (by omega), hcell 3 (by omega)⟩, hok⟩
    obtain ⟨q, hq⟩ := Deep.choose_lt each
    have hg : ∀ i, i < n → ((List.range n).map q).getD i default = q i := fun i hi => by
      rw [List.getD_eq_getElem?_getD, List.getElem?_map, List.getElem?_range hi]; rfl
    refine ⟨(List.range n).map q, ⟨some a, c, by simp, by simpa using hl, .inr ⟨a, rfl, fun i hi => ?_⟩⟩, fun x hx => ?_⟩
    · have hi' : i < n := by simpa using hi
      rw [hg i hi']
      exact (hq i hi').1
    · obtain ⟨i, hi, rfl⟩ := List.mem_map.1 hx
      exact (hq i (List.mem_range.1 hi)).2
end
end Ref04
end Go.Proofs.Ythjgjfelbagljaa
namespace Go.Proofs.Ythjgjfelbagljaa.chainPlays
open Go.ChangeShapes Go.WideShapes Go.ChangeAt Go.RowKit
open Go.ChangeMaps (open_string shut_string)
theorem own : ownKnob Try.prog.godebug = none := by kernel_rfl
theorem laidOut : laidOutB Try.prog = true := by kernel_rfl
set_option maxHeartbeats 4000000 in
set_option maxRecDepth 100000 in
theorem lifted (os : Os) (started : os.Started) (H : Type) (enc : TypeId × Value → H) :
    ReturnsInHanded {} Try.checked os 7 .any (Rows.chainPlaysSpec.pre6 enc Try.prog Try.f7 Rows.chainPlaysRow.domain false) (Rows.chainPlaysSpec.post enc Try.prog Try.f7 false true false false) := by
  refine returnsInHanded_of_change_sized (C := Try.checked) own started (by kernel_rfl) Try.func7
    (ChangeSpec.witness6 (enc := enc) (C := Try.checked) false ⟨#[], #[.int .i64 0, .int .i64 0, .slice none 0 0], []⟩ 8 (by kernel_rfl) (by kernel_rfl) (by kernel_rfl) (by kernel_rfl)) ?_
  intro W base args ds gs before hval0 hW hcnd hsz0 _
  have hval : ∀ (j : Nat) t v, Try.f7.params[j]? = some t → args[j]? = some v → Value.okWide Try.prog W .any base t v := hval0
  have hW' := hW
  obtain ⟨p, q, hA0, hV, rfl, hfz, hnd⟩ := hW
  have hA : DataW.TrodAll enc Try.prog W 0 (fun _ => true) true Try.f7.params.toList args.toList ds p := hA0
  rw [Try.params7] at hA hval
  obtain ⟨v0, vs0, d0, ds0, p0, q0, hargs, rfl, rfl, h0, r0⟩ := trodAll_cons hA
  obtain ⟨v1, vs1, d1, ds1, p1, q1, rfl, rfl, rfl, h1, r1⟩ := trodAll_cons r0
  obtain ⟨v2, vs2, d2, ds2, p2, q2, rfl, rfl, rfl, h2, r2⟩ := trodAll_cons r1
  obtain ⟨rfl, rfl, rfl⟩ := trodAll_nil r2
  obtain rfl : args = #[v0, v1, v2] := by cases args; simp_all
  obtain ⟨rfl, rfl⟩ := trodVars_none hV
  obtain ⟨a0, rfl, rfl, rfl, w0⟩ := open_int Try.underlying3 (hval 0 3 v0 rfl rfl) h0
  obtain ⟨a1, rfl, rfl, rfl, w1⟩ := open_int Try.underlying3 (hval 1 3 v1 rfl rfl) h1
  obtain ⟨a2, len2, cap2, rfl⟩ := okWide_slice Try.underlying59 (hval 2 59 v2 rfl rfl)
  have k2 := h2
  have lt2 : ∀ x ∈ p2, x.block < W.heap.size := by obtain ⟨m, hm⟩ := k2; exact DataW.trod_lt m _ _ _ hm
  obtain ⟨fuel2, hf2⟩ := h2
  obtain ⟨z2, w2, o2⟩ := Ref04.open_acts Try.underlying59 Try.underlying66 (by kernel_rfl) (by kernel_rfl) Try.underlying3 Try.underlying3 Try.underlying21 Try.underlying21 hf2
  clear hA0 hval0 hsz0
  refine (Ref04.ChainPlays_calls W a0 a1 _ z2 w2 o2).mono fun e W' ⟨he, bel⟩ => ?_
  subst he
  exact ⟨_, rfl, _, _, _, [], _, [], hW', trodAll_mk1 (shut_bool Try.underlying4 _), (trodAll_cons_mk (shut_int Try.underlying3 w0) (trodAll_cons_mk (shut_int Try.underlying3 w1) (trodAll_cons_mk (Below.trod laidOut (by kernel_rfl) (of_decide_eq_true (by kernel_rfl)) k2 bel lt2) trodAll_mk0))), rfl, bel.frame _, fun h => by cases h⟩
set_option maxHeartbeats 4000000 in
theorem over : Rows.chainPlaysRow.holds Try.pinned (OpenSpec.ofChange Rows.chainPlaysSpec) :=
  OpenClaim.holds_of_wide 7 Try.f7 rfl rfl rfl rfl rfl rfl rfl ⟨rfl, rfl, rfl, rfl, rfl⟩ rfl rfl rfl rfl rfl (by as_aux_lemma => kernel_rfl) Try.func7 (by as_aux_lemma => kernel_rfl)
    (of_decide_eq_true (by as_aux_lemma => kernel_rfl)) (by unfold Func.isWrapper; first | (rw [if_pos (by decide +kernel)]; kernel_rfl) | (rw [if_neg (by decide +kernel)]; exact ⟨rfl, rfl⟩))
    (fun os started H enc _ => lifted os started H enc)
theorem proved : Rows.ChainPlaysSaid := over
#print axioms proved
end Go.Proofs.Ythjgjfelbagljaa.chainPlays
namespace Go.Proofs.Ythjgjfelbagljaa
theorem chainPlays_holds : Rows.ChainPlaysSaid := chainPlays.proved
end Go.Proofs.Ythjgjfelbagljaa
