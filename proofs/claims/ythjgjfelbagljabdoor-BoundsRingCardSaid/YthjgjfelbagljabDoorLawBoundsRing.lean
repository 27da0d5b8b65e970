/- A slice of configs that came in. The row of the law BoundsRing, and its tied card. -/
import Derived.Test.YthjgjfelbagljabDoorRows
import Derived.Test.YthjgjfelbagljabDoorCards
import Derived.Test.YthjgjfelbagljabDoorTie
import Derived.Test.YthjgjfelbagljabDoorBRPure
import Derived.Test.YthjgjfelbagljabDoorCtsRow
import Derived.WalkKit
import Derived.ProofKit
import Derived.OpenShut
import Derived.ShutString
import Derived.ChangeOld
import Derived.Below
import Derived.SizedLaws
import Derived.LaidMore
import Derived.Lay
import Derived.SevenTiedAt
import Derived.Stop.Joined
import Derived.Shelf.Vars
namespace Go.Proofs.YthjgjfelbagljabDoor
open Go.ChangeShapes Go.WideShapes Go.ChangeAt Go.RowKit Go.Deep Go.Joins
open Go.Proofs.YthjgjfelbagljabDoorW.PrintWords
section
variable {H : Type} {enc : TypeId × Value → H} {P : Program} {w : World} {base : Nat} {spare : Nat → Bool} {held : Bool}
instance : Inhabited PBoundsRing.S55 := ⟨PBoundsRing.z55⟩
theorem open_cfg1 {e : TypeId} {f0 f1 f2 f3 : Field} {n : Nat} {cs : List Value} {y : DataW H × List MemPlace} (he : P.underlying e = some (.struct #[f0, f1, f2, f3])) (hone : oneCellFields P #[f0, f1, f2, f3] = true)
    (k0 : P.underlying f0.type = some (.int .i64)) (k1 : P.underlying f1.type = some (.int .i64)) (k2 : P.underlying f2.type = some (.int .i64)) (k3 : P.underlying f3.type = some (.int .i64)) (hl : cs.length = 4)
    (h : DataW.trod enc P w base spare held n e cs = some y) : ∃ x : PBoundsRing.S55, cs = [.int .i64 x.f0, .int .i64 x.f1, .int .i64 x.f2, .int .i64 x.f3] := by
  match cs, hl with
  | [v0, v1, v2, v3], _ =>
    obtain ⟨y0, y1, y2, y3, n, _, _, h0, h1, h2, h3⟩ := trod_struct4 he h
    obtain ⟨o0, c0⟩ := hone_of hone 0 f0 rfl
    obtain ⟨o1, c1⟩ := hone_of hone 1 f1 rfl
    obtain ⟨o2, c2⟩ := hone_of hone 2 f2 rfl
    obtain ⟨o3, c3⟩ := hone_of hone 3 f3 rfl
    obtain ⟨z0, e0, _, _⟩ := DataW.trod_int k0 h0
    obtain ⟨z1, e1, _, _⟩ := DataW.trod_int k1 h1
    obtain ⟨z2, e2, _, _⟩ := DataW.trod_int k2 h2
    obtain ⟨z3, e3, _, _⟩ := DataW.trod_int k3 h3
    simp [o0, c0] at e0
    simp [o1, c1] at e1
    simp [o2, c2] at e2
    simp [o3, c3] at e3
    subst e0 e1 e2 e3
    exact ⟨⟨z0, z1, z2, z3⟩, rfl⟩
theorem open_cfgs {t e : TypeId} {f0 f1 f2 f3 : Field} {fuel : Nat} {A : Option Addr} {n c : Nat} {x : DataW H × List MemPlace} (ht : P.underlying t = some (.slice e)) (he : P.underlying e = some (.struct #[f0, f1, f2, f3])) (hone : oneCellFields P #[f0, f1, f2, f3] = true) (hC : P.cellsOf e = 4)
    (k0 : P.underlying f0.type = some (.int .i64)) (k1 : P.underlying f1.type = some (.int .i64)) (k2 : P.underlying f2.type = some (.int .i64)) (k3 : P.underlying f3.type = some (.int .i64))
    (h : DataW.trod enc P w base spare held fuel t [.slice A n c] = some x) : ∃ xs : List PBoundsRing.S55, xs.length = n ∧ n ≤ c ∧ Kd.C PBoundsRing.k55 w A xs.length xs := by
  rcases Deep.open_slice ht h with ⟨hcs, _⟩ | ⟨a, len, cap, m, k, D, Pl, hcs, _, hl, hm, hmm, _, hx⟩
  · simp at hcs
    obtain ⟨rfl, rfl, rfl⟩ := hcs
    exact ⟨[], rfl, Nat.le_refl _, Kd.C_nil _ _⟩
  · simp at hcs
    obtain ⟨rfl, rfl, rfl⟩ := hcs
    have hle : n ≤ m := by rw [hmm]; split <;> omega
    have each : ∀ i, i < n → ∃ x : PBoundsRing.S55, ∀ j u, [Value.int .i64 x.f0, .int .i64 x.f1, .int .i64 x.f2, .int .i64 x.f3][j]? = some u → w.cell? (a.add (i * 4 + j)) = some u := by
      intro i hi
      obtain ⟨cs', h1, h2⟩ := hx i (by omega)
      rw [hC] at h1
      obtain ⟨_, hlen, hcell⟩ := World.cells?_some h1
      obtain ⟨x, rfl⟩ := open_cfg1 he hone k0 k1 k2 k3 hlen h2
      refine ⟨x, fun j u hu => ?_⟩
      have hj : j < 4 := (List.getElem?_eq_some_iff.1 hu).1
      have h0 := hcell 0 (by omega)
      have h1 := hcell 1 (by omega)
      have h2 := hcell 2 (by omega)
      have h3 := hcell 3 (by omega)
      rcases (by omega : j = 0 ∨ j = 1 ∨ j = 2 ∨ j = 3) with rfl | rfl | rfl | rfl
      · exact h0.trans hu
      · rw [add_field _ _ 1 (by omega)]; exact h1.trans hu
      · rw [add_field _ _ 2 (by omega)]; exact h2.trans hu
      · rw [add_field _ _ 3 (by omega)]; exact h3.trans hu
    obtain ⟨q, hq⟩ := Deep.choose_lt each
    refine ⟨(List.range n).map q, by simp, hl, ⟨rfl, ?_, fun _ => ⟨a, rfl, fun j p hj => ?_⟩⟩⟩
    · rw [List.length_map, List.length_range]
      have e : maxLen = 9223372036854775807 := rfl
      rw [e] at hm
      omega
    · obtain ⟨hj', hp⟩ := List.getElem?_eq_some_iff.1 hj
      simp at hj' hp
      subst hp
      exact ⟨_, rfl, PBoundsRing.k55_mk w (q j), hq j hj'⟩
end
end Go.Proofs.YthjgjfelbagljabDoor
namespace Go.Proofs.YthjgjfelbagljabDoor.boundsRing
open Go.ChangeShapes Go.WideShapes Go.ChangeAt Go.RowKit
theorem own : ownKnob Tryd.prog.godebug = none := by kernel_rfl
theorem laidOut : laidOutB Tryd.prog = true := by kernel_rfl
abbrev laid : List (String × DataW Unit) := Rows.boundsRingRow.laid
set_option maxHeartbeats 4000000 in
set_option maxRecDepth 100000 in
theorem lifted (os : Os) (started : os.Started) (H : Type) (enc : TypeId × Value → H) :
    ReturnsInHanded {} Tryd.checked os 4 .any (fun w args => (Rows.boundsRingSpec.pre enc Tryd.prog Tryd.f4 Rows.boundsRingRow.domain false w args ∧ laidMetH Tryd.prog laid w) ∧ sizedMet enc Tryd.prog Tryd.f4 (OpenSpec.ofChange Rows.boundsRingSpec) false w args)
      (Rows.boundsRingSpec.post enc Tryd.prog Tryd.f4 false true false false) := by
  refine returns_of_laid_shaped (C := Tryd.checked) (X := fun w _ => laidMetH Tryd.prog laid w) own started (by kernel_rfl) Tryd.func4
    (ChangeSpec.witness_shaped (enc := enc) (C := Tryd.checked) (os := os) (X := fun w _ => laidMetH Tryd.prog laid w) false (World.laidAll Tryd.prog os laid) #[.slice none 0 0, .agg #[.int .u64 0, .int .u64 0, .int .u64 0, .int .u64 0, .int .u64 0, .int .u64 0, .int .u64 0, .int .u64 0, .int .u64 0, .int .u64 0]] 8 (World.laidAll_os _ _ _)
      (World.shaped_of_ZipB (by kernel_rfl) (by kernel_rfl)) (by kernel_rfl) (by kernel_rfl) (by kernel_rfl)
      (by rw [MakeChecks.laidMetH_plain _ _ _ (by kernel_rfl)]; exact laidMet_laidAll _ (by kernel_rfl) (by kernel_rfl))) ?_
  intro W base args ds gs before hval0 hW _ hsh
  have hval : ∀ (j : Nat) t v, Tryd.f4.params[j]? = some t → args[j]? = some v → Value.okWide Tryd.prog W .any base t v := hval0
  have hW' := hW
  obtain ⟨p, q, hA0, hV, rfl, hfz, hnd⟩ := hW
  have hA : DataW.TrodAll enc Tryd.prog W 0 (fun _ => true) true Tryd.f4.params.toList args.toList ds p := hA0
  rw [Tryd.params4] at hA hval
  obtain ⟨v0, vs0, d0, ds0, p0, q0, hargs, rfl, rfl, h0, r0⟩ := trodAll_cons hA
  obtain ⟨v1, vs1, d1, ds1, p1, q1, rfl, rfl, rfl, h1, r1⟩ := trodAll_cons r0
  obtain ⟨rfl, rfl, rfl⟩ := trodAll_nil r1
  obtain rfl : args = #[v0, v1] := by cases args; simp_all
  obtain ⟨rfl, rfl⟩ := trodVars_none hV
  obtain ⟨a0, len0, cap0, rfl⟩ := okWide_slice Tryd.underlying31 (hval 0 31 v0 rfl rfl)
  have k0 := h0
  have lt0 : ∀ x ∈ p0, x.block < W.heap.size := by obtain ⟨m, hm⟩ := k0; exact DataW.trod_lt m _ _ _ hm
  obtain ⟨fuel0, hf0⟩ := h0
  obtain ⟨xs, hxl, hxc, hC⟩ := open_cfgs Tryd.underlying31 Tryd.underlying55 (by kernel_rfl) (by kernel_rfl) Tryd.underlying53 Tryd.underlying3 Tryd.underlying3 Tryd.underlying3 hf0
  subst hxl
  obtain ⟨z0, z1, z2, z3, z4, z5, z6, z7, z8, z9, rfl, rfl, w0, w1, w2, w3, w4, w5, w6, w7, w8, w9, s1⟩ := open_cts Tryd.underlying24 (by kernel_rfl) (by kernel_rfl) Tryd.underlying22 Tryd.underlying22 Tryd.underlying22 Tryd.underlying22 Tryd.underlying22 Tryd.underlying22 Tryd.underlying22 Tryd.underlying22 Tryd.underlying22 Tryd.underlying22 (hval 1 24 v1 rfl rfl) h1
  have hM : PBoundsTells.MaxAt W := cell_of_shapedOpen_int (P := Tryd.prog) (g := 0) (t := 3) (zero := #[.int .i64 0]) hsh (of_decide_eq_true (by kernel_rfl)) (by kernel_rfl) rfl (by kernel_rfl) (by kernel_rfl) Tryd.underlying3
  clear hA0 hval0
  refine (PBoundsRing.hutchlaw34_BoundsRing.calls 120 a0 cap0 xs z0 z1 z2 z3 z4 z5 z6 z7 z8 z9 true W hM hC hxc (bring_f xs (c := ⟨z0, z1, z2, z3, z4, z5, z6, z7, z8, z9⟩) ⟨u64_wf w0, u64_wf w1, u64_wf w2, u64_wf w3, u64_wf w4, u64_wf w5, u64_wf w6, u64_wf w7, u64_wf w8, u64_wf w9⟩)).mono fun e W' ⟨he, bel⟩ => ?_
  subst he
  exact ⟨_, rfl, _, _, _, [], _, [], hW', trodAll_mk1 (shut_bool Tryd.underlying4 _), (trodAll_cons_mk (Below.trod laidOut (by kernel_rfl) (of_decide_eq_true (by kernel_rfl)) k0 bel lt0) (trodAll_cons_mk (s1 _ _ _ _) trodAll_mk0)), rfl, bel.frame _, fun h => by cases h⟩
set_option maxHeartbeats 4000000 in
theorem over : Rows.BoundsRingSaid :=
  OpenClaim.holds_of_wide 4 Tryd.f4 rfl rfl rfl rfl rfl rfl rfl ⟨rfl, rfl, rfl, rfl, rfl⟩ rfl rfl rfl rfl rfl (by as_aux_lemma => kernel_rfl) Tryd.func4 (by as_aux_lemma => kernel_rfl)
    (of_decide_eq_true (by as_aux_lemma => kernel_rfl)) (by unfold Func.isWrapper; first | (rw [if_pos (by decide +kernel)]; kernel_rfl) | (rw [if_neg (by decide +kernel)]; exact ⟨rfl, rfl⟩))
    (fun os started H enc _ => lifted os started H enc)
theorem card : Rows.BoundsRingCardSaid :=
  Claim7.holds_tied_plain_at .later [] [.data, .pinned] true (true, "386cc3b3b72c27152c23daf2d46e39b65a39c09601eab5450a0cd63985450479") false over (fun _ h => by cases h) (by kernel_rfl) (fun _ h => by cases h) boundsRing_row_tie rfl ⟨rfl, rfl⟩ (by kernel_rfl) rfl
    (fun f fn hf hfn => by
      obtain rfl : f = 4 := Option.some.inj ((show Tryd.prog.funcNamed "hutch/hutchlaw34.BoundsRing" = some 4 by kernel_rfl).symm.trans hf) |>.symm
      obtain rfl : fn = Tryd.f4 := (Option.some.inj (Tryd.func4.symm.trans hfn)).symm
      exact ⟨by kernel_rfl, fun j t ht => by
        rw [Tryd.params4] at ht
        have hm : t ∈ [31, 24] := by simpa using Array.mem_of_getElem? ht
        have hall : ([31, 24].all fun u => !Tryd.prog.wantsStandIn u) = true := by kernel_rfl
        exact (show Tryd.prog.wantsStandIn t = false by simpa using List.all_eq_true.1 hall t hm)⟩)
    (by kernel_rfl)
#print axioms card
end Go.Proofs.YthjgjfelbagljabDoor.boundsRing
namespace Go.Proofs.YthjgjfelbagljabDoor
theorem boundsRing_holds : Rows.BoundsRingCardSaid := boundsRing.card
end Go.Proofs.YthjgjfelbagljabDoor
