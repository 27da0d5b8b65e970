/- A record of counts that came in by value: ten numbers of 64 bits; it reads so in any world. The wrap of a row that lists variables and is handed the world's shape. -/
import Derived.Test.YtgojenokfdiahaaDoorMem
import Derived.Deep.Slices
import Derived.Lib.SmallJoins
import Derived.SizedLaws
import Derived.Handed
import Derived.HandedShaped
import Derived.LaidMore
namespace Go.Proofs.YtgojenokfdiahaaDoor
open Go.ChangeShapes Go.WideShapes Go.ChangeAt Go.RowKit Go.Deep Go.Joins
section
variable {H : Type} {enc : TypeId × Value → H} {P : Program} {w : World} {base : Nat} {spare : Nat → Bool} {held : Bool}
theorem open_cts {r : Reach} {b0 : Nat} {t : TypeId} {f0 f1 f2 f3 f4 f5 f6 f7 f8 f9 : Field} {v : Value} {d : DataW H} {p : List MemPlace} (hs : P.underlying t = some (.struct #[f0, f1, f2, f3, f4, f5, f6, f7, f8, f9])) (hone : oneCellFields P #[f0, f1, f2, f3, f4, f5, f6, f7, f8, f9] = true) (hC : P.cellsOf t = 10)
    (k0 : P.underlying f0.type = some (.int .u64)) (k1 : P.underlying f1.type = some (.int .u64)) (k2 : P.underlying f2.type = some (.int .u64)) (k3 : P.underlying f3.type = some (.int .u64)) (k4 : P.underlying f4.type = some (.int .u64)) (k5 : P.underlying f5.type = some (.int .u64)) (k6 : P.underlying f6.type = some (.int .u64)) (k7 : P.underlying f7.type = some (.int .u64)) (k8 : P.underlying f8.type = some (.int .u64)) (k9 : P.underlying f9.type = some (.int .u64))
    (hv : Value.okWide P w r b0 t v) (h : DataW.Trod enc P w base spare held t v d p) :
    ∃ z0 z1 z2 z3 z4 z5 z6 z7 z8 z9 : Int, v = .agg #[.int .u64 z0, .int .u64 z1, .int .u64 z2, .int .u64 z3, .int .u64 z4, .int .u64 z5, .int .u64 z6, .int .u64 z7, .int .u64 z8, .int .u64 z9] ∧ p = [] ∧ (Lit.int .u64 z0).wf = true ∧ (Lit.int .u64 z1).wf = true ∧ (Lit.int .u64 z2).wf = true ∧ (Lit.int .u64 z3).wf = true ∧ (Lit.int .u64 z4).wf = true ∧ (Lit.int .u64 z5).wf = true ∧ (Lit.int .u64 z6).wf = true ∧ (Lit.int .u64 z7).wf = true ∧ (Lit.int .u64 z8).wf = true ∧ (Lit.int .u64 z9).wf = true ∧ ∀ (w' : World) (base' : Nat) (spare' : Nat → Bool) (held' : Bool), DataW.Trod enc P w' base' spare' held' t (.agg #[.int .u64 z0, .int .u64 z1, .int .u64 z2, .int .u64 z3, .int .u64 z4, .int .u64 z5, .int .u64 z6, .int .u64 z7, .int .u64 z8, .int .u64 z9]) d [] := by
  obtain ⟨cs, rfl, hsz⟩ := okWide_struct hs hv
  obtain ⟨l⟩ := cs
  have hl10 : l.length = 10 := by simpa using hsz.trans hC
  match l, hl10 with
  | [c0, c1, c2, c3, c4, c5, c6, c7, c8, c9], _ =>
    obtain ⟨fuel, hf⟩ := h
    obtain ⟨xs, n, rfl, hx, hl, hxl, hall⟩ := DataW.trod_struct hs hf
    have hx10 : xs.length = 10 := hxl
    match xs, hx10 with
    | [y0, y1, y2, y3, y4, y5, y6, y7, y8, y9], _ =>
      simp only [Prod.mk.injEq] at hx
      obtain ⟨hd, hp⟩ := hx
      obtain ⟨o0, q0⟩ := hone_of hone 0 f0 rfl
      have h0 : DataW.trod enc P w base spare held n f0.type [c0] = some y0 := by simpa [Value.cells, o0, q0] using hall 0 f0 rfl
      obtain ⟨z0, e0, rfl, w0⟩ := DataW.trod_int k0 h0
      injection e0 with e0
      subst e0
      obtain ⟨o1, q1⟩ := hone_of hone 1 f1 rfl
      have h1 : DataW.trod enc P w base spare held n f1.type [c1] = some y1 := by simpa [Value.cells, o1, q1] using hall 1 f1 rfl
      obtain ⟨z1, e1, rfl, w1⟩ := DataW.trod_int k1 h1
      injection e1 with e1
      subst e1
      obtain ⟨o2, q2⟩ := hone_of hone 2 f2 rfl
      have h2 : DataW.trod enc P w base spare held n f2.type [c2] = some y2 := by simpa [Value.cells, o2, q2] using hall 2 f2 rfl
      obtain ⟨z2, e2, rfl, w2⟩ := DataW.trod_int k2 h2
      injection e2 with e2
      subst e2
      obtain ⟨o3, q3⟩ := hone_of hone 3 f3 rfl
      have h3 : DataW.trod enc P w base spare held n f3.type [c3] = some y3 := by simpa [Value.cells, o3, q3] using hall 3 f3 rfl
      obtain ⟨z3, e3, rfl, w3⟩ := DataW.trod_int k3 h3
      injection e3 with e3
      subst e3
      obtain ⟨o4, q4⟩ := hone_of hone 4 f4 rfl
      have h4 : DataW.trod enc P w base spare held n f4.type [c4] = some y4 := by simpa [Value.cells, o4, q4] using hall 4 f4 rfl
      obtain ⟨z4, e4, rfl, w4⟩ := DataW.trod_int k4 h4
      injection e4 with e4
      subst e4
      obtain ⟨o5, q5⟩ := hone_of hone 5 f5 rfl
      have h5 : DataW.trod enc P w base spare held n f5.type [c5] = some y5 := by simpa [Value.cells, o5, q5] using hall 5 f5 rfl
      obtain ⟨z5, e5, rfl, w5⟩ := DataW.trod_int k5 h5
      injection e5 with e5
      subst e5
      obtain ⟨o6, q6⟩ := hone_of hone 6 f6 rfl
      have h6 : DataW.trod enc P w base spare held n f6.type [c6] = some y6 := by simpa [Value.cells, o6, q6] using hall 6 f6 rfl
      obtain ⟨z6, e6, rfl, w6⟩ := DataW.trod_int k6 h6
      injection e6 with e6
      subst e6
      obtain ⟨o7, q7⟩ := hone_of hone 7 f7 rfl
      have h7 : DataW.trod enc P w base spare held n f7.type [c7] = some y7 := by simpa [Value.cells, o7, q7] using hall 7 f7 rfl
      obtain ⟨z7, e7, rfl, w7⟩ := DataW.trod_int k7 h7
      injection e7 with e7
      subst e7
      obtain ⟨o8, q8⟩ := hone_of hone 8 f8 rfl
      have h8 : DataW.trod enc P w base spare held n f8.type [c8] = some y8 := by simpa [Value.cells, o8, q8] using hall 8 f8 rfl
      obtain ⟨z8, e8, rfl, w8⟩ := DataW.trod_int k8 h8
      injection e8 with e8
      subst e8
      obtain ⟨o9, q9⟩ := hone_of hone 9 f9 rfl
      have h9 : DataW.trod enc P w base spare held n f9.type [c9] = some y9 := by simpa [Value.cells, o9, q9] using hall 9 f9 rfl
      obtain ⟨z9, e9, rfl, w9⟩ := DataW.trod_int k9 h9
      injection e9 with e9
      subst e9
      subst hd hp
      refine ⟨z0, z1, z2, z3, z4, z5, z6, z7, z8, z9, rfl, rfl, w0, w1, w2, w3, w4, w5, w6, w7, w8, w9, fun w' base' spare' held' => ⟨2, ?_⟩⟩
      have := trod_struct_mk (enc := enc) (P := P) (w := w') (base := base') (spare := spare') (held := held') (n := 1) (cs := [.int .u64 z0, .int .u64 z1, .int .u64 z2, .int .u64 z3, .int .u64 z4, .int .u64 z5, .int .u64 z6, .int .u64 z7, .int .u64 z8, .int .u64 z9]) (xs := [(.lit (.int .u64 z0), []), (.lit (.int .u64 z1), []), (.lit (.int .u64 z2), []), (.lit (.int .u64 z3), []), (.lit (.int .u64 z4), []), (.lit (.int .u64 z5), []), (.lit (.int .u64 z6), []), (.lit (.int .u64 z7), []), (.lit (.int .u64 z8), []), (.lit (.int .u64 z9), [])]) hs (by simp [hC])
        (by simp [o0, q0, o1, q1, o2, q2, o3, q3, o4, q4, o5, q5, o6, q6, o7, q7, o8, q8, o9, q9, trod_int_mk 0 k0 w0, trod_int_mk 0 k1 w1, trod_int_mk 0 k2 w2, trod_int_mk 0 k3 w3, trod_int_mk 0 k4 w4, trod_int_mk 0 k5 w5, trod_int_mk 0 k6 w6, trod_int_mk 0 k7 w7, trod_int_mk 0 k8 w8, trod_int_mk 0 k9 w9])
      simpa [Value.cells] using this
end

theorem u64_wf {n : Int} (h : (Lit.int .u64 n).wf = true) : 0 ≤ n ∧ n < 18446744073709551616 := by
  have : IntKind.u64.min ≤ n ∧ n ≤ IntKind.u64.max := by simpa [Lit.wf] using h
  have e : IntKind.u64.min = 0 := rfl
  have e' : IntKind.u64.max = 18446744073709551615 := rfl
  omega
theorem i64_wf {n : Int} (h : (Lit.int .i64 n).wf = true) : -9223372036854775808 ≤ n ∧ n ≤ 9223372036854775807 := by
  have : IntKind.i64.min ≤ n ∧ n ≤ IntKind.i64.max := by simpa [Lit.wf] using h
  have e : IntKind.i64.min = -9223372036854775808 := rfl
  have e' : IntKind.i64.max = 9223372036854775807 := rfl
  omega
/-- THE WRAP OF A ROW THAT LISTS VARIABLES AND IS HANDED THE WORLD's SHAPE. -/
theorem returns_of_laid_shaped {H : Type} {enc : TypeId × Value → H} {a : Assume} {C : Checked} {os : Os} {f : FuncId} {fn : Func} {s : ChangeSpec} {conds : List PathCond} {apart fresh handsOn again : Bool} {X : World → Array Value → Prop}
    (own : ownKnob C.prog.godebug = none) (started : os.Started) (noInit : C.prog.inits.idxOf? f = none) (hfn : C.prog.funcs[f]? = some fn)
    (witness : ∃ (w : World) (tape : Tape) (i : Input), w.os = os ∧ (w.forCall tape i).Shaped C.prog ∧ i.vars = [] ∧ Input.okWide C.prog (w.forCall tape i) .any w.heap.size f i ∧
      ((s.pre enc C.prog fn conds apart (w.forCall tape i).memory i.args ∧ X (w.forCall tape i).memory i.args) ∧ sizedMet enc C.prog fn (OpenSpec.ofChange s) apart (w.forCall tape i).memory i.args) ∧ a.holds C.prog (lone (Frame.enter C.prog f i.args .normal) [] (w.forCall tape i)))
    (contract : ∀ (W : World) (base : Nat) (args : Array Value) (ds gs : List (DataW H)) (before : List MemPlace),
      (∀ (j : Nat) t v, fn.params[j]? = some t → args[j]? = some v → Value.okWide C.prog W .any base t v) →
      DataW.Whole enc C.prog fn.params.toList s.vars apart W args.toList ds gs before →
      conds.all (PathCond.test C.prog ⟨fn.params.toList, ds, s.plain.varTypes C.prog, gs⟩) = true →
      W.ShapedOpen C.prog →
      Calls C.prog f args W fun e W' => ∃ v, e = .returned v ∧ s.post enc C.prog fn apart fresh handsOn again W args v W') :
    ReturnsInHanded a C os f .any (fun w args => (s.pre enc C.prog fn conds apart w args ∧ X w args) ∧ sizedMet enc C.prog fn (OpenSpec.ofChange s) apart w args) (s.post enc C.prog fn apart fresh handsOn again) := by
  refine returnsInHanded_of_calls own started noInit witness ?_
  intro w tape i _ hsh _ hok hpre hholds
  obtain ⟨_, _, _, fn', hfn', _, _, _, _, hval⟩ := hok
  have e : fn' = fn := Option.some.inj (hfn'.symm.trans hfn)
  subst e
  obtain ⟨⟨⟨ds, gs, before, hw, hc⟩, _⟩, _⟩ := hpre
  have hw' := DataW.Whole.of_heap (w' := w.forCall tape i) (by rfl) hw
  refine (contract (w.forCall tape i) w.heap.size i.args ds gs before hval hw' hc hsh).mono fun e W' ⟨v, he, hp⟩ => ?_
  subst he
  exact ChangeSpec.post_blind hp
end Go.Proofs.YtgojenokfdiahaaDoor
