/- A config that came in by value: what it holds; it reads so in any world. -/
import Derived.Test.YtekbgpfpnjddgaaMem
import Derived.Deep.Slices
import Derived.Lib.SmallJoins
namespace Go.Proofs.Ytekbgpfpnjddgaa
open Go.ChangeShapes Go.WideShapes Go.ChangeAt Go.RowKit Go.Deep Go.Joins
namespace Siz
section
variable {H : Type} {enc : TypeId × Value → H} {P : Program} {w : World} {base : Nat} {spare : Nat → Bool} {held : Bool}
theorem open_cfg {r : Reach} {b0 : Nat} {t : TypeId} {f0 f1 f2 f3 : Field} {v : Value} {d : DataW H} {p : List MemPlace} (hs : P.underlying t = some (.struct #[f0, f1, f2, f3])) (hone : oneCellFields P #[f0, f1, f2, f3] = true) (hC : P.cellsOf t = 4)
    (k0 : P.underlying f0.type = some (.int .i64)) (k1 : P.underlying f1.type = some (.int .i64)) (k2 : P.underlying f2.type = some (.int .i64)) (k3 : P.underlying f3.type = some (.int .i64))
    (hv : Value.okWide P w r b0 t v) (h : DataW.Trod enc P w base spare held t v d p) :
    ∃ z0 z1 z2 z3 : Int, v = .agg #[.int .i64 z0, .int .i64 z1, .int .i64 z2, .int .i64 z3] ∧ p = [] ∧ ∀ (w' : World) (base' : Nat) (spare' : Nat → Bool) (held' : Bool), DataW.Trod enc P w' base' spare' held' t (.agg #[.int .i64 z0, .int .i64 z1, .int .i64 z2, .int .i64 z3]) d [] := by
  obtain ⟨v0, v1, v2, v3, y0, y1, y2, y3, n, rfl, rfl, rfl, h0, h1, h2, h3⟩ := open_agg4 hs hone hC hv h
  obtain ⟨z0, e0, rfl, w0⟩ := DataW.trod_int k0 h0
  obtain ⟨z1, e1, rfl, w1⟩ := DataW.trod_int k1 h1
  obtain ⟨z2, e2, rfl, w2⟩ := DataW.trod_int k2 h2
  obtain ⟨z3, e3, rfl, w3⟩ := DataW.trod_int k3 h3
  injection e0 with e0
  injection e1 with e1
  injection e2 with e2
  injection e3 with e3
  subst e0 e1 e2 e3
  refine ⟨z0, z1, z2, z3, rfl, rfl, fun w' base' spare' held' => ?_⟩
  have s0 := shut_int (enc := enc) (P := P) (w := w') (base := base') (spare := spare') (held := held') k0 w0
  have s1 := shut_int (enc := enc) (P := P) (w := w') (base := base') (spare := spare') (held := held') k1 w1
  have s2 := shut_int (enc := enc) (P := P) (w := w') (base := base') (spare := spare') (held := held') k2 w2
  have s3 := shut_int (enc := enc) (P := P) (w := w') (base := base') (spare := spare') (held := held') k3 w3
  have := shut_agg4 (enc := enc) (P := P) (w := w') (base := base') (spare := spare') (held := held') hs hone hC s0 s1 s2 s3
  simpa using this
end
end Siz
end Go.Proofs.Ytekbgpfpnjddgaa
