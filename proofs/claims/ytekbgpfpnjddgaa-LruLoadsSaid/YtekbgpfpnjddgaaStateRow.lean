/- A state that came in by value, and a slice of acts: what they hold. -/
import Derived.Test.YtekbgpfpnjddgaaLruX
import Derived.Deep.Slices
import Derived.Lib.SmallJoins
namespace Go.Proofs.Ytekbgpfpnjddgaa
open Go.ChangeShapes Go.WideShapes Go.ChangeAt Go.RowKit Go.Deep Go.Joins Go.Proofs.YtekbgpfpnjddgaaW.PrintWords
open Go.Proofs.Ytekbgpfpnjddgaa.PLruLoads
namespace Lru
section
variable {H : Type} {enc : TypeId × Value → H} {w : World} {base : Nat} {spare : Nat → Bool} {held : Bool}
theorem field_trod {P : Program} {t : TypeId} {fs : Array Field} {fuel : Nat} {cs : List Value} {x : DataW H × List MemPlace} (ht : P.underlying t = some (.struct fs)) (h : DataW.trod enc P w base spare held fuel t cs = some x) (i : Nat) (f : Field) (hf : fs[i]? = some f) :
    ∃ n y, DataW.trod enc P w base spare held n f.type ((cs.drop f.offset).take (P.cellsOf f.type)) = some y := by
  obtain ⟨xs, n, _, _, _, hl, hx⟩ := DataW.trod_struct ht h
  have hi : i < xs.length := by rw [hl]; exact (Array.getElem?_eq_some_iff.1 hf).1
  exact ⟨n, xs[i], by rw [hx i f hf, List.getElem?_eq_getElem hi]⟩
theorem at_in {l : List Value} {o k i : Nat} {v : Value} (h : ((l.drop o).take k)[i]? = some v) : l[o + i]? = some v := by
  rw [List.getElem?_take] at h
  split at h
  · rw [List.getElem?_drop] at h; exact h
  · cases h
theorem at_of {l : List Value} {o k : Nat} {v : Value} (h : (l.drop o).take k = [v]) : l[o]? = some v := at_in (k := k) (i := 0) (by rw [h]; rfl)
theorem int_field {P : Program} {t : TypeId} {fs : Array Field} {fuel : Nat} {cs : List Value} {x : DataW H × List MemPlace} {k : IntKind} (ht : P.underlying t = some (.struct fs)) (h : DataW.trod enc P w base spare held fuel t cs = some x) (i : Nat) (f : Field) (hf : fs[i]? = some f)
    (hk : P.underlying f.type = some (.int k)) : ∃ z : Int, cs[f.offset]? = some (.int k z) := by
  obtain ⟨n, y, hy⟩ := field_trod ht h i f hf
  obtain ⟨z, e, _, _⟩ := DataW.trod_int hk hy
  exact ⟨z, at_of e⟩
theorem bool_field {P : Program} {t : TypeId} {fs : Array Field} {fuel : Nat} {cs : List Value} {x : DataW H × List MemPlace} (ht : P.underlying t = some (.struct fs)) (h : DataW.trod enc P w base spare held fuel t cs = some x) (i : Nat) (f : Field) (hf : fs[i]? = some f)
    (hk : P.underlying f.type = some .bool) : ∃ z : Bool, cs[f.offset]? = some (.bool z) := by
  obtain ⟨n, y, hy⟩ := field_trod ht h i f hf
  obtain ⟨z, e, _⟩ := DataW.trod_bool hk hy
  exact ⟨z, at_of e⟩
theorem conf_trod {fuel : Nat} {cs : List Value} {x : DataW H × List MemPlace} (h : DataW.trod enc Try.prog w base spare held fuel 25 cs = some x) :
    ∃ c : Conf, cs[0]? = some (.int .i64 c.pol) ∧ cs[1]? = some (.int .i64 c.cap) ∧ cs[2]? = some (.int .i64 c.quota) ∧ cs[3]? = some (.int .i64 c.ghosts) := by
  obtain ⟨z0, h0⟩ := int_field Try.underlying25 h 0 _ rfl Try.underlying23
  obtain ⟨z1, h1⟩ := int_field Try.underlying25 h 1 _ rfl Try.underlying3
  obtain ⟨z2, h2⟩ := int_field Try.underlying25 h 2 _ rfl Try.underlying3
  obtain ⟨z3, h3⟩ := int_field Try.underlying25 h 3 _ rfl Try.underlying3
  exact ⟨⟨z0, z1, z2, z3⟩, h0, h1, h2, h3⟩
theorem cnt_trod {fuel : Nat} {cs : List Value} {x : DataW H × List MemPlace} (h : DataW.trod enc Try.prog w base spare held fuel 36 cs = some x) :
    ∃ n : Cnt, cs[0]? = some (.int .u64 n.n0) ∧ cs[1]? = some (.int .u64 n.n1) ∧ cs[2]? = some (.int .u64 n.n2) ∧ cs[3]? = some (.int .u64 n.n3) ∧ cs[4]? = some (.int .u64 n.n4) ∧ cs[5]? = some (.int .u64 n.n5) ∧ cs[6]? = some (.int .u64 n.n6) ∧ cs[7]? = some (.int .u64 n.n7) ∧ cs[8]? = some (.int .u64 n.n8) ∧ cs[9]? = some (.int .u64 n.n9) := by
  obtain ⟨z0, h0⟩ := int_field Try.underlying36 h 0 _ rfl Try.underlying31
  obtain ⟨z1, h1⟩ := int_field Try.underlying36 h 1 _ rfl Try.underlying31
  obtain ⟨z2, h2⟩ := int_field Try.underlying36 h 2 _ rfl Try.underlying31
  obtain ⟨z3, h3⟩ := int_field Try.underlying36 h 3 _ rfl Try.underlying31
  obtain ⟨z4, h4⟩ := int_field Try.underlying36 h 4 _ rfl Try.underlying31
  obtain ⟨z5, h5⟩ := int_field Try.underlying36 h 5 _ rfl Try.underlying31
  obtain ⟨z6, h6⟩ := int_field Try.underlying36 h 6 _ rfl Try.underlying31
  obtain ⟨z7, h7⟩ := int_field Try.underlying36 h 7 _ rfl Try.underlying31
  obtain ⟨z8, h8⟩ := int_field Try.underlying36 h 8 _ rfl Try.underlying31
  obtain ⟨z9, h9⟩ := int_field Try.underlying36 h 9 _ rfl Try.underlying31
  exact ⟨⟨z0, z1, z2, z3, z4, z5, z6, z7, z8, z9⟩, h0, h1, h2, h3, h4, h5, h6, h7, h8, h9⟩
instance : Inhabited S42 := ⟨pg 0⟩
theorem cellsPage : Try.prog.cellsOf 42 = 4 := by kernel_rfl
theorem cellsU64 : Try.prog.cellsOf 31 = 1 := by kernel_rfl
theorem cellsAct : Try.prog.cellsOf 53 = 6 := by kernel_rfl
theorem cellsState : Try.prog.cellsOf 38 = 20 := by kernel_rfl
/-- A slice of kept pages. -/
theorem pages_trod {fuel : Nat} {cs : List Value} {x : DataW H × List MemPlace} (h : DataW.trod enc Try.prog w base spare held fuel 34 cs = some x) :
    ∃ (A : Option Addr) (cp : Nat) (pp : List S42), cs = [.slice A pp.length cp] ∧ pp.length ≤ cp ∧ Kd.C k42 w A pp.length pp := by
  rcases Deep.open_slice Try.underlying34 h with ⟨hcs, _⟩ | ⟨a, len, cap, m, k, D, Pl, hcs, _, hl, hm, hmm, _, hx⟩
  · exact ⟨none, 0, [], hcs, Nat.le_refl _, rfl, by simp, fun q => absurd q (Nat.lt_irrefl 0)⟩
  · have hle : len ≤ m := by rw [hmm]; split <;> omega
    have each : ∀ i, i < len → ∃ p : S42, w.cell? ((a.add (i * 4)).add 0) = some (.int .u64 p.f0) ∧ w.cell? ((a.add (i * 4)).add 1) = some (.int .i64 p.f1) ∧ w.cell? ((a.add (i * 4)).add 2) = some (.bool p.f2) ∧ w.cell? ((a.add (i * 4)).add 3) = some (.bool p.f3) := by
      intro i hi
      obtain ⟨cs', h1, h2⟩ := hx i (by omega)
      rw [cellsPage] at h1
      obtain ⟨_, hlen, hcell⟩ := World.cells?_some h1
      obtain ⟨z0, e0⟩ := int_field Try.underlying42 h2 0 _ rfl Try.underlying31
      obtain ⟨z1, e1⟩ := int_field Try.underlying42 h2 1 _ rfl Try.underlying40
      obtain ⟨z2, e2⟩ := bool_field Try.underlying42 h2 2 _ rfl Try.underlying4
      obtain ⟨z3, e3⟩ := bool_field Try.underlying42 h2 3 _ rfl Try.underlying4
      exact ⟨⟨z0, z1, z2, z3⟩, (hcell 0 (by omega)).trans e0, (hcell 1 (by omega)).trans e1, (hcell 2 (by omega)).trans e2, (hcell 3 (by omega)).trans e3⟩
    obtain ⟨q, hq⟩ := Deep.choose_lt each
    have hlq : ((List.range len).map q).length = len := by simp
    refine ⟨some a, cap, (List.range len).map q, by rw [hlq]; exact hcs, by rw [hlq]; exact hl, rfl, by rw [hlq]; unfold maxLen at hm; omega, fun _ => ⟨a, rfl, ?_⟩⟩
    intro j p hp
    have hj : j < len := by have := (List.getElem?_eq_some_iff.1 hp).1; simpa using this
    rw [List.getElem?_map, List.getElem?_range hj] at hp
    injection hp with hp
    subst hp
    refine ⟨[.int .u64 (q j).f0, .int .i64 (q j).f1, .bool (q j).f2, .bool (q j).f3], rfl, k42_mk w _, ?_⟩
    intro i u hu
    obtain ⟨p0, p1, p2, p3⟩ := hq j hj
    have hi : i < 4 := by have := (List.getElem?_eq_some_iff.1 hu).1; simpa using this
    rw [show k42.sz = 4 from rfl, ← Deep.add_add]
    rcases (show i = 0 ∨ i = 1 ∨ i = 2 ∨ i = 3 by omega) with rfl | rfl | rfl | rfl
    · rw [← hu]; exact p0
    · rw [← hu]; exact p1
    · rw [← hu]; exact p2
    · rw [← hu]; exact p3
/-- A slice of keys. -/
theorem keys_trod {fuel : Nat} {cs : List Value} {x : DataW H × List MemPlace} (h : DataW.trod enc Try.prog w base spare held fuel 22 cs = some x) :
    ∃ (A : Option Addr) (cp : Nat) (l : List Int), cs = [.slice A l.length cp] ∧ l.length ≤ cp ∧ Kd.C (Kd.int .u64) w A l.length l := by
  rcases Deep.open_slice Try.underlying22 h with ⟨hcs, _⟩ | ⟨a, len, cap, m, k, D, Pl, hcs, _, hl, hm, hmm, _, hx⟩
  · exact ⟨none, 0, [], hcs, Nat.le_refl _, rfl, by simp, fun q => absurd q (Nat.lt_irrefl 0)⟩
  · have hle : len ≤ m := by rw [hmm]; split <;> omega
    have each : ∀ i, i < len → ∃ z : Int, w.cell? (a.add (i * 1)) = some (.int .u64 z) := by
      intro i hi
      obtain ⟨cs', h1, h2⟩ := hx i (by omega)
      rw [cellsU64] at h1
      obtain ⟨_, hlen, hcell⟩ := World.cells?_some h1
      obtain ⟨z, e, _, _⟩ := DataW.trod_int Try.underlying31 h2
      have h3 := (hcell 0 (by omega)).trans (show cs'[0]? = some (.int .u64 z) by rw [e]; rfl)
      exact ⟨z, h3⟩
    obtain ⟨q, hq⟩ := Deep.choose_lt each
    have hlq : ((List.range len).map q).length = len := by simp
    refine ⟨some a, cap, (List.range len).map q, by rw [hlq]; exact hcs, by rw [hlq]; exact hl, rfl, by rw [hlq]; unfold maxLen at hm; omega, fun _ => ⟨a, rfl, ?_⟩⟩
    intro j p hp
    have hj : j < len := by have := (List.getElem?_eq_some_iff.1 hp).1; simpa using this
    rw [List.getElem?_map, List.getElem?_range hj] at hp
    injection hp with hp
    subst hp
    refine ⟨[.int .u64 (q j)], rfl, rfl, ?_⟩
    intro i u hu
    have hi : i = 0 := by have := (List.getElem?_eq_some_iff.1 hu).1; simpa using this
    subst hi
    rw [← hu]
    exact hq j hj
theorem array20 {α : Type} {cs : Array α} (h : cs.size = 20) : ∃ c0 c1 c2 c3 c4 c5 c6 c7 c8 c9 d0 d1 d2 d3 d4 d5 d6 d7 d8 d9, cs = #[c0, c1, c2, c3, c4, c5, c6, c7, c8, c9, d0, d1, d2, d3, d4, d5, d6, d7, d8, d9] := by
  obtain ⟨l⟩ := cs
  match l, h with
  | [c0, c1, c2, c3, c4, c5, c6, c7, c8, c9, d0, d1, d2, d3, d4, d5, d6, d7, d8, d9], _ => exact ⟨c0, c1, c2, c3, c4, c5, c6, c7, c8, c9, d0, d1, d2, d3, d4, d5, d6, d7, d8, d9, rfl⟩
set_option maxRecDepth 100000 in
theorem open_state {r : Reach} {b0 : Nat} {v : Value} {d : DataW H} {p : List MemPlace} (hv : Value.okWide Try.prog w r b0 38 v) (h : DataW.Trod enc Try.prog w base spare held 38 v d p) :
    ∃ (c : Conf) (tgt cold tst : Int) (n : Cnt) (A : Option Addr) (cp : Nat) (pp : List S42) (Aq : Option Addr) (cq : Nat) (lq : List Int) (Ag : Option Addr) (cg : Nat) (lg : List Int),
      v = .agg (inCells c tgt (.slice A pp.length cp) (.slice Aq lq.length cq) (.slice Ag lg.length cg) cold tst n) ∧ InAt w A cp pp Aq cq lq Ag cg lg := by
  obtain ⟨cs, rfl, hsz⟩ := okWide_struct Try.underlying38 hv
  obtain ⟨fuel, hf⟩ := h
  obtain ⟨c0, c1, c2, c3, c4, c5, c6, c7, c8, c9, d0, d1, d2, d3, d4, d5, d6, d7, d8, d9, rfl⟩ := array20 (hsz.trans cellsState)
  obtain ⟨_, _, k0⟩ := field_trod Try.underlying38 hf 0 _ rfl
  obtain ⟨c, e0, e1, e2, e3⟩ := conf_trod k0
  obtain ⟨tgt, e4⟩ := int_field Try.underlying38 hf 1 _ rfl Try.underlying3
  obtain ⟨_, _, k2⟩ := field_trod Try.underlying38 hf 2 _ rfl
  obtain ⟨A, cp, pp, e5, hp1, hp2⟩ := pages_trod k2
  obtain ⟨_, _, k3⟩ := field_trod Try.underlying38 hf 3 _ rfl
  obtain ⟨Aq, cq, lq, e6, hq1, hq2⟩ := keys_trod k3
  obtain ⟨_, _, k4⟩ := field_trod Try.underlying38 hf 4 _ rfl
  obtain ⟨Ag, cg, lg, e7, hg1, hg2⟩ := keys_trod k4
  obtain ⟨cold, e8⟩ := int_field Try.underlying38 hf 5 _ rfl Try.underlying3
  obtain ⟨tst, e9⟩ := int_field Try.underlying38 hf 6 _ rfl Try.underlying3
  obtain ⟨_, _, k7⟩ := field_trod Try.underlying38 hf 7 _ rfl
  obtain ⟨n, f0, f1, f2, f3, f4, f5, f6, f7, f8, f9⟩ := cnt_trod k7
  replace e0 := at_in e0; replace e1 := at_in e1; replace e2 := at_in e2; replace e3 := at_in e3
  replace e5 := at_of e5; replace e6 := at_of e6; replace e7 := at_of e7
  replace f0 := at_in f0; replace f1 := at_in f1; replace f2 := at_in f2; replace f3 := at_in f3; replace f4 := at_in f4
  replace f5 := at_in f5; replace f6 := at_in f6; replace f7 := at_in f7; replace f8 := at_in f8; replace f9 := at_in f9
  simp [Value.cells] at e0 e1 e2 e3 e4 e5 e6 e7 e8 e9 f0 f1 f2 f3 f4 f5 f6 f7 f8 f9
  subst e0 e1 e2 e3 e4 e5 e6 e7 e8 e9 f0 f1 f2 f3 f4 f5 f6 f7 f8 f9
  exact ⟨c, tgt, cold, tst, n, A, cp, pp, Aq, cq, lq, Ag, cg, lg, rfl, hp2, hp1, hq2, hq1, hg2, hg1⟩
theorem act_trod {fuel : Nat} {cs : List Value} {x : DataW H × List MemPlace} (h : DataW.trod enc Try.prog w base spare held fuel 53 cs = some x) :
    ∃ a : ActR, cs[0]? = some (.int .i64 a.k) ∧ cs[1]? = some (.int .u64 a.key) ∧ cs[2]? = some (.int .i64 a.c.pol) ∧ cs[3]? = some (.int .i64 a.c.cap) ∧ cs[4]? = some (.int .i64 a.c.quota) ∧ cs[5]? = some (.int .i64 a.c.ghosts) := by
  obtain ⟨z0, e0⟩ := int_field Try.underlying53 h 0 _ rfl Try.underlying3
  obtain ⟨z1, e1⟩ := int_field Try.underlying53 h 1 _ rfl Try.underlying31
  obtain ⟨_, _, k2⟩ := field_trod Try.underlying53 h 2 _ rfl
  obtain ⟨c, f0, f1, f2, f3⟩ := conf_trod k2
  exact ⟨⟨z0, z1, c⟩, e0, e1, at_in f0, at_in f1, at_in f2, at_in f3⟩
theorem open_acts {fuel : Nat} {A : Option Addr} {n c : Nat} {x : DataW H × List MemPlace} (h : DataW.trod enc Try.prog w base spare held fuel 47 [.slice A n c] = some x) : ∃ xs : List ActR, ActsW w (.slice A n c) xs := by
  rcases Deep.open_slice Try.underlying47 h with ⟨hcs, _⟩ | ⟨a, len, cap, m, k, D, Pl, hcs, _, hl, hm, hmm, _, hx⟩
  · simp at hcs
    obtain ⟨rfl, rfl, rfl⟩ := hcs
    exact ⟨[], _, _, rfl, Nat.le_refl _, .inl rfl⟩
  · simp at hcs
    obtain ⟨rfl, rfl, rfl⟩ := hcs
    have hle : n ≤ m := by rw [hmm]; split <;> omega
    have each : ∀ i, i < n → ∃ x : ActR, w.cell? ((a.add (i * 6)).add 0) = some (.int .i64 x.k) ∧ w.cell? ((a.add (i * 6)).add 1) = some (.int .u64 x.key) ∧ w.cell? ((a.add (i * 6)).add 2) = some (.int .i64 x.c.pol) ∧ w.cell? ((a.add (i * 6)).add 3) = some (.int .i64 x.c.cap) ∧ w.cell? ((a.add (i * 6)).add 4) = some (.int .i64 x.c.quota) ∧ w.cell? ((a.add (i * 6)).add 5) = some (.int .i64 x.c.ghosts) := by
      intro i hi
      obtain ⟨cs', h1, h2⟩ := hx i (by omega)
      rw [cellsAct] at h1
      obtain ⟨_, hlen, hcell⟩ := World.cells?_some h1
      obtain ⟨x, e0, e1, e2, e3, e4, e5⟩ := act_trod h2
      exact ⟨x, (hcell 0 (by omega)).trans e0, (hcell 1 (by omega)).trans e1, (hcell 2 (by omega)).trans e2, (hcell 3 (by omega)).trans e3, (hcell 4 (by omega)).trans e4, (hcell 5 (by omega)).trans e5⟩
    obtain ⟨q, hq⟩ := Deep.choose_lt each
    have hg : ∀ i, i < n → ((List.range n).map q).getD i default = q i := fun i hi => by
      rw [List.getD_eq_getElem?_getD, List.getElem?_map, List.getElem?_range hi]; rfl
    refine ⟨(List.range n).map q, some a, c, by simp, by simpa using hl, .inr ⟨a, rfl, fun i hi => ?_⟩⟩
    have hi' : i < n := by simpa using hi
    rw [hg i hi']
    exact hq i hi'
end
end Lru
end Go.Proofs.Ytekbgpfpnjddgaa
