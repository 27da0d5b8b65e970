/- Walks over hutchlaw16.step: its arms. Walks over hutchlaw16.step: Resize; the whole. -/
import Derived.Test.YtekbgpfpnjddgaaLruQU
import Derived.Test.YtekbgpfpnjddgaaLruLawA
namespace Go.Proofs.Ytekbgpfpnjddgaa
open Go.RowKit Go.Proofs.YtekbgpfpnjddgaaW.PrintWords Go.Proofs.YtekbgpfpnjddgaaW.PrintLast Go.Proofs.YtekbgpfpnjddgaaW.PrintMore
open Go.Proofs.Ytekbgpfpnjddgaa.PLruLoads
namespace Lru
/-- An engine stands, and a value of the reference that has the same keys lies apart. -/
structure Kin (w : World) (e : Nat) (F : Nat → Prop) (c : Conf) (n : Cnt) (ks : List Int) (m : Int) (pv : Value) : Prop where
  st : Stands w e F c n ks m
  fits : c.fits = true
  pages : ∀ wz, Go.Proofs.Ytekbgpfpnjddgaa.Kept F w wz → PagesAt wz pv ks
theorem Kin.at {w : World} {e : Nat} {F : Nat → Prop} {c : Conf} {n : Cnt} {ks : List Int} {m : Int} {pv : Value} (h : Kin w e F c n ks m pv) : PagesAt w pv ks := h.pages w (Kept.refl _ _)
theorem Kin.calm {w w' : World} {e : Nat} {F : Nat → Prop} {c : Conf} {n : Cnt} {ks : List Int} {m : Int} {pv : Value} (h : Kin w e F c n ks m pv) (hc : Calm w w') : Kin w' e F c n ks m pv :=
  ⟨h.st.calm hc, h.fits, fun wz hk => h.pages wz ((hc.mono (fun _ _ q => q.elim)).trans hk)⟩
theorem Kin.len {w : World} {e : Nat} {F : Nat → Prop} {c : Conf} {n : Cnt} {ks : List Int} {m : Int} {pv : Value} (h : Kin w e F c n ks m pv) : ks.length ≤ 1000 := Nat.le_trans h.st.few (by decide)
/-- What an act leaves: both go on alike. -/
def Stepped (w w' : World) (e : Nat) (F : Nat → Prop) (_c : Conf) (n : Cnt) (ks : List Int) (m : Int) (pv qv gv r : Value) : Prop :=
  ∃ (c' : Conf) (n' : Cnt) (ks' : List Int) (v' : Value) (F' : Nat → Prop) (j d : Nat), r = .tuple #[stIn c' n' v' qv gv, .bool true] ∧ Kin w' e F' c' n' ks' (IntKind.u64.wrap (m + (j : Int))) v' ∧ Go.Proofs.Ytekbgpfpnjddgaa.Kept F w w' ∧
    (∀ q, F' q → F q ∨ w.heap.size ≤ q) ∧ (d = 0 ∧ n'.n1 = n.n1 ∨ d = 1 ∧ n'.n1 = IntKind.u64.wrap (n.n1 + 1)) ∧ j + 4 * ks'.length ≤ 4 * ks.length + 8 * d ∧ (v' = pv ∧ ks' = ks ∨ ∀ g, v'.ownBlock = some g → w.heap.size ≤ g ∧ ¬ F' g)
def actCells (kind key : Int) (c : Conf) : Array Value := #[.int .i64 kind, .int .u64 key, .int .i64 c.pol, .int .i64 c.cap, .int .i64 c.quota, .int .i64 c.ghosts]
/-- What step has laid at its start. -/
structure Laid3 (w w1 : World) (N : Nat) (cs acs : Array Value) : Prop where
  calm : Calm w w1
  box : Blk w1 N cs
  act : Blk w1 (N + 1) acs
  res : Blk w1 (N + 1 + 1) (stCells ⟨0, 0, 0, 0⟩ zeroCnt (.slice none 0 0))
  size : N + 3 ≤ w1.heap.size
  base : w.heap.size = N
theorem Laid3.mk' (w : World) (cs acs : Array Value) (t t' t'' : TypeId) : Laid3 w (((w.alloc (.cells cs t)).alloc (.cells acs t')).alloc (.cells (stCells ⟨0, 0, 0, 0⟩ zeroCnt (.slice none 0 0)) t'')) w.heap.size cs acs :=
  ⟨(((Kept.refl _ w).alloc _).alloc _).alloc _, ((Blk.new w _ _).alloc _).alloc _, (Blk.new' (by simp) _ _).alloc _, Blk.new' (by simp) _ _, by simp, rfl⟩
/-- What the drawn regions of step hold on to: a state's box, the act's, and the result's room. -/
structure Stp (G A R : Nat) (cs acs : Array Value) (w : World) : Prop where
  box : Blk w G cs
  act : Blk w A acs
  res : ∃ rs, Blk w R rs ∧ rs.size = 20
section
variable {G A R : Nat} {cs acs : Array Value} {w w' : World}
theorem Stp.drew (h : Stp G A R cs acs w) : Stp G A R cs acs w.drew := ⟨h.box, h.act, h.res⟩
theorem Stp.kept {F : Nat → Prop} (h : Stp G A R cs acs w) (hk : Go.Proofs.Ytekbgpfpnjddgaa.Kept F w w') (h1 : ¬ F G) (h2 : ¬ F A) (h3 : ¬ F R) : Stp G A R cs acs w' := by
  obtain ⟨rs, q1, q2⟩ := h.res
  exact ⟨h.box.kept hk h1, h.act.kept hk h2, rs, q1.kept hk h3, q2⟩
theorem Stp.calm (h : Stp G A R cs acs w) (hk : Calm w w') : Stp G A R cs acs w' := h.kept hk id id id
theorem Stp.there (h : Stp G A R cs acs w) {k : Nat} (hk : k = 20) : w.there R 0 k := by
  subst hk
  obtain ⟨rs, h1, h2⟩ := h.res
  exact there_of h1 20 h2
theorem Stp.to (h : Stp G A R cs acs w) (vs : Array Value) (hs : vs.size = 20) (hne : G ≠ R) (hna : A ≠ R) : Stp G A R cs acs (w.setCells R 0 vs.toList) := by
  obtain ⟨rs, h1, h2⟩ := h.res
  have hk := setCells_kept (F := fun k => k = R) (b := R) (fun _ => rfl) vs.toList 0 w (Kept.refl _ _)
  exact ⟨h.box.kept hk (fun z => hne z), h.act.kept hk (fun z => hna z), vs, setCells_blk h1 vs (by omega), hs⟩
theorem Stp.blkTo (h : Stp G A R cs acs w) (vs : Array Value) (hs : vs.size = 20) : Blk (w.setCells R 0 vs.toList) R vs := by
  obtain ⟨rs, h1, h2⟩ := h.res
  exact setCells_blk h1 vs (by omega)
theorem Stp.key {kind key : Int} {c : Conf} (h : Stp G A R cs (actCells kind key c) w) : w.cell? ⟨A, 1, none⟩ = some (.int .u64 key) := (h.act.cell 1).trans rfl
end
theorem Kin.trim {w : World} {e : Nat} {F : Nat → Prop} {c : Conf} {n : Cnt} {ks : List Int} {m : Int} {pv : Value} (h : Kin w e F c n ks m pv) : Kin w e (fun k => F k ∧ k < w.heap.size) c n ks m pv :=
  ⟨h.st.trim, h.fits, fun wz hk => h.pages wz (hk.mono (fun _ _ q => q.1))⟩
theorem Stepped.mono {w w' : World} {e : Nat} {F G : Nat → Prop} {c : Conf} {n : Cnt} {ks : List Int} {m : Int} {pv qv gv r : Value} (h : Stepped w w' e F c n ks m pv qv gv r) (hF : ∀ k, F k → G k) : Stepped w w' e G c n ks m pv qv gv r := by
  obtain ⟨c', n', ks', v', F', j, d, h1, h2, h3, h4, h5⟩ := h
  exact ⟨c', n', ks', v', F', j, d, h1, h2, h3.mono (fun k _ q => hF k q), fun q z => (h4 q z).imp (hF q) id, h5⟩
theorem without_lt {ks : List Int} {key : Int} (h : key ∈ ks) : (without ks key).length < ks.length := by
  unfold without
  rw [List.length_filter_lt_length_iff_exists]
  exact ⟨key, h, by simp⟩
theorem Stands.wrap0 {w : World} {e : Nat} {F : Nat → Prop} {c : Conf} {n : Cnt} {ks : List Int} {m : Int} (h : Stands w e F c n ks m) : IntKind.u64.wrap (m + ((0 : Nat) : Int)) = m := by
  have := h.mv
  rw [IntKind.wrap_u64]; omega
/-- What an engine's Drop or Touch leaves. -/
structure Did (w w' : World) (e : Nat) (F : Nat → Prop) (c : Conf) (n' : Cnt) (ks ks' : List Int) (m : Int) (d : Nat) : Prop where
  kept : Go.Proofs.Ytekbgpfpnjddgaa.Kept F w w'
  st : ∃ (F' : Nat → Prop) (j : Nat), (∀ q, F' q → F q ∨ w.heap.size ≤ q) ∧ Stands w' e F' c n' ks' (IntKind.u64.wrap (m + (j : Int))) ∧ j + 4 * ks'.length ≤ 4 * ks.length + 8 * d
theorem Stands.drop {w : World} {e : Nat} {F : Nat → Prop} {c : Conf} {n : Cnt} {ks : List Int} {m : Int} (h : Stands w e F c n ks m) (key : Int) :
    Calls Try.prog 24 #[.pointer (some ⟨e, 0, none⟩), .int .u64 key] w fun e' w' => e' = .returned (.bool (decide (key ∈ ks))) ∧ Did w w' e F c n ks (without ks key) m 0 := by
  by_cases hk : key ∈ ks
  · rw [decide_eq_true hk]
    refine (Drop_stands_yes h hk).mono ?_
    rintro e' w' ⟨rfl, h1, F', j, h2, h3, h4⟩
    exact ⟨rfl, h1, F', j, h3, h4, by have := without_lt hk; omega⟩
  · rw [decide_eq_false hk]
    refine (Drop_stands_no h hk).mono ?_
    rintro e' w' ⟨rfl, rfl⟩
    exact ⟨rfl, Kept.refl _ _, F, 0, fun q z => .inl z, by rw [h.wrap0, without_not hk]; exact h, by rw [without_not hk]; omega⟩
/-- A key that was touched: what stays. -/
def touch (ks : List Int) (key : Int) : List Int := if key ∈ ks then key :: without ks key else ks
def touchN (n : Cnt) (ks : List Int) (key : Int) : Cnt := if key ∈ ks then hit n else n
theorem Stands.touch {w : World} {e : Nat} {F : Nat → Prop} {c : Conf} {n : Cnt} {ks : List Int} {m : Int} (h : Stands w e F c n ks m) (key : Int) :
    Calls Try.prog 23 #[.pointer (some ⟨e, 0, none⟩), .int .u64 key] w fun e' w' => e' = .returned (.bool (decide (key ∈ ks))) ∧ Did w w' e F c (touchN n ks key) ks (touch ks key) m 0 := by
  unfold touchN Lru.touch
  by_cases hk : key ∈ ks
  · rw [decide_eq_true hk, if_pos hk, if_pos hk]
    refine (Touch_stands_yes h hk).mono ?_
    rintro e' w' ⟨rfl, h1, h2⟩
    exact ⟨rfl, h2, F, 0, fun q z => .inl z, by rw [h.wrap0]; exact h1, by have := without_lt hk; rw [List.length_cons]; omega⟩
  · rw [decide_eq_false hk, if_neg hk, if_neg hk]
    refine (Touch_stands_no h hk).mono ?_
    rintro e' w' ⟨rfl, rfl⟩
    exact ⟨rfl, Kept.refl _ _, F, 0, fun q z => .inl z, by rw [h.wrap0]; exact h, by omega⟩
theorem RefTouch_calls {w : World} (c : Conf) (n : Cnt) (pv qv gv : Value) (ks : List Int) (hv : PagesAt w pv ks) (hl : ks.length ≤ 1000) (hq : qv.oneCell' = true) (hg : gv.oneCell' = true) (key : Int) :
    Calls Try.prog 46 #[stIn c n pv qv gv, .int .u64 key] w fun e w' => ∃ v', e = .returned (.tuple #[stIn c (touchN n ks key) v' qv gv, .bool (decide (key ∈ ks))]) ∧ PagesAt w' v' (touch ks key) ∧ (v' = pv ∧ touch ks key = ks ∨ ∀ g, v'.ownBlock = some g → w.heap.size ≤ g ∧ g < w'.heap.size) ∧ Calm w w' := by
  unfold touchN Lru.touch
  by_cases hk : key ∈ ks
  · rw [decide_eq_true hk, if_pos hk, if_pos hk]
    refine (RefTouch_yes c n pv qv gv ks hv hl hq hg key hk).mono ?_
    rintro e' w' ⟨v', rfl, h1, h2, h3⟩
    exact ⟨v', rfl, h1, .inr h2, h3⟩
  · rw [decide_eq_false hk, if_neg hk, if_neg hk]
    refine (RefTouch_no c n pv qv gv ks hv hl hq hg key hk).mono ?_
    rintro e' w' ⟨rfl, h3⟩
    exact ⟨pv, rfl, hv.calm h3, .inl ⟨rfl, rfl⟩, h3⟩
theorem Laid3.step {w w1 w2 : World} {N : Nat} {cs acs : Array Value} {F : Nat → Prop} (h : Laid3 w w1 N cs acs) (hk : Go.Proofs.Ytekbgpfpnjddgaa.Kept F w1 w2) (hF : ∀ k, F k → k < N) : Blk w2 N cs ∧ Blk w2 (N + 1) acs ∧ Blk w2 (N + 1 + 1) (stCells ⟨0, 0, 0, 0⟩ zeroCnt (.slice none 0 0)) ∧ N + 3 ≤ w2.heap.size :=
  ⟨h.box.kept hk (fun z => by have := hF _ z; omega), h.act.kept hk (fun z => by have := hF _ z; omega), h.res.kept hk (fun z => by have := hF _ z; omega), Nat.le_trans h.size hk.size⟩
theorem Laid3.calm' {w w1 w2 : World} {N : Nat} {cs acs : Array Value} (h : Laid3 w w1 N cs acs) (hk : Calm w1 w2) : Laid3 w w2 N cs acs :=
  ⟨h.calm.trans hk, h.box.calm hk, h.act.calm hk, h.res.calm hk, Nat.le_trans h.size hk.size, h.base⟩
/-- What Admit leaves: keys, what was evicted, counts. -/
def adk (most : Nat) (ks : List Int) (key : Int) : List Int := if key ∈ ks then ks else key :: ks.take most
def adl (most : Nat) (ks : List Int) (key : Int) : List Int := if key ∈ ks then [] else (ks.drop most).reverse
def adN (most : Nat) (n : Cnt) (ks : List Int) (key : Int) : Cnt := if key ∈ ks then n else evicts (ks.length - most) (miss n)
def adD (ks : List Int) (key : Int) : Nat := if key ∈ ks then 0 else 1
theorem evicts_n1 : ∀ (k : Nat) (n : Cnt), (evicts k n).n1 = n.n1
  | 0, _ => rfl
  | k + 1, n => evicts_n1 k n
theorem adD_n1 (most : Nat) (n : Cnt) (ks : List Int) (key : Int) : adD ks key = 0 ∧ (adN most n ks key).n1 = n.n1 ∨ adD ks key = 1 ∧ (adN most n ks key).n1 = IntKind.u64.wrap (n.n1 + 1) := by
  unfold adD adN
  by_cases h : key ∈ ks
  · rw [if_pos h, if_pos h]; exact .inl ⟨rfl, rfl⟩
  · rw [if_neg h, if_neg h, evicts_n1]; exact .inr ⟨rfl, rfl⟩
theorem adl_len (most : Nat) (ks : List Int) (key : Int) : (adl most ks key).length ≤ ks.length := by
  unfold adl
  split
  · exact Nat.zero_le _
  · rw [List.length_reverse, List.length_drop]; omega
theorem Stands.admit {w : World} {e : Nat} {F : Nat → Prop} {c : Conf} {n : Cnt} {ks : List Int} {m : Int} (h : Stands w e F c n ks m) (key : Int) (most : Nat) (hc : c.cap = (most : Int) + 1) (hm : most < 256) :
    Calls Try.prog 20 #[.pointer (some ⟨e, 0, none⟩), .int .u64 key] w fun e' w' => ∃ v, e' = .returned (.tuple #[v, .bool (!decide (key ∈ ks))]) ∧ Ints .u64 w' v (adl most ks key) ∧ Did w w' e F c (adN most n ks key) ks (adk most ks key) m (adD ks key) := by
  unfold adl adN adk adD
  by_cases hk : key ∈ ks
  · rw [decide_eq_true hk, if_pos hk, if_pos hk, if_pos hk, if_pos hk]
    refine (Admit_stands_no h hk).mono ?_
    rintro e' w' ⟨rfl, rfl⟩
    exact ⟨_, rfl, Ints.nil _ _, Kept.refl _ _, F, 0, fun q z => .inl z, by rw [h.wrap0]; exact h, by omega⟩
  · rw [decide_eq_false hk, if_neg hk, if_neg hk, if_neg hk, if_neg hk]
    refine (Admit_stands_yes h hk most hc hm).mono ?_
    rintro e' w' ⟨v, rfl, hr, h1, F', j, h2, h3, _, _, h4⟩
    exact ⟨v, rfl, Ints.of_owns hr, h1, F', j, h3, h4, by rw [List.length_cons, List.length_take]; omega⟩
theorem RefAdmit_calls {w : World} (c : Conf) (n : Cnt) (pv qv gv : Value) (ks : List Int) (hv : PagesAt w pv ks) (hl : ks.length ≤ 1000) (hn : ks.Nodup) (hq : qv.oneCell' = true) (hg : gv.oneCell' = true) (key : Int) (most : Nat) (hm : c.cap = (most : Int) + 1) (hmost : most < 256) :
    Calls Try.prog 47 #[stIn c n pv qv gv, .int .u64 key] w fun e w' => ∃ v' o, e = .returned (.tuple #[stIn c (adN most n ks key) v' qv gv, o, .bool (!decide (key ∈ ks))]) ∧ PagesAt w' v' (adk most ks key) ∧ (v' = pv ∧ adk most ks key = ks ∨ ∀ g, v'.ownBlock = some g → w.heap.size ≤ g ∧ g < w'.heap.size) ∧ Ints .u64 w' o (adl most ks key) ∧ Calm w w' := by
  unfold adl adN adk
  by_cases hk : key ∈ ks
  · rw [decide_eq_true hk, if_pos hk, if_pos hk, if_pos hk]
    refine (RefAdmit_no c n pv qv gv ks hv hl hq hg key hk).mono ?_
    rintro e' w' ⟨rfl, h3⟩
    exact ⟨pv, _, rfl, hv.calm h3, .inl ⟨rfl, rfl⟩, Ints.nil _ _, h3⟩
  · rw [decide_eq_false hk, if_neg hk, if_neg hk, if_neg hk]
    refine (RefAdmit_yes c n pv qv gv ks hv hl hn hq hg key hk most hm hmost).mono ?_
    rintro e' w' ⟨v', o, rfl, h1, h2, hr, h3⟩
    exact ⟨v', o, rfl, h1, .inr h2, Ints.of_owns hr, h3⟩
theorem Stands.size {w : World} {e : Nat} {F : Nat → Prop} {c c' : Conf} {n : Cnt} {ks : List Int} {m : Int} (h : Stands w e F c n ks m) (hc : c'.fits = true) (most : Nat) (hm : c'.cap = (most : Int)) :
    Calls Try.prog 21 #[.pointer (some ⟨e, 0, none⟩), c'.agg] w fun e' w' => ∃ v, e' = .returned (.tuple #[v, .int .i64 0]) ∧ Ints .u64 w' v ((ks.drop most).reverse) ∧ Did w w' e F c' (evicts (ks.length - most) n) ks (ks.take most) m 0 := by
  refine (Resize_stands h hc most hm).mono ?_
  rintro e' w' ⟨v, rfl, hr, h1, F', j, h2, h3, _, _, h4⟩
  exact ⟨v, rfl, Ints.of_owns hr, h1, F', j, h3, h4, by rw [List.length_take]; omega⟩
theorem may_calls (c : Conf) (w : World) : Calls Try.prog 42 #[c.agg] w fun e w' => e = .returned (.bool c.fits) ∧ Calm w w' := by
  have hf : hutchlaw16_may.f c.pol c.cap c.quota c.ghosts = some c.fits := by
    have hm : hutchref11_May.f c.pol c.cap c.quota c.ghosts = some (decide (1 ≤ c.pol ∧ c.pol ≤ 4 ∧ 2 ≤ c.cap ∧ c.cap ≤ 256 ∧ 1 ≤ c.quota ∧ c.quota < c.cap ∧ 0 ≤ c.ghosts ∧ c.ghosts ≤ 512)) := by
      unfold hutchref11_May.f
      repeat' split
      all_goals first | (rw [decide_eq_false (by omega)]) | (congr 1; rw [decide_eq_decide]; omega)
    unfold hutchlaw16_may.f
    rw [hm]
    show (if decide _ = true then some (c.pol == 3) else some false) = some c.fits
    unfold Conf.fits
    by_cases h3 : c.pol = 3
    · rw [h3]
      split
      · rename_i z; rw [decide_eq_true_eq] at z; rw [decide_eq_true (by omega)]; rfl
      · rename_i z; rw [decide_eq_true_eq] at z; rw [decide_eq_false (by omega)]
    · have h4 : decide (c.pol = 3 ∧ 2 ≤ c.cap ∧ c.cap ≤ 256 ∧ 1 ≤ c.quota ∧ c.quota < c.cap ∧ 0 ≤ c.ghosts ∧ c.ghosts ≤ 512) = false := decide_eq_false (fun z => h3 z.1)
      have h5 : (c.pol == 3) = false := by simpa using h3
      rw [h4, h5]
      split <;> rfl
  refine (hutchlaw16_may.calls c.pol c.cap c.quota c.ghosts c.fits w hf).mono ?_
  rintro e w' ⟨rfl, h⟩
  exact ⟨rfl, Kept.of_below h _⟩
theorem Did.calm {w w' w'' : World} {e : Nat} {F : Nat → Prop} {c : Conf} {n' : Cnt} {ks ks' : List Int} {m : Int} {d : Nat} (h : Did w w' e F c n' ks ks' m d) (hc : Calm w' w'') : Did w w'' e F c n' ks ks' m d := by
  obtain ⟨h1, F', j, h2, h3, h4⟩ := h
  exact ⟨h1.trans (hc.mono (fun _ _ q => q.elim)), F', j, h2, h3.calm hc, h4⟩
theorem RefSize_calls {w : World} (c c' : Conf) (n : Cnt) (pv qv gv : Value) (ks : List Int) (hv : PagesAt w pv ks) (hl : ks.length ≤ 1000) (hn : ks.Nodup) (hq : qv.oneCell' = true) (hg : gv.oneCell' = true) (most : Nat) (hm : c'.cap = (most : Int)) :
    Calls Try.prog 43 #[stIn c n pv qv gv, c'.agg] w fun e w' => ∃ v' o, e = .returned (.tuple #[stIn c' (evicts (ks.length - most) n) v' qv gv, o]) ∧ PagesAt w' v' (ks.take most) ∧ (v' = pv ∧ ks.take most = ks ∨ ∀ g, v'.ownBlock = some g → w.heap.size ≤ g ∧ g < w'.heap.size) ∧ Ints .u64 w' o ((ks.drop most).reverse) ∧ Calm w w' := by
  refine (RefResize_calls c c' n pv qv gv ks hv hl hn hq hg most hm).mono ?_
  rintro e w' ⟨v', o, rfl, h1, h2, h3, h4⟩
  refine ⟨v', o, rfl, h1, h2.imp (fun z => ⟨z, ?_⟩) id, Ints.of_owns h3, h4⟩
  subst z
  obtain ⟨A, cp, q1, _⟩ := hv
  obtain ⟨B, cq, q2, _⟩ := h1
  rw [q1] at q2
  injection q2 with _ q2 _
  rw [List.length_take] at q2
  exact List.take_of_length_le (by omega)
theorem fits_most {c : Conf} (h : c.fits = true) : ∃ most : Nat, c.cap = (most : Int) + 1 ∧ most < 256 := by
  unfold Conf.fits at h
  rw [decide_eq_true_eq] at h
  exact ⟨(c.cap - 1).toNat, by omega, by omega⟩
set_option maxRecDepth 100000 in
set_option maxHeartbeats 1000000 in
theorem Step_drop {w : World} {e : Nat} {F : Nat → Prop} {c : Conf} {n : Cnt} {ks : List Int} {m : Int} {pv : Value} (h : Kin w e F c n ks m pv) {qv gv : Value} (hq : qv.oneCell' = true) (hg : gv.oneCell' = true) (c' : Conf) (key : Int) (hF : ∀ k, F k → k < w.heap.size) :
    Calls Try.prog 19 #[.pointer (some ⟨e, 0, none⟩), stIn c n pv qv gv, .agg (actCells 4 key c')] w fun e' w' => ∃ r, e' = .returned r ∧ Stepped w w' e F c n ks m pv qv gv r := by
  have HD := Lib.hid (fun w1 (hc : Calm w w1) => RefDrop_calls (w := w1) c n pv qv gv ks (h.at.calm hc) h.len hq hg key)
  have HH := Lib.hid h
  have HST := Lib.hid (fun w1 (hc : Calm w w1) => (h.st.calm hc).drop key)
  unfold stIn at HD ⊢
  clear h
  go_enter Try.func19, Try.ntmps19
  go_upto_region 1 with fail
  have LA := Lib.hid (Laid3.mk' w (inCells c 0 pv qv gv 0 0 n) (actCells 4 key c') 38 53 38)
  change Code.wp _ _ _ _ (((w.alloc (.cells (inCells c 0 pv qv gv 0 0 n) 38)).alloc (.cells (actCells 4 key c') 53)).alloc (.cells (stCells ⟨0, 0, 0, 0⟩ zeroCnt (.slice none 0 0)) 38))
  generalize ((w.alloc (.cells (inCells c 0 pv qv gv 0 0 n) 38)).alloc (.cells (actCells 4 key c') 53)).alloc (.cells (stCells ⟨0, 0, 0, 0⟩ zeroCnt (.slice none 0 0)) 38) = w1 at LA ⊢
  generalize hN : w.heap.size = N at LA ⊢
  have a0 : w1.cell? ⟨N + 1, 0, none⟩ = some (.int .i64 4) := (LA.out.act.cell 0).trans rfl
  have a1 : w1.cell? ⟨N + 1, 1, none⟩ = some (.int .u64 key) := (LA.out.act.cell 1).trans rfl
  go_upto_region 8 with fail
  have HRG := Lib.hid (blk_range LA.out.box 0 20 (inCells c 0 pv qv gv 0 0 n).toList rfl)
  refine wp_region_lit ?_
  refine wpList_load_mid rfl 38 (.tmp 4) rfl N 0 rfl (inCells c 0 pv qv gv 0 0 n).toList _ HRG.out Try.underlying38 rfl sizeSt ?_
  have HDD := Lib.hid (HD.out w1 LA.out.calm)
  iterate 6 go_step
  iterate 2 go_step
  go_at_call 44
  refine HDD.out.mono ?_
  rintro e' w2 ⟨v2, rfl, hp2, ho2, hc2⟩
  dsimp only
  go_step
  have P2 := Lib.hid hp2
  have O2 := Lib.hid ho2
  have C2 := Lib.hid hc2
  have H1 := Lib.hid (in_one (c := c) (n := n) (tgt := 0) (cold := 0) (tst := 0) hp2.one hq hg)
  clear hp2 ho2 hc2 a0 a1 HRG
  iterate 12 go_step
  refine wpList_plain rfl fun K hK => wp_store_new 38 (.tmp 12) (.tmp 66) rfl w2 (stCells ⟨0, 0, 0, 0⟩ zeroCnt (.slice none 0 0)) (inCells c 0 v2 qv gv 0 0 (n)) rfl rfl sizeSt rfl H1.out (hK _ _ ?_)
  clear hK K
  have G4 := Lib.hid (Blk.new w2 (inCells c 0 v2 qv gv 0 0 (n)) 38)
  have A4 := Lib.hid ((LA.out.act.calm C2.out).alloc (.cells (inCells c 0 v2 qv gv 0 0 (n)) 38))
  have R4 := Lib.hid ((LA.out.res.calm C2.out).alloc (.cells (inCells c 0 v2 qv gv 0 0 (n)) 38))
  have K4 : Hid (Calm w2 (w2.alloc (.cells (inCells c 0 v2 qv gv 0 0 (n)) 38))) := Lib.hid ((Kept.refl _ w2).alloc _)
  have HS2 := Lib.hid (Nat.le_trans LA.out.size C2.out.size)
  go_upto_region 9 with fail
  generalize w2.alloc (.cells (inCells c 0 v2 qv gv 0 0 (n)) 38) = w4 at G4 A4 R4 K4 ⊢
  generalize hG : w2.heap.size = G at G4
  have HGR : Hid (G ≠ N + 1 + 1) := Lib.hid (by have := HS2.out; omega)
  have HGF : Hid (¬ F G) := Lib.hid (fun z => by have := hF _ z; have := HS2.out; omega)
  have CW4 := Lib.hid ((LA.out.calm.trans C2.out).trans K4.out.drew)
  have HS4 := Lib.hid (HST.out w4.drew CW4.out)
  have hheld : Stp G (N + 1) (N + 1 + 1) (inCells c 0 v2 qv gv 0 0 (n)) (actCells 4 key c') w4 := ⟨G4.out, A4.out, _, R4.out, rfl⟩
  refine wp_region_noPanic ?_
  refine start_ (n := 9) (S := Stp G (N + 1) (N + 1 + 1) (inCells c 0 v2 qv gv 0 0 (n)) (actCells 4 key c')) (ds := []) #[false, false, false, false, false, false, false, false, false] (by kernel_rfl) rfl rfl hheld.drew (fun hHeld => ?_)
  refine take_ (i := 0) (N := some 68) (v := .agg ((inCells c 0 v2 qv gv 0 0 (n)).toList).toArray) (a' := ?_) #[true, false, false, false, false, false, false, false, false] rfl rfl (by kernel_rfl) (fun _ _ _ h => h) (yieldsIf_load_mid (by rfl) 38 (.tmp 12) rfl G 0 rfl (inCells c 0 v2 qv gv 0 0 (n)).toList _ (fun w' hS => blk_range hS.box 0 20 _ rfl) Try.underlying38 rfl sizeSt) hHeld ?_ ?_
  rotate_left
  · simp only [Act.put, List.setIfInBounds_toArray, List.set_cons_zero, List.set_cons_succ]; rfl
  refine pure_ (i := 1) (N := some 69) (v := ?_) (a' := ?_) #[true, true, false, false, false, false, false, false, false] rfl rfl (by kernel_rfl) (fun _ _ _ h => h) (Or.inl ⟨by rfl, ?_⟩) ?_ ?_
  rotate_left
  · intro w'; go_simp; with_reducible rfl
  rotate_left
  · simp only [Act.put, List.setIfInBounds_toArray, List.set_cons_zero, List.set_cons_succ]; rfl
  refine pure_ (i := 2) (N := some 70) (v := ?_) (a' := ?_) #[true, true, true, false, false, false, false, false, false] rfl rfl (by kernel_rfl) (fun _ _ _ h => h) (Or.inl ⟨by rfl, ?_⟩) ?_ ?_
  rotate_left
  · intro w'; go_simp; with_reducible rfl
  rotate_left
  · simp only [Act.put, List.setIfInBounds_toArray, List.set_cons_zero, List.set_cons_succ]; rfl
  refine take_ (i := 3) (N := some 71) (v := ?_) (a' := ?_) #[true, true, true, true, false, false, false, false, false] rfl rfl (by kernel_rfl) (fun _ _ _ h => h) (Or.inl ⟨by rfl, ?_⟩) hHeld ?_ ?_
  rotate_left
  · intro w' hS; have c0 := hS.key; go_simp; with_reducible rfl
  rotate_left
  · simp only [Act.put, List.setIfInBounds_toArray, List.set_cons_zero, List.set_cons_succ]; rfl
  refine pure_ (i := 5) (N := some 73) (v := ?_) (a' := ?_) #[true, true, true, true, false, true, false, false, false] rfl rfl (by kernel_rfl) (fun _ _ _ h => h) (Or.inl ⟨by rfl, ?_⟩) ?_ ?_
  rotate_left
  · intro w'; go_simp; with_reducible rfl
  rotate_left
  · simp only [Act.put, List.setIfInBounds_toArray, List.set_cons_zero, List.set_cons_succ]; rfl
  refine one_ (i := 4) (N := some 72) #[true, true, true, true, true, true, false, false, false] rfl rfl (by kernel_rfl) (by decide) (fun K hK => ?_)
  rw [if_pos (by rfl)]
  go_simp
  go_at_call 24
  refine HS4.out.mono ?_
  rintro e' w5 ⟨rfl, hd5⟩
  dsimp only
  have D5 := Lib.hid hd5
  have hheld5 := hHeld.kept hd5.kept HGF.out (fun z => by have := hF _ z; omega) (fun z => by have := hF _ z; omega)
  clear hd5
  refine hK.out _ _ hheld5 (fun hHeld => ?_)
  clear K hK hheld5
  refine take_ (i := 6) (N := some 74) (v := ?_) (a' := ?_) #[true, true, true, true, true, true, true, false, false] rfl rfl (by kernel_rfl) (fun _ _ _ h => h) (Or.inl ⟨by rfl, ?_⟩) hHeld ?_ ?_
  rotate_left
  · intro w' hS; go_simp; with_reducible rfl
  rotate_left
  · rfl
  refine one_ (i := 7) (N := none) #[true, true, true, true, true, true, true, true, false] rfl rfl (by kernel_rfl) (by decide) (fun K hK => ?_)
  rw [if_pos (by rfl)]
  have BX := Lib.hid (hHeld.blkTo (inCells c 0 v2 qv gv 0 0 (n)) rfl)
  have KX := Lib.hid (setCells_kept (F := fun k => k = N + 1 + 1) (b := N + 1 + 1) (fun _ => rfl) (inCells c 0 v2 qv gv 0 0 (n)).toList 0 w5 (Kept.refl _ _))
  have hheld' := hHeld.to (inCells c 0 v2 qv gv 0 0 (n)) rfl HGR.out (by omega)
  refine wp_store_mid 38 (.tmp 6) (.tmp 68) rfl (N + 1 + 1) 0 (inCells c 0 v2 qv gv 0 0 (n)) rfl rfl (hHeld.there rfl) sizeSt H1.out ?_
  refine hK.out _ _ hheld' (fun hHeld => ?_)
  refine pure_ (i := 8) (N := some 7) (v := ?_) (a' := ?_) #[true, true, true, true, true, true, true, true, true] rfl rfl (by kernel_rfl) (fun _ _ _ h => h) (Or.inl ⟨by rfl, ?_⟩) ?_ ?_
  rotate_left
  · intro w'; go_simp; with_reducible rfl
  rotate_left
  · rfl
  refine done_ (by kernel_rfl) ?_
  clear K hK hheld'
  refine NoPanic.normal ?_
  generalize w5.setCells (N + 1 + 1) 0 (inCells c 0 v2 qv gv 0 0 (n)).toList = wx at BX KX hHeld ⊢
  go_wp2_with fail
  obtain ⟨tX, hX⟩ := BX.out
  refine bodyPost_ret (results_row_tmp rfl _ _ (N + 1 + 1) tX (inCells c 0 v2 qv gv 0 0 (n)) (0, 0) _ rfl hX Try.underlying38 rfl sizeSt) rfl ?_
  obtain ⟨F', j, hF', hst, hlen⟩ := D5.out.st
  have hs2 := HS2.out
  have hs4 : w2.heap.size ≤ w4.drew.heap.size := K4.out.size
  have KW : Go.Proofs.Ytekbgpfpnjddgaa.Kept F w wx := ((CW4.out.mono (fun _ _ q => q.elim)).trans D5.out.kept).step KX.out (fun k h1 h2 => absurd h1 (by omega))
  have hOO : (v2 = pv ∧ without ks key = ks) ∨ ∀ g, v2.ownBlock = some g → w1.heap.size ≤ g ∧ g < w2.heap.size := .inr O2.out
  have hOF : (v2 = pv ∧ without ks key = ks) ∨ ∀ g, v2.ownBlock = some g → w.heap.size ≤ g ∧ ¬ F' g := hOO.imp id (fun ho g z => by
    have := ho g z
    have := LA.out.size
    refine ⟨by omega, fun y => ?_⟩
    rcases hF' g y with y | y
    · have := hF g y; omega
    · omega)
  refine ⟨_, rfl, c, n, without ks key, v2, F', j, 0, rfl, ⟨hst.kept KX.out (fun k z q => ?_), HH.out.fits, ?_⟩, KW, fun q z => (hF' q z).imp id (fun y => by omega), .inl ⟨rfl, rfl⟩, by omega, hOF⟩
  · rcases hF' k z with y | y
    · have := hF k y; omega
    · omega
  · have ho := O2.out
    · intro wz hk
      have e1 := (P2.out.calm K4.out.drew).kept D5.out.kept (fun g z y => by have := ho g z; have := hF g y; have := LA.out.size; omega)
      have e2 := e1.kept KX.out (fun g z y => by have := ho g z; have := LA.out.size; omega)
      exact e2.kept hk (fun g z y => by
        have := ho g z
        have := LA.out.size
        rcases hF' g y with y | y
        · have := hF g y; omega
        · omega)
set_option maxRecDepth 100000 in
set_option maxHeartbeats 1000000 in
theorem Step_touch {w : World} {e : Nat} {F : Nat → Prop} {c : Conf} {n : Cnt} {ks : List Int} {m : Int} {pv : Value} (h : Kin w e F c n ks m pv) {qv gv : Value} (hq : qv.oneCell' = true) (hg : gv.oneCell' = true) (c' : Conf) (key : Int) (hF : ∀ k, F k → k < w.heap.size) :
    Calls Try.prog 19 #[.pointer (some ⟨e, 0, none⟩), stIn c n pv qv gv, .agg (actCells 2 key c')] w fun e' w' => ∃ r, e' = .returned r ∧ Stepped w w' e F c n ks m pv qv gv r := by
  have HD := Lib.hid (fun w1 (hc : Calm w w1) => RefTouch_calls (w := w1) c n pv qv gv ks (h.at.calm hc) h.len hq hg key)
  have HH := Lib.hid h
  have HST := Lib.hid (fun w1 (hc : Calm w w1) => (h.st.calm hc).touch key)
  unfold stIn at HD ⊢
  clear h
  go_enter Try.func19, Try.ntmps19
  go_upto_region 1 with fail
  have LA := Lib.hid (Laid3.mk' w (inCells c 0 pv qv gv 0 0 n) (actCells 2 key c') 38 53 38)
  change Code.wp _ _ _ _ (((w.alloc (.cells (inCells c 0 pv qv gv 0 0 n) 38)).alloc (.cells (actCells 2 key c') 53)).alloc (.cells (stCells ⟨0, 0, 0, 0⟩ zeroCnt (.slice none 0 0)) 38))
  generalize ((w.alloc (.cells (inCells c 0 pv qv gv 0 0 n) 38)).alloc (.cells (actCells 2 key c') 53)).alloc (.cells (stCells ⟨0, 0, 0, 0⟩ zeroCnt (.slice none 0 0)) 38) = w1 at LA ⊢
  generalize hN : w.heap.size = N at LA ⊢
  have a0 : w1.cell? ⟨N + 1, 0, none⟩ = some (.int .i64 2) := (LA.out.act.cell 0).trans rfl
  have a1 : w1.cell? ⟨N + 1, 1, none⟩ = some (.int .u64 key) := (LA.out.act.cell 1).trans rfl
  go_upto_region 11 with fail
  have HRG := Lib.hid (blk_range LA.out.box 0 20 (inCells c 0 pv qv gv 0 0 n).toList rfl)
  refine wp_region_lit ?_
  refine wpList_load_mid rfl 38 (.tmp 4) rfl N 0 rfl (inCells c 0 pv qv gv 0 0 n).toList _ HRG.out Try.underlying38 rfl sizeSt ?_
  have HDD := Lib.hid (HD.out w1 LA.out.calm)
  iterate 6 go_step
  iterate 2 go_step
  go_at_call 46
  refine HDD.out.mono ?_
  rintro e' w2 ⟨v2, rfl, hp2, ho2, hc2⟩
  dsimp only
  go_step
  have P2 := Lib.hid hp2
  have O2 := Lib.hid ho2
  have C2 := Lib.hid hc2
  have H1 := Lib.hid (in_one (c := c) (n := touchN n ks key) (tgt := 0) (cold := 0) (tst := 0) hp2.one hq hg)
  clear hp2 ho2 hc2 a0 a1 HRG
  iterate 12 go_step
  refine wpList_plain rfl fun K hK => wp_store_new 38 (.tmp 14) (.tmp 94) rfl w2 (stCells ⟨0, 0, 0, 0⟩ zeroCnt (.slice none 0 0)) (inCells c 0 v2 qv gv 0 0 (touchN n ks key)) rfl rfl sizeSt rfl H1.out (hK _ _ ?_)
  clear hK K
  have G4 := Lib.hid (Blk.new w2 (inCells c 0 v2 qv gv 0 0 (touchN n ks key)) 38)
  have A4 := Lib.hid ((LA.out.act.calm C2.out).alloc (.cells (inCells c 0 v2 qv gv 0 0 (touchN n ks key)) 38))
  have R4 := Lib.hid ((LA.out.res.calm C2.out).alloc (.cells (inCells c 0 v2 qv gv 0 0 (touchN n ks key)) 38))
  have K4 : Hid (Calm w2 (w2.alloc (.cells (inCells c 0 v2 qv gv 0 0 (touchN n ks key)) 38))) := Lib.hid ((Kept.refl _ w2).alloc _)
  have HS2 := Lib.hid (Nat.le_trans LA.out.size C2.out.size)
  go_upto_region 12 with fail
  generalize w2.alloc (.cells (inCells c 0 v2 qv gv 0 0 (touchN n ks key)) 38) = w4 at G4 A4 R4 K4 ⊢
  generalize hG : w2.heap.size = G at G4
  have HGR : Hid (G ≠ N + 1 + 1) := Lib.hid (by have := HS2.out; omega)
  have HGF : Hid (¬ F G) := Lib.hid (fun z => by have := hF _ z; have := HS2.out; omega)
  have CW4 := Lib.hid ((LA.out.calm.trans C2.out).trans K4.out.drew)
  have HS4 := Lib.hid (HST.out w4.drew CW4.out)
  have hheld : Stp G (N + 1) (N + 1 + 1) (inCells c 0 v2 qv gv 0 0 (touchN n ks key)) (actCells 2 key c') w4 := ⟨G4.out, A4.out, _, R4.out, rfl⟩
  refine wp_region_noPanic ?_
  refine start_ (n := 9) (S := Stp G (N + 1) (N + 1 + 1) (inCells c 0 v2 qv gv 0 0 (touchN n ks key)) (actCells 2 key c')) (ds := []) #[false, false, false, false, false, false, false, false, false] (by kernel_rfl) rfl rfl hheld.drew (fun hHeld => ?_)
  refine take_ (i := 0) (N := some 96) (v := .agg ((inCells c 0 v2 qv gv 0 0 (touchN n ks key)).toList).toArray) (a' := ?_) #[true, false, false, false, false, false, false, false, false] rfl rfl (by kernel_rfl) (fun _ _ _ h => h) (yieldsIf_load_mid (by rfl) 38 (.tmp 14) rfl G 0 rfl (inCells c 0 v2 qv gv 0 0 (touchN n ks key)).toList _ (fun w' hS => blk_range hS.box 0 20 _ rfl) Try.underlying38 rfl sizeSt) hHeld ?_ ?_
  rotate_left
  · simp only [Act.put, List.setIfInBounds_toArray, List.set_cons_zero, List.set_cons_succ]; rfl
  refine pure_ (i := 1) (N := some 97) (v := ?_) (a' := ?_) #[true, true, false, false, false, false, false, false, false] rfl rfl (by kernel_rfl) (fun _ _ _ h => h) (Or.inl ⟨by rfl, ?_⟩) ?_ ?_
  rotate_left
  · intro w'; go_simp; with_reducible rfl
  rotate_left
  · simp only [Act.put, List.setIfInBounds_toArray, List.set_cons_zero, List.set_cons_succ]; rfl
  refine pure_ (i := 2) (N := some 98) (v := ?_) (a' := ?_) #[true, true, true, false, false, false, false, false, false] rfl rfl (by kernel_rfl) (fun _ _ _ h => h) (Or.inl ⟨by rfl, ?_⟩) ?_ ?_
  rotate_left
  · intro w'; go_simp; with_reducible rfl
  rotate_left
  · simp only [Act.put, List.setIfInBounds_toArray, List.set_cons_zero, List.set_cons_succ]; rfl
  refine take_ (i := 3) (N := some 99) (v := ?_) (a' := ?_) #[true, true, true, true, false, false, false, false, false] rfl rfl (by kernel_rfl) (fun _ _ _ h => h) (Or.inl ⟨by rfl, ?_⟩) hHeld ?_ ?_
  rotate_left
  · intro w' hS; have c0 := hS.key; go_simp; with_reducible rfl
  rotate_left
  · simp only [Act.put, List.setIfInBounds_toArray, List.set_cons_zero, List.set_cons_succ]; rfl
  refine pure_ (i := 5) (N := some 101) (v := ?_) (a' := ?_) #[true, true, true, true, false, true, false, false, false] rfl rfl (by kernel_rfl) (fun _ _ _ h => h) (Or.inl ⟨by rfl, ?_⟩) ?_ ?_
  rotate_left
  · intro w'; go_simp; with_reducible rfl
  rotate_left
  · simp only [Act.put, List.setIfInBounds_toArray, List.set_cons_zero, List.set_cons_succ]; rfl
  refine one_ (i := 4) (N := some 100) #[true, true, true, true, true, true, false, false, false] rfl rfl (by kernel_rfl) (by decide) (fun K hK => ?_)
  rw [if_pos (by rfl)]
  go_simp
  go_at_call 23
  refine HS4.out.mono ?_
  rintro e' w5 ⟨rfl, hd5⟩
  dsimp only
  have D5 := Lib.hid hd5
  have hheld5 := hHeld.kept hd5.kept HGF.out (fun z => by have := hF _ z; omega) (fun z => by have := hF _ z; omega)
  clear hd5
  refine hK.out _ _ hheld5 (fun hHeld => ?_)
  clear K hK hheld5
  refine take_ (i := 6) (N := some 102) (v := ?_) (a' := ?_) #[true, true, true, true, true, true, true, false, false] rfl rfl (by kernel_rfl) (fun _ _ _ h => h) (Or.inl ⟨by rfl, ?_⟩) hHeld ?_ ?_
  rotate_left
  · intro w' hS; go_simp; with_reducible rfl
  rotate_left
  · rfl
  refine one_ (i := 7) (N := none) #[true, true, true, true, true, true, true, true, false] rfl rfl (by kernel_rfl) (by decide) (fun K hK => ?_)
  rw [if_pos (by rfl)]
  have BX := Lib.hid (hHeld.blkTo (inCells c 0 v2 qv gv 0 0 (touchN n ks key)) rfl)
  have KX := Lib.hid (setCells_kept (F := fun k => k = N + 1 + 1) (b := N + 1 + 1) (fun _ => rfl) (inCells c 0 v2 qv gv 0 0 (touchN n ks key)).toList 0 w5 (Kept.refl _ _))
  have hheld' := hHeld.to (inCells c 0 v2 qv gv 0 0 (touchN n ks key)) rfl HGR.out (by omega)
  refine wp_store_mid 38 (.tmp 6) (.tmp 96) rfl (N + 1 + 1) 0 (inCells c 0 v2 qv gv 0 0 (touchN n ks key)) rfl rfl (hHeld.there rfl) sizeSt H1.out ?_
  refine hK.out _ _ hheld' (fun hHeld => ?_)
  refine pure_ (i := 8) (N := some 7) (v := ?_) (a' := ?_) #[true, true, true, true, true, true, true, true, true] rfl rfl (by kernel_rfl) (fun _ _ _ h => h) (Or.inl ⟨by rfl, ?_⟩) ?_ ?_
  rotate_left
  · intro w'; go_simp; with_reducible rfl
  rotate_left
  · rfl
  refine done_ (by kernel_rfl) ?_
  clear K hK hheld'
  refine NoPanic.normal ?_
  generalize w5.setCells (N + 1 + 1) 0 (inCells c 0 v2 qv gv 0 0 (touchN n ks key)).toList = wx at BX KX hHeld ⊢
  go_wp2_with fail
  obtain ⟨tX, hX⟩ := BX.out
  refine bodyPost_ret (results_row_tmp rfl _ _ (N + 1 + 1) tX (inCells c 0 v2 qv gv 0 0 (touchN n ks key)) (0, 0) _ rfl hX Try.underlying38 rfl sizeSt) rfl ?_
  obtain ⟨F', j, hF', hst, hlen⟩ := D5.out.st
  have hs2 := HS2.out
  have hs4 : w2.heap.size ≤ w4.drew.heap.size := K4.out.size
  have KW : Go.Proofs.Ytekbgpfpnjddgaa.Kept F w wx := ((CW4.out.mono (fun _ _ q => q.elim)).trans D5.out.kept).step KX.out (fun k h1 h2 => absurd h1 (by omega))
  have hOO : (v2 = pv ∧ touch ks key = ks) ∨ ∀ g, v2.ownBlock = some g → w1.heap.size ≤ g ∧ g < w2.heap.size := O2.out
  have hOF : (v2 = pv ∧ touch ks key = ks) ∨ ∀ g, v2.ownBlock = some g → w.heap.size ≤ g ∧ ¬ F' g := hOO.imp id (fun ho g z => by
    have := ho g z
    have := LA.out.size
    refine ⟨by omega, fun y => ?_⟩
    rcases hF' g y with y | y
    · have := hF g y; omega
    · omega)
  refine ⟨_, rfl, c, touchN n ks key, touch ks key, v2, F', j, 0, rfl, ⟨hst.kept KX.out (fun k z q => ?_), HH.out.fits, ?_⟩, KW, fun q z => (hF' q z).imp id (fun y => by omega), .inl ⟨rfl, by unfold touchN; split <;> rfl⟩, by omega, hOF⟩
  · rcases hF' k z with y | y
    · have := hF k y; omega
    · omega
  · rcases O2.out with ⟨hv, e1⟩ | ho
    · intro wz hk
      rw [e1, hv]
      exact HH.out.pages wz (KW.step hk (fun i h1 h2 => (hF' i h2).resolve_right (by omega)))
    · intro wz hk
      have e1 := (P2.out.calm K4.out.drew).kept D5.out.kept (fun g z y => by have := ho g z; have := hF g y; have := LA.out.size; omega)
      have e2 := e1.kept KX.out (fun g z y => by have := ho g z; have := LA.out.size; omega)
      exact e2.kept hk (fun g z y => by
        have := ho g z
        have := LA.out.size
        rcases hF' g y with y | y
        · have := hF g y; omega
        · omega)
set_option maxRecDepth 100000 in
set_option maxHeartbeats 1000000 in
theorem Step_keep {w : World} {e : Nat} {F : Nat → Prop} {c : Conf} {n : Cnt} {ks : List Int} {m : Int} {pv : Value} (h : Kin w e F c n ks m pv) {qv gv : Value} (hq : qv.oneCell' = true) (hg : gv.oneCell' = true) (c' : Conf) (key : Int) (kind : Int) (hkind : kind < 2) (hkk : key ∈ ks) (hF : ∀ k, F k → k < w.heap.size) :
    Calls Try.prog 19 #[.pointer (some ⟨e, 0, none⟩), stIn c n pv qv gv, .agg (actCells kind key c')] w fun e' w' => ∃ r, e' = .returned r ∧ Stepped w w' e F c n ks m pv qv gv r := by
  have HD := Lib.hid (fun w1 (hc : Calm w w1) => RefTouch_calls (w := w1) c n pv qv gv ks (h.at.calm hc) h.len hq hg key)
  have HH := Lib.hid h
  have HST := Lib.hid (fun w1 (hc : Calm w w1) => (h.st.calm hc).touch key)
  unfold stIn at HD ⊢
  clear h
  go_enter Try.func19, Try.ntmps19
  go_upto_region 1 with fail
  have LA := Lib.hid (Laid3.mk' w (inCells c 0 pv qv gv 0 0 n) (actCells kind key c') 38 53 38)
  change Code.wp _ _ _ _ (((w.alloc (.cells (inCells c 0 pv qv gv 0 0 n) 38)).alloc (.cells (actCells kind key c') 53)).alloc (.cells (stCells ⟨0, 0, 0, 0⟩ zeroCnt (.slice none 0 0)) 38))
  generalize ((w.alloc (.cells (inCells c 0 pv qv gv 0 0 n) 38)).alloc (.cells (actCells kind key c') 53)).alloc (.cells (stCells ⟨0, 0, 0, 0⟩ zeroCnt (.slice none 0 0)) 38) = w1 at LA ⊢
  generalize hN : w.heap.size = N at LA ⊢
  have a0 : w1.cell? ⟨N + 1, 0, none⟩ = some (.int .i64 kind) := (LA.out.act.cell 0).trans rfl
  have a1 : w1.cell? ⟨N + 1, 1, none⟩ = some (.int .u64 key) := (LA.out.act.cell 1).trans rfl
  have d5 : (kind == 5) = false := by simp; omega
  have d4 : (kind == 4) = false := by simp; omega
  have d2 : (kind == 2) = false := by simp; omega
  have dl : decide (kind < 2) = true := decide_eq_true hkind
  go_upto_region 10 with fail
  have HKP := Lib.hid (RefKept_st (w := w1) c n pv qv gv ks (HH.out.at.calm LA.out.calm) HH.out.len key)
  rw [decide_eq_true hkk] at HKP
  have HRG0 := Lib.hid (blk_range LA.out.box 0 20 (inCells c 0 pv qv gv 0 0 n).toList rfl)
  refine wp_region_lit ?_
  iterate 20 go_step
  refine wpList_step fun K hK => ?_
  rw [if_pos (by rfl)]
  refine wp_load_mid 38 (.tmp 4) rfl N 0 rfl (inCells c 0 pv qv gv 0 0 n).toList _ HRG0.out Try.underlying38 rfl sizeSt (hK _ _ ?_)
  clear K hK
  iterate 4 go_step
  refine wpList_step fun K hK => ?_
  rw [if_pos (by rfl)]
  go_simp
  go_at_call 45
  refine HKP.out.mono ?_
  rintro e' w1' ⟨rfl, hc⟩
  dsimp only
  refine hK _ _ ?_
  clear K hK
  have LA := Lib.hid (LA.out.calm' hc)
  clear hc HKP HRG0 a0 a1
  generalize w1' = w1 at LA ⊢
  have a1 : w1.cell? ⟨N + 1, 1, none⟩ = some (.int .u64 key) := (LA.out.act.cell 1).trans rfl
  go_upto_region 11 with fail
  have HRG := Lib.hid (blk_range LA.out.box 0 20 (inCells c 0 pv qv gv 0 0 n).toList rfl)
  refine wp_region_lit ?_
  refine wpList_load_mid rfl 38 (.tmp 4) rfl N 0 rfl (inCells c 0 pv qv gv 0 0 n).toList _ HRG.out Try.underlying38 rfl sizeSt ?_
  have HDD := Lib.hid (HD.out w1 LA.out.calm)
  iterate 6 go_step
  iterate 2 go_step
  go_at_call 46
  refine HDD.out.mono ?_
  rintro e' w2 ⟨v2, rfl, hp2, ho2, hc2⟩
  dsimp only
  go_step
  have P2 := Lib.hid hp2
  have O2 := Lib.hid ho2
  have C2 := Lib.hid hc2
  have H1 := Lib.hid (in_one (c := c) (n := touchN n ks key) (tgt := 0) (cold := 0) (tst := 0) hp2.one hq hg)
  clear hp2 ho2 hc2 a1 HRG
  iterate 12 go_step
  refine wpList_plain rfl fun K hK => wp_store_new 38 (.tmp 14) (.tmp 94) rfl w2 (stCells ⟨0, 0, 0, 0⟩ zeroCnt (.slice none 0 0)) (inCells c 0 v2 qv gv 0 0 (touchN n ks key)) rfl rfl sizeSt rfl H1.out (hK _ _ ?_)
  clear hK K
  have G4 := Lib.hid (Blk.new w2 (inCells c 0 v2 qv gv 0 0 (touchN n ks key)) 38)
  have A4 := Lib.hid ((LA.out.act.calm C2.out).alloc (.cells (inCells c 0 v2 qv gv 0 0 (touchN n ks key)) 38))
  have R4 := Lib.hid ((LA.out.res.calm C2.out).alloc (.cells (inCells c 0 v2 qv gv 0 0 (touchN n ks key)) 38))
  have K4 : Hid (Calm w2 (w2.alloc (.cells (inCells c 0 v2 qv gv 0 0 (touchN n ks key)) 38))) := Lib.hid ((Kept.refl _ w2).alloc _)
  have HS2 := Lib.hid (Nat.le_trans LA.out.size C2.out.size)
  go_upto_region 12 with fail
  generalize w2.alloc (.cells (inCells c 0 v2 qv gv 0 0 (touchN n ks key)) 38) = w4 at G4 A4 R4 K4 ⊢
  generalize hG : w2.heap.size = G at G4
  have HGR : Hid (G ≠ N + 1 + 1) := Lib.hid (by have := HS2.out; omega)
  have HGF : Hid (¬ F G) := Lib.hid (fun z => by have := hF _ z; have := HS2.out; omega)
  have CW4 := Lib.hid ((LA.out.calm.trans C2.out).trans K4.out.drew)
  have HS4 := Lib.hid (HST.out w4.drew CW4.out)
  have hheld : Stp G (N + 1) (N + 1 + 1) (inCells c 0 v2 qv gv 0 0 (touchN n ks key)) (actCells kind key c') w4 := ⟨G4.out, A4.out, _, R4.out, rfl⟩
  refine wp_region_noPanic ?_
  refine start_ (n := 9) (S := Stp G (N + 1) (N + 1 + 1) (inCells c 0 v2 qv gv 0 0 (touchN n ks key)) (actCells kind key c')) (ds := []) #[false, false, false, false, false, false, false, false, false] (by kernel_rfl) rfl rfl hheld.drew (fun hHeld => ?_)
  refine take_ (i := 0) (N := some 96) (v := .agg ((inCells c 0 v2 qv gv 0 0 (touchN n ks key)).toList).toArray) (a' := ?_) #[true, false, false, false, false, false, false, false, false] rfl rfl (by kernel_rfl) (fun _ _ _ h => h) (yieldsIf_load_mid (by rfl) 38 (.tmp 14) rfl G 0 rfl (inCells c 0 v2 qv gv 0 0 (touchN n ks key)).toList _ (fun w' hS => blk_range hS.box 0 20 _ rfl) Try.underlying38 rfl sizeSt) hHeld ?_ ?_
  rotate_left
  · simp only [Act.put, List.setIfInBounds_toArray, List.set_cons_zero, List.set_cons_succ]; rfl
  refine pure_ (i := 1) (N := some 97) (v := ?_) (a' := ?_) #[true, true, false, false, false, false, false, false, false] rfl rfl (by kernel_rfl) (fun _ _ _ h => h) (Or.inl ⟨by rfl, ?_⟩) ?_ ?_
  rotate_left
  · intro w'; go_simp; with_reducible rfl
  rotate_left
  · simp only [Act.put, List.setIfInBounds_toArray, List.set_cons_zero, List.set_cons_succ]; rfl
  refine pure_ (i := 2) (N := some 98) (v := ?_) (a' := ?_) #[true, true, true, false, false, false, false, false, false] rfl rfl (by kernel_rfl) (fun _ _ _ h => h) (Or.inl ⟨by rfl, ?_⟩) ?_ ?_
  rotate_left
  · intro w'; go_simp; with_reducible rfl
  rotate_left
  · simp only [Act.put, List.setIfInBounds_toArray, List.set_cons_zero, List.set_cons_succ]; rfl
  refine take_ (i := 3) (N := some 99) (v := ?_) (a' := ?_) #[true, true, true, true, false, false, false, false, false] rfl rfl (by kernel_rfl) (fun _ _ _ h => h) (Or.inl ⟨by rfl, ?_⟩) hHeld ?_ ?_
  rotate_left
  · intro w' hS; have c0 := hS.key; go_simp; with_reducible rfl
  rotate_left
  · simp only [Act.put, List.setIfInBounds_toArray, List.set_cons_zero, List.set_cons_succ]; rfl
  refine pure_ (i := 5) (N := some 101) (v := ?_) (a' := ?_) #[true, true, true, true, false, true, false, false, false] rfl rfl (by kernel_rfl) (fun _ _ _ h => h) (Or.inl ⟨by rfl, ?_⟩) ?_ ?_
  rotate_left
  · intro w'; go_simp; with_reducible rfl
  rotate_left
  · simp only [Act.put, List.setIfInBounds_toArray, List.set_cons_zero, List.set_cons_succ]; rfl
  refine one_ (i := 4) (N := some 100) #[true, true, true, true, true, true, false, false, false] rfl rfl (by kernel_rfl) (by decide) (fun K hK => ?_)
  rw [if_pos (by rfl)]
  go_simp
  go_at_call 23
  refine HS4.out.mono ?_
  rintro e' w5 ⟨rfl, hd5⟩
  dsimp only
  have D5 := Lib.hid hd5
  have hheld5 := hHeld.kept hd5.kept HGF.out (fun z => by have := hF _ z; omega) (fun z => by have := hF _ z; omega)
  clear hd5
  refine hK.out _ _ hheld5 (fun hHeld => ?_)
  clear K hK hheld5
  refine take_ (i := 6) (N := some 102) (v := ?_) (a' := ?_) #[true, true, true, true, true, true, true, false, false] rfl rfl (by kernel_rfl) (fun _ _ _ h => h) (Or.inl ⟨by rfl, ?_⟩) hHeld ?_ ?_
  rotate_left
  · intro w' hS; go_simp; with_reducible rfl
  rotate_left
  · rfl
  refine one_ (i := 7) (N := none) #[true, true, true, true, true, true, true, true, false] rfl rfl (by kernel_rfl) (by decide) (fun K hK => ?_)
  rw [if_pos (by rfl)]
  have BX := Lib.hid (hHeld.blkTo (inCells c 0 v2 qv gv 0 0 (touchN n ks key)) rfl)
  have KX := Lib.hid (setCells_kept (F := fun k => k = N + 1 + 1) (b := N + 1 + 1) (fun _ => rfl) (inCells c 0 v2 qv gv 0 0 (touchN n ks key)).toList 0 w5 (Kept.refl _ _))
  have hheld' := hHeld.to (inCells c 0 v2 qv gv 0 0 (touchN n ks key)) rfl HGR.out (by omega)
  refine wp_store_mid 38 (.tmp 6) (.tmp 96) rfl (N + 1 + 1) 0 (inCells c 0 v2 qv gv 0 0 (touchN n ks key)) rfl rfl (hHeld.there rfl) sizeSt H1.out ?_
  refine hK.out _ _ hheld' (fun hHeld => ?_)
  refine pure_ (i := 8) (N := some 7) (v := ?_) (a' := ?_) #[true, true, true, true, true, true, true, true, true] rfl rfl (by kernel_rfl) (fun _ _ _ h => h) (Or.inl ⟨by rfl, ?_⟩) ?_ ?_
  rotate_left
  · intro w'; go_simp; with_reducible rfl
  rotate_left
  · rfl
  refine done_ (by kernel_rfl) ?_
  clear K hK hheld'
  refine NoPanic.normal ?_
  generalize w5.setCells (N + 1 + 1) 0 (inCells c 0 v2 qv gv 0 0 (touchN n ks key)).toList = wx at BX KX hHeld ⊢
  go_wp2_with fail
  obtain ⟨tX, hX⟩ := BX.out
  refine bodyPost_ret (results_row_tmp rfl _ _ (N + 1 + 1) tX (inCells c 0 v2 qv gv 0 0 (touchN n ks key)) (0, 0) _ rfl hX Try.underlying38 rfl sizeSt) rfl ?_
  obtain ⟨F', j, hF', hst, hlen⟩ := D5.out.st
  have hs2 := HS2.out
  have hs4 : w2.heap.size ≤ w4.drew.heap.size := K4.out.size
  have KW : Go.Proofs.Ytekbgpfpnjddgaa.Kept F w wx := ((CW4.out.mono (fun _ _ q => q.elim)).trans D5.out.kept).step KX.out (fun k h1 h2 => absurd h1 (by omega))
  have hOO : (v2 = pv ∧ touch ks key = ks) ∨ ∀ g, v2.ownBlock = some g → w1.heap.size ≤ g ∧ g < w2.heap.size := O2.out
  have hOF : (v2 = pv ∧ touch ks key = ks) ∨ ∀ g, v2.ownBlock = some g → w.heap.size ≤ g ∧ ¬ F' g := hOO.imp id (fun ho g z => by
    have := ho g z
    have := LA.out.size
    refine ⟨by omega, fun y => ?_⟩
    rcases hF' g y with y | y
    · have := hF g y; omega
    · omega)
  refine ⟨_, rfl, c, touchN n ks key, touch ks key, v2, F', j, 0, rfl, ⟨hst.kept KX.out (fun k z q => ?_), HH.out.fits, ?_⟩, KW, fun q z => (hF' q z).imp id (fun y => by omega), .inl ⟨rfl, by unfold touchN; split <;> rfl⟩, by omega, hOF⟩
  · rcases hF' k z with y | y
    · have := hF k y; omega
    · omega
  · rcases O2.out with ⟨hv, e1⟩ | ho
    · intro wz hk
      rw [e1, hv]
      exact HH.out.pages wz (KW.step hk (fun i h1 h2 => (hF' i h2).resolve_right (by omega)))
    · intro wz hk
      have e1 := (P2.out.calm K4.out.drew).kept D5.out.kept (fun g z y => by have := ho g z; have := hF g y; have := LA.out.size; omega)
      have e2 := e1.kept KX.out (fun g z y => by have := ho g z; have := LA.out.size; omega)
      exact e2.kept hk (fun g z y => by
        have := ho g z
        have := LA.out.size
        rcases hF' g y with y | y
        · have := hF g y; omega
        · omega)
set_option maxRecDepth 100000 in
set_option maxHeartbeats 1000000 in
theorem Step_fresh {w : World} {e : Nat} {F : Nat → Prop} {c : Conf} {n : Cnt} {ks : List Int} {m : Int} {pv : Value} (h : Kin w e F c n ks m pv) {qv gv : Value} (hq : qv.oneCell' = true) (hg : gv.oneCell' = true) (c' : Conf) (key : Int) (kind : Int) (most : Nat) (hm : c.cap = (most : Int) + 1) (hmost : most < 256) (hkind : kind < 2) (hkk : key ∉ ks) (hF : ∀ k, F k → k < w.heap.size) :
    Calls Try.prog 19 #[.pointer (some ⟨e, 0, none⟩), stIn c n pv qv gv, .agg (actCells kind key c')] w fun e' w' => ∃ r, e' = .returned r ∧ Stepped w w' e F c n ks m pv qv gv r := by
  have HD := Lib.hid (fun w1 (hv : PagesAt w1 pv ks) => RefAdmit_calls (w := w1) c n pv qv gv ks hv h.len h.st.nd hq hg key most hm hmost)
  have HH := Lib.hid h
  unfold stIn at HD ⊢
  clear h
  go_enter Try.func19, Try.ntmps19
  go_upto_region 1 with fail
  have LA := Lib.hid (Laid3.mk' w (inCells c 0 pv qv gv 0 0 n) (actCells kind key c') 38 53 38)
  change Code.wp _ _ _ _ (((w.alloc (.cells (inCells c 0 pv qv gv 0 0 n) 38)).alloc (.cells (actCells kind key c') 53)).alloc (.cells (stCells ⟨0, 0, 0, 0⟩ zeroCnt (.slice none 0 0)) 38))
  generalize ((w.alloc (.cells (inCells c 0 pv qv gv 0 0 n) 38)).alloc (.cells (actCells kind key c') 53)).alloc (.cells (stCells ⟨0, 0, 0, 0⟩ zeroCnt (.slice none 0 0)) 38) = w1 at LA ⊢
  generalize hN : w.heap.size = N at LA ⊢
  have a0 : w1.cell? ⟨N + 1, 0, none⟩ = some (.int .i64 kind) := (LA.out.act.cell 0).trans rfl
  have a1 : w1.cell? ⟨N + 1, 1, none⟩ = some (.int .u64 key) := (LA.out.act.cell 1).trans rfl
  have d5 : (kind == 5) = false := by simp; omega
  have d4 : (kind == 4) = false := by simp; omega
  have d2 : (kind == 2) = false := by simp; omega
  have dl : decide (kind < 2) = true := decide_eq_true hkind
  go_upto_region 10 with fail
  have HKP := Lib.hid (RefKept_st (w := w1) c n pv qv gv ks (HH.out.at.calm LA.out.calm) HH.out.len key)
  rw [decide_eq_false hkk] at HKP
  have HRG0 := Lib.hid (blk_range LA.out.box 0 20 (inCells c 0 pv qv gv 0 0 n).toList rfl)
  refine wp_region_lit ?_
  iterate 20 go_step
  refine wpList_step fun K hK => ?_
  rw [if_pos (by rfl)]
  refine wp_load_mid 38 (.tmp 4) rfl N 0 rfl (inCells c 0 pv qv gv 0 0 n).toList _ HRG0.out Try.underlying38 rfl sizeSt (hK _ _ ?_)
  clear K hK
  iterate 4 go_step
  refine wpList_step fun K hK => ?_
  rw [if_pos (by rfl)]
  go_simp
  go_at_call 45
  refine HKP.out.mono ?_
  rintro e' w1' ⟨rfl, hc⟩
  dsimp only
  refine hK _ _ ?_
  clear K hK
  have LA := Lib.hid (LA.out.calm' hc)
  clear hc HKP HRG0 a0 a1
  generalize w1' = w1 at LA ⊢
  have a1 : w1.cell? ⟨N + 1, 1, none⟩ = some (.int .u64 key) := (LA.out.act.cell 1).trans rfl
  have HE := Lib.hid ((fun w1 (hc : Calm w w1) => (HH.out.st.calm hc).admit key most hm hmost) w1 LA.out.calm)
  go_upto_region 14 with (go_at_call 20; refine HE.out.mono ?_; rintro e' w3 ⟨v3, rfl, hl3, hd3⟩; have L3 := Lib.hid hl3; have D3 := Lib.hid hd3; clear hl3 hd3)
  clear a1
  obtain ⟨hb3, ha3, hr3, hz3⟩ := LA.out.step D3.out.kept (fun k z => by have := hF k z; omega)
  have B3 := Lib.hid hb3
  have A3 := Lib.hid ha3
  have R3 := Lib.hid hr3
  have HS3 := Lib.hid hz3
  clear hb3 ha3 hr3 hz3
  have KW3 := Lib.hid ((LA.out.calm.mono (fun _ _ q => q.elim)).trans D3.out.kept)
  have a1 : w3.cell? ⟨N + 1, 1, none⟩ = some (.int .u64 key) := (A3.out.cell 1).trans rfl
  have HRG := Lib.hid (blk_range B3.out 0 20 (inCells c 0 pv qv gv 0 0 n).toList rfl)
  refine wp_region_lit ?_
  refine wpList_load_mid rfl 38 (.tmp 4) rfl N 0 rfl (inCells c 0 pv qv gv 0 0 n).toList _ HRG.out Try.underlying38 rfl sizeSt ?_
  have HDD := Lib.hid (HD.out w3 (HH.out.pages w3 KW3.out))
  iterate 6 go_step
  iterate 2 go_step
  go_at_call 47
  refine HDD.out.mono ?_
  rintro e' w2 ⟨v2, o2, rfl, hp2, ho2, hi2, hc2⟩
  dsimp only
  go_step
  have P2 := Lib.hid hp2
  have O2 := Lib.hid ho2
  have I2 := Lib.hid hi2
  have C2 := Lib.hid hc2
  have L2 := Lib.hid (L3.out.calm hc2)
  have H1 := Lib.hid (in_one (c := c) (n := adN most n ks key) (tgt := 0) (cold := 0) (tst := 0) hp2.one hq hg)
  clear hp2 ho2 hc2 hi2 a1 HRG
  iterate 15 go_step
  refine wpList_plain rfl fun K hK => wp_store_new 38 (.tmp 18) (.tmp 115) rfl w2 (stCells ⟨0, 0, 0, 0⟩ zeroCnt (.slice none 0 0)) (inCells c 0 v2 qv gv 0 0 (adN most n ks key)) rfl rfl sizeSt rfl H1.out (hK _ _ ?_)
  clear hK K
  have G4 := Lib.hid (Blk.new w2 (inCells c 0 v2 qv gv 0 0 (adN most n ks key)) 38)
  have A4 := Lib.hid ((A3.out.calm C2.out).alloc (.cells (inCells c 0 v2 qv gv 0 0 (adN most n ks key)) 38))
  have R4 := Lib.hid ((R3.out.calm C2.out).alloc (.cells (inCells c 0 v2 qv gv 0 0 (adN most n ks key)) 38))
  have K4 : Hid (Calm w2 (w2.alloc (.cells (inCells c 0 v2 qv gv 0 0 (adN most n ks key)) 38))) := Lib.hid ((Kept.refl _ w2).alloc _)
  have HS2 := Lib.hid (Nat.le_trans HS3.out C2.out.size)
  go_upto_region 15 with fail
  generalize w2.alloc (.cells (inCells c 0 v2 qv gv 0 0 (adN most n ks key)) 38) = w4 at G4 A4 R4 K4 ⊢
  generalize hG : w2.heap.size = G at G4
  have HGR : Hid (G ≠ N + 1 + 1) := Lib.hid (by have := HS2.out; omega)
  have hheld : Stp G (N + 1) (N + 1 + 1) (inCells c 0 v2 qv gv 0 0 (adN most n ks key)) (actCells kind key c') w4 := ⟨G4.out, A4.out, _, R4.out, rfl⟩
  have HSA := Lib.hid (Keys.Same_calls w4.drew v3 o2 _ _ (L2.out.calm K4.out.drew).w (I2.out.calm K4.out.drew).w (by have := adl_len most ks key; have := HH.out.len; omega) (by have := adl_len most ks key; have := HH.out.len; omega))
  rw [decide_eq_true rfl] at HSA
  refine wp_region_noPanic ?_
  refine start_ (n := 11) (S := Stp G (N + 1) (N + 1 + 1) (inCells c 0 v2 qv gv 0 0 (adN most n ks key)) (actCells kind key c')) (ds := []) #[false, false, false, false, false, false, false, false, false, false, false] (by kernel_rfl) rfl rfl hheld.drew (fun hHeld => ?_)
  refine take_ (i := 0) (N := some 118) (v := .agg ((inCells c 0 v2 qv gv 0 0 (adN most n ks key)).toList).toArray) (a' := ?_) #[true, false, false, false, false, false, false, false, false, false, false] rfl rfl (by kernel_rfl) (fun _ _ _ h => h) (yieldsIf_load_mid (by rfl) 38 (.tmp 18) rfl G 0 rfl (inCells c 0 v2 qv gv 0 0 (adN most n ks key)).toList _ (fun w' hS => blk_range hS.box 0 20 _ rfl) Try.underlying38 rfl sizeSt) hHeld ?_ ?_
  rotate_left
  · simp only [Act.put, List.setIfInBounds_toArray, List.set_cons_zero, List.set_cons_succ]; rfl
  refine pure_ (i := 1) (N := some 119) (v := ?_) (a' := ?_) #[true, true, false, false, false, false, false, false, false, false, false] rfl rfl (by kernel_rfl) (fun _ _ _ h => h) (Or.inl ⟨by rfl, ?_⟩) ?_ ?_
  rotate_left
  · intro w'; go_simp; with_reducible rfl
  rotate_left
  · simp only [Act.put, List.setIfInBounds_toArray, List.set_cons_zero, List.set_cons_succ]; rfl
  refine pure_ (i := 2) (N := some 120) (v := ?_) (a' := ?_) #[true, true, true, false, false, false, false, false, false, false, false] rfl rfl (by kernel_rfl) (fun _ _ _ h => h) (Or.inl ⟨by rfl, ?_⟩) ?_ ?_
  rotate_left
  · intro w'; go_simp; with_reducible rfl
  rotate_left
  · simp only [Act.put, List.setIfInBounds_toArray, List.set_cons_zero, List.set_cons_succ]; rfl
  refine take_ (i := 3) (N := some 121) (v := ?_) (a' := ?_) #[true, true, true, true, false, false, false, false, false, false, false] rfl rfl (by kernel_rfl) (fun _ _ _ h => h) (Or.inl ⟨by rfl, ?_⟩) hHeld ?_ ?_
  rotate_left
  · intro w' hS; go_simp; with_reducible rfl
  rotate_left
  · simp only [Act.put, List.setIfInBounds_toArray, List.set_cons_zero, List.set_cons_succ]; rfl
  refine pure_ (i := 4) (N := some 122) (v := ?_) (a' := ?_) #[true, true, true, true, true, false, false, false, false, false, false] rfl rfl (by kernel_rfl) (fun _ _ _ h => h) (Or.inl ⟨by rfl, ?_⟩) ?_ ?_
  rotate_left
  · intro w'; go_simp; with_reducible rfl
  rotate_left
  · simp only [Act.put, List.setIfInBounds_toArray, List.set_cons_zero, List.set_cons_succ]; rfl
  refine pure_ (i := 5) (N := some 123) (v := ?_) (a' := ?_) #[true, true, true, true, true, true, false, false, false, false, false] rfl rfl (by kernel_rfl) (fun _ _ _ h => h) (Or.inl ⟨by rfl, ?_⟩) ?_ ?_
  rotate_left
  · intro w'; go_simp; with_reducible rfl
  rotate_left
  · simp only [Act.put, List.setIfInBounds_toArray, List.set_cons_zero, List.set_cons_succ]; rfl
  refine pure_ (i := 6) (N := some 124) (v := ?_) (a' := ?_) #[true, true, true, true, true, true, true, false, false, false, false] rfl rfl (by kernel_rfl) (fun _ _ _ h => h) (Or.inl ⟨by rfl, ?_⟩) ?_ ?_
  rotate_left
  · intro w'; go_simp; with_reducible rfl
  rotate_left
  · simp only [Act.put, List.setIfInBounds_toArray, List.set_cons_zero, List.set_cons_succ]; rfl
  refine one_ (i := 7) (N := some 125) #[true, true, true, true, true, true, true, true, false, false, false] rfl rfl (by kernel_rfl) (by decide) (fun K hK => ?_)
  rw [if_pos (by rfl)]
  go_simp
  go_at_call 12
  refine HSA.out.mono ?_
  rintro e' w5 ⟨rfl, n5, rfl⟩
  dsimp only
  refine hK.out _ _ (hHeld.calm ((Kept.refl _ _).drewN n5)) (fun hHeld => ?_)
  clear K hK
  have K5 : Hid (Calm w4 (w4.drew.drewN n5)) := Lib.hid ((Kept.refl _ w4).drew.drewN n5)
  generalize w4.drew.drewN n5 = w5 at hHeld K5 ⊢
  refine take_ (i := 8) (N := some 126) (v := ?_) (a' := ?_) #[true, true, true, true, true, true, true, true, true, false, false] rfl rfl (by kernel_rfl) (fun _ _ _ h => h) (Or.inl ⟨by rfl, ?_⟩) hHeld ?_ ?_
  rotate_left
  · intro w' hS; go_simp; with_reducible rfl
  rotate_left
  · rfl
  refine one_ (i := 9) (N := none) #[true, true, true, true, true, true, true, true, true, true, false] rfl rfl (by kernel_rfl) (by decide) (fun K hK => ?_)
  rw [if_pos (by rfl)]
  have BX := Lib.hid (hHeld.blkTo (inCells c 0 v2 qv gv 0 0 (adN most n ks key)) rfl)
  have KX := Lib.hid (setCells_kept (F := fun k => k = N + 1 + 1) (b := N + 1 + 1) (fun _ => rfl) (inCells c 0 v2 qv gv 0 0 (adN most n ks key)).toList 0 w5 (Kept.refl _ _))
  have hheld' := hHeld.to (inCells c 0 v2 qv gv 0 0 (adN most n ks key)) rfl HGR.out (by omega)
  refine wp_store_mid 38 (.tmp 6) (.tmp 118) rfl (N + 1 + 1) 0 (inCells c 0 v2 qv gv 0 0 (adN most n ks key)) rfl rfl (hHeld.there rfl) sizeSt H1.out ?_
  refine hK.out _ _ hheld' (fun hHeld => ?_)
  refine pure_ (i := 10) (N := some 7) (v := ?_) (a' := ?_) #[true, true, true, true, true, true, true, true, true, true, true] rfl rfl (by kernel_rfl) (fun _ _ _ h => h) (Or.inl ⟨by rfl, ?_⟩) ?_ ?_
  rotate_left
  · intro w'; go_simp; with_reducible rfl
  rotate_left
  · rfl
  refine done_ (by kernel_rfl) ?_
  clear K hK hheld'
  refine NoPanic.normal ?_
  generalize w5.setCells (N + 1 + 1) 0 (inCells c 0 v2 qv gv 0 0 (adN most n ks key)).toList = wx at BX KX hHeld ⊢
  go_wp2_with fail
  obtain ⟨tX, hX⟩ := BX.out
  refine bodyPost_ret (results_row_tmp rfl _ _ (N + 1 + 1) tX (inCells c 0 v2 qv gv 0 0 (adN most n ks key)) (0, 0) _ rfl hX Try.underlying38 rfl sizeSt) rfl ?_
  obtain ⟨F0, j, hF0, hst0, hlen⟩ := D3.out.st
  have hst := hst0.trim
  have hF' : ∀ q, (F0 q ∧ q < w3.heap.size) → F q ∨ w1.heap.size ≤ q := fun q z => hF0 q z.1
  have hs1 := LA.out.size
  have hs3 : w1.heap.size ≤ w3.heap.size := D3.out.kept.size
  have K35 := (C2.out.trans K4.out).trans K5.out
  have hs5 := K35.size
  have KW : Go.Proofs.Ytekbgpfpnjddgaa.Kept F w wx := (KW3.out.trans (K35.mono (fun _ _ q => q.elim))).step KX.out (fun k h1 h2 => absurd h1 (by omega))
  have hOF : (v2 = pv ∧ adk most ks key = ks) ∨ ∀ g, v2.ownBlock = some g → w.heap.size ≤ g ∧ ¬ (F0 g ∧ g < w3.heap.size) := O2.out.imp id (fun ho g z => by
    have := ho g z
    exact ⟨by omega, fun y => by have := y.2; omega⟩)
  refine ⟨_, rfl, c, adN most n ks key, adk most ks key, v2, _, j, adD ks key, rfl, ⟨(hst.calm K35).kept KX.out (fun k z q => ?_), HH.out.fits, ?_⟩, KW, fun q z => (hF' q z).imp id (fun y => by omega), adD_n1 most n ks key, hlen, hOF⟩
  · rcases hF' k z with y | y
    · have := hF k y; omega
    · omega
  · rcases O2.out with ⟨hv, e1⟩ | ho
    · intro wz hk
      rw [e1, hv]
      exact HH.out.pages wz (KW.step hk (fun i h1 h2 => (hF' i h2).resolve_right (by omega)))
    · intro wz hk
      have e1 := P2.out.calm (K4.out.trans K5.out)
      have e2 := e1.kept KX.out (fun g z y => by have := ho g z; omega)
      exact e2.kept hk (fun g z y => by
        have := ho g z
        have := y.2
        omega)
set_option maxRecDepth 100000 in
set_option maxHeartbeats 1000000 in
theorem Step_admit {w : World} {e : Nat} {F : Nat → Prop} {c : Conf} {n : Cnt} {ks : List Int} {m : Int} {pv : Value} (h : Kin w e F c n ks m pv) {qv gv : Value} (hq : qv.oneCell' = true) (hg : gv.oneCell' = true) (c' : Conf) (key : Int) (kind : Int) (most : Nat) (hm : c.cap = (most : Int) + 1) (hmost : most < 256) (hkind : ¬ kind < 2) (h2 : kind ≠ 2) (h4 : kind ≠ 4) (h5 : kind ≠ 5) (hF : ∀ k, F k → k < w.heap.size) :
    Calls Try.prog 19 #[.pointer (some ⟨e, 0, none⟩), stIn c n pv qv gv, .agg (actCells kind key c')] w fun e' w' => ∃ r, e' = .returned r ∧ Stepped w w' e F c n ks m pv qv gv r := by
  have HD := Lib.hid (fun w1 (hv : PagesAt w1 pv ks) => RefAdmit_calls (w := w1) c n pv qv gv ks hv h.len h.st.nd hq hg key most hm hmost)
  have HH := Lib.hid h
  unfold stIn at HD ⊢
  clear h
  go_enter Try.func19, Try.ntmps19
  go_upto_region 1 with fail
  have LA := Lib.hid (Laid3.mk' w (inCells c 0 pv qv gv 0 0 n) (actCells kind key c') 38 53 38)
  change Code.wp _ _ _ _ (((w.alloc (.cells (inCells c 0 pv qv gv 0 0 n) 38)).alloc (.cells (actCells kind key c') 53)).alloc (.cells (stCells ⟨0, 0, 0, 0⟩ zeroCnt (.slice none 0 0)) 38))
  generalize ((w.alloc (.cells (inCells c 0 pv qv gv 0 0 n) 38)).alloc (.cells (actCells kind key c') 53)).alloc (.cells (stCells ⟨0, 0, 0, 0⟩ zeroCnt (.slice none 0 0)) 38) = w1 at LA ⊢
  generalize hN : w.heap.size = N at LA ⊢
  have a0 : w1.cell? ⟨N + 1, 0, none⟩ = some (.int .i64 kind) := (LA.out.act.cell 0).trans rfl
  have a1 : w1.cell? ⟨N + 1, 1, none⟩ = some (.int .u64 key) := (LA.out.act.cell 1).trans rfl
  have d5 : (kind == 5) = false := by simpa using h5
  have d4 : (kind == 4) = false := by simpa using h4
  have d2 : (kind == 2) = false := by simpa using h2
  have dl : decide (kind < 2) = false := decide_eq_false hkind
  have HE := Lib.hid ((fun w1 (hc : Calm w w1) => (HH.out.st.calm hc).admit key most hm hmost) w1 LA.out.calm)
  go_upto_region 14 with (go_at_call 20; refine HE.out.mono ?_; rintro e' w3 ⟨v3, rfl, hl3, hd3⟩; have L3 := Lib.hid hl3; have D3 := Lib.hid hd3; clear hl3 hd3)
  clear a1
  obtain ⟨hb3, ha3, hr3, hz3⟩ := LA.out.step D3.out.kept (fun k z => by have := hF k z; omega)
  have B3 := Lib.hid hb3
  have A3 := Lib.hid ha3
  have R3 := Lib.hid hr3
  have HS3 := Lib.hid hz3
  clear hb3 ha3 hr3 hz3
  have KW3 := Lib.hid ((LA.out.calm.mono (fun _ _ q => q.elim)).trans D3.out.kept)
  have a1 : w3.cell? ⟨N + 1, 1, none⟩ = some (.int .u64 key) := (A3.out.cell 1).trans rfl
  have HRG := Lib.hid (blk_range B3.out 0 20 (inCells c 0 pv qv gv 0 0 n).toList rfl)
  refine wp_region_lit ?_
  refine wpList_load_mid rfl 38 (.tmp 4) rfl N 0 rfl (inCells c 0 pv qv gv 0 0 n).toList _ HRG.out Try.underlying38 rfl sizeSt ?_
  have HDD := Lib.hid (HD.out w3 (HH.out.pages w3 KW3.out))
  iterate 6 go_step
  iterate 2 go_step
  go_at_call 47
  refine HDD.out.mono ?_
  rintro e' w2 ⟨v2, o2, rfl, hp2, ho2, hi2, hc2⟩
  dsimp only
  go_step
  have P2 := Lib.hid hp2
  have O2 := Lib.hid ho2
  have I2 := Lib.hid hi2
  have C2 := Lib.hid hc2
  have L2 := Lib.hid (L3.out.calm hc2)
  have H1 := Lib.hid (in_one (c := c) (n := adN most n ks key) (tgt := 0) (cold := 0) (tst := 0) hp2.one hq hg)
  clear hp2 ho2 hc2 hi2 a0 a1 HRG
  iterate 15 go_step
  refine wpList_plain rfl fun K hK => wp_store_new 38 (.tmp 18) (.tmp 115) rfl w2 (stCells ⟨0, 0, 0, 0⟩ zeroCnt (.slice none 0 0)) (inCells c 0 v2 qv gv 0 0 (adN most n ks key)) rfl rfl sizeSt rfl H1.out (hK _ _ ?_)
  clear hK K
  have G4 := Lib.hid (Blk.new w2 (inCells c 0 v2 qv gv 0 0 (adN most n ks key)) 38)
  have A4 := Lib.hid ((A3.out.calm C2.out).alloc (.cells (inCells c 0 v2 qv gv 0 0 (adN most n ks key)) 38))
  have R4 := Lib.hid ((R3.out.calm C2.out).alloc (.cells (inCells c 0 v2 qv gv 0 0 (adN most n ks key)) 38))
  have K4 : Hid (Calm w2 (w2.alloc (.cells (inCells c 0 v2 qv gv 0 0 (adN most n ks key)) 38))) := Lib.hid ((Kept.refl _ w2).alloc _)
  have HS2 := Lib.hid (Nat.le_trans HS3.out C2.out.size)
  go_upto_region 15 with fail
  generalize w2.alloc (.cells (inCells c 0 v2 qv gv 0 0 (adN most n ks key)) 38) = w4 at G4 A4 R4 K4 ⊢
  generalize hG : w2.heap.size = G at G4
  have HGR : Hid (G ≠ N + 1 + 1) := Lib.hid (by have := HS2.out; omega)
  have hheld : Stp G (N + 1) (N + 1 + 1) (inCells c 0 v2 qv gv 0 0 (adN most n ks key)) (actCells kind key c') w4 := ⟨G4.out, A4.out, _, R4.out, rfl⟩
  have HSA := Lib.hid (Keys.Same_calls w4.drew v3 o2 _ _ (L2.out.calm K4.out.drew).w (I2.out.calm K4.out.drew).w (by have := adl_len most ks key; have := HH.out.len; omega) (by have := adl_len most ks key; have := HH.out.len; omega))
  rw [decide_eq_true rfl] at HSA
  refine wp_region_noPanic ?_
  refine start_ (n := 11) (S := Stp G (N + 1) (N + 1 + 1) (inCells c 0 v2 qv gv 0 0 (adN most n ks key)) (actCells kind key c')) (ds := []) #[false, false, false, false, false, false, false, false, false, false, false] (by kernel_rfl) rfl rfl hheld.drew (fun hHeld => ?_)
  refine take_ (i := 0) (N := some 118) (v := .agg ((inCells c 0 v2 qv gv 0 0 (adN most n ks key)).toList).toArray) (a' := ?_) #[true, false, false, false, false, false, false, false, false, false, false] rfl rfl (by kernel_rfl) (fun _ _ _ h => h) (yieldsIf_load_mid (by rfl) 38 (.tmp 18) rfl G 0 rfl (inCells c 0 v2 qv gv 0 0 (adN most n ks key)).toList _ (fun w' hS => blk_range hS.box 0 20 _ rfl) Try.underlying38 rfl sizeSt) hHeld ?_ ?_
  rotate_left
  · simp only [Act.put, List.setIfInBounds_toArray, List.set_cons_zero, List.set_cons_succ]; rfl
  refine pure_ (i := 1) (N := some 119) (v := ?_) (a' := ?_) #[true, true, false, false, false, false, false, false, false, false, false] rfl rfl (by kernel_rfl) (fun _ _ _ h => h) (Or.inl ⟨by rfl, ?_⟩) ?_ ?_
  rotate_left
  · intro w'; go_simp; with_reducible rfl
  rotate_left
  · simp only [Act.put, List.setIfInBounds_toArray, List.set_cons_zero, List.set_cons_succ]; rfl
  refine pure_ (i := 2) (N := some 120) (v := ?_) (a' := ?_) #[true, true, true, false, false, false, false, false, false, false, false] rfl rfl (by kernel_rfl) (fun _ _ _ h => h) (Or.inl ⟨by rfl, ?_⟩) ?_ ?_
  rotate_left
  · intro w'; go_simp; with_reducible rfl
  rotate_left
  · simp only [Act.put, List.setIfInBounds_toArray, List.set_cons_zero, List.set_cons_succ]; rfl
  refine take_ (i := 3) (N := some 121) (v := ?_) (a' := ?_) #[true, true, true, true, false, false, false, false, false, false, false] rfl rfl (by kernel_rfl) (fun _ _ _ h => h) (Or.inl ⟨by rfl, ?_⟩) hHeld ?_ ?_
  rotate_left
  · intro w' hS; go_simp; with_reducible rfl
  rotate_left
  · simp only [Act.put, List.setIfInBounds_toArray, List.set_cons_zero, List.set_cons_succ]; rfl
  refine pure_ (i := 4) (N := some 122) (v := ?_) (a' := ?_) #[true, true, true, true, true, false, false, false, false, false, false] rfl rfl (by kernel_rfl) (fun _ _ _ h => h) (Or.inl ⟨by rfl, ?_⟩) ?_ ?_
  rotate_left
  · intro w'; go_simp; with_reducible rfl
  rotate_left
  · simp only [Act.put, List.setIfInBounds_toArray, List.set_cons_zero, List.set_cons_succ]; rfl
  refine pure_ (i := 5) (N := some 123) (v := ?_) (a' := ?_) #[true, true, true, true, true, true, false, false, false, false, false] rfl rfl (by kernel_rfl) (fun _ _ _ h => h) (Or.inl ⟨by rfl, ?_⟩) ?_ ?_
  rotate_left
  · intro w'; go_simp; with_reducible rfl
  rotate_left
  · simp only [Act.put, List.setIfInBounds_toArray, List.set_cons_zero, List.set_cons_succ]; rfl
  refine pure_ (i := 6) (N := some 124) (v := ?_) (a' := ?_) #[true, true, true, true, true, true, true, false, false, false, false] rfl rfl (by kernel_rfl) (fun _ _ _ h => h) (Or.inl ⟨by rfl, ?_⟩) ?_ ?_
  rotate_left
  · intro w'; go_simp; with_reducible rfl
  rotate_left
  · simp only [Act.put, List.setIfInBounds_toArray, List.set_cons_zero, List.set_cons_succ]; rfl
  refine one_ (i := 7) (N := some 125) #[true, true, true, true, true, true, true, true, false, false, false] rfl rfl (by kernel_rfl) (by decide) (fun K hK => ?_)
  rw [if_pos (by rfl)]
  go_simp
  go_at_call 12
  refine HSA.out.mono ?_
  rintro e' w5 ⟨rfl, n5, rfl⟩
  dsimp only
  refine hK.out _ _ (hHeld.calm ((Kept.refl _ _).drewN n5)) (fun hHeld => ?_)
  clear K hK
  have K5 : Hid (Calm w4 (w4.drew.drewN n5)) := Lib.hid ((Kept.refl _ w4).drew.drewN n5)
  generalize w4.drew.drewN n5 = w5 at hHeld K5 ⊢
  refine take_ (i := 8) (N := some 126) (v := ?_) (a' := ?_) #[true, true, true, true, true, true, true, true, true, false, false] rfl rfl (by kernel_rfl) (fun _ _ _ h => h) (Or.inl ⟨by rfl, ?_⟩) hHeld ?_ ?_
  rotate_left
  · intro w' hS; go_simp; with_reducible rfl
  rotate_left
  · rfl
  refine one_ (i := 9) (N := none) #[true, true, true, true, true, true, true, true, true, true, false] rfl rfl (by kernel_rfl) (by decide) (fun K hK => ?_)
  rw [if_pos (by rfl)]
  have BX := Lib.hid (hHeld.blkTo (inCells c 0 v2 qv gv 0 0 (adN most n ks key)) rfl)
  have KX := Lib.hid (setCells_kept (F := fun k => k = N + 1 + 1) (b := N + 1 + 1) (fun _ => rfl) (inCells c 0 v2 qv gv 0 0 (adN most n ks key)).toList 0 w5 (Kept.refl _ _))
  have hheld' := hHeld.to (inCells c 0 v2 qv gv 0 0 (adN most n ks key)) rfl HGR.out (by omega)
  refine wp_store_mid 38 (.tmp 6) (.tmp 118) rfl (N + 1 + 1) 0 (inCells c 0 v2 qv gv 0 0 (adN most n ks key)) rfl rfl (hHeld.there rfl) sizeSt H1.out ?_
  refine hK.out _ _ hheld' (fun hHeld => ?_)
  refine pure_ (i := 10) (N := some 7) (v := ?_) (a' := ?_) #[true, true, true, true, true, true, true, true, true, true, true] rfl rfl (by kernel_rfl) (fun _ _ _ h => h) (Or.inl ⟨by rfl, ?_⟩) ?_ ?_
  rotate_left
  · intro w'; go_simp; with_reducible rfl
  rotate_left
  · rfl
  refine done_ (by kernel_rfl) ?_
  clear K hK hheld'
  refine NoPanic.normal ?_
  generalize w5.setCells (N + 1 + 1) 0 (inCells c 0 v2 qv gv 0 0 (adN most n ks key)).toList = wx at BX KX hHeld ⊢
  go_wp2_with fail
  obtain ⟨tX, hX⟩ := BX.out
  refine bodyPost_ret (results_row_tmp rfl _ _ (N + 1 + 1) tX (inCells c 0 v2 qv gv 0 0 (adN most n ks key)) (0, 0) _ rfl hX Try.underlying38 rfl sizeSt) rfl ?_
  obtain ⟨F0, j, hF0, hst0, hlen⟩ := D3.out.st
  have hst := hst0.trim
  have hF' : ∀ q, (F0 q ∧ q < w3.heap.size) → F q ∨ w1.heap.size ≤ q := fun q z => hF0 q z.1
  have hs1 := LA.out.size
  have hs3 : w1.heap.size ≤ w3.heap.size := D3.out.kept.size
  have K35 := (C2.out.trans K4.out).trans K5.out
  have hs5 := K35.size
  have KW : Go.Proofs.Ytekbgpfpnjddgaa.Kept F w wx := (KW3.out.trans (K35.mono (fun _ _ q => q.elim))).step KX.out (fun k h1 h2 => absurd h1 (by omega))
  have hOF : (v2 = pv ∧ adk most ks key = ks) ∨ ∀ g, v2.ownBlock = some g → w.heap.size ≤ g ∧ ¬ (F0 g ∧ g < w3.heap.size) := O2.out.imp id (fun ho g z => by
    have := ho g z
    exact ⟨by omega, fun y => by have := y.2; omega⟩)
  refine ⟨_, rfl, c, adN most n ks key, adk most ks key, v2, _, j, adD ks key, rfl, ⟨(hst.calm K35).kept KX.out (fun k z q => ?_), HH.out.fits, ?_⟩, KW, fun q z => (hF' q z).imp id (fun y => by omega), adD_n1 most n ks key, hlen, hOF⟩
  · rcases hF' k z with y | y
    · have := hF k y; omega
    · omega
  · rcases O2.out with ⟨hv, e1⟩ | ho
    · intro wz hk
      rw [e1, hv]
      exact HH.out.pages wz (KW.step hk (fun i h1 h2 => (hF' i h2).resolve_right (by omega)))
    · intro wz hk
      have e1 := P2.out.calm (K4.out.trans K5.out)
      have e2 := e1.kept KX.out (fun g z y => by have := ho g z; omega)
      exact e2.kept hk (fun g z y => by
        have := ho g z
        have := y.2
        omega)
end Lru
end Go.Proofs.Ytekbgpfpnjddgaa
namespace Go.Proofs.Ytekbgpfpnjddgaa
open Go.RowKit Go.Proofs.YtekbgpfpnjddgaaW.PrintWords Go.Proofs.YtekbgpfpnjddgaaW.PrintLast Go.Proofs.YtekbgpfpnjddgaaW.PrintMore
open Go.Proofs.Ytekbgpfpnjddgaa.PLruLoads
namespace Lru
set_option maxRecDepth 100000 in
set_option maxHeartbeats 1000000 in
theorem Step_size {w : World} {e : Nat} {F : Nat → Prop} {c : Conf} {n : Cnt} {ks : List Int} {m : Int} {pv : Value} (h : Kin w e F c n ks m pv) {qv gv : Value} (hq : qv.oneCell' = true) (hg : gv.oneCell' = true) (c' : Conf) (key : Int) (hc : c'.fits = true) (most : Nat) (hm : c'.cap = (most : Int)) (hF : ∀ k, F k → k < w.heap.size) :
    Calls Try.prog 19 #[.pointer (some ⟨e, 0, none⟩), stIn c n pv qv gv, .agg (actCells 5 key c')] w fun e' w' => ∃ r, e' = .returned r ∧ Stepped w w' e F c n ks m pv qv gv r := by
  have HD := Lib.hid (fun w1 (hv : PagesAt w1 pv ks) => RefSize_calls (w := w1) c c' n pv qv gv ks hv h.len h.st.nd hq hg most hm)
  unfold Conf.agg at HD
  have HH := Lib.hid h
  unfold stIn at HD ⊢
  clear h
  go_enter Try.func19, Try.ntmps19
  go_upto_region 1 with fail
  have LA := Lib.hid (Laid3.mk' w (inCells c 0 pv qv gv 0 0 n) (actCells 5 key c') 38 53 38)
  change Code.wp _ _ _ _ (((w.alloc (.cells (inCells c 0 pv qv gv 0 0 n) 38)).alloc (.cells (actCells 5 key c') 53)).alloc (.cells (stCells ⟨0, 0, 0, 0⟩ zeroCnt (.slice none 0 0)) 38))
  generalize ((w.alloc (.cells (inCells c 0 pv qv gv 0 0 n) 38)).alloc (.cells (actCells 5 key c') 53)).alloc (.cells (stCells ⟨0, 0, 0, 0⟩ zeroCnt (.slice none 0 0)) 38) = w1 at LA ⊢
  generalize hN : w.heap.size = N at LA ⊢
  have a0 : w1.cell? ⟨N + 1, 0, none⟩ = some (.int .i64 5) := (LA.out.act.cell 0).trans rfl
  have a1 : w1.cell? ⟨N + 1, 1, none⟩ = some (.int .u64 key) := (LA.out.act.cell 1).trans rfl
  have HE := Lib.hid ((fun w1 (hcc : Calm w w1) => (HH.out.st.calm hcc).size hc most hm) w1 LA.out.calm)
  unfold Conf.agg at HE
  clear hm
  have a2 : w1.cell? ⟨N + 1, 2, none⟩ = some (.int .i64 c'.pol) := (LA.out.act.cell 2).trans rfl
  have a3 : w1.cell? ⟨N + 1, 3, none⟩ = some (.int .i64 c'.cap) := (LA.out.act.cell 3).trans rfl
  have a4 : w1.cell? ⟨N + 1, 4, none⟩ = some (.int .i64 c'.quota) := (LA.out.act.cell 4).trans rfl
  have a5 : w1.cell? ⟨N + 1, 5, none⟩ = some (.int .i64 c'.ghosts) := (LA.out.act.cell 5).trans rfl
  go_upto_region 3 with (go_at_call 21; refine HE.out.mono ?_; rintro e' wE ⟨v3, rfl, hlE, hdE⟩; have LE := Lib.hid hlE; have DE := Lib.hid hdE; clear hlE hdE)
  clear a0 a1 a2 a3 a4 a5
  obtain ⟨hb3, ha3, hr3, hz3⟩ := LA.out.step DE.out.kept (fun k z => by have := hF k z; omega)
  have BE := Lib.hid hb3
  have AE := Lib.hid ha3
  have RE := Lib.hid hr3
  have HSE := Lib.hid hz3
  clear hb3 ha3 hr3 hz3
  have a2 : wE.cell? ⟨N + 1, 2, none⟩ = some (.int .i64 c'.pol) := (AE.out.cell 2).trans rfl
  have a3 : wE.cell? ⟨N + 1, 3, none⟩ = some (.int .i64 c'.cap) := (AE.out.cell 3).trans rfl
  have a4 : wE.cell? ⟨N + 1, 4, none⟩ = some (.int .i64 c'.quota) := (AE.out.cell 4).trans rfl
  have a5 : wE.cell? ⟨N + 1, 5, none⟩ = some (.int .i64 c'.ghosts) := (AE.out.cell 5).trans rfl
  have HM := Lib.hid (may_calls c' wE)
  rw [hc] at HM
  unfold Conf.agg at HM
  go_upto_region 5 with (go_at_call 42; refine HM.out.mono ?_; rintro e' w3 ⟨rfl, hcE⟩; have CE := Lib.hid hcE; clear hcE)
  clear a2 a3 a4 a5
  have D3 := Lib.hid (DE.out.calm CE.out)
  have L3 := Lib.hid (LE.out.calm CE.out)
  have B3 := Lib.hid (BE.out.calm CE.out)
  have A3 := Lib.hid (AE.out.calm CE.out)
  have R3 := Lib.hid (RE.out.calm CE.out)
  have HS3 := Lib.hid (Nat.le_trans HSE.out CE.out.size)
  have KW3 := Lib.hid ((LA.out.calm.mono (fun _ _ q => q.elim)).trans D3.out.kept)
  have a2 : w3.cell? ⟨N + 1, 2, none⟩ = some (.int .i64 c'.pol) := (A3.out.cell 2).trans rfl
  have a3 : w3.cell? ⟨N + 1, 3, none⟩ = some (.int .i64 c'.cap) := (A3.out.cell 3).trans rfl
  have a4 : w3.cell? ⟨N + 1, 4, none⟩ = some (.int .i64 c'.quota) := (A3.out.cell 4).trans rfl
  have a5 : w3.cell? ⟨N + 1, 5, none⟩ = some (.int .i64 c'.ghosts) := (A3.out.cell 5).trans rfl
  have HRG := Lib.hid (blk_range B3.out 0 20 (inCells c 0 pv qv gv 0 0 n).toList rfl)
  refine wp_region_lit ?_
  refine wpList_load_mid rfl 38 (.tmp 4) rfl N 0 rfl (inCells c 0 pv qv gv 0 0 n).toList _ HRG.out Try.underlying38 rfl sizeSt ?_
  have HDD := Lib.hid (HD.out w3 (HH.out.pages w3 KW3.out))
  iterate 6 go_step
  iterate 2 go_step
  go_at_call 43
  refine HDD.out.mono ?_
  rintro e' w2 ⟨v2, o2, rfl, hp2, ho2, hi2, hc2⟩
  dsimp only
  go_step
  have P2 := Lib.hid hp2
  have O2 := Lib.hid ho2
  have I2 := Lib.hid hi2
  have C2 := Lib.hid hc2
  have L2 := Lib.hid (L3.out.calm hc2)
  have H1 := Lib.hid (in_one (c := c') (n := evicts (ks.length - most) n) (tgt := 0) (cold := 0) (tst := 0) hp2.one hq hg)
  clear hp2 ho2 hc2 hi2 a2 a3 a4 a5 HRG
  iterate 12 go_step
  refine wpList_plain rfl fun K hK => wp_store_new 38 (.tmp 10) (.tmp 48) rfl w2 (stCells ⟨0, 0, 0, 0⟩ zeroCnt (.slice none 0 0)) (inCells c' 0 v2 qv gv 0 0 (evicts (ks.length - most) n)) rfl rfl sizeSt rfl H1.out (hK _ _ ?_)
  clear hK K
  have G4 := Lib.hid (Blk.new w2 (inCells c' 0 v2 qv gv 0 0 (evicts (ks.length - most) n)) 38)
  have A4 := Lib.hid ((A3.out.calm C2.out).alloc (.cells (inCells c' 0 v2 qv gv 0 0 (evicts (ks.length - most) n)) 38))
  have R4 := Lib.hid ((R3.out.calm C2.out).alloc (.cells (inCells c' 0 v2 qv gv 0 0 (evicts (ks.length - most) n)) 38))
  have K4 : Hid (Calm w2 (w2.alloc (.cells (inCells c' 0 v2 qv gv 0 0 (evicts (ks.length - most) n)) 38))) := Lib.hid ((Kept.refl _ w2).alloc _)
  have HS2 := Lib.hid (Nat.le_trans HS3.out C2.out.size)
  go_upto_region 6 with fail
  generalize w2.alloc (.cells (inCells c' 0 v2 qv gv 0 0 (evicts (ks.length - most) n)) 38) = w4 at G4 A4 R4 K4 ⊢
  generalize hG : w2.heap.size = G at G4
  have HGR : Hid (G ≠ N + 1 + 1) := Lib.hid (by have := HS2.out; omega)
  have hheld : Stp G (N + 1) (N + 1 + 1) (inCells c' 0 v2 qv gv 0 0 (evicts (ks.length - most) n)) (actCells 5 key c') w4 := ⟨G4.out, A4.out, _, R4.out, rfl⟩
  have HSA := Lib.hid (Keys.Same_calls w4.drew v3 o2 _ _ (L2.out.calm K4.out.drew).w (I2.out.calm K4.out.drew).w (by rw [List.length_reverse, List.length_drop]; have := HH.out.len; omega) (by rw [List.length_reverse, List.length_drop]; have := HH.out.len; omega))
  rw [decide_eq_true rfl] at HSA
  refine wp_region_noPanic ?_
  refine start_ (n := 10) (S := Stp G (N + 1) (N + 1 + 1) (inCells c' 0 v2 qv gv 0 0 (evicts (ks.length - most) n)) (actCells 5 key c')) (ds := []) #[false, false, false, false, false, false, false, false, false, false] (by kernel_rfl) rfl rfl hheld.drew (fun hHeld => ?_)
  refine take_ (i := 0) (N := some 50) (v := .agg ((inCells c' 0 v2 qv gv 0 0 (evicts (ks.length - most) n)).toList).toArray) (a' := ?_) #[true, false, false, false, false, false, false, false, false, false] rfl rfl (by kernel_rfl) (fun _ _ _ h => h) (yieldsIf_load_mid (by rfl) 38 (.tmp 10) rfl G 0 rfl (inCells c' 0 v2 qv gv 0 0 (evicts (ks.length - most) n)).toList _ (fun w' hS => blk_range hS.box 0 20 _ rfl) Try.underlying38 rfl sizeSt) hHeld ?_ ?_
  rotate_left
  · simp only [Act.put, List.setIfInBounds_toArray, List.set_cons_zero, List.set_cons_succ]; rfl
  refine pure_ (i := 1) (N := some 51) (v := ?_) (a' := ?_) #[true, true, false, false, false, false, false, false, false, false] rfl rfl (by kernel_rfl) (fun _ _ _ h => h) (Or.inl ⟨by rfl, ?_⟩) ?_ ?_
  rotate_left
  · intro w'; go_simp; with_reducible rfl
  rotate_left
  · simp only [Act.put, List.setIfInBounds_toArray, List.set_cons_zero, List.set_cons_succ]; rfl
  refine take_ (i := 2) (N := some 52) (v := ?_) (a' := ?_) #[true, true, true, false, false, false, false, false, false, false] rfl rfl (by kernel_rfl) (fun _ _ _ h => h) (Or.inl ⟨by rfl, ?_⟩) hHeld ?_ ?_
  rotate_left
  · intro w' hS; go_simp; with_reducible rfl
  rotate_left
  · simp only [Act.put, List.setIfInBounds_toArray, List.set_cons_zero, List.set_cons_succ]; rfl
  refine pure_ (i := 3) (N := some 53) (v := ?_) (a' := ?_) #[true, true, true, true, false, false, false, false, false, false] rfl rfl (by kernel_rfl) (fun _ _ _ h => h) (Or.inl ⟨by rfl, ?_⟩) ?_ ?_
  rotate_left
  · intro w'; go_simp; with_reducible rfl
  rotate_left
  · simp only [Act.put, List.setIfInBounds_toArray, List.set_cons_zero, List.set_cons_succ]; rfl
  refine pure_ (i := 4) (N := some 54) (v := ?_) (a' := ?_) #[true, true, true, true, true, false, false, false, false, false] rfl rfl (by kernel_rfl) (fun _ _ _ h => h) (Or.inl ⟨by rfl, ?_⟩) ?_ ?_
  rotate_left
  · intro w'; go_simp; with_reducible rfl
  rotate_left
  · simp only [Act.put, List.setIfInBounds_toArray, List.set_cons_zero, List.set_cons_succ]; rfl
  refine pure_ (i := 5) (N := some 55) (v := ?_) (a' := ?_) #[true, true, true, true, true, true, false, false, false, false] rfl rfl (by kernel_rfl) (fun _ _ _ h => h) (Or.inl ⟨by rfl, ?_⟩) ?_ ?_
  rotate_left
  · intro w'; go_simp; with_reducible rfl
  rotate_left
  · simp only [Act.put, List.setIfInBounds_toArray, List.set_cons_zero, List.set_cons_succ]; rfl
  refine one_ (i := 6) (N := some 56) #[true, true, true, true, true, true, true, false, false, false] rfl rfl (by kernel_rfl) (by decide) (fun K hK => ?_)
  rw [if_pos (by rfl)]
  go_simp
  go_at_call 12
  refine HSA.out.mono ?_
  rintro e' w5 ⟨rfl, n5, rfl⟩
  dsimp only
  refine hK.out _ _ (hHeld.calm ((Kept.refl _ _).drewN n5)) (fun hHeld => ?_)
  clear K hK
  have K5 : Hid (Calm w4 (w4.drew.drewN n5)) := Lib.hid ((Kept.refl _ w4).drew.drewN n5)
  generalize w4.drew.drewN n5 = w5 at hHeld K5 ⊢
  refine take_ (i := 7) (N := some 57) (v := ?_) (a' := ?_) #[true, true, true, true, true, true, true, true, false, false] rfl rfl (by kernel_rfl) (fun _ _ _ h => h) (Or.inl ⟨by rfl, ?_⟩) hHeld ?_ ?_
  rotate_left
  · intro w' hS; go_simp; with_reducible rfl
  rotate_left
  · rfl
  refine one_ (i := 8) (N := none) #[true, true, true, true, true, true, true, true, true, false] rfl rfl (by kernel_rfl) (by decide) (fun K hK => ?_)
  rw [if_pos (by rfl)]
  have BX := Lib.hid (hHeld.blkTo (inCells c' 0 v2 qv gv 0 0 (evicts (ks.length - most) n)) rfl)
  have KX := Lib.hid (setCells_kept (F := fun k => k = N + 1 + 1) (b := N + 1 + 1) (fun _ => rfl) (inCells c' 0 v2 qv gv 0 0 (evicts (ks.length - most) n)).toList 0 w5 (Kept.refl _ _))
  have hheld' := hHeld.to (inCells c' 0 v2 qv gv 0 0 (evicts (ks.length - most) n)) rfl HGR.out (by omega)
  refine wp_store_mid 38 (.tmp 6) (.tmp 50) rfl (N + 1 + 1) 0 (inCells c' 0 v2 qv gv 0 0 (evicts (ks.length - most) n)) rfl rfl (hHeld.there rfl) sizeSt H1.out ?_
  refine hK.out _ _ hheld' (fun hHeld => ?_)
  refine pure_ (i := 9) (N := some 7) (v := ?_) (a' := ?_) #[true, true, true, true, true, true, true, true, true, true] rfl rfl (by kernel_rfl) (fun _ _ _ h => h) (Or.inl ⟨by rfl, ?_⟩) ?_ ?_
  rotate_left
  · intro w'; go_simp; with_reducible rfl
  rotate_left
  · rfl
  refine done_ (by kernel_rfl) ?_
  clear K hK hheld'
  refine NoPanic.normal ?_
  generalize w5.setCells (N + 1 + 1) 0 (inCells c' 0 v2 qv gv 0 0 (evicts (ks.length - most) n)).toList = wx at BX KX hHeld ⊢
  go_wp2_with fail
  obtain ⟨tX, hX⟩ := BX.out
  refine bodyPost_ret (results_row_tmp rfl _ _ (N + 1 + 1) tX (inCells c' 0 v2 qv gv 0 0 (evicts (ks.length - most) n)) (0, 0) _ rfl hX Try.underlying38 rfl sizeSt) rfl ?_
  obtain ⟨F0, j, hF0, hst0, hlen⟩ := D3.out.st
  have hst := hst0.trim
  have hF' : ∀ q, (F0 q ∧ q < w3.heap.size) → F q ∨ w1.heap.size ≤ q := fun q z => hF0 q z.1
  have hs1 := LA.out.size
  have hs3 : w1.heap.size ≤ w3.heap.size := D3.out.kept.size
  have K35 := (C2.out.trans K4.out).trans K5.out
  have hs5 := K35.size
  have KW : Go.Proofs.Ytekbgpfpnjddgaa.Kept F w wx := (KW3.out.trans (K35.mono (fun _ _ q => q.elim))).step KX.out (fun k h1 h2 => absurd h1 (by omega))
  have hOF : (v2 = pv ∧ ks.take most = ks) ∨ ∀ g, v2.ownBlock = some g → w.heap.size ≤ g ∧ ¬ (F0 g ∧ g < w3.heap.size) := O2.out.imp id (fun ho g z => by
    have := ho g z
    exact ⟨by omega, fun y => by have := y.2; omega⟩)
  refine ⟨_, rfl, c', evicts (ks.length - most) n, ks.take most, v2, _, j, 0, rfl, ⟨(hst.calm K35).kept KX.out (fun k z q => ?_), hc, ?_⟩, KW, fun q z => (hF' q z).imp id (fun y => by omega), .inl ⟨rfl, evicts_n1 ..⟩, hlen, hOF⟩
  · rcases hF' k z with y | y
    · have := hF k y; omega
    · omega
  · rcases O2.out with ⟨hv, e1⟩ | ho
    · intro wz hk
      rw [e1, hv]
      exact HH.out.pages wz (KW.step hk (fun i h1 h2 => (hF' i h2).resolve_right (by omega)))
    · intro wz hk
      have e1 := P2.out.calm (K4.out.trans K5.out)
      have e2 := e1.kept KX.out (fun g z y => by have := ho g z; omega)
      exact e2.kept hk (fun g z y => by
        have := ho g z
        have := y.2
        omega)
set_option maxRecDepth 100000 in
set_option maxHeartbeats 1000000 in
theorem Step_bad {w : World} {e : Nat} {F : Nat → Prop} {c : Conf} {n : Cnt} {ks : List Int} {m : Int} {pv : Value} (h : Kin w e F c n ks m pv) {qv gv : Value} (hq : qv.oneCell' = true) (hg : gv.oneCell' = true) (c' : Conf) (key : Int) (hc : c'.fits = false) :
    Calls Try.prog 19 #[.pointer (some ⟨e, 0, none⟩), stIn c n pv qv gv, .agg (actCells 5 key c')] w fun e' w' => ∃ r, e' = .returned r ∧ Stepped w w' e F c n ks m pv qv gv r := by
  have HH := Lib.hid h
  have H1 := Lib.hid (in_one (c := c) (n := n) (tgt := 0) (cold := 0) (tst := 0) h.at.one hq hg)
  unfold stIn
  clear h
  go_enter Try.func19, Try.ntmps19
  go_upto_region 1 with fail
  have LA := Lib.hid (Laid3.mk' w (inCells c 0 pv qv gv 0 0 n) (actCells 5 key c') 38 53 38)
  change Code.wp _ _ _ _ (((w.alloc (.cells (inCells c 0 pv qv gv 0 0 n) 38)).alloc (.cells (actCells 5 key c') 53)).alloc (.cells (stCells ⟨0, 0, 0, 0⟩ zeroCnt (.slice none 0 0)) 38))
  generalize ((w.alloc (.cells (inCells c 0 pv qv gv 0 0 n) 38)).alloc (.cells (actCells 5 key c') 53)).alloc (.cells (stCells ⟨0, 0, 0, 0⟩ zeroCnt (.slice none 0 0)) 38) = w1 at LA ⊢
  generalize hN : w.heap.size = N at LA ⊢
  have a0 : w1.cell? ⟨N + 1, 0, none⟩ = some (.int .i64 5) := (LA.out.act.cell 0).trans rfl
  have a1 : w1.cell? ⟨N + 1, 1, none⟩ = some (.int .u64 key) := (LA.out.act.cell 1).trans rfl
  have a2 : w1.cell? ⟨N + 1, 2, none⟩ = some (.int .i64 c'.pol) := (LA.out.act.cell 2).trans rfl
  have a3 : w1.cell? ⟨N + 1, 3, none⟩ = some (.int .i64 c'.cap) := (LA.out.act.cell 3).trans rfl
  have a4 : w1.cell? ⟨N + 1, 4, none⟩ = some (.int .i64 c'.quota) := (LA.out.act.cell 4).trans rfl
  have a5 : w1.cell? ⟨N + 1, 5, none⟩ = some (.int .i64 c'.ghosts) := (LA.out.act.cell 5).trans rfl
  have HE := Lib.hid (Resize_bad (w := w1) hc e)
  unfold Conf.agg at HE
  go_upto_region 3 with (go_at_call 21; refine HE.out.mono ?_; rintro e' wE ⟨rfl, hcE⟩; have CE := Lib.hid hcE; clear hcE)
  clear a0 a1 a2 a3 a4 a5
  have LE := Lib.hid (LA.out.calm' CE.out)
  have a2 : wE.cell? ⟨N + 1, 2, none⟩ = some (.int .i64 c'.pol) := (LE.out.act.cell 2).trans rfl
  have a3 : wE.cell? ⟨N + 1, 3, none⟩ = some (.int .i64 c'.cap) := (LE.out.act.cell 3).trans rfl
  have a4 : wE.cell? ⟨N + 1, 4, none⟩ = some (.int .i64 c'.quota) := (LE.out.act.cell 4).trans rfl
  have a5 : wE.cell? ⟨N + 1, 5, none⟩ = some (.int .i64 c'.ghosts) := (LE.out.act.cell 5).trans rfl
  have HM := Lib.hid (may_calls c' wE)
  rw [hc] at HM
  unfold Conf.agg at HM
  go_upto_region 4 with (go_at_call 42; refine HM.out.mono ?_; rintro e' w3 ⟨rfl, hcE⟩; have CF := Lib.hid hcE; clear hcE)
  clear a2 a3 a4 a5
  have L3 := Lib.hid (LE.out.calm' CF.out)
  have HRG := Lib.hid (blk_range L3.out.box 0 20 (inCells c 0 pv qv gv 0 0 n).toList rfl)
  refine wp_region_lit ?_
  refine wpList_load_mid rfl 38 (.tmp 4) rfl N 0 rfl (inCells c 0 pv qv gv 0 0 n).toList _ HRG.out Try.underlying38 rfl sizeSt ?_
  iterate 18 go_step
  have HTH := Lib.hid (there_of L3.out.res (inCells c 0 pv qv gv 0 0 n).size rfl)
  refine wpList_store_mid rfl 38 (.tmp 6) (.tmp 35) rfl (N + 1 + 1) 0 (inCells c 0 pv qv gv 0 0 n) rfl rfl HTH.out sizeSt H1.out ?_
  have BX := Lib.hid (setCells_blk L3.out.res (inCells c 0 pv qv gv 0 0 n) rfl)
  have KX := Lib.hid (setCells_kept (F := fun k => k = N + 1 + 1) (b := N + 1 + 1) (fun _ => rfl) (inCells c 0 pv qv gv 0 0 n).toList 0 w3 (Kept.refl _ _))
  generalize w3.setCells (N + 1 + 1) 0 (inCells c 0 pv qv gv 0 0 n).toList = wx at BX KX ⊢
  go_wp2_with fail
  obtain ⟨tX, hX⟩ := BX.out
  refine bodyPost_ret (results_row_tmp rfl _ _ (N + 1 + 1) tX (inCells c 0 pv qv gv 0 0 n) (0, 0) _ rfl hX Try.underlying38 rfl sizeSt) rfl ?_
  have CX : Calm w wx := L3.out.calm.step KX.out (fun k h1 h2 => by have := LA.out.base; omega)
  refine ⟨_, rfl, c, n, ks, pv, F, 0, 0, rfl, ?_, CX.mono (fun _ _ q => q.elim), fun q z => .inl z, .inl ⟨rfl, rfl⟩, by omega, .inl ⟨rfl, rfl⟩⟩
  rw [HH.out.st.wrap0]
  exact HH.out.calm CX
theorem Step_calls {w : World} {e : Nat} {F : Nat → Prop} {c : Conf} {n : Cnt} {ks : List Int} {m : Int} {pv : Value} (h : Kin w e F c n ks m pv) {qv gv : Value} (hq : qv.oneCell' = true) (hg : gv.oneCell' = true) (kind key : Int) (c' : Conf) :
    Calls Try.prog 19 #[.pointer (some ⟨e, 0, none⟩), stIn c n pv qv gv, .agg (actCells kind key c')] w fun e' w' => ∃ r, e' = .returned r ∧ Stepped w w' e F c n ks m pv qv gv r := by
  have h' := h.trim
  have hF : ∀ k, (F k ∧ k < w.heap.size) → k < w.heap.size := fun k z => z.2
  have go : ∀ {e' : Ending} {w' : World}, (∃ r, e' = .returned r ∧ Stepped w w' e (fun k => F k ∧ k < w.heap.size) c n ks m pv qv gv r) → ∃ r, e' = .returned r ∧ Stepped w w' e F c n ks m pv qv gv r := by
    rintro e' w' ⟨r, h1, h2⟩
    exact ⟨r, h1, h2.mono (fun _ z => z.1)⟩
  by_cases h5 : kind = 5
  · subst h5
    by_cases hc : c'.fits = true
    · have h0 : 0 ≤ c'.cap := by unfold Conf.fits at hc; rw [decide_eq_true_eq] at hc; omega
      exact (Step_size h' hq hg c' key hc c'.cap.toNat (by omega) hF).mono (fun _ _ => go)
    · exact (Step_bad h' hq hg c' key (Bool.eq_false_iff.2 hc)).mono (fun _ _ => go)
  by_cases h4 : kind = 4
  · subst h4
    exact (Step_drop h' hq hg c' key hF).mono (fun _ _ => go)
  by_cases h2 : kind = 2
  · subst h2
    exact (Step_touch h' hq hg c' key hF).mono (fun _ _ => go)
  obtain ⟨most, hm, hmost⟩ := fits_most h.fits
  by_cases hk : kind < 2
  · by_cases hin : key ∈ ks
    · exact (Step_keep h' hq hg c' key kind hk hin hF).mono (fun _ _ => go)
    · exact (Step_fresh h' hq hg c' key kind most hm hmost hk hin hF).mono (fun _ _ => go)
  · exact (Step_admit h' hq hg c' key kind most hm hmost hk h2 h4 h5 hF).mono (fun _ _ => go)
end Lru
end Go.Proofs.Ytekbgpfpnjddgaa
