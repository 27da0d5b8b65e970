/- A table of slots by itself: keys stand at their own slot, or behind; what finding, putting and clearing do. Rows of slots as the memory has them; mask, find. Rows of slots: put, clear. Rows of slots: clear. The table of two rows of slots: what the memory has; fresh, New, Len, Moves. -/
import Derived.Test.YtekbgpfpnjddgaaMem
import Derived.Test.YtekbgpfpnjddgaaMix
import Derived.StillTailTactics
import Derived.Deep.DeepCutAuto
import Derived.Deep.CutBlock
import Derived.KernelRfl
namespace Go.Proofs.Ytekbgpfpnjddgaa
namespace Look

abbrev Row := List (Option (Int × Int))
def slot (r : Row) (p : Nat) : Option (Int × Int) := r.getD p none
def taken (r : Row) (p : Nat) : Prop := ∃ x, slot r p = some x
def many : Row → Nat
  | [] => 0
  | some _ :: r => many r + 1
  | none :: r => many r
def nx (n p : Nat) : Nat := if p + 1 = n then 0 else p + 1
def dist (n a b : Nat) : Nat := if a ≤ b then b - a else b + n - a

theorem slot_lt {r : Row} {p : Nat} {x : Int × Int} (h : slot r p = some x) : p < r.length := by
  unfold slot at h
  by_cases c : p < r.length
  · exact c
  · rw [List.getD_eq_getElem?_getD, List.getElem?_eq_none (by omega)] at h
    cases h
theorem slot_get {r : Row} {p : Nat} (h : p < r.length) : r[p] = slot r p := by
  unfold slot
  rw [List.getD_eq_getElem?_getD, List.getElem?_eq_getElem h]
  rfl
theorem slot_set {r : Row} {i : Nat} (h : i < r.length) (x : Option (Int × Int)) (p : Nat) : slot (r.set i x) p = if p = i then x else slot r p := by
  unfold slot
  rw [List.getD_eq_getElem?_getD, List.getD_eq_getElem?_getD, List.getElem?_set]
  by_cases c : i = p
  · subst c
    rw [if_pos rfl, if_pos h, if_pos rfl]
    rfl
  · rw [if_neg c, if_neg (fun e => c e.symm)]
theorem many_le : ∀ r : Row, many r ≤ r.length
  | [] => Nat.le_refl _
  | some _ :: r => by have := many_le r; simp only [many, List.length_cons]; omega
  | none :: r => by have := many_le r; simp only [many, List.length_cons]; omega
theorem many_free : ∀ r : Row, many r < r.length → ∃ f, f < r.length ∧ slot r f = none
  | [], h => by simp [many] at h
  | some _ :: r, h => by
    simp only [many, List.length_cons] at h
    obtain ⟨f, hf, e⟩ := many_free r (by omega)
    exact ⟨f + 1, by simp; omega, by simpa [slot] using e⟩
  | none :: r, _ => ⟨0, by simp, by simp [slot]⟩
theorem many_taken : ∀ r : Row, 0 < many r → ∃ p, taken r p
  | [], h => by simp [many] at h
  | some x :: r, _ => ⟨0, x, by simp [slot]⟩
  | none :: r, h => by
    obtain ⟨p, x, e⟩ := many_taken r (by simpa [many] using h)
    exact ⟨p + 1, x, by simpa [slot] using e⟩
theorem many_put : ∀ (r : Row) (i : Nat) (x : Int × Int), i < r.length → slot r i = none → many (r.set i (some x)) = many r + 1
  | [], i, x, h, _ => by simp at h
  | some y :: r, 0, x, _, e => by simp [slot] at e
  | none :: r, 0, x, _, _ => by simp [many]
  | some y :: r, i + 1, x, h, e => by
    have := many_put r i x (by simpa using h) (by simpa [slot] using e)
    simp only [List.set_cons_succ, many]
    omega
  | none :: r, i + 1, x, h, e => by
    have := many_put r i x (by simpa using h) (by simpa [slot] using e)
    simp only [List.set_cons_succ, many]
    omega
theorem many_over : ∀ (r : Row) (i : Nat) (x y : Int × Int), slot r i = some y → many (r.set i (some x)) = many r
  | [], i, x, y, e => by simp [slot] at e
  | some z :: r, 0, x, y, _ => by simp [many]
  | none :: r, 0, x, y, e => by simp [slot] at e
  | some z :: r, i + 1, x, y, e => by
    have := many_over r i x y (by simpa [slot] using e)
    simp only [List.set_cons_succ, many]
    omega
  | none :: r, i + 1, x, y, e => by
    have := many_over r i x y (by simpa [slot] using e)
    simp only [List.set_cons_succ, many]
    omega
theorem many_none : ∀ (r : Row) (i : Nat) (y : Int × Int), slot r i = some y → many (r.set i none) + 1 = many r
  | [], i, y, e => by simp [slot] at e
  | some z :: r, 0, y, _ => by simp [many]
  | none :: r, 0, y, e => by simp [slot] at e
  | some z :: r, i + 1, y, e => by
    have := many_none r i y (by simpa [slot] using e)
    simp only [List.set_cons_succ, many]
    omega
  | none :: r, i + 1, y, e => by
    have := many_none r i y (by simpa [slot] using e)
    simp only [List.set_cons_succ, many]
    omega
theorem many_replicate (n : Nat) : many (List.replicate n none) = 0 := by
  induction n with
  | zero => rfl
  | succ n ih => simp only [List.replicate_succ, many, ih]

/-- Who is in a row. -/
def In (r : Row) (x : Int × Int) : Prop := ∃ p, slot r p = some x
structure Well (h : Int → Nat) (r : Row) : Prop where
  home : ∀ k, h k < r.length
  once : ∀ i j k v v', slot r i = some (k, v) → slot r j = some (k, v') → i = j
  path : ∀ j k v, slot r j = some (k, v) → ∀ p, p < r.length → dist r.length (h k) p < dist r.length (h k) j → taken r p

theorem nx_lt {n p : Nat} (h : p < n) : nx n p < n := by unfold nx; split <;> omega
theorem dist_lt {n a b : Nat} (ha : a < n) (hb : b < n) : dist n a b < n := by unfold dist; split <;> omega
theorem dist_self (n a : Nat) : dist n a a = 0 := by unfold dist; simp
theorem dist_nx {n a b : Nat} (ha : a < n) (hb : b < n) (hne : a ≠ b) : dist n (nx n a) b + 1 = dist n a b := by
  unfold dist nx
  repeat' split
  all_goals omega
theorem dist_to_nx {n a p q : Nat} (ha : a < n) (hp : p < n) (_ : q < n) (h : dist n a p < dist n a (nx n q)) : dist n a p ≤ dist n a q := by
  unfold dist nx at *
  revert h
  repeat' split
  all_goals (intro h; omega)
theorem dist_eq {n a p q : Nat} (ha : a < n) (hp : p < n) (hq : q < n) (h : dist n a p = dist n a q) : p = q := by
  unfold dist at h
  revert h
  repeat' split
  all_goals (intro h; omega)

/-- What a search knows at slot i. -/
structure Seek (h : Int → Nat) (r : Row) (key : Int) (i : Nat) : Prop where
  lt : i < r.length
  past : ∀ p, p < r.length → dist r.length (h key) p < dist r.length (h key) i → ∃ k v, slot r p = some (k, v) ∧ k ≠ key
theorem Seek.start {h : Int → Nat} {r : Row} (hw : Well h r) (key : Int) : Seek h r key (h key) :=
  ⟨hw.home key, fun p _ hd => by rw [dist_self] at hd; omega⟩
theorem Seek.next {h : Int → Nat} {r : Row} (hw : Well h r) {key : Int} {i : Nat} (hs : Seek h r key i) {k v : Int} (e : slot r i = some (k, v)) (hk : k ≠ key) : Seek h r key (nx r.length i) := by
  refine ⟨nx_lt hs.lt, fun p hp hd => ?_⟩
  have hle := dist_to_nx (hw.home key) hp hs.lt hd
  by_cases c : p = i
  · subst c
    exact ⟨k, v, e, hk⟩
  · refine hs.past p hp ?_
    have : dist r.length (h key) p ≠ dist r.length (h key) i := fun q => c (dist_eq (hw.home key) hp hs.lt q)
    omega
theorem Seek.absent {h : Int → Nat} {r : Row} (hw : Well h r) {key : Int} {i : Nat} (hs : Seek h r key i) (e : slot r i = none) (v : Int) : ¬ In r (key, v) := by
  rintro ⟨j, hj⟩
  have hjl := slot_lt hj
  by_cases c : dist r.length (h key) j < dist r.length (h key) i
  · obtain ⟨k, v', e', hk⟩ := hs.past j hjl c
    rw [hj] at e'
    exact hk (by injection e' with e'; injection e' with e1 e2; exact e1.symm)
  · by_cases c2 : i = j
    · subst c2
      rw [hj] at e
      cases e
    · have : dist r.length (h key) i ≠ dist r.length (h key) j := fun q => c2 (dist_eq (hw.home key) hs.lt hjl q)
      obtain ⟨x, hx⟩ := hw.path j key v hj i hs.lt (by omega)
      rw [e] at hx
      cases hx
/-- Put at a free slot that a search ended at. -/
theorem Well.put {h : Int → Nat} {r : Row} (hw : Well h r) {key : Int} {i : Nat} (hs : Seek h r key i) (e : slot r i = none) (v : Int) : Well h (r.set i (some (key, v))) := by
  have ha := hs.absent hw e
  have hl := hs.lt
  refine ⟨fun k => by rw [List.length_set]; exact hw.home k, ?_, ?_⟩
  · intro a b k u u' h1 h2
    rw [slot_set hl] at h1 h2
    by_cases ca : a = i
    · by_cases cb : b = i
      · rw [ca, cb]
      · rw [if_pos ca] at h1
        rw [if_neg cb] at h2
        injection h1 with h1
        injection h1 with h1 _
        subst h1
        exact absurd ⟨b, h2⟩ (ha u')
    · by_cases cb : b = i
      · rw [if_neg ca] at h1
        rw [if_pos cb] at h2
        injection h2 with h2
        injection h2 with h2 _
        subst h2
        exact absurd ⟨a, h1⟩ (ha u)
      · rw [if_neg ca] at h1
        rw [if_neg cb] at h2
        exact hw.once a b k u u' h1 h2
  · intro j k u hj p hp hd
    rw [List.length_set] at hp hd
    rw [slot_set hl] at hj
    unfold taken
    rw [slot_set hl]
    by_cases cp : p = i
    · rw [if_pos cp]; exact ⟨_, rfl⟩
    · rw [if_neg cp]
      by_cases cj : j = i
      · rw [if_pos cj] at hj
        injection hj with hj
        injection hj with hj _
        subst hj cj
        obtain ⟨k', v', e', _⟩ := hs.past p hp hd
        exact ⟨_, e'⟩
      · rw [if_neg cj] at hj
        exact hw.path j k u hj p hp hd
theorem In.put {r : Row} {i : Nat} (hl : i < r.length) (e : slot r i = none) (y x : Int × Int) : In (r.set i (some y)) x ↔ x = y ∨ In r x := by
  constructor
  · rintro ⟨p, hp⟩
    rw [slot_set hl] at hp
    by_cases c : p = i
    · rw [if_pos c] at hp
      injection hp with hp
      exact .inl hp.symm
    · rw [if_neg c] at hp
      exact .inr ⟨p, hp⟩
  · rintro (rfl | ⟨p, hp⟩)
    · exact ⟨i, by rw [slot_set hl, if_pos rfl]⟩
    · refine ⟨p, ?_⟩
      rw [slot_set hl, if_neg (fun c => by subst c; rw [e] at hp; cases hp), hp]
/-- The same key with another node. -/
theorem Well.over {h : Int → Nat} {r : Row} (hw : Well h r) {key u : Int} {i : Nat} (e : slot r i = some (key, u)) (v : Int) : Well h (r.set i (some (key, v))) := by
  have hl := slot_lt e
  have hk : ∀ j k w, slot (r.set i (some (key, v))) j = some (k, w) → ∃ w', slot r j = some (k, w') := by
    intro j k w hj
    rw [slot_set hl] at hj
    by_cases c : j = i
    · rw [if_pos c] at hj
      injection hj with hj
      injection hj with hj _
      subst hj c
      exact ⟨u, e⟩
    · rw [if_neg c] at hj
      exact ⟨w, hj⟩
  refine ⟨fun k => by rw [List.length_set]; exact hw.home k, ?_, ?_⟩
  · intro a b k w w' h1 h2
    obtain ⟨_, g1⟩ := hk a k w h1
    obtain ⟨_, g2⟩ := hk b k w' h2
    exact hw.once a b k _ _ g1 g2
  · intro j k w hj p hp hd
    obtain ⟨_, g⟩ := hk j k w hj
    rw [List.length_set] at hp hd
    obtain ⟨x, hx⟩ := hw.path j k _ g p hp hd
    unfold taken
    rw [slot_set hl]
    by_cases c : p = i
    · rw [if_pos c]; exact ⟨_, rfl⟩
    · rw [if_neg c]; exact ⟨x, hx⟩
theorem In.over {h : Int → Nat} {r : Row} (hw : Well h r) {key u : Int} {i : Nat} (e : slot r i = some (key, u)) (v : Int) (x : Int × Int) : In (r.set i (some (key, v))) x ↔ x = (key, v) ∨ (In r x ∧ x.1 ≠ key) := by
  have hl := slot_lt e
  constructor
  · rintro ⟨p, hp⟩
    rw [slot_set hl] at hp
    by_cases c : p = i
    · rw [if_pos c] at hp
      injection hp with hp
      exact .inl hp.symm
    · rw [if_neg c] at hp
      refine .inr ⟨⟨p, hp⟩, fun ek => c ?_⟩
      obtain ⟨k, w⟩ := x
      simp only at ek
      subst ek
      exact hw.once p i _ _ _ hp e
  · rintro (rfl | ⟨⟨p, hp⟩, hk⟩)
    · exact ⟨i, by rw [slot_set hl, if_pos rfl]⟩
    · refine ⟨p, ?_⟩
      rw [slot_set hl, if_neg (fun c => ?_), hp]
      subst c
      rw [e] at hp
      injection hp with hp
      exact hk (by rw [← hp])

/-! ### Clearing: a hole at i, and slots from k on not yet looked at; r0 is the row with the hole free, f a free slot. -/
structure Hole (h : Int → Nat) (r r0 : Row) (i k f : Nat) : Prop where
  len : r0.length = r.length
  hi : i < r.length
  hk : k < r.length
  hf : f < r.length
  ik : i ≠ k
  fi : f ≠ i
  hole : slot r0 i = none
  free : slot r0 f = none
  ahead : dist r.length i k ≤ dist r.length i f
  home : ∀ q, h q < r.length
  once : ∀ a b q v v', slot r0 a = some (q, v) → slot r0 b = some (q, v') → a = b
  path : ∀ j q v, slot r0 j = some (q, v) → ∀ p, p < r.length → dist r.length (h q) p < dist r.length (h q) j → taken r0 p ∨ (p = i ∧ dist r.length i k ≤ dist r.length i j)
  less : ∀ p, taken r0 p → taken r p
  was : taken r i
theorem Hole.start {h : Int → Nat} {r : Row} (hw : Well h r) {i f : Nat} {y : Int × Int} (e : slot r i = some y) (hf : f < r.length) (ef : slot r f = none) : Hole h r (r.set i none) i (nx r.length i) f := by
  have hl := slot_lt e
  have fi : f ≠ i := fun c => by subst c; rw [e] at ef; cases ef
  have hn : nx r.length i ≠ i := by unfold nx; split <;> omega
  have d1 : dist r.length i (nx r.length i) = 1 := by unfold dist nx; (repeat' split) <;> omega
  have dpos : ∀ j, j < r.length → j ≠ i → 1 ≤ dist r.length i j := by intro j hj hne; unfold dist; split <;> omega
  have sl : ∀ j x, slot (r.set i none) j = some x → j ≠ i ∧ slot r j = some x := by
    intro j x hj
    rw [slot_set hl] at hj
    by_cases c : j = i
    · rw [if_pos c] at hj; cases hj
    · rw [if_neg c] at hj; exact ⟨c, hj⟩
  refine ⟨by simp, hl, nx_lt hl, hf, hn.symm, fi, by rw [slot_set hl, if_pos rfl], by rw [slot_set hl, if_neg fi, ef], by rw [d1]; exact dpos f hf fi, hw.home, ?_, ?_, ?_, ⟨_, e⟩⟩
  · intro a b q v v' h1 h2
    exact hw.once a b q v v' (sl a _ h1).2 (sl b _ h2).2
  · intro j q v hj p hp hd
    obtain ⟨cj, hj'⟩ := sl j _ hj
    obtain ⟨x, hx⟩ := hw.path j q v hj' p hp hd
    by_cases c : p = i
    · exact .inr ⟨c, by rw [d1]; exact dpos j (slot_lt hj') cj⟩
    · exact .inl ⟨x, by rw [slot_set hl, if_neg c]; exact hx⟩
  · rintro p ⟨x, hx⟩
    exact ⟨x, (sl p _ hx).2⟩
section
variable {h : Int → Nat} {r r0 : Row} {i k f : Nat}
/-- The slot looked at is free: done. -/
theorem Hole.done (H : Hole h r r0 i k f) (e : slot r0 k = none) : Well h r0 := by
  refine ⟨fun q => by rw [H.len]; exact H.home q, H.once, ?_⟩
  intro j q v hj p hp hd
  rw [H.len] at hp hd
  rcases H.path j q v hj p hp hd with ht | ⟨rfl, hle⟩
  · exact ht
  · have hjl : j < r.length := by have := slot_lt hj; rw [H.len] at this; exact this
    have jk : j ≠ k := fun c => by subst c; rw [hj] at e; cases e
    have hq := H.home q
    have hk := H.hk
    have hi := H.hi
    have ik := H.ik
    have hd2 : dist r.length (h q) k < dist r.length (h q) j := by
      have hne : dist r.length p k ≠ dist r.length p j := fun c => jk (dist_eq hi hk hjl c).symm
      unfold dist at *
      revert hd hle hne
      repeat' split
      all_goals (intro hne hle hd; omega)
    rcases H.path j q v hj k hk hd2 with ⟨x, hx⟩ | ⟨c, _⟩
    · rw [e] at hx; cases hx
    · exact absurd c.symm H.ik
/-- The key looked at stands with the hole on its way: it goes back. -/
theorem Hole.back (H : Hole h r r0 i k f) {q v : Int} (e : slot r0 k = some (q, v)) (hc : dist r.length i k ≤ dist r.length (h q) k) : Hole h r ((r0.set i (some (q, v))).set k none) k (nx r.length k) f := by
  have hi := H.hi
  have hk := H.hk
  have hf := H.hf
  have ik := H.ik
  have fk : f ≠ k := fun c => by subst c; rw [H.free] at e; cases e
  have sl : ∀ p, slot ((r0.set i (some (q, v))).set k none) p = if p = k then none else if p = i then some (q, v) else slot r0 p := by
    intro p
    rw [slot_set (by simpa [H.len] using hk), slot_set (by rw [H.len]; exact hi)]
  have hn : nx r.length k ≠ k := by unfold nx; split <;> omega
  have d1 : dist r.length k (nx r.length k) = 1 := by unfold dist nx; (repeat' split) <;> omega
  have dpos : ∀ j, j < r.length → j ≠ k → 1 ≤ dist r.length k j := by intro j hj hne; unfold dist; split <;> omega
  refine ⟨by simp [H.len], hk, nx_lt hk, hf, hn.symm, fk, by rw [sl, if_pos rfl], by rw [sl, if_neg fk, if_neg H.fi, H.free], by rw [d1]; exact dpos f hf fk, H.home, ?_, ?_, ?_, H.less k ⟨_, e⟩⟩
  · intro a b q' u u' h1 h2
    rw [sl] at h1 h2
    by_cases ak : a = k
    · rw [if_pos ak] at h1; cases h1
    · by_cases bk : b = k
      · rw [if_pos bk] at h2; cases h2
      · rw [if_neg ak] at h1
        rw [if_neg bk] at h2
        by_cases ai : a = i
        · by_cases bi : b = i
          · rw [ai, bi]
          · rw [if_pos ai] at h1
            rw [if_neg bi] at h2
            injection h1 with h1
            injection h1 with h1 _
            subst h1
            exact absurd (H.once b k _ _ _ h2 e) bk
        · by_cases bi : b = i
          · rw [if_neg ai] at h1
            rw [if_pos bi] at h2
            injection h2 with h2
            injection h2 with h2 _
            subst h2
            exact absurd (H.once a k _ _ _ h1 e) ak
          · rw [if_neg ai] at h1
            rw [if_neg bi] at h2
            exact H.once a b q' u u' h1 h2
  · intro j q' u hj p hp hd
    rw [sl] at hj
    by_cases jk : j = k
    · rw [if_pos jk] at hj; cases hj
    rw [if_neg jk] at hj
    by_cases pk : p = k
    · refine .inr ⟨pk, ?_⟩
      rw [d1]
      refine dpos j ?_ jk
      by_cases ji : j = i
      · rw [ji]; exact hi
      · rw [if_neg ji] at hj
        have := slot_lt hj
        rw [H.len] at this
        exact this
    · refine .inl ?_
      unfold taken
      rw [sl, if_neg pk]
      by_cases pi : p = i
      · rw [if_pos pi]; exact ⟨_, rfl⟩
      · rw [if_neg pi]
        by_cases ji : j = i
        · rw [if_pos ji] at hj
          injection hj with hj
          injection hj with hj _
          subst hj ji
          have hq := H.home q
          have hd2 : dist r.length (h q) p < dist r.length (h q) k := by
            unfold dist at *
            revert hd hc
            repeat' split
            all_goals (intro hc hd; omega)
          rcases H.path k q v e p hp hd2 with ht | ⟨c, _⟩
          · exact ht
          · exact absurd c pi
        · rw [if_neg ji] at hj
          rcases H.path j q' u hj p hp hd with ht | ⟨c, _⟩
          · exact ht
          · exact absurd c pi
  · rintro p ⟨x, hx⟩
    rw [sl] at hx
    by_cases pk : p = k
    · rw [if_pos pk] at hx; cases hx
    · rw [if_neg pk] at hx
      by_cases pi : p = i
      · rw [pi]; exact H.was
      · rw [if_neg pi] at hx
        exact H.less p ⟨x, hx⟩
/-- The key looked at stands behind the hole by itself: on. -/
theorem Hole.on (H : Hole h r r0 i k f) {q v : Int} (e : slot r0 k = some (q, v)) (hc : dist r.length (h q) k < dist r.length i k) : Hole h r r0 i (nx r.length k) f := by
  have hi := H.hi
  have hk := H.hk
  have hf := H.hf
  have ik := H.ik
  have fi := H.fi
  have ah := H.ahead
  have fk : f ≠ k := fun c => by subst c; rw [H.free] at e; cases e
  have hne : dist r.length i k ≠ dist r.length i f := fun c => fk (dist_eq hi hk hf c).symm
  have d1 : dist r.length i (nx r.length k) = dist r.length i k + 1 := by
    unfold dist nx at *
    revert ah hne
    repeat' split
    all_goals (intro hne ah; omega)
  refine ⟨H.len, hi, nx_lt hk, hf, ?_, fi, H.hole, H.free, by rw [d1]; omega, H.home, H.once, ?_, H.less, H.was⟩
  · intro c
    rw [← c, dist_self] at d1
    omega
  · intro j q' u hj p hp hd
    rcases H.path j q' u hj p hp hd with ht | ⟨rfl, hle⟩
    · exact .inl ht
    · have hjl : j < r.length := by have := slot_lt hj; rw [H.len] at this; exact this
      by_cases jk : j = k
      · subst jk
        rw [e] at hj
        injection hj with hj
        injection hj with hj _
        subst hj
        have hq := H.home q
        exfalso
        unfold dist at *
        revert hd hc
        repeat' split
        all_goals (intro hc hd; omega)
      · refine .inr ⟨rfl, ?_⟩
        have : dist r.length p k ≠ dist r.length p j := fun c => jk (dist_eq hi hk hjl c).symm
        rw [d1]
        omega
theorem In.back (H : Hole h r r0 i k f) {q v : Int} (e : slot r0 k = some (q, v)) (x : Int × Int) : In ((r0.set i (some (q, v))).set k none) x ↔ In r0 x := by
  have sl : ∀ p, slot ((r0.set i (some (q, v))).set k none) p = if p = k then none else if p = i then some (q, v) else slot r0 p := by
    intro p
    rw [slot_set (by simpa [H.len] using H.hk), slot_set (by rw [H.len]; exact H.hi)]
  constructor
  · rintro ⟨p, hp⟩
    rw [sl] at hp
    by_cases pk : p = k
    · rw [if_pos pk] at hp; cases hp
    · rw [if_neg pk] at hp
      by_cases pi : p = i
      · rw [if_pos pi] at hp
        injection hp with hp
        exact ⟨k, by rw [e, hp]⟩
      · rw [if_neg pi] at hp
        exact ⟨p, hp⟩
  · rintro ⟨p, hp⟩
    by_cases pk : p = k
    · subst pk
      rw [e] at hp
      injection hp with hp
      exact ⟨i, by rw [sl, if_neg H.ik, if_pos rfl, hp]⟩
    · refine ⟨p, ?_⟩
      rw [sl, if_neg pk, if_neg (fun c => ?_), hp]
      subst c
      rw [H.hole] at hp
      cases hp
theorem many_back (H : Hole h r r0 i k f) {q v : Int} (e : slot r0 k = some (q, v)) : many ((r0.set i (some (q, v))).set k none) = many r0 := by
  have h1 := many_put r0 i (q, v) (by rw [H.len]; exact H.hi) H.hole
  have h2 := many_none (r0.set i (some (q, v))) k (q, v) (by rw [slot_set (by rw [H.len]; exact H.hi), if_neg (fun c => H.ik c.symm), e])
  omega
end
theorem In.none {h : Int → Nat} {r : Row} (hw : Well h r) {i : Nat} {key u : Int} (e : slot r i = some (key, u)) (x : Int × Int) : In (r.set i none) x ↔ In r x ∧ x.1 ≠ key := by
  have hl := slot_lt e
  constructor
  · rintro ⟨p, hp⟩
    rw [slot_set hl] at hp
    by_cases c : p = i
    · rw [if_pos c] at hp; cases hp
    · rw [if_neg c] at hp
      refine ⟨⟨p, hp⟩, fun ek => c ?_⟩
      obtain ⟨k, w⟩ := x
      simp only at ek
      subst ek
      exact hw.once p i _ _ _ hp e
  · rintro ⟨⟨p, hp⟩, hk⟩
    refine ⟨p, ?_⟩
    rw [slot_set hl, if_neg (fun c => ?_), hp]
    subst c
    rw [e] at hp
    injection hp with hp
    exact hk (by rw [← hp])
end Look
end Go.Proofs.Ytekbgpfpnjddgaa
namespace Go.Proofs.Ytekbgpfpnjddgaa
open Go.RowKit
namespace Look
open Mix

def slotV : Option (Int × Int) → List Value
  | none => [.int .u64 0, .int .i32 0, .bool false]
  | some (k, v) => [.int .u64 k, .int .i32 v, .bool true]
theorem slotV_length (x : Option (Int × Int)) : (slotV x).length = 3 := by rcases x with _ | ⟨k, v⟩ <;> rfl
/-- The rows at ⟨b, off⟩: how many bits, the slots (in block g), the number m of those taken; cs is the whole block b. -/
structure RowsAt (w : World) (b off g : Nat) (cs : Array Value) (bits m : Nat) (r : Row) : Prop where
  head : Blk w b cs
  k0 : cs[off]? = some (.int .i64 bits)
  k1 : cs[off + 1]? = some (.slice (some ⟨g, 0, none⟩) r.length r.length)
  k2 : cs[off + 2]? = some (.int .i64 m)
  row : Blk w g (flat slotV r)
  ne : b ≠ g
  len : r.length = 2 ^ bits
  b1 : 1 ≤ bits
  b2 : bits ≤ 20
section
variable {w : World} {b off g : Nat} {cs : Array Value} {bits m : Nat} {r : Row}
theorem RowsAt.kept {F : Nat → Prop} {w' : World} (h : RowsAt w b off g cs bits m r) (hk : Kept F w w') (h0 : ¬ F b) (h1 : ¬ F g) : RowsAt w' b off g cs bits m r :=
  { h with head := h.head.kept hk h0, row := h.row.kept hk h1 }
theorem RowsAt.c0 (h : RowsAt w b off g cs bits m r) : w.cell? ⟨b, off, none⟩ = some (.int .i64 bits) := (h.head.cell off).trans h.k0
theorem RowsAt.c1 (h : RowsAt w b off g cs bits m r) : w.cell? ⟨b, off + 1, none⟩ = some (.slice (some ⟨g, 0, none⟩) r.length r.length) := (h.head.cell _).trans h.k1
theorem RowsAt.c2 (h : RowsAt w b off g cs bits m r) : w.cell? ⟨b, off + 2, none⟩ = some (.int .i64 m) := (h.head.cell _).trans h.k2
def keyOf : Option (Int × Int) → Int
  | none => 0
  | some (k, _) => k
def nodeOf : Option (Int × Int) → Int
  | none => 0
  | some (_, v) => v
theorem RowsAt.s0 (h : RowsAt w b off g cs bits m r) {i : Nat} (hi : i < r.length) : w.cell? ⟨g, i * 3, none⟩ = some (.int .u64 (keyOf (slot r i))) := by
  rw [h.row.cell, flat_get0 slotV_length _ i hi (by omega), slot_get hi]
  rcases slot r i with _ | ⟨k, v⟩ <;> rfl
theorem RowsAt.s1 (h : RowsAt w b off g cs bits m r) {i : Nat} (hi : i < r.length) : w.cell? ⟨g, i * 3 + 1, none⟩ = some (.int .i32 (nodeOf (slot r i))) := by
  rw [h.row.cell, flat_get slotV_length _ i 1 hi (by omega), slot_get hi]
  rcases slot r i with _ | ⟨k, v⟩ <;> rfl
theorem RowsAt.s2 (h : RowsAt w b off g cs bits m r) {i : Nat} (hi : i < r.length) : w.cell? ⟨g, i * 3 + 2, none⟩ = some (.bool (slot r i).isSome) := by
  rw [h.row.cell, flat_get slotV_length _ i 2 hi (by omega), slot_get hi]
  rcases slot r i with _ | ⟨k, v⟩ <;> rfl
theorem RowsAt.small (h : RowsAt w b off g cs bits m r) : 2 ≤ r.length ∧ r.length ≤ 1048576 := by
  rw [h.len]
  have h1 := Nat.pow_le_pow_right (show 0 < 2 by decide) h.b1
  have h2 := Nat.pow_le_pow_right (show 0 < 2 by decide) h.b2
  omega
end
/-- A mask takes a place around. -/
theorem and_mask (b : Nat) (hb : b ≤ 30) (x : Int) : Go.bits .and .i64 x (((2 ^ b : Nat) : Int) - 1) = x % ((2 ^ b : Nat) : Int) := by
  have hp : 0 < 2 ^ b := Nat.pow_pos (by decide)
  have hle : 2 ^ b ≤ 2 ^ 30 := Nat.pow_le_pow_right (by decide) hb
  have hm : (BitVec.ofInt 64 (((2 ^ b : Nat) : Int) - 1)).toNat = 2 ^ b - 1 := by
    rw [show ((2 ^ b : Nat) : Int) - 1 = ((2 ^ b - 1 : Nat) : Int) by omega, BitVec.ofInt_natCast, BitVec.toNat_ofNat]
    exact Nat.mod_eq_of_lt (by omega)
  have key : (BitVec.ofInt 64 x &&& BitVec.ofInt 64 (((2 ^ b : Nat) : Int) - 1)).toNat = (x % ((2 ^ 64 : Nat) : Int)).toNat % 2 ^ b := by
    rw [BitVec.toNat_and, BitVec.toNat_ofInt, hm, Nat.and_two_pow_sub_one_eq_mod]
  show IntKind.i64.wrap ((BitVec.ofInt 64 x &&& BitVec.ofInt 64 (((2 ^ b : Nat) : Int) - 1)).toNat : Nat) = _
  rw [key, IntKind.wrap_i64]
  have hd : ((2 ^ b : Nat) : Int) ∣ ((2 ^ 64 : Nat) : Int) := by
    refine ⟨((2 ^ (64 - b) : Nat) : Int), ?_⟩
    rw [← Int.natCast_mul, ← Nat.pow_add]
    congr 2
    omega
  have hx : 0 ≤ x % ((2 ^ 64 : Nat) : Int) := Int.emod_nonneg _ (by decide)
  have e1 : (((x % ((2 ^ 64 : Nat) : Int)).toNat % 2 ^ b : Nat) : Int) = x % ((2 ^ b : Nat) : Int) := by
    rw [Int.natCast_emod, Int.toNat_of_nonneg hx, Int.emod_emod_of_dvd _ hd]
  have hlt : (x % ((2 ^ 64 : Nat) : Int)).toNat % 2 ^ b < 2 ^ b := Nat.mod_lt _ hp
  rw [← e1]
  omega
theorem mod_in {n x : Int} (h0 : 0 ≤ x) (h1 : x < n) : x % n = x := Int.emod_eq_of_lt h0 h1
theorem mod_up {n x : Int} (h0 : -n ≤ x) (h1 : x < 0) : x % n = x + n := by
  rw [← Int.add_emod_right]
  exact Int.emod_eq_of_lt (by omega) (by omega)
theorem mod_nx {n p : Nat} (h : p < n) : ((p : Int) + 1) % n = (nx n p : Nat) := by
  unfold nx
  split
  · rename_i e
    rw [show (p : Int) + 1 = n by omega]
    simp
  · rw [mod_in (by omega) (by omega)]
    omega
theorem mod_dist {n a c : Nat} (ha : a < n) (hc : c < n) : ((c : Int) - a) % n = (dist n a c : Nat) := by
  unfold dist
  split
  · rw [mod_in (by omega) (by omega)]
    omega
  · rw [mod_up (by omega) (by omega)]
    omega
section
variable {w : World} {b off g : Nat} {cs : Array Value} {bits m : Nat} {r : Row}
theorem mask_calls (h : RowsAt w b off g cs bits m r) :
    Calls Try.prog 87 #[.pointer (some ⟨b, off, none⟩)] w fun e w' => e = .returned (.int .i64 ((r.length : Int) - 1)) ∧ w' = w := by
  have h1 := h.c1
  have hs := h.small
  have hw : wrap64 ((r.length : Int) - 1) = (r.length : Int) - 1 := by unfold wrap64; omega
  go_enter Try.func87, Try.ntmps87
  go_wp2
  go_ret
  exact ⟨rfl, rfl⟩
/-- What find tells: the key's slot, or the free one at which its way ends. -/
def Found (bits : Nat) (r : Row) (key : Int) (i : Nat) (there : Bool) : Prop :=
  (there = true ∧ ∃ v, slot r i = some (key, v)) ∨ (there = false ∧ Seek (homeOf bits) r key i ∧ slot r i = none)
set_option maxRecDepth 100000 in
theorem rows_find_calls (h : RowsAt w b off g cs bits m r) (hw : Well (homeOf bits) r) (hm : many r < r.length) (key : Int) :
    Calls Try.prog 66 #[.pointer (some ⟨b, off, none⟩), .int .u64 key] w fun e w' => ∃ (i : Nat) (there : Bool), e = .returned (.tuple #[.int .i64 i, .bool there]) ∧ w' = w ∧ Found bits r key i there := by
  obtain ⟨f, hf, ef⟩ := many_free r hm
  have h0 := h.c0
  have h1 := h.c1
  have hs := h.small
  have hl0 : decide ((r.length : Int) = 0) = false := decide_eq_false (by omega)
  go_enter Try.func66, Try.ntmps66
  go_wp2_with (go_at_call 86; refine (Slot_calls _ key bits h.b1 (by have := h.b2; omega)).mono ?_; rintro e w' ⟨rfl, rfl⟩)
  go_loopw [6] (fun v wr => ∃ i : Nat, v = .int .i64 (i : Int) ∧ Seek (homeOf bits) r key i ∧ wr = w') (fun v _ => dist r.length (intOf v).toNat f)
  case atStart => exact ⟨_, rfl, Seek.start hw key, rfl⟩
  case round =>
    obtain ⟨i, rfl, hk, rfl⟩ := hrel
    have hi := hk.lt
    have hi' : (i : Int) < (r.length : Int) := by omega
    have g0 := h.s0 hi
    have g2 := h.s2 hi
    cases e : slot r i with
    | none =>
      rw [e] at g0 g2
      simp only [Option.isSome_none] at g2
      have HK := Lib.hid hk
      clear hk
      go_wp2_with fail
      go_ret2
      exact ⟨i, false, rfl, rfl, .inr ⟨rfl, HK.out, e⟩⟩
    | some x =>
      obtain ⟨k, v⟩ := x
      rw [e] at g0 g2
      simp only [Option.isSome_some] at g2
      simp only [keyOf] at g0
      have HK := Lib.hid hk
      clear hk
      by_cases c : k = key
      · subst c
        go_wp2_with fail
        go_ret2
        exact ⟨i, true, rfl, rfl, .inl ⟨rfl, v, e⟩⟩
      · have hand := and_mask bits (by have := h.b2; omega) ((i : Int) + 1)
        rw [← h.len, mod_nx hi] at hand
        have hfi : i ≠ f := fun q => by subst q; rw [e] at ef; cases ef
        have hdn := dist_nx hi hf hfi
        have HN := Lib.hid (HK.out.next hw e c)
        go_wp2_with (go_at_call 87; refine (mask_calls h).mono ?_; rintro e w' ⟨rfl, rfl⟩)
        go_roundw
        case rel => exact ⟨nx r.length i, by rw [← hand], HN.out, by trivial⟩
        case measure => simp [intOf]; omega
end
end Look
end Go.Proofs.Ytekbgpfpnjddgaa
namespace Go.Proofs.Ytekbgpfpnjddgaa
open Go.RowKit
namespace Look
open Mix

theorem set_same {r : Row} {i : Nat} {x : Option (Int × Int)} (h : i < r.length) (e : slot r i = x) : r.set i x = r := by
  apply List.ext_getElem?
  intro j
  rw [List.getElem?_set]
  by_cases c : i = j
  · subst c
    rw [if_pos rfl, if_pos h, List.getElem?_eq_getElem h, slot_get h, e]
  · rw [if_neg c]
def rawOf (x : Option (Int × Int)) : Value × Value × Value :=
  match x with
  | none => (.int .u64 0, .int .i32 0, .bool false)
  | some (k, v) => (.int .u64 k, .int .i32 v, .bool true)
def rawV (x : Value × Value × Value) : List Value := [x.1, x.2.1, x.2.2]
theorem rawV_length (x : Value × Value × Value) : (rawV x).length = 3 := rfl
theorem flat_raw (r : Row) : flat slotV r = flat rawV (r.map rawOf) := by
  unfold flat
  congr 1
  induction r with
  | nil => rfl
  | cons x r ih =>
    simp only [List.flatMap_cons, List.map_cons, ih]
    congr 1
    rcases x with _ | ⟨k, v⟩ <;> rfl
/-- A slot's three cells are written, one behind the other. -/
theorem Blk.put3 {w : World} {g : Nat} {r : Row} (h : Blk w g (flat slotV r)) {i : Nat} (hi : i < r.length) (x : Option (Int × Int)) :
    Blk (((w.setCell ⟨g, i * 3, none⟩ (rawOf x).1).setCell ⟨g, i * 3 + 1, none⟩ (rawOf x).2.1).setCell ⟨g, i * 3 + 2, none⟩ (rawOf x).2.2) g (flat slotV (r.set i x)) := by
  have h1 := ((h.set (i * 3) (rawOf x).1).set (i * 3 + 1) (rawOf x).2.1).set (i * 3 + 2) (rawOf x).2.2
  have hl : i < (r.map rawOf).length := by simpa using hi
  have e1 := flat_set rawV_length (r.map rawOf) i 0 (rawOf x).1 ((rawOf x).1, ((r.map rawOf)[i]).2.1, ((r.map rawOf)[i]).2.2) hl (by omega) rfl
  have hl2 : i < ((r.map rawOf).set i ((rawOf x).1, ((r.map rawOf)[i]).2.1, ((r.map rawOf)[i]).2.2)).length := by simpa using hi
  have e2 := flat_set rawV_length _ i 1 (rawOf x).2.1 ((rawOf x).1, (rawOf x).2.1, ((r.map rawOf)[i]).2.2) hl2 (by omega) (by rw [List.getElem_set_self]; rfl)
  have hl3 : i < (((r.map rawOf).set i ((rawOf x).1, ((r.map rawOf)[i]).2.1, ((r.map rawOf)[i]).2.2)).set i ((rawOf x).1, (rawOf x).2.1, ((r.map rawOf)[i]).2.2)).length := by simpa using hi
  have e3 := flat_set rawV_length _ i 2 (rawOf x).2.2 (rawOf x) hl3 (by omega) (by rw [List.getElem_set_self]; rfl)
  rw [flat_raw r, Nat.add_zero] at *
  rw [e1, e2, e3, List.set_set, List.set_set] at h1
  rw [flat_raw, List.map_set]
  exact h1
theorem arr_same {cs : Array Value} {i : Nat} {v : Value} (h : cs[i]? = some v) : cs.setIfInBounds i v = cs := by
  apply Array.ext_getElem?
  intro j
  rw [Array.getElem?_setIfInBounds]
  by_cases c : i = j
  · subst c
    rw [if_pos rfl, if_pos (Array.getElem?_eq_some_iff.1 h).1, h]
  · rw [if_neg c]
abbrev Two (b g : Nat) (x : Nat) : Prop := x = b ∨ x = g
section
variable {w : World} {b off g : Nat} {cs : Array Value} {bits m : Nat} {r : Row}
/-- The number is written anew. -/
theorem RowsAt.count (h : RowsAt w b off g cs bits m r) (m' : Nat) : RowsAt (w.setCell ⟨b, off + 2, none⟩ (.int .i64 m')) b off g (cs.setIfInBounds (off + 2) (.int .i64 m')) bits m' r := by
  have hlt := (Array.getElem?_eq_some_iff.1 h.k2).1
  refine { head := h.head.set _ _, k0 := ?_, k1 := ?_, k2 := ?_, row := h.row.other (Ne.symm h.ne) _, ne := h.ne, len := h.len, b1 := h.b1, b2 := h.b2 }
  · rw [Array.getElem?_setIfInBounds, if_neg (by omega)]; exact h.k0
  · rw [Array.getElem?_setIfInBounds, if_neg (by omega)]; exact h.k1
  · rw [Array.getElem?_setIfInBounds, if_pos rfl, if_pos hlt]
/-- A slot is written anew. -/
theorem RowsAt.put3 (h : RowsAt w b off g cs bits m r) {i : Nat} (hi : i < r.length) (x : Option (Int × Int)) :
    RowsAt (((w.setCell ⟨g, i * 3, none⟩ (rawOf x).1).setCell ⟨g, i * 3 + 1, none⟩ (rawOf x).2.1).setCell ⟨g, i * 3 + 2, none⟩ (rawOf x).2.2) b off g cs bits m (r.set i x) := by
  refine { head := ((h.head.other h.ne _).other h.ne _).other h.ne _, k0 := h.k0, k1 := ?_, k2 := h.k2, row := Blk.put3 h.row hi x, ne := h.ne, len := ?_, b1 := h.b1, b2 := h.b2 }
  · rw [List.length_set]; exact h.k1
  · rw [List.length_set]; exact h.len
theorem Found.lt {key : Int} {i : Nat} {there : Bool} (h : Found bits r key i there) : i < r.length := by
  rcases h with ⟨_, v, e⟩ | ⟨_, hs, _⟩
  · exact slot_lt e
  · exact hs.lt
set_option maxRecDepth 100000 in
theorem rows_put_calls (h : RowsAt w b off g cs bits (many r) r) (hw : Well (homeOf bits) r) (hm : many r < r.length) (key node : Int) :
    Calls Try.prog 69 #[.pointer (some ⟨b, off, none⟩), .int .u64 key, .int .i32 node] w fun e w' => ∃ (r' : Row) (new : Bool), e = .returned (.bool new) ∧
      RowsAt w' b off g (cs.setIfInBounds (off + 2) (.int .i64 (many r' : Nat))) bits (many r') r' ∧ Kept (Two b g) w w' ∧ Well (homeOf bits) r' ∧ r'.length = r.length ∧ many r' = many r + (if new = true then 1 else 0) ∧
      (∀ x, In r' x ↔ x = (key, node) ∨ (In r x ∧ x.1 ≠ key)) ∧ (new = true ↔ ∀ v, ¬ In r (key, v)) := by
  have h0 := h.c0
  have h1 := h.c1
  have h2 := h.c2
  have hs := h.small
  have hne := h.ne
  have hne' := Ne.symm h.ne
  have hz := fun o => h.row.frozen o
  have hz2 := fun o => h.head.frozen o
  have hmw : wrap64 ((many r : Int) + 1) = ((many r + 1 : Nat) : Int) := by unfold wrap64; omega
  go_enter Try.func69, Try.ntmps69
  go_wp2_with (go_at_call 66; refine (rows_find_calls h hw hm key).mono ?_; rintro e w' ⟨i, there, rfl, rfl, HF⟩; have hi := HF.lt; have hi' : (i : Int) < (r.length : Int) := Int.ofNat_lt.2 hi; have g0 := h.s0 hi; have g1 := h.s1 hi; have g2 := h.s2 hi; replace HF := Lib.hid HF)
  · rename_i hn
    go_ret
    rcases HF.out with ⟨rfl, _⟩ | ⟨rfl, hk, e⟩
    · cases hn
    · have e2 := many_put r i (key, node) hi e
      refine ⟨r.set i (some (key, node)), true, rfl, ?_, ?_, hw.put hk e node, by simp, by simp [e2], fun x => ?_, ?_⟩
      · rw [e2]
        exact (h.put3 hi (some (key, node))).count _
      · refine Kept.setCell ?_ (fun _ => .inl rfl) _
        refine Kept.setCell ?_ (fun _ => .inr rfl) _
        refine Kept.setCell ?_ (fun _ => .inr rfl) _
        refine Kept.setCell ?_ (fun _ => .inr rfl) _
        exact Kept.refl _ _
      · rw [In.put hi e]
        refine or_congr Iff.rfl ⟨fun q => ⟨q, fun ek => ?_⟩, fun q => q.1⟩
        obtain ⟨k, v⟩ := x
        simp only at ek
        subst ek
        exact hk.absent hw e v q
      · simp only [true_iff]
        exact fun v => hk.absent hw e v
  · rename_i hn
    go_ret
    rcases HF.out with ⟨rfl, v, e⟩ | ⟨rfl, hk, e⟩
    · have e2 := many_over r i (key, node) _ e
      refine ⟨r.set i (some (key, node)), false, rfl, ?_, ?_, hw.over e node, by simp, by simp [e2], fun x => In.over hw e node x, ?_⟩
      · rw [e2, arr_same h.k2]
        exact h.put3 hi (some (key, node))
      · refine Kept.setCell ?_ (fun _ => .inr rfl) _
        refine Kept.setCell ?_ (fun _ => .inr rfl) _
        refine Kept.setCell ?_ (fun _ => .inr rfl) _
        exact Kept.refl _ _
      · simp only [Bool.false_eq_true, false_iff]
        exact fun q => q v ⟨i, e⟩
    · cases hn
end
end Look
end Go.Proofs.Ytekbgpfpnjddgaa
namespace Go.Proofs.Ytekbgpfpnjddgaa
open Go.RowKit
namespace Look
open Mix
section
variable {w : World} {b off g : Nat} {cs : Array Value} {bits m : Nat} {r : Row}
theorem wrap_sub {a c n : Nat} (ha : a < n) (hc : c < n) (hn : n ≤ 1048576) : wrap64 ((a : Int) - (c : Nat)) = (a : Int) - (c : Nat) := by unfold wrap64; omega
theorem le30 {n : Nat} (h : n ≤ 20) : n ≤ 30 := by omega
theorem RowsAt.of_heap {w' : World} (h : RowsAt w b off g cs bits m r) (e : w'.heap = w.heap) : RowsAt w' b off g cs bits m r :=
  { h with head := h.head.of_eq (by rw [e]), row := h.row.of_eq (by rw [e]) }
set_option maxRecDepth 100000 in
theorem rows_clear_calls (h : RowsAt w b off g cs bits (many r) r) (hw : Well (homeOf bits) r) (hm : many r < r.length) {i : Nat} {key u : Int} (e : slot r i = some (key, u)) :
    Calls Try.prog 85 #[.pointer (some ⟨b, off, none⟩), .int .i64 i] w fun e w' => ∃ r' : Row, e = .returned (.tuple #[]) ∧
      RowsAt w' b off g (cs.setIfInBounds (off + 2) (.int .i64 (many r' : Nat))) bits (many r') r' ∧ Kept (Two b g) w w' ∧ Well (homeOf bits) r' ∧ r'.length = r.length ∧ many r' + 1 = many r ∧
      (∀ x, In r' x ↔ In r x ∧ x.1 ≠ key) ∧ ∀ p, taken r' p → taken r p := by
  obtain ⟨f, hf, ef⟩ := many_free r hm
  have h2 := h.c2
  have hs := h.small
  have hi := slot_lt e
  have hm1 := many_none r i _ e
  have hz2 := fun o => h.head.frozen o
  have hmw : wrap64 ((many r : Int) - 1) = (many r : Int) - 1 := by unfold wrap64; omega
  go_enter Try.func85, Try.ntmps85
  go_upto_region 1 with fail
  have ec : ((many r - 1 : Nat) : Int) = (many r : Int) - 1 := by omega
  have H1 := h.count (many r - 1)
  rw [ec] at H1
  have K1 : Kept (Two b g) w (w.setCell ⟨b, off + 2, none⟩ (.int .i64 ((many r : Int) - 1))) := Kept.setCell (Kept.refl _ _) (fun _ => .inl rfl) _
  clear h2 hz2 hmw
  generalize w.setCell ⟨b, off + 2, none⟩ (.int .i64 ((many r : Int) - 1)) = w1 at H1 K1 ⊢
  have hand := and_mask bits (le30 h.b2) ((i : Int) + 1)
  rw [← h.len, mod_nx hi] at hand
  go_wp2_with (go_at_call 87; refine (mask_calls H1).mono ?_; rintro e w' ⟨rfl, rfl⟩)
  go_loopw [1, 4] (fun v1 v4 wr => ∃ (i k : Nat) (r0 : Row) (x : Int × Int), v1 = .int .i64 (i : Int) ∧ v4 = .int .i64 (k : Int) ∧ Hole (homeOf bits) r r0 i k f ∧ RowsAt wr b off g (cs.setIfInBounds (off + 2) (.int .i64 ((many r : Int) - 1))) bits (many r - 1) (r0.set i (some x)) ∧ Kept (Two b g) w wr ∧ many r0 + 1 = many r ∧ ∀ y, In r0 y ↔ In r y ∧ y.1 ≠ key) (fun _ v4 _ => dist r.length (intOf v4).toNat f)
  case atStart =>
    refine ⟨i, nx r.length i, r.set i none, (key, u), rfl, rfl, Hole.start hw e hf ef, ?_, K1, hm1, fun y => In.none hw e y⟩
    rw [List.set_set, set_same hi e]
    exact H1
  case round =>
    clear hand H1 K1 hi e
    obtain ⟨i, k, r0, x, rfl, rfl, HH, HR, HK, hmn, hin⟩ := hrel
    have hi := HH.hi
    have hk := HH.hk
    have hl0 := HH.len
    have hlm : (r0.set i (some x)).length = r.length := by rw [List.length_set]; exact hl0
    have hk' : (k : Int) < (r.length : Int) := Int.ofNat_lt.2 hk
    have hi' : (i : Int) < (r.length : Int) := Int.ofNat_lt.2 hi
    have d0 := HR.c0
    have d1 := HR.c1
    rw [hlm] at d1
    have hz := fun o => HR.row.frozen o
    have hne := HR.ne
    have hne' := Ne.symm HR.ne
    have ek0 : slot (r0.set i (some x)) k = slot r0 k := by rw [slot_set (by rw [hl0]; exact hi), if_neg (Ne.symm HH.ik)]
    have gk0 := HR.s0 (i := k) (by rw [hlm]; exact hk)
    have gk1 := HR.s1 (i := k) (by rw [hlm]; exact hk)
    have gk2 := HR.s2 (i := k) (by rw [hlm]; exact hk)
    rw [ek0] at gk0 gk1 gk2
    have gi0 := HR.s0 (i := i) (by rw [hlm]; exact hi)
    have gi1 := HR.s1 (i := i) (by rw [hlm]; exact hi)
    have gi2 := HR.s2 (i := i) (by rw [hlm]; exact hi)
    cases ek : slot r0 k with
    | none =>
      rw [ek] at gk0 gk1 gk2
      simp only [Option.isSome_none] at gk2
      have HD := Lib.hid (HH.done ek)
      have HL := Lib.hid HH.less
      have HO := Lib.hid HH.hole
      have HR' := Lib.hid HR
      have HK' := Lib.hid HK
      have HN := Lib.hid hmn
      have HI := Lib.hid hin
      clear HH HR HK hmn hin
      go_wp2_with fail
      go_end0
      have em : many r0 = many r - 1 := by have := HN.out; omega
      have er := Blk.put3 HR'.out.row (i := i) (by rw [hlm]; exact hi) none
      have H3 := HR'.out.put3 (i := i) (by rw [hlm]; exact hi) none
      rw [List.set_set, set_same (by rw [hl0]; exact hi) HO.out] at H3
      refine ⟨r0, rfl, ?_, ?_, HD.out, hl0, HN.out, HI.out, HL.out⟩
      · rw [em, ec]
        exact H3
      · refine Kept.setCell ?_ (fun _ => .inr rfl) _
        refine Kept.setCell ?_ (fun _ => .inr rfl) _
        refine Kept.setCell ?_ (fun _ => .inr rfl) _
        exact HK'.out
    | some y =>
      obtain ⟨q, v⟩ := y
      rw [ek] at gk0 gk1 gk2
      simp only [Option.isSome_some] at gk2
      simp only [keyOf] at gk0
      simp only [nodeOf] at gk1
      have HR' := Lib.hid HR
      have HK' := Lib.hid HK
      have HN := Lib.hid hmn
      have HI := Lib.hid hin
      have HH' := Lib.hid HH
      clear HH HR HK hmn hin
      go_upto_region 4 with fail
      refine wp_region_still_lit (by kernel_rfl) (by kernel_rfl) ?_
      repeat still_step
      still_call (Slot_calls _ q bits h.b1 (le30 h.b2))
      repeat still_step
      refine wpStill_nil ?_
      change Exit.then _ _ _ _ wr.drew
      have HR2 := Lib.hid (HR'.out.of_heap (w' := wr.drew) rfl)
      have HK2 := Lib.hid HK'.out.drew
      clear HR' HK' hz d0 d1 gk0 gk1 gk2 gi0 gi1 gi2
      generalize wr.drew = w2 at HR2 HK2 ⊢
      have hq : homeOf bits q < r.length := HH'.out.home q
      have hq' : ((homeOf bits q : Nat) : Int) < (r.length : Int) := Int.ofNat_lt.2 hq
      have a1 := and_mask bits (le30 h.b2) ((k : Int) - (homeOf bits q : Nat))
      rw [← h.len, mod_dist hq hk] at a1
      have a2 := and_mask bits (le30 h.b2) ((k : Int) - (i : Nat))
      rw [← h.len, mod_dist hi hk] at a2
      have a3 := and_mask bits (le30 h.b2) ((k : Int) + 1)
      rw [← h.len, mod_nx hk] at a3
      have hM := mask_calls HR2.out
      rw [hlm] at hM
      have HM := Lib.hid hM
      clear hM
      have kf : k ≠ f := fun q => by subst q; rw [HH'.out.free] at ek; cases ek
      have hdn := dist_nx hk hf kf
      simp only [Exit.then]
      by_cases c : dist r.length i k ≤ dist r.length (homeOf bits q) k
      · have c' : decide (((dist r.length (homeOf bits q) k : Nat) : Int) ≥ ((dist r.length i k : Nat) : Int)) = true := decide_eq_true (Int.ofNat_le.2 c)
        go_upto_region 6 with (first | (go_at_call 87; refine HM.out.mono ?_; rintro e w' ⟨rfl, rfl⟩))
        have HB := Lib.hid (HH'.out.back ek c)
        have HB2 := Lib.hid (fun x => In.back HH'.out ek x)
        have HB3 := Lib.hid (many_back HH'.out ek)
        have HO := Lib.hid HH'.out.hole
        clear HH' HM a1 a2 c c' ek0
        have d1 := HR2.out.c1
        rw [hlm] at d1
        have hz := fun o => HR2.out.row.frozen o
        have ek0 : slot (r0.set i (some x)) k = some (q, v) := by rw [slot_set (by rw [hl0]; exact hi), if_neg (fun h => by subst h; rw [HO.out] at ek; cases ek)]; exact ek
        have gk0 := HR2.out.s0 (i := k) (by rw [hlm]; exact hk)
        have gk1 := HR2.out.s1 (i := k) (by rw [hlm]; exact hk)
        have gk2 := HR2.out.s2 (i := k) (by rw [hlm]; exact hk)
        rw [ek0] at gk0 gk1 gk2
        simp only [keyOf] at gk0
        simp only [nodeOf] at gk1
        simp only [Option.isSome_some] at gk2
        have gi0 := HR2.out.s0 (i := i) (by rw [hlm]; exact hi)
        have gi1 := HR2.out.s1 (i := i) (by rw [hlm]; exact hi)
        have gi2 := HR2.out.s2 (i := i) (by rw [hlm]; exact hi)
        replace ek0 := Lib.hid ek0
        replace ek := Lib.hid ek
        go_still_tail 13, (by kernel_rfl)
        change wpList _ _ _ _ _ w'.drew
        have HR3 := Lib.hid (HR2.out.of_heap (w' := w'.drew) rfl)
        have HK3 := Lib.hid HK2.out.drew
        clear gk0 gk1 gk2 hz d1
        have hz := fun o => HR3.out.row.frozen o
        have gi0 := HR3.out.s0 (i := i) (by rw [hlm]; exact hi)
        have gi1 := HR3.out.s1 (i := i) (by rw [hlm]; exact hi)
        have gi2 := HR3.out.s2 (i := i) (by rw [hlm]; exact hi)
        clear HR2 HK2
        generalize w'.drew = w3 at HR3 HK3 hz gi0 gi1 gi2 ⊢
        go_upto_region 7 with fail
        have ki : i ≠ k := fun h => by subst h; have := HO.out; rw [ek.out] at this; cases this
        have H4 := HR3.out.put3 (i := i) (by rw [hlm]; exact hi) (some (q, v))
        rw [List.set_set] at H4
        have e4 : r0.set i (some (q, v)) = ((r0.set i (some (q, v))).set k none).set k (some (q, v)) := by
          rw [List.set_set]
          exact (set_same (r := r0.set i (some (q, v))) (i := k) (by rw [List.length_set, hl0]; exact hk) (by rw [slot_set (by rw [hl0]; exact hi), if_neg (Ne.symm ki)]; exact ek.out)).symm
        rw [e4] at H4
        have HR4 := Lib.hid H4
        have HK4 : Hid (Kept (Two b g) w _) := Lib.hid (Kept.setCell (Kept.setCell (Kept.setCell HK3.out (p := ⟨g, i * 3, none⟩) (fun _ => .inr rfl) (rawOf (some (q, v))).1) (p := ⟨g, i * 3 + 1, none⟩) (fun _ => .inr rfl) (rawOf (some (q, v))).2.1) (p := ⟨g, i * 3 + 2, none⟩) (fun _ => .inr rfl) (rawOf (some (q, v))).2.2)
        clear H4 e4 HR3 HK3 hz gi0 gi1 gi2
        change Code.wp _ _ _ _ (((w3.setCell ⟨g, i * 3, none⟩ (rawOf (some (q, v))).1).setCell ⟨g, i * 3 + 1, none⟩ (rawOf (some (q, v))).2.1).setCell ⟨g, i * 3 + 2, none⟩ (rawOf (some (q, v))).2.2)
        generalize ((w3.setCell ⟨g, i * 3, none⟩ (rawOf (some (q, v))).1).setCell ⟨g, i * 3 + 1, none⟩ (rawOf (some (q, v))).2.1).setCell ⟨g, i * 3 + 2, none⟩ (rawOf (some (q, v))).2.2 = w4 at HR4 HK4 ⊢
        have hM := mask_calls HR4.out
        rw [show (List.set (List.set (List.set r0 i (some (q, v))) k none) k (some (q, v))).length = r.length by simp only [List.length_set]; exact hl0] at hM
        have HM := Lib.hid hM
        clear hM
        go_wp2_with (first | (go_at_call 87; refine HM.out.mono ?_; rintro e w' ⟨rfl, rfl⟩))
        go_roundw
        case rel => exact ⟨k, nx r.length k, _, (q, v), rfl, by rw [← a3], HB.out, HR4.out, HK4.out, by rw [HB3.out]; exact HN.out, fun y => (HB2.out y).trans (HI.out y)⟩
        case measure => simp [intOf]; omega
      · have c' : decide (((dist r.length (homeOf bits q) k : Nat) : Int) ≥ ((dist r.length i k : Nat) : Int)) = false := decide_eq_false (fun h => c (Int.ofNat_le.1 h))
        go_wp2_with (first | (go_at_call 87; refine HM.out.mono ?_; rintro e w' ⟨rfl, rfl⟩))
        go_roundw
        case rel => exact ⟨i, nx r.length k, r0, x, rfl, by rw [← a3], HH'.out.on ek (by omega), HR2.out, HK2.out, HN.out, HI.out⟩
        case measure => simp [intOf]; omega
end
end Look
end Go.Proofs.Ytekbgpfpnjddgaa
namespace Go.Proofs.Ytekbgpfpnjddgaa
open Go.RowKit
namespace Look
open Mix

theorem made_slots (z : Array Value) (hz : z.toList = slotV none) (n : Nat) : madeCells z (n * 3) = flat slotV (List.replicate n none) := by
  apply Array.ext
  · rw [size_madeCells, flat_size slotV_length, List.length_replicate]
  · intro i h1 h2
    rw [size_madeCells] at h1
    have hzs : z.size = 3 := by rw [← Array.length_toList, hz]; rfl
    have hq : i / 3 < n := by omega
    have hm : i % 3 < 3 := Nat.mod_lt _ (by decide)
    have h3 := flat_get slotV_length (List.replicate n none) (i / 3) (i % 3) (by simpa using hq) hm
    have h4 : i / 3 * 3 + i % 3 = i := by omega
    rw [h4, List.getElem_replicate, ← hz, Array.getElem?_toList, Array.getElem?_eq_getElem h2, Array.getElem?_eq_getElem (by omega)] at h3
    have h5 := Option.some.inj h3
    rw [h5]
    simp [madeCells, hzs]
    rw [Array.getElem!_eq_getD, Array.getD_eq_getD_getElem?, Array.getElem?_eq_getElem (by omega)]
    rfl
theorem infoSlot : (Try.prog.info? 134).map (fun i => (i.zero, i.size, i.bytes)) = some (some (.agg #[.int .u64 0, .int .i32 0, .bool false]), 3, 16) := by kernel_rfl
theorem make_slots (n : Nat) (hn : n ≤ 1048576) (w : World) : (Instr.makeSlice 105 (.int .i64 (n : Int)) (.int .i64 (n : Int))).run Try.prog w = .ok (.slice (some ⟨w.heap.size, 0, none⟩) n n) (w.alloc (.cells (flat slotV (List.replicate n none)) 134)) := by
  obtain ⟨i, hi, hz, hs, hb⟩ := info_parts infoSlot
  have := run_make (P := Try.prog) w 105 134 i _ Try.underlying105 hi hz .i64 .i64 n n (by omega) (Int.le_refl _) (by rw [hb]; omega) (by omega)
  rw [hs] at this
  rw [this, Int.toNat_natCast, ← made_slots #[.int .u64 0, .int .i32 0, .bool false] rfl]
  rfl
set_option maxRecDepth 100000 in
theorem fresh_calls (w : World) (bits : Nat) (hb : bits ≤ 20) :
    Calls Try.prog 56 #[.int .i64 bits] w fun e w' => ∃ g, e = .returned (.agg #[.int .i64 bits, .slice (some ⟨g, 0, none⟩) (2 ^ bits) (2 ^ bits), .int .i64 0]) ∧ Blk w' g (flat slotV (List.replicate (2 ^ bits) none)) ∧ Calm w w' ∧ w.heap.size ≤ g := by
  have hp : 2 ^ bits ≤ 1048576 := by have := Nat.pow_le_pow_right (show 0 < 2 by decide) hb; omega
  have ew : wrap64 ((2 : Int) ^ bits) = ((2 ^ bits : Nat) : Int) := by
    rw [show ((2 : Int) ^ bits) = ((2 ^ bits : Nat) : Int) by simp]
    generalize 2 ^ bits = p at hp
    unfold wrap64; omega
  have hm : ∀ w : World, (Instr.makeSlice 105 (.int .i64 (wrap64 ((2 : Int) ^ bits))) (.int .i64 (wrap64 ((2 : Int) ^ bits)))).run Try.prog w = .ok (.slice (some ⟨w.heap.size, 0, none⟩) (2 ^ bits) (2 ^ bits)) (w.alloc (.cells (flat slotV (List.replicate (2 ^ bits) none)) 134)) := by
    rw [ew]
    exact make_slots (2 ^ bits) hp
  clear ew
  go_enter Try.func56, Try.ntmps56
  go_wp2_with fail
  refine bodyPost_ret (v := .agg #[.int .i64 bits, .slice (some ⟨w.heap.size + 1, 0, none⟩) (2 ^ bits) (2 ^ bits), .int .i64 0]) (by simp [results, Try.results56, go_sem]) rfl ⟨w.heap.size + 1, rfl, ?_, ?_, by omega⟩
  · exact Blk.new' (by simp) _ _
  · exact ((Kept.refl _ _).alloc _).alloc _

/-! The table. -/
structure Tb where
  gn : Nat
  bn : Nat
  rn : Row
  old : Option (Nat × Nat × Row)
  frm : Nat
  moves : Int
namespace Tb
def oBits (t : Tb) : Nat := match t.old with | none => 0 | some (_, b, _) => b
def oRow (t : Tb) : Row := match t.old with | none => [] | some (_, _, r) => r
def oSlice (t : Tb) : Value := match t.old with | none => .slice none 0 0 | some (g, _, r) => .slice (some ⟨g, 0, none⟩) r.length r.length
def cells (t : Tb) : Array Value := #[.int .i64 t.bn, .slice (some ⟨t.gn, 0, none⟩) t.rn.length t.rn.length, .int .i64 (many t.rn : Nat), .int .i64 t.oBits, t.oSlice, .int .i64 (many t.oRow : Nat), .int .i64 t.frm, .int .u64 t.moves]
/-- The blocks of a table. -/
def owns (b : Nat) (t : Tb) (k : Nat) : Prop := k = b ∨ k = t.gn ∨ ∃ g bo r, t.old = some (g, bo, r) ∧ k = g
end Tb
structure OldAt (w : World) (b gn g bo : Nat) (r : Row) : Prop where
  row : Blk w g (flat slotV r)
  ne : b ≠ g
  ne2 : gn ≠ g
  len : r.length = 2 ^ bo
  b1 : 1 ≤ bo
  b2 : bo ≤ 20
structure TabAt (w : World) (b : Nat) (t : Tb) : Prop where
  head : Blk w b t.cells
  row : Blk w t.gn (flat slotV t.rn)
  ne : b ≠ t.gn
  len : t.rn.length = 2 ^ t.bn
  b1 : 1 ≤ t.bn
  b2 : t.bn ≤ 20
  old : ∀ g bo r, t.old = some (g, bo, r) → OldAt w b t.gn g bo r
section
variable {w : World} {b : Nat} {t : Tb}
theorem TabAt.now (h : TabAt w b t) : RowsAt w b 0 t.gn t.cells t.bn (many t.rn) t.rn :=
  { head := h.head, k0 := rfl, k1 := rfl, k2 := rfl, row := h.row, ne := h.ne, len := h.len, b1 := h.b1, b2 := h.b2 }
theorem TabAt.was (h : TabAt w b t) {g bo : Nat} {r : Row} (e : t.old = some (g, bo, r)) : RowsAt w b 3 g t.cells bo (many r) r := by
  have ho := h.old g bo r e
  refine { head := h.head, k0 := ?_, k1 := ?_, k2 := ?_, row := ho.row, ne := ho.ne, len := ho.len, b1 := ho.b1, b2 := ho.b2 }
  · show some (Value.int .i64 (t.oBits : Nat)) = _
    unfold Tb.oBits; rw [e]
  · show some t.oSlice = _
    unfold Tb.oSlice; rw [e]
  · show some (Value.int .i64 (many t.oRow : Nat)) = _
    unfold Tb.oRow; rw [e]
theorem TabAt.kept {F : Nat → Prop} {w' : World} (h : TabAt w b t) (hk : Kept F w w') (hF : ∀ k, t.owns b k → ¬ F k) : TabAt w' b t :=
  { h with head := h.head.kept hk (hF _ (.inl rfl)), row := h.row.kept hk (hF _ (.inr (.inl rfl))),
           old := fun g bo r e => { h.old g bo r e with row := (h.old g bo r e).row.kept hk (hF _ (.inr (.inr ⟨g, bo, r, e, rfl⟩))) } }
theorem TabAt.of_heap {w' : World} (h : TabAt w b t) (e : w'.heap = w.heap) : TabAt w' b t :=
  { h with head := h.head.of_eq (by rw [e]), row := h.row.of_eq (by rw [e]), old := fun g bo r q => { h.old g bo r q with row := (h.old g bo r q).row.of_eq (by rw [e]) } }
theorem TabAt.lt (h : TabAt w b t) {k : Nat} (hk : t.owns b k) : k < w.heap.size := by
  rcases hk with rfl | rfl | ⟨g, bo, r, e, rfl⟩
  · exact h.head.lt
  · exact h.row.lt
  · exact (h.old _ _ _ e).row.lt
theorem TabAt.c0 (h : TabAt w b t) : w.cell? ⟨b, 0, none⟩ = some (.int .i64 t.bn) := (h.head.cell 0).trans rfl
theorem TabAt.c1 (h : TabAt w b t) : w.cell? ⟨b, 1, none⟩ = some (.slice (some ⟨t.gn, 0, none⟩) t.rn.length t.rn.length) := (h.head.cell 1).trans rfl
theorem TabAt.c2 (h : TabAt w b t) : w.cell? ⟨b, 2, none⟩ = some (.int .i64 (many t.rn : Nat)) := (h.head.cell 2).trans rfl
theorem TabAt.c3 (h : TabAt w b t) : w.cell? ⟨b, 3, none⟩ = some (.int .i64 t.oBits) := (h.head.cell 3).trans rfl
theorem TabAt.c4 (h : TabAt w b t) : w.cell? ⟨b, 4, none⟩ = some t.oSlice := (h.head.cell 4).trans rfl
theorem TabAt.c5 (h : TabAt w b t) : w.cell? ⟨b, 5, none⟩ = some (.int .i64 (many t.oRow : Nat)) := (h.head.cell 5).trans rfl
theorem TabAt.c6 (h : TabAt w b t) : w.cell? ⟨b, 6, none⟩ = some (.int .i64 t.frm) := (h.head.cell 6).trans rfl
theorem TabAt.c7 (h : TabAt w b t) : w.cell? ⟨b, 7, none⟩ = some (.int .u64 t.moves) := (h.head.cell 7).trans rfl
theorem rows_find_none (cs : Array Value) (off : Nat) (hb : Blk w b cs) (h1 : cs[off + 1]? = some (.slice none 0 0)) (key : Int) :
    Calls Try.prog 66 #[.pointer (some ⟨b, off, none⟩), .int .u64 key] w fun e w' => e = .returned (.tuple #[.int .i64 0, .bool false]) ∧ w' = w := by
  have h2 := (hb.cell (off + 1)).trans h1
  go_enter Try.func66, Try.ntmps66
  go_wp2_with fail
  go_ret2
  exact ⟨rfl, rfl⟩
end
def Tb.new (g : Nat) : Tb := ⟨g, 3, List.replicate 8 none, none, 0, 0⟩
set_option maxRecDepth 100000 in
theorem New_calls (w : World) :
    Calls Try.prog 29 #[] w fun e w' => ∃ b g, e = .returned (.pointer (some ⟨b, 0, none⟩)) ∧ TabAt w' b (Tb.new g) ∧ Calm w w' ∧ w.heap.size ≤ b ∧ w.heap.size ≤ g := by
  go_enter Try.func29, Try.ntmps29
  go_wp2_with (go_at_call 56; refine (fresh_calls _ 3 (by decide)).mono ?_; rintro e w' ⟨g, rfl, hg, hc, hz⟩)
  go_ret
  refine ⟨w'.heap.size, g, rfl, ?_, Kept.alloc hc _, hc.size, hz⟩
  have hlt := hg.lt
  refine { head := Blk.new _ _ _, row := hg.alloc _, ne := by show w'.heap.size ≠ g; omega, len := rfl, b1 := by show 1 ≤ 3; decide, b2 := by show 3 ≤ 20; decide, old := fun _ _ _ q => by cases q }
end Look
end Go.Proofs.Ytekbgpfpnjddgaa
