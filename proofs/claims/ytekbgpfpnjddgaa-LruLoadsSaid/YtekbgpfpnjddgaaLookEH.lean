/- The table of two rows of slots: what a table holds; move. The table of two rows of slots: what putting and dropping make of what a table holds; grow. The table of two rows of slots: Len, Moves, Find, grow. The table of two rows of slots: Drop; a table as its user has it. -/
import Derived.Test.YtekbgpfpnjddgaaLookAD
import Derived.Defers
namespace Go.Proofs.Ytekbgpfpnjddgaa
open Go.RowKit
namespace Look
open Mix

/-- What a table holds, the pairs L; s: how many keys more than it should be may still have to be moved, fourfold. -/
structure TabOK (t : Tb) (L : List (Int × Int)) (s : Nat) : Prop where
  wn : Well (homeOf t.bn) t.rn
  wo : ∀ g bo r, t.old = some (g, bo, r) → Well (homeOf bo) r ∧ many r < r.length ∧ ∀ p, taken r p → t.frm ≤ p
  apart : ∀ k v v', In t.rn (k, v) → ¬ In t.oRow (k, v')
  mem : ∀ x, x ∈ L ↔ In t.rn x ∨ In t.oRow x
  sum : L.length = many t.rn + many t.oRow
  room : 2 * L.length ≤ t.rn.length
  bal : t.old ≠ none → 4 * many t.oRow + 16 * L.length ≤ 5 * t.rn.length + s
  fl : ∀ g bo r, t.old = some (g, bo, r) → t.frm ≤ r.length
  mv : 0 ≤ t.moves ∧ t.moves < 18446744073709551616
  nd : (L.map Prod.fst).Nodup
theorem many_zero {r : Row} (h : many r = 0) (x : Int × Int) : ¬ In r x := by
  rintro ⟨p, e⟩
  have := many_none r p x e
  omega
theorem In.once {h : Int → Nat} {r : Row} (hw : Well h r) {k v v' : Int} (a : In r (k, v)) (b : In r (k, v')) : v = v' := by
  obtain ⟨i, hi⟩ := a
  obtain ⟨j, hj⟩ := b
  have := hw.once i j k v v' hi hj
  subst this
  rw [hi] at hj
  injection hj with hj
  injection hj
section
variable {t : Tb} {L : List (Int × Int)} {s : Nat}
theorem TabOK.oRow_eq {g bo : Nat} {r : Row} (e : t.old = some (g, bo, r)) : t.oRow = r := by unfold Tb.oRow; rw [e]
theorem TabOK.oRow_none (e : t.old = none) : t.oRow = [] := by unfold Tb.oRow; rw [e]
theorem TabOK.keep (h : TabOK t L s) (e : t.old = none) : TabOK { t with frm := 0 } L 0 :=
  { wn := h.wn, wo := fun g bo r q => (by rw [e] at q; cases q), apart := h.apart, mem := h.mem, sum := h.sum, room := h.room, bal := fun q => absurd e q, fl := fun g bo r q => (by rw [show t.old = none from e] at q; cases q), mv := h.mv, nd := h.nd }
theorem TabOK.clean (h : TabOK t L s) {g bo : Nat} {r : Row} (e : t.old = some (g, bo, r)) (hm : many r = 0) : TabOK { t with old := none, frm := 0 } L 0 := by
  have eo := TabOK.oRow_eq e
  refine { wn := h.wn, wo := fun g bo r q => (by cases q), apart := ?_, mem := ?_, sum := ?_, room := h.room, bal := fun q => absurd rfl q, fl := fun g bo r q => (by cases q), mv := h.mv, nd := h.nd }
  · intro k v v' _
    exact many_zero rfl _
  · intro x
    rw [h.mem, eo]
    exact or_congr Iff.rfl ⟨fun q => absurd q (many_zero hm _), fun q => absurd q (many_zero rfl _)⟩
  · rw [h.sum, eo, hm]; rfl
theorem TabOK.on (h : TabOK t L s) {g bo : Nat} {r : Row} (e : t.old = some (g, bo, r)) (hl : t.frm < r.length) (hf : slot r t.frm = none) : TabOK { t with frm := t.frm + 1 } L s := by
  refine { wn := h.wn, wo := ?wo, apart := h.apart, mem := h.mem, sum := h.sum, room := h.room, bal := h.bal, fl := ?fl, mv := h.mv, nd := h.nd }
  case fl =>
    intro g' bo' r' q
    have q : t.old = some (g', bo', r') := q
    rw [e] at q
    injection q with q
    injection q with _ q
    injection q with _ q
    subst q
    exact hl
  intro g' bo' r' q
  obtain ⟨a, c, d⟩ := h.wo g' bo' r' q
  refine ⟨a, c, fun p hp => ?_⟩
  have := d p hp
  have q : t.old = some (g', bo', r') := q
  rw [e] at q
  injection q with q
  injection q with _ q
  injection q with _ q
  subst q
  have : p ≠ t.frm := fun c => by subst c; obtain ⟨x, hx⟩ := hp; rw [hf] at hx; cases hx
  show t.frm + 1 ≤ p
  omega
theorem TabOK.moved (h : TabOK t L s) {g bo : Nat} {r r' rn' : Row} (e : t.old = some (g, bo, r)) {key u m : Int} (hx : slot r t.frm = some (key, u)) (hs : 4 ≤ s)
    (w1 : Well (homeOf bo) r') (l1 : r'.length = r.length) (m1 : many r' + 1 = many r) (i1 : ∀ x, In r' x ↔ In r x ∧ x.1 ≠ key) (z1 : ∀ p, taken r' p → taken r p)
    (w2 : Well (homeOf t.bn) rn') (l2 : rn'.length = t.rn.length) (new : Bool) (m2 : many rn' = many t.rn + (if new = true then 1 else 0)) (i2 : ∀ x, In rn' x ↔ x = (key, u) ∨ (In t.rn x ∧ x.1 ≠ key)) (n2 : new = true ↔ ∀ v, ¬ In t.rn (key, v)) (hmv : 0 ≤ m ∧ m < 18446744073709551616) :
    TabOK { t with rn := rn', old := some (g, bo, r'), moves := m } L (s - 4) := by
  have eo := TabOK.oRow_eq e
  obtain ⟨ha, hb, hc⟩ := h.wo g bo r e
  have hin : In r (key, u) := ⟨_, hx⟩
  have hno : ∀ v, ¬ In t.rn (key, v) := fun v q => h.apart key v u q (by rw [eo]; exact hin)
  have hnew := n2.2 hno
  rw [if_pos hnew] at m2
  have hs0 := h.sum
  rw [eo] at hs0
  refine { wn := w2, wo := ?_, apart := ?_, mem := ?_, sum := ?_, room := ?_, bal := ?_, fl := ?fl, mv := hmv, nd := h.nd }
  case fl =>
    intro g' bo' r'' q
    injection q with q
    injection q with q1 q
    injection q with q2 q
    subst q
    show t.frm ≤ r'.length
    rw [l1]
    exact h.fl _ _ _ e
  · intro g' bo' r'' q
    injection q with q
    injection q with q1 q
    injection q with q2 q
    subst q1 q2 q
    exact ⟨w1, by omega, fun p hp => hc p (z1 p hp)⟩
  · intro k v v' q q'
    have q' : In r' (k, v') := q'
    rw [i1] at q'
    have q : In rn' (k, v) := q
    rw [i2] at q
    rcases q with q | ⟨q, _⟩
    · injection q with q _
      exact q'.2 q
    · exact h.apart k v v' q (by rw [eo]; exact q'.1)
  · intro x
    show x ∈ L ↔ In rn' x ∨ In r' x
    rw [h.mem, eo, i1, i2]
    constructor
    · rintro (q | q)
      · refine .inl (.inr ⟨q, fun ek => ?_⟩)
        obtain ⟨k, v⟩ := x
        simp only at ek
        subst ek
        exact hno v q
      · by_cases c : x.1 = key
        · obtain ⟨k, v⟩ := x
          simp only at c
          subst c
          rw [In.once ha q hin]
          exact .inl (.inl rfl)
        · exact .inr ⟨q, c⟩
    · rintro ((rfl | q) | q)
      · exact .inr hin
      · exact .inl q.1
      · exact .inr q.1
  · show L.length = many rn' + many r'
    omega
  · show 2 * L.length ≤ rn'.length
    rw [l2]; exact h.room
  · intro _
    have := h.bal (by rw [e]; exact fun q => by cases q)
    rw [eo] at this
    show 4 * many r' + 16 * L.length ≤ 5 * rn'.length + (s - 4)
    omega
end
/-- So many keys more were moved. -/
def Moved (m m' : Int) (n : Nat) : Prop := m' = IntKind.u64.wrap (m + n)
theorem u64_idem (x : Int) (y : Int) : IntKind.u64.wrap (IntKind.u64.wrap x + y) = IntKind.u64.wrap (x + y) := by
  rw [IntKind.wrap_u64, IntKind.wrap_u64, IntKind.wrap_u64]; omega
theorem u64_in (x : Int) : 0 ≤ IntKind.u64.wrap x ∧ IntKind.u64.wrap x < 18446744073709551616 := by
  rw [IntKind.wrap_u64]; omega
theorem Moved.step {m m' : Int} {n : Nat} (h : Moved m m' n) : Moved m (IntKind.u64.wrap (m' + 1)) (n + 1) := by
  unfold Moved at *
  rw [h, u64_idem]
  congr 1
  omega
section
variable {w : World} {b : Nat} {t : Tb} {L : List (Int × Int)}
/-- What a move does. -/
def MovedTo (b : Nat) (t : Tb) (L : List (Int × Int)) (w w' : World) : Prop :=
  ∃ t' : Tb, TabAt w' b t' ∧ TabOK t' L 0 ∧ Kept (t.owns b) w w' ∧ t'.gn = t.gn ∧ t'.bn = t.bn ∧ t'.rn.length = t.rn.length ∧ (∀ k, t'.owns b k → t.owns b k) ∧ ∃ n, n ≤ 4 ∧ Moved t.moves t'.moves n
theorem TabAt.drop (h : TabAt w b t) : TabAt ((((w.setCell ⟨b, 3, none⟩ (.int .i64 0)).setCell ⟨b, 4, none⟩ (.slice none 0 0)).setCell ⟨b, 5, none⟩ (.int .i64 0)).setCell ⟨b, 6, none⟩ (.int .i64 0)) b { t with old := none, frm := 0 } :=
  { head := (((h.head.set 3 _).set 4 _).set 5 _).set 6 _, row := (((h.row.other (Ne.symm h.ne) _).other (Ne.symm h.ne) _).other (Ne.symm h.ne) _).other (Ne.symm h.ne) _,
    ne := h.ne, len := h.len, b1 := h.b1, b2 := h.b2, old := fun _ _ _ q => by cases q }
theorem keep4 (F : Nat → Prop) (hb : F b) {w0 : World} (h : Kept F w0 w) (v1 v2 v3 v4 : Value) : Kept F w0 ((((w.setCell ⟨b, 3, none⟩ v1).setCell ⟨b, 4, none⟩ v2).setCell ⟨b, 5, none⟩ v3).setCell ⟨b, 6, none⟩ v4) :=
  (((h.setCell (p := ⟨b, 3, none⟩) (fun _ => hb) _).setCell (p := ⟨b, 4, none⟩) (fun _ => hb) _).setCell (p := ⟨b, 5, none⟩) (fun _ => hb) _).setCell (p := ⟨b, 6, none⟩) (fun _ => hb) _
/-- What the loop of a move knows, d keys being moved. -/
structure Moving (w0 : World) (b : Nat) (t : Tb) (L : List (Int × Int)) (d : Nat) (tr : Tb) (wr : World) : Prop where
  hd : d ≤ 4
  tab : TabAt wr b tr
  ok : TabOK tr L (16 - 4 * d)
  kept : Kept (t.owns b) w0 wr
  gn : tr.gn = t.gn
  bn : tr.bn = t.bn
  rl : tr.rn.length = t.rn.length
  owns : ∀ k, tr.owns b k → t.owns b k
  moved : Moved t.moves tr.moves d
theorem Moving.rows {w0 wr : World} {d : Nat} {tr : Tb} (h : Moving w0 b t L d tr wr) : many tr.rn < tr.rn.length := by
  have h1 := h.ok.sum
  have h2 := h.ok.room
  have h3 := h.tab.now.small
  omega
theorem Moving.empty {w0 wr : World} {d : Nat} {tr : Tb} (h : Moving w0 b t L d tr wr) (hm : many tr.oRow = 0) :
    MovedTo b t L w0 ((((wr.setCell ⟨b, 3, none⟩ (.int .i64 0)).setCell ⟨b, 4, none⟩ (.slice none 0 0)).setCell ⟨b, 5, none⟩ (.int .i64 0)).setCell ⟨b, 6, none⟩ (.int .i64 0)) := by
  refine ⟨{ tr with old := none, frm := 0 }, h.tab.drop, ?_, keep4 _ (.inl rfl) h.kept _ _ _ _, h.gn, h.bn, h.rl, ?_, d, h.hd, h.moved⟩
  · cases e : tr.old with
    | none =>
      have := h.ok.keep e
      rw [← e]; exact this
    | some x =>
      obtain ⟨g, bo, r⟩ := x
      exact h.ok.clean e (by rw [TabOK.oRow_eq e] at hm; exact hm)
  · rintro k (q | q | ⟨g, bo, r, q, _⟩)
    · exact .inl q
    · exact h.owns k (.inr (.inl q))
    · cases q
def frmOf (b : Nat) (w : World) : Nat := match w.cell? ⟨b, 6, none⟩ with | some v => (intOf v).toNat | none => 0
theorem frmOf_eq (h : TabAt w b t) : frmOf b w = t.frm := by unfold frmOf; rw [h.c6]; simp [intOf]
theorem TabAt.setFrm (h : TabAt w b t) (n : Nat) : TabAt (w.setCell ⟨b, 6, none⟩ (.int .i64 (n : Nat))) b { t with frm := n } :=
  { head := h.head.set 6 _, row := h.row.other (Ne.symm h.ne) _, ne := h.ne, len := h.len, b1 := h.b1, b2 := h.b2,
    old := fun g bo r q => { h.old g bo r q with row := (h.old g bo r q).row.other (Ne.symm (h.old g bo r q).ne) _ } }
theorem TabAt.setMoves (h : TabAt w b t) (n : Int) : TabAt (w.setCell ⟨b, 7, none⟩ (.int .u64 n)) b { t with moves := n } :=
  { head := h.head.set 7 _, row := h.row.other (Ne.symm h.ne) _, ne := h.ne, len := h.len, b1 := h.b1, b2 := h.b2,
    old := fun g bo r q => { h.old g bo r q with row := (h.old g bo r q).row.other (Ne.symm (h.old g bo r q).ne) _ } }
theorem TabAt.calm {w' : World} (h : TabAt w b t) (hk : Calm w w') : TabAt w' b t := h.kept hk (fun _ _ q => q)
theorem Moving.calm {w0 wr w' : World} {d : Nat} {tr : Tb} (h : Moving w0 b t L d tr wr) (hk : Calm wr w') : Moving w0 b t L d tr w' :=
  { h with tab := h.tab.calm hk, kept := h.kept.trans (hk.mono (fun _ _ q => q.elim)) }
theorem Moving.on {w0 wr : World} {d : Nat} {tr : Tb} (h : Moving w0 b t L d tr wr) {g bo : Nat} {r : Row} (e : tr.old = some (g, bo, r)) (hf : tr.frm < r.length) (es : slot r tr.frm = none) :
    Moving w0 b t L d { tr with frm := tr.frm + 1 } (wr.setCell ⟨b, 6, none⟩ (.int .i64 ((tr.frm : Int) + 1))) := by
  have h1 := h.tab.setFrm (tr.frm + 1)
  rw [Int.natCast_add] at h1
  exact { hd := h.hd, tab := h1, ok := h.ok.on e hf es, kept := h.kept.setCell (fun _ => .inl rfl) _, gn := h.gn, bn := h.bn, rl := h.rl, owns := fun k q => h.owns k q, moved := h.moved }
theorem TabAt.setOld {w' : World} {g bo : Nat} {r r' : Row} (h : TabAt w b t) (e : t.old = some (g, bo, r)) (hr : RowsAt w' b 3 g (t.cells.setIfInBounds (3 + 2) (.int .i64 (many r' : Nat))) bo (many r') r') (hk : Kept (Two b g) w w') (l : r'.length = r.length) : TabAt w' b { t with old := some (g, bo, r') } := by
  have ho := h.old g bo r e
  have hc : ({ t with old := some (g, bo, r') } : Tb).cells = t.cells.setIfInBounds (3 + 2) (.int .i64 (many r' : Nat)) := by
    have e1 : t.oSlice = .slice (some ⟨g, 0, none⟩) r'.length r'.length := by unfold Tb.oSlice; rw [e, l]
    have e2 : t.oBits = bo := by unfold Tb.oBits; rw [e]
    unfold Tb.cells
    rw [e1, e2]
    rfl
  refine { head := by rw [hc]; exact hr.head, row := h.row.kept hk ?_, ne := h.ne, len := h.len, b1 := h.b1, b2 := h.b2, old := ?_ }
  · rintro (q | q)
    · exact h.ne q.symm
    · exact ho.ne2 q
  · intro g' bo' r'' q
    injection q with q
    injection q with q1 q
    injection q with q2 q
    subst q1 q2 q
    exact { row := hr.row, ne := ho.ne, ne2 := ho.ne2, len := hr.len, b1 := hr.b1, b2 := hr.b2 }
theorem TabAt.setNow {w' : World} {rn' : Row} (h : TabAt w b t) (hr : RowsAt w' b 0 t.gn (t.cells.setIfInBounds (0 + 2) (.int .i64 (many rn' : Nat))) t.bn (many rn') rn') (hk : Kept (Two b t.gn) w w') (l : rn'.length = t.rn.length) : TabAt w' b { t with rn := rn' } := by
  have hc : ({ t with rn := rn' } : Tb).cells = t.cells.setIfInBounds (0 + 2) (.int .i64 (many rn' : Nat)) := by
    unfold Tb.cells
    rw [← l]
    rfl
  refine { head := by rw [hc]; exact hr.head, row := hr.row, ne := h.ne, len := hr.len, b1 := h.b1, b2 := h.b2, old := ?_ }
  intro g bo r q
  have ho := h.old g bo r q
  refine { ho with row := ho.row.kept hk ?_ }
  rintro (q | q)
  · exact ho.ne q.symm
  · exact ho.ne2 q.symm
theorem owns_now {g bo : Nat} {r : Row} (e : t.old = some (g, bo, r)) (k : Nat) (h : Two b g k) : t.owns b k := by
  rcases h with h | h
  · exact .inl h
  · exact .inr (.inr ⟨g, bo, r, e, h⟩)
set_option maxRecDepth 100000 in
theorem move_calls (u : FrameMode) (hat : TabAt w b t) (hok : TabOK t L 16) :
    CallsD Try.prog 65 #[.pointer (some ⟨b, 0, none⟩), .int .i64 4] u w fun e u' w' => u' = u ∧ (e = .returned (.tuple #[]) ∧ MovedTo b t L w w') := by
  have hm0 := hok.mv
  have hM0 : Moved t.moves t.moves 0 := by unfold Moved; rw [IntKind.wrap_u64]; omega
  have HM0 := Lib.hid hM0
  clear hM0 hm0
  go_enter_d Try.func65, Try.ntmps65
  go_upto_region 1 with fail
  go_loopw [4] (fun v4 wr => ∃ (d : Nat) (tr : Tb), v4 = .int .i64 (d : Int) ∧ Moving w b t L d tr wr) (fun v4 wr => 4 - (intOf v4).toNat + (1048576 - frmOf b wr))
  case atStart => exact ⟨0, t, rfl, by omega, hat, hok, Kept.refl _ _, rfl, rfl, rfl, fun _ h => h, HM0.out⟩
  case round =>
    obtain ⟨d, tr, rfl, hr⟩ := hrel
    have hd := hr.hd
    have h3 := hr.tab.c3
    have h4 := hr.tab.c4
    have h5 := hr.tab.c5
    have h6 := hr.tab.c6
    have hz := fun o => hr.tab.head.frozen o
    by_cases hmz : many tr.oRow = 0
    · rw [hmz] at h5
      have HR := Lib.hid hr
      have HZ := Lib.hid hmz
      clear hr hmz
      by_cases hd4 : d = 4
      · subst hd4
        go_wp2_with fail
        go_end0
        exact ⟨rfl, HR.out.empty HZ.out⟩
      · go_wp2_with fail
        go_end0
        exact ⟨rfl, HR.out.empty HZ.out⟩
    · have hnz : (((many tr.oRow : Nat) : Int) == 0) = false := by simpa using hmz
      have hpos : (0 : Int) < ((many tr.oRow : Nat) : Int) := by omega
      by_cases hd4 : d = 4
      · subst hd4
        have HR := Lib.hid hr
        clear hr hmz
        go_wp2_with fail
        go_end0
        exact ⟨rfl, tr, HR.out.tab, HR.out.ok, HR.out.kept, HR.out.gn, HR.out.bn, HR.out.rl, HR.out.owns, 4, Nat.le_refl _, HR.out.moved⟩
      · obtain ⟨g, bo, r, eo⟩ : ∃ g bo r, tr.old = some (g, bo, r) := by
          cases e : tr.old with
          | none => rw [TabOK.oRow_none e] at hmz; exact absurd rfl hmz
          | some x => exact ⟨x.1, x.2.1, x.2.2, rfl⟩
        have er := TabOK.oRow_eq eo
        obtain ⟨ow1, ow2, ow3⟩ := hr.ok.wo g bo r eo
        have hf : tr.frm < r.length := by
          obtain ⟨p, hp⟩ := many_taken r (by rw [er] at hmz; omega)
          have := ow3 p hp
          obtain ⟨x, hx⟩ := hp
          have := slot_lt hx
          omega
        have hW := hr.tab.was eo
        have hws := hW.small
        have e4 : tr.oSlice = .slice (some ⟨g, 0, none⟩) r.length r.length := by unfold Tb.oSlice; rw [eo]
        rw [e4] at h4
        have g0 := hW.s0 hf
        have g1 := hW.s1 hf
        have g2 := hW.s2 hf
        have hf' : (tr.frm : Int) < (r.length : Int) := Int.ofNat_lt.2 hf
        have hl' : (r.length : Int) ≤ 1048576 := by omega
        rw [er] at h5 hnz hpos
        have hpos' : 0 < many r := by omega
        have HR := Lib.hid hr
        have HW := Lib.hid hW
        have ER := Lib.hid er
        have HO3 := Lib.hid ow3
        have HO1 := Lib.hid ow1
        have EO := Lib.hid eo
        clear hr hW ow3 e4 hmz eo ow1 er
        have qb : b < wr.heap.size := HR.out.tab.head.lt
        have qg : g < wr.heap.size := HW.out.row.lt
        cases es : slot r tr.frm with
        | none =>
          rw [es] at g0 g1 g2
          simp only [keyOf] at g0
          simp only [nodeOf] at g1
          simp only [Option.isSome_none] at g2
          go_upto_region 2 with fail
          go_region
          all_goals go_wp2_with fail
          go_roundw
          case rel => exact ⟨d, _, rfl, ((HR.out.on EO.out hf es).calm (Kept.alloc (Kept.refl _ _) _)).calm (Kept.drew (Kept.refl _ _))⟩
          case measure =>
            have q1 := frmOf_eq HR.out.tab
            have q2 := frmOf_eq (((HR.out.on EO.out hf es).calm (Kept.alloc (Kept.refl _ _) (.cells #[.int .u64 0, .int .i32 0, .bool false] 134))).calm (Kept.drew (Kept.refl _ _))).tab
            rw [q1, q2]
            show 4 - (intOf (.int .i64 (d : Int))).toNat + (1048576 - (tr.frm + 1)) < 4 - (intOf (.int .i64 (d : Int))).toNat + (1048576 - tr.frm)
            omega
        | some x =>
          obtain ⟨key, u⟩ := x
          rw [es] at g0 g1 g2
          simp only [keyOf] at g0
          simp only [nodeOf] at g1
          simp only [Option.isSome_some] at g2
          go_upto_region 2 with fail
          go_region
          go_upto_region 5 with fail
          have QF := Lib.hid (frmOf_eq HR.out.tab)
          have HR1 := Lib.hid ((HR.out.calm (Kept.alloc (Kept.refl _ _) (.cells #[.int .u64 key, .int .i32 u, .bool true] 134))).calm (Kept.drew (Kept.refl _ _)))
          have HB := Lib.hid (Blk.drew (Blk.new wr #[.int .u64 key, .int .i32 u, .bool true] 134))
          have nb : wr.heap.size ≠ b := by omega
          have ng : wr.heap.size ≠ g := by omega
          have ngn : wr.heap.size ≠ tr.gn := by have := HR.out.tab.row.lt; omega
          clear h3 h4 h5 h6 g0 g1 g2 qb qg hz HR HW
          generalize (wr.alloc (.cells #[.int .u64 key, .int .i32 u, .bool true] 134)).drew = w1 at HR1 HB ⊢
          generalize wr.heap.size = B at HB nb ng ngn ⊢
          have h6 := HR1.out.tab.c6
          go_still_tail 7, (by kernel_rfl)
          change wpList _ _ _ _ _ w1.drew
          have HR2 := Lib.hid (HR1.out.calm (Kept.drew (Kept.refl _ _)))
          have HB2 := Lib.hid HB.out.drew
          clear h6 HR1 HB
          generalize w1.drew = w2 at HR2 HB2 ⊢
          have HC := Lib.hid (rows_clear_calls (HR2.out.tab.was EO.out) HO1.out ow2 es)
          go_upto_region 6 with (go_at_call 85; refine HC.out.mono ?_; rintro e w3 ⟨r', rfl, hr3, hk3, hw3, hl3, hm3, hi3, ht3⟩)
          have T3 := Lib.hid (HR2.out.tab.setOld EO.out hr3 hk3 hl3)
          have B3 := Lib.hid (HB2.out.kept hk3 (fun q => q.elim nb ng))
          have K3 := Lib.hid (HR2.out.kept.trans (hk3.mono (fun k _ q => HR2.out.owns k (owns_now EO.out k q))))
          have FR := Lib.hid hm3
          have FW := Lib.hid hw3
          have FI := Lib.hid hi3
          have FT := Lib.hid ht3
          have FL := Lib.hid hl3
          clear hr3 hk3 hw3 hl3 hm3 hi3 ht3 HC HB2
          have b0 := B3.out.cell 0
          have b1 := B3.out.cell 1
          go_still_tail 7, (by kernel_rfl)
          change wpList _ _ _ _ _ w3.drew
          have T4 := Lib.hid (T3.out.calm (Kept.drew (Kept.refl _ _)))
          have K4 := Lib.hid K3.out.drew
          clear b0 b1 T3 K3 B3
          generalize w3.drew = w4 at T4 K4 ⊢
          have hP := rows_put_calls T4.out.now HR2.out.ok.wn HR2.out.rows key u
          have HP := Lib.hid hP
          clear hP
          go_upto_region 7 with (go_at_call 69; refine HP.out.mono ?_; rintro e w5 ⟨rn', new, rfl, hr5, hk5, hw5, hl5, hm5, hi5, hn5⟩)
          have T5 := Lib.hid (T4.out.setNow hr5 hk5 hl5)
          have K5 := Lib.hid (K4.out.trans (hk5.mono (fun k _ q => HR2.out.owns k (q.elim .inl (fun q => .inr (.inl q))))))
          have hm7 := T5.out.c7
          have hz5 := fun o => T5.out.head.frozen o
          have GW := Lib.hid hw5
          have GL := Lib.hid hl5
          have GM := Lib.hid hm5
          have GI := Lib.hid hi5
          have GN := Lib.hid hn5
          clear hr5 hk5 hw5 hl5 hm5 hi5 hn5 HP
          simp only [] at hm7
          go_wp2_with fail
          go_roundw
          case rel =>
            have hok := HR2.out.ok.moved EO.out es (by omega) FW.out FL.out FR.out FI.out FT.out GW.out GL.out new GM.out GI.out GN.out (u64_in (tr.moves + 1))
            refine ⟨d + 1, _, by rw [Int.natCast_add]; rfl, { hd := by omega, tab := T5.out.setMoves _, ok := ?_, kept := K5.out.setCell (fun _ => .inl rfl) _, gn := HR2.out.gn, bn := HR2.out.bn, rl := GL.out.trans HR2.out.rl, owns := ?_, moved := HR2.out.moved.step }⟩
            · rw [show 16 - 4 * (d + 1) = 16 - 4 * d - 4 by omega]
              exact hok
            · rintro k (q | q | ⟨g', bo', r'', q, z⟩)
              · exact .inl q
              · exact HR2.out.owns k (.inr (.inl q))
              · injection q with q
                injection q with q1 q
                subst q1
                exact HR2.out.owns k (.inr (.inr ⟨g, bo, r, EO.out, z⟩))
          case measure =>
            have q2 := frmOf_eq (T5.out.setMoves (IntKind.u64.wrap (tr.moves + 1)))
            rw [q2, QF.out]
            show 4 - (intOf (.int .i64 ((d : Int) + 1))).toNat + (1048576 - tr.frm) < 4 - (intOf (.int .i64 (d : Int))).toNat + (1048576 - tr.frm)
            simp only [intOf]
            omega
end
end Look
end Go.Proofs.Ytekbgpfpnjddgaa
namespace Go.Proofs.Ytekbgpfpnjddgaa
open Go.RowKit
namespace Look
open Mix

def has (L : List (Int × Int)) (k : Int) : Bool := L.any (fun x => x.1 == k)
def del (L : List (Int × Int)) (k : Int) : List (Int × Int) := L.filter (fun x => !(x.1 == k))
def put (L : List (Int × Int)) (k v : Int) : List (Int × Int) := (k, v) :: del L k
def get (L : List (Int × Int)) (k : Int) : Int × Bool := match L.find? (fun x => x.1 == k) with | some x => (x.2, true) | none => (0, false)
theorem mem_del {L : List (Int × Int)} {k : Int} {x : Int × Int} : x ∈ del L k ↔ x ∈ L ∧ x.1 ≠ k := by simp [del]
theorem mem_put {L : List (Int × Int)} {k v : Int} {x : Int × Int} : x ∈ put L k v ↔ x = (k, v) ∨ (x ∈ L ∧ x.1 ≠ k) := by simp [put, mem_del]
theorem has_iff {L : List (Int × Int)} {k : Int} : has L k = true ↔ ∃ v, (k, v) ∈ L := by
  simp only [has, List.any_eq_true, beq_iff_eq]
  constructor
  · rintro ⟨⟨a, v⟩, h, rfl⟩; exact ⟨v, h⟩
  · rintro ⟨v, h⟩; exact ⟨_, h, rfl⟩
theorem not_has_iff {L : List (Int × Int)} {k : Int} : has L k = false ↔ ∀ v, (k, v) ∉ L := by
  rw [Bool.eq_false_iff, Ne, has_iff]
  exact ⟨fun h v q => h ⟨v, q⟩, fun h ⟨v, q⟩ => h v q⟩
theorem nd_del {L : List (Int × Int)} (h : (L.map Prod.fst).Nodup) (k : Int) : ((del L k).map Prod.fst).Nodup :=
  List.Nodup.sublist (List.Sublist.map _ List.filter_sublist) h
theorem nd_put {L : List (Int × Int)} (h : (L.map Prod.fst).Nodup) (k v : Int) : ((put L k v).map Prod.fst).Nodup := by
  unfold put
  rw [List.map_cons, List.nodup_cons]
  refine ⟨?_, nd_del h k⟩
  intro q
  obtain ⟨x, hx, e⟩ := List.mem_map.1 q
  exact (mem_del.1 hx).2 e
theorem del_none {L : List (Int × Int)} {k : Int} (h : has L k = false) : del L k = L := by
  unfold del
  rw [List.filter_eq_self]
  intro x hx
  obtain ⟨a, v⟩ := x
  have := not_has_iff.1 h v
  simp only [Bool.not_eq_true', beq_eq_false_iff_ne, ne_eq]
  rintro rfl
  exact this hx
theorem len_del : ∀ {L : List (Int × Int)} {k : Int}, (L.map Prod.fst).Nodup → has L k = true → (del L k).length + 1 = L.length
  | [], k, _, h => by simp [has] at h
  | (a, v) :: L, k, hn, h => by
    rw [List.map_cons, List.nodup_cons] at hn
    by_cases c : a = k
    · subst c
      have h2 : has L a = false := by
        rw [not_has_iff]
        intro v' q
        exact hn.1 (List.mem_map.2 ⟨_, q, rfl⟩)
      have e : del ((a, v) :: L) a = del L a := by simp [del]
      rw [e, del_none h2]; rfl
    · have h2 : has L k = true := by
        simp only [has, List.any_cons, Bool.or_eq_true, beq_iff_eq] at h
        rcases h with h | h
        · exact absurd h c
        · exact h
      have e : del ((a, v) :: L) k = (a, v) :: del L k := by simp [del, c]
      rw [e, List.length_cons, List.length_cons, len_del hn.2 h2]
theorem get_in {L : List (Int × Int)} (hn : (L.map Prod.fst).Nodup) {k v : Int} (h : (k, v) ∈ L) : get L k = (v, true) := by
  unfold get
  cases e : L.find? (fun x => x.1 == k) with
  | none => 
    have := List.find?_eq_none.1 e _ h
    simp at this
  | some x =>
    have h1 := List.find?_some e
    have h2 := List.mem_of_find?_eq_some e
    obtain ⟨a, u⟩ := x
    simp only [beq_iff_eq] at h1
    subst h1
    have : u = v := by
      clear e
      induction L with
      | nil => cases h
      | cons y L ih =>
        rw [List.map_cons, List.nodup_cons] at hn
        rcases List.mem_cons.1 h with q | q
        · rcases List.mem_cons.1 h2 with q2 | q2
          · rw [← q2] at q; injection q with _ q; exact q.symm
          · exact absurd (List.mem_map.2 ⟨_, q2, by rw [← q]⟩) hn.1
        · rcases List.mem_cons.1 h2 with q2 | q2
          · exact absurd (List.mem_map.2 ⟨_, q, by rw [← q2]⟩) hn.1
          · exact ih (h := q) (h2 := q2) hn.2
    rw [this]
theorem get_out {L : List (Int × Int)} {k : Int} (h : has L k = false) : get L k = (0, false) := by
  unfold get
  cases e : L.find? (fun x => x.1 == k) with
  | none => rfl
  | some x =>
    have h1 := List.find?_some e
    have h2 := List.mem_of_find?_eq_some e
    obtain ⟨a, u⟩ := x
    simp only [beq_iff_eq] at h1
    subst h1
    exact absurd h2 (not_has_iff.1 h u)
section
variable {t : Tb} {L : List (Int × Int)}
theorem TabOK.over (h : TabOK t L 0) {g bo i : Nat} {r : Row} (e : t.old = some (g, bo, r)) {key u : Int} (es : slot r i = some (key, u)) (v : Int) : TabOK { t with old := some (g, bo, r.set i (some (key, v))) } (put L key v) 16 := by
  have eo := TabOK.oRow_eq e
  obtain ⟨ha, hb, hc⟩ := h.wo g bo r e
  have hm := many_over r i (key, v) _ es
  have hin : In r (key, u) := ⟨i, es⟩
  have hL : has L key = true := has_iff.2 ⟨u, (h.mem _).2 (.inr (by rw [eo]; exact hin))⟩
  have hl : (put L key v).length = L.length := by unfold put; rw [List.length_cons]; exact len_del h.nd hL
  have hno : ∀ v, ¬ In t.rn (key, v) := fun v q => h.apart key v u q (by rw [eo]; exact hin)
  refine { wn := h.wn, wo := ?_, apart := ?_, mem := ?_, sum := ?_, room := by rw [hl]; exact h.room, bal := ?_, fl := ?_, mv := h.mv, nd := nd_put h.nd _ _ }
  · intro g' bo' r'' q
    injection q with q
    injection q with q1 q
    injection q with q2 q
    subst q1 q2 q
    refine ⟨ha.over es v, by rw [hm, List.length_set]; exact hb, ?_⟩
    rintro p ⟨x, hx⟩
    refine hc p ?_
    rw [slot_set (slot_lt es)] at hx
    by_cases c : p = i
    · exact ⟨_, by rw [c]; exact es⟩
    · rw [if_neg c] at hx; exact ⟨x, hx⟩
  · intro k a a' q q'
    have q' : In (r.set i (some (key, v))) (k, a') := q'
    rw [In.over ha es] at q'
    rcases q' with q' | ⟨q', _⟩
    · injection q' with q' _
      subst q'
      exact hno a q
    · exact h.apart k a a' q (by rw [eo]; exact q')
  · intro x
    show x ∈ put L key v ↔ In t.rn x ∨ In (r.set i (some (key, v))) x
    rw [mem_put, h.mem, eo, In.over ha es]
    constructor
    · rintro (q | ⟨q | q, c⟩)
      · exact .inr (.inl q)
      · exact .inl q
      · exact .inr (.inr ⟨q, c⟩)
    · rintro (q | q | q)
      · refine .inr ⟨.inl q, fun c => ?_⟩
        obtain ⟨k, a⟩ := x
        simp only at c
        subst c
        exact hno a q
      · exact .inl q
      · exact .inr ⟨.inr q.1, q.2⟩
  · have := h.sum
    rw [eo] at this
    show (put L key v).length = many t.rn + many (r.set i (some (key, v)))
    omega
  · intro _
    have := h.bal (by rw [e]; exact fun q => by cases q)
    rw [eo] at this
    show 4 * many (r.set i (some (key, v))) + 16 * (put L key v).length ≤ 5 * t.rn.length + 16
    omega
  · intro g' bo' r'' q
    injection q with q
    injection q with q1 q
    injection q with q2 q
    subst q
    rw [List.length_set]
    exact h.fl _ _ _ e
theorem TabOK.putNow (h : TabOK t L 0) {key v : Int} (hno : ∀ u, ¬ In t.oRow (key, u)) {rn' : Row}
    (w2 : Well (homeOf t.bn) rn') (l2 : rn'.length = t.rn.length) (new : Bool) (m2 : many rn' = many t.rn + (if new = true then 1 else 0)) (i2 : ∀ x, In rn' x ↔ x = (key, v) ∨ (In t.rn x ∧ x.1 ≠ key)) (n2 : new = true ↔ ∀ v, ¬ In t.rn (key, v))
    (hroom : has L key = false → 2 * (L.length + 1) ≤ t.rn.length) : TabOK { t with rn := rn' } (put L key v) 16 ∧ new = !has L key := by
  have hnew : new = !has L key := by
    rw [Bool.eq_iff_iff, n2, Bool.not_eq_true', not_has_iff]
    refine forall_congr' fun u => not_congr ?_
    rw [h.mem]
    exact ⟨.inl, fun q => q.resolve_right (hno u)⟩
  have hs := h.sum
  have hr := h.room
  have hlen : (put L key v).length = L.length + (if new = true then 1 else 0) := by
    unfold put
    rw [List.length_cons]
    cases e : has L key with
    | true => rw [len_del h.nd e, hnew, e]; rfl
    | false => rw [del_none e, hnew, e]; rfl
  refine ⟨{ wn := w2, wo := h.wo, apart := ?_, mem := ?_, sum := ?_, room := ?_, bal := ?_, fl := h.fl, mv := h.mv, nd := nd_put h.nd _ _ }, hnew⟩
  · intro k a a' q
    have q : In rn' (k, a) := q
    rw [i2] at q
    rcases q with q | ⟨q, _⟩
    · injection q with q _
      subst q
      exact hno a'
    · exact h.apart k a a' q
  · intro x
    show x ∈ put L key v ↔ In rn' x ∨ In t.oRow x
    rw [mem_put, h.mem, i2]
    constructor
    · rintro (q | ⟨q | q, c⟩)
      · exact .inl (.inl q)
      · exact .inl (.inr ⟨q, c⟩)
      · exact .inr q
    · rintro ((q | q) | q)
      · exact .inl q
      · exact .inr ⟨.inl q.1, q.2⟩
      · refine .inr ⟨.inr q, fun c => ?_⟩
        obtain ⟨k, a⟩ := x
        simp only at c
        subst c
        exact hno a q
  · show (put L key v).length = many rn' + many t.oRow
    omega
  · show 2 * (put L key v).length ≤ rn'.length
    rw [l2, hlen]
    cases e : has L key with
    | true => rw [hnew, e]; simpa using hr
    | false => rw [hnew, e]; simpa using hroom e
  · intro c
    have := h.bal c
    show 4 * many t.oRow + 16 * (put L key v).length ≤ 5 * rn'.length + 16
    rw [l2, hlen]
    split <;> omega
theorem TabOK.delNow (h : TabOK t L 0) {key u : Int} {i : Nat} (es : slot t.rn i = some (key, u)) {r' : Row}
    (w1 : Well (homeOf t.bn) r') (l1 : r'.length = t.rn.length) (m1 : many r' + 1 = many t.rn) (i1 : ∀ x, In r' x ↔ In t.rn x ∧ x.1 ≠ key) : TabOK { t with rn := r' } (del L key) 16 ∧ has L key = true := by
  have hin : In t.rn (key, u) := ⟨i, es⟩
  have hL : has L key = true := has_iff.2 ⟨u, (h.mem _).2 (.inl hin)⟩
  have hl := len_del h.nd hL
  have hs := h.sum
  have hr := h.room
  refine ⟨{ wn := w1, wo := h.wo, apart := ?_, mem := ?_, sum := ?_, room := ?_, bal := ?_, fl := h.fl, mv := h.mv, nd := nd_del h.nd _ }, hL⟩
  · intro k a a' q
    have q : In r' (k, a) := q
    rw [i1] at q
    exact h.apart k a a' q.1
  · intro x
    show x ∈ del L key ↔ In r' x ∨ In t.oRow x
    rw [mem_del, h.mem, i1]
    constructor
    · rintro ⟨q | q, c⟩
      · exact .inl ⟨q, c⟩
      · exact .inr q
    · rintro (q | q)
      · exact ⟨.inl q.1, q.2⟩
      · refine ⟨.inr q, fun c => ?_⟩
        obtain ⟨k, a⟩ := x
        simp only at c
        subst c
        exact h.apart k u a hin q
  · show (del L key).length = many r' + many t.oRow
    omega
  · show 2 * (del L key).length ≤ r'.length
    omega
  · intro c
    have := h.bal c
    show 4 * many t.oRow + 16 * (del L key).length ≤ 5 * r'.length + 16
    omega
theorem TabOK.delOld (h : TabOK t L 0) {g bo : Nat} {r : Row} (e : t.old = some (g, bo, r)) {key u : Int} {i : Nat} (es : slot r i = some (key, u)) {r' : Row}
    (w1 : Well (homeOf bo) r') (l1 : r'.length = r.length) (m1 : many r' + 1 = many r) (i1 : ∀ x, In r' x ↔ In r x ∧ x.1 ≠ key) (z1 : ∀ p, taken r' p → taken r p) : TabOK { t with old := some (g, bo, r') } (del L key) 16 ∧ has L key = true := by
  have eo := TabOK.oRow_eq e
  obtain ⟨ha, hb, hc⟩ := h.wo g bo r e
  have hin : In r (key, u) := ⟨i, es⟩
  have hL : has L key = true := has_iff.2 ⟨u, (h.mem _).2 (.inr (by rw [eo]; exact hin))⟩
  have hl := len_del h.nd hL
  have hs := h.sum
  rw [eo] at hs
  have hr := h.room
  refine ⟨{ wn := h.wn, wo := ?_, apart := ?_, mem := ?_, sum := ?_, room := ?_, bal := ?_, fl := ?_, mv := h.mv, nd := nd_del h.nd _ }, hL⟩
  · intro g' bo' r'' q
    injection q with q
    injection q with q1 q
    injection q with q2 q
    subst q1 q2 q
    exact ⟨w1, by omega, fun p hp => hc p (z1 p hp)⟩
  · intro k a a' q q'
    have q' : In r' (k, a') := q'
    rw [i1] at q'
    exact h.apart k a a' q (by rw [eo]; exact q'.1)
  · intro x
    show x ∈ del L key ↔ In t.rn x ∨ In r' x
    rw [mem_del, h.mem, i1, eo]
    constructor
    · rintro ⟨q | q, c⟩
      · exact .inl q
      · exact .inr ⟨q, c⟩
    · rintro (q | q)
      · refine ⟨.inl q, fun c => ?_⟩
        obtain ⟨k, a⟩ := x
        simp only at c
        subst c
        exact h.apart k a u q (by rw [eo]; exact hin)
      · exact ⟨.inr q.1, q.2⟩
  · show (del L key).length = many t.rn + many r'
    omega
  · show 2 * (del L key).length ≤ t.rn.length
    omega
  · intro _
    have := h.bal (by rw [e]; exact fun q => by cases q)
    rw [eo] at this
    show 4 * many r' + 16 * (del L key).length ≤ 5 * t.rn.length + 16
    omega
  · intro g' bo' r'' q
    injection q with q
    injection q with q1 q
    injection q with q2 q
    subst q
    rw [l1]
    exact h.fl _ _ _ e
theorem slot_replicate (n p : Nat) : slot (List.replicate n none) p = none := by
  unfold slot
  rw [List.getD_eq_getElem?_getD, List.getElem?_replicate]
  split <;> rfl
theorem Well.empty {h : Int → Nat} {n : Nat} (hh : ∀ k, h k < n) : Well h (List.replicate n none) :=
  { home := fun k => by rw [List.length_replicate]; exact hh k
    once := fun i j k v v' q => absurd q (by rw [slot_replicate]; exact fun q => (by cases q))
    path := fun j k v q => absurd q (by rw [slot_replicate]; exact fun q => (by cases q)) }
theorem TabOK.grown (h : TabOK t L 0) (e : t.old = none) (hlen : t.rn.length = 2 ^ t.bn) (hb : 1 ≤ t.bn) (g : Nat) : TabOK ⟨g, t.bn + 1, List.replicate (2 ^ (t.bn + 1)) none, some (t.gn, t.bn, t.rn), 0, t.moves⟩ L 0 := by
  have eo := TabOK.oRow_none e
  have hs := h.sum
  rw [eo] at hs
  have hs : L.length = many t.rn := hs
  have hr := h.room
  have h2 := Nat.pow_le_pow_right (show 0 < 2 by decide) hb
  have hmz : many (List.replicate (2 ^ (t.bn + 1)) none) = 0 := many_replicate _
  refine { wn := Well.empty (homeOf_lt _), wo := ?_, apart := ?_, mem := ?_, sum := ?_, room := ?_, bal := ?_, fl := ?_, mv := h.mv, nd := h.nd }
  · intro g' bo' r'' q
    injection q with q
    injection q with q1 q
    injection q with q2 q
    subst q1 q2 q
    exact ⟨h.wn, by omega, fun p _ => Nat.zero_le _⟩
  · intro k a a' q
    exact absurd q (many_zero hmz _)
  · intro x
    rw [h.mem, eo]
    show In t.rn x ∨ In [] x ↔ In (List.replicate (2 ^ (t.bn + 1)) none) x ∨ In t.rn x
    exact ⟨fun q => q.elim .inr (fun q => absurd q (many_zero rfl _)), fun q => q.elim (fun q => absurd q (many_zero hmz _)) .inl⟩
  · show L.length = many (List.replicate (2 ^ (t.bn + 1)) none) + many t.rn
    omega
  · show 2 * L.length ≤ (List.replicate (2 ^ (t.bn + 1)) none).length
    rw [List.length_replicate, Nat.pow_succ]; omega
  · intro _
    show 4 * many t.rn + 16 * L.length ≤ 5 * (List.replicate (2 ^ (t.bn + 1)) none).length + 0
    rw [List.length_replicate, Nat.pow_succ]; omega
  · intro g' bo' r'' q
    exact Nat.zero_le _
theorem TabOK.full (h : TabOK t L 0) (hlen : t.rn.length = 2 ^ t.bn) (hb : 1 ≤ t.bn) (hf : t.rn.length < 2 * (L.length + 1)) : t.old = none := by
  have hr := h.room
  have h2 := Nat.pow_le_pow_right (show 0 < 2 by decide) hb
  have h3 : 2 ^ t.bn = 2 * 2 ^ (t.bn - 1) := by rw [← Nat.pow_succ']; congr 1; omega
  cases e : t.old with
  | none => rfl
  | some x =>
    have := h.bal (by rw [e]; exact fun q => by cases q)
    exfalso
    omega
theorem TabOK.empty (g : Nat) : TabOK (Tb.new g) [] 0 :=
  { wn := Well.empty (n := 8) (homeOf_lt 3), wo := (fun _ _ _ q => by cases q), apart := fun k v v' q => absurd q (many_zero rfl _), mem := fun x => ⟨fun q => (by cases q), fun q => q.elim (fun q => absurd q (many_zero rfl _)) (fun q => absurd q (many_zero rfl _))⟩,
    sum := rfl, room := by show 2 * 0 ≤ 8; decide, bal := fun q => absurd rfl q, fl := (fun _ _ _ q => by cases q), mv := by show (0 : Int) ≤ 0 ∧ (0 : Int) < 18446744073709551616; decide, nd := List.nodup_nil }
end
end Look
end Go.Proofs.Ytekbgpfpnjddgaa
namespace Go.Proofs.Ytekbgpfpnjddgaa
open Go.RowKit
namespace Look
open Mix
section
variable {w : World} {b off g : Nat} {cs : Array Value} {bits m : Nat} {r : Row}
theorem rows_find_in (h : RowsAt w b off g cs bits m r) (hw : Well (homeOf bits) r) (hm : many r < r.length) {key v : Int} (hin : In r (key, v)) :
    Calls Try.prog 66 #[.pointer (some ⟨b, off, none⟩), .int .u64 key] w fun e w' => ∃ i : Nat, e = .returned (.tuple #[.int .i64 i, .bool true]) ∧ w' = w ∧ slot r i = some (key, v) := by
  refine (rows_find_calls h hw hm key).mono ?_
  rintro e w' ⟨i, there, he, hw', hf⟩
  rcases hf with ⟨rfl, u, e⟩ | ⟨_, hs, e⟩
  · exact ⟨i, he, hw', by rw [e, In.once hw hin ⟨i, e⟩]⟩
  · exact absurd hin (hs.absent hw e v)
theorem rows_find_out (h : RowsAt w b off g cs bits m r) (hw : Well (homeOf bits) r) (hm : many r < r.length) {key : Int} (hno : ∀ v, ¬ In r (key, v)) :
    Calls Try.prog 66 #[.pointer (some ⟨b, off, none⟩), .int .u64 key] w fun e w' => ∃ i : Nat, e = .returned (.tuple #[.int .i64 i, .bool false]) ∧ w' = w ∧ slot r i = none := by
  refine (rows_find_calls h hw hm key).mono ?_
  rintro e w' ⟨i, there, he, hw', hf⟩
  rcases hf with ⟨_, u, e⟩ | ⟨rfl, hs, e⟩
  · exact absurd ⟨i, e⟩ (hno u)
  · exact ⟨i, he, hw', e⟩
end
section
variable {w : World} {b : Nat} {t : Tb} {L : List (Int × Int)}
theorem ret_i64 {a b : Int} (h : a = b) : Ending.returned (.int .i64 a) = .returned (.int .i64 b) := by rw [h]
theorem TabOK.few {s : Nat} (h : TabOK t L s) (hat : TabAt w b t) : many t.rn ≤ 1048576 ∧ many t.oRow ≤ 1048576 ∧ many t.rn < t.rn.length := by
  have h1 := h.sum
  have h2 := h.room
  have h3 := hat.now.small
  omega
set_option maxRecDepth 100000 in
theorem Len_calls (hat : TabAt w b t) {s : Nat} (hok : TabOK t L s) :
    Calls Try.prog 67 #[.pointer (some ⟨b, 0, none⟩)] w fun e w' => e = .returned (.int .i64 L.length) ∧ ∃ n, w' = w.drewN n := by
  have h2 := hat.c2
  have h5 := hat.c5
  obtain ⟨f1, f2, _⟩ := hok.few hat
  have hs := hok.sum
  have HS := Lib.hid (show ((many t.rn : Nat) : Int) + ((many t.oRow : Nat) : Int) = L.length by omega)
  clear hs
  go_enter Try.func67, Try.ntmps67
  go_wp2_with fail
  go_quiet (fail)
  go_wp2_with fail
  go_ret
  exact ⟨ret_i64 HS.out, _, rfl⟩
set_option maxRecDepth 100000 in
theorem Moves_calls (hat : TabAt w b t) :
    Calls Try.prog 54 #[.pointer (some ⟨b, 0, none⟩)] w fun e w' => e = .returned (.int .u64 t.moves) ∧ w' = w := by
  have h7 := hat.c7
  go_enter Try.func54, Try.ntmps54
  go_wp2_with fail
  go_ret
  exact ⟨rfl, rfl⟩
set_option maxRecDepth 100000 in
theorem Find_calls (hat : TabAt w b t) (hok : TabOK t L 0) (key : Int) :
    Calls Try.prog 63 #[.pointer (some ⟨b, 0, none⟩), .int .u64 key] w fun e w' => e = .returned (.tuple #[.int .i32 (get L key).1, .bool (get L key).2]) ∧ w' = w := by
  have h1 := hat.c1
  have h4 := hat.c4
  obtain ⟨f1, f2, f3⟩ := hok.few hat
  have hsm := hat.now.small
  have HAT := Lib.hid hat
  have HOK := Lib.hid hok
  by_cases c : ∃ v, In t.rn (key, v)
  · obtain ⟨v, hv⟩ := c
    have e0 := get_in hok.nd ((hok.mem _).2 (.inl hv))
    rw [e0]
    have HF := Lib.hid (rows_find_in hat.now hok.wn f3 hv)
    clear hok hat e0 h4
    go_enter Try.func63, Try.ntmps63
    go_wp2_with (go_at_call 66; (with_reducible refine HF.out.mono ?_); rintro e w' ⟨i, rfl, rfl, es⟩; have hi := slot_lt es; have hi' : (i : Int) < (t.rn.length : Int) := Int.ofNat_lt.2 hi; have g1 := HAT.out.now.s1 hi; rw [es] at g1; simp only [nodeOf] at g1; replace es := Lib.hid es)
    go_ret2
    exact ⟨rfl, rfl⟩
  · have HF := Lib.hid (rows_find_out hat.now hok.wn f3 (fun v q => c ⟨v, q⟩))
    cases eo : t.old with
    | none =>
      have e1 : get L key = (0, false) := get_out (not_has_iff.2 (fun v q => ((hok.mem _).1 q).elim (fun q => c ⟨v, q⟩) (by rw [TabOK.oRow_none eo]; exact many_zero rfl _)))
      rw [e1]
      have HG := Lib.hid (rows_find_none t.cells 3 hat.head (by show some t.oSlice = _; unfold Tb.oSlice; rw [eo]) key)
      clear hok hat e1 h1 h4 c
      go_enter Try.func63, Try.ntmps63
      go_wp2_with (first | (go_at_call 66; (with_reducible refine HF.out.mono ?_); rintro e w' ⟨i, rfl, rfl, es⟩) | (go_at_call 66; (with_reducible refine HG.out.mono ?_); rintro e w' ⟨rfl, rfl⟩))
      go_ret2
      exact ⟨rfl, rfl⟩
    | some x =>
      obtain ⟨g, bo, r⟩ := x
      have er := TabOK.oRow_eq eo
      obtain ⟨ow1, ow2, ow3⟩ := hok.wo g bo r eo
      have hW := hat.was eo
      have hsr := hW.small
      have e4 : t.oSlice = .slice (some ⟨g, 0, none⟩) r.length r.length := by unfold Tb.oSlice; rw [eo]
      rw [e4] at h4
      by_cases c2 : ∃ v, In r (key, v)
      · obtain ⟨v, hv⟩ := c2
        have e0 := get_in hok.nd ((hok.mem _).2 (.inr (by rw [er]; exact hv)))
        rw [e0]
        have HG := Lib.hid (rows_find_in hW ow1 ow2 hv)
        have HW := Lib.hid hW
        clear hok hat e0 h1 c er ow1 ow3 hW e4
        go_enter Try.func63, Try.ntmps63
        go_wp2_with (first | (go_at_call 66; (with_reducible refine HF.out.mono ?_); rintro e w' ⟨i, rfl, rfl, es⟩) | (go_at_call 66; (with_reducible refine HG.out.mono ?_); rintro e w' ⟨i, rfl, rfl, es⟩; have hi := slot_lt es; have hi' : (i : Int) < (r.length : Int) := Int.ofNat_lt.2 hi; have g1 := HW.out.s1 hi; rw [es] at g1; simp only [nodeOf] at g1; replace es := Lib.hid es))
        go_ret2
        exact ⟨rfl, rfl⟩
      · have e1 : get L key = (0, false) := get_out (not_has_iff.2 (fun v q => ((hok.mem _).1 q).elim (fun q => c ⟨v, q⟩) (fun q => c2 ⟨v, by rw [er] at q; exact q⟩)))
        rw [e1]
        have HG := Lib.hid (rows_find_out hW ow1 ow2 (fun v q => c2 ⟨v, q⟩))
        clear hok hat e1 h1 h4 c c2 er ow1 ow3 hW e4
        go_enter Try.func63, Try.ntmps63
        go_wp2_with (first | (go_at_call 66; (with_reducible refine HF.out.mono ?_); rintro e w' ⟨i, rfl, rfl, es⟩) | (go_at_call 66; (with_reducible refine HG.out.mono ?_); rintro e w' ⟨i, rfl, rfl, es⟩))
        go_ret2
        exact ⟨rfl, rfl⟩
/-! grow. -/
set_option maxRecDepth 100000 in
theorem move0_calls (hat : TabAt w b t) (e : t.old = none) :
    Calls Try.prog 65 #[.pointer (some ⟨b, 0, none⟩), .int .i64 0] w fun e w' => e = .returned (.tuple #[]) ∧ TabAt w' b { t with old := none, frm := 0 } ∧ Kept (t.owns b) w w' := by
  have h3 := hat.c3
  have h4 := hat.c4
  have h5 := hat.c5
  have h6 := hat.c6
  rw [TabOK.oRow_none e, show ((many [] : Nat) : Int) = 0 from rfl] at h5
  have hz := fun o => hat.head.frozen o
  have HD := Lib.hid hat.drop
  have HK := Lib.hid (keep4 (w := w) (b := b) (t.owns b) (.inl rfl) (Kept.refl _ _) (.int .i64 0) (.slice none 0 0) (.int .i64 0) (.int .i64 0))
  clear hat e
  go_enter Try.func65, Try.ntmps65
  go_upto_region 1 with fail
  go_loopw [4] (fun v4 wr => v4 = .int .i64 0 ∧ wr = w) (fun _ _ => 0)
  case atStart => exact ⟨rfl, rfl⟩
  case round =>
    obtain ⟨rfl, rfl⟩ := hrel
    go_wp2_with fail
    go_end0
    exact ⟨rfl, HD.out, HK.out⟩
theorem blk_cast {b : Nat} {cs cs' : Array Value} (e : cs = cs') (h : Blk w b cs) : Blk w b cs' := e ▸ h
theorem TabAt.turn {w' : World} {g : Nat} (h : TabAt w b t) (hb2 : t.bn + 1 ≤ 20) (hg : Blk w' g (flat slotV (List.replicate (2 ^ (t.bn + 1)) none))) (hh : Blk w' b (Tb.mk g (t.bn + 1) (List.replicate (2 ^ (t.bn + 1)) none) (some (t.gn, t.bn, t.rn)) 0 t.moves).cells) (hr : Blk w' t.gn (flat slotV t.rn)) (n1 : b ≠ g) (n2 : g ≠ t.gn) :
    TabAt w' b ⟨g, t.bn + 1, List.replicate (2 ^ (t.bn + 1)) none, some (t.gn, t.bn, t.rn), 0, t.moves⟩ := by
  refine { head := hh, row := hg, ne := n1, len := List.length_replicate, b1 := Nat.le_add_left _ _, b2 := hb2, old := ?_ }
  intro g' bo r q
  injection q with q
  injection q with q1 q
  injection q with q2 q
  subst q1 q2 q
  exact { row := hr, ne := h.ne, ne2 := n2, len := h.len, b1 := h.b1, b2 := h.b2 }
set_option maxRecDepth 100000 in
theorem grow_calls (hat : TabAt w b t) (e : t.old = none) (hb2 : t.bn + 1 ≤ 20) :
    Calls Try.prog 68 #[.pointer (some ⟨b, 0, none⟩)] w fun e w' => ∃ g, e = .returned (.tuple #[]) ∧ TabAt w' b ⟨g, t.bn + 1, List.replicate (2 ^ (t.bn + 1)) none, some (t.gn, t.bn, t.rn), 0, t.moves⟩ ∧ Kept (t.owns b) w w' ∧ w.heap.size ≤ g := by
  have h5 := hat.c5
  rw [TabOK.oRow_none e, show ((many [] : Nat) : Int) = 0 from rfl] at h5
  have HM := Lib.hid (move0_calls hat e)
  have HAT := Lib.hid hat
  clear hat e
  go_enter Try.func68, Try.ntmps68
  go_upto_region 1 with (go_at_call 65; refine HM.out.mono ?_; rintro e w1 ⟨rfl, ht1, hk1⟩)
  clear h5 HM
  have HT1 := Lib.hid ht1
  have HK1 := Lib.hid hk1
  have h0 := ht1.c0
  have h1 := ht1.c1
  have h2 := ht1.c2
  have h3 := ht1.c3
  have h4 := ht1.c4
  have h5 := ht1.c5
  have h6 := ht1.c6
  have hz := fun o => ht1.head.frozen o
  clear ht1 hk1
  simp only [] at h0 h1 h2
  go_upto_region 2 with fail
  have HB : Hid (Blk _ b _) := Lib.hid ((((HT1.out.head.set 3 (.int .i64 t.bn)).set 4 (.slice (some ⟨t.gn, 0, none⟩) t.rn.length t.rn.length)).set 5 (.int .i64 (many t.rn : Nat))).set 6 (.int .i64 0))
  have HR : Hid (Blk _ t.gn _) := Lib.hid ((((HT1.out.row.other (a := ⟨b, 3, none⟩) (Ne.symm HAT.out.ne) (.int .i64 t.bn)).other (a := ⟨b, 4, none⟩) (Ne.symm HAT.out.ne) (.slice (some ⟨t.gn, 0, none⟩) t.rn.length t.rn.length)).other (a := ⟨b, 5, none⟩) (Ne.symm HAT.out.ne) (.int .i64 (many t.rn : Nat))).other (a := ⟨b, 6, none⟩) (Ne.symm HAT.out.ne) (.int .i64 0))
  have HK := Lib.hid (keep4 (t.owns b) (.inl rfl) HK1.out (.int .i64 t.bn) (.slice (some ⟨t.gn, 0, none⟩) t.rn.length t.rn.length) (.int .i64 (many t.rn : Nat)) (.int .i64 0))
  clear h0 h1 h2 h3 h4 h5 h6 hz HT1 HK1
  generalize (((w1.setCell ⟨b, 3, none⟩ (.int .i64 t.bn)).setCell ⟨b, 4, none⟩ (.slice (some ⟨t.gn, 0, none⟩) t.rn.length t.rn.length)).setCell ⟨b, 5, none⟩ (.int .i64 (many t.rn : Nat))).setCell ⟨b, 6, none⟩ (.int .i64 0) = w2 at HB HR HK ⊢
  have h0 := HB.out.cell 0
  simp [Tb.cells] at h0
  go_wp2_with (go_at_call 56; refine (fresh_calls _ (t.bn + 1) hb2).mono ?_; rintro e w3 ⟨g, rfl, hg, hc, hs⟩; have B3 := HB.out.calm hc; have G := Lib.hid hg; have C := Lib.hid hc; have S := Lib.hid hs; clear hg hc hs; have k0 := B3.cell 0; have k1 := B3.cell 1; have k2 := B3.cell 2; have hz := fun o => B3.frozen o; replace B3 := Lib.hid B3; simp [Tb.cells] at k0 k1 k2)
  go_end0
  have hlt1 := HAT.out.head.lt
  have hlt2 := HAT.out.row.lt
  have hsz := HK.out.size
  have hsg := S.out
  have n1 : b ≠ g := by omega
  have n2 : g ≠ t.gn := by omega
  have hR3 := HR.out.calm C.out
  refine ⟨g, rfl, HAT.out.turn hb2 (((G.out.other (a := ⟨b, 0, none⟩) (Ne.symm n1) _).other (a := ⟨b, 1, none⟩) (Ne.symm n1) _).other (a := ⟨b, 2, none⟩) (Ne.symm n1) _) ?_ (((hR3.other (a := ⟨b, 0, none⟩) (Ne.symm HAT.out.ne) _).other (a := ⟨b, 1, none⟩) (Ne.symm HAT.out.ne) _).other (a := ⟨b, 2, none⟩) (Ne.symm HAT.out.ne) _) n1 n2, ?_, by omega⟩
  · have h := ((B3.out.set 0 (.int .i64 ((t.bn : Int) + 1))).set 1 (.slice (some ⟨g, 0, none⟩) (2 ^ (t.bn + 1)) (2 ^ (t.bn + 1)))).set 2 (.int .i64 0)
    have e : (Tb.mk g (t.bn + 1) (List.replicate (2 ^ (t.bn + 1)) none) (some (t.gn, t.bn, t.rn)) 0 t.moves).cells = #[.int .i64 ((t.bn : Int) + 1), .slice (some ⟨g, 0, none⟩) (2 ^ (t.bn + 1)) (2 ^ (t.bn + 1)), .int .i64 0, .int .i64 t.bn, .slice (some ⟨t.gn, 0, none⟩) t.rn.length t.rn.length, .int .i64 (many t.rn : Nat), .int .i64 0, .int .u64 t.moves] := by
      unfold Tb.cells
      simp only [many_replicate, List.length_replicate]
      rfl
    rw [e]
    refine blk_cast ?_ h
    simp [Tb.cells]
  · exact Kept.setCell (Kept.setCell (Kept.setCell (HK.out.trans (C.out.mono (fun _ _ q => q.elim))) (p := ⟨b, 0, none⟩) (fun _ => .inl rfl) _) (p := ⟨b, 1, none⟩) (fun _ => .inl rfl) _) (p := ⟨b, 2, none⟩) (fun _ => .inl rfl) _
/-! Put, Drop. -/
/-- A table stands. -/
structure Tab (w : World) (b : Nat) (t : Tb) (L : List (Int × Int)) : Prop where
  at' : TabAt w b t
  ok : TabOK t L 0
/-- What a call of Put or Drop leaves. -/
structure Turn (b : Nat) (t : Tb) (L' : List (Int × Int)) (w w' : World) (t' : Tb) : Prop where
  tab : Tab w' b t' L'
  kept : Kept (t.owns b) w w'
  owns : ∀ k, t'.owns b k → t.owns b k ∨ w.heap.size ≤ k
  moved : ∃ n, n ≤ 4 ∧ Moved t.moves t'.moves n
theorem setNode (h : TabAt w b t) {g bo : Nat} {r : Row} (e : t.old = some (g, bo, r)) {i : Nat} {key u : Int} (es : slot r i = some (key, u)) (v : Int) :
    TabAt (w.setCell ⟨g, i * 3 + 1, none⟩ (.int .i32 v)) b { t with old := some (g, bo, r.set i (some (key, v))) } := by
  have hi := slot_lt es
  have hW := h.was e
  have hk : Kept (Two b g) w (w.setCell ⟨g, i * 3 + 1, none⟩ (.int .i32 v)) := (Kept.refl _ _).setCell (fun _ => .inr rfl) _
  refine h.setOld e ?_ hk (List.length_set)
  have hm := many_over r i (key, v) _ es
  rw [hm, arr_same hW.k2]
  refine { head := hW.head.other hW.ne _, k0 := hW.k0, k1 := by rw [List.length_set]; exact hW.k1, k2 := hW.k2, row := ?_, ne := hW.ne, len := by rw [List.length_set]; exact hW.len, b1 := hW.b1, b2 := hW.b2 }
  have hs := hW.row.set (i * 3 + 1) (.int .i32 v)
  rw [flat_set slotV_length r i 1 (.int .i32 v) (some (key, v)) hi (by decide) (by rw [slot_get hi, es]; rfl)] at hs
  exact hs
theorem door {F : Nat → Prop} {w0 : World} {t0 : Tb} {L' : List (Int × Int)} {w1 : World} {t1 : Tb} (_ : ∀ k, F k → k < w0.heap.size) (h0 : Kept F w0 w1) (h1 : ∀ k, t1.owns b k → F k ∨ w0.heap.size ≤ k) (h2 : t1.moves = t0.moves) (hfo : ∀ k, F k → t0.owns b k) {w2 : World} (h : MovedTo b t1 L' w1 w2) : ∃ t', Turn b t0 L' w0 w2 t' := by
  obtain ⟨t', ht, hok, hk, _, _, _, ho, n, hn, hm⟩ := h
  refine ⟨t', ⟨ht, hok⟩, ?_, ?_, n, hn, by rw [← h2]; exact hm⟩
  · refine (h0.step hk ?_).mono (fun k _ q => hfo k q)
    intro k hk q
    rcases h1 k q with q | q
    · exact q
    · omega
  · intro k q
    exact (h1 k (ho k q)).imp (hfo k) id
set_option maxRecDepth 100000 in
set_option maxHeartbeats 1000000 in
theorem Put_calls (h : Tab w b t L) (key node : Int) (hl : L.length < 100000) :
    Calls Try.prog 37 #[.pointer (some ⟨b, 0, none⟩), .int .u64 key, .int .i32 node] w fun e w' => e = .returned (.bool (!has L key)) ∧ ∃ t', Turn b t (put L key node) w w' t' := by
  obtain ⟨hat, hok⟩ := h
  have h1 := hat.c1
  have h4 := hat.c4
  obtain ⟨f1, f2, f3⟩ := hok.few hat
  have hsm := hat.now.small
  have hlt : ∀ k, t.owns b k → k < w.heap.size := fun k q => hat.lt q
  by_cases c : ∃ g bo r v, t.old = some (g, bo, r) ∧ In r (key, v)
  · obtain ⟨g, bo, r, v, eo, hv⟩ := c
    have er := TabOK.oRow_eq eo
    obtain ⟨ow1, ow2, ow3⟩ := hok.wo g bo r eo
    have hW := hat.was eo
    have hsr := hW.small
    have e4 : t.oSlice = .slice (some ⟨g, 0, none⟩) r.length r.length := by unfold Tb.oSlice; rw [eo]
    rw [e4] at h4
    have e0 : has L key = true := has_iff.2 ⟨v, (hok.mem _).2 (.inr (by rw [er]; exact hv))⟩
    rw [e0]
    have HF := Lib.hid (rows_find_in hW ow1 ow2 hv)
    have HW := Lib.hid hW
    have HAT := Lib.hid hat
    have HOK := Lib.hid hok
    have EO := Lib.hid eo
    have HLT := Lib.hid hlt
    have hz := fun o => hW.row.frozen o
    clear hat hok hW e0 e4 er ow1 ow3 hv h1 eo hlt
    go_enter_defers Try.func37, Try.ntmps37
    go_wp2_with (go_at_call 66; (with_reducible refine HF.out.mono ?_); rintro e w' ⟨i, rfl, rfl, es⟩; have hi := slot_lt es; have hi' : (i : Int) < (r.length : Int) := Int.ofNat_lt.2 hi; have g1 := HW.out.s1 hi; rw [es] at g1; simp only [nodeOf] at g1; replace es := Lib.hid es)
    have hT := setNode HAT.out EO.out es.out node
    have hO := HOK.out.over EO.out es.out node
    refine leaves_cons (f := 65) (args := #[.pointer (some ⟨b, 0, none⟩), .int .i64 4]) (by simp) (by simp [go_sem]) ?_
    refine (move_calls .returning hT hO).mono ?_
    rintro e u' w'' ⟨rfl, rfl, hmv⟩
    refine ⟨_, results_tmp rfl _ _ _, rfl, ?_⟩
    refine door (F := t.owns b) HLT.out (Kept.setCell (p := ⟨g, i * 3 + 1, none⟩) (Kept.refl _ _) (fun _ => .inr (.inr ⟨g, bo, r, EO.out, rfl⟩)) (.int .i32 node)) ?_ ?_ (fun _ q => q) hmv
    rotate_left
    · rfl
    rintro k (q | q | ⟨g', bo', r', q, z⟩)
    · exact .inl (.inl q)
    · exact .inl (.inr (.inl q))
    · injection q with q
      injection q with q1 q
      exact .inl (.inr (.inr ⟨g, bo, r, EO.out, by rw [z, q1]⟩))
  · have hno : ∀ u, ¬ In t.oRow (key, u) := by
      intro u q
      cases eo : t.old with
      | none => rw [TabOK.oRow_none eo] at q; exact many_zero rfl _ q
      | some x =>
        obtain ⟨g, bo, r⟩ := x
        exact c ⟨g, bo, r, u, eo, by rw [TabOK.oRow_eq eo] at q; exact q⟩
    have HG : Hid (Calls Try.prog 66 #[.pointer (some ⟨b, 3, none⟩), .int .u64 key] w fun e w' => ∃ i : Nat, e = .returned (.tuple #[.int .i64 i, .bool false]) ∧ w' = w) := by
      refine Lib.hid ?_
      cases eo : t.old with
      | none => 
        refine (rows_find_none t.cells 3 hat.head (by show some t.oSlice = _; unfold Tb.oSlice; rw [eo]) key).mono ?_
        rintro e w' ⟨he, hw⟩
        exact ⟨0, he, hw⟩
      | some x =>
        obtain ⟨g, bo, r⟩ := x
        obtain ⟨ow1, ow2, ow3⟩ := hok.wo g bo r eo
        refine (rows_find_out (hat.was eo) ow1 ow2 (fun v q => c ⟨g, bo, r, v, eo, q⟩)).mono ?_
        rintro e w' ⟨i, he, hw, _⟩
        exact ⟨i, he, hw⟩
    have HAT := Lib.hid hat
    have HOK := Lib.hid hok
    have HLT := Lib.hid hlt
    have HNO := Lib.hid hno
    have hgn : t.gn < w.heap.size := hat.row.lt
    clear c h4 hno hlt
    by_cases cn : ∃ v, In t.rn (key, v)
    · obtain ⟨v, hv⟩ := cn
      have HF := Lib.hid (rows_find_in hat.now hok.wn f3 hv)
      have HP := Lib.hid (rows_put_calls hat.now hok.wn f3 key node)
      have e0 : has L key = true := has_iff.2 ⟨v, (hok.mem _).2 (.inl hv)⟩
      have HE := Lib.hid e0
      rw [e0]
      clear hat hok hv e0
      go_enter_defers Try.func37, Try.ntmps37
      go_upto_region 9 with (first | (go_at_call 66; (with_reducible refine HG.out.mono ?_); rintro e w' ⟨i, rfl, rfl⟩) | (go_at_call 66; (with_reducible refine HF.out.mono ?_); rintro e w' ⟨i2, rfl, rfl, es⟩; replace es := Lib.hid es))
      go_quiet (fail)
      have HA2 := Lib.hid (HAT.out.of_heap (w' := w'.drewN nq) rfl)
      have HK2 := Lib.hid ((Kept.refl (t.owns b) w').drewN nq)
      clear HAT HG HF HP
      generalize w'.drewN nq = w2 at HA2 HK2 ⊢
      have HP := Lib.hid (rows_put_calls HA2.out.now HOK.out.wn f3 key node)
      go_wp2_with (go_at_call 69; refine HP.out.mono ?_; rintro e w3 ⟨rn', new, rfl, hr3, hk3, hw3, hl3, hm3, hi3, hn3⟩; have R3 := Lib.hid hr3; have K3 := Lib.hid hk3; have W3 := Lib.hid hw3; have L3 := Lib.hid hl3; have M3 := Lib.hid hm3; have I3 := Lib.hid hi3; have N3 := Lib.hid hn3; clear hr3 hk3 hw3 hl3 hm3 hi3 hn3)
      have hT := HA2.out.setNow R3.out K3.out L3.out
      obtain ⟨hO, hnew⟩ := HOK.out.putNow HNO.out W3.out L3.out new M3.out I3.out N3.out (fun q => by rw [HE.out] at q; cases q)
      rw [HE.out] at hnew
      refine leaves_cons (f := 65) (args := #[.pointer (some ⟨b, 0, none⟩), .int .i64 4]) (by simp) (by simp [go_sem]) ?_
      refine (move_calls .returning hT hO).mono ?_
      rintro e u' w'' ⟨rfl, rfl, hmv⟩
      refine ⟨_, results_tmp rfl _ _ _, by rw [hnew]; rfl, ?_⟩
      refine door (F := t.owns b) HLT.out (HK2.out.trans (K3.out.mono (fun k _ q => q.elim .inl (fun q => .inr (.inl q))))) ?_ ?_ (fun _ q => q) hmv
      rotate_left
      · rfl
      exact fun k q => .inl q
    · have HF := Lib.hid (rows_find_out hat.now hok.wn f3 (fun v q => cn ⟨v, q⟩))
      have e0 : has L key = false := not_has_iff.2 (fun v q => ((hok.mem _).1 q).elim (fun q => cn ⟨v, q⟩) (HNO.out v))
      have HE := Lib.hid e0
      have HL := Lib.hid (Len_calls hat hok)
      have hbn2 := hat.b2
      have hlen := hat.len
      rw [e0]
      by_cases cg : t.rn.length < 2 * (L.length + 1)
      · have eo := hok.full hlen hat.b1 cg
        have hb20 : t.bn + 1 ≤ 20 := by
          have hr := hok.room
          rcases Nat.lt_or_ge t.bn 18 with q | q
          · omega
          · have := Nat.pow_le_pow_right (show 0 < 2 by decide) q
            omega
        have hdec : decide (2 * ((L.length : Int) + 1) > (t.rn.length : Int)) = true := decide_eq_true (by omega)
        have EO := Lib.hid eo
        have HB20 := Lib.hid hb20
        have HLEN := Lib.hid hlen
        clear hat hok cn e0 eo hb20 hlen
        go_enter_defers Try.func37, Try.ntmps37
        go_upto_region 9 with (first | (go_at_call 66; (with_reducible refine HG.out.mono ?_); rintro e w' ⟨i, rfl, rfl⟩) | (go_at_call 66; (with_reducible refine HF.out.mono ?_); rintro e w' ⟨i2, rfl, rfl, es⟩; replace es := Lib.hid es))
        go_quiet ((go_at_call 67; exact Calls.quiet_of (Len_calls (HAT.out.of_heap rfl) HOK.out)))
        go_upto_region 10 with fail
        have HGR := Lib.hid (grow_calls (HAT.out.of_heap (w' := w'.drewN nq) rfl) EO.out HB20.out)
        go_upto_region 11 with (go_at_call 68; refine HGR.out.mono ?_; rintro e w2 ⟨g, rfl, ha2, hk2, hg2⟩)
        have HA2 := Lib.hid ha2
        have HK2 := Lib.hid (Kept.trans (((Kept.refl (t.owns b) w').drewN nq)) hk2)
        have HG2 := Lib.hid hg2
        have HOG := Lib.hid (HOK.out.grown EO.out HLEN.out HAT.out.b1 g)
        have hlX := HOG.out.few ha2
        clear ha2 hk2 hg2 HG HF HL HGR
        have HP := Lib.hid (rows_put_calls HA2.out.now HOG.out.wn hlX.2.2 key node)
        go_wp2_with (go_at_call 69; refine HP.out.mono ?_; rintro e w3 ⟨rn', new, rfl, hr3, hk3, hw3, hl3, hm3, hi3, hn3⟩; have R3 := Lib.hid hr3; have K3 := Lib.hid hk3; have W3 := Lib.hid hw3; have L3 := Lib.hid hl3; have M3 := Lib.hid hm3; have I3 := Lib.hid hi3; have N3 := Lib.hid hn3; clear hr3 hk3 hw3 hl3 hm3 hi3 hn3)
        have hT := HA2.out.setNow R3.out K3.out L3.out
        obtain ⟨hO, hnew⟩ := HOG.out.putNow (fun u q => by have q : In t.rn (key, u) := q; exact not_has_iff.1 HE.out u ((HOK.out.mem _).2 (.inl q))) W3.out L3.out new M3.out I3.out N3.out (fun _ => (by show 2 * (L.length + 1) ≤ (List.replicate (2 ^ (t.bn + 1)) none).length; have := HOK.out.room; have := HLEN.out; have h2 := Nat.pow_le_pow_right (show 0 < 2 by decide) HAT.out.b1; rw [List.length_replicate, Nat.pow_succ]; omega))
        rw [HE.out] at hnew
        refine leaves_cons (f := 65) (args := #[.pointer (some ⟨b, 0, none⟩), .int .i64 4]) (by simp) (by simp [go_sem]) ?_
        refine (move_calls .returning hT hO).mono ?_
        rintro e u' w'' ⟨rfl, rfl, hmv⟩
        refine ⟨_, results_tmp rfl _ _ _, by rw [hnew]; rfl, ?_⟩
        refine door (F := t.owns b) HLT.out (HK2.out.step K3.out ?_) ?_ ?_ (fun _ q => q) hmv
        rotate_right
        · rfl
        · rintro k hk (q | q)
          · exact .inl q
          · have q : k = g := q
            have := HG2.out
            have hk : k < w'.heap.size := hk
            have : w'.heap.size ≤ g := this
            omega
        · rintro k (q | q | ⟨g', bo', r', q, z⟩)
          · exact .inl (.inl q)
          · have q : k = g := q
            exact .inr (by rw [q]; exact HG2.out)
          · have q : some (t.gn, t.bn, t.rn) = some (g', bo', r') := q
            injection q with q
            injection q with q1 q
            exact .inl (.inr (.inl (by rw [z, q1])))
      · have hroom : 2 * (L.length + 1) ≤ t.rn.length := by omega
        have hdec : decide (2 * ((L.length : Int) + 1) > (t.rn.length : Int)) = false := decide_eq_false (by omega)
        have HROOM := Lib.hid hroom
        have HLEN := Lib.hid hlen
        clear hat hok cn e0 hlen hroom
        go_enter_defers Try.func37, Try.ntmps37
        go_upto_region 9 with (first | (go_at_call 66; (with_reducible refine HG.out.mono ?_); rintro e w' ⟨i, rfl, rfl⟩) | (go_at_call 66; (with_reducible refine HF.out.mono ?_); rintro e w' ⟨i2, rfl, rfl, es⟩; replace es := Lib.hid es))
        go_quiet ((go_at_call 67; exact Calls.quiet_of (Len_calls (HAT.out.of_heap rfl) HOK.out)))
        go_upto_region 11 with fail
        have HA2 := Lib.hid (HAT.out.of_heap (w' := w'.drewN nq) rfl)
        have HK2 := Lib.hid ((Kept.refl (t.owns b) w').drewN nq)
        clear HAT HG HF HL
        generalize w'.drewN nq = w2 at HA2 HK2 ⊢
        have HP := Lib.hid (rows_put_calls HA2.out.now HOK.out.wn f3 key node)
        go_wp2_with (go_at_call 69; refine HP.out.mono ?_; rintro e w3 ⟨rn', new, rfl, hr3, hk3, hw3, hl3, hm3, hi3, hn3⟩; have R3 := Lib.hid hr3; have K3 := Lib.hid hk3; have W3 := Lib.hid hw3; have L3 := Lib.hid hl3; have M3 := Lib.hid hm3; have I3 := Lib.hid hi3; have N3 := Lib.hid hn3; clear hr3 hk3 hw3 hl3 hm3 hi3 hn3)
        have hT := HA2.out.setNow R3.out K3.out L3.out
        obtain ⟨hO, hnew⟩ := HOK.out.putNow HNO.out W3.out L3.out new M3.out I3.out N3.out (fun _ => HROOM.out)
        rw [HE.out] at hnew
        refine leaves_cons (f := 65) (args := #[.pointer (some ⟨b, 0, none⟩), .int .i64 4]) (by simp) (by simp [go_sem]) ?_
        refine (move_calls .returning hT hO).mono ?_
        rintro e u' w'' ⟨rfl, rfl, hmv⟩
        refine ⟨_, results_tmp rfl _ _ _, by rw [hnew]; rfl, ?_⟩
        refine door (F := t.owns b) HLT.out (HK2.out.trans (K3.out.mono (fun k _ q => q.elim .inl (fun q => .inr (.inl q))))) ?_ ?_ (fun _ q => q) hmv
        rotate_left
        · rfl
        exact fun k q => .inl q
end
end Look
end Go.Proofs.Ytekbgpfpnjddgaa
namespace Go.Proofs.Ytekbgpfpnjddgaa
open Go.RowKit
namespace Look
open Mix
section
variable {w : World} {b : Nat} {t : Tb} {L : List (Int × Int)}
set_option maxRecDepth 100000 in
set_option maxHeartbeats 1000000 in
theorem Drop_calls (h : Tab w b t L) (key : Int) :
    Calls Try.prog 79 #[.pointer (some ⟨b, 0, none⟩), .int .u64 key] w fun e w' => e = .returned (.bool (has L key)) ∧ ∃ t', Turn b t (del L key) w w' t' := by
  obtain ⟨hat, hok⟩ := h
  obtain ⟨f1, f2, f3⟩ := hok.few hat
  have hsm := hat.now.small
  have hlt : ∀ k, t.owns b k → k < w.heap.size := fun k q => hat.lt q
  have HLT := Lib.hid hlt
  have HAT := Lib.hid hat
  have HOK := Lib.hid hok
  by_cases cn : ∃ v, In t.rn (key, v)
  · obtain ⟨v, hv⟩ := cn
    have HF := Lib.hid (rows_find_in hat.now hok.wn f3 hv)
    have e0 : has L key = true := has_iff.2 ⟨v, (hok.mem _).2 (.inl hv)⟩
    rw [e0]
    clear hat hok e0 hlt
    go_enter_defers Try.func79, Try.ntmps79
    go_upto_region 6 with (go_at_call 66; (with_reducible refine HF.out.mono ?_); rintro e w' ⟨i, rfl, rfl, es⟩; replace es := Lib.hid es)
    have HC := Lib.hid (rows_clear_calls HAT.out.now HOK.out.wn f3 es.out)
    go_wp2_with (go_at_call 85; refine HC.out.mono ?_; rintro e w3 ⟨r', rfl, hr3, hk3, hw3, hl3, hm3, hi3, ht3⟩; have R3 := Lib.hid hr3; have K3 := Lib.hid hk3; have W3 := Lib.hid hw3; have L3 := Lib.hid hl3; have M3 := Lib.hid hm3; have I3 := Lib.hid hi3; clear hr3 hk3 hw3 hl3 hm3 hi3 ht3)
    have hT := HAT.out.setNow R3.out K3.out L3.out
    obtain ⟨hO, _⟩ := HOK.out.delNow es.out W3.out L3.out M3.out I3.out
    refine leaves_cons (f := 65) (args := #[.pointer (some ⟨b, 0, none⟩), .int .i64 4]) (by simp) (by simp [go_sem]) ?_
    refine (move_calls .returning hT hO).mono ?_
    rintro e u' w'' ⟨rfl, rfl, hmv⟩
    refine ⟨_, results_tmp rfl _ _ _, rfl, ?_⟩
    refine door (F := t.owns b) HLT.out (K3.out.mono (fun k _ q => q.elim .inl (fun q => .inr (.inl q)))) ?_ ?_ (fun _ q => q) hmv
    rotate_left
    · rfl
    exact fun k q => .inl q
  · have HF := Lib.hid (rows_find_out hat.now hok.wn f3 (fun v q => cn ⟨v, q⟩))
    by_cases c : ∃ g bo r v, t.old = some (g, bo, r) ∧ In r (key, v)
    · obtain ⟨g, bo, r, v, eo, hv⟩ := c
      have er := TabOK.oRow_eq eo
      obtain ⟨ow1, ow2, ow3⟩ := hok.wo g bo r eo
      have hW := hat.was eo
      have hsr := hW.small
      have e0 : has L key = true := has_iff.2 ⟨v, (hok.mem _).2 (.inr (by rw [er]; exact hv))⟩
      rw [e0]
      have HG := Lib.hid (rows_find_in hW ow1 ow2 hv)
      have HW := Lib.hid hW
      have EO := Lib.hid eo
      have OW1 := Lib.hid ow1
      clear hat hok e0 hlt hW ow1 ow3 er eo cn
      go_enter_defers Try.func79, Try.ntmps79
      go_upto_region 10 with (first | (go_at_call 66; (with_reducible refine HF.out.mono ?_); rintro e w' ⟨i, rfl, rfl, es⟩; replace es := Lib.hid es) | (go_at_call 66; (with_reducible refine HG.out.mono ?_); rintro e w' ⟨i2, rfl, rfl, es2⟩; replace es2 := Lib.hid es2))
      have HC := Lib.hid (rows_clear_calls HW.out OW1.out ow2 es2.out)
      go_wp2_with (go_at_call 85; refine HC.out.mono ?_; rintro e w3 ⟨r', rfl, hr3, hk3, hw3, hl3, hm3, hi3, ht3⟩; have R3 := Lib.hid hr3; have K3 := Lib.hid hk3; have W3 := Lib.hid hw3; have L3 := Lib.hid hl3; have M3 := Lib.hid hm3; have I3 := Lib.hid hi3; have T3 := Lib.hid ht3; clear hr3 hk3 hw3 hl3 hm3 hi3 ht3)
      have hT := HAT.out.setOld EO.out R3.out K3.out L3.out
      obtain ⟨hO, _⟩ := HOK.out.delOld EO.out es2.out W3.out L3.out M3.out I3.out T3.out
      refine leaves_cons (f := 65) (args := #[.pointer (some ⟨b, 0, none⟩), .int .i64 4]) (by simp) (by simp [go_sem]) ?_
      refine (move_calls .returning hT hO).mono ?_
      rintro e u' w'' ⟨rfl, rfl, hmv⟩
      refine ⟨_, results_tmp rfl _ _ _, rfl, ?_⟩
      refine door (F := t.owns b) HLT.out (K3.out.mono (fun k _ q => owns_now EO.out k q)) ?_ ?_ (fun _ q => q) hmv
      rotate_left
      · rfl
      rintro k (q | q | ⟨g', bo', r', q, z⟩)
      · exact .inl (.inl q)
      · exact .inl (.inr (.inl q))
      · injection q with q
        injection q with q1 q
        exact .inl (.inr (.inr ⟨g, bo, r, EO.out, by rw [z, q1]⟩))
    · have hno : ∀ u, ¬ In t.oRow (key, u) := by
        intro u q
        cases eo : t.old with
        | none => rw [TabOK.oRow_none eo] at q; exact many_zero rfl _ q
        | some x =>
          obtain ⟨g, bo, r⟩ := x
          exact c ⟨g, bo, r, u, eo, by rw [TabOK.oRow_eq eo] at q; exact q⟩
      have HG : Hid (Calls Try.prog 66 #[.pointer (some ⟨b, 3, none⟩), .int .u64 key] w fun e w' => ∃ i : Nat, e = .returned (.tuple #[.int .i64 i, .bool false]) ∧ w' = w) := by
        refine Lib.hid ?_
        cases eo : t.old with
        | none =>
          refine (rows_find_none t.cells 3 hat.head (by show some t.oSlice = _; unfold Tb.oSlice; rw [eo]) key).mono ?_
          rintro e w' ⟨he, hw⟩
          exact ⟨0, he, hw⟩
        | some x =>
          obtain ⟨g, bo, r⟩ := x
          obtain ⟨ow1, ow2, ow3⟩ := hok.wo g bo r eo
          refine (rows_find_out (hat.was eo) ow1 ow2 (fun v q => c ⟨g, bo, r, v, eo, q⟩)).mono ?_
          rintro e w' ⟨i, he, hw, _⟩
          exact ⟨i, he, hw⟩
      have e0 : has L key = false := not_has_iff.2 (fun v q => ((hok.mem _).1 q).elim (fun q => cn ⟨v, q⟩) (hno v))
      rw [e0, del_none e0]
      clear hat hok e0 hlt cn c hno
      go_enter_defers Try.func79, Try.ntmps79
      go_wp2_with (first | (go_at_call 66; (with_reducible refine HF.out.mono ?_); rintro e w' ⟨i, rfl, rfl, es⟩; replace es := Lib.hid es) | (go_at_call 66; (with_reducible refine HG.out.mono ?_); rintro e w' ⟨i2, rfl, rfl⟩))
      have hO : TabOK t L 16 := { HOK.out with bal := fun q => by have := HOK.out.bal q; omega }
      refine leaves_cons (f := 65) (args := #[.pointer (some ⟨b, 0, none⟩), .int .i64 4]) (by simp) (by simp [go_sem]) ?_
      refine (move_calls .returning HAT.out hO).mono ?_
      rintro e u' w'' ⟨rfl, rfl, hmv⟩
      refine ⟨_, results_tmp rfl _ _ _, rfl, ?_⟩
      refine door (F := t.owns b) HLT.out (Kept.refl _ _) (fun k q => .inl q) rfl (fun _ q => q) hmv
end

/-! A table as its user has it: the block b and others of F; the pairs L; so many keys were moved. -/
def Has (w : World) (b : Nat) (F : Nat → Prop) (L : List (Int × Int)) (m : Int) : Prop := ∃ t, Tab w b t L ∧ (∀ k, t.owns b k → F k) ∧ t.moves = m
/-- F, and what was new behind w. -/
def Grown (F : Nat → Prop) (w : World) (k : Nat) : Prop := F k ∨ w.heap.size ≤ k
section
variable {w : World} {b : Nat} {F : Nat → Prop} {L : List (Int × Int)} {m : Int}
theorem Has.kept {G : Nat → Prop} {w' : World} (h : Has w b F L m) (hk : Kept G w w') (hF : ∀ k, F k → ¬ G k) : Has w' b F L m := by
  obtain ⟨t, ⟨ha, ho⟩, hf, hm⟩ := h
  exact ⟨t, ⟨ha.kept hk (fun k q => hF k (hf k q)), ho⟩, hf, hm⟩
theorem Has.calm {w' : World} (h : Has w b F L m) (hk : Calm w w') : Has w' b F L m := h.kept hk (fun _ _ q => q)
theorem Has.mono {G : Nat → Prop} (h : Has w b F L m) (hF : ∀ k, F k → G k) : Has w b G L m := by
  obtain ⟨t, ht, hf, hm⟩ := h
  exact ⟨t, ht, fun k q => hF k (hf k q), hm⟩
theorem Has.trim (h : Has w b F L m) : Has w b (fun k => F k ∧ k < w.heap.size) L m := by
  obtain ⟨t, ht, hf, hm⟩ := h
  exact ⟨t, ht, fun k q => ⟨hf k q, ht.at'.lt q⟩, hm⟩
theorem Has.nd (h : Has w b F L m) : (L.map Prod.fst).Nodup := by obtain ⟨t, ht, _⟩ := h; exact ht.ok.nd
theorem Has.mv (h : Has w b F L m) : 0 ≤ m ∧ m < 18446744073709551616 := by obtain ⟨t, ht, _, rfl⟩ := h; exact ht.ok.mv
theorem turn_has {t t' : Tb} {w' : World} {L' : List (Int × Int)} (hf : ∀ k, t.owns b k → F k) (h : Turn b t L' w w' t') : ∃ n : Nat, n ≤ 4 ∧ Has w' b (Grown F w) L' (IntKind.u64.wrap (t.moves + n)) ∧ Kept F w w' := by
  obtain ⟨n, hn, hm⟩ := h.moved
  exact ⟨n, hn, ⟨t', h.tab, fun k q => (h.owns k q).imp (hf k) id, hm⟩, h.kept.mono (fun k _ q => hf k q)⟩
theorem New_has (w : World) :
    Calls Try.prog 29 #[] w fun e w' => ∃ b, e = .returned (.pointer (some ⟨b, 0, none⟩)) ∧ Has w' b (fun k => w.heap.size ≤ k) [] 0 ∧ Calm w w' := by
  refine (New_calls w).mono ?_
  rintro e w' ⟨b, g, he, ht, hc, h1, h2⟩
  refine ⟨b, he, ⟨Tb.new g, ⟨ht, TabOK.empty g⟩, ?_, rfl⟩, hc⟩
  rintro k (rfl | rfl | ⟨_, _, _, q, _⟩)
  · exact h1
  · exact h2
  · cases q
theorem Put_has (h : Has w b F L m) (key node : Int) (hl : L.length < 100000) :
    Calls Try.prog 37 #[.pointer (some ⟨b, 0, none⟩), .int .u64 key, .int .i32 node] w fun e w' => e = .returned (.bool (!has L key)) ∧ ∃ n : Nat, n ≤ 4 ∧ Has w' b (Grown F w) (put L key node) (IntKind.u64.wrap (m + n)) ∧ Kept F w w' := by
  obtain ⟨t, ht, hf, rfl⟩ := h
  refine (Put_calls ht key node hl).mono ?_
  rintro e w' ⟨he, t', hT⟩
  exact ⟨he, turn_has hf hT⟩
theorem Drop_has (h : Has w b F L m) (key : Int) :
    Calls Try.prog 79 #[.pointer (some ⟨b, 0, none⟩), .int .u64 key] w fun e w' => e = .returned (.bool (has L key)) ∧ ∃ n : Nat, n ≤ 4 ∧ Has w' b (Grown F w) (del L key) (IntKind.u64.wrap (m + n)) ∧ Kept F w w' := by
  obtain ⟨t, ht, hf, rfl⟩ := h
  refine (Drop_calls ht key).mono ?_
  rintro e w' ⟨he, t', hT⟩
  exact ⟨he, turn_has hf hT⟩
theorem Find_has (h : Has w b F L m) (key : Int) :
    Calls Try.prog 63 #[.pointer (some ⟨b, 0, none⟩), .int .u64 key] w fun e w' => e = .returned (.tuple #[.int .i32 (get L key).1, .bool (get L key).2]) ∧ w' = w := by
  obtain ⟨t, ht, hf, rfl⟩ := h
  exact Find_calls ht.at' ht.ok key
theorem Moves_has (h : Has w b F L m) :
    Calls Try.prog 54 #[.pointer (some ⟨b, 0, none⟩)] w fun e w' => e = .returned (.int .u64 m) ∧ w' = w := by
  obtain ⟨t, ht, hf, rfl⟩ := h
  exact Moves_calls ht.at'
end
end Look
end Go.Proofs.Ytekbgpfpnjddgaa
