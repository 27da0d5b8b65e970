/- Walks over chain: the functions that turn it. -/
import Derived.Test.YthjgjfelbagljaaChainA
import Derived.Deep.DeepCutAuto
import Derived.Deep.CutBlock
namespace Go.Proofs.Ythjgjfelbagljaa
open Go.RowKit
namespace Chain

def St.laid (s : St) (l p n x : Int) : St := ((s.setPrev n p).setNext n x).setMark n (l + 1)
def St.linkP (s : St) (l p n : Int) : St := if p = -1 then s.setFirst l n else s.setNext p n
def St.linkX (s : St) (l n x : Int) : St := if x = -1 then s.setLast l n else s.setPrev x n
def St.more (s : St) (l d : Int) : St := s.setMany l ((s.en l).many + d)
def St.join (s : St) (l p n x : Int) : St := (((s.laid l p n x).linkP l p n).linkX l n x).more l 1
theorem set_links_length (s : St) (i v : Int) : (s.setPrev i v).links.length = s.links.length ∧ (s.setNext i v).links.length = s.links.length ∧ (s.setMark i v).links.length = s.links.length ∧ (s.setFirst i v).links.length = s.links.length ∧ (s.setLast i v).links.length = s.links.length ∧ (s.setMany i v).links.length = s.links.length := by
  simp [St.setPrev, St.setNext, St.setMark, St.setFirst, St.setLast, St.setMany]
theorem set_lists_length (s : St) (i v : Int) : (s.setPrev i v).lists.length = s.lists.length ∧ (s.setNext i v).lists.length = s.lists.length ∧ (s.setMark i v).lists.length = s.lists.length ∧ (s.setFirst i v).lists.length = s.lists.length ∧ (s.setLast i v).lists.length = s.lists.length ∧ (s.setMany i v).lists.length = s.lists.length := by
  simp [St.setPrev, St.setNext, St.setMark, St.setFirst, St.setLast, St.setMany]
theorem laid_len (s : St) (l p n x : Int) : (s.laid l p n x).links.length = s.links.length ∧ (s.laid l p n x).lists = s.lists := by
  simp [St.laid, St.setPrev, St.setNext, St.setMark]
theorem linkP_len (s : St) (l p n : Int) : (s.linkP l p n).links.length = s.links.length ∧ (s.linkP l p n).lists.length = s.lists.length := by
  unfold St.linkP; split <;> simp [St.setFirst, St.setNext]
theorem linkX_len (s : St) (l n x : Int) : (s.linkX l n x).links.length = s.links.length ∧ (s.linkX l n x).lists.length = s.lists.length := by
  unfold St.linkX; split <;> simp [St.setLast, St.setPrev]
theorem getD_set_same {α : Type} [Inhabited α] (l : List α) (k : Nat) (x : α) (h : k < l.length) : (l.set k x).getD k default = x := by
  simp [List.getD_eq_getElem?_getD, h]
theorem getD_set_ne {α : Type} [Inhabited α] (l : List α) (k j : Nat) (x : α) (h : k ≠ j) : (l.set k x).getD j default = l.getD j default := by
  simp [List.getD_eq_getElem?_getD, List.getElem?_set_ne h]
/-- A store into one field of one record leaves each other field of each record. -/
theorem linkP_many (s : St) (l p n j : Int) : ((s.linkP l p n).en j).many = (s.en j).many := by
  unfold St.linkP St.setFirst St.setNext St.en
  split
  · by_cases h : l.toNat = j.toNat
    · rw [h]
      by_cases hl : j.toNat < s.lists.length
      · rw [getD_set_same _ _ _ hl]
      · rw [List.set_eq_of_length_le (by omega)]
    · rw [getD_set_ne _ _ _ _ h]
  · rfl
theorem linkX_many (s : St) (l n x j : Int) : ((s.linkX l n x).en j).many = (s.en j).many := by
  unfold St.linkX St.setLast St.setPrev St.en
  split
  · by_cases h : l.toNat = j.toNat
    · rw [h]
      by_cases hl : j.toNat < s.lists.length
      · rw [getD_set_same _ _ _ hl]
      · rw [List.set_eq_of_length_le (by omega)]
    · rw [getD_set_ne _ _ _ _ h]
  · rfl

/-- b1 and b2 alone. -/
def Two (b1 b2 : Nat) (k : Nat) : Prop := k = b1 ∨ k = b2

section
variable (w : World) (b b1 b2 : Nat) (s : St)
set_option maxRecDepth 100000 in
set_option maxHeartbeats 400000 in
theorem join_calls (l p n x : Int) (hs : At w b b1 b2 s) (hl : s.hasList l) (hn0 : 0 ≤ n) (hn : n < s.links.length)
    (hp : p = -1 ∨ (0 ≤ p ∧ p < s.links.length)) (hx : x = -1 ∨ (0 ≤ x ∧ x < s.links.length)) (hm0 : 0 ≤ (s.en l).many) (hm : (s.en l).many ≤ 65536) :
    Calls Try.prog 44 #[.pointer (some ⟨b, 0, none⟩), .int .i64 l, .int .i32 p, .int .i32 n, .int .i32 x] w fun e w' =>
      e = .returned (.tuple #[]) ∧ At w' b b1 b2 (s.join l p n x) ∧ Kept (Two b1 b2) w w' := by
  have g0 := hs.c0
  have g1 := hs.c1
  have g2 := hs.l0' hn0 hn
  have g3 := hs.l1' hn0 hn
  have g4 := hs.l2' hn0 hn
  have g5 := fun o => hs.links.frozen o
  have g6 : s.lists.length ≤ 8 := hs.many
  obtain ⟨hl0, hl1⟩ := hl
  have hl8 : l < 8 := by omega
  go_enter Try.func44, Try.ntmps44
  go_upto_region 1 with fail
  go_cut [] (fun wa => At wa b b1 b2 (s.laid l p n x) ∧ Kept (Two b1 b2) w wa)
  case first =>
    go_wp2_with fail
    go_meet
    refine ⟨?_, ?_⟩
    · exact ((hs.setPrev hn0 hn p).setNext hn0 (by simpa [St.setPrev] using hn) x).setMark hn0 (by simpa [St.setPrev, St.setNext] using hn) (l + 1)
    · refine Kept.setCell ?_ (fun _ => Or.inl rfl) _
      refine Kept.setCell ?_ (fun _ => Or.inl rfl) _
      refine Kept.setCell ?_ (fun _ => Or.inl rfl) _
      exact Kept.refl _ _
  case rest =>
    obtain ⟨ha, hka⟩ := hcut
    clear g0 g1 g2 g3 g4 g5
    have e2 := Lib.hid (show s.join l p n x = (((s.laid l p n x).linkP l p n).linkX l n x).more l 1 from rfl)
    have E1 := (laid_len s l p n x).1
    have E2 := (laid_len s l p n x).2
    generalize s.laid l p n x = s1 at ha e2 E1 E2
    have F1 : (s1.links.length : Int) ≤ s.links.length := by omega
    have F2 : (s.links.length : Int) ≤ s1.links.length := by omega
    have F3 : l < (s1.lists.length : Int) := by rw [E2]; exact hl1
    have F4 := Lib.hid (show (s1.en l).many = (s.en l).many by unfold St.en; rw [E2])
    clear E1 E2
    go_upto_if 30 with fail
    go_cut [] (fun wa => At wa b b1 b2 (s1.linkP l p n) ∧ Kept (Two b1 b2) w wa)
    case first =>
      have g0 := ha.c0
      have g5 := fun o => ha.links.frozen o
      have g6 := fun o => ha.lists.frozen o
      by_cases hp1 : p = -1
      · have g7 := ha.e0' hl0 F3
        subst hp1
        go_wp2_with fail
        go_meet
        refine ⟨?_, ?_⟩
        · exact ha.setFirst hl0 F3 n
        · refine Kept.setCell ?_ (fun _ => Or.inr rfl) _
          exact hka
      · obtain ⟨hp0, hp2⟩ := hp.resolve_left hp1
        have hp3 : p < s1.links.length := by omega
        have g7 := ha.l1' hp0 hp3
        have g8 : (p == -1) = false := by simpa using hp1
        have e3 := Lib.hid (show s1.linkP l p n = s1.setNext p n from if_neg hp1)
        clear hp1 hp
        go_wp2_with fail
        go_meet
        refine ⟨?_, ?_⟩
        · rw [e3.out]; exact ha.setNext hp0 hp3 n
        · refine Kept.setCell ?_ (fun _ => Or.inl rfl) _
          exact hka
    case rest =>
      obtain ⟨hb, hkb⟩ := hcut
      clear hka ha
      have E1 := (linkP_len s1 l p n).1
      have E2 := (linkP_len s1 l p n).2
      have E3 := linkP_many s1 l p n l
      generalize s1.linkP l p n = s2 at hb e2 E1 E2 E3
      have G1 : (s2.links.length : Int) ≤ s.links.length := by omega
      have G2 : (s.links.length : Int) ≤ s2.links.length := by omega
      have G3 : l < (s2.lists.length : Int) := by rw [E2]; exact F3
      have G4 := Lib.hid (show (s2.en l).many = (s.en l).many by rw [E3]; exact F4.out)
      clear E1 E2 E3 F1 F2 F3 F4
      go_upto_if 44 with fail
      go_cut [] (fun wa => At wa b b1 b2 (s2.linkX l n x) ∧ Kept (Two b1 b2) w wa)
      case first =>
        have g0 := hb.c0
        have g5 := fun o => hb.links.frozen o
        have g6 := fun o => hb.lists.frozen o
        by_cases hx1 : x = -1
        · have g7 := hb.e1' hl0 G3
          subst hx1
          go_wp2_with fail
          go_meet
          refine ⟨?_, ?_⟩
          · exact hb.setLast hl0 G3 n
          · refine Kept.setCell ?_ (fun _ => Or.inr rfl) _
            exact hkb
        · obtain ⟨hx0, hx2⟩ := hx.resolve_left hx1
          have hx3 : x < s2.links.length := by omega
          have g7 := hb.l0' hx0 hx3
          have g8 : (x == -1) = false := by simpa using hx1
          have e3 := Lib.hid (show s2.linkX l n x = s2.setPrev x n from if_neg hx1)
          clear hx1 hx
          go_wp2_with fail
          go_meet
          refine ⟨?_, ?_⟩
          · rw [e3.out]; exact hb.setPrev hx0 hx3 n
          · refine Kept.setCell ?_ (fun _ => Or.inl rfl) _
            exact hkb
      case rest =>
        obtain ⟨hd, hkd⟩ := hcut
        clear hkb hb
        have E2 := (linkX_len s2 l n x).2
        have E3 := linkX_many s2 l n x l
        generalize s2.linkX l n x = s3 at hd e2 E2 E3
        have H3 : l < (s3.lists.length : Int) := by rw [E2]; exact G3
        have H4 : (s3.en l).many = (s.en l).many := by rw [E3]; exact G4.out
        have H5 : 0 ≤ (s3.en l).many := by omega
        have H6 : (s3.en l).many ≤ 65536 := by omega
        clear E2 E3 G3 G4 H4 hm0 hm
        have g6 := fun o => hd.lists.frozen o
        have g7 := hd.e2' hl0 H3
        go_wp2_with fail
        go_end0
        refine ⟨rfl, ?_, ?_⟩
        · rw [e2.out]; exact hd.setMany hl0 H3 _
        · refine Kept.setCell ?_ (fun _ => Or.inr rfl) _
          exact hkd
end

/-! wrong, Ahead, Behind, Insert. -/
def St.hasNode (s : St) (n : Int) : Prop := 0 ≤ n ∧ n < s.links.length
instance (s : St) (n : Int) : Decidable (s.hasNode n) := by unfold St.hasNode; infer_instance
theorem hasNode_not {s : St} {i : Int} (h : ¬ s.hasNode i) : i < 0 ∨ (s.links.length : Int) ≤ i := by unfold St.hasNode at h; omega
def St.wrong (s : St) (l n : Int) : Int := if s.hasList l ∧ s.hasNode n then (if 0 < (s.lk n).list then 8 else 0) else 1

section
variable (w : World) (b b1 b2 : Nat) (s : St)
set_option maxRecDepth 100000 in
set_option maxHeartbeats 400000 in
theorem wrong_calls (l n : Int) (hs : At w b b1 b2 s) (hw : n < 2147483648) :
    Calls Try.prog 43 #[.pointer (some ⟨b, 0, none⟩), .int .i64 l, .int .i32 n] w fun e w' => e = .returned (.int .i64 (s.wrong l n)) ∧ w = w' := by
  by_cases hn : s.hasNode n
  · have h1 := hs.l2' hn.1 hn.2
    by_cases hl : s.hasList l
    · by_cases h3 : 0 < (s.lk n).list
      · have e1 : s.wrong l n = 8 := by unfold St.wrong; rw [if_pos ⟨hl, hn⟩, if_pos h3]
        rw [e1]
        clear e1
        go_enter Try.func43, Try.ntmps43
        go_wp2_with (first | (go_at_call 45; refine (node_in _ b b1 b2 s n hs hn.1 hn.2).mono ?_; rintro e w' ⟨rfl, rfl⟩) | (go_at_call 47; refine (list_in _ b b1 b2 s l hs hl.1 hl.2).mono ?_; rintro e w' ⟨rfl, rfl⟩))
        go_ret
        exact ⟨rfl, rfl⟩
      · have e1 : s.wrong l n = 0 := by unfold St.wrong; rw [if_pos ⟨hl, hn⟩, if_neg h3]
        rw [e1]
        have h4 : (s.lk n).list ≤ 0 := by omega
        clear e1 h3
        go_enter Try.func43, Try.ntmps43
        go_wp2_with (first | (go_at_call 45; refine (node_in _ b b1 b2 s n hs hn.1 hn.2).mono ?_; rintro e w' ⟨rfl, rfl⟩) | (go_at_call 47; refine (list_in _ b b1 b2 s l hs hl.1 hl.2).mono ?_; rintro e w' ⟨rfl, rfl⟩))
        go_ret
        exact ⟨rfl, rfl⟩
    · have e1 : s.wrong l n = 1 := by unfold St.wrong; rw [if_neg (fun h => hl h.1)]
      rw [e1]
      clear e1
      go_enter Try.func43, Try.ntmps43
      go_wp2_with (first | (go_at_call 45; refine (node_in _ b b1 b2 s n hs hn.1 hn.2).mono ?_; rintro e w' ⟨rfl, rfl⟩) | (go_at_call 47; refine (list_out _ b b1 b2 s l hs (hasList_not hl)).mono ?_; rintro e w' ⟨rfl, rfl⟩))
      go_ret
      exact ⟨rfl, rfl⟩
  · have e1 : s.wrong l n = 1 := by unfold St.wrong; rw [if_neg (fun h => hn h.2)]
    rw [e1]
    clear e1
    by_cases hl : s.hasList l
    · go_enter Try.func43, Try.ntmps43
      go_wp2_with (first | (go_at_call 45; refine (node_out _ b b1 b2 s n hs (hasNode_not hn) hw).mono ?_; rintro e w' ⟨rfl, rfl⟩) | (go_at_call 47; refine (list_in _ b b1 b2 s l hs hl.1 hl.2).mono ?_; rintro e w' ⟨rfl, rfl⟩))
      go_ret
      exact ⟨rfl, rfl⟩
    · go_enter Try.func43, Try.ntmps43
      go_wp2_with (first | (go_at_call 45; refine (node_out _ b b1 b2 s n hs (hasNode_not hn) hw).mono ?_; rintro e w' ⟨rfl, rfl⟩) | (go_at_call 47; refine (list_out _ b b1 b2 s l hs (hasList_not hl)).mono ?_; rintro e w' ⟨rfl, rfl⟩))
      go_ret
      exact ⟨rfl, rfl⟩
set_option maxHeartbeats 400000 in
theorem wrong_nil (l n : Int) :
    Calls Try.prog 43 #[.pointer none, .int .i64 l, .int .i32 n] w fun e w' => e = .returned (.int .i64 9) ∧ w = w' := by
  go_enter Try.func43, Try.ntmps43
  go_wp2_with (go_at_call 45; refine (node_nil _ n).mono ?_; rintro e w' ⟨rfl, rfl⟩)
  go_ret
  exact ⟨rfl, rfl⟩
end
end Chain
end Go.Proofs.Ythjgjfelbagljaa
