/- Walks over chain: Remove. -/
import Derived.Test.YthjgjfelbagljaaChainC
namespace Go.Proofs.Ythjgjfelbagljaa
open Go.RowKit
namespace Chain

def St.clear (s : St) (n : Int) : St := ((s.setPrev n 0).setNext n 0).setMark n 0
def St.unlink (s : St) (n : Int) : St :=
  (((s.linkP ((s.lk n).list - 1) (s.lk n).prev (s.lk n).next).linkX ((s.lk n).list - 1) (s.lk n).prev (s.lk n).next).more ((s.lk n).list - 1) (-1)).clear n
def St.remove (s : St) (n : Int) : St := if s.stands n then s.unlink n else s

theorem linkP_lk (s : St) (l p v n : Int) (hn : 0 ≤ n) (hp : p = -1 ∨ (0 ≤ p ∧ p ≠ n)) : (s.linkP l p v).lk n = s.lk n := by
  unfold St.linkP
  by_cases h : p = -1
  · rw [if_pos h]; rfl
  · rw [if_neg h]
    unfold St.setNext St.lk
    rw [getD_set_ne]
    omega

section
variable (w : World) (b b1 b2 : Nat) (s : St)
set_option maxRecDepth 100000 in
set_option maxHeartbeats 400000 in
theorem Remove_none (n : Int) (hs : At w b b1 b2 s) (hv : Valid s) (hw : n < 2147483648) (h : ¬ s.stands n) :
    Calls Try.prog 20 #[.pointer (some ⟨b, 0, none⟩), .int .i32 n] w fun e w' => e = .returned (.bool false) ∧ w = w' := by
  by_cases hn : s.hasNode n
  · have hm := hv.mark n
    have e1 : (s.lk n).list = 0 := by
      have : ¬ 0 < (s.lk n).list := fun h' => h ⟨hn.1, hn.2, h'⟩
      omega
    have g1 := hs.l2' hn.1 hn.2
    rw [e1] at g1
    clear e1 hm
    go_enter Try.func20, Try.ntmps20
    go_wp2_with (go_at_call 45; refine (node_in w b b1 b2 s n hs hn.1 hn.2).mono ?_; rintro e w' ⟨rfl, rfl⟩)
    go_ret
    exact ⟨rfl, rfl⟩
  · go_enter Try.func20, Try.ntmps20
    go_wp2_with (go_at_call 45; refine (node_out w b b1 b2 s n hs (hasNode_not hn) hw).mono ?_; rintro e w' ⟨rfl, rfl⟩)
    go_ret
    exact ⟨rfl, rfl⟩

set_option maxRecDepth 100000 in
set_option maxHeartbeats 1000000 in
theorem Remove_good (n l p x : Int) (hs : At w b b1 b2 s) (hn0 : 0 ≤ n) (hn : n < s.links.length) (hL : (s.lk n).list = l + 1) (hP : (s.lk n).prev = p) (hX : (s.lk n).next = x) (hl : s.hasList l)
    (hp : p = -1 ∨ (0 ≤ p ∧ p < s.links.length ∧ p ≠ n)) (hx : x = -1 ∨ (0 ≤ x ∧ x < s.links.length))
    (hm0 : 1 ≤ (s.en l).many) (hm : (s.en l).many ≤ 65536) :
    Calls Try.prog 20 #[.pointer (some ⟨b, 0, none⟩), .int .i32 n] w fun e w' =>
      e = .returned (.bool true) ∧ At w' b b1 b2 ((((s.linkP l p x).linkX l p x).more l (-1)).clear n) ∧ Kept (Two b1 b2) w w' := by
  have g0 := hs.l2' hn0 hn
  have g1 := hs.c1
  rw [hL] at g0
  obtain ⟨hl0, hl1⟩ := hl
  have hl7 : l ≤ 7 := by have := hs.many; omega
  have g4 : ((l + 1 : Int) == 0) = false := by simpa using (by omega : ¬ (l + 1 = 0))
  have HL := Lib.hid hL
  have HP := Lib.hid hP
  have HX := Lib.hid hX
  clear hL hP hX
  go_enter Try.func20, Try.ntmps20
  go_upto_region 4 with (go_at_call 45; refine (node_in w b b1 b2 s n hs hn0 hn).mono ?_; rintro e w' ⟨rfl, rfl⟩)
  go_cut [6] (fun l6 wa => l6 = .pointer (some ⟨b2, l.toNat * 3, none⟩) ∧ At wa b b1 b2 s ∧ Kept (Two b1 b2) w wa)
  case first =>
    go_quiet (fail)
    go_wp2_with fail
    go_meet
    refine ⟨rfl, hs.of_heap rfl, ?_⟩
    exact (Kept.refl _ _).of_heap rfl rfl rfl rfl
  case rest =>
    obtain ⟨rfl, ha, hka⟩ := hcut
    clear g0 g1
    have g0 := ha.l0' hn0 hn
    rw [HP.out] at g0
    go_upto_if 33 with (fail)
    go_cut [] (fun wa => At wa b b1 b2 (s.linkP l p x) ∧ Kept (Two b1 b2) w wa)
    case first =>
      have g1 := ha.l1' hn0 hn
      rw [HX.out] at g1
      have g2 := ha.c0
      have g5 := fun o => ha.links.frozen o
      have g6 := fun o => ha.lists.frozen o
      by_cases hp1 : p = -1
      · have g7 := ha.e0' hl0 hl1
        subst hp1
        go_wp2_with fail
        go_meet
        refine ⟨?_, ?_⟩
        · exact ha.setFirst hl0 hl1 x
        · refine Kept.setCell ?_ (fun _ => Or.inr rfl) _
          exact hka
      · obtain ⟨hp0, hp2, hp3⟩ := hp.resolve_left hp1
        have g7 := ha.l1' hp0 hp2
        have g8 : (p == -1) = false := by simpa using hp1
        have e3 := Lib.hid (show s.linkP l p x = s.setNext p x from if_neg hp1)
        clear hp1 hp hp3
        go_wp2_with fail
        go_region
        all_goals go_wp2_with fail
        all_goals go_meet
        all_goals refine ⟨?_, ?_⟩
        · rw [e3.out]; exact (ha.setNext hp0 hp2 x).of_heap rfl
        · refine Kept.drew ?_
          refine Kept.setCell ?_ (fun _ => Or.inl rfl) _
          exact hka
    case rest =>
      obtain ⟨hb, hkb⟩ := hcut
      have E4 := linkP_lk s l p x n hn0 (hp.imp id (fun h => ⟨h.1, h.2.2⟩))
      have E1 := (linkP_len s l p x).1
      have E2 := (linkP_len s l p x).2
      have E3 := linkP_many s l p x l
      clear hka ha g0
      generalize he2 : s.linkP l p x = s2 at hb E1 E2 E3 E4
      have He2 := Lib.hid he2
      clear he2
      have G1 : (s2.links.length : Int) ≤ s.links.length := by omega
      have G2 : (s.links.length : Int) ≤ s2.links.length := by omega
      have G3 : l < (s2.lists.length : Int) := by rw [E2]; exact hl1
      have G4 := Lib.hid E3
      have G5 := Lib.hid E4
      have hn2 : n < (s2.links.length : Int) := by omega
      have g0 := hb.l1' hn0 hn2
      rw [E4, HX.out] at g0
      clear E1 E2 E3 E4
      go_upto_if 59 with (fail)
      go_cut [] (fun wa => At wa b b1 b2 (s2.linkX l p x) ∧ Kept (Two b1 b2) w wa)
      case first =>
        have g1 := hb.l0' hn0 hn2
        rw [G5.out, HP.out] at g1
        have g2 := hb.c0
        have g5 := fun o => hb.links.frozen o
        have g6 := fun o => hb.lists.frozen o
        by_cases hx1 : x = -1
        · have g7 := hb.e1' hl0 G3
          subst hx1
          go_wp2_with fail
          go_meet
          refine ⟨?_, ?_⟩
          · exact hb.setLast hl0 G3 p
          · refine Kept.setCell ?_ (fun _ => Or.inr rfl) _
            exact hkb
        · obtain ⟨hx0, hx2⟩ := hx.resolve_left hx1
          have hx3 : x < s2.links.length := by omega
          have g7 := hb.l0' hx0 hx3
          have g8 : (x == -1) = false := by simpa using hx1
          have e3 := Lib.hid (show s2.linkX l p x = s2.setPrev x p from if_neg hx1)
          clear hx1 hx
          go_wp2_with fail
          go_region
          all_goals go_wp2_with fail
          all_goals go_meet
          all_goals refine ⟨?_, ?_⟩
          · rw [e3.out]; exact (hb.setPrev hx0 hx3 p).of_heap rfl
          · refine Kept.drew ?_
            refine Kept.setCell ?_ (fun _ => Or.inl rfl) _
            exact hkb
      case rest =>
        obtain ⟨hd, hkd⟩ := hcut
        clear hkb hb g0
        have E1 := (linkX_len s2 l p x).1
        have E2 := (linkX_len s2 l p x).2
        have E3 := linkX_many s2 l p x l
        generalize he3 : s2.linkX l p x = s3 at hd E1 E2 E3
        have He3 := Lib.hid he3
        clear he3
        have H3 : l < (s3.lists.length : Int) := by rw [E2]; exact G3
        have H7 : n < (s3.links.length : Int) := by rw [E1]; exact hn2
        have H4 : (s3.en l).many = (s.en l).many := by rw [E3]; exact G4.out
        have H5 : 1 ≤ (s3.en l).many := by omega
        have H6 : (s3.en l).many ≤ 65536 := by omega
        clear E1 E2 E3 G1 G2 G3 G4 H4 hm0 hm hn2
        have g5 := fun o => hd.links.frozen o
        have g6 := fun o => hd.lists.frozen o
        have g7 := hd.e2' hl0 H3
        have g8 := hd.l0' hn0 H7
        have g9 := hd.l1' hn0 H7
        have ga := hd.l2' hn0 H7
        have ne := hd.ne3
        have ne' : b2 ≠ b1 := Ne.symm ne
        go_wp2_with fail
        go_ret
        refine ⟨rfl, ?_, ?_⟩
        · rw [He2.out, He3.out]
          have h1 := hd.setMany hl0 H3 ((s3.en l).many + -1)
          have L1 : n < ((s3.setMany l ((s3.en l).many + -1)).links.length : Int) := by rw [(set_links_length s3 l _).2.2.2.2.2]; exact H7
          have h2 := h1.setPrev hn0 L1 0
          have L2 : n < (((s3.setMany l ((s3.en l).many + -1)).setPrev n 0).links.length : Int) := by rw [(set_links_length _ _ _).1]; exact L1
          have h3 := h2.setNext hn0 L2 0
          have L3 : n < ((((s3.setMany l ((s3.en l).many + -1)).setPrev n 0).setNext n 0).links.length : Int) := by rw [(set_links_length _ _ _).2.1]; exact L2
          exact h3.setMark hn0 L3 0
        · refine Kept.setCell ?_ (fun _ => Or.inl rfl) _
          refine Kept.setCell ?_ (fun _ => Or.inl rfl) _
          refine Kept.setCell ?_ (fun _ => Or.inl rfl) _
          refine Kept.setCell ?_ (fun _ => Or.inr rfl) _
          exact hkd

theorem Remove_calls (n : Int) (hs : At w b b1 b2 s) (hv : Valid s) (hw : n < 2147483648) (hmany : ∀ l, s.hasList l → s.stands n → (s.lk n).list = l + 1 → 1 ≤ (s.en l).many) :
    Calls Try.prog 20 #[.pointer (some ⟨b, 0, none⟩), .int .i32 n] w fun e w' =>
      e = .returned (.bool (decide (s.stands n))) ∧ At w' b b1 b2 (s.remove n) ∧ Kept (Two b1 b2) w w' := by
  unfold St.remove
  by_cases h : s.stands n
  · obtain ⟨v1, v2, v3⟩ := hv.link n h
    obtain ⟨u1, u2, u3, u4⟩ := hv.ends _ v3
    rw [if_pos h, decide_eq_true h]
    exact Remove_good w b b1 b2 s n ((s.lk n).list - 1) _ _ hs h.1 h.2.1 (by omega) rfl rfl v3 (v1.imp id (fun h => ⟨h.1.1, h.1.2, h.2⟩)) (v2.imp id (fun h => h.1)) (hmany _ v3 h (by omega)) u4
  · rw [if_neg h, decide_eq_false h]
    exact (Remove_none w b b1 b2 s n hs hv hw h).mono fun e w' ⟨he, hw⟩ => ⟨he, by subst hw; exact hs, by subst hw; exact Kept.refl _ _⟩
end
end Chain
end Go.Proofs.Ythjgjfelbagljaa
