/- Walks over chain: Ahead, Behind, Insert, Remove. -/
import Derived.Test.YthjgjfelbagljaaChainB
import Derived.StillTailTactics
namespace Go.Proofs.Ythjgjfelbagljaa
open Go.RowKit
namespace Chain

/-- What the walks need of a state. -/
structure Valid (s : St) : Prop where
  ends : ∀ l, s.hasList l → ((s.en l).first = -1 ∨ s.hasNode (s.en l).first) ∧ ((s.en l).last = -1 ∨ s.hasNode (s.en l).last) ∧ 0 ≤ (s.en l).many ∧ (s.en l).many ≤ 65536
  link : ∀ n, s.stands n → ((s.lk n).prev = -1 ∨ (s.hasNode (s.lk n).prev ∧ (s.lk n).prev ≠ n)) ∧ ((s.lk n).next = -1 ∨ (s.hasNode (s.lk n).next ∧ (s.lk n).next ≠ n)) ∧ s.hasList ((s.lk n).list - 1)
  mark : ∀ n, 0 ≤ (s.lk n).list ∧ (s.lk n).list ≤ 8

def St.ahead (s : St) (l n : Int) : St := if s.wrong l n = 0 then s.join l (-1) n (s.en l).first else s
def St.behind (s : St) (l n : Int) : St := if s.wrong l n = 0 then s.join l (s.en l).last n (-1) else s
def St.insertErr (s : St) (n a : Int) : Int := if s.hasNode n ∧ s.hasNode a then (if 0 < (s.lk n).list then 8 else if (s.lk a).list = 0 then 5 else 0) else 1
def St.insert (s : St) (n a : Int) : St := if s.insertErr n a = 0 then s.join ((s.lk a).list - 1) a n (s.lk a).next else s
theorem wrong_zero {s : St} {l n : Int} (h : s.wrong l n = 0) : s.hasList l ∧ s.hasNode n := by
  unfold St.wrong at h
  by_cases h1 : s.hasList l ∧ s.hasNode n
  · exact h1
  · rw [if_neg h1] at h; cases h

section
variable (w : World) (b b1 b2 : Nat) (s : St)
set_option maxRecDepth 100000 in
set_option maxHeartbeats 400000 in
theorem Ahead_calls (l n : Int) (hs : At w b b1 b2 s) (hv : Valid s) (hw : n < 2147483648) :
    Calls Try.prog 23 #[.pointer (some ⟨b, 0, none⟩), .int .i64 l, .int .i32 n] w fun e w' =>
      e = .returned (.int .i64 (s.wrong l n)) ∧ At w' b b1 b2 (s.ahead l n) ∧ Kept (Two b1 b2) w w' := by
  have hc := wrong_calls w b b1 b2 s l n hs hw
  by_cases h0 : s.wrong l n = 0
  · have e1 := Lib.hid (show s.ahead l n = s.join l (-1) n (s.en l).first from if_pos h0)
    obtain ⟨hl, hn⟩ := wrong_zero h0
    obtain ⟨v1, v2, v3, v4⟩ := hv.ends l hl
    have hj := join_calls w b b1 b2 s l (-1) n (s.en l).first hs hl hn.1 hn.2 (.inl rfl) v1 v3 v4
    rw [h0] at hc ⊢
    have Hc := Lib.hid hc
    have Hj := Lib.hid hj
    have g0 := hs.c1
    have g1 := hs.e0' hl.1 hl.2
    obtain ⟨hl0, hl1⟩ := hl
    clear hc hj h0 v1 v2 v3 v4
    go_enter Try.func23, Try.ntmps23
    go_wp2_with (first | (go_at_call 43; refine Hc.out.mono ?_; rintro e w' ⟨rfl, rfl⟩) | (go_at_call 44; refine Hj.out.mono ?_; rintro e w' ⟨rfl, hat, hkept⟩))
    go_ret
    exact ⟨rfl, by rw [e1.out]; exact hat, hkept⟩
  · have e1 := Lib.hid (show s.ahead l n = s from if_neg h0)
    have h1 : (s.wrong l n == 0) = false := by simpa using h0
    have h2 : (s.wrong l n != 0) = true := by simpa using h0
    have Hc := Lib.hid hc
    clear hc h0
    go_enter Try.func23, Try.ntmps23
    go_wp2_with (go_at_call 43; refine Hc.out.mono ?_; rintro e w' ⟨rfl, rfl⟩)
    go_ret
    exact ⟨rfl, by rw [e1.out]; exact hs, Kept.refl _ _⟩
set_option maxRecDepth 100000 in
set_option maxHeartbeats 400000 in
theorem Behind_calls (l n : Int) (hs : At w b b1 b2 s) (hv : Valid s) (hw : n < 2147483648) :
    Calls Try.prog 18 #[.pointer (some ⟨b, 0, none⟩), .int .i64 l, .int .i32 n] w fun e w' =>
      e = .returned (.int .i64 (s.wrong l n)) ∧ At w' b b1 b2 (s.behind l n) ∧ Kept (Two b1 b2) w w' := by
  have hc := wrong_calls w b b1 b2 s l n hs hw
  by_cases h0 : s.wrong l n = 0
  · have e1 := Lib.hid (show s.behind l n = s.join l (s.en l).last n (-1) from if_pos h0)
    obtain ⟨hl, hn⟩ := wrong_zero h0
    obtain ⟨v1, v2, v3, v4⟩ := hv.ends l hl
    have hj := join_calls w b b1 b2 s l (s.en l).last n (-1) hs hl hn.1 hn.2 v2 (.inl rfl) v3 v4
    rw [h0] at hc ⊢
    have Hc := Lib.hid hc
    have Hj := Lib.hid hj
    have g0 := hs.c1
    have g1 := hs.e1' hl.1 hl.2
    obtain ⟨hl0, hl1⟩ := hl
    clear hc hj h0 v1 v2 v3 v4
    go_enter Try.func18, Try.ntmps18
    go_wp2_with (first | (go_at_call 43; refine Hc.out.mono ?_; rintro e w' ⟨rfl, rfl⟩) | (go_at_call 44; refine Hj.out.mono ?_; rintro e w' ⟨rfl, hat, hkept⟩))
    go_ret
    exact ⟨rfl, by rw [e1.out]; exact hat, hkept⟩
  · have e1 := Lib.hid (show s.behind l n = s from if_neg h0)
    have h1 : (s.wrong l n == 0) = false := by simpa using h0
    have h2 : (s.wrong l n != 0) = true := by simpa using h0
    have Hc := Lib.hid hc
    clear hc h0
    go_enter Try.func18, Try.ntmps18
    go_wp2_with (go_at_call 43; refine Hc.out.mono ?_; rintro e w' ⟨rfl, rfl⟩)
    go_ret
    exact ⟨rfl, by rw [e1.out]; exact hs, Kept.refl _ _⟩
set_option maxHeartbeats 400000 in
theorem Ahead_nil (l n : Int) :
    Calls Try.prog 23 #[.pointer none, .int .i64 l, .int .i32 n] w fun e w' => e = .returned (.int .i64 9) ∧ w = w' := by
  go_enter Try.func23, Try.ntmps23
  go_wp2_with (go_at_call 43; refine (wrong_nil _ l n).mono ?_; rintro e w' ⟨rfl, rfl⟩)
  go_ret
  exact ⟨rfl, rfl⟩
set_option maxHeartbeats 400000 in
theorem Behind_nil (l n : Int) :
    Calls Try.prog 18 #[.pointer none, .int .i64 l, .int .i32 n] w fun e w' => e = .returned (.int .i64 9) ∧ w = w' := by
  go_enter Try.func18, Try.ntmps18
  go_wp2_with (go_at_call 43; refine (wrong_nil _ l n).mono ?_; rintro e w' ⟨rfl, rfl⟩)
  go_ret
  exact ⟨rfl, rfl⟩
set_option maxHeartbeats 400000 in
theorem Insert_nil (l n : Int) :
    Calls Try.prog 24 #[.pointer none, .int .i32 l, .int .i32 n] w fun e w' => e = .returned (.int .i64 9) ∧ w = w' := by
  go_enter Try.func24, Try.ntmps24
  go_wp2_with fail
  go_ret
  exact ⟨rfl, rfl⟩
set_option maxHeartbeats 400000 in
theorem Remove_nil (n : Int) :
    Calls Try.prog 20 #[.pointer none, .int .i32 n] w fun e w' => e = .returned (.bool false) ∧ w = w' := by
  go_enter Try.func20, Try.ntmps20
  go_wp2_with (go_at_call 45; refine (node_nil _ n).mono ?_; rintro e w' ⟨rfl, rfl⟩)
  go_ret
  exact ⟨rfl, rfl⟩

/-! Insert, case by case. -/
set_option maxRecDepth 100000 in
set_option maxHeartbeats 400000 in
theorem Insert_none (n a : Int) (hs : At w b b1 b2 s) (hw : n < 2147483648) (hwa : a < 2147483648) (h : ¬ (s.hasNode n ∧ s.hasNode a)) :
    Calls Try.prog 24 #[.pointer (some ⟨b, 0, none⟩), .int .i32 n, .int .i32 a] w fun e w' => e = .returned (.int .i64 1) ∧ w = w' := by
  by_cases hn : s.hasNode n
  · have ha : ¬ s.hasNode a := fun h' => h ⟨hn, h'⟩
    go_enter Try.func24, Try.ntmps24
    go_wp2_with fail
    refine (node_in w b b1 b2 s n hs hn.1 hn.2).mono ?_; rintro e w' ⟨rfl, rfl⟩
    go_wp2_with fail
    refine (node_out w b b1 b2 s a hs (hasNode_not ha) hwa).mono ?_; rintro e w' ⟨rfl, rfl⟩
    go_wp2_with fail
    go_ret
    exact ⟨rfl, rfl⟩
  · by_cases ha : s.hasNode a
    · go_enter Try.func24, Try.ntmps24
      go_wp2_with fail
      refine (node_out w b b1 b2 s n hs (hasNode_not hn) hw).mono ?_; rintro e w' ⟨rfl, rfl⟩
      go_wp2_with fail
      refine (node_in w b b1 b2 s a hs ha.1 ha.2).mono ?_; rintro e w' ⟨rfl, rfl⟩
      go_wp2_with fail
      go_ret
      exact ⟨rfl, rfl⟩
    · go_enter Try.func24, Try.ntmps24
      go_wp2_with fail
      refine (node_out w b b1 b2 s n hs (hasNode_not hn) hw).mono ?_; rintro e w' ⟨rfl, rfl⟩
      go_wp2_with fail
      refine (node_out w b b1 b2 s a hs (hasNode_not ha) hwa).mono ?_; rintro e w' ⟨rfl, rfl⟩
      go_wp2_with fail
      go_ret
      exact ⟨rfl, rfl⟩
set_option maxRecDepth 100000 in
set_option maxHeartbeats 400000 in
theorem Insert_stands (n a : Int) (hs : At w b b1 b2 s) (hn : s.hasNode n) (ha : s.hasNode a) (h3 : 0 < (s.lk n).list) :
    Calls Try.prog 24 #[.pointer (some ⟨b, 0, none⟩), .int .i32 n, .int .i32 a] w fun e w' => e = .returned (.int .i64 8) ∧ w = w' := by
  have g1 := hs.l2' hn.1 hn.2
  go_enter Try.func24, Try.ntmps24
  go_wp2_with fail
  refine (node_in w b b1 b2 s n hs hn.1 hn.2).mono ?_; rintro e w' ⟨rfl, rfl⟩
  go_wp2_with fail
  refine (node_in w b b1 b2 s a hs ha.1 ha.2).mono ?_; rintro e w' ⟨rfl, rfl⟩
  go_wp2_with fail
  go_ret
  exact ⟨rfl, rfl⟩
set_option maxRecDepth 100000 in
set_option maxHeartbeats 400000 in
theorem Insert_loose (n a : Int) (hs : At w b b1 b2 s) (hn : s.hasNode n) (ha : s.hasNode a) (h3 : (s.lk n).list ≤ 0) (h4 : (s.lk a).list = 0) :
    Calls Try.prog 24 #[.pointer (some ⟨b, 0, none⟩), .int .i32 n, .int .i32 a] w fun e w' => e = .returned (.int .i64 5) ∧ w = w' := by
  have g1 := hs.l2' hn.1 hn.2
  have g2 := hs.l2' ha.1 ha.2
  rw [h4] at g2
  clear h4
  go_enter Try.func24, Try.ntmps24
  go_wp2_with fail
  refine (node_in w b b1 b2 s n hs hn.1 hn.2).mono ?_; rintro e w' ⟨rfl, rfl⟩
  go_wp2_with fail
  refine (node_in w b b1 b2 s a hs ha.1 ha.2).mono ?_; rintro e w' ⟨rfl, rfl⟩
  go_wp2_with fail
  go_ret
  exact ⟨rfl, rfl⟩
set_option maxRecDepth 100000 in
set_option maxHeartbeats 400000 in
theorem Insert_good (n a : Int) (hs : At w b b1 b2 s) (hn : s.hasNode n) (ha : s.hasNode a) (h3 : (s.lk n).list ≤ 0) (h4 : 0 < (s.lk a).list) (h8 : (s.lk a).list ≤ 8) (hl : s.hasList ((s.lk a).list - 1))
    (hx : (s.lk a).next = -1 ∨ s.hasNode (s.lk a).next) (v3 : 0 ≤ (s.en ((s.lk a).list - 1)).many) (v4 : (s.en ((s.lk a).list - 1)).many ≤ 65536) :
    Calls Try.prog 24 #[.pointer (some ⟨b, 0, none⟩), .int .i32 n, .int .i32 a] w fun e w' =>
      e = .returned (.int .i64 0) ∧ At w' b b1 b2 (s.join ((s.lk a).list - 1) a n (s.lk a).next) ∧ Kept (Two b1 b2) w w' := by
  have g1 := hs.l2' hn.1 hn.2
  have g2 := hs.l2' ha.1 ha.2
  have g3 := hs.l1' ha.1 ha.2
  have g4 : ((s.lk a).list == 0) = false := by simpa using (by omega : ¬ (s.lk a).list = 0)
  go_enter Try.func24, Try.ntmps24
  go_wp2_with fail
  refine (node_in w b b1 b2 s n hs hn.1 hn.2).mono ?_; rintro e w' ⟨rfl, rfl⟩
  go_wp2_with fail
  refine (node_in w b b1 b2 s a hs ha.1 ha.2).mono ?_; rintro e w' ⟨rfl, rfl⟩
  go_wp2_with fail
  go_still_tail 13, (by kernel_rfl)
  change wpList _ _ _ _ _ w.drew
  have hj := join_calls w.drew b b1 b2 s ((s.lk a).list - 1) a n (s.lk a).next (hs.of_heap rfl) hl hn.1 hn.2 (.inr ha) hx v3 v4
  have Hj := Lib.hid hj
  clear hj
  go_wp2_with (go_at_call 44; refine Hj.out.mono ?_; rintro e w' ⟨rfl, hat, hkept⟩)
  go_ret
  exact ⟨rfl, hat, ⟨hkept.os, hkept.tape, hkept.output, hkept.size, hkept.block⟩⟩

theorem Insert_calls (n a : Int) (hs : At w b b1 b2 s) (hv : Valid s) (hw : n < 2147483648) (hwa : a < 2147483648) :
    Calls Try.prog 24 #[.pointer (some ⟨b, 0, none⟩), .int .i32 n, .int .i32 a] w fun e w' =>
      e = .returned (.int .i64 (s.insertErr n a)) ∧ At w' b b1 b2 (s.insert n a) ∧ Kept (Two b1 b2) w w' := by
  unfold St.insert
  by_cases h : s.hasNode n ∧ s.hasNode a
  · obtain ⟨hn, ha⟩ := h
    by_cases h3 : 0 < (s.lk n).list
    · have e1 : s.insertErr n a = 8 := by unfold St.insertErr; rw [if_pos ⟨hn, ha⟩, if_pos h3]
      rw [e1]
      exact (Insert_stands w b b1 b2 s n a hs hn ha h3).mono fun e w' ⟨he, hw⟩ => ⟨he, by subst hw; exact hs, by subst hw; exact Kept.refl _ _⟩
    · by_cases h4 : (s.lk a).list = 0
      · have e1 : s.insertErr n a = 5 := by unfold St.insertErr; rw [if_pos ⟨hn, ha⟩, if_neg h3, if_pos h4]
        rw [e1]
        exact (Insert_loose w b b1 b2 s n a hs hn ha (by omega) h4).mono fun e w' ⟨he, hw⟩ => ⟨he, by subst hw; exact hs, by subst hw; exact Kept.refl _ _⟩
      · have e1 : s.insertErr n a = 0 := by unfold St.insertErr; rw [if_pos ⟨hn, ha⟩, if_neg h3, if_neg h4]
        rw [e1]
        have hm := hv.mark a
        have hst : s.stands a := ⟨ha.1, ha.2, by omega⟩
        obtain ⟨v1, v2, v3⟩ := hv.link a hst
        obtain ⟨u1, u2, u3, u4⟩ := hv.ends _ v3
        exact Insert_good w b b1 b2 s n a hs hn ha (by omega) (by omega) hm.2 v3 (v2.imp id (fun h => h.1)) u3 u4
  · have e1 : s.insertErr n a = 1 := by unfold St.insertErr; rw [if_neg h]
    rw [e1]
    exact (Insert_none w b b1 b2 s n a hs hw hwa h).mono fun e w' ⟨he, hw⟩ => ⟨he, by subst hw; exact hs, by subst hw; exact Kept.refl _ _⟩
end
end Chain
end Go.Proofs.Ythjgjfelbagljaa
