/- Walks over chain: the functions that only look. -/
import Derived.Test.YthjgjfelbagljaaProg
import Derived.Test.YthjgjfelbagljaaChainRep
namespace Go.Proofs.Ythjgjfelbagljaa
open Go.RowKit
namespace Chain

def told (n : Int) : Int × Bool := if n = -1 then (0, false) else (n, true)
theorem ret_pair {a a' : Int} {b b' : Bool} (ha : a = a') (hb : b = b') : Ending.returned (.tuple #[.int .i32 a, .bool b]) = Ending.returned (.tuple #[.int .i32 a', .bool b']) := by rw [ha, hb]

set_option maxHeartbeats 400000 in
theorem told_calls (n : Int) (w : World) :
    Calls Try.prog 55 #[.int .i32 n] w fun e w' => e = .returned (.tuple #[.int .i32 (told n).1, .bool (told n).2]) ∧ w = w' := by
  by_cases hn : n = -1
  · subst hn
    go_enter Try.func55, Try.ntmps55
    go_wp2
    go_ret2
    exact ⟨rfl, rfl⟩
  · have e1 : told n = (n, false || true) := if_neg hn
    have hn' : (n == -1) = false := by simpa using hn
    rw [e1]
    clear e1 hn
    go_enter Try.func55, Try.ntmps55
    go_wp2
    go_ret2
    exact ⟨rfl, rfl⟩

/-! list: the address of a list's ends. -/
section
variable (w : World) (b b1 b2 : Nat) (s : St)
set_option maxHeartbeats 400000 in
theorem list_in (i : Int) (hs : At w b b1 b2 s) (h0 : 0 ≤ i) (hi : i < s.lists.length) :
    Calls Try.prog 47 #[.pointer (some ⟨b, 0, none⟩), .int .i64 i] w fun e w' => e = .returned (.pointer (some ⟨b2, i.toNat * 3, none⟩)) ∧ w = w' := by
  have h1 := hs.c1
  go_enter Try.func47, Try.ntmps47
  go_wp2
  go_ret
  exact ⟨rfl, rfl⟩
set_option maxHeartbeats 400000 in
theorem list_out (i : Int) (hs : At w b b1 b2 s) (hi : i < 0 ∨ (s.lists.length : Int) ≤ i) :
    Calls Try.prog 47 #[.pointer (some ⟨b, 0, none⟩), .int .i64 i] w fun e w' => e = .returned (.pointer none) ∧ w = w' := by
  have h1 := hs.c1
  go_enter Try.func47, Try.ntmps47
  go_wp2
  all_goals (go_ret; exact ⟨rfl, rfl⟩)
set_option maxHeartbeats 400000 in
theorem list_nil (i : Int) :
    Calls Try.prog 47 #[.pointer none, .int .i64 i] w fun e w' => e = .returned (.pointer none) ∧ w = w' := by
  go_enter Try.func47, Try.ntmps47
  go_wp2
  all_goals (go_ret; exact ⟨rfl, rfl⟩)
set_option maxHeartbeats 400000 in
theorem node_in (i : Int) (hs : At w b b1 b2 s) (h0 : 0 ≤ i) (hi : i < s.links.length) :
    Calls Try.prog 45 #[.pointer (some ⟨b, 0, none⟩), .int .i32 i] w fun e w' => e = .returned (.pointer (some ⟨b1, i.toNat * 3, none⟩)) ∧ w = w' := by
  have h1 := hs.c0
  have h3 : i ≤ 65535 := by have h2 := hs.nodes; omega
  go_enter Try.func45, Try.ntmps45
  go_wp2
  go_ret
  exact ⟨rfl, rfl⟩
set_option maxRecDepth 100000 in
set_option maxHeartbeats 400000 in
theorem node_out (i : Int) (hs : At w b b1 b2 s) (hi : i < 0 ∨ (s.links.length : Int) ≤ i) (hw : i < 2147483648) :
    Calls Try.prog 45 #[.pointer (some ⟨b, 0, none⟩), .int .i32 i] w fun e w' => e = .returned (.pointer none) ∧ w = w' := by
  have h1 := hs.c0
  go_enter Try.func45, Try.ntmps45
  go_wp2
  all_goals (go_ret; exact ⟨rfl, rfl⟩)
set_option maxHeartbeats 400000 in
theorem node_nil (i : Int) :
    Calls Try.prog 45 #[.pointer none, .int .i32 i] w fun e w' => e = .returned (.pointer none) ∧ w = w' := by
  go_enter Try.func45, Try.ntmps45
  go_wp2
  all_goals (go_ret; exact ⟨rfl, rfl⟩)
end

/-! First, Last, Next, Prev, List, Len. -/
/-- A node stands in a list. -/
def St.stands (s : St) (n : Int) : Prop := 0 ≤ n ∧ n < s.links.length ∧ 0 < (s.lk n).list
instance (s : St) (n : Int) : Decidable (s.stands n) := by unfold St.stands; infer_instance
def St.hasList (s : St) (i : Int) : Prop := 0 ≤ i ∧ i < s.lists.length
instance (s : St) (i : Int) : Decidable (s.hasList i) := by unfold St.hasList; infer_instance
def St.first (s : St) (i : Int) : Int × Bool := if s.hasList i then told (s.en i).first else (0, false)
def St.last (s : St) (i : Int) : Int × Bool := if s.hasList i then told (s.en i).last else (0, false)
def St.len (s : St) (i : Int) : Int := if s.hasList i then (s.en i).many else 0
def St.next (s : St) (n : Int) : Int × Bool := if s.stands n then told (s.lk n).next else (0, false)
def St.prev (s : St) (n : Int) : Int × Bool := if s.stands n then told (s.lk n).prev else (0, false)
def St.list (s : St) (n : Int) : Int × Bool := if s.stands n then ((s.lk n).list - 1, true) else (0, false)
theorem hasList_not {s : St} {i : Int} (h : ¬ s.hasList i) : i < 0 ∨ (s.lists.length : Int) ≤ i := by unfold St.hasList at h; omega

section
variable (w : World) (b b1 b2 : Nat) (s : St)
set_option maxHeartbeats 400000 in
theorem First_calls (i : Int) (hs : At w b b1 b2 s) :
    Calls Try.prog 34 #[.pointer (some ⟨b, 0, none⟩), .int .i64 i] w fun e w' => e = .returned (.tuple #[.int .i32 (s.first i).1, .bool (s.first i).2]) ∧ w = w' := by
  by_cases hl : s.hasList i
  · have e1 : s.first i = told (s.en i).first := if_pos hl
    rw [e1]
    clear e1
    have h2 := hs.e0' hl.1 hl.2
    obtain ⟨h0, hi⟩ := hl
    go_enter Try.func34, Try.ntmps34
    go_wp2_with (first | (go_at_call 47; refine (list_in _ b b1 b2 s i hs h0 hi).mono ?_; rintro e w' ⟨rfl, rfl⟩) | (go_at_call 55; refine (told_calls _ _).mono ?_; rintro e w' ⟨rfl, rfl⟩))
    go_ret2
    exact ⟨rfl, rfl⟩
  · have e1 : s.first i = (0, false) := if_neg hl
    rw [e1]
    clear e1
    go_enter Try.func34, Try.ntmps34
    go_wp2_with (go_at_call 47; refine (list_out _ b b1 b2 s i hs (hasList_not hl)).mono ?_; rintro e w' ⟨rfl, rfl⟩)
    go_ret2
    exact ⟨rfl, rfl⟩
set_option maxHeartbeats 400000 in
theorem First_nil (i : Int) :
    Calls Try.prog 34 #[.pointer none, .int .i64 i] w fun e w' => e = .returned (.tuple #[.int .i32 0, .bool false]) ∧ w = w' := by
  go_enter Try.func34, Try.ntmps34
  go_wp2_with (go_at_call 47; refine (list_nil _ i).mono ?_; rintro e w' ⟨rfl, rfl⟩)
  go_ret2
  exact ⟨rfl, rfl⟩
set_option maxHeartbeats 400000 in
theorem Last_calls (i : Int) (hs : At w b b1 b2 s) :
    Calls Try.prog 35 #[.pointer (some ⟨b, 0, none⟩), .int .i64 i] w fun e w' => e = .returned (.tuple #[.int .i32 (s.last i).1, .bool (s.last i).2]) ∧ w = w' := by
  by_cases hl : s.hasList i
  · have e1 : s.last i = told (s.en i).last := if_pos hl
    rw [e1]
    clear e1
    have h2 := hs.e1' hl.1 hl.2
    obtain ⟨h0, hi⟩ := hl
    go_enter Try.func35, Try.ntmps35
    go_wp2_with (first | (go_at_call 47; refine (list_in _ b b1 b2 s i hs h0 hi).mono ?_; rintro e w' ⟨rfl, rfl⟩) | (go_at_call 55; refine (told_calls _ _).mono ?_; rintro e w' ⟨rfl, rfl⟩))
    go_ret2
    exact ⟨rfl, rfl⟩
  · have e1 : s.last i = (0, false) := if_neg hl
    rw [e1]
    clear e1
    go_enter Try.func35, Try.ntmps35
    go_wp2_with (go_at_call 47; refine (list_out _ b b1 b2 s i hs (hasList_not hl)).mono ?_; rintro e w' ⟨rfl, rfl⟩)
    go_ret2
    exact ⟨rfl, rfl⟩
set_option maxHeartbeats 400000 in
theorem Last_nil (i : Int) :
    Calls Try.prog 35 #[.pointer none, .int .i64 i] w fun e w' => e = .returned (.tuple #[.int .i32 0, .bool false]) ∧ w = w' := by
  go_enter Try.func35, Try.ntmps35
  go_wp2_with (go_at_call 47; refine (list_nil _ i).mono ?_; rintro e w' ⟨rfl, rfl⟩)
  go_ret2
  exact ⟨rfl, rfl⟩
set_option maxRecDepth 100000 in
set_option maxHeartbeats 400000 in
theorem Next_calls (n : Int) (hs : At w b b1 b2 s) (hw : n < 2147483648) :
    Calls Try.prog 36 #[.pointer (some ⟨b, 0, none⟩), .int .i32 n] w fun e w' => e = .returned (.tuple #[.int .i32 (s.next n).1, .bool (s.next n).2]) ∧ w = w' := by
  by_cases hl : s.stands n
  · have e1 : s.next n = told (s.lk n).next := if_pos hl
    rw [e1]
    clear e1
    have h1 := hs.l2' hl.1 hl.2.1
    have h2 := hs.l1' hl.1 hl.2.1
    obtain ⟨h0, hi, h3⟩ := hl
    go_enter Try.func36, Try.ntmps36
    go_wp2_with (first | (go_at_call 45; refine (node_in _ b b1 b2 s n hs h0 hi).mono ?_; rintro e w' ⟨rfl, rfl⟩) | (go_at_call 55; refine (told_calls _ _).mono ?_; rintro e w' ⟨rfl, rfl⟩))
    go_ret2
    exact ⟨rfl, rfl⟩
  · have e1 : s.next n = (0, false) := if_neg hl
    rw [e1]
    clear e1
    by_cases h : 0 ≤ n ∧ n < s.links.length
    · obtain ⟨h0, hi⟩ := h
      have h1 := hs.l2' h0 hi
      have h3 : (s.lk n).list ≤ 0 := Int.not_lt.1 (fun h => hl ⟨h0, hi, h⟩)
      go_enter Try.func36, Try.ntmps36
      go_wp2_with (go_at_call 45; refine (node_in _ b b1 b2 s n hs h0 hi).mono ?_; rintro e w' ⟨rfl, rfl⟩)
      go_ret2
      exact ⟨rfl, rfl⟩
    · have h4 : n < 0 ∨ (s.links.length : Int) ≤ n := by omega
      go_enter Try.func36, Try.ntmps36
      go_wp2_with (go_at_call 45; refine (node_out _ b b1 b2 s n hs h4 hw).mono ?_; rintro e w' ⟨rfl, rfl⟩)
      go_ret2
      exact ⟨rfl, rfl⟩
set_option maxHeartbeats 400000 in
theorem Next_nil (n : Int) :
    Calls Try.prog 36 #[.pointer none, .int .i32 n] w fun e w' => e = .returned (.tuple #[.int .i32 0, .bool false]) ∧ w = w' := by
  go_enter Try.func36, Try.ntmps36
  go_wp2_with (go_at_call 45; refine (node_nil _ n).mono ?_; rintro e w' ⟨rfl, rfl⟩)
  go_ret2
  exact ⟨rfl, rfl⟩
set_option maxRecDepth 100000 in
set_option maxHeartbeats 400000 in
theorem Prev_calls (n : Int) (hs : At w b b1 b2 s) (hw : n < 2147483648) :
    Calls Try.prog 37 #[.pointer (some ⟨b, 0, none⟩), .int .i32 n] w fun e w' => e = .returned (.tuple #[.int .i32 (s.prev n).1, .bool (s.prev n).2]) ∧ w = w' := by
  by_cases hl : s.stands n
  · have e1 : s.prev n = told (s.lk n).prev := if_pos hl
    rw [e1]
    clear e1
    have h1 := hs.l2' hl.1 hl.2.1
    have h2 := hs.l0' hl.1 hl.2.1
    obtain ⟨h0, hi, h3⟩ := hl
    go_enter Try.func37, Try.ntmps37
    go_wp2_with (first | (go_at_call 45; refine (node_in _ b b1 b2 s n hs h0 hi).mono ?_; rintro e w' ⟨rfl, rfl⟩) | (go_at_call 55; refine (told_calls _ _).mono ?_; rintro e w' ⟨rfl, rfl⟩))
    go_ret2
    exact ⟨rfl, rfl⟩
  · have e1 : s.prev n = (0, false) := if_neg hl
    rw [e1]
    clear e1
    by_cases h : 0 ≤ n ∧ n < s.links.length
    · obtain ⟨h0, hi⟩ := h
      have h1 := hs.l2' h0 hi
      have h3 : (s.lk n).list ≤ 0 := Int.not_lt.1 (fun h => hl ⟨h0, hi, h⟩)
      go_enter Try.func37, Try.ntmps37
      go_wp2_with (go_at_call 45; refine (node_in _ b b1 b2 s n hs h0 hi).mono ?_; rintro e w' ⟨rfl, rfl⟩)
      go_ret2
      exact ⟨rfl, rfl⟩
    · have h4 : n < 0 ∨ (s.links.length : Int) ≤ n := by omega
      go_enter Try.func37, Try.ntmps37
      go_wp2_with (go_at_call 45; refine (node_out _ b b1 b2 s n hs h4 hw).mono ?_; rintro e w' ⟨rfl, rfl⟩)
      go_ret2
      exact ⟨rfl, rfl⟩
set_option maxHeartbeats 400000 in
theorem Prev_nil (n : Int) :
    Calls Try.prog 37 #[.pointer none, .int .i32 n] w fun e w' => e = .returned (.tuple #[.int .i32 0, .bool false]) ∧ w = w' := by
  go_enter Try.func37, Try.ntmps37
  go_wp2_with (go_at_call 45; refine (node_nil _ n).mono ?_; rintro e w' ⟨rfl, rfl⟩)
  go_ret2
  exact ⟨rfl, rfl⟩
set_option maxRecDepth 100000 in
set_option maxHeartbeats 400000 in
theorem List_calls (n : Int) (hs : At w b b1 b2 s) (hw : n < 2147483648) (h8 : ∀ i, (s.lk i).list ≤ 8) :
    Calls Try.prog 38 #[.pointer (some ⟨b, 0, none⟩), .int .i32 n] w fun e w' => e = .returned (.tuple #[.int .i64 (s.list n).1, .bool (s.list n).2]) ∧ w = w' := by
  by_cases hl : s.stands n
  · have e1 : s.list n = ((s.lk n).list - 1, true) := if_pos hl
    rw [e1]
    clear e1
    have h1 := hs.l2' hl.1 hl.2.1
    have h8 := h8 n
    obtain ⟨h0, hi, h3⟩ := hl
    go_enter Try.func38, Try.ntmps38
    go_wp2_with (first | (go_at_call 45; refine (node_in _ b b1 b2 s n hs h0 hi).mono ?_; rintro e w' ⟨rfl, rfl⟩) | (go_at_call 55; refine (told_calls _ _).mono ?_; rintro e w' ⟨rfl, rfl⟩))
    go_ret2
    exact ⟨rfl, rfl⟩
  · have e1 : s.list n = (0, false) := if_neg hl
    rw [e1]
    clear e1
    by_cases h : 0 ≤ n ∧ n < s.links.length
    · obtain ⟨h0, hi⟩ := h
      have h1 := hs.l2' h0 hi
      have h3 : (s.lk n).list ≤ 0 := Int.not_lt.1 (fun h => hl ⟨h0, hi, h⟩)
      go_enter Try.func38, Try.ntmps38
      go_wp2_with (go_at_call 45; refine (node_in _ b b1 b2 s n hs h0 hi).mono ?_; rintro e w' ⟨rfl, rfl⟩)
      go_ret2
      exact ⟨rfl, rfl⟩
    · have h4 : n < 0 ∨ (s.links.length : Int) ≤ n := by omega
      go_enter Try.func38, Try.ntmps38
      go_wp2_with (go_at_call 45; refine (node_out _ b b1 b2 s n hs h4 hw).mono ?_; rintro e w' ⟨rfl, rfl⟩)
      go_ret2
      exact ⟨rfl, rfl⟩
set_option maxHeartbeats 400000 in
theorem List_nil (n : Int) :
    Calls Try.prog 38 #[.pointer none, .int .i32 n] w fun e w' => e = .returned (.tuple #[.int .i64 0, .bool false]) ∧ w = w' := by
  go_enter Try.func38, Try.ntmps38
  go_wp2_with (go_at_call 45; refine (node_nil _ n).mono ?_; rintro e w' ⟨rfl, rfl⟩)
  go_ret2
  exact ⟨rfl, rfl⟩
set_option maxHeartbeats 400000 in
theorem Len_calls (i : Int) (hs : At w b b1 b2 s) :
    Calls Try.prog 26 #[.pointer (some ⟨b, 0, none⟩), .int .i64 i] w fun e w' => e = .returned (.int .i64 (s.len i)) ∧ w = w' := by
  by_cases hl : s.hasList i
  · have e1 : s.len i = (s.en i).many := if_pos hl
    rw [e1]
    clear e1
    have h2 := hs.e2' hl.1 hl.2
    obtain ⟨h0, hi⟩ := hl
    go_enter Try.func26, Try.ntmps26
    go_wp2_with (go_at_call 47; refine (list_in _ b b1 b2 s i hs h0 hi).mono ?_; rintro e w' ⟨rfl, rfl⟩)
    go_ret
    exact ⟨rfl, rfl⟩
  · have e1 : s.len i = 0 := if_neg hl
    rw [e1]
    clear e1
    go_enter Try.func26, Try.ntmps26
    go_wp2_with (go_at_call 47; refine (list_out _ b b1 b2 s i hs (hasList_not hl)).mono ?_; rintro e w' ⟨rfl, rfl⟩)
    go_ret
    exact ⟨rfl, rfl⟩
set_option maxHeartbeats 400000 in
theorem Len_nil (i : Int) :
    Calls Try.prog 26 #[.pointer none, .int .i64 i] w fun e w' => e = .returned (.int .i64 0) ∧ w = w' := by
  go_enter Try.func26, Try.ntmps26
  go_wp2_with (go_at_call 47; refine (list_nil _ i).mono ?_; rintro e w' ⟨rfl, rfl⟩)
  go_ret
  exact ⟨rfl, rfl⟩
end
end Chain
end Go.Proofs.Ythjgjfelbagljaa
