/- The walk of the law ChainNil. -/
import Derived.Test.YthjgjfelbagljaaChainAlive
namespace Go.Proofs.Ythjgjfelbagljaa
open Go.RowKit
namespace Chain

theorem owns_empty {w : World} {base e : Nat} {v : Value} {m : Nat} {xs : List Value} (h : w.ownsRow base e 1 v m xs) (hm : m = 0) : ∃ a c, v = .slice a 0 c := by
  subst hm
  rcases h.2 with ⟨rfl, _⟩ | ⟨g, cap, cur, rfl, _⟩
  · exact ⟨_, _, rfl⟩
  · exact ⟨_, _, rfl⟩
set_option maxRecDepth 100000 in
set_option maxHeartbeats 2000000 in
theorem ChainNil_calls (i n : Int) (w : World) : Calls Try.prog 8 #[.int .i64 i, .int .i32 n] w fun e w' => e = .returned (.bool true) ∧ Below w.heap.size w w' := by
  go_enter Try.func8, Try.ntmps8
  go_wp2_with (first
    | (go_at_call 34; refine (First_nil _ _).mono ?_; rintro e w' ⟨rfl, rfl⟩)
    | (go_at_call 35; refine (Last_nil _ _).mono ?_; rintro e w' ⟨rfl, rfl⟩)
    | (go_at_call 36; refine (Next_nil _ _).mono ?_; rintro e w' ⟨rfl, rfl⟩)
    | (go_at_call 37; refine (Prev_nil _ _).mono ?_; rintro e w' ⟨rfl, rfl⟩)
    | (go_at_call 38; refine (List_nil _ _).mono ?_; rintro e w' ⟨rfl, rfl⟩)
    | (go_at_call 19; fail)
    | (go_at_call 25; fail))
  refine (told_gen w none i 5 [] (by decide) (by decide) (fun w1 w0 h1 h0 Bs => All_iter_nil w1 5 (by omega) Bs i w0 h0)).mono ?_
  rintro e wa ⟨v, rfl, hrow, hba⟩
  obtain ⟨va, vc, rfl⟩ := owns_empty hrow rfl
  go_wp2_with fail
  refine (back_gen wa none i 5 [] (by decide) (by decide) (fun w1 w0 h1 h0 Bs => Back_iter_nil w1 5 (by omega) Bs i w0 h0)).mono ?_
  rintro e wb ⟨v, rfl, hrow2, hbb⟩
  obtain ⟨vb, vd, rfl⟩ := owns_empty hrow2 rfl
  clear hrow hrow2
  go_wp2_with (first
    | (go_at_call 23; refine (Ahead_nil _ _ _).mono ?_; rintro e w' ⟨rfl, rfl⟩)
    | (go_at_call 18; refine (Behind_nil _ _ _).mono ?_; rintro e w' ⟨rfl, rfl⟩)
    | (go_at_call 24; refine (Insert_nil _ _ _).mono ?_; rintro e w' ⟨rfl, rfl⟩)
    | (go_at_call 20; refine (Remove_nil _ _).mono ?_; rintro e w' ⟨rfl, rfl⟩)
    | (go_at_call 26; refine (Len_nil _ _).mono ?_; rintro e w' ⟨rfl, rfl⟩)
    | (go_at_call 16; refine (alive_calls _).mono ?_; rintro e w' ⟨rfl, hbc⟩))
  go_ret
  exact ⟨rfl, (hba.trans (hbb.mono hba.size)).trans (hbc.mono (by have := hba.size; have := hbb.size; omega))⟩
end Chain
end Go.Proofs.Ythjgjfelbagljaa
