/- Package mix: a key's slot is one of its bits' places. -/
import Derived.Test.YtekbgpfpnjddgaaProg
import Derived.Test.YtekbgpfpnjddgaaMem
import Derived.Laws.Bits64
import Derived.OpenShut
namespace Go.Proofs.Ytekbgpfpnjddgaa
open Go.RowKit
namespace Mix

def shiftF (a : Int) (n : Int) : Int := Go.bits .xor .u64 a (a / 2 ^ min n.toNat 64)
def mixF (a : Int) : Int := shiftF (IntKind.u64.wrap (shiftF (IntKind.u64.wrap (shiftF a 30 * 13787848793156543929)) 27 * 10723151780598845931)) 31
theorem u64_of_wf {n : Int} (h : (Lit.int .u64 n).wf = true) : 0 ≤ n ∧ n < 18446744073709551616 := by
  have h : IntKind.u64.min ≤ n ∧ n ≤ IntKind.u64.max := by simpa [Lit.wf] using h
  rw [show IntKind.u64.min = 0 from rfl, show IntKind.u64.max = 18446744073709551615 from rfl] at h
  omega
theorem shiftF_bd (a n : Int) : 0 ≤ shiftF a n ∧ shiftF a n < 18446744073709551616 := u64_of_wf (wf_bits ..)
theorem shift_calls (w : World) (a n : Int) (hn : 0 ≤ n) :
    Calls Try.prog 104 #[.int .u64 a, .int .u64 n] w fun e w' => e = .returned (.int .u64 (shiftF a n)) ∧ w' = w := by
  have hn' := eq_true hn
  go_enter Try.func104, Try.ntmps104
  go_wp2
  go_ret
  exact ⟨rfl, rfl⟩
theorem Mix_calls (w : World) (a : Int) :
    Calls Try.prog 92 #[.int .u64 a] w fun e w' => e = .returned (.int .u64 (mixF a)) ∧ w' = w := by
  go_enter Try.func92, Try.ntmps92
  go_wp2_with (go_at_call 104; refine (shift_calls _ _ _ (by decide)).mono ?_; rintro e w' ⟨rfl, rfl⟩)
  go_ret
  exact ⟨rfl, rfl⟩
/-- A key's own slot among 2^b. -/
def homeOf (b : Nat) (key : Int) : Nat := (mixF key / 2 ^ (64 - b)).toNat % 2 ^ b
theorem homeOf_lt (b : Nat) (key : Int) : homeOf b key < 2 ^ b := Nat.mod_lt _ (Nat.pow_pos (by decide))
theorem homeOf_eq (b : Nat) (h1 : 1 ≤ b) (h2 : b ≤ 30) (key : Int) : ((homeOf b key : Nat) : Int) = mixF key / 2 ^ (64 - b) ∧ mixF key / 2 ^ (64 - b) < 2 ^ b ∧ 0 ≤ mixF key / 2 ^ (64 - b) := by
  have hb := shiftF_bd (IntKind.u64.wrap (shiftF (IntKind.u64.wrap (shiftF key 30 * 13787848793156543929)) 27 * 10723151780598845931)) 31
  have e : (2 : Int) ^ 64 = 2 ^ (64 - b) * 2 ^ b := by rw [← Int.pow_add]; congr 1; omega
  have p1 : (0 : Int) < 2 ^ (64 - b) := Int.pow_pos (by decide)
  have h0 : 0 ≤ mixF key / 2 ^ (64 - b) := Int.ediv_nonneg hb.1 (by omega)
  have h3 : mixF key / 2 ^ (64 - b) < 2 ^ b := by
    refine Int.ediv_lt_of_lt_mul p1 ?_
    rw [Int.mul_comm, ← e]
    exact hb.2
  refine ⟨?_, h3, h0⟩
  unfold homeOf
  have h4 : (mixF key / 2 ^ (64 - b)).toNat < 2 ^ b := by
    have : ((2 ^ b : Nat) : Int) = 2 ^ b := by simp
    omega
  rw [Nat.mod_eq_of_lt h4]
  omega
theorem Slot_calls (w : World) (a : Int) (b : Nat) (h1 : 1 ≤ b) (h2 : b ≤ 30) :
    Calls Try.prog 86 #[.int .u64 a, .int .i64 b] w fun e w' => e = .returned (.int .i64 (homeOf b a : Nat)) ∧ w' = w := by
  obtain ⟨e1, e2, e3⟩ := homeOf_eq b h1 h2 a
  have hb1 : decide ((b : Int) < 1) = false := decide_eq_false (by omega)
  have hb2 : decide ((b : Int) > 30) = false := decide_eq_false (by omega)
  have hw1 : wrap64 (64 - (b : Int)) = 64 - b := by unfold wrap64; omega
  have hw2 : IntKind.u64.wrap (64 - (b : Int)) = 64 - b := by rw [IntKind.wrap_u64]; omega
  have hw3 := eq_true (show (0 : Int) ≤ 64 - b by omega)
  have hm : min (64 - (b : Int)).toNat 64 = 64 - b := by omega
  have hp : (2 : Int) ^ b ≤ 2 ^ 30 := by
    have := Nat.pow_le_pow_right (show 0 < 2 by decide) h2
    exact_mod_cast this
  have hw4 : wrap64 (mixF a / 2 ^ (64 - b)) = mixF a / 2 ^ (64 - b) := by unfold wrap64; omega
  go_enter Try.func86, Try.ntmps86
  go_wp2_with (go_at_call 92; refine (Mix_calls _ _).mono ?_; rintro e w' ⟨rfl, rfl⟩)
  go_ret
  exact ⟨by rw [e1]; rfl, rfl⟩
end Mix
end Go.Proofs.Ytekbgpfpnjddgaa
