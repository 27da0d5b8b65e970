/- What the bounds' functions answer: numbers of two words, and digits of 65536. -/
import Derived.Test.YthjgjfelbagljabDoorBT2
import Derived.Lib.Mul64
import Derived.Laws.Bits64b
import Derived.Shelf.Bits.Mul64
namespace Go.Proofs.YthjgjfelbagljabDoor
open Go.RowKit Go.Proofs.YthjgjfelbagljabDoorW.PrintWords Go.Proofs.YthjgjfelbagljabDoorW.PrintMore
open Go.Proofs.YthjgjfelbagljabDoor.PBoundsTells

theorem w64_up (i : Int) (h0 : 0 ≤ i) (h1 : i < 1000000) : wrap64 (i + 1) = i + 1 := by unfold wrap64; omega
theorem w64_down (i : Int) (h0 : 0 ≤ i) (h1 : i < 1000000) : wrap64 (i - 1) = i - 1 := by unfold wrap64; omega
theorem u64_id (n : Int) (h0 : 0 ≤ n) (h1 : n < 18446744073709551616) : IntKind.u64.wrap n = n := by rw [IntKind.wrap_u64]; omega
theorem rd_nat (xs : List Int) (i : Nat) : rd xs (i : Int) = xs.getD i 0 := by simp [rd]
theorem drop_rd (xs : List Int) (i : Nat) (h : i < xs.length) : xs.drop i = rd xs (i : Int) :: xs.drop (i + 1) := by
  rw [rd_nat, List.getD_eq_getElem?_getD, List.getElem?_eq_getElem h]
  exact List.drop_eq_getElem_cons h
theorem rdOf_drop {α : Type} (d : α) (xs : List α) (i : Nat) (h : i < xs.length) : xs.drop i = rdOf d xs (i : Int) :: xs.drop (i + 1) := by
  rw [show rdOf d xs (i : Int) = xs[i] by simp [rdOf, List.getD_eq_getElem?_getD, List.getElem?_eq_getElem h]]
  exact List.drop_eq_getElem_cons h

/-! ### Numbers of two words -/
theorem add64_f {a b c : Int} (h : 0 ≤ a ∧ 0 ≤ b ∧ 0 ≤ c ∧ c ≤ 1) : bits_Add64.f a b c = some ((a + b + c) % 18446744073709551616, (a + b + c) / 18446744073709551616) := by
  unfold bits_Add64.f
  rw [if_pos h]
def sumOf : List Int → Int
  | [] => 0
  | x :: xs => x + sumOf xs
def U64s (xs : List Int) : Prop := ∀ x ∈ xs, 0 ≤ x ∧ x < 18446744073709551616
theorem sumOf_bd : ∀ (xs : List Int), U64s xs → 0 ≤ sumOf xs ∧ sumOf xs ≤ xs.length * 18446744073709551615
  | [], _ => by simp [sumOf]
  | x :: xs, h => by
    have h1 := h x (by simp)
    have h2 := sumOf_bd xs (fun y hy => h y (by simp [hy]))
    simp only [sumOf, List.length_cons]
    push_cast
    omega
theorem sum_l0 (xs : List Int) (hU : U64s xs) (hl : xs.length ≤ 8) : ∀ (n i k : Nat) (hi lo : Int), n + i = xs.length → n < k → 0 ≤ hi → 0 ≤ lo → lo < 18446744073709551616 → hi * 18446744073709551616 + lo + sumOf (xs.drop i) ≤ 8 * 18446744073709551615 →
    bounds_sum.l0 k xs (xs.length : Int) (i : Int) hi lo = some ((hi * 18446744073709551616 + lo + sumOf (xs.drop i)) / 18446744073709551616, (hi * 18446744073709551616 + lo + sumOf (xs.drop i)) % 18446744073709551616)
  | 0, i, k, hi, lo, hn, hk, h0, h1, h2, h3 => by
    obtain ⟨k, rfl⟩ : ∃ m, k = m + 1 := ⟨k - 1, by omega⟩
    have e : xs.drop i = [] := List.drop_eq_nil_of_le (by omega)
    simp only [bounds_sum.l0, e, sumOf]
    rw [if_neg (by omega)]
    refine congrArg some (Prod.ext ?_ ?_) <;> simp only <;> omega
  | n + 1, i, k, hi, lo, hn, hk, h0, h1, h2, h3 => by
    obtain ⟨k, rfl⟩ : ∃ m, k = m + 1 := ⟨k - 1, by omega⟩
    have e := drop_rd xs i (by omega)
    have hm : rd xs (i : Int) ∈ xs := by
      have := List.mem_of_mem_drop (i := i) (l := xs) (a := rd xs (i : Int)) (by rw [e]; simp)
      exact this
    have hx := hU _ hm
    have hrest := sumOf_bd (xs.drop (i + 1)) (fun y hy => hU y (List.mem_of_mem_drop hy))
    rw [e] at h3 ⊢
    simp only [sumOf] at h3 ⊢
    simp only [bounds_sum.l0]
    rw [if_pos (by omega), if_pos (by omega), if_pos (by omega), add64_f ⟨h1, hx.1, by omega, by omega⟩]
    simp only [Option.bind_some]
    generalize hr : rd xs (i : Int) = x at *
    rw [w64_up _ (by omega) (by omega), show ((i : Int) + 1) = ((i + 1 : Nat) : Int) by omega, u64_id _ (by omega) (by omega)]
    rw [sum_l0 xs hU hl n (i + 1) k _ _ (by omega) (by omega) (by omega) (by omega) (by omega) (by omega)]
    refine congrArg some (Prod.ext ?_ ?_) <;> simp only <;> omega
theorem sum_f (xs : List Int) (hU : U64s xs) (hl : xs.length ≤ 8) (k : Nat) (hk : 9 ≤ k) : bounds_sum.f k xs = some (sumOf xs / 18446744073709551616, sumOf xs % 18446744073709551616) := by
  have hb := sumOf_bd xs hU
  have := sum_l0 xs hU hl xs.length 0 k 0 0 (by omega) (by omega) (by omega) (by omega) (by omega) (by simp only [List.drop_zero]; omega)
  unfold bounds_sum.f
  rw [show (0 : Int) = ((0 : Nat) : Int) from rfl] at *
  rw [this]
  simp
theorem most_f {a b : Int} (h0 : 0 ≤ a) (h1 : 0 ≤ b) : bounds_wide_most.f (a / 18446744073709551616) (a % 18446744073709551616) (b / 18446744073709551616) (b % 18446744073709551616) = some (decide (a ≤ b)) := by
  unfold bounds_wide_most.f
  by_cases e : a / 18446744073709551616 = b / 18446744073709551616
  · by_cases e' : a % 18446744073709551616 = b % 18446744073709551616
    · have : a = b := by omega
      subst this
      simp
    · rw [if_neg (by simp [e']), if_neg (by omega), if_pos e]
      refine congrArg some (decide_eq_decide.mpr ⟨fun h => ?_, fun h => ?_⟩) <;> omega
  · rw [if_neg (by simp [e]), if_neg e]
    by_cases c : a / 18446744073709551616 < b / 18446744073709551616
    · rw [if_pos c]
      exact congrArg some (decide_eq_true (by omega)).symm
    · rw [if_neg c]
      exact congrArg some (decide_eq_false (by omega)).symm
theorem mul64_f (x y : Nat) (hx : x < 18446744073709551616) (hy : y < 18446744073709551616) : bits_Mul64.f (x : Int) (y : Int) = some (((x * y / 18446744073709551616 : Nat) : Int), ((x * y % 18446744073709551616 : Nat) : Int)) := by
  obtain ⟨bd, bt, bw, hhi⟩ := Lib.mul64_hi x y hx hy
  have ba := Lib.half_mul_le (a := x / 4294967296) (b := y / 4294967296) (by omega) (by omega)
  have bb := Lib.half_mul_le (a := x / 4294967296) (b := y % 4294967296) (by omega) (by omega)
  have bc := Lib.half_mul_le (a := x % 4294967296) (b := y / 4294967296) (by omega) (by omega)
  have ba' : x / 4294967296 * (y / 4294967296) < 18446744073709551616 := by omega
  have bb' : x / 4294967296 * (y % 4294967296) < 18446744073709551616 := by omega
  have bc' : x % 4294967296 * (y / 4294967296) < 18446744073709551616 := by omega
  have bh1 : x / 4294967296 * (y / 4294967296) + (x / 4294967296 * (y % 4294967296) + x % 4294967296 * (y % 4294967296) / 4294967296) / 4294967296 < 18446744073709551616 := by omega
  have bh : x / 4294967296 * (y / 4294967296) + (x / 4294967296 * (y % 4294967296) + x % 4294967296 * (y % 4294967296) / 4294967296) / 4294967296 + ((x / 4294967296 * (y % 4294967296) + x % 4294967296 * (y % 4294967296) / 4294967296) % 4294967296 + x % 4294967296 * (y / 4294967296)) / 4294967296 < 18446744073709551616 := by omega
  unfold bits_Mul64.f
  simp only [Mul64.maskN x hx, Mul64.maskN y hy, Mul64.divN, Mul64.mulN, Mul64.addN, Mul64.wrapN _ bd, Mul64.wrapN _ bb', Mul64.wrapN _ bt, Mul64.maskN _ bt, Mul64.wrapN _ bc', Mul64.wrapN _ bw, Mul64.wrapN _ ba', Mul64.wrapN _ bh1, Mul64.wrapN _ bh, Mul64.wrapM]
  rw [hhi]
/-- Times: at most 2^128 - 1. -/
def sat (n : Int) : Int := if n ≤ 340282366920938463463374607431768211455 then n else 340282366920938463463374607431768211455
theorem times_f (a n : Nat) (ha : a < 340282366920938463463374607431768211456) (hn : n < 18446744073709551616) :
    bounds_wide_times.f ((a : Int) / 18446744073709551616) ((a : Int) % 18446744073709551616) (n : Int) = some (sat ((a * n : Nat) : Int) / 18446744073709551616, sat ((a * n : Nat) : Int) % 18446744073709551616) := by
  have hb : a / 18446744073709551616 < 18446744073709551616 := by omega
  have hsplit : a * n = 18446744073709551616 * (a / 18446744073709551616 * n) + a % 18446744073709551616 * n := by
    conv => lhs; rw [← Nat.div_add_mod a 18446744073709551616]
    rw [Nat.add_mul, Nat.mul_assoc]
  unfold bounds_wide_times.f
  rw [show (a : Int) / 18446744073709551616 = ((a / 18446744073709551616 : Nat) : Int) by omega, show (a : Int) % 18446744073709551616 = ((a % 18446744073709551616 : Nat) : Int) by omega]
  rw [mul64_f _ _ (by omega) hn, mul64_f _ _ hb hn]
  simp only [Option.bind_some]
  rw [hsplit]
  generalize a / 18446744073709551616 * n = p
  generalize a % 18446744073709551616 * n = q
  rw [add64_f ⟨by omega, by omega, by omega, by omega⟩]
  simp only [Option.bind_some]
  unfold sat
  by_cases c1 : ((p / 18446744073709551616 : Nat) : Int) > 0
  · rw [if_pos c1, if_neg (by omega)]
    refine congrArg some (Prod.ext ?_ ?_) <;> simp only <;> omega
  · rw [if_neg c1]
    by_cases c2 : (((q / 18446744073709551616 : Nat) : Int) + ((p % 18446744073709551616 : Nat) : Int) + 0) / 18446744073709551616 > 0
    · rw [if_pos c2, if_neg (by omega)]
      refine congrArg some (Prod.ext ?_ ?_) <;> simp only <;> omega
    · rw [if_neg c2, if_pos (by omega)]
      refine congrArg some (Prod.ext ?_ ?_) <;> simp only <;> omega
end Go.Proofs.YthjgjfelbagljabDoor
