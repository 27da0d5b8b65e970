/- The sizer's steps as plain numbers: what the program's and the reference's functions answer. -/
import Derived.Test.YthjgjfelbagljaaPSizerStepsx2
import Derived.Test.YthjgjfelbagljaaPSizerOne
import Derived.Test.YthjgjfelbagljaaMem
namespace Go.Proofs.Ythjgjfelbagljaa
open Go.RowKit Go.Proofs.YthjgjfelbagljaaW.PrintWords Go.Proofs.YthjgjfelbagljaaW.PrintLast Go.Proofs.YthjgjfelbagljaaW.PrintMore Go.Proofs.Ythjgjfelbagljaa.PSizerSteps
namespace Siz

abbrev Cfg := S24
theorem Cfg.ext {c d : Cfg} (h0 : c.f0 = d.f0) (h1 : c.f1 = d.f1) (h2 : c.f2 = d.f2) (h3 : c.f3 = d.f3) : c = d := by
  cases c; cases d; simp_all
/-- A config's cells. -/
def cells (c : Cfg) : Array Value := #[.int .i64 c.f0, .int .i64 c.f1, .int .i64 c.f2, .int .i64 c.f3]
def Ok (c : Cfg) : Prop := (1 ≤ c.f0 ∧ c.f0 ≤ 4) ∧ (2 ≤ c.f1 ∧ c.f1 ≤ 256) ∧ (1 ≤ c.f2 ∧ c.f2 < c.f1) ∧ (0 ≤ c.f3 ∧ c.f3 ≤ 512)
instance (c : Cfg) : Decidable (Ok c) := by unfold Ok; infer_instance
def May (c t : Cfg) : Prop := Ok c ∧ Ok t ∧ c.f0 = t.f0
instance (c t : Cfg) : Decidable (May c t) := by unfold May; infer_instance
/-- The error's number. -/
def wrong (c t : Cfg) (n : Int) : Int := if May c t then (if n < 1 then 1 else 0) else 2

theorem check_f (k : Nat) (c : Cfg) : config_Check.f (k + 3) c.f0 c.f1 c.f2 c.f3 = some (if Ok c then 0 else 2) := by
  unfold config_Check.f
  by_cases h0 : c.f0 < 1
  · rw [if_pos h0, config_Check.j0, if_pos rfl, if_neg (show ¬ Ok c by unfold Ok; omega)]
  rw [if_neg h0, config_Check.j0]
  by_cases h1 : c.f0 > 4
  · rw [if_pos (by simpa using h1), if_neg (show ¬ Ok c by unfold Ok; omega)]
  rw [if_neg (by simpa using h1)]
  by_cases h2 : c.f1 < 2
  · rw [if_pos h2, config_Check.j1, if_pos rfl, if_neg (show ¬ Ok c by unfold Ok; omega)]
  rw [if_neg h2, config_Check.j1]
  by_cases h3 : c.f1 > 256
  · rw [if_pos (by simpa using h3), if_neg (show ¬ Ok c by unfold Ok; omega)]
  rw [if_neg (by simpa using h3)]
  by_cases h4 : c.f2 < 1
  · rw [if_pos h4, config_Check.j2, if_pos rfl, if_neg (show ¬ Ok c by unfold Ok; omega)]
  rw [if_neg h4, config_Check.j2]
  by_cases h5 : c.f2 ≥ c.f1
  · rw [if_pos (by simpa using h5), if_neg (show ¬ Ok c by unfold Ok; omega)]
  rw [if_neg (by simpa using h5)]
  by_cases h6 : c.f3 < 0
  · rw [if_pos h6, if_neg (show ¬ Ok c by unfold Ok; omega)]
  skip
  by_cases h7 : c.f3 > 512
  · rw [if_neg h6, if_pos h7, if_neg (show ¬ Ok c by unfold Ok; omega)]
  rw [if_neg h6, if_neg h7, if_pos (show Ok c by unfold Ok; omega)]
theorem wrong_f (c t : Cfg) (n : Int) : sizer_wrong.f 4 c.f0 c.f1 c.f2 c.f3 t.f0 t.f1 t.f2 t.f3 n = some (wrong c t n) := by
  unfold sizer_wrong.f wrong May
  rw [check_f 1, check_f 1]
  by_cases h1 : Ok c
  · by_cases h2 : Ok t
    · by_cases h3 : c.f0 = t.f0
      · by_cases h4 : n < 1 <;> simp [h1, h2, h3, h4, sizer_wrong.j0]
      · simp [h1, h2, h3, sizer_wrong.j0]
    · simp [h1, h2, sizer_wrong.j0]
  · simp [h1, sizer_wrong.j0]
theorem may11_f (c : Cfg) : hutchref11_May.f c.f0 c.f1 c.f2 c.f3 = some (decide (Ok c)) := by
  unfold hutchref11_May.f Ok
  by_cases h0 : c.f0 ≥ 1 <;> by_cases h1 : c.f0 ≤ 4 <;> by_cases h2 : c.f1 ≥ 2 <;> by_cases h3 : c.f1 ≤ 256 <;> by_cases h4 : c.f2 ≥ 1 <;> by_cases h5 : c.f2 < c.f1 <;> by_cases h6 : c.f3 ≥ 0 <;> simp [h0, h1, h2, h3, h4, h5, h6] <;> omega
theorem may33_f (c t : Cfg) : hutchref33_May.f c.f0 c.f1 c.f2 c.f3 t.f0 t.f1 t.f2 t.f3 = some (decide (May c t)) := by
  unfold hutchref33_May.f May
  rw [may11_f, may11_f]
  by_cases h1 : Ok c <;> by_cases h2 : Ok t <;> simp [h1, h2]
  by_cases h3 : c.f0 = t.f0 <;> simp [h3]

/-! One step. -/
def toward (a b n : Int) : Int := if a < b then a + min n (b - a) else a - min n (a - b)
def next (t : Cfg) (n : Int) (c : Cfg) : Cfg := ⟨c.f0, toward c.f1 t.f1 n, toward c.f2 t.f2 n, toward c.f3 t.f3 n⟩
def st (t : Cfg) (n : Int) (c : Cfg) : Nat → Cfg
  | 0 => c
  | k + 1 => next t n (st t n c k)
def gap (a b : Int) : Int := max (a - b) (b - a)
/-- How far a config is from another one. -/
def far (c t : Cfg) : Int := max (max (gap c.f1 t.f1) (gap c.f2 t.f2)) (gap c.f3 t.f3)
theorem gap_toward {a b n : Int} (hn : 1 ≤ n) : gap (toward a b n) b = max (gap a b - n) 0 := by unfold gap toward; split <;> omega
theorem gap_nonneg (a b : Int) : 0 ≤ gap a b := by unfold gap; omega
theorem far_nonneg (c t : Cfg) : 0 ≤ far c t := by have := gap_nonneg c.f1 t.f1; unfold far; omega
theorem far_next {c t : Cfg} {n : Int} (hn : 1 ≤ n) : far (next t n c) t = max (far c t - n) 0 := by
  have h1 := gap_toward (a := c.f1) (b := t.f1) hn
  have h2 := gap_toward (a := c.f2) (b := t.f2) hn
  have h3 := gap_toward (a := c.f3) (b := t.f3) hn
  unfold far next
  simp only
  rw [h1, h2, h3]
  omega
theorem far_st {c t : Cfg} {n : Int} (hn : 1 ≤ n) : ∀ k : Nat, far (st t n c k) t = max (far c t - k * n) 0
  | 0 => by have := far_nonneg c t; show far c t = _; simp; omega
  | k + 1 => by
    show far (next t n (st t n c k)) t = _
    rw [far_next hn, far_st hn k]
    have : ((k + 1 : Nat) : Int) * n = k * n + n := by rw [Int.natCast_add, Int.add_mul]; simp
    omega
theorem Ok.next {c t : Cfg} {n : Int} (hn : 1 ≤ n) (h : Ok c) (ht : Ok t) : Ok (next t n c) := by
  obtain ⟨h0, h1, h2, h3⟩ := h
  obtain ⟨t0, t1, t2, t3⟩ := ht
  unfold Siz.next toward Ok
  simp only
  refine ⟨h0, ?_, ?_, ?_⟩
  · split <;> omega
  · split <;> split <;> omega
  · split <;> omega
theorem Ok.st {c t : Cfg} {n : Int} (hn : 1 ≤ n) (h : Ok c) (ht : Ok t) : ∀ k, Ok (st t n c k)
  | 0 => h
  | k + 1 => (Ok.st hn h ht k).next hn ht
theorem st_f0 {c t : Cfg} {n : Int} : ∀ k, (st t n c k).f0 = c.f0
  | 0 => rfl
  | k + 1 => st_f0 k
/-- How many steps there are. -/
def many (c t : Cfg) (n : Int) : Nat := ((far c t + n - 1) / n).toNat
theorem lt_many {c t : Cfg} {n : Int} (hn : 1 ≤ n) (k : Nat) : k < many c t n ↔ (k : Int) * n < far c t := by
  unfold many
  have h0 := far_nonneg c t
  have h1 : 0 ≤ (far c t + n - 1) / n := Int.ediv_nonneg (by omega) (by omega)
  have h2 : (k : Int) < (far c t + n - 1) / n ↔ ((k : Int) + 1) * n ≤ far c t + n - 1 := by
    rw [Int.lt_iff_add_one_le, Int.le_ediv_iff_mul_le (by omega)]
  rw [Int.add_mul, Int.one_mul] at h2
  omega
theorem gap_zero {a b : Int} : gap a b = 0 ↔ a = b := by unfold gap; omega
theorem same_iff {c t : Cfg} (h0 : c.f0 = t.f0) : far c t = 0 ↔ c = t := by
  constructor
  · intro h
    have g1 := gap_nonneg c.f1 t.f1
    have g2 := gap_nonneg c.f2 t.f2
    have g3 := gap_nonneg c.f3 t.f3
    unfold far at h
    exact Cfg.ext h0 (gap_zero.1 (by omega)) (gap_zero.1 (by omega)) (gap_zero.1 (by omega))
  · rintro rfl
    unfold far gap
    omega
theorem st_same {c t : Cfg} {n : Int} (hn : 1 ≤ n) (h0 : c.f0 = t.f0) (k : Nat) : st t n c k = t ↔ ¬ k < many c t n := by
  rw [← same_iff (by rw [st_f0]; exact h0), far_st hn, lt_many hn]
  omega
theorem gap_le {a b : Int} {m : Int} (ha : 0 ≤ a ∧ a ≤ m) (hb : 0 ≤ b ∧ b ≤ m) : gap a b ≤ m := by unfold gap; omega
theorem far_le {c t : Cfg} (h : Ok c) (ht : Ok t) : far c t ≤ 512 := by
  obtain ⟨h0, h1, h2, h3⟩ := h
  obtain ⟨t0, t1, t2, t3⟩ := ht
  unfold far gap
  omega
theorem many_le {c t : Cfg} {n : Int} (hn : 1 ≤ n) (h : Ok c) (ht : Ok t) : many c t n ≤ 512 := by
  have hf := far_le h ht
  rcases Nat.lt_or_ge 512 (many c t n) with h5 | h5
  · exfalso
    have h6 := (lt_many hn 512).1 h5
    have : (512 : Int) * 1 ≤ ((512 : Nat) : Int) * n := by
      show (512 : Int) * 1 ≤ 512 * n
      omega
    omega
  · exact h5
/-- The steps. -/
def steps (c t : Cfg) (n : Int) : List Cfg := (List.range (many c t n)).map (fun i => st t n c (i + 1))
theorem steps_length (c t : Cfg) (n : Int) : (steps c t n).length = many c t n := by unfold steps; simp
theorem steps_get {c t : Cfg} {n : Int} {i : Nat} (h : i < many c t n) : (steps c t n).getD i t = st t n c (i + 1) := by
  unfold steps
  rw [List.getD_eq_getElem?_getD, List.getElem?_map, List.getElem?_range h]; rfl

/-! The reference. -/
theorem one_l0 (t n : Int) (hn : n ≤ 9223372036854775807) (ht : 0 ≤ t ∧ t ≤ 512) : ∀ (d : Nat) (x i : Int) (K : Nat), gap x t = d → 0 ≤ i → i ≤ n → 0 ≤ x ∧ x ≤ 512 → 2 * d + 2 ≤ K → hutchref33_one.l0 K x t n i = some (toward x t (n - i)) := by
  intro d
  induction d with
  | zero =>
    intro x i K hd h0 hi hx hK
    obtain rfl : x = t := gap_zero.1 hd
    obtain ⟨K, rfl⟩ : ∃ J, K = J + 2 := ⟨K - 2, by omega⟩
    have e : toward x x (n - i) = x := by unfold toward; rw [if_neg (by omega)]; omega
    rw [hutchref33_one.l0, hutchref33_one.j1, e]
    by_cases h : i < n
    · rw [if_pos h, if_neg (by simp)]
    · rw [if_neg h, hutchref33_one.j1, if_neg (by simp)]
  | succ d ih =>
    intro x i K hd h0 hi hx hK
    obtain ⟨K, rfl⟩ : ∃ J, K = J + 2 := ⟨K - 2, by omega⟩
    have hne : x ≠ t := fun h => by rw [gap_zero.2 h] at hd; omega
    rw [hutchref33_one.l0]
    by_cases h : i < n
    · rw [if_pos h, hutchref33_one.j1, if_pos (by simpa using hne)]
      have hi1 : wrap64 (i + 1) = i + 1 := by unfold wrap64; omega
      by_cases hlt : x < t
      · rw [if_pos hlt, hi1, show wrap64 (x + 1) = x + 1 by unfold wrap64; omega, ih (x + 1) (i + 1) K (by unfold gap at hd ⊢; omega) (by omega) (by omega) (by omega) (by omega)]
        unfold toward
        rw [if_pos hlt]
        split <;> (congr 1; omega)
      · rw [if_neg hlt, hi1, show wrap64 (x - 1) = x - 1 by unfold wrap64; omega, ih (x - 1) (i + 1) K (by unfold gap at hd ⊢; omega) (by omega) (by omega) (by omega) (by omega)]
        unfold toward
        rw [if_neg hlt]
        split <;> (congr 1; omega)
    · rw [if_neg h, hutchref33_one.j1, if_neg (by simp)]
      obtain rfl : i = n := by omega
      unfold toward
      split <;> (congr 1; omega)
theorem one_f {x t n : Int} (hn0 : 1 ≤ n) (hn : n ≤ 9223372036854775807) (ht : 0 ≤ t ∧ t ≤ 512) (hx : 0 ≤ x ∧ x ≤ 512) {K : Nat} (hK : 2000 ≤ K) : hutchref33_one.f K x t n = some (toward x t n) := by
  have := one_l0 t n hn ht (gap x t).toNat x 0 K (by have := gap_nonneg x t; omega) (by omega) (by omega) hx (by have := gap_le hx ht; omega)
  rw [Int.sub_zero] at this
  exact this
end Siz
end Go.Proofs.Ythjgjfelbagljaa
