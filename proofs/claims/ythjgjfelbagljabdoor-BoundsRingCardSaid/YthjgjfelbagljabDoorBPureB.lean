/- What the reference's functions answer: sixteen digits of 65536, the least first. -/
import Derived.Test.YthjgjfelbagljabDoorBPure
import Derived.Test.YthjgjfelbagljabDoorBT5
namespace Go.Proofs.YthjgjfelbagljabDoor
open Go.RowKit Go.Proofs.YthjgjfelbagljabDoorW.PrintWords Go.Proofs.YthjgjfelbagljabDoorW.PrintMore
open Go.Proofs.YthjgjfelbagljabDoor.PBoundsTells

def vl : List Int → Int
  | [] => 0
  | d :: t => d + 65536 * vl t
def Dig (xs : List Int) : Prop := ∀ d ∈ xs, 0 ≤ d ∧ d < 65536
theorem Dig.nil : Dig [] := by intro d h; cases h
theorem Dig.snoc {xs : List Int} (h : Dig xs) {d : Int} (h0 : 0 ≤ d) (h1 : d < 65536) : Dig (xs ++ [d]) := by
  intro x hx
  rcases List.mem_append.1 hx with h2 | h2
  · exact h x h2
  · simp at h2; omega
theorem vl_snoc : ∀ (xs : List Int) (d : Int), vl (xs ++ [d]) = vl xs + 65536 ^ xs.length * d
  | [], d => by simp [vl]
  | x :: xs, d => by
    simp only [List.cons_append, vl, vl_snoc xs d, List.length_cons, Int.pow_succ]
    rw [Int.mul_add, ← Int.add_assoc, ← Int.mul_assoc, Int.mul_comm (65536 ^ xs.length) 65536]
theorem pow_pos' (n : Nat) : (0 : Int) < 65536 ^ n := Int.pow_pos (by decide)
theorem vl_bd : ∀ (xs : List Int), Dig xs → 0 ≤ vl xs ∧ vl xs < 65536 ^ xs.length
  | [], _ => by simp [vl]
  | x :: xs, h => by
    have h1 := h x (by simp)
    have h2 := vl_bd xs (fun y hy => h y (by simp [hy]))
    simp only [vl, List.length_cons, Int.pow_succ]
    omega
theorem vl_split : ∀ (i : Nat) (xs : List Int), vl xs = vl (xs.take i) + 65536 ^ (xs.take i).length * vl (xs.drop i)
  | 0, xs => by simp [vl]
  | i + 1, [] => by simp [vl]
  | i + 1, x :: xs => by
    have := vl_split i xs
    simp only [List.take_succ_cons, List.drop_succ_cons, vl, List.length_cons, Int.pow_succ]
    rw [this, Int.mul_add, ← Int.add_assoc, ← Int.mul_assoc, Int.mul_comm 65536 (65536 ^ _)]

theorem digits_l0 (X : Int) (hX : X < 18446744073709551616) : ∀ (n k : Nat) (x : Int) (xs : List Int), xs.length + n = 16 → n < k → Dig xs → 0 ≤ x → x < 18446744073709551616 → vl xs + 65536 ^ xs.length * x = X →
    ∃ ys, hutchref34_Digits.l0 k x xs (xs.length : Int) = some ys ∧ ys.length = 16 ∧ Dig ys ∧ vl ys = X
  | 0, k, x, xs, hl, hk, hd, h0, h1, hv => by
    obtain ⟨k, rfl⟩ : ∃ m, k = m + 1 := ⟨k - 1, by omega⟩
    have hl : xs.length = 16 := by omega
    refine ⟨xs, ?_, hl, hd, ?_⟩
    · simp only [hutchref34_Digits.l0]
      rw [if_neg (by omega)]
    · have hb := vl_bd xs hd
      rw [hl] at hv
      have : (65536 : Int) ^ 16 = 115792089237316195423570985008687907853269984665640564039457584007913129639936 := by decide
      rw [this] at hv
      have : x = 0 := by omega
      subst this
      omega
  | n + 1, k, x, xs, hl, hk, hd, h0, h1, hv => by
    obtain ⟨k, rfl⟩ : ∃ m, k = m + 1 := ⟨k - 1, by omega⟩
    simp only [hutchref34_Digits.l0]
    rw [if_pos (by omega), if_pos (by omega), w64_up _ (by omega) (by omega), Int.tdiv_eq_ediv_of_nonneg h0, Int.tmod_eq_emod_of_nonneg h0, u64_id _ (by omega) (by omega)]
    have := digits_l0 X hX n k (x / 65536) (xs ++ [x % 65536]) (by simp; omega) (by omega) (hd.snoc (by omega) (by omega)) (by omega) (by omega) (by
      rw [vl_snoc, ← hv, List.length_append, List.length_singleton, Int.pow_succ]
      have e : x = 65536 * (x / 65536) + x % 65536 := by omega
      conv => rhs; rw [e, Int.mul_add, ← Int.mul_assoc]
      omega)
    rw [List.length_append, List.length_singleton] at this
    push_cast at this
    exact this
theorem digits_f (x : Int) (h0 : 0 ≤ x) (h1 : x < 18446744073709551616) (k : Nat) (hk : 17 ≤ k) : ∃ ys, hutchref34_Digits.f k x = some ys ∧ ys.length = 16 ∧ Dig ys ∧ vl ys = x := by
  have := digits_l0 x h1 16 k x [] (by simp) (by omega) Dig.nil h0 h1 (by simp [vl])
  exact this

theorem add_l0 (A B : List Int) (hA : A.length = 16) (hB : B.length = 16) (dA : Dig A) (dB : Dig B) (V : Int) : ∀ (n k : Nat) (xs : List Int) (c : Int), xs.length + n = 16 → n < k → Dig xs → 0 ≤ c → c ≤ 1 →
    vl xs + 65536 ^ xs.length * (c + vl (A.drop xs.length) + vl (B.drop xs.length)) = V →
    ∃ ys, hutchref34_Add.l0 k A B xs c (xs.length : Int) = some ys ∧ ys.length = 16 ∧ Dig ys ∧ ∃ c', 0 ≤ c' ∧ c' ≤ 1 ∧ vl ys + 65536 ^ 16 * c' = V
  | 0, k, xs, c, hl, hk, hd, h0, h1, hv => by
    obtain ⟨k, rfl⟩ : ∃ m, k = m + 1 := ⟨k - 1, by omega⟩
    have hl : xs.length = 16 := by omega
    refine ⟨xs, ?_, hl, hd, c, h0, h1, ?_⟩
    · simp only [hutchref34_Add.l0]
      rw [if_neg (by omega)]
    · rw [List.drop_eq_nil_of_le (by omega), List.drop_eq_nil_of_le (by omega), hl] at hv
      simpa [vl] using hv
  | n + 1, k, xs, c, hl, hk, hd, h0, h1, hv => by
    obtain ⟨k, rfl⟩ : ∃ m, k = m + 1 := ⟨k - 1, by omega⟩
    have eA := drop_rd A xs.length (by omega)
    have eB := drop_rd B xs.length (by omega)
    have mA := dA _ (List.mem_of_mem_drop (i := xs.length) (l := A) (a := rd A (xs.length : Int)) (by rw [eA]; simp))
    have mB := dB _ (List.mem_of_mem_drop (i := xs.length) (l := B) (a := rd B (xs.length : Int)) (by rw [eB]; simp))
    simp only [hutchref34_Add.l0]
    rw [if_pos (by omega), if_pos (by omega), if_pos (by omega), if_pos (by omega), w64_up _ (by omega) (by omega)]
    rw [eA, eB] at hv
    simp only [vl] at hv
    generalize rd A (xs.length : Int) = a at *
    generalize rd B (xs.length : Int) = b at *
    rw [u64_id (a + b) (by omega) (by omega), u64_id (a + b + c) (by omega) (by omega), Int.tdiv_eq_ediv_of_nonneg (by omega), Int.tmod_eq_emod_of_nonneg (by omega), u64_id _ (by omega) (by omega)]
    have := add_l0 A B hA hB dA dB V n k (xs ++ [(a + b + c) % 65536]) ((a + b + c) / 65536) (by simp; omega) (by omega) (hd.snoc (by omega) (by omega)) (by omega) (by omega) (by
      rw [vl_snoc, ← hv, List.length_append, List.length_singleton, Int.pow_succ]
      generalize vl (A.drop (xs.length + 1)) = p
      generalize vl (B.drop (xs.length + 1)) = q
      have e : c + (a + 65536 * p) + (b + 65536 * q) = (a + b + c) % 65536 + 65536 * ((a + b + c) / 65536 + p + q) := by omega
      conv => rhs; rw [e, Int.mul_add, ← Int.mul_assoc]
      rw [Int.add_assoc])
    rw [List.length_append, List.length_singleton] at this
    push_cast at this
    exact this
theorem add_f (A B : List Int) (hA : A.length = 16) (hB : B.length = 16) (dA : Dig A) (dB : Dig B) (hs : vl A + vl B < 57896044618658097711785492504343953926634992332820282019728792003956564819968) (k : Nat) (hk : 17 ≤ k) :
    ∃ ys, hutchref34_Add.f k A B = some ys ∧ ys.length = 16 ∧ Dig ys ∧ vl ys = vl A + vl B := by
  obtain ⟨ys, e, hl, hd, c, h0, h1, hv⟩ := add_l0 A B hA hB dA dB (vl A + vl B) 16 k [] 0 (by simp) (by omega) Dig.nil (by omega) (by omega) (by simp [vl])
  refine ⟨ys, e, hl, hd, ?_⟩
  have hb := vl_bd ys hd
  have : (65536 : Int) ^ 16 = 115792089237316195423570985008687907853269984665640564039457584007913129639936 := by decide
  rw [this] at hv
  omega
theorem most_l0 (A B : List Int) (hA : A.length = 16) (hB : B.length = 16) (dA : Dig A) (dB : Dig B) : ∀ (n k : Nat), n ≤ 16 → n < k → A.drop n = B.drop n →
    hutchref34_Most.l0 k A B ((n : Int) - 1) = some (decide (vl A ≤ vl B))
  | 0, k, hn, hk, he => by
    obtain ⟨k, rfl⟩ : ∃ m, k = m + 1 := ⟨k - 1, by omega⟩
    simp only [List.drop_zero] at he
    subst he
    simp [hutchref34_Most.l0]
  | n + 1, k, hn, hk, he => by
    obtain ⟨k, rfl⟩ : ∃ m, k = m + 1 := ⟨k - 1, by omega⟩
    have e : ((n + 1 : Nat) : Int) - 1 = (n : Int) := by omega
    rw [e]
    simp only [hutchref34_Most.l0]
    have eA := drop_rd A n (by omega)
    have eB := drop_rd B n (by omega)
    rw [if_pos (by omega), if_pos (by omega), if_pos (by omega), if_pos (by omega), w64_down _ (by omega) (by omega)]
    by_cases c : rd A (n : Int) = rd B (n : Int)
    · rw [if_pos c]
      exact most_l0 A B hA hB dA dB n k (by omega) (by omega) (by rw [eA, eB, c, he])
    · rw [if_neg c]
      have bA := vl_bd (A.take n) (fun d hd => dA d (List.mem_of_mem_take hd))
      have bB := vl_bd (B.take n) (fun d hd => dB d (List.mem_of_mem_take hd))
      have sA := vl_split n A
      have sB := vl_split n B
      rw [eA] at sA
      rw [eB, ← he] at sB
      simp only [vl] at sA sB
      have lA : (A.take n).length = n := by simp; omega
      have lB : (B.take n).length = n := by simp; omega
      rw [lA] at sA bA
      rw [lB] at sB bB
      rw [sA, sB]
      generalize rd A (n : Int) = a at *
      generalize rd B (n : Int) = b at *
      generalize vl (A.drop (n + 1)) = p at *
      generalize vl (A.take n) = u at *
      generalize vl (B.take n) = v at *
      generalize hP : (65536 : Int) ^ n = P at *
      refine congrArg some (decide_eq_decide.mpr ⟨fun h => ?_, fun h => ?_⟩)
      · have h1 : P * (a + 65536 * p) + P ≤ P * (b + 65536 * p) := by
          have : P * (a + 65536 * p) + P = P * (a + 65536 * p + 1) := by rw [Int.mul_add P _ 1, Int.mul_one]
          rw [this]
          exact Int.mul_le_mul_of_nonneg_left (by omega) (by omega)
        omega
      · by_cases c2 : a < b
        · exact c2
        · have h1 : P * (b + 65536 * p) + P ≤ P * (a + 65536 * p) := by
            have : P * (b + 65536 * p) + P = P * (b + 65536 * p + 1) := by rw [Int.mul_add P _ 1, Int.mul_one]
            rw [this]
            exact Int.mul_le_mul_of_nonneg_left (by omega) (by omega)
          omega
theorem rmost_f (A B : List Int) (hA : A.length = 16) (hB : B.length = 16) (dA : Dig A) (dB : Dig B) (k : Nat) (hk : 17 ≤ k) : hutchref34_Most.f k A B = some (decide (vl A ≤ vl B)) := by
  unfold hutchref34_Most.f
  rw [hA, show wrap64 ((16 : Nat) - 1 : Int) = ((16 : Nat) : Int) - 1 by unfold wrap64; omega]
  exact most_l0 A B hA hB dA dB 16 k (by omega) (by omega) (by rw [List.drop_eq_nil_of_le (by omega), List.drop_eq_nil_of_le (by omega)])
theorem times_l0 (V : Int) (hV : V < 28948022309329048855892746252171976963317496166410141009864396001978282409984) : ∀ (j k : Nat) (X : List Int) (n : Int) (R : List Int), j + 18 ≤ k → X.length = 16 → R.length = 16 → Dig X → Dig R → 0 ≤ n → n < 2 ^ j → n < 18446744073709551616 → vl R + vl X * n = V →
    ∃ ys, hutchref34_Times.l0 k X n R = some ys ∧ ys.length = 16 ∧ Dig ys ∧ vl ys = V
  | 0, k, X, n, R, hk, lX, lR, dX, dR, h0, h1, hm, hv => by
    obtain ⟨k, rfl⟩ : ∃ m, k = m + 1 := ⟨k - 1, by omega⟩
    have : n = 0 := by omega
    subst this
    refine ⟨R, ?_, lR, dR, by omega⟩
    simp only [hutchref34_Times.l0]
    rw [if_neg (by omega)]
  | j + 1, k, X, n, R, hk, lX, lR, dX, dR, h0, h1, hm, hv => by
    obtain ⟨k, rfl⟩ : ∃ m, k = m + 1 := ⟨k - 1, by omega⟩
    simp only [hutchref34_Times.l0]
    by_cases c : n > 0
    · rw [if_pos c]
      have bX := vl_bd X dX
      have bR := vl_bd R dR
      have hXle : vl X ≤ vl X * n := by
        have := Int.mul_le_mul_of_nonneg_left (show (1 : Int) ≤ n by omega) bX.1
        rw [Int.mul_one] at this
        exact this
      obtain ⟨X2, e2, l2, d2, v2⟩ := add_f X X lX lX dX dX (by omega) k (by omega)
      rw [Int.tdiv_eq_ediv_of_nonneg h0, Int.tmod_eq_emod_of_nonneg h0, u64_id (n / 2) (by omega) (by omega), e2]
      have hpow : n / 2 < 2 ^ j := by
        rw [Int.pow_succ] at h1
        omega
      by_cases o : n % 2 = 1
      · rw [if_pos o]
        obtain ⟨R2, e3, l3, d3, v3⟩ := add_f R X lR lX dR dX (by omega) k (by omega)
        rw [e3]
        simp only [Option.bind_some]
        refine times_l0 V hV j k X2 (n / 2) R2 (by omega) l2 l3 d2 d3 (by omega) hpow (by omega) ?_
        rw [v2, v3, ← hv]
        have e : n = 2 * (n / 2) + 1 := by omega
        conv => rhs; rw [e, Int.mul_add, Int.mul_one, ← Int.mul_assoc]
        rw [show vl X * 2 = vl X + vl X by omega]
        omega
      · rw [if_neg o]
        simp only [Option.bind_some]
        refine times_l0 V hV j k X2 (n / 2) R (by omega) l2 lR d2 dR (by omega) hpow (by omega) ?_
        rw [v2, ← hv]
        have e : n = 2 * (n / 2) := by omega
        conv => rhs; rw [e, ← Int.mul_assoc]
        rw [show vl X * 2 = vl X + vl X by omega]
    · rw [if_neg c]
      have : n = 0 := by omega
      subst this
      exact ⟨R, rfl, lR, dR, by omega⟩
theorem rtimes_f (A : List Int) (hA : A.length = 16) (dA : Dig A) (n : Int) (h0 : 0 ≤ n) (h1 : n < 18446744073709551616) (hV : vl A * n < 28948022309329048855892746252171976963317496166410141009864396001978282409984) (k : Nat) (hk : 90 ≤ k) :
    ∃ ys, hutchref34_Times.f k A n = some ys ∧ ys.length = 16 ∧ Dig ys ∧ vl ys = vl A * n := by
  obtain ⟨Z, eZ, lZ, dZ, vZ⟩ := digits_f 0 (by omega) (by omega) k (by omega)
  unfold hutchref34_Times.f
  rw [eZ]
  simp only [Option.bind_some]
  exact times_l0 _ hV 64 k A n Z (by omega) hA lZ dA dZ h0 (by omega) h1 (by omega)
end Go.Proofs.YthjgjfelbagljabDoor
