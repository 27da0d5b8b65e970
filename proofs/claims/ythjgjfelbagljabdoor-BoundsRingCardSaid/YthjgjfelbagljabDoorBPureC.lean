/- Which bounds are broken, and what is done. -/
import Derived.Test.YthjgjfelbagljabDoorBPureB
import Derived.Test.YthjgjfelbagljabDoorBT7
namespace Go.Proofs.YthjgjfelbagljabDoor
open Go.RowKit Go.Proofs.YthjgjfelbagljabDoorW.PrintWords Go.Proofs.YthjgjfelbagljabDoorW.PrintMore
open Go.Proofs.YthjgjfelbagljabDoor.PBoundsTells

/-- A record of counts: ten numbers of 64 bits. -/
structure Cts where
  (a0 a1 a2 a3 a4 a5 a6 a7 a8 a9 : Int)
  deriving DecidableEq
structure Cts.Ok (c : Cts) : Prop where
  h0 : 0 ≤ c.a0 ∧ c.a0 < 18446744073709551616
  h1 : 0 ≤ c.a1 ∧ c.a1 < 18446744073709551616
  h2 : 0 ≤ c.a2 ∧ c.a2 < 18446744073709551616
  h3 : 0 ≤ c.a3 ∧ c.a3 < 18446744073709551616
  h4 : 0 ≤ c.a4 ∧ c.a4 < 18446744073709551616
  h5 : 0 ≤ c.a5 ∧ c.a5 < 18446744073709551616
  h6 : 0 ≤ c.a6 ∧ c.a6 < 18446744073709551616
  h7 : 0 ≤ c.a7 ∧ c.a7 < 18446744073709551616
  h8 : 0 ≤ c.a8 ∧ c.a8 < 18446744073709551616
  h9 : 0 ≤ c.a9 ∧ c.a9 < 18446744073709551616
def Cts.asked (c : Cts) : Int := c.a0 + c.a1
def Cts.done (c : Cts) : Int := c.a7 + c.a3 + c.a8 + c.a6 + c.a5
def bitsOf (c : Cts) (ring : Int) : List Bool :=
  [decide (c.a2 ≤ c.asked), decide (c.a3 ≤ c.a2), decide (c.a4 ≤ c.asked), decide (c.a5 ≤ c.a1), decide (c.a6 ≤ c.a5), decide (c.a7 ≤ c.a0), decide (c.a8 ≤ c.asked), decide (c.done ≤ c.asked * 4), decide (c.a9 ≤ c.done * mx 0 ring)]
def brk : Int → List Bool → List Int
  | _, [] => []
  | i, b :: bs => if b = true then brk (i + 1) bs else (i + 1) :: brk (i + 1) bs

theorem times_fI {a n : Int} (h0 : 0 ≤ a) (ha : a < 340282366920938463463374607431768211456) (h1 : 0 ≤ n) (hn : n < 18446744073709551616) :
    bounds_wide_times.f (a / 18446744073709551616) (a % 18446744073709551616) n = some (sat (a * n) / 18446744073709551616, sat (a * n) % 18446744073709551616) := by
  obtain ⟨x, rfl⟩ := Int.eq_ofNat_of_zero_le h0
  obtain ⟨y, rfl⟩ := Int.eq_ofNat_of_zero_le h1
  have := times_f x y (by omega) (by omega)
  rw [Int.natCast_mul] at this
  exact this
theorem sat_le {a n : Int} (h : a ≤ 340282366920938463463374607431768211455) : decide (a ≤ sat n) = decide (a ≤ n) := by
  unfold sat
  split
  · rfl
  · exact decide_eq_decide.mpr ⟨fun _ => by omega, fun _ => h⟩
theorem sat_pos {n : Int} (h : 0 ≤ n) : 0 ≤ sat n := by unfold sat; split <;> omega
theorem sum1 (x : Int) (h : 0 ≤ x ∧ x < 18446744073709551616) (k : Nat) (hk : 9 ≤ k) : bounds_sum.f k [x] = some (x / 18446744073709551616, x % 18446744073709551616) := by
  have := sum_f [x] (by intro y hy; simp at hy; omega) (by simp) k hk
  simpa [sumOf] using this
theorem asked_f {c : Cts} (h : c.Ok) (k : Nat) (hk : 9 ≤ k) : bounds_sum.f k [c.a0, c.a1] = some (c.asked / 18446744073709551616, c.asked % 18446744073709551616) := by
  have h0 := h.h0
  have h1 := h.h1
  have := sum_f [c.a0, c.a1] (by intro y hy; simp at hy; omega) (by simp) k hk
  simpa [sumOf, Cts.asked] using this
theorem done_f {c : Cts} (h : c.Ok) (k : Nat) (hk : 9 ≤ k) : bounds_done.f k c.a0 c.a1 c.a2 c.a3 c.a4 c.a5 c.a6 c.a7 c.a8 c.a9 = some (c.done / 18446744073709551616, c.done % 18446744073709551616) := by
  have h3 := h.h3
  have h5 := h.h5
  have h6 := h.h6
  have h7 := h.h7
  have h8 := h.h8
  have := sum_f [c.a7, c.a3, c.a8, c.a6, c.a5] (by intro y hy; simp at hy; omega) (by simp) k hk
  unfold bounds_done.f
  rw [this]
  simp only [sumOf, Option.bind_some]
  rw [show c.a7 + (c.a3 + (c.a8 + (c.a6 + (c.a5 + 0)))) = c.done by unfold Cts.done; omega]
theorem mx_bd {ring : Int} (hr : -9223372036854775808 ≤ ring ∧ ring ≤ 9223372036854775807) : 0 ≤ mx 0 ring ∧ mx 0 ring ≤ 9223372036854775807 := by unfold mx; split <;> omega
theorem broken_l0 (bs : List Bool) (hb : bs.length = 9) : ∀ (n k i : Nat) (xs : List Int), i + n = 9 → n < k → xs.length ≤ i → bounds_Broken.l0 k xs bs (i : Int) = some (xs ++ brk (i : Int) (bs.drop i))
  | 0, k, i, xs, hi, hk, hx => by
    obtain ⟨k, rfl⟩ : ∃ m, k = m + 1 := ⟨k - 1, by omega⟩
    simp only [bounds_Broken.l0]
    rw [if_neg (by omega), List.drop_eq_nil_of_le (by omega)]
    simp [brk]
  | n + 1, k, i, xs, hi, hk, hx => by
    obtain ⟨k, rfl⟩ : ∃ m, k = m + 1 := ⟨k - 1, by omega⟩
    simp only [bounds_Broken.l0]
    rw [if_pos (by omega), if_pos (by omega), if_pos (by omega), rdOf_drop false bs i (by omega), w64_up _ (by omega) (by omega)]
    simp only [brk]
    by_cases c : rdOf false bs (i : Int) = true
    · rw [if_pos c, if_pos c]
      exact broken_l0 bs hb n k (i + 1) xs (by omega) (by omega) (by omega)
    · rw [if_neg c, if_neg c, if_pos (by omega)]
      have := broken_l0 bs hb n k (i + 1) (xs ++ [(i : Int) + 1]) (by omega) (by omega) (by simp; omega)
      rw [List.append_assoc] at this
      exact this
theorem broken_f {c : Cts} (h : c.Ok) {ring : Int} (hr : -9223372036854775808 ≤ ring ∧ ring ≤ 9223372036854775807) (k : Nat) (hk : 10 ≤ k) :
    bounds_Broken.f k c.a0 c.a1 c.a2 c.a3 c.a4 c.a5 c.a6 c.a7 c.a8 c.a9 ring = some (brk 0 (bitsOf c ring)) := by
  obtain ⟨m0, m1⟩ := mx_bd hr
  have hb := broken_l0 (bitsOf c ring) rfl 9 k 0 [] (by omega) (by omega) (by simp)
  have h0 := h.h0
  have h1 := h.h1
  have h2 := h.h2
  have h3 := h.h3
  have h4 := h.h4
  have h5 := h.h5
  have h6 := h.h6
  have h7 := h.h7
  have h8 := h.h8
  have h9 := h.h9
  have ha : 0 ≤ c.asked ∧ c.asked < 36893488147419103232 := by unfold Cts.asked; omega
  have hd : 0 ≤ c.done ∧ c.done < 92233720368547758080 := by unfold Cts.done; omega
  have hdm : 0 ≤ c.done * mx 0 ring := Int.mul_nonneg hd.1 m0
  unfold bounds_Broken.f
  rw [asked_f h k (by omega)]
  simp only [Option.bind_some]
  rw [sum1 c.a2 h2 k (by omega), sum1 c.a4 h4 k (by omega), sum1 c.a8 h8 k (by omega), sum1 c.a9 h9 k (by omega), done_f h k (by omega)]
  simp only [Option.bind_some]
  rw [most_f h2.1 ha.1]
  simp only [Option.bind_some]
  rw [most_f h4.1 ha.1]
  simp only [Option.bind_some]
  rw [most_f h8.1 ha.1]
  simp only [Option.bind_some]
  rw [times_fI ha.1 (by omega) (by omega) (by omega)]
  simp only [Option.bind_some]
  rw [most_f hd.1 (sat_pos (by omega)), sat_le (by omega)]
  simp only [Option.bind_some]
  rw [u64_id _ m0 (by omega), times_fI hd.1 (by omega) m0 (by omega)]
  simp only [Option.bind_some]
  rw [most_f h9.1 (sat_pos hdm), sat_le (by omega)]
  simp only [Option.bind_some]
  exact hb
theorem rdone_f {c : Cts} (h : c.Ok) (k : Nat) (hk : 20 ≤ k) : ∃ ys, hutchref34_Done.f k c.a0 c.a1 c.a2 c.a3 c.a4 c.a5 c.a6 c.a7 c.a8 c.a9 = some ys ∧ ys.length = 16 ∧ Dig ys ∧ vl ys = c.done := by
  have h3 := h.h3
  have h5 := h.h5
  have h6 := h.h6
  have h7 := h.h7
  have h8 := h.h8
  obtain ⟨y7, e7, l7, d7, v7⟩ := digits_f c.a7 h7.1 h7.2 k (by omega)
  obtain ⟨y3, e3, l3, d3, v3⟩ := digits_f c.a3 h3.1 h3.2 k (by omega)
  obtain ⟨y8, e8, l8, d8, v8⟩ := digits_f c.a8 h8.1 h8.2 k (by omega)
  obtain ⟨y6, e6, l6, d6, v6⟩ := digits_f c.a6 h6.1 h6.2 k (by omega)
  obtain ⟨y5, e5, l5, d5, v5⟩ := digits_f c.a5 h5.1 h5.2 k (by omega)
  obtain ⟨s1, f1, m1, g1, w1⟩ := add_f y7 y3 l7 l3 d7 d3 (by omega) k (by omega)
  obtain ⟨s2, f2, m2, g2, w2⟩ := add_f y8 y6 l8 l6 d8 d6 (by omega) k (by omega)
  obtain ⟨s3, f3, m3, g3, w3⟩ := add_f s1 s2 m1 m2 g1 g2 (by omega) k (by omega)
  obtain ⟨s4, f4, m4, g4, w4⟩ := add_f s3 y5 m3 l5 g3 d5 (by omega) k (by omega)
  refine ⟨s4, ?_, m4, g4, by unfold Cts.done; omega⟩
  unfold hutchref34_Done.f
  simp only [e7, e3, e8, e6, e5, f1, f2, f3, f4, Option.bind_some]
theorem alive_f (k : Nat) (hk : 10 ≤ k) : hutchlaw34_alive.f k = some true := by
  have h1 := broken_f (c := ⟨0, 0, 0, 0, 0, 0, 0, 0, 0, 0⟩) ⟨by simp, by simp, by simp, by simp, by simp, by simp, by simp, by simp, by simp, by simp⟩ (ring := 0) (by omega) k hk
  have h2 := broken_f (c := ⟨0, 0, 0, 0, 0, 0, 0, 0, 0, 1⟩) ⟨by simp, by simp, by simp, by simp, by simp, by simp, by simp, by simp, by simp, by simp⟩ (ring := 768) (by omega) k hk
  rw [show brk 0 (bitsOf ⟨0, 0, 0, 0, 0, 0, 0, 0, 0, 0⟩ 0) = [] by decide] at h1
  rw [show brk 0 (bitsOf ⟨0, 0, 0, 0, 0, 0, 0, 0, 0, 1⟩ 768) = [9] by decide] at h2
  simp only at h1 h2
  unfold hutchlaw34_alive.f
  rw [h1, h2]
  simp [rd, rdOf, bounds_Name.f]
end Go.Proofs.YthjgjfelbagljabDoor
