/- BoundsRing's plain law: the greatest ring, and what is done. -/
import Derived.Test.YthjgjfelbagljabDoorBPureC
import Derived.Test.YthjgjfelbagljabDoorBR1
namespace Go.Proofs.YthjgjfelbagljabDoor
open Go.RowKit Go.Proofs.YthjgjfelbagljabDoorW.PrintWords Go.Proofs.YthjgjfelbagljabDoorW.PrintMore
open Go.Proofs.YthjgjfelbagljabDoor.PBoundsTells Go.Proofs.YthjgjfelbagljabDoor.PBoundsRing

def may (x : S55) : Bool := decide (1 ≤ x.f0) && decide (x.f0 ≤ 4) && decide (2 ≤ x.f1) && decide (x.f1 ≤ 256) && decide (1 ≤ x.f2) && decide (x.f2 < x.f1) && decide (0 ≤ x.f3) && decide (x.f3 ≤ 512)
theorem may_f (x : S55) : hutchref11_May.f x.f0 x.f1 x.f2 x.f3 = some (may x) := by
  unfold hutchref11_May.f may
  repeat' split
  all_goals (refine congrArg some ?_; simp <;> omega)
theorem check_f (x : S55) (k : Nat) (hk : 4 ≤ k) : ∃ n, config_Check.f k x.f0 x.f1 x.f2 x.f3 = some n ∧ (n = 0 ↔ may x = true) := by
  obtain ⟨k, rfl⟩ : ∃ m, k = m + 4 := ⟨k - 4, by omega⟩
  unfold config_Check.f may
  by_cases c0 : x.f0 < 1
  · rw [if_pos c0]
    exact ⟨2, by simp [config_Check.j0], by simp <;> omega⟩
  · rw [if_neg c0]
    by_cases c1 : x.f0 > 4
    · exact ⟨2, by simp [config_Check.j0, c1], by simp <;> omega⟩
    · by_cases c2 : x.f1 < 2
      · exact ⟨2, by simp [config_Check.j0, config_Check.j1, c1, c2], by simp <;> omega⟩
      · by_cases c3 : x.f1 > 256
        · exact ⟨2, by simp [config_Check.j0, config_Check.j1, c1, c2, c3], by simp <;> omega⟩
        · by_cases c4 : x.f2 < 1
          · exact ⟨2, by simp [config_Check.j0, config_Check.j1, config_Check.j2, c1, c2, c3, c4], by simp <;> omega⟩
          · by_cases c5 : x.f2 ≥ x.f1
            · exact ⟨2, by simp [config_Check.j0, config_Check.j1, config_Check.j2, c1, c2, c3, c4, c5], by simp <;> omega⟩
            · by_cases c6 : x.f3 < 0
              · exact ⟨2, by simp [config_Check.j0, config_Check.j1, config_Check.j2, c1, c2, c3, c4, c5, c6], by simp <;> omega⟩
              · by_cases c7 : x.f3 > 512
                · exact ⟨2, by simp [config_Check.j0, config_Check.j1, config_Check.j2, c1, c2, c3, c4, c5, c6, c7], by simp <;> omega⟩
                · exact ⟨0, by simp [config_Check.j0, config_Check.j1, config_Check.j2, c1, c2, c3, c4, c5, c6, c7], by simp <;> omega⟩
def step (m : Int) (x : S55) : Int := if may x = true then (if m < x.f1 + x.f3 then x.f1 + x.f3 else m) else m
theorem drop_T55 (xs : List S55) (i : Nat) (h : i < xs.length) : xs.drop i = rd_T55 xs (i : Int) :: xs.drop (i + 1) := by
  rw [show rd_T55 xs (i : Int) = xs[i] by simp [rd_T55, List.getD_eq_getElem?_getD, List.getElem?_eq_getElem h]]
  exact List.drop_eq_getElem_cons h
theorem may_bd {x : S55} (h : may x = true) : wrap64 (x.f1 + x.f3) = x.f1 + x.f3 := by
  simp [may] at h
  unfold wrap64
  omega
theorem ring_l0 (xs : List S55) (hl : xs.length ≤ 100) : ∀ (n k i : Nat) (m : Int), i + n = xs.length → n + 5 < k → bounds_Ring.l0 k m xs (xs.length : Int) (i : Int) = some ((xs.drop i).foldl step m)
  | 0, k, i, m, hi, hk => by
    obtain ⟨k, rfl⟩ : ∃ m, k = m + 1 := ⟨k - 1, by omega⟩
    simp only [bounds_Ring.l0]
    rw [if_neg (by omega), List.drop_eq_nil_of_le (by omega)]
    rfl
  | n + 1, k, i, m, hi, hk => by
    obtain ⟨k, rfl⟩ : ∃ m, k = m + 1 := ⟨k - 1, by omega⟩
    obtain ⟨c, e, hc⟩ := check_f (rd_T55 xs (i : Int)) k (by omega)
    simp only [bounds_Ring.l0]
    rw [if_pos (by omega), if_pos (by omega), if_pos (by omega), e, drop_T55 xs i (by omega), w64_up _ (by omega) (by omega)]
    simp only [Option.bind_some, List.foldl_cons]
    by_cases h : c = 0
    · have hm := hc.1 h
      rw [if_pos h, may_bd hm, show mx m ((rd_T55 xs (i : Int)).f1 + (rd_T55 xs (i : Int)).f3) = step m (rd_T55 xs (i : Int)) by simp [mx, step, hm]]
      exact ring_l0 xs hl n k (i + 1) _ (by omega) (by omega)
    · have hm : ¬ may (rd_T55 xs (i : Int)) = true := fun q => h (hc.2 q)
      rw [if_neg h, show step m (rd_T55 xs (i : Int)) = m by simp [step, hm]]
      exact ring_l0 xs hl n k (i + 1) _ (by omega) (by omega)
theorem rring_l0 (xs : List S55) (hl : xs.length ≤ 100) : ∀ (n k i : Nat) (m : Int), i + n = xs.length → n + 5 < k → hutchref34_Ring.l0 k xs m (i : Int) = some ((xs.drop i).foldl step m)
  | 0, k, i, m, hi, hk => by
    obtain ⟨k, rfl⟩ : ∃ m, k = m + 1 := ⟨k - 1, by omega⟩
    simp only [hutchref34_Ring.l0]
    rw [if_neg (by omega), List.drop_eq_nil_of_le (by omega)]
    rfl
  | n + 1, k, i, m, hi, hk => by
    obtain ⟨k, rfl⟩ : ∃ m, k = m + 1 := ⟨k - 1, by omega⟩
    simp only [hutchref34_Ring.l0]
    rw [if_pos (by omega), if_pos (by omega), may_f, drop_T55 xs i (by omega), w64_up _ (by omega) (by omega)]
    simp only [Option.bind_some, List.foldl_cons]
    by_cases hm : may (rd_T55 xs (i : Int)) = true
    · rw [if_pos hm, may_bd hm]
      by_cases c : (rd_T55 xs (i : Int)).f1 + (rd_T55 xs (i : Int)).f3 > m
      · rw [if_pos c, show step m (rd_T55 xs (i : Int)) = (rd_T55 xs (i : Int)).f1 + (rd_T55 xs (i : Int)).f3 by simp only [step, if_pos hm]; rw [if_pos c]]
        exact rring_l0 xs hl n k (i + 1) _ (by omega) (by omega)
      · rw [if_neg c, show step m (rd_T55 xs (i : Int)) = m by simp only [step, if_pos hm]; rw [if_neg c]]
        exact rring_l0 xs hl n k (i + 1) _ (by omega) (by omega)
    · rw [if_neg hm, show step m (rd_T55 xs (i : Int)) = m by simp only [step, if_neg hm]]
      exact rring_l0 xs hl n k (i + 1) _ (by omega) (by omega)
theorem same_l0 (xs : List Int) (hl : xs.length ≤ 100) : ∀ (n k i : Nat), i + n = xs.length → n < k → hutchref06_Same.l0 k xs xs (i : Int) = some true
  | 0, k, i, hi, hk => by
    obtain ⟨k, rfl⟩ : ∃ m, k = m + 1 := ⟨k - 1, by omega⟩
    simp only [hutchref06_Same.l0]
    rw [if_neg (by omega)]
  | n + 1, k, i, hi, hk => by
    obtain ⟨k, rfl⟩ : ∃ m, k = m + 1 := ⟨k - 1, by omega⟩
    simp only [hutchref06_Same.l0]
    rw [if_pos (by omega), if_pos (by omega), if_pos (by omega), if_pos trivial, w64_up _ (by omega) (by omega)]
    exact same_l0 xs hl n k (i + 1) (by omega) (by omega)
theorem same_f (xs : List Int) (hl : xs.length ≤ 100) (k : Nat) (hk : 101 ≤ k) : hutchref06_Same.f k xs xs = some true := by
  unfold hutchref06_Same.f
  rw [if_pos rfl]
  exact same_l0 xs hl xs.length k 0 (by omega) (by omega)
/-- Digits are one way alone. -/
theorem vl_inj : ∀ (xs ys : List Int), Dig xs → Dig ys → xs.length = ys.length → vl xs = vl ys → xs = ys
  | [], [], _, _, _, _ => rfl
  | [], y :: ys, _, _, h, _ => by simp at h
  | x :: xs, [], _, _, h, _ => by simp at h
  | x :: xs, y :: ys, hx, hy, h, hv => by
    have b1 := hx x (by simp)
    have b2 := hy y (by simp)
    simp only [vl] at hv
    have e : x = y := by omega
    have e' : vl xs = vl ys := by omega
    rw [e, vl_inj xs ys (fun d hd => hx d (by simp [hd])) (fun d hd => hy d (by simp [hd])) (by simpa using h) e']
theorem bring_f (xs : List S55) {c : Cts} (h : c.Ok) : hutchlaw34_BoundsRing.f 120 xs c.a0 c.a1 c.a2 c.a3 c.a4 c.a5 c.a6 c.a7 c.a8 c.a9 = some true := by
  have al := alive_f 120 (by omega)
  unfold hutchlaw34_BoundsRing.f
  by_cases hl : (xs.length : Int) > 100
  · rw [if_pos hl, al]
    rfl
  · rw [if_neg hl]
    have hl' : xs.length ≤ 100 := by omega
    have b3 := h.h3
    have b5 := h.h5
    have b6 := h.h6
    have b7 := h.h7
    have b8 := h.h8
    have hd : 0 ≤ c.done ∧ c.done < 92233720368547758080 := by unfold Cts.done; omega
    obtain ⟨yd, ed, ld, dd, vd⟩ := rdone_f h 120 (by omega)
    obtain ⟨ym, em, lm, dm, vm⟩ := digits_f 18446744073709551615 (by omega) (by omega) 120 (by omega)
    have e1 : bounds_Ring.f 120 xs = some (xs.foldl step 0) := by
      have := ring_l0 xs hl' xs.length 120 0 0 (by omega) (by omega)
      exact this
    have e2 : hutchref34_Ring.f 120 xs = some (xs.foldl step 0) := by
      have := rring_l0 xs hl' xs.length 120 0 0 (by omega) (by omega)
      exact this
    unfold bounds_Done.f
    rw [done_f h 120 (by omega), ed, em, e1, e2]
    simp only [Option.bind_some]
    by_cases o : c.done / 18446744073709551616 > 0
    · rw [if_pos o]
      simp only [Option.bind_some]
      rw [rmost_f yd ym ld lm dd dm 120 (by omega), vd, vm]
      simp only [Option.bind_some]
      rw [show decide (c.done ≤ 18446744073709551615) = false from decide_eq_false (by omega)]
      simp [al]
    · rw [if_neg o]
      simp only [Option.bind_some]
      rw [rmost_f yd ym ld lm dd dm 120 (by omega), vd, vm]
      simp only [Option.bind_some]
      rw [show decide (c.done ≤ 18446744073709551615) = true from decide_eq_true (by omega)]
      obtain ⟨yz, ez, lz, dz, vz⟩ := digits_f (c.done % 18446744073709551616) (by omega) (by omega) 120 (by omega)
      have : yz = yd := vl_inj yz yd dz dd (by omega) (by omega)
      subst this
      rw [ez]
      simp [al, same_f yz (by omega) 120 (by omega)]
end Go.Proofs.YthjgjfelbagljabDoor
