/- Walks over keys: hutchref06's Same, hutchref12's Has. -/
import Derived.Test.YtekbgpfpnjddgaaProg
import Derived.Test.YtekbgpfpnjddgaaInts
namespace Go.Proofs.Ytekbgpfpnjddgaa
open Go.RowKit
theorem Ints.w {k : IntKind} {w : World} {v : Value} {xs : List Int} (h : Ints k w v xs) : IntsW k w v xs := by
  obtain ⟨A, c, rfl, hc, h⟩ := h
  refine ⟨A, c, rfl, hc, h.imp id ?_⟩
  rintro ⟨g, off, rfl, hcell⟩
  exact ⟨_, rfl, fun i hi => by rw [Addr.add_lit]; exact hcell i hi⟩
theorem IntsW.calm {k : IntKind} {w w' : World} {v : Value} {xs : List Int} (h : IntsW k w v xs) (hk : Calm w w') : IntsW k w' v xs := by
  obtain ⟨A, c, rfl, hc, h⟩ := h
  refine ⟨A, c, rfl, hc, h.imp id ?_⟩
  rintro ⟨ad, rfl, hcell⟩
  exact ⟨_, rfl, fun i hi => cell_kept' hk (hcell i hi) id⟩
namespace Keys

theorem take_eq_snoc {xs ys : List Int} {k : Nat} (hx : k < xs.length) (hy : k < ys.length) (h : xs.take k = ys.take k) (e : xs.getD k 0 = ys.getD k 0) : xs.take (k + 1) = ys.take (k + 1) := by
  rw [List.take_succ_eq_append_getElem hx, List.take_succ_eq_append_getElem hy, h]
  rw [List.getD_eq_getElem?_getD, List.getElem?_eq_getElem hx, List.getD_eq_getElem?_getD, List.getElem?_eq_getElem hy] at e
  exact congrArg (fun z => ys.take k ++ [z]) e
theorem getD_take_ne {xs ys : List Int} {k : Nat} (h : xs.getD k 0 ≠ ys.getD k 0) : xs ≠ ys := fun e => h (by rw [e])

set_option maxRecDepth 100000 in
set_option maxHeartbeats 800000 in
theorem Same_calls (w : World) (va vb : Value) (xs ys : List Int) (ha : IntsW .u64 w va xs) (hb : IntsW .u64 w vb ys) (hl : (xs.length : Int) ≤ 100000) (hl2 : (ys.length : Int) ≤ 100000) :
    Calls Try.prog 12 #[va, vb] w fun e w' => e = .returned (.bool (decide (xs = ys))) ∧ ∃ n, w' = w.drewN n := by
  obtain ⟨A, ca, rfl, hca, hxa⟩ := ha
  obtain ⟨B, cb, rfl, hcb, hyb⟩ := hb
  by_cases hlen : xs.length = ys.length
  · have hcond : ((xs.length : Int) != (ys.length : Int)) = false := by simp [hlen]
    have hcond2 : (xs.length != ys.length) = false := by simp [hlen]
    have HL := Lib.hid hlen
    have HX := Lib.hid hxa
    have HY := Lib.hid hyb
    clear hlen hxa hyb
    go_enter Try.func12, Try.ntmps12
    go_wp2_with fail
    go_loopw [5] (fun i wr => ∃ k : Nat, k ≤ xs.length ∧ i = .int .i64 (k : Int) ∧ Hid (xs.take k = ys.take k) ∧ ∃ n, wr = w.drewN n) (fun i _ => xs.length - (intOf i).toNat)
    case atStart => exact ⟨0, Nat.zero_le _, rfl, Lib.hid (by simp), 0, rfl⟩
    case round =>
      obtain ⟨k, hk, rfl, ht, n, rfl⟩ := hrel
      by_cases hlt : k < xs.length
      · have hlt2 : k < ys.length := by have := HL.out; omega
        have hxa := HX.out
        have hyb := HY.out
        rcases hxa with h0 | ⟨ga, rfl, hxa⟩
        · subst h0; simp at hlt
        rcases hyb with h0 | ⟨gb, rfl, hyb⟩
        · subst h0; simp at hlt2
        have c1 := hxa k hlt
        have c2 := hyb k hlt2
        have z1 : (0 : Int) ≤ (k : Int) := by omega
        have z2 : (k : Int) < (xs.length : Int) := by omega
        have z3 : (k : Int) < (ys.length : Int) := by omega
        clear hxa hyb
        by_cases he : xs.getD k 0 = ys.getD k 0
        · have HE := Lib.hid he
          rw [← he] at c2
          clear he
          generalize xs.getD k 0 = u at c1 c2
          go_wp2_with fail
          go_quiet (fail)
          go_wp2_with fail
          go_roundw
          case rel => exact ⟨k + 1, by omega, by go_num, Lib.hid (take_eq_snoc hlt hlt2 ht.out HE.out), _, rfl⟩
          case measure => simp [intOf]; omega
        · have HE := Lib.hid (getD_take_ne he)
          have hne : (xs.getD k 0 == ys.getD k 0) = false := by simpa using he
          have hne2 : (xs.getD k 0 != ys.getD k 0) = true := by simpa using he
          clear he
          generalize xs.getD k 0 = u at c1 hne hne2
          generalize ys.getD k 0 = u2 at c2 hne hne2
          go_wp2_with fail
          go_quiet (fail)
          go_wp2_with fail
          go_ret
          exact ⟨by rw [decide_eq_false HE.out]; rfl, n + nq, by first | rfl | (simp; done) | (rw [World.drewN_drewN])⟩
      · obtain rfl : k = xs.length := by omega
        have e : xs = ys := by
          have h1 := ht.out
          have h2 := HL.out
          rw [List.take_length, h2, List.take_length] at h1
          exact h1
        have HE := Lib.hid e
        clear e
        go_wp2_with fail
        go_ret
        exact ⟨by rw [decide_eq_true HE.out]; rfl, _, rfl⟩
  · have hcond : ((xs.length : Int) != (ys.length : Int)) = true := by simp; omega
    have hcond2 : (xs.length != ys.length) = true := by simpa using hlen
    have hcond3 : (xs.length == ys.length) = false := by simpa using hlen
    have HE := Lib.hid (show xs ≠ ys from fun e => hlen (by rw [e]))
    clear hlen
    go_enter Try.func12, Try.ntmps12
    go_wp2_with fail
    go_ret
    exact ⟨by rw [decide_eq_false HE.out]; rfl, 0, rfl⟩
set_option maxRecDepth 100000 in
set_option maxHeartbeats 800000 in
theorem Has_calls (w : World) (va : Value) (xs : List Int) (key : Int) (ha : IntsW .u64 w va xs) (hl : (xs.length : Int) ≤ 100000) :
    Calls Try.prog 10 #[va, .int .u64 key] w fun e w' => e = .returned (.bool (decide (key ∈ xs))) ∧ ∃ n, w' = w.drewN n := by
  obtain ⟨A, ca, rfl, hca, hxa⟩ := ha
  have HX := Lib.hid hxa
  clear hxa
  go_enter Try.func10, Try.ntmps10
  go_wp2_with fail
  go_loopw [5] (fun i wr => ∃ k : Nat, k ≤ xs.length ∧ i = .int .i64 (k : Int) ∧ Hid (key ∉ xs.take k) ∧ ∃ n, wr = w.drewN n) (fun i _ => xs.length - (intOf i).toNat)
  case atStart => exact ⟨0, Nat.zero_le _, rfl, Lib.hid (by simp), 0, rfl⟩
  case round =>
    obtain ⟨k, hk, rfl, ht, n, rfl⟩ := hrel
    by_cases hlt : k < xs.length
    · have hxa := HX.out
      rcases hxa with h0 | ⟨ga, rfl, hxa⟩
      · subst h0; simp at hlt
      have c1 := hxa k hlt
      have z1 : (0 : Int) ≤ (k : Int) := by omega
      have z2 : (k : Int) < (xs.length : Int) := by omega
      clear hxa
      have eg : xs.getD k 0 = xs[k] := by rw [List.getD_eq_getElem?_getD, List.getElem?_eq_getElem hlt]; rfl
      by_cases he : xs.getD k 0 = key
      · have HE := Lib.hid (show key ∈ xs by rw [← he, eg]; exact List.getElem_mem hlt)
        rw [he] at c1
        clear he eg
        go_wp2_with fail
        go_ret
        exact ⟨by rw [decide_eq_true HE.out]; rfl, _, rfl⟩
      · have HE := Lib.hid (show key ∉ xs.take (k + 1) by
          rw [List.take_succ_eq_append_getElem hlt]
          intro z
          rcases List.mem_append.1 z with z | z
          · exact ht.out z
          · rw [List.mem_singleton] at z; exact he (by rw [eg, z]))
        have hne : (xs.getD k 0 == key) = false := by simpa using he
        clear he eg
        generalize xs.getD k 0 = u at c1 hne
        go_wp2_with fail
        go_roundw
        case rel => exact ⟨k + 1, by omega, by go_num, HE, _, rfl⟩
        case measure => simp [intOf]; omega
    · obtain rfl : k = xs.length := by omega
      have HE := Lib.hid (show key ∉ xs by have h1 := ht.out; rwa [List.take_length] at h1)
      go_wp2_with fail
      go_ret
      exact ⟨by rw [decide_eq_false HE.out]; rfl, _, rfl⟩
end Keys
end Go.Proofs.Ytekbgpfpnjddgaa
