/- What the reference's Find and Once answer, as plain lists. The reference's Right, as one plain word. -/
import Derived.Test.YtekbgpfpnjddgaaLruJ
import Derived.Test.YtekbgpfpnjddgaaPLruLoadsx6
namespace Go.Proofs.Ytekbgpfpnjddgaa
open Go.RowKit Go.Proofs.YtekbgpfpnjddgaaW.PrintWords
open Go.Proofs.Ytekbgpfpnjddgaa.PLruLoads
namespace Lru
theorem rd42 {l : List S42} {i : Nat} (h : i < l.length) : rd_T42 l (i : Int) = l[i] := by
  unfold rd_T42; rw [Int.toNat_natCast, List.getD_eq_getElem?_getD, List.getElem?_eq_getElem h]; rfl
theorem wrap_succ {i : Nat} (h : i < 100000) : wrap64 ((i : Int) + 1) = ((i + 1 : Nat) : Int) := by
  unfold wrap64; omega
/-- Where a key is found. -/
def Spot (l : List S42) (key r : Int) : Prop := (r = -1 ∧ key ∉ l.map (·.f0)) ∨ ∃ j : Nat, r = j ∧ ∃ h : j < l.length, l[j].f0 = key ∧ key ∉ (l.take j).map (·.f0)
theorem find_l0 {l : List S42} {key : Int} (hl : l.length < 100000) : ∀ (k i : Nat), l.length - i < k → i ≤ l.length → key ∉ (l.take i).map (·.f0) → ∃ r, hutchref12_Find.l0 k l key i = some r ∧ Spot l key r
  | 0, _, h, _, _ => by omega
  | k + 1, i, h, hi, hn => by
    unfold hutchref12_Find.l0
    by_cases hlt : i < l.length
    · rw [if_pos (by omega), if_pos (by omega), rd42 hlt]
      by_cases he : l[i].f0 = key
      · rw [if_pos he]
        exact ⟨_, rfl, .inr ⟨i, rfl, hlt, he, hn⟩⟩
      · rw [if_neg he, wrap_succ (by omega)]
        refine find_l0 hl k (i + 1) (by omega) (by omega) ?_
        rw [List.take_succ_eq_append_getElem hlt, List.map_append, List.mem_append]
        rintro (z | z)
        · exact hn z
        · simp at z; exact he z.symm
    · rw [if_neg (by omega)]
      obtain rfl : i = l.length := by omega
      rw [List.take_length] at hn
      exact ⟨_, rfl, .inl ⟨rfl, hn⟩⟩
theorem find_f {l : List S42} {key : Int} {k : Nat} (hl : l.length < 100000) (hk : l.length < k) : ∃ r, hutchref12_Find.f k l key = some r ∧ Spot l key r :=
  find_l0 hl k 0 (by omega) (Nat.zero_le _) (by simp)
theorem Spot.at {l : List S42} {i : Nat} {r : Int} (h : i < l.length) (hs : Spot l l[i].f0 r) : r = (i : Int) ↔ l[i].f0 ∉ (l.take i).map (·.f0) := by
  rcases hs with ⟨_, hn⟩ | ⟨j, rfl, hj, he, hn⟩
  · exact absurd (List.mem_map.2 ⟨l[i], List.getElem_mem h, rfl⟩) hn
  · constructor
    · intro z
      have : j = i := by omega
      subst this
      exact hn
    · intro z
      rcases Nat.lt_trichotomy j i with q | q | q
      · exact absurd (by rw [← he]; exact List.mem_map.2 ⟨l[j], by rw [List.mem_take_iff_getElem]; exact ⟨j, by omega, rfl⟩, rfl⟩) z
      · rw [q]
      · exact absurd (List.mem_map.2 ⟨l[i], by rw [List.mem_take_iff_getElem]; exact ⟨i, by omega, rfl⟩, rfl⟩) hn
theorem once_l0 {l : List S42} (hl : l.length < 100000) : ∀ (k i : Nat), l.length + (l.length - i) < k → i ≤ l.length → ((l.take i).map (·.f0)).Nodup → hutchref12_Once.l0 k l i = some (decide ((l.map (·.f0)).Nodup))
  | 0, _, h, _, _ => by omega
  | k + 1, i, h, hi, hn => by
    unfold hutchref12_Once.l0
    by_cases hlt : i < l.length
    · rw [if_pos (by omega), if_pos (by omega), rd42 hlt]
      obtain ⟨r, hr, hs⟩ := find_f (l := l) (key := l[i].f0) (k := k) hl (by omega)
      rw [hr]
      show (if r = (i : Int) then _ else _) = _
      have hiff := hs.at hlt
      by_cases he : r = (i : Int)
      · rw [if_pos he, wrap_succ (by omega)]
        refine once_l0 hl k (i + 1) (by omega) (by omega) ?_
        rw [List.take_succ_eq_append_getElem hlt, List.map_append, List.nodup_append]
        refine ⟨hn, by simp, ?_⟩
        intro a ha b hb hab
        simp at hb
        rw [hab, hb] at ha
        exact hiff.1 he ha
      · rw [if_neg he, decide_eq_false]
        intro z
        rw [← List.take_append_drop (i + 1) l, List.take_succ_eq_append_getElem hlt, List.map_append, List.map_append, List.nodup_append] at z
        have z1 := z.1
        rw [List.nodup_append] at z1
        exact he (hiff.2 (fun q => z1.2.2 _ q _ (by simp) rfl))
    · rw [if_neg (by omega)]
      obtain rfl : i = l.length := by omega
      rw [List.take_length] at hn
      rw [decide_eq_true hn]
theorem once_f {l : List S42} {k : Nat} (hl : l.length < 100000) (hk : 2 * l.length < k) : hutchref12_Once.f k l = some (decide ((l.map (·.f0)).Nodup)) :=
  once_l0 hl k 0 (by omega) (Nat.zero_le _) (by simp)
end Lru
end Go.Proofs.Ytekbgpfpnjddgaa
namespace Go.Proofs.Ytekbgpfpnjddgaa
open Go.RowKit Go.Proofs.YtekbgpfpnjddgaaW.PrintWords
open Go.Proofs.Ytekbgpfpnjddgaa.PLruLoads
namespace Lru
theorem pagesB_of {pp : List S42} (h : ∀ p ∈ pp, pageOk p = true) : pagesB pp = decide ((pp.map (·.f0)).Nodup) := by
  unfold pagesB
  by_cases hn : (pp.map (·.f0)).Nodup
  · rw [decide_eq_true hn, decide_eq_true ⟨h, hn⟩]
  · rw [decide_eq_false hn, decide_eq_false (fun z => hn z.2)]
theorem right_l0 {a0 a1 a2 a3 a4 a8 a9 a10 a11 a12 a13 a14 a15 a16 a17 a18 a19 : Int} {pp : List S42} {l6 l7 : List Int} (hl : pp.length < 100000) : ∀ (k i : Nat), 2 * pp.length + 1 + (pp.length - i) < k → i ≤ pp.length → (∀ p ∈ pp.take i, pageOk p = true) →
    hutchref16_Right.l0 k i a0 a1 a2 a3 a4 pp l6 l7 a8 a9 a10 a11 a12 a13 a14 a15 a16 a17 a18 a19 = some (pagesB pp)
  | 0, _, h, _, _ => by omega
  | k + 1, i, h, hi, hn => by
    unfold hutchref16_Right.l0
    by_cases hlt : i < pp.length
    · rw [if_pos (by omega), if_pos (by omega), rd42 hlt]
      have hm : pp[i] ∈ pp := List.getElem_mem hlt
      by_cases h1 : pp[i].f1 = 2
      · rw [if_pos h1]
        by_cases h2 : pp[i].f2 = true
        · rw [if_pos h2, pagesB_bad hm (by unfold pageOk; rw [h2]; simp)]
        · rw [if_neg h2]
          by_cases h3 : pp[i].f3 = true
          · rw [if_pos h3, pagesB_bad hm (by unfold pageOk; rw [h3]; simp)]
          · rw [if_neg h3, wrap_succ (by omega)]
            refine right_l0 hl k (i + 1) (by omega) (by omega) ?_
            rw [List.take_succ_eq_append_getElem hlt]
            intro p hp
            rcases List.mem_append.1 hp with hp | hp
            · exact hn p hp
            · rw [List.mem_singleton] at hp
              rw [hp]
              unfold pageOk
              rw [Bool.not_eq_true] at h2 h3
              rw [h1, h2, h3]
              rfl
      · rw [if_neg h1, pagesB_bad hm (by unfold pageOk; rw [decide_eq_false h1]; rfl)]
    · rw [if_neg (by omega)]
      obtain rfl : i = pp.length := by omega
      rw [List.take_length] at hn
      rw [once_f hl (by omega), pagesB_of hn]
      rfl
theorem right_f (c : Conf) (tgt cold tst : Int) (pp : List S42) (l6 l7 : List Int) (n : Cnt) {k : Nat} (hl : pp.length < 100000) (hk : 3 * pp.length + 3 < k) :
    hutchref16_Right.f k c.pol c.cap c.quota c.ghosts tgt pp l6 l7 cold tst n.n0 n.n1 n.n2 n.n3 n.n4 n.n5 n.n6 n.n7 n.n8 n.n9 = some (rightB c tgt cold tst pp l6.length l7.length) := by
  obtain ⟨k, rfl⟩ : ∃ k', k = k' + 1 := ⟨k - 1, by omega⟩
  have hj : ∀ b, hutchref16_Right.j0 (k + 1) b c.pol c.cap c.quota c.ghosts tgt pp l6 l7 cold tst n.n0 n.n1 n.n2 n.n3 n.n4 n.n5 n.n6 n.n7 n.n8 n.n9 = some (!b && pagesB pp) := by
    intro b
    simp only [hutchref16_Right.j0]
    cases b
    · simp only [Bool.false_eq_true, if_false]
      rw [show (0 : Int) = ((0 : Nat) : Int) from rfl, right_l0 hl k 0 (by omega) (Nat.zero_le _) (by simp)]
      rfl
    · simp only [if_true]; rfl
  unfold hutchref16_Right.f
  simp only [hj]
  have hm : hutchref11_May.f c.pol c.cap c.quota c.ghosts = some (decide (1 ≤ c.pol ∧ c.pol ≤ 4 ∧ 2 ≤ c.cap ∧ c.cap ≤ 256 ∧ 1 ≤ c.quota ∧ c.quota < c.cap ∧ 0 ≤ c.ghosts ∧ c.ghosts ≤ 512)) := by
    unfold hutchref11_May.f
    repeat' split
    all_goals first | (rw [decide_eq_false (by omega)]) | (congr 1; rw [decide_eq_decide]; omega)
  rw [hm]
  show (if decide _ = true then _ else _) = _
  by_cases h : headB c tgt cold tst pp.length l6.length l7.length = true
  · unfold rightB
    rw [h]
    unfold headB Conf.fits at h
    simp only [decide_eq_true_eq] at h
    obtain ⟨h1, h2, h3, h4, h5, h6⟩ := h
    rw [if_pos (decide_eq_true (by omega)), if_pos h1.1, if_pos h2, if_pos h3, if_pos h4, if_neg (by omega), if_neg (by omega), decide_eq_false (by omega)]
    rfl
  · unfold rightB
    rw [Bool.not_eq_true] at h
    rw [h]
    unfold headB Conf.fits at h
    simp only [decide_eq_true_eq, decide_eq_false_iff_not] at h
    repeat' split
    all_goals first | rfl | (rename_i q1 q2 q3 q4 q5 q6 q7; rw [decide_eq_true_eq] at q1; rw [decide_eq_true (by omega)]; rfl)
end Lru
end Go.Proofs.Ytekbgpfpnjddgaa
