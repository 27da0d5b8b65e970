/- Walks over the reference of lru: Kept. What the reference's Without and Top answer, as plain lists. -/
import Derived.Test.YtekbgpfpnjddgaaLruN
import Derived.Test.YtekbgpfpnjddgaaPLruTop
namespace Go.Proofs.Ytekbgpfpnjddgaa
open Go.RowKit Go.Proofs.YtekbgpfpnjddgaaW.PrintWords
open Go.Proofs.Ytekbgpfpnjddgaa.PLruLoads
namespace Lru
theorem Spot.kept {ks : List Int} {key r : Int} (h : Spot (ks.map pg) key r) : decide (0 ≤ r) = decide (key ∈ ks) := by
  have e : (ks.map pg).map (·.f0) = ks := by rw [List.map_map]; exact List.map_id' _
  rw [decide_eq_decide]
  rcases h with ⟨rfl, hn⟩ | ⟨j, rfl, hj, he, _⟩
  · rw [e] at hn
    exact ⟨fun q => by omega, fun q => absurd q hn⟩
  · refine ⟨fun _ => ?_, fun _ => by omega⟩
    have : (ks.map pg)[j].f0 ∈ (ks.map pg).map (·.f0) := List.mem_map.2 ⟨_, List.getElem_mem hj, rfl⟩
    rw [e, he] at this
    exact this
set_option maxRecDepth 100000 in
theorem RefKept_calls {w : World} (c : Conf) (n : Cnt) (ks : List Int) (hl : ks.length ≤ 1000) (A : Option Addr) (cp : Nat) (hcp : ks.length ≤ cp) (hp : Kd.C k42 w A (ks.map pg).length (ks.map pg)) (qv gv : Value) (key : Int) :
    Calls Try.prog 45 #[.agg (inCells c 0 (.slice A ks.length cp) qv gv 0 0 n), .int .u64 key] w fun e w' => e = .returned (.bool (decide (key ∈ ks))) ∧ Calm w w' := by
  have HP := Lib.hid hp
  obtain ⟨r, hr, hs⟩ := find_f (l := ks.map pg) (key := key) (k := ks.length + 1) (by rw [List.length_map]; omega) (by rw [List.length_map]; omega)
  have HS := Lib.hid hs.kept
  have HC := Lib.hid (fun w1 (hc : Calm w w1) => hutchref12_Find.calls (ks.length + 1) A cp (ks.map pg) key r w1 (Kd.C_below hp hc.below) (by rw [List.length_map]; exact hcp) hr)
  simp only [List.length_map] at HC
  clear hp hr hs
  go_enter Try.func45, Try.ntmps45
  go_upto_region 1 with fail
  have C1 := Lib.hid (Kept.alloc (Kept.refl (fun _ => False) w) (.cells (inCells c 0 (.slice A ks.length cp) qv gv 0 0 n) 38))
  have HB1 := Lib.hid (Blk.new w (inCells c 0 (.slice A ks.length cp) qv gv 0 0 n) 38)
  generalize w.alloc (.cells (inCells c 0 (.slice A ks.length cp) qv gv 0 0 n) 38) = w1 at C1 HB1 ⊢
  generalize w.heap.size = N at HB1 ⊢
  have b5 : w1.cell? ⟨N, 5, none⟩ = some (.slice A ks.length cp) := (HB1.out.cell 5).trans rfl
  have HCC := Lib.hid (HC.out w1 C1.out)
  clear HC
  go_wp2_with (go_at_call 72; refine HCC.out.mono ?_; rintro e' w2 ⟨rfl, hd⟩; have D2 := Lib.hid hd; clear hd)
  go_ret
  rw [← HS.out]
  obtain ⟨k, hk⟩ := D2.out
  exact ⟨by first | rfl | simp, by rw [hk]; exact C1.out.drewN k⟩
end Lru
end Go.Proofs.Ytekbgpfpnjddgaa
namespace Go.Proofs.Ytekbgpfpnjddgaa
open Go.RowKit Go.Proofs.YtekbgpfpnjddgaaW.PrintWords
open Go.Proofs.Ytekbgpfpnjddgaa.PLruLoads
namespace Lru
theorem without_l0 {ks : List Int} {key : Int} (hl : ks.length < 100000) : ∀ (k i : Nat), ks.length - i < k → i ≤ ks.length → hutchref12_Without.l0 k (ks.map pg) key ((without (ks.take i) key).map pg) i = some ((without ks key).map pg)
  | 0, _, h, _ => by omega
  | k + 1, i, h, hi => by
    unfold hutchref12_Without.l0
    by_cases hlt : i < ks.length
    · have hm : i < (ks.map pg).length := by rw [List.length_map]; exact hlt
      have hw : (without (ks.take i) key).length ≤ i := by
        have h1 : (without (ks.take i) key).length ≤ (ks.take i).length := List.length_filter_le ..
        rw [List.length_take] at h1
        omega
      rw [if_pos (by rw [List.length_map]; omega), if_pos (by omega), rd42 hm, List.getElem_map]
      have hs : ks.take (i + 1) = ks.take i ++ [ks[i]] := List.take_succ_eq_append_getElem hlt
      by_cases he : ks[i] = key
      · rw [if_pos (show (pg ks[i]).f0 = key from he), wrap_succ (by omega)]
        have := without_l0 (key := key) hl k (i + 1) (by omega) (by omega)
        rw [hs] at this
        rw [show without (ks.take i ++ [ks[i]]) key = without (ks.take i) key by unfold without; rw [List.filter_append]; simp [he]] at this
        exact this
      · rw [if_neg (show ¬ (pg ks[i]).f0 = key from he), if_pos (by rw [List.length_map]; omega), wrap_succ (by omega)]
        have := without_l0 (key := key) hl k (i + 1) (by omega) (by omega)
        rw [hs] at this
        rw [show without (ks.take i ++ [ks[i]]) key = without (ks.take i) key ++ [ks[i]] by unfold without; rw [List.filter_append]; simp [he], List.map_append] at this
        exact this
    · rw [if_neg (by rw [List.length_map]; omega)]
      obtain rfl : i = ks.length := by omega
      rw [List.take_length]
theorem without_f {ks : List Int} {key : Int} {k : Nat} (hl : ks.length < 100000) (hk : ks.length < k) : hutchref12_Without.f k (ks.map pg) key = some ((without ks key).map pg) :=
  without_l0 hl k 0 (by omega) (Nat.zero_le _)
/-- A slice that reads as kept pages. -/
def PagesAt (w : World) (v : Value) (ks : List Int) : Prop := ∃ A cp, v = .slice A ks.length cp ∧ ks.length ≤ cp ∧ Kd.C k42 w A (ks.map pg).length (ks.map pg)
theorem RefWithout_calls {w : World} {v : Value} {ks : List Int} (hv : PagesAt w v ks) (hl : ks.length ≤ 1000) (key : Int) :
    Calls Try.prog 74 #[v, .int .u64 key] w fun e w' => ∃ v', e = .returned v' ∧ PagesAt w' v' (without ks key) ∧ (∀ g, v'.ownBlock = some g → w.heap.size ≤ g ∧ g < w'.heap.size) ∧ Calm w w' := by
  obtain ⟨A, cp, rfl, hcp, hp⟩ := hv
  have := hutchref12_Without.calls (ks.length + 1) A cp (ks.map pg) key _ w hp (by rw [List.length_map]; exact hcp) (without_f (by omega) (Nat.lt_succ_self _))
  rw [List.length_map] at this
  refine Calls.mono this ?_
  rintro e w' ⟨v', rfl, hr, hb⟩
  obtain ⟨B, cb, h1, h2, h3⟩ := Kd.R_reads hr
  rw [List.length_map] at h1 h2
  exact ⟨v', rfl, ⟨B, cb, h1, h2, h3⟩, fun g hg => ⟨Kd.R_base hr g hg, Kd.R_lt hr g hg⟩, Kept.of_below hb _⟩
theorem RefTop_calls {w : World} {v : Value} {ks : List Int} (hv : PagesAt w v ks) (hl : ks.length ≤ 1000) (key : Int) :
    Calls Try.prog 88 #[.agg #[.int .u64 key, .int .i64 2, .bool false, .bool false], v] w fun e w' => ∃ v', e = .returned v' ∧ PagesAt w' v' (key :: ks) ∧ (∀ g, v'.ownBlock = some g → w.heap.size ≤ g ∧ g < w'.heap.size) ∧ Calm w w' := by
  obtain ⟨A, cp, rfl, hcp, hp⟩ := hv
  have hf : hutchref12_Top.f key 2 false false (ks.map pg) = some ((key :: ks).map pg) := by
    unfold hutchref12_Top.f
    show (if [pg key].length + (ks.map pg).length < 5864062014805 then some ([pg key] ++ ks.map pg) else none) = _
    rw [if_pos (by simp; omega)]
    rfl
  have := hutchref12_Top.calls key 2 false false A cp (ks.map pg) _ w hp (by rw [List.length_map]; exact hcp) hf
  rw [List.length_map] at this
  refine Calls.mono this ?_
  rintro e w' ⟨v', rfl, hr, hb⟩
  obtain ⟨B, cb, h1, h2, h3⟩ := Kd.R_reads hr
  rw [List.length_map] at h1 h2
  exact ⟨v', rfl, ⟨B, cb, h1, h2, h3⟩, fun g hg => ⟨Kd.R_base hr g hg, Kd.R_lt hr g hg⟩, Kept.of_below hb _⟩
end Lru
end Go.Proofs.Ytekbgpfpnjddgaa
