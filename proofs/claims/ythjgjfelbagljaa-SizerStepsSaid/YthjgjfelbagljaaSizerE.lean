/- hutchref33.Steps: the same steps. -/
import Derived.Test.YthjgjfelbagljaaSizerD
import Derived.OwnWalk
namespace Go.Proofs.Ythjgjfelbagljaa
open Go.RowKit Go.Proofs.YthjgjfelbagljaaW.PrintWords Go.Proofs.YthjgjfelbagljaaW.PrintLast Go.Proofs.YthjgjfelbagljaaW.PrintMore Go.Proofs.Ythjgjfelbagljaa.PSizerSteps
namespace Siz

/-- The cells of a config that has been stored to. -/
theorem Cells0 {w : World} {b : Nat} {v0 v1 v2 v3 : Value} (h : Blk w b #[v0, v1, v2, v3]) : w.cell? ⟨b, 0, none⟩ = some v0 ∧ w.cell? ⟨b, 1, none⟩ = some v1 ∧ w.cell? ⟨b, 2, none⟩ = some v2 ∧ w.cell? ⟨b, 3, none⟩ = some v3 :=
  ⟨(h.cell 0).trans rfl, (h.cell 1).trans rfl, (h.cell 2).trans rfl, (h.cell 3).trans rfl⟩
theorem one_calls (W : World) {x t n : Int} (hn0 : 1 ≤ n) (hn : n ≤ 9223372036854775807) (ht : 0 ≤ t ∧ t ≤ 512) (hx : 0 ≤ x ∧ x ≤ 512) :
    Calls Try.prog 42 #[.int .i64 x, .int .i64 t, .int .i64 n] W fun e w' => e = .returned (.int .i64 (toward x t n)) ∧ ∃ k, w' = W.drewN k :=
  (hutchref33_one.calls 2000 x t n _ W (one_f hn0 hn ht hx (Nat.le_refl _))).mono (fun _ _ h => ⟨h.1, h.2.out⟩)

set_option maxRecDepth 100000 in
set_option maxHeartbeats 4000000 in
theorem RefSteps_calls (w : World) (c t : Cfg) (n : Int) (hn0 : 1 ≤ n) (hn : n ≤ 9223372036854775807) (hm : May c t) :
    Calls Try.prog 13 #[.agg (cells c), .agg (cells t), .int .i64 n] w fun e w' =>
      ∃ v, e = .returned v ∧ w'.ownsRow w.heap.size 24 4 v (steps c t n).length (flatC (steps c t n)) ∧ Below w.heap.size w w' := by
  unfold cells
  go_enter Try.func13, Try.ntmps13
  go_upto_region 1 with fail
  have B1 : Blk ((w.alloc (.cells #[.int .i64 c.f0, .int .i64 c.f1, .int .i64 c.f2, .int .i64 c.f3] 24)).alloc (.cells #[.int .i64 t.f0, .int .i64 t.f1, .int .i64 t.f2, .int .i64 t.f3] 24)) w.heap.size (cells c) := (Blk.new w _ _).alloc _
  have B2 : Blk ((w.alloc (.cells #[.int .i64 c.f0, .int .i64 c.f1, .int .i64 c.f2, .int .i64 c.f3] 24)).alloc (.cells #[.int .i64 t.f0, .int .i64 t.f1, .int .i64 t.f2, .int .i64 t.f3] 24)) (w.heap.size + 1) (cells t) := by
    have := Blk.new (w.alloc (.cells #[.int .i64 c.f0, .int .i64 c.f1, .int .i64 c.f2, .int .i64 c.f3] 24)) (cells t) 24
    rw [World.size_alloc] at this
    exact this
  have K2 : Below w.heap.size w ((w.alloc (.cells #[.int .i64 c.f0, .int .i64 c.f1, .int .i64 c.f2, .int .i64 c.f3] 24)).alloc (.cells #[.int .i64 t.f0, .int .i64 t.f1, .int .i64 t.f2, .int .i64 t.f3] 24)) := (((Kept.refl (fun _ => False) w).alloc _).alloc _).below (fun _ _ h => h)
  have S2 : ((w.alloc (.cells #[.int .i64 c.f0, .int .i64 c.f1, .int .i64 c.f2, .int .i64 c.f3] 24)).alloc (.cells #[.int .i64 t.f0, .int .i64 t.f1, .int .i64 t.f2, .int .i64 t.f3] 24)).heap.size = w.heap.size + 2 := by simp
  generalize (w.alloc (.cells #[.int .i64 c.f0, .int .i64 c.f1, .int .i64 c.f2, .int .i64 c.f3] 24)).alloc (.cells #[.int .i64 t.f0, .int .i64 t.f1, .int .i64 t.f2, .int .i64 t.f3] 24) = w2 at B1 B2 K2 S2 ⊢
  obtain ⟨i0, hi, hz0, hz1, hz2⟩ := info_parts info24
  have HI := Lib.hid hi; have HZ0 := Lib.hid hz0; have HZ1 := Lib.hid hz1; have HZ2 := Lib.hid hz2
  clear hi hz0 hz1 hz2
  go_upto_region 2 with fail
  go_loopw [7] (fun v wr => ∃ k : Nat, k ≤ many c t n ∧ wr.ownsRow (w.heap.size + 2) 24 4 v k (flatC ((steps c t n).take k)) ∧ Blk wr w.heap.size (cells (st t n c k)) ∧ Blk wr (w.heap.size + 1) (cells t) ∧ Below w.heap.size w wr ∧ w.heap.size + 2 ≤ wr.heap.size)
    (fun v _ => many c t n + 1 - (match v with | .slice _ l _ => l | _ => 0))
  case atStart => exact ⟨0, Nat.zero_le _, World.ownsRow_nil _ _ _ _, B1, B2, K2, by omega⟩
  case round =>
    obtain ⟨k, hk, hrow, C1, C2, hB, hS⟩ := hrel
    by_cases hlt : k < many c t n
    · have hok := Ok.st hn0 hm.1 hm.2.1 k
      have hokt := hm.2.1
      have hne : st t n c k ≠ t := fun e => (st_same hn0 hm.2.2 k).1 e hlt
      have hq2 := cfg_neq hne
      have ha1 : 0 ≤ (st t n c k).f1 ∧ (st t n c k).f1 ≤ 512 := by obtain ⟨o0, o1, o2, o3⟩ := hok; omega
      have ha2 : 0 ≤ (st t n c k).f2 ∧ (st t n c k).f2 ≤ 512 := by obtain ⟨o0, o1, o2, o3⟩ := hok; omega
      have ha3 : 0 ≤ (st t n c k).f3 ∧ (st t n c k).f3 ≤ 512 := by obtain ⟨o0, o1, o2, o3⟩ := hok; omega
      have hb1 : 0 ≤ t.f1 ∧ t.f1 ≤ 512 := by obtain ⟨o0, o1, o2, o3⟩ := hokt; omega
      have hb2 : 0 ≤ t.f2 ∧ t.f2 ≤ 512 := by obtain ⟨o0, o1, o2, o3⟩ := hokt; omega
      have hb3 : 0 ≤ t.f3 ∧ t.f3 ≤ 512 := by obtain ⟨o0, o1, o2, o3⟩ := hokt; omega
      have htk : (steps c t n).take k ++ [next t n (st t n c k)] = (steps c t n).take (k + 1) := by
        rw [List.take_succ_eq_append_getElem (by rw [steps_length]; exact hlt)]
        have e := steps_get hlt
        rw [List.getD_eq_getElem?_getD, List.getElem?_eq_getElem (by rw [steps_length]; exact hlt)] at e
        rw [show (steps c t n)[k]'(by rw [steps_length]; exact hlt) = st t n c (k + 1) from e]
        rfl
      have hvs : ∃ a cp, u7 = .slice a k cp := by
        rcases hrow.2 with ⟨rfl, h0⟩ | ⟨g, cap, _, rfl, _⟩
        · exact ⟨_, _, by rw [h0]⟩
        · exact ⟨_, _, rfl⟩
      obtain ⟨va, vc, rfl⟩ := hvs
      have hk512 : k + 1 ≤ 512 := by have := many_le hn0 hm.1 hm.2.1; omega
      have hst : next t n (st t n c k) = st t n c (k + 1) := rfl
      have Hst := Lib.hid hst
      have Htk := Lib.hid htk
      clear hst htk hne hok hokt
      generalize st t n c k = x at *
      -- a row, apart from the two boxes
      have hstep : ∀ (W W' : World) (f : Nat), Go.Proofs.Ythjgjfelbagljaa.Kept (fun j => j = w.heap.size) W W' → W.ownsRow (w.heap.size + 2) 24 4 (.slice va k vc) k (flatC ((steps c t n).take k)) → W'.ownsRow (w.heap.size + 2) 24 4 (.slice va k vc) k (flatC ((steps c t n).take k)) := fun W W' _ hk hr => by
        refine ⟨hr.1, ?_⟩
        rcases hr.2 with h2 | ⟨g, cap, cur, hv, hg, hgb, rest⟩
        · exact .inl h2
        · exact .inr ⟨g, cap, cur, hv, hg, (hk.block g (Array.getElem?_eq_some_iff.1 hgb).1 (fun h => by have : g = w.heap.size := h; omega)).trans hgb, rest⟩
      have HStep := Lib.hid hstep
      have HRow := Lib.hid hrow
      clear hstep hrow
      obtain ⟨_, a1, a2, a3⟩ := Cells0 C1
      obtain ⟨c0, c1, c2, c3⟩ := Cells C2
      go_wp2_with fail
      refine (one_calls _ hn0 hn hb1 ha1).mono ?_
      rintro e w3 ⟨rfl, k1, rfl⟩
      have D1 := C1.drewN k1
      have E1 := C2.drewN k1
      have K1 : Go.Proofs.Ythjgjfelbagljaa.Kept (fun j => j = w.heap.size) wr (World.drewN wr k1) := (Kept.refl _ _).drewN k1
      have hz1 := fun o => D1.frozen o
      generalize World.drewN wr k1 = v1 at D1 E1 K1 hz1 ⊢
      clear a1 a2 a3 c0 c1 c2 c3
      obtain ⟨_, a1, a2, a3⟩ := Cells0 D1
      go_upto_region 4 with fail
      have P1 := D1.set 1 (.int .i64 (toward x.f1 t.f1 n))
      have R1 : Blk (v1.setCell ⟨w.heap.size, 1, none⟩ (.int .i64 (toward x.f1 t.f1 n))) (w.heap.size + 1) (cells t) := E1.other (a := ⟨w.heap.size, 1, none⟩) (by show w.heap.size + 1 ≠ w.heap.size; omega) _
      have L1 : Go.Proofs.Ythjgjfelbagljaa.Kept (fun j => j = w.heap.size) wr (v1.setCell ⟨w.heap.size, 1, none⟩ (.int .i64 (toward x.f1 t.f1 n))) := K1.setCell (fun _ => rfl) _
      generalize v1.setCell ⟨w.heap.size, 1, none⟩ (.int .i64 (toward x.f1 t.f1 n)) = y1 at P1 R1 L1 ⊢
      clear a1 a2 a3 D1 E1 K1 hz1
      obtain ⟨_, a1, a2, a3⟩ := Cells0 P1
      obtain ⟨c0, c1, c2, c3⟩ := Cells R1
      go_wp2_with fail
      refine (one_calls _ hn0 hn hb2 ha2).mono ?_
      rintro e w3 ⟨rfl, k2, rfl⟩
      have D2 := P1.drewN k2
      have E2 := R1.drewN k2
      have K2 : Go.Proofs.Ythjgjfelbagljaa.Kept (fun j => j = w.heap.size) y1 (World.drewN y1 k2) := (Kept.refl _ _).drewN k2
      have hz2 := fun o => D2.frozen o
      generalize World.drewN y1 k2 = v2 at D2 E2 K2 hz2 ⊢
      clear a1 a2 a3 c0 c1 c2 c3
      obtain ⟨_, a1, a2, a3⟩ := Cells0 D2
      go_upto_region 5 with fail
      have P2 := D2.set 2 (.int .i64 (toward x.f2 t.f2 n))
      have R2 : Blk (v2.setCell ⟨w.heap.size, 2, none⟩ (.int .i64 (toward x.f2 t.f2 n))) (w.heap.size + 1) (cells t) := E2.other (a := ⟨w.heap.size, 2, none⟩) (by show w.heap.size + 1 ≠ w.heap.size; omega) _
      have L2 : Go.Proofs.Ythjgjfelbagljaa.Kept (fun j => j = w.heap.size) y1 (v2.setCell ⟨w.heap.size, 2, none⟩ (.int .i64 (toward x.f2 t.f2 n))) := K2.setCell (fun _ => rfl) _
      generalize v2.setCell ⟨w.heap.size, 2, none⟩ (.int .i64 (toward x.f2 t.f2 n)) = y2 at P2 R2 L2 ⊢
      clear a1 a2 a3 D2 E2 K2 hz2
      obtain ⟨_, a1, a2, a3⟩ := Cells0 P2
      obtain ⟨c0, c1, c2, c3⟩ := Cells R2
      go_wp2_with fail
      refine (one_calls _ hn0 hn hb3 ha3).mono ?_
      rintro e w3 ⟨rfl, k3, rfl⟩
      have D3 := P2.drewN k3
      have E3 := R2.drewN k3
      have K3 : Go.Proofs.Ythjgjfelbagljaa.Kept (fun j => j = w.heap.size) y2 (World.drewN y2 k3) := (Kept.refl _ _).drewN k3
      have hz3 := fun o => D3.frozen o
      generalize World.drewN y2 k3 = v3 at D3 E3 K3 hz3 ⊢
      clear a1 a2 a3 c0 c1 c2 c3
      obtain ⟨_, a1, a2, a3⟩ := Cells0 D3
      go_upto_region 6 with fail
      have P3 := D3.set 3 (.int .i64 (toward x.f3 t.f3 n))
      have R3 : Blk (v3.setCell ⟨w.heap.size, 3, none⟩ (.int .i64 (toward x.f3 t.f3 n))) (w.heap.size + 1) (cells t) := E3.other (a := ⟨w.heap.size, 3, none⟩) (by show w.heap.size + 1 ≠ w.heap.size; omega) _
      have L3 : Go.Proofs.Ythjgjfelbagljaa.Kept (fun j => j = w.heap.size) y2 (v3.setCell ⟨w.heap.size, 3, none⟩ (.int .i64 (toward x.f3 t.f3 n))) := K3.setCell (fun _ => rfl) _
      generalize v3.setCell ⟨w.heap.size, 3, none⟩ (.int .i64 (toward x.f3 t.f3 n)) = y3 at P3 R3 L3 ⊢
      clear a1 a2 a3 D3 E3 K3 hz3
      have Q5 : Blk y3 w.heap.size (cells (next t n x)) := P3
      have LL : Go.Proofs.Ythjgjfelbagljaa.Kept (fun j => j = w.heap.size) wr y3 := (L1.trans L2).trans L3
      have hrow3 := HStep.out _ _ 0 LL HRow.out
      have hS3 : w.heap.size + 2 ≤ y3.heap.size := Nat.le_trans hS LL.size
      have hB3 : Below w.heap.size w y3 := (((Kept.of_below hB (fun j => False)).step (F := fun _ => False) LL (fun i hi h => absurd (show i = w.heap.size from h) (by omega)))).below (fun _ _ h => h)
      clear L1 L2 L3 P1 P2 P3 R1 R2 LL
      obtain ⟨a0, a1, a2, a3⟩ := Cells Q5
      go_wp2_with (at_builtin; refine wpList_append_own_at _ rfl _ _ 25 rfl (w.heap.size + 2) 24 i0 (.agg #[.int .i64 0, .int .i64 0, .int .i64 0, .int .i64 0]) 4 32 Try.underlying25 HI.out HZ0.out HZ1.out HZ2.out rfl (by decide) _ _ _ rfl (hrow3.alloc _) ⟨y3.heap.size, 0, none⟩ 1 1 (cells (next t n x)).toList rfl rfl (cells_new _ _ _) (by simp [cells, Value.oneCell']) (by unfold maxLen; omega) (by omega) (by simp; omega) ?_; intro v' w1 hown' hgrow _ hat; obtain ⟨g', cap', rfl⟩ := ownsRow_succ hown')
      go_roundw
      case rel =>
        have hlt' := hrow3.lt
        have hkeep : ∀ j, j < w.heap.size + 2 → w1.heap[j]? = y3.heap[j]? := fun j hj => by
          rw [hgrow.block j (by simp; omega) (fun e => by have := hlt' j e.symm; omega), Below.heap_alloc _ _ _ (by omega)]
        have hbel : Below w.heap.size y3 w1 := ((Below.refl w.heap.size y3).alloc (by omega) _).grown hgrow (by simp; omega) fun j ej => by have := hlt' j ej; omega
        refine ⟨k + 1, by omega, ?_, ?_, R3.of_eq (hkeep _ (by omega)), hB3.trans hbel, by have := hgrow.size; simp at this; omega⟩
        · rw [← Htk.out, flatC_snoc]
          exact hown'
        · rw [← Hst.out]
          exact Q5.of_eq (hkeep _ (by omega))
      case measure =>
        show many c t n + 1 - (k + 1) < many c t n + 1 - k
        omega
    · have e : st t n c k = t := (st_same hn0 hm.2.2 k).2 hlt
      rw [e] at C1
      obtain rfl : k = many c t n := by omega
      have hall : (steps c t n).take (many c t n) = steps c t n := List.take_of_length_le (by rw [steps_length]; exact Nat.le_refl _)
      rw [hall] at hrow
      have HRow := Lib.hid hrow
      clear hrow hall e hlt
      obtain ⟨a0, a1, a2, a3⟩ := Cells C1
      obtain ⟨c0, c1, c2, c3⟩ := Cells C2
      go_wp2_with fail
      go_ret
      refine ⟨_, rfl, ?_, hB⟩
      rw [steps_length]
      exact ownsRow_weaken HRow.out (by omega)
end Siz
end Go.Proofs.Ythjgjfelbagljaa
