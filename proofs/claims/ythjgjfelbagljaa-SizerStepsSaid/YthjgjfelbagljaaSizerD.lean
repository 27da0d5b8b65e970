/- The sizer's laws: what a row of configs holds; alive; SizerMany. -/
import Derived.Test.YthjgjfelbagljaaSizerC
import Derived.StillTactics
namespace Go.Proofs.Ythjgjfelbagljaa
open Go.RowKit Go.Proofs.YthjgjfelbagljaaW.PrintWords Go.Proofs.YthjgjfelbagljaaW.PrintLast Go.Proofs.YthjgjfelbagljaaW.PrintMore Go.Proofs.Ythjgjfelbagljaa.PSizerSteps
namespace Siz

/-- A row of configs. -/
def CfgsW (w : World) (v : Value) (L : List Cfg) : Prop := ∃ A cc, v = .slice A L.length cc ∧ L.length ≤ cc ∧ (L = [] ∨ ∃ g, A = some ⟨g, 0, none⟩ ∧ g < w.heap.size ∧ ∀ i, i < L.length →
  w.cell? ⟨g, i * 4, none⟩ = some (.int .i64 (L.getD i z24).f0) ∧ w.cell? ⟨g, i * 4 + 1, none⟩ = some (.int .i64 (L.getD i z24).f1) ∧ w.cell? ⟨g, i * 4 + 2, none⟩ = some (.int .i64 (L.getD i z24).f2) ∧ w.cell? ⟨g, i * 4 + 3, none⟩ = some (.int .i64 (L.getD i z24).f3))
theorem CfgsW.below {w w' : World} {v : Value} {L : List Cfg} (h : CfgsW w v L) (hb : Below w.heap.size w w') : CfgsW w' v L := by
  obtain ⟨A, cc, rfl, hl, h⟩ := h
  refine ⟨A, cc, rfl, hl, h.imp id ?_⟩
  rintro ⟨g, rfl, hg, hc⟩
  refine ⟨g, rfl, by have := hb.size; omega, fun i hi => ?_⟩
  obtain ⟨h0, h1, h2, h3⟩ := hc i hi
  exact ⟨(hb.cell (p := ⟨g, _, none⟩) hg).trans h0, (hb.cell (p := ⟨g, _, none⟩) hg).trans h1, (hb.cell (p := ⟨g, _, none⟩) hg).trans h2, (hb.cell (p := ⟨g, _, none⟩) hg).trans h3⟩
theorem CfgsW.calm {w w' : World} {v : Value} {L : List Cfg} (h : CfgsW w v L) (hk : Calm w w') : CfgsW w' v L := h.below hk.below
theorem flatC_get (L : List Cfg) (i j : Nat) (hi : i < L.length) (hj : j < 4) : (flatC L)[i * 4 + j]? = (cells (L.getD i z24))[j]? := by
  have := flat_list_get (f := fun c : Cfg => (cells c).toList) (k := 4) (fun _ => rfl) L i j hi hj
  rw [List.getD_eq_getElem?_getD, List.getElem?_eq_getElem hi]
  exact this.trans (by simp)
theorem cfgs_of_owns {w : World} {base : Nat} {v : Value} {L : List Cfg} (h : w.ownsRow base 24 4 v L.length (flatC L)) : CfgsW w v L := by
  rcases h.2 with ⟨rfl, h0⟩ | ⟨g, cap, cur, rfl, hbg, hgb, hnc, hcm, hcs, htake⟩
  · obtain rfl : L = [] := List.eq_nil_of_length_eq_zero h0
    exact ⟨none, 0, rfl, Nat.le_refl _, .inl rfl⟩
  · refine ⟨_, cap, rfl, by omega, .inr ⟨g, rfl, (Array.getElem?_eq_some_iff.1 hgb).1, fun i hi => ?_⟩⟩
    have hcell : ∀ j, j < 4 → w.cell? ⟨g, i * 4 + j, none⟩ = (cells (L.getD i z24))[j]? := fun j hj => by
      rw [← flatC_get L i j hi hj, ← htake, List.getElem?_take_of_lt (by omega), Array.getElem?_toList]
      simp only [World.cell?, hgb]
      rfl
    exact ⟨hcell 0 (by omega), hcell 1 (by omega), hcell 2 (by omega), hcell 3 (by omega)⟩

set_option maxRecDepth 100000 in
theorem alive_steps : waySteps (⟨1, 10, 2, 5⟩ : Cfg) ⟨1, 5, 1, 8⟩ 2 = [⟨1, 8, 1, 7⟩, ⟨1, 6, 1, 8⟩, ⟨1, 5, 1, 8⟩] := by decide +kernel
set_option maxRecDepth 100000 in
set_option maxHeartbeats 1000000 in
theorem alive_calls (w : World) : Calls Try.prog 12 #[] w fun e w' => e = .returned (.bool true) ∧ Below w.heap.size w w' := by
  have hS := Steps_calls w (⟨1, 10, 2, 5⟩ : Cfg) ⟨1, 5, 1, 8⟩ 2 (by decide)
  rw [alive_steps, show wrong (⟨1, 10, 2, 5⟩ : Cfg) ⟨1, 5, 1, 8⟩ 2 = 0 by decide +kernel] at hS
  have HS := Lib.hid hS
  clear hS
  go_enter Try.func12, Try.ntmps12
  go_wp2_with fail
  refine HS.out.mono ?_
  rintro e w1 ⟨v, rfl, hrow, hb⟩
  obtain ⟨A, cc, rfl, hl, h | ⟨g, rfl, hg, hc⟩⟩ := cfgs_of_owns hrow
  · cases h
  obtain ⟨a0, a1, a2, a3⟩ := hc 0 (by decide)
  obtain ⟨b0, b1, b2, b3⟩ := hc 2 (by decide)
  clear hrow hc
  go_wp2_with fail
  go_ret
  exact ⟨rfl, hb⟩

theorem max2_max (k k' : IntKind) (x y : Int) : Builtin.max2 (.int k x) (.int k' y) = pure (.int k (max x y)) := by
  rw [max2_int]
  congr 2
  split <;> omega
section
attribute [local go_sem] max2_max max_two max_three
set_option maxRecDepth 100000 in
theorem far_calls (w : World) (a b : Int) (ha : 0 ≤ a ∧ a ≤ 512) (hb : 0 ≤ b ∧ b ≤ 512) :
    Calls Try.prog 15 #[.int .i64 a, .int .i64 b] w fun e w' => e = .returned (.int .i64 (gap a b)) ∧ w' = w := by
  have w1 : IntKind.i64.wrap (a - b) = a - b := by rw [IntKind.wrap_i64]; omega
  have w2 : IntKind.i64.wrap (b - a) = b - a := by rw [IntKind.wrap_i64]; omega
  unfold gap
  go_enter Try.func15, Try.ntmps15
  go_wp2_with fail
  go_ret
  exact ⟨rfl, rfl⟩
set_option maxRecDepth 100000 in
set_option maxHeartbeats 1000000 in
theorem SizerMany_calls (w : World) (c t : Cfg) (n : Int) (hn0 : 0 ≤ n) (hn1 : n ≤ 255) :
    Calls Try.prog 4 #[.agg (cells c), .agg (cells t), .int .u8 n] w fun e w' => e = .returned (.bool true) ∧ Below w.heap.size w w' := by
  have HM := Lib.hid (fun W => hutchref33_May.calls c.f0 c.f1 c.f2 c.f3 t.f0 t.f1 t.f2 t.f3 _ W (may33_f c t))
  unfold cells
  by_cases hm : May c t
  · rw [decide_eq_true hm] at HM
    by_cases h0 : n = 0
    · subst h0
      go_enter Try.func4, Try.ntmps4
      go_upto_region 1 with fail
      have B1 : Blk ((w.alloc (.cells #[.int .i64 c.f0, .int .i64 c.f1, .int .i64 c.f2, .int .i64 c.f3] 24)).alloc (.cells #[.int .i64 t.f0, .int .i64 t.f1, .int .i64 t.f2, .int .i64 t.f3] 24)) w.heap.size (cells c) := (Blk.new w _ _).alloc _
      have B2 : Blk ((w.alloc (.cells #[.int .i64 c.f0, .int .i64 c.f1, .int .i64 c.f2, .int .i64 c.f3] 24)).alloc (.cells #[.int .i64 t.f0, .int .i64 t.f1, .int .i64 t.f2, .int .i64 t.f3] 24)) (w.heap.size + 1) (cells t) := by
        have := Blk.new (w.alloc (.cells #[.int .i64 c.f0, .int .i64 c.f1, .int .i64 c.f2, .int .i64 c.f3] 24)) (cells t) 24
        rw [World.size_alloc] at this
        exact this
      have K2 : Calm w ((w.alloc (.cells #[.int .i64 c.f0, .int .i64 c.f1, .int .i64 c.f2, .int .i64 c.f3] 24)).alloc (.cells #[.int .i64 t.f0, .int .i64 t.f1, .int .i64 t.f2, .int .i64 t.f3] 24)) := ((Kept.refl _ w).alloc _).alloc _
      generalize ((w.alloc (.cells #[.int .i64 c.f0, .int .i64 c.f1, .int .i64 c.f2, .int .i64 c.f3] 24)).alloc (.cells #[.int .i64 t.f0, .int .i64 t.f1, .int .i64 t.f2, .int .i64 t.f3] 24)) = w2 at B1 B2 K2 ⊢
      obtain ⟨a0, a1, a2, a3⟩ := Cells B1
      obtain ⟨b0, b1, b2, b3⟩ := Cells B2
      go_wp2_with (first | (go_at_call 11; refine (HM.out _).mono ?_; rintro e w3 ⟨rfl, hb3⟩) | (go_at_call 12; refine (alive_calls _).mono ?_; rintro e w4 ⟨rfl, hb4⟩))
      go_ret
      exact ⟨rfl, ((K2.trans (Kept.of_below hb3 _)).trans (Kept.of_below hb4 _)).below (fun _ _ h => h)⟩
    · have h1 : 1 ≤ n := by omega
      have hd0 : decide (n = 0) = false := by simpa using h0
      have hd1 : (n == 0) = false := by simpa using h0
      clear h0
      go_enter Try.func4, Try.ntmps4
      go_upto_region 1 with fail
      have B1 : Blk ((w.alloc (.cells #[.int .i64 c.f0, .int .i64 c.f1, .int .i64 c.f2, .int .i64 c.f3] 24)).alloc (.cells #[.int .i64 t.f0, .int .i64 t.f1, .int .i64 t.f2, .int .i64 t.f3] 24)) w.heap.size (cells c) := (Blk.new w _ _).alloc _
      have B2 : Blk ((w.alloc (.cells #[.int .i64 c.f0, .int .i64 c.f1, .int .i64 c.f2, .int .i64 c.f3] 24)).alloc (.cells #[.int .i64 t.f0, .int .i64 t.f1, .int .i64 t.f2, .int .i64 t.f3] 24)) (w.heap.size + 1) (cells t) := by
        have := Blk.new (w.alloc (.cells #[.int .i64 c.f0, .int .i64 c.f1, .int .i64 c.f2, .int .i64 c.f3] 24)) (cells t) 24
        rw [World.size_alloc] at this
        exact this
      have K2 : Calm w ((w.alloc (.cells #[.int .i64 c.f0, .int .i64 c.f1, .int .i64 c.f2, .int .i64 c.f3] 24)).alloc (.cells #[.int .i64 t.f0, .int .i64 t.f1, .int .i64 t.f2, .int .i64 t.f3] 24)) := ((Kept.refl _ w).alloc _).alloc _
      generalize ((w.alloc (.cells #[.int .i64 c.f0, .int .i64 c.f1, .int .i64 c.f2, .int .i64 c.f3] 24)).alloc (.cells #[.int .i64 t.f0, .int .i64 t.f1, .int .i64 t.f2, .int .i64 t.f3] 24)) = w2 at B1 B2 K2 ⊢
      obtain ⟨a0, a1, a2, a3⟩ := Cells B1
      obtain ⟨b0, b1, b2, b3⟩ := Cells B2
      go_wp2_with fail
      refine (HM.out _).mono ?_
      rintro e w3 ⟨rfl, hb3⟩
      have C1 := B1.calm (Kept.of_below hb3 _)
      have C2 := B2.calm (Kept.of_below hb3 _)
      have K3 := K2.trans (Kept.of_below hb3 _)
      clear a0 a1 a2 a3 b0 b1 b2 b3 B1 B2 K2 hb3
      go_upto_region 3 with fail
      obtain ⟨a0, a1, a2, a3⟩ := Cells C1
      obtain ⟨b0, b1, b2, b3⟩ := Cells C2
      have ho := hm.1
      have hot := hm.2.1
      have ha1 : 0 ≤ c.f1 ∧ c.f1 ≤ 512 := by obtain ⟨o0, o1, o2, o3⟩ := ho; omega
      have ha2 : 0 ≤ c.f2 ∧ c.f2 ≤ 512 := by obtain ⟨o0, o1, o2, o3⟩ := ho; omega
      have ha3 : 0 ≤ c.f3 ∧ c.f3 ≤ 512 := by obtain ⟨o0, o1, o2, o3⟩ := ho; omega
      have hb1 : 0 ≤ t.f1 ∧ t.f1 ≤ 512 := by obtain ⟨o0, o1, o2, o3⟩ := hot; omega
      have hb2 : 0 ≤ t.f2 ∧ t.f2 ≤ 512 := by obtain ⟨o0, o1, o2, o3⟩ := hot; omega
      have hb3 : 0 ≤ t.f3 ∧ t.f3 ≤ 512 := by obtain ⟨o0, o1, o2, o3⟩ := hot; omega
      refine wp_region_still_lit (by kernel_rfl) (by kernel_rfl) ?_
      repeat still_step
      still_call (far_calls _ c.f1 t.f1 ha1 hb1)
      repeat still_step
      still_call (far_calls _ c.f2 t.f2 ha2 hb2)
      repeat still_step
      still_call (far_calls _ c.f3 t.f3 ha3 hb3)
      repeat still_step
      refine wpStill_nil ?_
      rw [show max (gap c.f1 t.f1) (max (gap c.f2 t.f2) (gap c.f3 t.f3)) = far c t by unfold far; omega]
      have C1' : Blk w3.drew w.heap.size (cells c) := C1
      have C2' : Blk w3.drew (w.heap.size + 1) (cells t) := C2
      have K3' : Calm w w3.drew := K3.drew
      clear a0 a1 a2 a3 b0 b1 b2 b3 C1 C2 K3
      change Exit.then _ _ _ _ w3.drew
      generalize w3.drew = w4 at C1' C2' K3' ⊢
      obtain ⟨a0, a1, a2, a3⟩ := Cells C1'
      obtain ⟨b0, b1, b2, b3⟩ := Cells C2'
      have hw : IntKind.i64.wrap n = n := by rw [IntKind.wrap_i64]; omega
      simp only [Exit.then]
      have hS := Steps_calls w4 c t n (by omega)
      have hwr : wrong c t n = 0 := by unfold wrong; rw [if_pos hm, if_neg (by omega)]
      rw [hwr] at hS
      have HS := Lib.hid hS
      clear hS
      go_wp2_with fail
      refine HS.out.mono ?_
      rintro e w5 ⟨v, rfl, hrow, hb5⟩
      obtain ⟨A, cc, rfl, _, _⟩ := cfgs_of_owns hrow
      have hlen : ((waySteps c t n).length : Int) = (far c t + n - 1) / n := by
        rw [waySteps_right hwr, steps_length]
        unfold many
        have := far_nonneg c t
        rw [Int.toNat_of_nonneg (Int.ediv_nonneg (by omega) (by omega))]
      have hf0 := far_nonneg c t
      have hf1 := far_le ho hot
      have w1 : IntKind.i64.wrap (far c t + n) = far c t + n := by rw [IntKind.wrap_i64]; omega
      have w2 : IntKind.i64.wrap (far c t + n - 1) = far c t + n - 1 := by rw [IntKind.wrap_i64]; omega
      have hnz : ¬ n = 0 := by omega
      clear hrow a0 a1 a2 a3 b0 b1 b2 b3
      generalize (waySteps c t n).length = L at hlen ⊢
      go_wp2_with (first | (go_at_call 12; refine (alive_calls _).mono ?_; rintro e w6 ⟨rfl, hb6⟩))
      go_ret
      exact ⟨rfl, ((K3'.trans (Kept.of_below hb5 _)).trans (Kept.of_below hb6 _)).below (fun _ _ h => h)⟩
  · rw [decide_eq_false hm] at HM
    go_enter Try.func4, Try.ntmps4
    go_upto_region 1 with fail
    have B1 : Blk ((w.alloc (.cells #[.int .i64 c.f0, .int .i64 c.f1, .int .i64 c.f2, .int .i64 c.f3] 24)).alloc (.cells #[.int .i64 t.f0, .int .i64 t.f1, .int .i64 t.f2, .int .i64 t.f3] 24)) w.heap.size (cells c) := (Blk.new w _ _).alloc _
    have B2 : Blk ((w.alloc (.cells #[.int .i64 c.f0, .int .i64 c.f1, .int .i64 c.f2, .int .i64 c.f3] 24)).alloc (.cells #[.int .i64 t.f0, .int .i64 t.f1, .int .i64 t.f2, .int .i64 t.f3] 24)) (w.heap.size + 1) (cells t) := by
      have := Blk.new (w.alloc (.cells #[.int .i64 c.f0, .int .i64 c.f1, .int .i64 c.f2, .int .i64 c.f3] 24)) (cells t) 24
      rw [World.size_alloc] at this
      exact this
    have K2 : Calm w ((w.alloc (.cells #[.int .i64 c.f0, .int .i64 c.f1, .int .i64 c.f2, .int .i64 c.f3] 24)).alloc (.cells #[.int .i64 t.f0, .int .i64 t.f1, .int .i64 t.f2, .int .i64 t.f3] 24)) := ((Kept.refl _ w).alloc _).alloc _
    generalize ((w.alloc (.cells #[.int .i64 c.f0, .int .i64 c.f1, .int .i64 c.f2, .int .i64 c.f3] 24)).alloc (.cells #[.int .i64 t.f0, .int .i64 t.f1, .int .i64 t.f2, .int .i64 t.f3] 24)) = w2 at B1 B2 K2 ⊢
    obtain ⟨a0, a1, a2, a3⟩ := Cells B1
    obtain ⟨b0, b1, b2, b3⟩ := Cells B2
    go_wp2_with (first | (go_at_call 11; refine (HM.out _).mono ?_; rintro e w3 ⟨rfl, hb3⟩) | (go_at_call 12; refine (alive_calls _).mono ?_; rintro e w4 ⟨rfl, hb4⟩))
    go_ret
    exact ⟨rfl, ((K2.trans (Kept.of_below hb3 _)).trans (Kept.of_below hb4 _)).below (fun _ _ h => h)⟩
end
theorem SizerMany_row (w : World) (c t : Cfg) (n : Int) (hn : (Lit.int .u8 n).wf = true) :
    Calls Try.prog 4 #[.agg #[.int .i64 c.f0, .int .i64 c.f1, .int .i64 c.f2, .int .i64 c.f3], .agg #[.int .i64 t.f0, .int .i64 t.f1, .int .i64 t.f2, .int .i64 t.f3], .int .u8 n] w fun e w' => e = .returned (.bool true) ∧ Below w.heap.size w w' := by
  have h : IntKind.u8.min ≤ n ∧ n ≤ IntKind.u8.max := by simpa [Lit.wf] using hn
  rw [show IntKind.u8.min = 0 from rfl, show IntKind.u8.max = 255 from rfl] at h
  exact SizerMany_calls w c t n h.1 h.2
end Siz
end Go.Proofs.Ythjgjfelbagljaa
