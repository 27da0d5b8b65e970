-- PRINTED BY print.sh 35421559b90ae4d0a3588c463048766b98c2df88dd9212a6774a882060cdf62d: not written by this session
import Derived.Test.YtekbgpfpnjddgaaPLruLoadsx0
import Derived.Test.YtekbgpfpnjddgaaPLruLoadsx5
namespace Go.Proofs.Ytekbgpfpnjddgaa.PLruLoads
open Go.RowKit Go.Proofs.YtekbgpfpnjddgaaW.PrintWords Go.Proofs.YtekbgpfpnjddgaaW.PrintLast Go.Proofs.YtekbgpfpnjddgaaW.PrintMore
attribute [local go_sem] max2_int min2_int max_two min_two max_three min_three max_four min_four   -- for this text's walks alone
set_option linter.unusedVariables false
set_option linter.unusedSimpArgs false

/-! ### hutchref16_Right: function 17 -/
mutual
def hutchref16_Right.j0 : Nat → Bool → Int → Int → Int → Int → Int → List (S42) → List Int → List Int → Int → Int → Int → Int → Int → Int → Int → Int → Int → Int → Int → Int → Option (Bool)
  | 0, _, _, _, _, _, _, _, _, _, _, _, _, _, _, _, _, _, _, _, _, _ => none
  | k + 1, x50, x150000, x150001, x150002, x150003, x150004, x150005, x150006, x150007, x150008, x150009, x150010, x150011, x150012, x150013, x150014, x150015, x150016, x150017, x150018, x150019 => if x50 = true then (some false) else (hutchref16_Right.l0 k 0 x150000 x150001 x150002 x150003 x150004 x150005 x150006 x150007 x150008 x150009 x150010 x150011 x150012 x150013 x150014 x150015 x150016 x150017 x150018 x150019)
def hutchref16_Right.l0 : Nat → Int → Int → Int → Int → Int → Int → List (S42) → List Int → List Int → Int → Int → Int → Int → Int → Int → Int → Int → Int → Int → Int → Int → Option (Bool)
  | 0, _, _, _, _, _, _, _, _, _, _, _, _, _, _, _, _, _, _, _, _, _ => none
  | k + 1, x3, x150000, x150001, x150002, x150003, x150004, x150005, x150006, x150007, x150008, x150009, x150010, x150011, x150012, x150013, x150014, x150015, x150016, x150017, x150018, x150019 => if x3 < (x150005.length : Int) then (if 0 ≤ x3 then (if ((rd_T42 x150005 x3).f1) = 2 then (if (rd_T42 x150005 x3).f2 = true then (some false) else (if (rd_T42 x150005 x3).f3 = true then (some false) else (hutchref16_Right.l0 k (wrap64 (x3 + 1)) x150000 x150001 x150002 x150003 x150004 x150005 x150006 x150007 x150008 x150009 x150010 x150011 x150012 x150013 x150014 x150015 x150016 x150017 x150018 x150019))) else (some false)) else (none)) else ((hutchref12_Once.f k x150005).bind fun t153 => (some t153))
end
def hutchref16_Right.f (k : Nat) (a0_0 : Int) (a0_1 : Int) (a0_2 : Int) (a0_3 : Int) (a0_4 : Int) (l0_5 : List (S42)) (l0_6 : List Int) (l0_7 : List Int) (a0_8 : Int) (a0_9 : Int) (a0_10 : Int) (a0_11 : Int) (a0_12 : Int) (a0_13 : Int) (a0_14 : Int) (a0_15 : Int) (a0_16 : Int) (a0_17 : Int) (a0_18 : Int) (a0_19 : Int) : Option (Bool) := (hutchref11_May.f a0_0 a0_1 a0_2 a0_3).bind fun t150 => (if t150 = true then (if a0_0 = 3 then (if a0_4 = 0 then (if a0_8 = 0 then (if a0_9 = 0 then (if (l0_6.length : Int) > 0 then (hutchref16_Right.j0 k true a0_0 a0_1 a0_2 a0_3 a0_4 l0_5 l0_6 l0_7 a0_8 a0_9 a0_10 a0_11 a0_12 a0_13 a0_14 a0_15 a0_16 a0_17 a0_18 a0_19) else (if (l0_7.length : Int) > 0 then (hutchref16_Right.j0 k true a0_0 a0_1 a0_2 a0_3 a0_4 l0_5 l0_6 l0_7 a0_8 a0_9 a0_10 a0_11 a0_12 a0_13 a0_14 a0_15 a0_16 a0_17 a0_18 a0_19) else (hutchref16_Right.j0 k (decide ((l0_5.length : Int) > a0_1)) a0_0 a0_1 a0_2 a0_3 a0_4 l0_5 l0_6 l0_7 a0_8 a0_9 a0_10 a0_11 a0_12 a0_13 a0_14 a0_15 a0_16 a0_17 a0_18 a0_19))) else (hutchref16_Right.j0 k true a0_0 a0_1 a0_2 a0_3 a0_4 l0_5 l0_6 l0_7 a0_8 a0_9 a0_10 a0_11 a0_12 a0_13 a0_14 a0_15 a0_16 a0_17 a0_18 a0_19)) else (hutchref16_Right.j0 k true a0_0 a0_1 a0_2 a0_3 a0_4 l0_5 l0_6 l0_7 a0_8 a0_9 a0_10 a0_11 a0_12 a0_13 a0_14 a0_15 a0_16 a0_17 a0_18 a0_19)) else (hutchref16_Right.j0 k true a0_0 a0_1 a0_2 a0_3 a0_4 l0_5 l0_6 l0_7 a0_8 a0_9 a0_10 a0_11 a0_12 a0_13 a0_14 a0_15 a0_16 a0_17 a0_18 a0_19)) else (hutchref16_Right.j0 k true a0_0 a0_1 a0_2 a0_3 a0_4 l0_5 l0_6 l0_7 a0_8 a0_9 a0_10 a0_11 a0_12 a0_13 a0_14 a0_15 a0_16 a0_17 a0_18 a0_19)) else (hutchref16_Right.j0 k true a0_0 a0_1 a0_2 a0_3 a0_4 l0_5 l0_6 l0_7 a0_8 a0_9 a0_10 a0_11 a0_12 a0_13 a0_14 a0_15 a0_16 a0_17 a0_18 a0_19))
theorem hutchref16_Right.mono_l : ∀ k, (∀ y0 y1 y2 y3 y4 y5 y6 y7 y8 y9 y10 y11 y12 y13 y14 y15 y16 y17 y18 y19 y20, LeO (hutchref16_Right.j0 k y0 y1 y2 y3 y4 y5 y6 y7 y8 y9 y10 y11 y12 y13 y14 y15 y16 y17 y18 y19 y20) (hutchref16_Right.j0 (k + 1) y0 y1 y2 y3 y4 y5 y6 y7 y8 y9 y10 y11 y12 y13 y14 y15 y16 y17 y18 y19 y20)) ∧ (∀ y0 y1 y2 y3 y4 y5 y6 y7 y8 y9 y10 y11 y12 y13 y14 y15 y16 y17 y18 y19 y20, LeO (hutchref16_Right.l0 k y0 y1 y2 y3 y4 y5 y6 y7 y8 y9 y10 y11 y12 y13 y14 y15 y16 y17 y18 y19 y20) (hutchref16_Right.l0 (k + 1) y0 y1 y2 y3 y4 y5 y6 y7 y8 y9 y10 y11 y12 y13 y14 y15 y16 y17 y18 y19 y20))
  | 0 => ⟨fun _ _ _ _ _ _ _ _ _ _ _ _ _ _ _ _ _ _ _ _ _ r h => by simp [hutchref16_Right.j0] at h, fun _ _ _ _ _ _ _ _ _ _ _ _ _ _ _ _ _ _ _ _ _ r h => by simp [hutchref16_Right.l0] at h⟩
  | k + 1 => by
    obtain ⟨ih0, ih1⟩ := hutchref16_Right.mono_l k
    refine ⟨?_, ?_⟩
    · intro y0 y1 y2 y3 y4 y5 y6 y7 y8 y9 y10 y11 y12 y13 y14 y15 y16 y17 y18 y19 y20
      unfold hutchref16_Right.j0
      repeat' first
      | (with_reducible exact ih0 _ _ _ _ _ _ _ _ _ _ _ _ _ _ _ _ _ _ _ _ _)
      | (with_reducible exact ih1 _ _ _ _ _ _ _ _ _ _ _ _ _ _ _ _ _ _ _ _ _)
      | (with_reducible exact hutchref12_Once.mono _ _)
      | (with_reducible exact LeO.refl _)
      | (with_reducible exact LeO.none _)
      | (with_reducible refine LeO.ite ?_ ?_)
      | (with_reducible refine LeO.bind ?_ (fun _ => ?_))
      | exact ih0 _ _ _ _ _ _ _ _ _ _ _ _ _ _ _ _ _ _ _ _ _
      | exact ih1 _ _ _ _ _ _ _ _ _ _ _ _ _ _ _ _ _ _ _ _ _
      | exact hutchref12_Once.mono _ _
      | exact LeO.none _
      | refine LeO.ite ?_ ?_
      | refine LeO.bind ?_ (fun _ => ?_)
    · intro y0 y1 y2 y3 y4 y5 y6 y7 y8 y9 y10 y11 y12 y13 y14 y15 y16 y17 y18 y19 y20
      unfold hutchref16_Right.l0
      repeat' first
      | (with_reducible exact ih0 _ _ _ _ _ _ _ _ _ _ _ _ _ _ _ _ _ _ _ _ _)
      | (with_reducible exact ih1 _ _ _ _ _ _ _ _ _ _ _ _ _ _ _ _ _ _ _ _ _)
      | (with_reducible exact hutchref12_Once.mono _ _)
      | (with_reducible exact LeO.refl _)
      | (with_reducible exact LeO.none _)
      | (with_reducible refine LeO.ite ?_ ?_)
      | (with_reducible refine LeO.bind ?_ (fun _ => ?_))
      | exact ih0 _ _ _ _ _ _ _ _ _ _ _ _ _ _ _ _ _ _ _ _ _
      | exact ih1 _ _ _ _ _ _ _ _ _ _ _ _ _ _ _ _ _ _ _ _ _
      | exact hutchref12_Once.mono _ _
      | exact LeO.none _
      | refine LeO.ite ?_ ?_
      | refine LeO.bind ?_ (fun _ => ?_)
theorem hutchref16_Right.mono : ∀ a0 a1 a2 a3 a4 a5 a6 a7 a8 a9 a10 a11 a12 a13 a14 a15 a16 a17 a18 a19 k, LeO (hutchref16_Right.f k a0 a1 a2 a3 a4 a5 a6 a7 a8 a9 a10 a11 a12 a13 a14 a15 a16 a17 a18 a19) (hutchref16_Right.f (k + 1) a0 a1 a2 a3 a4 a5 a6 a7 a8 a9 a10 a11 a12 a13 a14 a15 a16 a17 a18 a19) := by
  intro a0 a1 a2 a3 a4 a5 a6 a7 a8 a9 a10 a11 a12 a13 a14 a15 a16 a17 a18 a19 k
  obtain ⟨ih0, ih1⟩ := hutchref16_Right.mono_l k
  unfold hutchref16_Right.f
  repeat' first
      | (with_reducible exact ih0 _ _ _ _ _ _ _ _ _ _ _ _ _ _ _ _ _ _ _ _ _)
      | (with_reducible exact ih1 _ _ _ _ _ _ _ _ _ _ _ _ _ _ _ _ _ _ _ _ _)
      | (with_reducible exact hutchref12_Once.mono _ _)
      | (with_reducible exact LeO.refl _)
      | (with_reducible exact LeO.none _)
      | (with_reducible refine LeO.ite ?_ ?_)
      | (with_reducible refine LeO.bind ?_ (fun _ => ?_))
      | exact ih0 _ _ _ _ _ _ _ _ _ _ _ _ _ _ _ _ _ _ _ _ _
      | exact ih1 _ _ _ _ _ _ _ _ _ _ _ _ _ _ _ _ _ _ _ _ _
      | exact hutchref12_Once.mono _ _
      | exact LeO.none _
      | refine LeO.ite ?_ ?_
      | refine LeO.bind ?_ (fun _ => ?_)
set_option maxHeartbeats 8000000 in
set_option maxRecDepth 100000 in
theorem hutchref16_Right.calls (k : Nat) (a0_0 : Int) (a0_1 : Int) (a0_2 : Int) (a0_3 : Int) (a0_4 : Int) (A0_5 : Option Addr) (c0_5 : Nat) (l0_5 : List (S42)) (A0_6 : Option Addr) (c0_6 : Nat) (l0_6 : List Int) (A0_7 : Option Addr) (c0_7 : Nat) (l0_7 : List Int) (a0_8 : Int) (a0_9 : Int) (a0_10 : Int) (a0_11 : Int) (a0_12 : Int) (a0_13 : Int) (a0_14 : Int) (a0_15 : Int) (a0_16 : Int) (a0_17 : Int) (a0_18 : Int) (a0_19 : Int) (r : Bool) (w : World) (hr0_5 : Kd.C k42 w A0_5 l0_5.length l0_5) (hc0_5 : l0_5.length ≤ c0_5) (hr0_6 : Kd.C (Kd.int .u64) w A0_6 l0_6.length l0_6) (hc0_6 : l0_6.length ≤ c0_6) (hr0_7 : Kd.C (Kd.int .u64) w A0_7 l0_7.length l0_7) (hc0_7 : l0_7.length ≤ c0_7) (h : hutchref16_Right.f k a0_0 a0_1 a0_2 a0_3 a0_4 l0_5 l0_6 l0_7 a0_8 a0_9 a0_10 a0_11 a0_12 a0_13 a0_14 a0_15 a0_16 a0_17 a0_18 a0_19 = some r) :
    Calls Try.prog 17 #[.agg #[.int .i64 a0_0, .int .i64 a0_1, .int .i64 a0_2, .int .i64 a0_3, .int .i64 a0_4, .slice A0_5 l0_5.length c0_5, .slice A0_6 l0_6.length c0_6, .slice A0_7 l0_7.length c0_7, .int .i64 a0_8, .int .i64 a0_9, .int .u64 a0_10, .int .u64 a0_11, .int .u64 a0_12, .int .u64 a0_13, .int .u64 a0_14, .int .u64 a0_15, .int .u64 a0_16, .int .u64 a0_17, .int .u64 a0_18, .int .u64 a0_19]] w fun e w' => e = .returned (.bool r) ∧ Below w.heap.size w w' := by
  have hu38 := Try.underlying38
  have hu25 := Try.underlying25
  have hu42 := Try.underlying42
  have HR0_5 := Aside0.mk hr0_5
  have HC0_5 := Aside0.mk hc0_5
  clear hr0_5 hc0_5
  have HR0_6 := Aside0.mk hr0_6
  have HC0_6 := Aside0.mk hc0_6
  clear hr0_6 hc0_6
  have HR0_7 := Aside0.mk hr0_7
  have HC0_7 := Aside0.mk hc0_7
  clear hr0_7 hc0_7
  have HB := Aside0.mk (Below.refl w.heap.size w)
  have H : ((hutchref11_May.f a0_0 a0_1 a0_2 a0_3).bind fun t150 => (if t150 = true then (if a0_0 = 3 then (if a0_4 = 0 then (if a0_8 = 0 then (if a0_9 = 0 then (if (l0_6.length : Int) > 0 then (hutchref16_Right.j0 k true a0_0 a0_1 a0_2 a0_3 a0_4 l0_5 l0_6 l0_7 a0_8 a0_9 a0_10 a0_11 a0_12 a0_13 a0_14 a0_15 a0_16 a0_17 a0_18 a0_19) else (if (l0_7.length : Int) > 0 then (hutchref16_Right.j0 k true a0_0 a0_1 a0_2 a0_3 a0_4 l0_5 l0_6 l0_7 a0_8 a0_9 a0_10 a0_11 a0_12 a0_13 a0_14 a0_15 a0_16 a0_17 a0_18 a0_19) else (hutchref16_Right.j0 k (decide ((l0_5.length : Int) > a0_1)) a0_0 a0_1 a0_2 a0_3 a0_4 l0_5 l0_6 l0_7 a0_8 a0_9 a0_10 a0_11 a0_12 a0_13 a0_14 a0_15 a0_16 a0_17 a0_18 a0_19))) else (hutchref16_Right.j0 k true a0_0 a0_1 a0_2 a0_3 a0_4 l0_5 l0_6 l0_7 a0_8 a0_9 a0_10 a0_11 a0_12 a0_13 a0_14 a0_15 a0_16 a0_17 a0_18 a0_19)) else (hutchref16_Right.j0 k true a0_0 a0_1 a0_2 a0_3 a0_4 l0_5 l0_6 l0_7 a0_8 a0_9 a0_10 a0_11 a0_12 a0_13 a0_14 a0_15 a0_16 a0_17 a0_18 a0_19)) else (hutchref16_Right.j0 k true a0_0 a0_1 a0_2 a0_3 a0_4 l0_5 l0_6 l0_7 a0_8 a0_9 a0_10 a0_11 a0_12 a0_13 a0_14 a0_15 a0_16 a0_17 a0_18 a0_19)) else (hutchref16_Right.j0 k true a0_0 a0_1 a0_2 a0_3 a0_4 l0_5 l0_6 l0_7 a0_8 a0_9 a0_10 a0_11 a0_12 a0_13 a0_14 a0_15 a0_16 a0_17 a0_18 a0_19)) else (hutchref16_Right.j0 k true a0_0 a0_1 a0_2 a0_3 a0_4 l0_5 l0_6 l0_7 a0_8 a0_9 a0_10 a0_11 a0_12 a0_13 a0_14 a0_15 a0_16 a0_17 a0_18 a0_19))) = some r := h
  clear h
  have HC2 := Aside0.mk H
  clear H
  go_enter Try.func17, Try.ntmps17
  go_upto_region 1 with (first | ((with_reducible refine gate_dst (N := 1) rfl ?_); (try (refine gate_guard (by rfl) ?_; dsimp only)); refine box_event ?hg (N := 1) ?hd (cs := #[.int .i64 a0_0, .int .i64 a0_1, .int .i64 a0_2, .int .i64 a0_3, .int .i64 a0_4, .slice A0_5 l0_5.length c0_5, .slice A0_6 l0_6.length c0_6, .slice A0_7 l0_7.length c0_7, .int .i64 a0_8, .int .i64 a0_9, .int .u64 a0_10, .int .u64 a0_11, .int .u64 a0_12, .int .u64 a0_13, .int .u64 a0_14, .int .u64 a0_15, .int .u64 a0_16, .int .u64 a0_17, .int .u64 a0_18, .int .u64 a0_19]) (t := 38) ?hr ?_; (case hd => rfl); (case hg => rfl); (case hr => first | (go_simp; done) | (go_simp; rfl)); intro gb149 hg w3 hbox hb; have n0_ := Aside0.mk (below_step (by repeat (first | (with_reducible first | exact HB.out | apply below_alloc | apply pw_below_drewN | apply below_drew1) | exact HB.out)) hb); have n1_ := Aside0.mk (hbox); have n2_ := Aside0.mk ((by rw [hg]; exact (below_size (by repeat (first | (with_reducible first | exact HB.out | apply below_alloc | apply pw_below_drewN | apply below_drew1) | exact HB.out))) : w.heap.size ≤ gb149)); have n3_ := Aside0.mk ((by rw [hg]; exact (below_size (by repeat (first | (with_reducible first | exact HB.out | apply below_alloc | apply pw_below_drewN | apply below_drew1) | exact HB.out))) : w.heap.size ≤ gb149)); clear HB; have HB := n0_; have BK149 := n1_; have GW149 := n2_; have GE149 := n3_; clear n0_ n1_ n2_ n3_; clear hb hbox hg))
  (try simp only [Act.put, List.setIfInBounds_toArray, List.set_cons_zero, List.set_cons_succ])
  go_cut [50] (fun v50 wc => ∃ (kq : Nat) (x50_1 : Bool), v50 = .bool x50_1 ∧ Aside0 (hutchref16_Right.j0 kq x50_1 a0_0 a0_1 a0_2 a0_3 a0_4 l0_5 l0_6 l0_7 a0_8 a0_9 a0_10 a0_11 a0_12 a0_13 a0_14 a0_15 a0_16 a0_17 a0_18 a0_19 = some r) ∧ Aside0 (kq ≤ k) ∧ Aside0 (wc.heap[gb149]? = some (.cells #[.int .i64 a0_0, .int .i64 a0_1, .int .i64 a0_2, .int .i64 a0_3, .int .i64 a0_4, (.slice A0_5 l0_5.length c0_5), (.slice A0_6 l0_6.length c0_6), (.slice A0_7 l0_7.length c0_7), .int .i64 a0_8, .int .i64 a0_9, .int .u64 a0_10, .int .u64 a0_11, .int .u64 a0_12, .int .u64 a0_13, .int .u64 a0_14, .int .u64 a0_15, .int .u64 a0_16, .int .u64 a0_17, .int .u64 a0_18, .int .u64 a0_19] 38 (0, 0))) ∧ Aside0 (Below w.heap.size w wc))
  case first =>
    have H := HC2.out
    clear HC2
    replace H := Option.bind_eq_some_iff.mp H
    obtain ⟨t150, A40, H⟩ := H
    replace H : (if t150 = true then (if a0_0 = 3 then (if a0_4 = 0 then (if a0_8 = 0 then (if a0_9 = 0 then (if (l0_6.length : Int) > 0 then (hutchref16_Right.j0 k true a0_0 a0_1 a0_2 a0_3 a0_4 l0_5 l0_6 l0_7 a0_8 a0_9 a0_10 a0_11 a0_12 a0_13 a0_14 a0_15 a0_16 a0_17 a0_18 a0_19) else (if (l0_7.length : Int) > 0 then (hutchref16_Right.j0 k true a0_0 a0_1 a0_2 a0_3 a0_4 l0_5 l0_6 l0_7 a0_8 a0_9 a0_10 a0_11 a0_12 a0_13 a0_14 a0_15 a0_16 a0_17 a0_18 a0_19) else (hutchref16_Right.j0 k (decide ((l0_5.length : Int) > a0_1)) a0_0 a0_1 a0_2 a0_3 a0_4 l0_5 l0_6 l0_7 a0_8 a0_9 a0_10 a0_11 a0_12 a0_13 a0_14 a0_15 a0_16 a0_17 a0_18 a0_19))) else (hutchref16_Right.j0 k true a0_0 a0_1 a0_2 a0_3 a0_4 l0_5 l0_6 l0_7 a0_8 a0_9 a0_10 a0_11 a0_12 a0_13 a0_14 a0_15 a0_16 a0_17 a0_18 a0_19)) else (hutchref16_Right.j0 k true a0_0 a0_1 a0_2 a0_3 a0_4 l0_5 l0_6 l0_7 a0_8 a0_9 a0_10 a0_11 a0_12 a0_13 a0_14 a0_15 a0_16 a0_17 a0_18 a0_19)) else (hutchref16_Right.j0 k true a0_0 a0_1 a0_2 a0_3 a0_4 l0_5 l0_6 l0_7 a0_8 a0_9 a0_10 a0_11 a0_12 a0_13 a0_14 a0_15 a0_16 a0_17 a0_18 a0_19)) else (hutchref16_Right.j0 k true a0_0 a0_1 a0_2 a0_3 a0_4 l0_5 l0_6 l0_7 a0_8 a0_9 a0_10 a0_11 a0_12 a0_13 a0_14 a0_15 a0_16 a0_17 a0_18 a0_19)) else (hutchref16_Right.j0 k true a0_0 a0_1 a0_2 a0_3 a0_4 l0_5 l0_6 l0_7 a0_8 a0_9 a0_10 a0_11 a0_12 a0_13 a0_14 a0_15 a0_16 a0_17 a0_18 a0_19)) = some r := H
    have A4 := Aside0.mk A40
    clear A40
    by_cases c5 : t150 = true
    · subst c5
      have H1 : (if a0_0 = 3 then (if a0_4 = 0 then (if a0_8 = 0 then (if a0_9 = 0 then (if (l0_6.length : Int) > 0 then (hutchref16_Right.j0 k true a0_0 a0_1 a0_2 a0_3 a0_4 l0_5 l0_6 l0_7 a0_8 a0_9 a0_10 a0_11 a0_12 a0_13 a0_14 a0_15 a0_16 a0_17 a0_18 a0_19) else (if (l0_7.length : Int) > 0 then (hutchref16_Right.j0 k true a0_0 a0_1 a0_2 a0_3 a0_4 l0_5 l0_6 l0_7 a0_8 a0_9 a0_10 a0_11 a0_12 a0_13 a0_14 a0_15 a0_16 a0_17 a0_18 a0_19) else (hutchref16_Right.j0 k (decide ((l0_5.length : Int) > a0_1)) a0_0 a0_1 a0_2 a0_3 a0_4 l0_5 l0_6 l0_7 a0_8 a0_9 a0_10 a0_11 a0_12 a0_13 a0_14 a0_15 a0_16 a0_17 a0_18 a0_19))) else (hutchref16_Right.j0 k true a0_0 a0_1 a0_2 a0_3 a0_4 l0_5 l0_6 l0_7 a0_8 a0_9 a0_10 a0_11 a0_12 a0_13 a0_14 a0_15 a0_16 a0_17 a0_18 a0_19)) else (hutchref16_Right.j0 k true a0_0 a0_1 a0_2 a0_3 a0_4 l0_5 l0_6 l0_7 a0_8 a0_9 a0_10 a0_11 a0_12 a0_13 a0_14 a0_15 a0_16 a0_17 a0_18 a0_19)) else (hutchref16_Right.j0 k true a0_0 a0_1 a0_2 a0_3 a0_4 l0_5 l0_6 l0_7 a0_8 a0_9 a0_10 a0_11 a0_12 a0_13 a0_14 a0_15 a0_16 a0_17 a0_18 a0_19)) else (hutchref16_Right.j0 k true a0_0 a0_1 a0_2 a0_3 a0_4 l0_5 l0_6 l0_7 a0_8 a0_9 a0_10 a0_11 a0_12 a0_13 a0_14 a0_15 a0_16 a0_17 a0_18 a0_19)) = some r := by rw [if_pos rfl] at H; exact H
      clear H
      have H := H1
      clear H1
      by_cases c6 : a0_0 = 3
      · rw [if_pos c6] at H
        have c6b0 : (a0_0 == 3) = true := beq_iff_eq.mpr c6
        have c6b1 : (a0_0 != 3) = false := bne_eq_false_iff_eq.mpr c6
        clear c6
        (first | rw [c6b0] | (simp only [i64_w, i32_w]; rw [c6b0]) | skip)
        by_cases c7 : a0_4 = 0
        · rw [if_pos c7] at H
          have c7b0 : (a0_4 == 0) = true := beq_iff_eq.mpr c7
          have c7b1 : (a0_4 != 0) = false := bne_eq_false_iff_eq.mpr c7
          clear c7
          by_cases c8 : a0_8 = 0
          · rw [if_pos c8] at H
            have c8b0 : (a0_8 == 0) = true := beq_iff_eq.mpr c8
            have c8b1 : (a0_8 != 0) = false := bne_eq_false_iff_eq.mpr c8
            clear c8
            by_cases c9 : a0_9 = 0
            · rw [if_pos c9] at H
              have c9b0 : (a0_9 == 0) = true := beq_iff_eq.mpr c9
              have c9b1 : (a0_9 != 0) = false := bne_eq_false_iff_eq.mpr c9
              clear c9
              by_cases c10 : (l0_6.length : Int) > 0
              · rw [if_pos c10] at H
                have c10b0 : decide (0 < (l0_6.length : Int)) = true := decide_eq_true c10
                have c10b1 : decide (0 < l0_6.length) = true := decide_eq_true (by omega)
                clear c10
                have H' := Aside0.mk H
                clear H
                have hcz11_0 : w3.cell? ⟨gb149, 0, none⟩ = some (.int .i64 a0_0) := (blk_cell BK149.out 0).trans rfl
                have hcz11_1 : w3.cell? ⟨gb149, 1, none⟩ = some (.int .i64 a0_1) := (blk_cell BK149.out 1).trans rfl
                have hcz11_2 : w3.cell? ⟨gb149, 2, none⟩ = some (.int .i64 a0_2) := (blk_cell BK149.out 2).trans rfl
                have hcz11_3 : w3.cell? ⟨gb149, 3, none⟩ = some (.int .i64 a0_3) := (blk_cell BK149.out 3).trans rfl
                have hcz11_4 : w3.cell? ⟨gb149, 4, none⟩ = some (.int .i64 a0_4) := (blk_cell BK149.out 4).trans rfl
                have hcz11_5 : w3.cell? ⟨gb149, 5, none⟩ = some (.slice A0_5 l0_5.length c0_5) := (blk_cell BK149.out 5).trans rfl
                have hcz11_6 : w3.cell? ⟨gb149, 6, none⟩ = some (.slice A0_6 l0_6.length c0_6) := (blk_cell BK149.out 6).trans rfl
                have hcz11_7 : w3.cell? ⟨gb149, 7, none⟩ = some (.slice A0_7 l0_7.length c0_7) := (blk_cell BK149.out 7).trans rfl
                have hcz11_8 : w3.cell? ⟨gb149, 8, none⟩ = some (.int .i64 a0_8) := (blk_cell BK149.out 8).trans rfl
                have hcz11_9 : w3.cell? ⟨gb149, 9, none⟩ = some (.int .i64 a0_9) := (blk_cell BK149.out 9).trans rfl
                have hcz11_10 : w3.cell? ⟨gb149, 10, none⟩ = some (.int .u64 a0_10) := (blk_cell BK149.out 10).trans rfl
                have hcz11_11 : w3.cell? ⟨gb149, 11, none⟩ = some (.int .u64 a0_11) := (blk_cell BK149.out 11).trans rfl
                have hcz11_12 : w3.cell? ⟨gb149, 12, none⟩ = some (.int .u64 a0_12) := (blk_cell BK149.out 12).trans rfl
                have hcz11_13 : w3.cell? ⟨gb149, 13, none⟩ = some (.int .u64 a0_13) := (blk_cell BK149.out 13).trans rfl
                have hcz11_14 : w3.cell? ⟨gb149, 14, none⟩ = some (.int .u64 a0_14) := (blk_cell BK149.out 14).trans rfl
                have hcz11_15 : w3.cell? ⟨gb149, 15, none⟩ = some (.int .u64 a0_15) := (blk_cell BK149.out 15).trans rfl
                have hcz11_16 : w3.cell? ⟨gb149, 16, none⟩ = some (.int .u64 a0_16) := (blk_cell BK149.out 16).trans rfl
                have hcz11_17 : w3.cell? ⟨gb149, 17, none⟩ = some (.int .u64 a0_17) := (blk_cell BK149.out 17).trans rfl
                have hcz11_18 : w3.cell? ⟨gb149, 18, none⟩ = some (.int .u64 a0_18) := (blk_cell BK149.out 18).trans rfl
                have hcz11_19 : w3.cell? ⟨gb149, 19, none⟩ = some (.int .u64 a0_19) := (blk_cell BK149.out 19).trans rfl
                have hfz11_0 := blk_frozen BK149.out 0
                have hfz11_1 := blk_frozen BK149.out 1
                have hfz11_2 := blk_frozen BK149.out 2
                have hfz11_3 := blk_frozen BK149.out 3
                have hfz11_4 := blk_frozen BK149.out 4
                have hfz11_5 := blk_frozen BK149.out 5
                have hfz11_6 := blk_frozen BK149.out 6
                have hfz11_7 := blk_frozen BK149.out 7
                have hfz11_8 := blk_frozen BK149.out 8
                have hfz11_9 := blk_frozen BK149.out 9
                have hfz11_10 := blk_frozen BK149.out 10
                have hfz11_11 := blk_frozen BK149.out 11
                have hfz11_12 := blk_frozen BK149.out 12
                have hfz11_13 := blk_frozen BK149.out 13
                have hfz11_14 := blk_frozen BK149.out 14
                have hfz11_15 := blk_frozen BK149.out 15
                have hfz11_16 := blk_frozen BK149.out 16
                have hfz11_17 := blk_frozen BK149.out 17
                have hfz11_18 := blk_frozen BK149.out 18
                have hfz11_19 := blk_frozen BK149.out 19
                go_wp2_with (first | ((with_reducible refine gate_callee (f := 39) rfl ?_); refine goesL_ (some 7) rfl rfl Try.func39 (by kernel_rfl) rfl #[.agg #[.int .i64 a0_0, .int .i64 a0_1, .int .i64 a0_2, .int .i64 a0_3]] rfl (by (try simp only [List.map_toArray, List.map_cons, List.map_nil]); first | done | rfl | (simp only [List.length_drop, List.length_take]; rfl)) ?_; (with_reducible refine (hutchref11_May.calls a0_0 a0_1 a0_2 a0_3 true _ A4.out).mono ?_); rintro e w12 ⟨rfl, hb⟩; refine ⟨_, rfl, ?_⟩; have n0_ := Aside0.mk (blk_below (g := gb149) (o := .cells #[.int .i64 a0_0, .int .i64 a0_1, .int .i64 a0_2, .int .i64 a0_3, .int .i64 a0_4, .slice A0_5 l0_5.length c0_5, .slice A0_6 l0_6.length c0_6, .slice A0_7 l0_7.length c0_7, .int .i64 a0_8, .int .i64 a0_9, .int .u64 a0_10, .int .u64 a0_11, .int .u64 a0_12, .int .u64 a0_13, .int .u64 a0_14, .int .u64 a0_15, .int .u64 a0_16, .int .u64 a0_17, .int .u64 a0_18, .int .u64 a0_19] 38 (0, 0)) (by (with_reducible repeat (first | refine blk_drewN ?_ _ | refine blk_drew ?_ | refine blk_alloc ?_ _)); exact BK149.out) hb); have n1_ := Aside0.mk (below_step (by repeat (first | (with_reducible first | exact HB.out | apply below_alloc | apply pw_below_drewN | apply below_drew1 | refine below_set ?_ GE149.out) | exact HB.out)) hb); clear BK149; clear HB; have BK149 := n0_; have HB := n1_; clear n0_ n1_; (try clear hb); (try clear hb2); (try clear hk); (try clear hi); have hcz13_0 : w12.cell? ⟨gb149, 0, none⟩ = some (.int .i64 a0_0) := (blk_cell BK149.out 0).trans rfl; have hcz13_1 : w12.cell? ⟨gb149, 1, none⟩ = some (.int .i64 a0_1) := (blk_cell BK149.out 1).trans rfl; have hcz13_2 : w12.cell? ⟨gb149, 2, none⟩ = some (.int .i64 a0_2) := (blk_cell BK149.out 2).trans rfl; have hcz13_3 : w12.cell? ⟨gb149, 3, none⟩ = some (.int .i64 a0_3) := (blk_cell BK149.out 3).trans rfl; have hcz13_4 : w12.cell? ⟨gb149, 4, none⟩ = some (.int .i64 a0_4) := (blk_cell BK149.out 4).trans rfl; have hcz13_5 : w12.cell? ⟨gb149, 5, none⟩ = some (.slice A0_5 l0_5.length c0_5) := (blk_cell BK149.out 5).trans rfl; have hcz13_6 : w12.cell? ⟨gb149, 6, none⟩ = some (.slice A0_6 l0_6.length c0_6) := (blk_cell BK149.out 6).trans rfl; have hcz13_7 : w12.cell? ⟨gb149, 7, none⟩ = some (.slice A0_7 l0_7.length c0_7) := (blk_cell BK149.out 7).trans rfl; have hcz13_8 : w12.cell? ⟨gb149, 8, none⟩ = some (.int .i64 a0_8) := (blk_cell BK149.out 8).trans rfl; have hcz13_9 : w12.cell? ⟨gb149, 9, none⟩ = some (.int .i64 a0_9) := (blk_cell BK149.out 9).trans rfl; have hcz13_10 : w12.cell? ⟨gb149, 10, none⟩ = some (.int .u64 a0_10) := (blk_cell BK149.out 10).trans rfl; have hcz13_11 : w12.cell? ⟨gb149, 11, none⟩ = some (.int .u64 a0_11) := (blk_cell BK149.out 11).trans rfl; have hcz13_12 : w12.cell? ⟨gb149, 12, none⟩ = some (.int .u64 a0_12) := (blk_cell BK149.out 12).trans rfl; have hcz13_13 : w12.cell? ⟨gb149, 13, none⟩ = some (.int .u64 a0_13) := (blk_cell BK149.out 13).trans rfl; have hcz13_14 : w12.cell? ⟨gb149, 14, none⟩ = some (.int .u64 a0_14) := (blk_cell BK149.out 14).trans rfl; have hcz13_15 : w12.cell? ⟨gb149, 15, none⟩ = some (.int .u64 a0_15) := (blk_cell BK149.out 15).trans rfl; have hcz13_16 : w12.cell? ⟨gb149, 16, none⟩ = some (.int .u64 a0_16) := (blk_cell BK149.out 16).trans rfl; have hcz13_17 : w12.cell? ⟨gb149, 17, none⟩ = some (.int .u64 a0_17) := (blk_cell BK149.out 17).trans rfl; have hcz13_18 : w12.cell? ⟨gb149, 18, none⟩ = some (.int .u64 a0_18) := (blk_cell BK149.out 18).trans rfl; have hcz13_19 : w12.cell? ⟨gb149, 19, none⟩ = some (.int .u64 a0_19) := (blk_cell BK149.out 19).trans rfl; have hfz13_0 := blk_frozen BK149.out 0; have hfz13_1 := blk_frozen BK149.out 1; have hfz13_2 := blk_frozen BK149.out 2; have hfz13_3 := blk_frozen BK149.out 3; have hfz13_4 := blk_frozen BK149.out 4; have hfz13_5 := blk_frozen BK149.out 5; have hfz13_6 := blk_frozen BK149.out 6; have hfz13_7 := blk_frozen BK149.out 7; have hfz13_8 := blk_frozen BK149.out 8; have hfz13_9 := blk_frozen BK149.out 9; have hfz13_10 := blk_frozen BK149.out 10; have hfz13_11 := blk_frozen BK149.out 11; have hfz13_12 := blk_frozen BK149.out 12; have hfz13_13 := blk_frozen BK149.out 13; have hfz13_14 := blk_frozen BK149.out 14; have hfz13_15 := blk_frozen BK149.out 15; have hfz13_16 := blk_frozen BK149.out 16; have hfz13_17 := blk_frozen BK149.out 17; have hfz13_18 := blk_frozen BK149.out 18; have hfz13_19 := blk_frozen BK149.out 19))
                go_meet
                case rel => exact ⟨_, (true), (by first | rfl | (simp; done) | (simp [*]; done)), H', ⟨by first | omega | exact Nat.le_refl _⟩, ⟨by (with_reducible repeat (first | refine blk_drewN ?_ _ | refine blk_drew ?_ | refine blk_alloc ?_ _)); exact BK149.out⟩, ⟨by repeat (first | (with_reducible first | exact HB.out | apply below_alloc | apply pw_below_drewN | apply below_drew1 | refine below_set ?_ GE149.out) | exact HB.out)⟩⟩
              · rw [if_neg c10] at H
                have c10b0 : decide (0 < (l0_6.length : Int)) = false := decide_eq_false c10
                have c10b1 : decide (0 < l0_6.length) = false := decide_eq_false (by omega)
                clear c10
                by_cases c14 : (l0_7.length : Int) > 0
                · rw [if_pos c14] at H
                  have c14b0 : decide (0 < (l0_7.length : Int)) = true := decide_eq_true c14
                  have c14b1 : decide (0 < l0_7.length) = true := decide_eq_true (by omega)
                  clear c14
                  have H' := Aside0.mk H
                  clear H
                  have hcz15_0 : w3.cell? ⟨gb149, 0, none⟩ = some (.int .i64 a0_0) := (blk_cell BK149.out 0).trans rfl
                  have hcz15_1 : w3.cell? ⟨gb149, 1, none⟩ = some (.int .i64 a0_1) := (blk_cell BK149.out 1).trans rfl
                  have hcz15_2 : w3.cell? ⟨gb149, 2, none⟩ = some (.int .i64 a0_2) := (blk_cell BK149.out 2).trans rfl
                  have hcz15_3 : w3.cell? ⟨gb149, 3, none⟩ = some (.int .i64 a0_3) := (blk_cell BK149.out 3).trans rfl
                  have hcz15_4 : w3.cell? ⟨gb149, 4, none⟩ = some (.int .i64 a0_4) := (blk_cell BK149.out 4).trans rfl
                  have hcz15_5 : w3.cell? ⟨gb149, 5, none⟩ = some (.slice A0_5 l0_5.length c0_5) := (blk_cell BK149.out 5).trans rfl
                  have hcz15_6 : w3.cell? ⟨gb149, 6, none⟩ = some (.slice A0_6 l0_6.length c0_6) := (blk_cell BK149.out 6).trans rfl
                  have hcz15_7 : w3.cell? ⟨gb149, 7, none⟩ = some (.slice A0_7 l0_7.length c0_7) := (blk_cell BK149.out 7).trans rfl
                  have hcz15_8 : w3.cell? ⟨gb149, 8, none⟩ = some (.int .i64 a0_8) := (blk_cell BK149.out 8).trans rfl
                  have hcz15_9 : w3.cell? ⟨gb149, 9, none⟩ = some (.int .i64 a0_9) := (blk_cell BK149.out 9).trans rfl
                  have hcz15_10 : w3.cell? ⟨gb149, 10, none⟩ = some (.int .u64 a0_10) := (blk_cell BK149.out 10).trans rfl
                  have hcz15_11 : w3.cell? ⟨gb149, 11, none⟩ = some (.int .u64 a0_11) := (blk_cell BK149.out 11).trans rfl
                  have hcz15_12 : w3.cell? ⟨gb149, 12, none⟩ = some (.int .u64 a0_12) := (blk_cell BK149.out 12).trans rfl
                  have hcz15_13 : w3.cell? ⟨gb149, 13, none⟩ = some (.int .u64 a0_13) := (blk_cell BK149.out 13).trans rfl
                  have hcz15_14 : w3.cell? ⟨gb149, 14, none⟩ = some (.int .u64 a0_14) := (blk_cell BK149.out 14).trans rfl
                  have hcz15_15 : w3.cell? ⟨gb149, 15, none⟩ = some (.int .u64 a0_15) := (blk_cell BK149.out 15).trans rfl
                  have hcz15_16 : w3.cell? ⟨gb149, 16, none⟩ = some (.int .u64 a0_16) := (blk_cell BK149.out 16).trans rfl
                  have hcz15_17 : w3.cell? ⟨gb149, 17, none⟩ = some (.int .u64 a0_17) := (blk_cell BK149.out 17).trans rfl
                  have hcz15_18 : w3.cell? ⟨gb149, 18, none⟩ = some (.int .u64 a0_18) := (blk_cell BK149.out 18).trans rfl
                  have hcz15_19 : w3.cell? ⟨gb149, 19, none⟩ = some (.int .u64 a0_19) := (blk_cell BK149.out 19).trans rfl
                  have hfz15_0 := blk_frozen BK149.out 0
                  have hfz15_1 := blk_frozen BK149.out 1
                  have hfz15_2 := blk_frozen BK149.out 2
                  have hfz15_3 := blk_frozen BK149.out 3
                  have hfz15_4 := blk_frozen BK149.out 4
                  have hfz15_5 := blk_frozen BK149.out 5
                  have hfz15_6 := blk_frozen BK149.out 6
                  have hfz15_7 := blk_frozen BK149.out 7
                  have hfz15_8 := blk_frozen BK149.out 8
                  have hfz15_9 := blk_frozen BK149.out 9
                  have hfz15_10 := blk_frozen BK149.out 10
                  have hfz15_11 := blk_frozen BK149.out 11
                  have hfz15_12 := blk_frozen BK149.out 12
                  have hfz15_13 := blk_frozen BK149.out 13
                  have hfz15_14 := blk_frozen BK149.out 14
                  have hfz15_15 := blk_frozen BK149.out 15
                  have hfz15_16 := blk_frozen BK149.out 16
                  have hfz15_17 := blk_frozen BK149.out 17
                  have hfz15_18 := blk_frozen BK149.out 18
                  have hfz15_19 := blk_frozen BK149.out 19
                  go_wp2_with (first | ((with_reducible refine gate_callee (f := 39) rfl ?_); refine goesL_ (some 7) rfl rfl Try.func39 (by kernel_rfl) rfl #[.agg #[.int .i64 a0_0, .int .i64 a0_1, .int .i64 a0_2, .int .i64 a0_3]] rfl (by (try simp only [List.map_toArray, List.map_cons, List.map_nil]); first | done | rfl | (simp only [List.length_drop, List.length_take]; rfl)) ?_; (with_reducible refine (hutchref11_May.calls a0_0 a0_1 a0_2 a0_3 true _ A4.out).mono ?_); rintro e w16 ⟨rfl, hb⟩; refine ⟨_, rfl, ?_⟩; have n0_ := Aside0.mk (blk_below (g := gb149) (o := .cells #[.int .i64 a0_0, .int .i64 a0_1, .int .i64 a0_2, .int .i64 a0_3, .int .i64 a0_4, .slice A0_5 l0_5.length c0_5, .slice A0_6 l0_6.length c0_6, .slice A0_7 l0_7.length c0_7, .int .i64 a0_8, .int .i64 a0_9, .int .u64 a0_10, .int .u64 a0_11, .int .u64 a0_12, .int .u64 a0_13, .int .u64 a0_14, .int .u64 a0_15, .int .u64 a0_16, .int .u64 a0_17, .int .u64 a0_18, .int .u64 a0_19] 38 (0, 0)) (by (with_reducible repeat (first | refine blk_drewN ?_ _ | refine blk_drew ?_ | refine blk_alloc ?_ _)); exact BK149.out) hb); have n1_ := Aside0.mk (below_step (by repeat (first | (with_reducible first | exact HB.out | apply below_alloc | apply pw_below_drewN | apply below_drew1 | refine below_set ?_ GE149.out) | exact HB.out)) hb); clear BK149; clear HB; have BK149 := n0_; have HB := n1_; clear n0_ n1_; (try clear hb); (try clear hb2); (try clear hk); (try clear hi); have hcz17_0 : w16.cell? ⟨gb149, 0, none⟩ = some (.int .i64 a0_0) := (blk_cell BK149.out 0).trans rfl; have hcz17_1 : w16.cell? ⟨gb149, 1, none⟩ = some (.int .i64 a0_1) := (blk_cell BK149.out 1).trans rfl; have hcz17_2 : w16.cell? ⟨gb149, 2, none⟩ = some (.int .i64 a0_2) := (blk_cell BK149.out 2).trans rfl; have hcz17_3 : w16.cell? ⟨gb149, 3, none⟩ = some (.int .i64 a0_3) := (blk_cell BK149.out 3).trans rfl; have hcz17_4 : w16.cell? ⟨gb149, 4, none⟩ = some (.int .i64 a0_4) := (blk_cell BK149.out 4).trans rfl; have hcz17_5 : w16.cell? ⟨gb149, 5, none⟩ = some (.slice A0_5 l0_5.length c0_5) := (blk_cell BK149.out 5).trans rfl; have hcz17_6 : w16.cell? ⟨gb149, 6, none⟩ = some (.slice A0_6 l0_6.length c0_6) := (blk_cell BK149.out 6).trans rfl; have hcz17_7 : w16.cell? ⟨gb149, 7, none⟩ = some (.slice A0_7 l0_7.length c0_7) := (blk_cell BK149.out 7).trans rfl; have hcz17_8 : w16.cell? ⟨gb149, 8, none⟩ = some (.int .i64 a0_8) := (blk_cell BK149.out 8).trans rfl; have hcz17_9 : w16.cell? ⟨gb149, 9, none⟩ = some (.int .i64 a0_9) := (blk_cell BK149.out 9).trans rfl; have hcz17_10 : w16.cell? ⟨gb149, 10, none⟩ = some (.int .u64 a0_10) := (blk_cell BK149.out 10).trans rfl; have hcz17_11 : w16.cell? ⟨gb149, 11, none⟩ = some (.int .u64 a0_11) := (blk_cell BK149.out 11).trans rfl; have hcz17_12 : w16.cell? ⟨gb149, 12, none⟩ = some (.int .u64 a0_12) := (blk_cell BK149.out 12).trans rfl; have hcz17_13 : w16.cell? ⟨gb149, 13, none⟩ = some (.int .u64 a0_13) := (blk_cell BK149.out 13).trans rfl; have hcz17_14 : w16.cell? ⟨gb149, 14, none⟩ = some (.int .u64 a0_14) := (blk_cell BK149.out 14).trans rfl; have hcz17_15 : w16.cell? ⟨gb149, 15, none⟩ = some (.int .u64 a0_15) := (blk_cell BK149.out 15).trans rfl; have hcz17_16 : w16.cell? ⟨gb149, 16, none⟩ = some (.int .u64 a0_16) := (blk_cell BK149.out 16).trans rfl; have hcz17_17 : w16.cell? ⟨gb149, 17, none⟩ = some (.int .u64 a0_17) := (blk_cell BK149.out 17).trans rfl; have hcz17_18 : w16.cell? ⟨gb149, 18, none⟩ = some (.int .u64 a0_18) := (blk_cell BK149.out 18).trans rfl; have hcz17_19 : w16.cell? ⟨gb149, 19, none⟩ = some (.int .u64 a0_19) := (blk_cell BK149.out 19).trans rfl; have hfz17_0 := blk_frozen BK149.out 0; have hfz17_1 := blk_frozen BK149.out 1; have hfz17_2 := blk_frozen BK149.out 2; have hfz17_3 := blk_frozen BK149.out 3; have hfz17_4 := blk_frozen BK149.out 4; have hfz17_5 := blk_frozen BK149.out 5; have hfz17_6 := blk_frozen BK149.out 6; have hfz17_7 := blk_frozen BK149.out 7; have hfz17_8 := blk_frozen BK149.out 8; have hfz17_9 := blk_frozen BK149.out 9; have hfz17_10 := blk_frozen BK149.out 10; have hfz17_11 := blk_frozen BK149.out 11; have hfz17_12 := blk_frozen BK149.out 12; have hfz17_13 := blk_frozen BK149.out 13; have hfz17_14 := blk_frozen BK149.out 14; have hfz17_15 := blk_frozen BK149.out 15; have hfz17_16 := blk_frozen BK149.out 16; have hfz17_17 := blk_frozen BK149.out 17; have hfz17_18 := blk_frozen BK149.out 18; have hfz17_19 := blk_frozen BK149.out 19))
                  go_meet
                  case rel => exact ⟨_, (true), (by first | rfl | (simp; done) | (simp [*]; done)), H', ⟨by first | omega | exact Nat.le_refl _⟩, ⟨by (with_reducible repeat (first | refine blk_drewN ?_ _ | refine blk_drew ?_ | refine blk_alloc ?_ _)); exact BK149.out⟩, ⟨by repeat (first | (with_reducible first | exact HB.out | apply below_alloc | apply pw_below_drewN | apply below_drew1 | refine below_set ?_ GE149.out) | exact HB.out)⟩⟩
                · rw [if_neg c14] at H
                  have c14b0 : decide (0 < (l0_7.length : Int)) = false := decide_eq_false c14
                  have c14b1 : decide (0 < l0_7.length) = false := decide_eq_false (by omega)
                  clear c14
                  have H' := Aside0.mk H
                  clear H
                  have hcz18_0 : w3.cell? ⟨gb149, 0, none⟩ = some (.int .i64 a0_0) := (blk_cell BK149.out 0).trans rfl
                  have hcz18_1 : w3.cell? ⟨gb149, 1, none⟩ = some (.int .i64 a0_1) := (blk_cell BK149.out 1).trans rfl
                  have hcz18_2 : w3.cell? ⟨gb149, 2, none⟩ = some (.int .i64 a0_2) := (blk_cell BK149.out 2).trans rfl
                  have hcz18_3 : w3.cell? ⟨gb149, 3, none⟩ = some (.int .i64 a0_3) := (blk_cell BK149.out 3).trans rfl
                  have hcz18_4 : w3.cell? ⟨gb149, 4, none⟩ = some (.int .i64 a0_4) := (blk_cell BK149.out 4).trans rfl
                  have hcz18_5 : w3.cell? ⟨gb149, 5, none⟩ = some (.slice A0_5 l0_5.length c0_5) := (blk_cell BK149.out 5).trans rfl
                  have hcz18_6 : w3.cell? ⟨gb149, 6, none⟩ = some (.slice A0_6 l0_6.length c0_6) := (blk_cell BK149.out 6).trans rfl
                  have hcz18_7 : w3.cell? ⟨gb149, 7, none⟩ = some (.slice A0_7 l0_7.length c0_7) := (blk_cell BK149.out 7).trans rfl
                  have hcz18_8 : w3.cell? ⟨gb149, 8, none⟩ = some (.int .i64 a0_8) := (blk_cell BK149.out 8).trans rfl
                  have hcz18_9 : w3.cell? ⟨gb149, 9, none⟩ = some (.int .i64 a0_9) := (blk_cell BK149.out 9).trans rfl
                  have hcz18_10 : w3.cell? ⟨gb149, 10, none⟩ = some (.int .u64 a0_10) := (blk_cell BK149.out 10).trans rfl
                  have hcz18_11 : w3.cell? ⟨gb149, 11, none⟩ = some (.int .u64 a0_11) := (blk_cell BK149.out 11).trans rfl
                  have hcz18_12 : w3.cell? ⟨gb149, 12, none⟩ = some (.int .u64 a0_12) := (blk_cell BK149.out 12).trans rfl
                  have hcz18_13 : w3.cell? ⟨gb149, 13, none⟩ = some (.int .u64 a0_13) := (blk_cell BK149.out 13).trans rfl
                  have hcz18_14 : w3.cell? ⟨gb149, 14, none⟩ = some (.int .u64 a0_14) := (blk_cell BK149.out 14).trans rfl
                  have hcz18_15 : w3.cell? ⟨gb149, 15, none⟩ = some (.int .u64 a0_15) := (blk_cell BK149.out 15).trans rfl
                  have hcz18_16 : w3.cell? ⟨gb149, 16, none⟩ = some (.int .u64 a0_16) := (blk_cell BK149.out 16).trans rfl
                  have hcz18_17 : w3.cell? ⟨gb149, 17, none⟩ = some (.int .u64 a0_17) := (blk_cell BK149.out 17).trans rfl
                  have hcz18_18 : w3.cell? ⟨gb149, 18, none⟩ = some (.int .u64 a0_18) := (blk_cell BK149.out 18).trans rfl
                  have hcz18_19 : w3.cell? ⟨gb149, 19, none⟩ = some (.int .u64 a0_19) := (blk_cell BK149.out 19).trans rfl
                  have hfz18_0 := blk_frozen BK149.out 0
                  have hfz18_1 := blk_frozen BK149.out 1
                  have hfz18_2 := blk_frozen BK149.out 2
                  have hfz18_3 := blk_frozen BK149.out 3
                  have hfz18_4 := blk_frozen BK149.out 4
                  have hfz18_5 := blk_frozen BK149.out 5
                  have hfz18_6 := blk_frozen BK149.out 6
                  have hfz18_7 := blk_frozen BK149.out 7
                  have hfz18_8 := blk_frozen BK149.out 8
                  have hfz18_9 := blk_frozen BK149.out 9
                  have hfz18_10 := blk_frozen BK149.out 10
                  have hfz18_11 := blk_frozen BK149.out 11
                  have hfz18_12 := blk_frozen BK149.out 12
                  have hfz18_13 := blk_frozen BK149.out 13
                  have hfz18_14 := blk_frozen BK149.out 14
                  have hfz18_15 := blk_frozen BK149.out 15
                  have hfz18_16 := blk_frozen BK149.out 16
                  have hfz18_17 := blk_frozen BK149.out 17
                  have hfz18_18 := blk_frozen BK149.out 18
                  have hfz18_19 := blk_frozen BK149.out 19
                  go_wp2_with (first | ((with_reducible refine gate_callee (f := 39) rfl ?_); refine goesL_ (some 7) rfl rfl Try.func39 (by kernel_rfl) rfl #[.agg #[.int .i64 a0_0, .int .i64 a0_1, .int .i64 a0_2, .int .i64 a0_3]] rfl (by (try simp only [List.map_toArray, List.map_cons, List.map_nil]); first | done | rfl | (simp only [List.length_drop, List.length_take]; rfl)) ?_; (with_reducible refine (hutchref11_May.calls a0_0 a0_1 a0_2 a0_3 true _ A4.out).mono ?_); rintro e w19 ⟨rfl, hb⟩; refine ⟨_, rfl, ?_⟩; have n0_ := Aside0.mk (blk_below (g := gb149) (o := .cells #[.int .i64 a0_0, .int .i64 a0_1, .int .i64 a0_2, .int .i64 a0_3, .int .i64 a0_4, .slice A0_5 l0_5.length c0_5, .slice A0_6 l0_6.length c0_6, .slice A0_7 l0_7.length c0_7, .int .i64 a0_8, .int .i64 a0_9, .int .u64 a0_10, .int .u64 a0_11, .int .u64 a0_12, .int .u64 a0_13, .int .u64 a0_14, .int .u64 a0_15, .int .u64 a0_16, .int .u64 a0_17, .int .u64 a0_18, .int .u64 a0_19] 38 (0, 0)) (by (with_reducible repeat (first | refine blk_drewN ?_ _ | refine blk_drew ?_ | refine blk_alloc ?_ _)); exact BK149.out) hb); have n1_ := Aside0.mk (below_step (by repeat (first | (with_reducible first | exact HB.out | apply below_alloc | apply pw_below_drewN | apply below_drew1 | refine below_set ?_ GE149.out) | exact HB.out)) hb); clear BK149; clear HB; have BK149 := n0_; have HB := n1_; clear n0_ n1_; (try clear hb); (try clear hb2); (try clear hk); (try clear hi); have hcz20_0 : w19.cell? ⟨gb149, 0, none⟩ = some (.int .i64 a0_0) := (blk_cell BK149.out 0).trans rfl; have hcz20_1 : w19.cell? ⟨gb149, 1, none⟩ = some (.int .i64 a0_1) := (blk_cell BK149.out 1).trans rfl; have hcz20_2 : w19.cell? ⟨gb149, 2, none⟩ = some (.int .i64 a0_2) := (blk_cell BK149.out 2).trans rfl; have hcz20_3 : w19.cell? ⟨gb149, 3, none⟩ = some (.int .i64 a0_3) := (blk_cell BK149.out 3).trans rfl; have hcz20_4 : w19.cell? ⟨gb149, 4, none⟩ = some (.int .i64 a0_4) := (blk_cell BK149.out 4).trans rfl; have hcz20_5 : w19.cell? ⟨gb149, 5, none⟩ = some (.slice A0_5 l0_5.length c0_5) := (blk_cell BK149.out 5).trans rfl; have hcz20_6 : w19.cell? ⟨gb149, 6, none⟩ = some (.slice A0_6 l0_6.length c0_6) := (blk_cell BK149.out 6).trans rfl; have hcz20_7 : w19.cell? ⟨gb149, 7, none⟩ = some (.slice A0_7 l0_7.length c0_7) := (blk_cell BK149.out 7).trans rfl; have hcz20_8 : w19.cell? ⟨gb149, 8, none⟩ = some (.int .i64 a0_8) := (blk_cell BK149.out 8).trans rfl; have hcz20_9 : w19.cell? ⟨gb149, 9, none⟩ = some (.int .i64 a0_9) := (blk_cell BK149.out 9).trans rfl; have hcz20_10 : w19.cell? ⟨gb149, 10, none⟩ = some (.int .u64 a0_10) := (blk_cell BK149.out 10).trans rfl; have hcz20_11 : w19.cell? ⟨gb149, 11, none⟩ = some (.int .u64 a0_11) := (blk_cell BK149.out 11).trans rfl; have hcz20_12 : w19.cell? ⟨gb149, 12, none⟩ = some (.int .u64 a0_12) := (blk_cell BK149.out 12).trans rfl; have hcz20_13 : w19.cell? ⟨gb149, 13, none⟩ = some (.int .u64 a0_13) := (blk_cell BK149.out 13).trans rfl; have hcz20_14 : w19.cell? ⟨gb149, 14, none⟩ = some (.int .u64 a0_14) := (blk_cell BK149.out 14).trans rfl; have hcz20_15 : w19.cell? ⟨gb149, 15, none⟩ = some (.int .u64 a0_15) := (blk_cell BK149.out 15).trans rfl; have hcz20_16 : w19.cell? ⟨gb149, 16, none⟩ = some (.int .u64 a0_16) := (blk_cell BK149.out 16).trans rfl; have hcz20_17 : w19.cell? ⟨gb149, 17, none⟩ = some (.int .u64 a0_17) := (blk_cell BK149.out 17).trans rfl; have hcz20_18 : w19.cell? ⟨gb149, 18, none⟩ = some (.int .u64 a0_18) := (blk_cell BK149.out 18).trans rfl; have hcz20_19 : w19.cell? ⟨gb149, 19, none⟩ = some (.int .u64 a0_19) := (blk_cell BK149.out 19).trans rfl; have hfz20_0 := blk_frozen BK149.out 0; have hfz20_1 := blk_frozen BK149.out 1; have hfz20_2 := blk_frozen BK149.out 2; have hfz20_3 := blk_frozen BK149.out 3; have hfz20_4 := blk_frozen BK149.out 4; have hfz20_5 := blk_frozen BK149.out 5; have hfz20_6 := blk_frozen BK149.out 6; have hfz20_7 := blk_frozen BK149.out 7; have hfz20_8 := blk_frozen BK149.out 8; have hfz20_9 := blk_frozen BK149.out 9; have hfz20_10 := blk_frozen BK149.out 10; have hfz20_11 := blk_frozen BK149.out 11; have hfz20_12 := blk_frozen BK149.out 12; have hfz20_13 := blk_frozen BK149.out 13; have hfz20_14 := blk_frozen BK149.out 14; have hfz20_15 := blk_frozen BK149.out 15; have hfz20_16 := blk_frozen BK149.out 16; have hfz20_17 := blk_frozen BK149.out 17; have hfz20_18 := blk_frozen BK149.out 18; have hfz20_19 := blk_frozen BK149.out 19))
                  go_meet
                  case rel => exact ⟨_, (decide ((l0_5.length : Int) > a0_1)), (by first | rfl | (simp; done) | (simp [*]; done)), H', ⟨by first | omega | exact Nat.le_refl _⟩, ⟨by (with_reducible repeat (first | refine blk_drewN ?_ _ | refine blk_drew ?_ | refine blk_alloc ?_ _)); exact BK149.out⟩, ⟨by repeat (first | (with_reducible first | exact HB.out | apply below_alloc | apply pw_below_drewN | apply below_drew1 | refine below_set ?_ GE149.out) | exact HB.out)⟩⟩
            · rw [if_neg c9] at H
              have c9b0 : (a0_9 == 0) = false := beq_eq_false_iff_ne.mpr c9
              have c9b1 : (a0_9 != 0) = true := bne_iff_ne.mpr c9
              have H' := Aside0.mk H
              clear H
              have hcz21_0 : w3.cell? ⟨gb149, 0, none⟩ = some (.int .i64 a0_0) := (blk_cell BK149.out 0).trans rfl
              have hcz21_1 : w3.cell? ⟨gb149, 1, none⟩ = some (.int .i64 a0_1) := (blk_cell BK149.out 1).trans rfl
              have hcz21_2 : w3.cell? ⟨gb149, 2, none⟩ = some (.int .i64 a0_2) := (blk_cell BK149.out 2).trans rfl
              have hcz21_3 : w3.cell? ⟨gb149, 3, none⟩ = some (.int .i64 a0_3) := (blk_cell BK149.out 3).trans rfl
              have hcz21_4 : w3.cell? ⟨gb149, 4, none⟩ = some (.int .i64 a0_4) := (blk_cell BK149.out 4).trans rfl
              have hcz21_5 : w3.cell? ⟨gb149, 5, none⟩ = some (.slice A0_5 l0_5.length c0_5) := (blk_cell BK149.out 5).trans rfl
              have hcz21_6 : w3.cell? ⟨gb149, 6, none⟩ = some (.slice A0_6 l0_6.length c0_6) := (blk_cell BK149.out 6).trans rfl
              have hcz21_7 : w3.cell? ⟨gb149, 7, none⟩ = some (.slice A0_7 l0_7.length c0_7) := (blk_cell BK149.out 7).trans rfl
              have hcz21_8 : w3.cell? ⟨gb149, 8, none⟩ = some (.int .i64 a0_8) := (blk_cell BK149.out 8).trans rfl
              have hcz21_9 : w3.cell? ⟨gb149, 9, none⟩ = some (.int .i64 a0_9) := (blk_cell BK149.out 9).trans rfl
              have hcz21_10 : w3.cell? ⟨gb149, 10, none⟩ = some (.int .u64 a0_10) := (blk_cell BK149.out 10).trans rfl
              have hcz21_11 : w3.cell? ⟨gb149, 11, none⟩ = some (.int .u64 a0_11) := (blk_cell BK149.out 11).trans rfl
              have hcz21_12 : w3.cell? ⟨gb149, 12, none⟩ = some (.int .u64 a0_12) := (blk_cell BK149.out 12).trans rfl
              have hcz21_13 : w3.cell? ⟨gb149, 13, none⟩ = some (.int .u64 a0_13) := (blk_cell BK149.out 13).trans rfl
              have hcz21_14 : w3.cell? ⟨gb149, 14, none⟩ = some (.int .u64 a0_14) := (blk_cell BK149.out 14).trans rfl
              have hcz21_15 : w3.cell? ⟨gb149, 15, none⟩ = some (.int .u64 a0_15) := (blk_cell BK149.out 15).trans rfl
              have hcz21_16 : w3.cell? ⟨gb149, 16, none⟩ = some (.int .u64 a0_16) := (blk_cell BK149.out 16).trans rfl
              have hcz21_17 : w3.cell? ⟨gb149, 17, none⟩ = some (.int .u64 a0_17) := (blk_cell BK149.out 17).trans rfl
              have hcz21_18 : w3.cell? ⟨gb149, 18, none⟩ = some (.int .u64 a0_18) := (blk_cell BK149.out 18).trans rfl
              have hcz21_19 : w3.cell? ⟨gb149, 19, none⟩ = some (.int .u64 a0_19) := (blk_cell BK149.out 19).trans rfl
              have hfz21_0 := blk_frozen BK149.out 0
              have hfz21_1 := blk_frozen BK149.out 1
              have hfz21_2 := blk_frozen BK149.out 2
              have hfz21_3 := blk_frozen BK149.out 3
              have hfz21_4 := blk_frozen BK149.out 4
              have hfz21_5 := blk_frozen BK149.out 5
              have hfz21_6 := blk_frozen BK149.out 6
              have hfz21_7 := blk_frozen BK149.out 7
              have hfz21_8 := blk_frozen BK149.out 8
              have hfz21_9 := blk_frozen BK149.out 9
              have hfz21_10 := blk_frozen BK149.out 10
              have hfz21_11 := blk_frozen BK149.out 11
              have hfz21_12 := blk_frozen BK149.out 12
              have hfz21_13 := blk_frozen BK149.out 13
              have hfz21_14 := blk_frozen BK149.out 14
              have hfz21_15 := blk_frozen BK149.out 15
              have hfz21_16 := blk_frozen BK149.out 16
              have hfz21_17 := blk_frozen BK149.out 17
              have hfz21_18 := blk_frozen BK149.out 18
              have hfz21_19 := blk_frozen BK149.out 19
              go_wp2_with (first | ((with_reducible refine gate_callee (f := 39) rfl ?_); refine goesL_ (some 7) rfl rfl Try.func39 (by kernel_rfl) rfl #[.agg #[.int .i64 a0_0, .int .i64 a0_1, .int .i64 a0_2, .int .i64 a0_3]] rfl (by (try simp only [List.map_toArray, List.map_cons, List.map_nil]); first | done | rfl | (simp only [List.length_drop, List.length_take]; rfl)) ?_; (with_reducible refine (hutchref11_May.calls a0_0 a0_1 a0_2 a0_3 true _ A4.out).mono ?_); rintro e w22 ⟨rfl, hb⟩; refine ⟨_, rfl, ?_⟩; have n0_ := Aside0.mk (blk_below (g := gb149) (o := .cells #[.int .i64 a0_0, .int .i64 a0_1, .int .i64 a0_2, .int .i64 a0_3, .int .i64 a0_4, .slice A0_5 l0_5.length c0_5, .slice A0_6 l0_6.length c0_6, .slice A0_7 l0_7.length c0_7, .int .i64 a0_8, .int .i64 a0_9, .int .u64 a0_10, .int .u64 a0_11, .int .u64 a0_12, .int .u64 a0_13, .int .u64 a0_14, .int .u64 a0_15, .int .u64 a0_16, .int .u64 a0_17, .int .u64 a0_18, .int .u64 a0_19] 38 (0, 0)) (by (with_reducible repeat (first | refine blk_drewN ?_ _ | refine blk_drew ?_ | refine blk_alloc ?_ _)); exact BK149.out) hb); have n1_ := Aside0.mk (below_step (by repeat (first | (with_reducible first | exact HB.out | apply below_alloc | apply pw_below_drewN | apply below_drew1 | refine below_set ?_ GE149.out) | exact HB.out)) hb); clear BK149; clear HB; have BK149 := n0_; have HB := n1_; clear n0_ n1_; (try clear hb); (try clear hb2); (try clear hk); (try clear hi); have hcz23_0 : w22.cell? ⟨gb149, 0, none⟩ = some (.int .i64 a0_0) := (blk_cell BK149.out 0).trans rfl; have hcz23_1 : w22.cell? ⟨gb149, 1, none⟩ = some (.int .i64 a0_1) := (blk_cell BK149.out 1).trans rfl; have hcz23_2 : w22.cell? ⟨gb149, 2, none⟩ = some (.int .i64 a0_2) := (blk_cell BK149.out 2).trans rfl; have hcz23_3 : w22.cell? ⟨gb149, 3, none⟩ = some (.int .i64 a0_3) := (blk_cell BK149.out 3).trans rfl; have hcz23_4 : w22.cell? ⟨gb149, 4, none⟩ = some (.int .i64 a0_4) := (blk_cell BK149.out 4).trans rfl; have hcz23_5 : w22.cell? ⟨gb149, 5, none⟩ = some (.slice A0_5 l0_5.length c0_5) := (blk_cell BK149.out 5).trans rfl; have hcz23_6 : w22.cell? ⟨gb149, 6, none⟩ = some (.slice A0_6 l0_6.length c0_6) := (blk_cell BK149.out 6).trans rfl; have hcz23_7 : w22.cell? ⟨gb149, 7, none⟩ = some (.slice A0_7 l0_7.length c0_7) := (blk_cell BK149.out 7).trans rfl; have hcz23_8 : w22.cell? ⟨gb149, 8, none⟩ = some (.int .i64 a0_8) := (blk_cell BK149.out 8).trans rfl; have hcz23_9 : w22.cell? ⟨gb149, 9, none⟩ = some (.int .i64 a0_9) := (blk_cell BK149.out 9).trans rfl; have hcz23_10 : w22.cell? ⟨gb149, 10, none⟩ = some (.int .u64 a0_10) := (blk_cell BK149.out 10).trans rfl; have hcz23_11 : w22.cell? ⟨gb149, 11, none⟩ = some (.int .u64 a0_11) := (blk_cell BK149.out 11).trans rfl; have hcz23_12 : w22.cell? ⟨gb149, 12, none⟩ = some (.int .u64 a0_12) := (blk_cell BK149.out 12).trans rfl; have hcz23_13 : w22.cell? ⟨gb149, 13, none⟩ = some (.int .u64 a0_13) := (blk_cell BK149.out 13).trans rfl; have hcz23_14 : w22.cell? ⟨gb149, 14, none⟩ = some (.int .u64 a0_14) := (blk_cell BK149.out 14).trans rfl; have hcz23_15 : w22.cell? ⟨gb149, 15, none⟩ = some (.int .u64 a0_15) := (blk_cell BK149.out 15).trans rfl; have hcz23_16 : w22.cell? ⟨gb149, 16, none⟩ = some (.int .u64 a0_16) := (blk_cell BK149.out 16).trans rfl; have hcz23_17 : w22.cell? ⟨gb149, 17, none⟩ = some (.int .u64 a0_17) := (blk_cell BK149.out 17).trans rfl; have hcz23_18 : w22.cell? ⟨gb149, 18, none⟩ = some (.int .u64 a0_18) := (blk_cell BK149.out 18).trans rfl; have hcz23_19 : w22.cell? ⟨gb149, 19, none⟩ = some (.int .u64 a0_19) := (blk_cell BK149.out 19).trans rfl; have hfz23_0 := blk_frozen BK149.out 0; have hfz23_1 := blk_frozen BK149.out 1; have hfz23_2 := blk_frozen BK149.out 2; have hfz23_3 := blk_frozen BK149.out 3; have hfz23_4 := blk_frozen BK149.out 4; have hfz23_5 := blk_frozen BK149.out 5; have hfz23_6 := blk_frozen BK149.out 6; have hfz23_7 := blk_frozen BK149.out 7; have hfz23_8 := blk_frozen BK149.out 8; have hfz23_9 := blk_frozen BK149.out 9; have hfz23_10 := blk_frozen BK149.out 10; have hfz23_11 := blk_frozen BK149.out 11; have hfz23_12 := blk_frozen BK149.out 12; have hfz23_13 := blk_frozen BK149.out 13; have hfz23_14 := blk_frozen BK149.out 14; have hfz23_15 := blk_frozen BK149.out 15; have hfz23_16 := blk_frozen BK149.out 16; have hfz23_17 := blk_frozen BK149.out 17; have hfz23_18 := blk_frozen BK149.out 18; have hfz23_19 := blk_frozen BK149.out 19))
              go_meet
              case rel => exact ⟨_, (true), (by first | rfl | (simp; done) | (simp [*]; done)), H', ⟨by first | omega | exact Nat.le_refl _⟩, ⟨by (with_reducible repeat (first | refine blk_drewN ?_ _ | refine blk_drew ?_ | refine blk_alloc ?_ _)); exact BK149.out⟩, ⟨by repeat (first | (with_reducible first | exact HB.out | apply below_alloc | apply pw_below_drewN | apply below_drew1 | refine below_set ?_ GE149.out) | exact HB.out)⟩⟩
          · rw [if_neg c8] at H
            have c8b0 : (a0_8 == 0) = false := beq_eq_false_iff_ne.mpr c8
            have c8b1 : (a0_8 != 0) = true := bne_iff_ne.mpr c8
            have H' := Aside0.mk H
            clear H
            have hcz24_0 : w3.cell? ⟨gb149, 0, none⟩ = some (.int .i64 a0_0) := (blk_cell BK149.out 0).trans rfl
            have hcz24_1 : w3.cell? ⟨gb149, 1, none⟩ = some (.int .i64 a0_1) := (blk_cell BK149.out 1).trans rfl
            have hcz24_2 : w3.cell? ⟨gb149, 2, none⟩ = some (.int .i64 a0_2) := (blk_cell BK149.out 2).trans rfl
            have hcz24_3 : w3.cell? ⟨gb149, 3, none⟩ = some (.int .i64 a0_3) := (blk_cell BK149.out 3).trans rfl
            have hcz24_4 : w3.cell? ⟨gb149, 4, none⟩ = some (.int .i64 a0_4) := (blk_cell BK149.out 4).trans rfl
            have hcz24_5 : w3.cell? ⟨gb149, 5, none⟩ = some (.slice A0_5 l0_5.length c0_5) := (blk_cell BK149.out 5).trans rfl
            have hcz24_6 : w3.cell? ⟨gb149, 6, none⟩ = some (.slice A0_6 l0_6.length c0_6) := (blk_cell BK149.out 6).trans rfl
            have hcz24_7 : w3.cell? ⟨gb149, 7, none⟩ = some (.slice A0_7 l0_7.length c0_7) := (blk_cell BK149.out 7).trans rfl
            have hcz24_8 : w3.cell? ⟨gb149, 8, none⟩ = some (.int .i64 a0_8) := (blk_cell BK149.out 8).trans rfl
            have hcz24_9 : w3.cell? ⟨gb149, 9, none⟩ = some (.int .i64 a0_9) := (blk_cell BK149.out 9).trans rfl
            have hcz24_10 : w3.cell? ⟨gb149, 10, none⟩ = some (.int .u64 a0_10) := (blk_cell BK149.out 10).trans rfl
            have hcz24_11 : w3.cell? ⟨gb149, 11, none⟩ = some (.int .u64 a0_11) := (blk_cell BK149.out 11).trans rfl
            have hcz24_12 : w3.cell? ⟨gb149, 12, none⟩ = some (.int .u64 a0_12) := (blk_cell BK149.out 12).trans rfl
            have hcz24_13 : w3.cell? ⟨gb149, 13, none⟩ = some (.int .u64 a0_13) := (blk_cell BK149.out 13).trans rfl
            have hcz24_14 : w3.cell? ⟨gb149, 14, none⟩ = some (.int .u64 a0_14) := (blk_cell BK149.out 14).trans rfl
            have hcz24_15 : w3.cell? ⟨gb149, 15, none⟩ = some (.int .u64 a0_15) := (blk_cell BK149.out 15).trans rfl
            have hcz24_16 : w3.cell? ⟨gb149, 16, none⟩ = some (.int .u64 a0_16) := (blk_cell BK149.out 16).trans rfl
            have hcz24_17 : w3.cell? ⟨gb149, 17, none⟩ = some (.int .u64 a0_17) := (blk_cell BK149.out 17).trans rfl
            have hcz24_18 : w3.cell? ⟨gb149, 18, none⟩ = some (.int .u64 a0_18) := (blk_cell BK149.out 18).trans rfl
            have hcz24_19 : w3.cell? ⟨gb149, 19, none⟩ = some (.int .u64 a0_19) := (blk_cell BK149.out 19).trans rfl
            have hfz24_0 := blk_frozen BK149.out 0
            have hfz24_1 := blk_frozen BK149.out 1
            have hfz24_2 := blk_frozen BK149.out 2
            have hfz24_3 := blk_frozen BK149.out 3
            have hfz24_4 := blk_frozen BK149.out 4
            have hfz24_5 := blk_frozen BK149.out 5
            have hfz24_6 := blk_frozen BK149.out 6
            have hfz24_7 := blk_frozen BK149.out 7
            have hfz24_8 := blk_frozen BK149.out 8
            have hfz24_9 := blk_frozen BK149.out 9
            have hfz24_10 := blk_frozen BK149.out 10
            have hfz24_11 := blk_frozen BK149.out 11
            have hfz24_12 := blk_frozen BK149.out 12
            have hfz24_13 := blk_frozen BK149.out 13
            have hfz24_14 := blk_frozen BK149.out 14
            have hfz24_15 := blk_frozen BK149.out 15
            have hfz24_16 := blk_frozen BK149.out 16
            have hfz24_17 := blk_frozen BK149.out 17
            have hfz24_18 := blk_frozen BK149.out 18
            have hfz24_19 := blk_frozen BK149.out 19
            go_wp2_with (first | ((with_reducible refine gate_callee (f := 39) rfl ?_); refine goesL_ (some 7) rfl rfl Try.func39 (by kernel_rfl) rfl #[.agg #[.int .i64 a0_0, .int .i64 a0_1, .int .i64 a0_2, .int .i64 a0_3]] rfl (by (try simp only [List.map_toArray, List.map_cons, List.map_nil]); first | done | rfl | (simp only [List.length_drop, List.length_take]; rfl)) ?_; (with_reducible refine (hutchref11_May.calls a0_0 a0_1 a0_2 a0_3 true _ A4.out).mono ?_); rintro e w25 ⟨rfl, hb⟩; refine ⟨_, rfl, ?_⟩; have n0_ := Aside0.mk (blk_below (g := gb149) (o := .cells #[.int .i64 a0_0, .int .i64 a0_1, .int .i64 a0_2, .int .i64 a0_3, .int .i64 a0_4, .slice A0_5 l0_5.length c0_5, .slice A0_6 l0_6.length c0_6, .slice A0_7 l0_7.length c0_7, .int .i64 a0_8, .int .i64 a0_9, .int .u64 a0_10, .int .u64 a0_11, .int .u64 a0_12, .int .u64 a0_13, .int .u64 a0_14, .int .u64 a0_15, .int .u64 a0_16, .int .u64 a0_17, .int .u64 a0_18, .int .u64 a0_19] 38 (0, 0)) (by (with_reducible repeat (first | refine blk_drewN ?_ _ | refine blk_drew ?_ | refine blk_alloc ?_ _)); exact BK149.out) hb); have n1_ := Aside0.mk (below_step (by repeat (first | (with_reducible first | exact HB.out | apply below_alloc | apply pw_below_drewN | apply below_drew1 | refine below_set ?_ GE149.out) | exact HB.out)) hb); clear BK149; clear HB; have BK149 := n0_; have HB := n1_; clear n0_ n1_; (try clear hb); (try clear hb2); (try clear hk); (try clear hi); have hcz26_0 : w25.cell? ⟨gb149, 0, none⟩ = some (.int .i64 a0_0) := (blk_cell BK149.out 0).trans rfl; have hcz26_1 : w25.cell? ⟨gb149, 1, none⟩ = some (.int .i64 a0_1) := (blk_cell BK149.out 1).trans rfl; have hcz26_2 : w25.cell? ⟨gb149, 2, none⟩ = some (.int .i64 a0_2) := (blk_cell BK149.out 2).trans rfl; have hcz26_3 : w25.cell? ⟨gb149, 3, none⟩ = some (.int .i64 a0_3) := (blk_cell BK149.out 3).trans rfl; have hcz26_4 : w25.cell? ⟨gb149, 4, none⟩ = some (.int .i64 a0_4) := (blk_cell BK149.out 4).trans rfl; have hcz26_5 : w25.cell? ⟨gb149, 5, none⟩ = some (.slice A0_5 l0_5.length c0_5) := (blk_cell BK149.out 5).trans rfl; have hcz26_6 : w25.cell? ⟨gb149, 6, none⟩ = some (.slice A0_6 l0_6.length c0_6) := (blk_cell BK149.out 6).trans rfl; have hcz26_7 : w25.cell? ⟨gb149, 7, none⟩ = some (.slice A0_7 l0_7.length c0_7) := (blk_cell BK149.out 7).trans rfl; have hcz26_8 : w25.cell? ⟨gb149, 8, none⟩ = some (.int .i64 a0_8) := (blk_cell BK149.out 8).trans rfl; have hcz26_9 : w25.cell? ⟨gb149, 9, none⟩ = some (.int .i64 a0_9) := (blk_cell BK149.out 9).trans rfl; have hcz26_10 : w25.cell? ⟨gb149, 10, none⟩ = some (.int .u64 a0_10) := (blk_cell BK149.out 10).trans rfl; have hcz26_11 : w25.cell? ⟨gb149, 11, none⟩ = some (.int .u64 a0_11) := (blk_cell BK149.out 11).trans rfl; have hcz26_12 : w25.cell? ⟨gb149, 12, none⟩ = some (.int .u64 a0_12) := (blk_cell BK149.out 12).trans rfl; have hcz26_13 : w25.cell? ⟨gb149, 13, none⟩ = some (.int .u64 a0_13) := (blk_cell BK149.out 13).trans rfl; have hcz26_14 : w25.cell? ⟨gb149, 14, none⟩ = some (.int .u64 a0_14) := (blk_cell BK149.out 14).trans rfl; have hcz26_15 : w25.cell? ⟨gb149, 15, none⟩ = some (.int .u64 a0_15) := (blk_cell BK149.out 15).trans rfl; have hcz26_16 : w25.cell? ⟨gb149, 16, none⟩ = some (.int .u64 a0_16) := (blk_cell BK149.out 16).trans rfl; have hcz26_17 : w25.cell? ⟨gb149, 17, none⟩ = some (.int .u64 a0_17) := (blk_cell BK149.out 17).trans rfl; have hcz26_18 : w25.cell? ⟨gb149, 18, none⟩ = some (.int .u64 a0_18) := (blk_cell BK149.out 18).trans rfl; have hcz26_19 : w25.cell? ⟨gb149, 19, none⟩ = some (.int .u64 a0_19) := (blk_cell BK149.out 19).trans rfl; have hfz26_0 := blk_frozen BK149.out 0; have hfz26_1 := blk_frozen BK149.out 1; have hfz26_2 := blk_frozen BK149.out 2; have hfz26_3 := blk_frozen BK149.out 3; have hfz26_4 := blk_frozen BK149.out 4; have hfz26_5 := blk_frozen BK149.out 5; have hfz26_6 := blk_frozen BK149.out 6; have hfz26_7 := blk_frozen BK149.out 7; have hfz26_8 := blk_frozen BK149.out 8; have hfz26_9 := blk_frozen BK149.out 9; have hfz26_10 := blk_frozen BK149.out 10; have hfz26_11 := blk_frozen BK149.out 11; have hfz26_12 := blk_frozen BK149.out 12; have hfz26_13 := blk_frozen BK149.out 13; have hfz26_14 := blk_frozen BK149.out 14; have hfz26_15 := blk_frozen BK149.out 15; have hfz26_16 := blk_frozen BK149.out 16; have hfz26_17 := blk_frozen BK149.out 17; have hfz26_18 := blk_frozen BK149.out 18; have hfz26_19 := blk_frozen BK149.out 19))
            go_meet
            case rel => exact ⟨_, (true), (by first | rfl | (simp; done) | (simp [*]; done)), H', ⟨by first | omega | exact Nat.le_refl _⟩, ⟨by (with_reducible repeat (first | refine blk_drewN ?_ _ | refine blk_drew ?_ | refine blk_alloc ?_ _)); exact BK149.out⟩, ⟨by repeat (first | (with_reducible first | exact HB.out | apply below_alloc | apply pw_below_drewN | apply below_drew1 | refine below_set ?_ GE149.out) | exact HB.out)⟩⟩
        · rw [if_neg c7] at H
          have c7b0 : (a0_4 == 0) = false := beq_eq_false_iff_ne.mpr c7
          have c7b1 : (a0_4 != 0) = true := bne_iff_ne.mpr c7
          have H' := Aside0.mk H
          clear H
          have hcz27_0 : w3.cell? ⟨gb149, 0, none⟩ = some (.int .i64 a0_0) := (blk_cell BK149.out 0).trans rfl
          have hcz27_1 : w3.cell? ⟨gb149, 1, none⟩ = some (.int .i64 a0_1) := (blk_cell BK149.out 1).trans rfl
          have hcz27_2 : w3.cell? ⟨gb149, 2, none⟩ = some (.int .i64 a0_2) := (blk_cell BK149.out 2).trans rfl
          have hcz27_3 : w3.cell? ⟨gb149, 3, none⟩ = some (.int .i64 a0_3) := (blk_cell BK149.out 3).trans rfl
          have hcz27_4 : w3.cell? ⟨gb149, 4, none⟩ = some (.int .i64 a0_4) := (blk_cell BK149.out 4).trans rfl
          have hcz27_5 : w3.cell? ⟨gb149, 5, none⟩ = some (.slice A0_5 l0_5.length c0_5) := (blk_cell BK149.out 5).trans rfl
          have hcz27_6 : w3.cell? ⟨gb149, 6, none⟩ = some (.slice A0_6 l0_6.length c0_6) := (blk_cell BK149.out 6).trans rfl
          have hcz27_7 : w3.cell? ⟨gb149, 7, none⟩ = some (.slice A0_7 l0_7.length c0_7) := (blk_cell BK149.out 7).trans rfl
          have hcz27_8 : w3.cell? ⟨gb149, 8, none⟩ = some (.int .i64 a0_8) := (blk_cell BK149.out 8).trans rfl
          have hcz27_9 : w3.cell? ⟨gb149, 9, none⟩ = some (.int .i64 a0_9) := (blk_cell BK149.out 9).trans rfl
          have hcz27_10 : w3.cell? ⟨gb149, 10, none⟩ = some (.int .u64 a0_10) := (blk_cell BK149.out 10).trans rfl
          have hcz27_11 : w3.cell? ⟨gb149, 11, none⟩ = some (.int .u64 a0_11) := (blk_cell BK149.out 11).trans rfl
          have hcz27_12 : w3.cell? ⟨gb149, 12, none⟩ = some (.int .u64 a0_12) := (blk_cell BK149.out 12).trans rfl
          have hcz27_13 : w3.cell? ⟨gb149, 13, none⟩ = some (.int .u64 a0_13) := (blk_cell BK149.out 13).trans rfl
          have hcz27_14 : w3.cell? ⟨gb149, 14, none⟩ = some (.int .u64 a0_14) := (blk_cell BK149.out 14).trans rfl
          have hcz27_15 : w3.cell? ⟨gb149, 15, none⟩ = some (.int .u64 a0_15) := (blk_cell BK149.out 15).trans rfl
          have hcz27_16 : w3.cell? ⟨gb149, 16, none⟩ = some (.int .u64 a0_16) := (blk_cell BK149.out 16).trans rfl
          have hcz27_17 : w3.cell? ⟨gb149, 17, none⟩ = some (.int .u64 a0_17) := (blk_cell BK149.out 17).trans rfl
          have hcz27_18 : w3.cell? ⟨gb149, 18, none⟩ = some (.int .u64 a0_18) := (blk_cell BK149.out 18).trans rfl
          have hcz27_19 : w3.cell? ⟨gb149, 19, none⟩ = some (.int .u64 a0_19) := (blk_cell BK149.out 19).trans rfl
          have hfz27_0 := blk_frozen BK149.out 0
          have hfz27_1 := blk_frozen BK149.out 1
          have hfz27_2 := blk_frozen BK149.out 2
          have hfz27_3 := blk_frozen BK149.out 3
          have hfz27_4 := blk_frozen BK149.out 4
          have hfz27_5 := blk_frozen BK149.out 5
          have hfz27_6 := blk_frozen BK149.out 6
          have hfz27_7 := blk_frozen BK149.out 7
          have hfz27_8 := blk_frozen BK149.out 8
          have hfz27_9 := blk_frozen BK149.out 9
          have hfz27_10 := blk_frozen BK149.out 10
          have hfz27_11 := blk_frozen BK149.out 11
          have hfz27_12 := blk_frozen BK149.out 12
          have hfz27_13 := blk_frozen BK149.out 13
          have hfz27_14 := blk_frozen BK149.out 14
          have hfz27_15 := blk_frozen BK149.out 15
          have hfz27_16 := blk_frozen BK149.out 16
          have hfz27_17 := blk_frozen BK149.out 17
          have hfz27_18 := blk_frozen BK149.out 18
          have hfz27_19 := blk_frozen BK149.out 19
          go_wp2_with (first | ((with_reducible refine gate_callee (f := 39) rfl ?_); refine goesL_ (some 7) rfl rfl Try.func39 (by kernel_rfl) rfl #[.agg #[.int .i64 a0_0, .int .i64 a0_1, .int .i64 a0_2, .int .i64 a0_3]] rfl (by (try simp only [List.map_toArray, List.map_cons, List.map_nil]); first | done | rfl | (simp only [List.length_drop, List.length_take]; rfl)) ?_; (with_reducible refine (hutchref11_May.calls a0_0 a0_1 a0_2 a0_3 true _ A4.out).mono ?_); rintro e w28 ⟨rfl, hb⟩; refine ⟨_, rfl, ?_⟩; have n0_ := Aside0.mk (blk_below (g := gb149) (o := .cells #[.int .i64 a0_0, .int .i64 a0_1, .int .i64 a0_2, .int .i64 a0_3, .int .i64 a0_4, .slice A0_5 l0_5.length c0_5, .slice A0_6 l0_6.length c0_6, .slice A0_7 l0_7.length c0_7, .int .i64 a0_8, .int .i64 a0_9, .int .u64 a0_10, .int .u64 a0_11, .int .u64 a0_12, .int .u64 a0_13, .int .u64 a0_14, .int .u64 a0_15, .int .u64 a0_16, .int .u64 a0_17, .int .u64 a0_18, .int .u64 a0_19] 38 (0, 0)) (by (with_reducible repeat (first | refine blk_drewN ?_ _ | refine blk_drew ?_ | refine blk_alloc ?_ _)); exact BK149.out) hb); have n1_ := Aside0.mk (below_step (by repeat (first | (with_reducible first | exact HB.out | apply below_alloc | apply pw_below_drewN | apply below_drew1 | refine below_set ?_ GE149.out) | exact HB.out)) hb); clear BK149; clear HB; have BK149 := n0_; have HB := n1_; clear n0_ n1_; (try clear hb); (try clear hb2); (try clear hk); (try clear hi); have hcz29_0 : w28.cell? ⟨gb149, 0, none⟩ = some (.int .i64 a0_0) := (blk_cell BK149.out 0).trans rfl; have hcz29_1 : w28.cell? ⟨gb149, 1, none⟩ = some (.int .i64 a0_1) := (blk_cell BK149.out 1).trans rfl; have hcz29_2 : w28.cell? ⟨gb149, 2, none⟩ = some (.int .i64 a0_2) := (blk_cell BK149.out 2).trans rfl; have hcz29_3 : w28.cell? ⟨gb149, 3, none⟩ = some (.int .i64 a0_3) := (blk_cell BK149.out 3).trans rfl; have hcz29_4 : w28.cell? ⟨gb149, 4, none⟩ = some (.int .i64 a0_4) := (blk_cell BK149.out 4).trans rfl; have hcz29_5 : w28.cell? ⟨gb149, 5, none⟩ = some (.slice A0_5 l0_5.length c0_5) := (blk_cell BK149.out 5).trans rfl; have hcz29_6 : w28.cell? ⟨gb149, 6, none⟩ = some (.slice A0_6 l0_6.length c0_6) := (blk_cell BK149.out 6).trans rfl; have hcz29_7 : w28.cell? ⟨gb149, 7, none⟩ = some (.slice A0_7 l0_7.length c0_7) := (blk_cell BK149.out 7).trans rfl; have hcz29_8 : w28.cell? ⟨gb149, 8, none⟩ = some (.int .i64 a0_8) := (blk_cell BK149.out 8).trans rfl; have hcz29_9 : w28.cell? ⟨gb149, 9, none⟩ = some (.int .i64 a0_9) := (blk_cell BK149.out 9).trans rfl; have hcz29_10 : w28.cell? ⟨gb149, 10, none⟩ = some (.int .u64 a0_10) := (blk_cell BK149.out 10).trans rfl; have hcz29_11 : w28.cell? ⟨gb149, 11, none⟩ = some (.int .u64 a0_11) := (blk_cell BK149.out 11).trans rfl; have hcz29_12 : w28.cell? ⟨gb149, 12, none⟩ = some (.int .u64 a0_12) := (blk_cell BK149.out 12).trans rfl; have hcz29_13 : w28.cell? ⟨gb149, 13, none⟩ = some (.int .u64 a0_13) := (blk_cell BK149.out 13).trans rfl; have hcz29_14 : w28.cell? ⟨gb149, 14, none⟩ = some (.int .u64 a0_14) := (blk_cell BK149.out 14).trans rfl; have hcz29_15 : w28.cell? ⟨gb149, 15, none⟩ = some (.int .u64 a0_15) := (blk_cell BK149.out 15).trans rfl; have hcz29_16 : w28.cell? ⟨gb149, 16, none⟩ = some (.int .u64 a0_16) := (blk_cell BK149.out 16).trans rfl; have hcz29_17 : w28.cell? ⟨gb149, 17, none⟩ = some (.int .u64 a0_17) := (blk_cell BK149.out 17).trans rfl; have hcz29_18 : w28.cell? ⟨gb149, 18, none⟩ = some (.int .u64 a0_18) := (blk_cell BK149.out 18).trans rfl; have hcz29_19 : w28.cell? ⟨gb149, 19, none⟩ = some (.int .u64 a0_19) := (blk_cell BK149.out 19).trans rfl; have hfz29_0 := blk_frozen BK149.out 0; have hfz29_1 := blk_frozen BK149.out 1; have hfz29_2 := blk_frozen BK149.out 2; have hfz29_3 := blk_frozen BK149.out 3; have hfz29_4 := blk_frozen BK149.out 4; have hfz29_5 := blk_frozen BK149.out 5; have hfz29_6 := blk_frozen BK149.out 6; have hfz29_7 := blk_frozen BK149.out 7; have hfz29_8 := blk_frozen BK149.out 8; have hfz29_9 := blk_frozen BK149.out 9; have hfz29_10 := blk_frozen BK149.out 10; have hfz29_11 := blk_frozen BK149.out 11; have hfz29_12 := blk_frozen BK149.out 12; have hfz29_13 := blk_frozen BK149.out 13; have hfz29_14 := blk_frozen BK149.out 14; have hfz29_15 := blk_frozen BK149.out 15; have hfz29_16 := blk_frozen BK149.out 16; have hfz29_17 := blk_frozen BK149.out 17; have hfz29_18 := blk_frozen BK149.out 18; have hfz29_19 := blk_frozen BK149.out 19))
          go_meet
          case rel => exact ⟨_, (true), (by first | rfl | (simp; done) | (simp [*]; done)), H', ⟨by first | omega | exact Nat.le_refl _⟩, ⟨by (with_reducible repeat (first | refine blk_drewN ?_ _ | refine blk_drew ?_ | refine blk_alloc ?_ _)); exact BK149.out⟩, ⟨by repeat (first | (with_reducible first | exact HB.out | apply below_alloc | apply pw_below_drewN | apply below_drew1 | refine below_set ?_ GE149.out) | exact HB.out)⟩⟩
      · rw [if_neg c6] at H
        have c6b0 : (a0_0 == 3) = false := beq_eq_false_iff_ne.mpr c6
        have c6b1 : (a0_0 != 3) = true := bne_iff_ne.mpr c6
        (first | rw [c6b0] | (simp only [i64_w, i32_w]; rw [c6b0]) | skip)
        have H' := Aside0.mk H
        clear H
        have hcz30_0 : w3.cell? ⟨gb149, 0, none⟩ = some (.int .i64 a0_0) := (blk_cell BK149.out 0).trans rfl
        have hcz30_1 : w3.cell? ⟨gb149, 1, none⟩ = some (.int .i64 a0_1) := (blk_cell BK149.out 1).trans rfl
        have hcz30_2 : w3.cell? ⟨gb149, 2, none⟩ = some (.int .i64 a0_2) := (blk_cell BK149.out 2).trans rfl
        have hcz30_3 : w3.cell? ⟨gb149, 3, none⟩ = some (.int .i64 a0_3) := (blk_cell BK149.out 3).trans rfl
        have hcz30_4 : w3.cell? ⟨gb149, 4, none⟩ = some (.int .i64 a0_4) := (blk_cell BK149.out 4).trans rfl
        have hcz30_5 : w3.cell? ⟨gb149, 5, none⟩ = some (.slice A0_5 l0_5.length c0_5) := (blk_cell BK149.out 5).trans rfl
        have hcz30_6 : w3.cell? ⟨gb149, 6, none⟩ = some (.slice A0_6 l0_6.length c0_6) := (blk_cell BK149.out 6).trans rfl
        have hcz30_7 : w3.cell? ⟨gb149, 7, none⟩ = some (.slice A0_7 l0_7.length c0_7) := (blk_cell BK149.out 7).trans rfl
        have hcz30_8 : w3.cell? ⟨gb149, 8, none⟩ = some (.int .i64 a0_8) := (blk_cell BK149.out 8).trans rfl
        have hcz30_9 : w3.cell? ⟨gb149, 9, none⟩ = some (.int .i64 a0_9) := (blk_cell BK149.out 9).trans rfl
        have hcz30_10 : w3.cell? ⟨gb149, 10, none⟩ = some (.int .u64 a0_10) := (blk_cell BK149.out 10).trans rfl
        have hcz30_11 : w3.cell? ⟨gb149, 11, none⟩ = some (.int .u64 a0_11) := (blk_cell BK149.out 11).trans rfl
        have hcz30_12 : w3.cell? ⟨gb149, 12, none⟩ = some (.int .u64 a0_12) := (blk_cell BK149.out 12).trans rfl
        have hcz30_13 : w3.cell? ⟨gb149, 13, none⟩ = some (.int .u64 a0_13) := (blk_cell BK149.out 13).trans rfl
        have hcz30_14 : w3.cell? ⟨gb149, 14, none⟩ = some (.int .u64 a0_14) := (blk_cell BK149.out 14).trans rfl
        have hcz30_15 : w3.cell? ⟨gb149, 15, none⟩ = some (.int .u64 a0_15) := (blk_cell BK149.out 15).trans rfl
        have hcz30_16 : w3.cell? ⟨gb149, 16, none⟩ = some (.int .u64 a0_16) := (blk_cell BK149.out 16).trans rfl
        have hcz30_17 : w3.cell? ⟨gb149, 17, none⟩ = some (.int .u64 a0_17) := (blk_cell BK149.out 17).trans rfl
        have hcz30_18 : w3.cell? ⟨gb149, 18, none⟩ = some (.int .u64 a0_18) := (blk_cell BK149.out 18).trans rfl
        have hcz30_19 : w3.cell? ⟨gb149, 19, none⟩ = some (.int .u64 a0_19) := (blk_cell BK149.out 19).trans rfl
        have hfz30_0 := blk_frozen BK149.out 0
        have hfz30_1 := blk_frozen BK149.out 1
        have hfz30_2 := blk_frozen BK149.out 2
        have hfz30_3 := blk_frozen BK149.out 3
        have hfz30_4 := blk_frozen BK149.out 4
        have hfz30_5 := blk_frozen BK149.out 5
        have hfz30_6 := blk_frozen BK149.out 6
        have hfz30_7 := blk_frozen BK149.out 7
        have hfz30_8 := blk_frozen BK149.out 8
        have hfz30_9 := blk_frozen BK149.out 9
        have hfz30_10 := blk_frozen BK149.out 10
        have hfz30_11 := blk_frozen BK149.out 11
        have hfz30_12 := blk_frozen BK149.out 12
        have hfz30_13 := blk_frozen BK149.out 13
        have hfz30_14 := blk_frozen BK149.out 14
        have hfz30_15 := blk_frozen BK149.out 15
        have hfz30_16 := blk_frozen BK149.out 16
        have hfz30_17 := blk_frozen BK149.out 17
        have hfz30_18 := blk_frozen BK149.out 18
        have hfz30_19 := blk_frozen BK149.out 19
        go_wp2_with (first | ((with_reducible refine gate_callee (f := 39) rfl ?_); refine goesL_ (some 7) rfl rfl Try.func39 (by kernel_rfl) rfl #[.agg #[.int .i64 a0_0, .int .i64 a0_1, .int .i64 a0_2, .int .i64 a0_3]] rfl (by (try simp only [List.map_toArray, List.map_cons, List.map_nil]); first | done | rfl | (simp only [List.length_drop, List.length_take]; rfl)) ?_; (with_reducible refine (hutchref11_May.calls a0_0 a0_1 a0_2 a0_3 true _ A4.out).mono ?_); rintro e w31 ⟨rfl, hb⟩; refine ⟨_, rfl, ?_⟩; have n0_ := Aside0.mk (blk_below (g := gb149) (o := .cells #[.int .i64 a0_0, .int .i64 a0_1, .int .i64 a0_2, .int .i64 a0_3, .int .i64 a0_4, .slice A0_5 l0_5.length c0_5, .slice A0_6 l0_6.length c0_6, .slice A0_7 l0_7.length c0_7, .int .i64 a0_8, .int .i64 a0_9, .int .u64 a0_10, .int .u64 a0_11, .int .u64 a0_12, .int .u64 a0_13, .int .u64 a0_14, .int .u64 a0_15, .int .u64 a0_16, .int .u64 a0_17, .int .u64 a0_18, .int .u64 a0_19] 38 (0, 0)) (by (with_reducible repeat (first | refine blk_drewN ?_ _ | refine blk_drew ?_ | refine blk_alloc ?_ _)); exact BK149.out) hb); have n1_ := Aside0.mk (below_step (by repeat (first | (with_reducible first | exact HB.out | apply below_alloc | apply pw_below_drewN | apply below_drew1 | refine below_set ?_ GE149.out) | exact HB.out)) hb); clear BK149; clear HB; have BK149 := n0_; have HB := n1_; clear n0_ n1_; (try clear hb); (try clear hb2); (try clear hk); (try clear hi); have hcz32_0 : w31.cell? ⟨gb149, 0, none⟩ = some (.int .i64 a0_0) := (blk_cell BK149.out 0).trans rfl; have hcz32_1 : w31.cell? ⟨gb149, 1, none⟩ = some (.int .i64 a0_1) := (blk_cell BK149.out 1).trans rfl; have hcz32_2 : w31.cell? ⟨gb149, 2, none⟩ = some (.int .i64 a0_2) := (blk_cell BK149.out 2).trans rfl; have hcz32_3 : w31.cell? ⟨gb149, 3, none⟩ = some (.int .i64 a0_3) := (blk_cell BK149.out 3).trans rfl; have hcz32_4 : w31.cell? ⟨gb149, 4, none⟩ = some (.int .i64 a0_4) := (blk_cell BK149.out 4).trans rfl; have hcz32_5 : w31.cell? ⟨gb149, 5, none⟩ = some (.slice A0_5 l0_5.length c0_5) := (blk_cell BK149.out 5).trans rfl; have hcz32_6 : w31.cell? ⟨gb149, 6, none⟩ = some (.slice A0_6 l0_6.length c0_6) := (blk_cell BK149.out 6).trans rfl; have hcz32_7 : w31.cell? ⟨gb149, 7, none⟩ = some (.slice A0_7 l0_7.length c0_7) := (blk_cell BK149.out 7).trans rfl; have hcz32_8 : w31.cell? ⟨gb149, 8, none⟩ = some (.int .i64 a0_8) := (blk_cell BK149.out 8).trans rfl; have hcz32_9 : w31.cell? ⟨gb149, 9, none⟩ = some (.int .i64 a0_9) := (blk_cell BK149.out 9).trans rfl; have hcz32_10 : w31.cell? ⟨gb149, 10, none⟩ = some (.int .u64 a0_10) := (blk_cell BK149.out 10).trans rfl; have hcz32_11 : w31.cell? ⟨gb149, 11, none⟩ = some (.int .u64 a0_11) := (blk_cell BK149.out 11).trans rfl; have hcz32_12 : w31.cell? ⟨gb149, 12, none⟩ = some (.int .u64 a0_12) := (blk_cell BK149.out 12).trans rfl; have hcz32_13 : w31.cell? ⟨gb149, 13, none⟩ = some (.int .u64 a0_13) := (blk_cell BK149.out 13).trans rfl; have hcz32_14 : w31.cell? ⟨gb149, 14, none⟩ = some (.int .u64 a0_14) := (blk_cell BK149.out 14).trans rfl; have hcz32_15 : w31.cell? ⟨gb149, 15, none⟩ = some (.int .u64 a0_15) := (blk_cell BK149.out 15).trans rfl; have hcz32_16 : w31.cell? ⟨gb149, 16, none⟩ = some (.int .u64 a0_16) := (blk_cell BK149.out 16).trans rfl; have hcz32_17 : w31.cell? ⟨gb149, 17, none⟩ = some (.int .u64 a0_17) := (blk_cell BK149.out 17).trans rfl; have hcz32_18 : w31.cell? ⟨gb149, 18, none⟩ = some (.int .u64 a0_18) := (blk_cell BK149.out 18).trans rfl; have hcz32_19 : w31.cell? ⟨gb149, 19, none⟩ = some (.int .u64 a0_19) := (blk_cell BK149.out 19).trans rfl; have hfz32_0 := blk_frozen BK149.out 0; have hfz32_1 := blk_frozen BK149.out 1; have hfz32_2 := blk_frozen BK149.out 2; have hfz32_3 := blk_frozen BK149.out 3; have hfz32_4 := blk_frozen BK149.out 4; have hfz32_5 := blk_frozen BK149.out 5; have hfz32_6 := blk_frozen BK149.out 6; have hfz32_7 := blk_frozen BK149.out 7; have hfz32_8 := blk_frozen BK149.out 8; have hfz32_9 := blk_frozen BK149.out 9; have hfz32_10 := blk_frozen BK149.out 10; have hfz32_11 := blk_frozen BK149.out 11; have hfz32_12 := blk_frozen BK149.out 12; have hfz32_13 := blk_frozen BK149.out 13; have hfz32_14 := blk_frozen BK149.out 14; have hfz32_15 := blk_frozen BK149.out 15; have hfz32_16 := blk_frozen BK149.out 16; have hfz32_17 := blk_frozen BK149.out 17; have hfz32_18 := blk_frozen BK149.out 18; have hfz32_19 := blk_frozen BK149.out 19))
        go_meet
        case rel => exact ⟨_, (true), (by first | rfl | (simp; done) | (simp [*]; done)), H', ⟨by first | omega | exact Nat.le_refl _⟩, ⟨by (with_reducible repeat (first | refine blk_drewN ?_ _ | refine blk_drew ?_ | refine blk_alloc ?_ _)); exact BK149.out⟩, ⟨by repeat (first | (with_reducible first | exact HB.out | apply below_alloc | apply pw_below_drewN | apply below_drew1 | refine below_set ?_ GE149.out) | exact HB.out)⟩⟩
    · replace c5 := Bool.eq_false_iff.mpr c5
      subst c5
      have H1 : (hutchref16_Right.j0 k true a0_0 a0_1 a0_2 a0_3 a0_4 l0_5 l0_6 l0_7 a0_8 a0_9 a0_10 a0_11 a0_12 a0_13 a0_14 a0_15 a0_16 a0_17 a0_18 a0_19) = some r := by rw [if_neg (show ¬ (false = true) by decide)] at H; exact H
      clear H
      have H := H1
      clear H1
      have H' := Aside0.mk H
      clear H
      have hcz33_0 : w3.cell? ⟨gb149, 0, none⟩ = some (.int .i64 a0_0) := (blk_cell BK149.out 0).trans rfl
      have hcz33_1 : w3.cell? ⟨gb149, 1, none⟩ = some (.int .i64 a0_1) := (blk_cell BK149.out 1).trans rfl
      have hcz33_2 : w3.cell? ⟨gb149, 2, none⟩ = some (.int .i64 a0_2) := (blk_cell BK149.out 2).trans rfl
      have hcz33_3 : w3.cell? ⟨gb149, 3, none⟩ = some (.int .i64 a0_3) := (blk_cell BK149.out 3).trans rfl
      have hcz33_4 : w3.cell? ⟨gb149, 4, none⟩ = some (.int .i64 a0_4) := (blk_cell BK149.out 4).trans rfl
      have hcz33_5 : w3.cell? ⟨gb149, 5, none⟩ = some (.slice A0_5 l0_5.length c0_5) := (blk_cell BK149.out 5).trans rfl
      have hcz33_6 : w3.cell? ⟨gb149, 6, none⟩ = some (.slice A0_6 l0_6.length c0_6) := (blk_cell BK149.out 6).trans rfl
      have hcz33_7 : w3.cell? ⟨gb149, 7, none⟩ = some (.slice A0_7 l0_7.length c0_7) := (blk_cell BK149.out 7).trans rfl
      have hcz33_8 : w3.cell? ⟨gb149, 8, none⟩ = some (.int .i64 a0_8) := (blk_cell BK149.out 8).trans rfl
      have hcz33_9 : w3.cell? ⟨gb149, 9, none⟩ = some (.int .i64 a0_9) := (blk_cell BK149.out 9).trans rfl
      have hcz33_10 : w3.cell? ⟨gb149, 10, none⟩ = some (.int .u64 a0_10) := (blk_cell BK149.out 10).trans rfl
      have hcz33_11 : w3.cell? ⟨gb149, 11, none⟩ = some (.int .u64 a0_11) := (blk_cell BK149.out 11).trans rfl
      have hcz33_12 : w3.cell? ⟨gb149, 12, none⟩ = some (.int .u64 a0_12) := (blk_cell BK149.out 12).trans rfl
      have hcz33_13 : w3.cell? ⟨gb149, 13, none⟩ = some (.int .u64 a0_13) := (blk_cell BK149.out 13).trans rfl
      have hcz33_14 : w3.cell? ⟨gb149, 14, none⟩ = some (.int .u64 a0_14) := (blk_cell BK149.out 14).trans rfl
      have hcz33_15 : w3.cell? ⟨gb149, 15, none⟩ = some (.int .u64 a0_15) := (blk_cell BK149.out 15).trans rfl
      have hcz33_16 : w3.cell? ⟨gb149, 16, none⟩ = some (.int .u64 a0_16) := (blk_cell BK149.out 16).trans rfl
      have hcz33_17 : w3.cell? ⟨gb149, 17, none⟩ = some (.int .u64 a0_17) := (blk_cell BK149.out 17).trans rfl
      have hcz33_18 : w3.cell? ⟨gb149, 18, none⟩ = some (.int .u64 a0_18) := (blk_cell BK149.out 18).trans rfl
      have hcz33_19 : w3.cell? ⟨gb149, 19, none⟩ = some (.int .u64 a0_19) := (blk_cell BK149.out 19).trans rfl
      have hfz33_0 := blk_frozen BK149.out 0
      have hfz33_1 := blk_frozen BK149.out 1
      have hfz33_2 := blk_frozen BK149.out 2
      have hfz33_3 := blk_frozen BK149.out 3
      have hfz33_4 := blk_frozen BK149.out 4
      have hfz33_5 := blk_frozen BK149.out 5
      have hfz33_6 := blk_frozen BK149.out 6
      have hfz33_7 := blk_frozen BK149.out 7
      have hfz33_8 := blk_frozen BK149.out 8
      have hfz33_9 := blk_frozen BK149.out 9
      have hfz33_10 := blk_frozen BK149.out 10
      have hfz33_11 := blk_frozen BK149.out 11
      have hfz33_12 := blk_frozen BK149.out 12
      have hfz33_13 := blk_frozen BK149.out 13
      have hfz33_14 := blk_frozen BK149.out 14
      have hfz33_15 := blk_frozen BK149.out 15
      have hfz33_16 := blk_frozen BK149.out 16
      have hfz33_17 := blk_frozen BK149.out 17
      have hfz33_18 := blk_frozen BK149.out 18
      have hfz33_19 := blk_frozen BK149.out 19
      go_wp2_with (first | ((with_reducible refine gate_callee (f := 39) rfl ?_); refine goesL_ (some 7) rfl rfl Try.func39 (by kernel_rfl) rfl #[.agg #[.int .i64 a0_0, .int .i64 a0_1, .int .i64 a0_2, .int .i64 a0_3]] rfl (by (try simp only [List.map_toArray, List.map_cons, List.map_nil]); first | done | rfl | (simp only [List.length_drop, List.length_take]; rfl)) ?_; (with_reducible refine (hutchref11_May.calls a0_0 a0_1 a0_2 a0_3 false _ A4.out).mono ?_); rintro e w34 ⟨rfl, hb⟩; refine ⟨_, rfl, ?_⟩; have n0_ := Aside0.mk (blk_below (g := gb149) (o := .cells #[.int .i64 a0_0, .int .i64 a0_1, .int .i64 a0_2, .int .i64 a0_3, .int .i64 a0_4, .slice A0_5 l0_5.length c0_5, .slice A0_6 l0_6.length c0_6, .slice A0_7 l0_7.length c0_7, .int .i64 a0_8, .int .i64 a0_9, .int .u64 a0_10, .int .u64 a0_11, .int .u64 a0_12, .int .u64 a0_13, .int .u64 a0_14, .int .u64 a0_15, .int .u64 a0_16, .int .u64 a0_17, .int .u64 a0_18, .int .u64 a0_19] 38 (0, 0)) (by (with_reducible repeat (first | refine blk_drewN ?_ _ | refine blk_drew ?_ | refine blk_alloc ?_ _)); exact BK149.out) hb); have n1_ := Aside0.mk (below_step (by repeat (first | (with_reducible first | exact HB.out | apply below_alloc | apply pw_below_drewN | apply below_drew1 | refine below_set ?_ GE149.out) | exact HB.out)) hb); clear BK149; clear HB; have BK149 := n0_; have HB := n1_; clear n0_ n1_; (try clear hb); (try clear hb2); (try clear hk); (try clear hi)))
      go_meet
      case rel => exact ⟨_, (true), (by first | rfl | (simp; done) | (simp [*]; done)), H', ⟨by first | omega | exact Nat.le_refl _⟩, ⟨by (with_reducible repeat (first | refine blk_drewN ?_ _ | refine blk_drew ?_ | refine blk_alloc ?_ _)); exact BK149.out⟩, ⟨by repeat (first | (with_reducible first | exact HB.out | apply below_alloc | apply pw_below_drewN | apply below_drew1 | refine below_set ?_ GE149.out) | exact HB.out)⟩⟩
  case rest =>
    clear HC2
    try clear c1
    try clear p2
    try clear c3
    try clear c5
    try clear c6
    try clear c6b0
    try clear c6b1
    try clear c7
    try clear c7b0
    try clear c7b1
    try clear c8
    try clear c8b0
    try clear c8b1
    try clear c9
    try clear c9b0
    try clear c9b1
    try clear c10
    try clear c10b0
    try clear c10b1
    try clear c14
    try clear c14b0
    try clear c14b1
    try clear c17
    try clear hcz11_0
    try clear hcz11_1
    try clear hcz11_10
    try clear hcz11_11
    try clear hcz11_12
    try clear hcz11_13
    try clear hcz11_14
    try clear hcz11_15
    try clear hcz11_16
    try clear hcz11_17
    try clear hcz11_18
    try clear hcz11_19
    try clear hcz11_2
    try clear hcz11_3
    try clear hcz11_4
    try clear hcz11_5
    try clear hcz11_6
    try clear hcz11_7
    try clear hcz11_8
    try clear hcz11_9
    try clear hcz13_0
    try clear hcz13_1
    try clear hcz13_10
    try clear hcz13_11
    try clear hcz13_12
    try clear hcz13_13
    try clear hcz13_14
    try clear hcz13_15
    try clear hcz13_16
    try clear hcz13_17
    try clear hcz13_18
    try clear hcz13_19
    try clear hcz13_2
    try clear hcz13_3
    try clear hcz13_4
    try clear hcz13_5
    try clear hcz13_6
    try clear hcz13_7
    try clear hcz13_8
    try clear hcz13_9
    try clear hcz15_0
    try clear hcz15_1
    try clear hcz15_10
    try clear hcz15_11
    try clear hcz15_12
    try clear hcz15_13
    try clear hcz15_14
    try clear hcz15_15
    try clear hcz15_16
    try clear hcz15_17
    try clear hcz15_18
    try clear hcz15_19
    try clear hcz15_2
    try clear hcz15_3
    try clear hcz15_4
    try clear hcz15_5
    try clear hcz15_6
    try clear hcz15_7
    try clear hcz15_8
    try clear hcz15_9
    try clear hcz17_0
    try clear hcz17_1
    try clear hcz17_10
    try clear hcz17_11
    try clear hcz17_12
    try clear hcz17_13
    try clear hcz17_14
    try clear hcz17_15
    try clear hcz17_16
    try clear hcz17_17
    try clear hcz17_18
    try clear hcz17_19
    try clear hcz17_2
    try clear hcz17_3
    try clear hcz17_4
    try clear hcz17_5
    try clear hcz17_6
    try clear hcz17_7
    try clear hcz17_8
    try clear hcz17_9
    try clear hcz18_0
    try clear hcz18_1
    try clear hcz18_10
    try clear hcz18_11
    try clear hcz18_12
    try clear hcz18_13
    try clear hcz18_14
    try clear hcz18_15
    try clear hcz18_16
    try clear hcz18_17
    try clear hcz18_18
    try clear hcz18_19
    try clear hcz18_2
    try clear hcz18_3
    try clear hcz18_4
    try clear hcz18_5
    try clear hcz18_6
    try clear hcz18_7
    try clear hcz18_8
    try clear hcz18_9
    try clear hcz20_0
    try clear hcz20_1
    try clear hcz20_10
    try clear hcz20_11
    try clear hcz20_12
    try clear hcz20_13
    try clear hcz20_14
    try clear hcz20_15
    try clear hcz20_16
    try clear hcz20_17
    try clear hcz20_18
    try clear hcz20_19
    try clear hcz20_2
    try clear hcz20_3
    try clear hcz20_4
    try clear hcz20_5
    try clear hcz20_6
    try clear hcz20_7
    try clear hcz20_8
    try clear hcz20_9
    try clear hcz21_0
    try clear hcz21_1
    try clear hcz21_10
    try clear hcz21_11
    try clear hcz21_12
    try clear hcz21_13
    try clear hcz21_14
    try clear hcz21_15
    try clear hcz21_16
    try clear hcz21_17
    try clear hcz21_18
    try clear hcz21_19
    try clear hcz21_2
    try clear hcz21_3
    try clear hcz21_4
    try clear hcz21_5
    try clear hcz21_6
    try clear hcz21_7
    try clear hcz21_8
    try clear hcz21_9
    try clear hcz23_0
    try clear hcz23_1
    try clear hcz23_10
    try clear hcz23_11
    try clear hcz23_12
    try clear hcz23_13
    try clear hcz23_14
    try clear hcz23_15
    try clear hcz23_16
    try clear hcz23_17
    try clear hcz23_18
    try clear hcz23_19
    try clear hcz23_2
    try clear hcz23_3
    try clear hcz23_4
    try clear hcz23_5
    try clear hcz23_6
    try clear hcz23_7
    try clear hcz23_8
    try clear hcz23_9
    try clear hcz24_0
    try clear hcz24_1
    try clear hcz24_10
    try clear hcz24_11
    try clear hcz24_12
    try clear hcz24_13
    try clear hcz24_14
    try clear hcz24_15
    try clear hcz24_16
    try clear hcz24_17
    try clear hcz24_18
    try clear hcz24_19
    try clear hcz24_2
    try clear hcz24_3
    try clear hcz24_4
    try clear hcz24_5
    try clear hcz24_6
    try clear hcz24_7
    try clear hcz24_8
    try clear hcz24_9
    try clear hcz26_0
    try clear hcz26_1
    try clear hcz26_10
    try clear hcz26_11
    try clear hcz26_12
    try clear hcz26_13
    try clear hcz26_14
    try clear hcz26_15
    try clear hcz26_16
    try clear hcz26_17
    try clear hcz26_18
    try clear hcz26_19
    try clear hcz26_2
    try clear hcz26_3
    try clear hcz26_4
    try clear hcz26_5
    try clear hcz26_6
    try clear hcz26_7
    try clear hcz26_8
    try clear hcz26_9
    try clear hcz27_0
    try clear hcz27_1
    try clear hcz27_10
    try clear hcz27_11
    try clear hcz27_12
    try clear hcz27_13
    try clear hcz27_14
    try clear hcz27_15
    try clear hcz27_16
    try clear hcz27_17
    try clear hcz27_18
    try clear hcz27_19
    try clear hcz27_2
    try clear hcz27_3
    try clear hcz27_4
    try clear hcz27_5
    try clear hcz27_6
    try clear hcz27_7
    try clear hcz27_8
    try clear hcz27_9
    try clear hcz29_0
    try clear hcz29_1
    try clear hcz29_10
    try clear hcz29_11
    try clear hcz29_12
    try clear hcz29_13
    try clear hcz29_14
    try clear hcz29_15
    try clear hcz29_16
    try clear hcz29_17
    try clear hcz29_18
    try clear hcz29_19
    try clear hcz29_2
    try clear hcz29_3
    try clear hcz29_4
    try clear hcz29_5
    try clear hcz29_6
    try clear hcz29_7
    try clear hcz29_8
    try clear hcz29_9
    try clear hcz30_0
    try clear hcz30_1
    try clear hcz30_10
    try clear hcz30_11
    try clear hcz30_12
    try clear hcz30_13
    try clear hcz30_14
    try clear hcz30_15
    try clear hcz30_16
    try clear hcz30_17
    try clear hcz30_18
    try clear hcz30_19
    try clear hcz30_2
    try clear hcz30_3
    try clear hcz30_4
    try clear hcz30_5
    try clear hcz30_6
    try clear hcz30_7
    try clear hcz30_8
    try clear hcz30_9
    try clear hcz32_0
    try clear hcz32_1
    try clear hcz32_10
    try clear hcz32_11
    try clear hcz32_12
    try clear hcz32_13
    try clear hcz32_14
    try clear hcz32_15
    try clear hcz32_16
    try clear hcz32_17
    try clear hcz32_18
    try clear hcz32_19
    try clear hcz32_2
    try clear hcz32_3
    try clear hcz32_4
    try clear hcz32_5
    try clear hcz32_6
    try clear hcz32_7
    try clear hcz32_8
    try clear hcz32_9
    try clear hcz33_0
    try clear hcz33_1
    try clear hcz33_10
    try clear hcz33_11
    try clear hcz33_12
    try clear hcz33_13
    try clear hcz33_14
    try clear hcz33_15
    try clear hcz33_16
    try clear hcz33_17
    try clear hcz33_18
    try clear hcz33_19
    try clear hcz33_2
    try clear hcz33_3
    try clear hcz33_4
    try clear hcz33_5
    try clear hcz33_6
    try clear hcz33_7
    try clear hcz33_8
    try clear hcz33_9
    try clear hfz11_0
    try clear hfz11_1
    try clear hfz11_10
    try clear hfz11_11
    try clear hfz11_12
    try clear hfz11_13
    try clear hfz11_14
    try clear hfz11_15
    try clear hfz11_16
    try clear hfz11_17
    try clear hfz11_18
    try clear hfz11_19
    try clear hfz11_2
    try clear hfz11_3
    try clear hfz11_4
    try clear hfz11_5
    try clear hfz11_6
    try clear hfz11_7
    try clear hfz11_8
    try clear hfz11_9
    try clear hfz13_0
    try clear hfz13_1
    try clear hfz13_10
    try clear hfz13_11
    try clear hfz13_12
    try clear hfz13_13
    try clear hfz13_14
    try clear hfz13_15
    try clear hfz13_16
    try clear hfz13_17
    try clear hfz13_18
    try clear hfz13_19
    try clear hfz13_2
    try clear hfz13_3
    try clear hfz13_4
    try clear hfz13_5
    try clear hfz13_6
    try clear hfz13_7
    try clear hfz13_8
    try clear hfz13_9
    try clear hfz15_0
    try clear hfz15_1
    try clear hfz15_10
    try clear hfz15_11
    try clear hfz15_12
    try clear hfz15_13
    try clear hfz15_14
    try clear hfz15_15
    try clear hfz15_16
    try clear hfz15_17
    try clear hfz15_18
    try clear hfz15_19
    try clear hfz15_2
    try clear hfz15_3
    try clear hfz15_4
    try clear hfz15_5
    try clear hfz15_6
    try clear hfz15_7
    try clear hfz15_8
    try clear hfz15_9
    try clear hfz17_0
    try clear hfz17_1
    try clear hfz17_10
    try clear hfz17_11
    try clear hfz17_12
    try clear hfz17_13
    try clear hfz17_14
    try clear hfz17_15
    try clear hfz17_16
    try clear hfz17_17
    try clear hfz17_18
    try clear hfz17_19
    try clear hfz17_2
    try clear hfz17_3
    try clear hfz17_4
    try clear hfz17_5
    try clear hfz17_6
    try clear hfz17_7
    try clear hfz17_8
    try clear hfz17_9
    try clear hfz18_0
    try clear hfz18_1
    try clear hfz18_10
    try clear hfz18_11
    try clear hfz18_12
    try clear hfz18_13
    try clear hfz18_14
    try clear hfz18_15
    try clear hfz18_16
    try clear hfz18_17
    try clear hfz18_18
    try clear hfz18_19
    try clear hfz18_2
    try clear hfz18_3
    try clear hfz18_4
    try clear hfz18_5
    try clear hfz18_6
    try clear hfz18_7
    try clear hfz18_8
    try clear hfz18_9
    try clear hfz20_0
    try clear hfz20_1
    try clear hfz20_10
    try clear hfz20_11
    try clear hfz20_12
    try clear hfz20_13
    try clear hfz20_14
    try clear hfz20_15
    try clear hfz20_16
    try clear hfz20_17
    try clear hfz20_18
    try clear hfz20_19
    try clear hfz20_2
    try clear hfz20_3
    try clear hfz20_4
    try clear hfz20_5
    try clear hfz20_6
    try clear hfz20_7
    try clear hfz20_8
    try clear hfz20_9
    try clear hfz21_0
    try clear hfz21_1
    try clear hfz21_10
    try clear hfz21_11
    try clear hfz21_12
    try clear hfz21_13
    try clear hfz21_14
    try clear hfz21_15
    try clear hfz21_16
    try clear hfz21_17
    try clear hfz21_18
    try clear hfz21_19
    try clear hfz21_2
    try clear hfz21_3
    try clear hfz21_4
    try clear hfz21_5
    try clear hfz21_6
    try clear hfz21_7
    try clear hfz21_8
    try clear hfz21_9
    try clear hfz23_0
    try clear hfz23_1
    try clear hfz23_10
    try clear hfz23_11
    try clear hfz23_12
    try clear hfz23_13
    try clear hfz23_14
    try clear hfz23_15
    try clear hfz23_16
    try clear hfz23_17
    try clear hfz23_18
    try clear hfz23_19
    try clear hfz23_2
    try clear hfz23_3
    try clear hfz23_4
    try clear hfz23_5
    try clear hfz23_6
    try clear hfz23_7
    try clear hfz23_8
    try clear hfz23_9
    try clear hfz24_0
    try clear hfz24_1
    try clear hfz24_10
    try clear hfz24_11
    try clear hfz24_12
    try clear hfz24_13
    try clear hfz24_14
    try clear hfz24_15
    try clear hfz24_16
    try clear hfz24_17
    try clear hfz24_18
    try clear hfz24_19
    try clear hfz24_2
    try clear hfz24_3
    try clear hfz24_4
    try clear hfz24_5
    try clear hfz24_6
    try clear hfz24_7
    try clear hfz24_8
    try clear hfz24_9
    try clear hfz26_0
    try clear hfz26_1
    try clear hfz26_10
    try clear hfz26_11
    try clear hfz26_12
    try clear hfz26_13
    try clear hfz26_14
    try clear hfz26_15
    try clear hfz26_16
    try clear hfz26_17
    try clear hfz26_18
    try clear hfz26_19
    try clear hfz26_2
    try clear hfz26_3
    try clear hfz26_4
    try clear hfz26_5
    try clear hfz26_6
    try clear hfz26_7
    try clear hfz26_8
    try clear hfz26_9
    try clear hfz27_0
    try clear hfz27_1
    try clear hfz27_10
    try clear hfz27_11
    try clear hfz27_12
    try clear hfz27_13
    try clear hfz27_14
    try clear hfz27_15
    try clear hfz27_16
    try clear hfz27_17
    try clear hfz27_18
    try clear hfz27_19
    try clear hfz27_2
    try clear hfz27_3
    try clear hfz27_4
    try clear hfz27_5
    try clear hfz27_6
    try clear hfz27_7
    try clear hfz27_8
    try clear hfz27_9
    try clear hfz29_0
    try clear hfz29_1
    try clear hfz29_10
    try clear hfz29_11
    try clear hfz29_12
    try clear hfz29_13
    try clear hfz29_14
    try clear hfz29_15
    try clear hfz29_16
    try clear hfz29_17
    try clear hfz29_18
    try clear hfz29_19
    try clear hfz29_2
    try clear hfz29_3
    try clear hfz29_4
    try clear hfz29_5
    try clear hfz29_6
    try clear hfz29_7
    try clear hfz29_8
    try clear hfz29_9
    try clear hfz30_0
    try clear hfz30_1
    try clear hfz30_10
    try clear hfz30_11
    try clear hfz30_12
    try clear hfz30_13
    try clear hfz30_14
    try clear hfz30_15
    try clear hfz30_16
    try clear hfz30_17
    try clear hfz30_18
    try clear hfz30_19
    try clear hfz30_2
    try clear hfz30_3
    try clear hfz30_4
    try clear hfz30_5
    try clear hfz30_6
    try clear hfz30_7
    try clear hfz30_8
    try clear hfz30_9
    try clear hfz32_0
    try clear hfz32_1
    try clear hfz32_10
    try clear hfz32_11
    try clear hfz32_12
    try clear hfz32_13
    try clear hfz32_14
    try clear hfz32_15
    try clear hfz32_16
    try clear hfz32_17
    try clear hfz32_18
    try clear hfz32_19
    try clear hfz32_2
    try clear hfz32_3
    try clear hfz32_4
    try clear hfz32_5
    try clear hfz32_6
    try clear hfz32_7
    try clear hfz32_8
    try clear hfz32_9
    try clear hfz33_0
    try clear hfz33_1
    try clear hfz33_10
    try clear hfz33_11
    try clear hfz33_12
    try clear hfz33_13
    try clear hfz33_14
    try clear hfz33_15
    try clear hfz33_16
    try clear hfz33_17
    try clear hfz33_18
    try clear hfz33_19
    try clear hfz33_2
    try clear hfz33_3
    try clear hfz33_4
    try clear hfz33_5
    try clear hfz33_6
    try clear hfz33_7
    try clear hfz33_8
    try clear hfz33_9
    obtain ⟨kq, x50_1, rfl, HA, HJ1, BK149, HB⟩ := hcut
    cases kq with
    | zero => exact absurd HA.out (by simp [hutchref16_Right.j0])
    | succ kj1 =>
      have H := HA.out
      clear HA
      simp only [hutchref16_Right.j0] at H
      by_cases c35 : x50_1 = true
      · subst c35
        have H1 : (some false) = some r := by rw [if_pos rfl] at H; exact H
        clear H
        have H := H1
        clear H1
        obtain rfl := Option.some.inj H
        go_wp2
        go_ret
        exact ⟨by first | rfl | (simp [errW_none, errW_some] <;> rfl) | (simp [*, errW_none, errW_some] <;> rfl), by repeat (first | (with_reducible first | exact HB.out | apply below_alloc | apply pw_below_drewN | apply below_drew1 | refine below_set ?_ GE149.out) | exact HB.out)⟩
      · replace c35 := Bool.eq_false_iff.mpr c35
        subst c35
        have H1 : (hutchref16_Right.l0 kj1 0 a0_0 a0_1 a0_2 a0_3 a0_4 l0_5 l0_6 l0_7 a0_8 a0_9 a0_10 a0_11 a0_12 a0_13 a0_14 a0_15 a0_16 a0_17 a0_18 a0_19) = some r := by rw [if_neg (show ¬ (false = true) by decide)] at H; exact H
        clear H
        have H := H1
        clear H1
        have H' := Aside0.mk H
        clear H
        go_wp2
        go_loopg [3] kj1 (fun kq v3 w' => ∃ (x3_2 : Int), v3 = .int .i64 x3_2 ∧ Aside0 (hutchref16_Right.l0 kq x3_2 a0_0 a0_1 a0_2 a0_3 a0_4 l0_5 l0_6 l0_7 a0_8 a0_9 a0_10 a0_11 a0_12 a0_13 a0_14 a0_15 a0_16 a0_17 a0_18 a0_19 = some r) ∧ Aside0 (kq ≤ kj1) ∧ Aside0 (w'.heap[gb149]? = some (.cells #[.int .i64 a0_0, .int .i64 a0_1, .int .i64 a0_2, .int .i64 a0_3, .int .i64 a0_4, (.slice A0_5 l0_5.length c0_5), (.slice A0_6 l0_6.length c0_6), (.slice A0_7 l0_7.length c0_7), .int .i64 a0_8, .int .i64 a0_9, .int .u64 a0_10, .int .u64 a0_11, .int .u64 a0_12, .int .u64 a0_13, .int .u64 a0_14, .int .u64 a0_15, .int .u64 a0_16, .int .u64 a0_17, .int .u64 a0_18, .int .u64 a0_19] 38 (0, 0))) ∧ Aside0 (Below w.heap.size w w'))
        case atStart => exact ⟨(0), (by first | rfl | (simp; done) | (simp [*]; done)), H', ⟨Nat.le_refl _⟩, ⟨by (with_reducible repeat (first | refine blk_drewN ?_ _ | refine blk_drew ?_ | refine blk_alloc ?_ _)); exact BK149.out⟩, ⟨by repeat (first | (with_reducible first | exact HB.out | apply below_alloc | apply pw_below_drewN | apply below_drew1 | refine below_set ?_ GE149.out) | exact HB.out)⟩⟩
        case round =>
          clear H'
          try clear p2
          try clear c3
          try clear c35
          try clear hcz13_18
          try clear hcz13_19
          try clear hcz13_2
          try clear hcz13_3
          try clear hcz13_4
          try clear hcz13_5
          try clear hcz13_6
          try clear hcz13_7
          try clear hcz13_8
          try clear hcz13_9
          try clear hcz15_0
          try clear hcz15_1
          try clear hcz15_10
          try clear hcz15_11
          try clear hcz15_12
          try clear hcz15_13
          try clear hcz15_14
          try clear hcz15_15
          try clear hcz15_16
          try clear hcz15_17
          try clear hcz15_18
          try clear hcz15_19
          try clear hcz15_2
          try clear hcz15_3
          try clear hcz15_4
          try clear hcz15_5
          try clear hcz15_6
          try clear hcz15_7
          try clear hcz15_8
          try clear hcz15_9
          try clear hcz17_0
          try clear hcz17_1
          try clear hcz17_10
          try clear hcz17_11
          try clear hcz17_12
          try clear hcz17_13
          try clear hcz17_14
          try clear hcz17_15
          try clear hcz17_16
          try clear hcz17_17
          try clear hcz17_18
          try clear hcz17_19
          try clear hcz17_2
          try clear hcz17_3
          try clear hcz17_4
          try clear hcz17_5
          try clear hcz17_6
          try clear hcz17_7
          try clear hcz17_8
          try clear hcz17_9
          try clear hcz18_0
          try clear hcz18_1
          try clear hcz18_10
          try clear hcz18_11
          try clear hcz18_12
          try clear hcz18_13
          try clear hcz18_14
          try clear hcz18_15
          try clear hcz18_16
          try clear hcz18_17
          try clear hcz18_18
          try clear hcz18_19
          try clear hcz18_2
          try clear hcz18_3
          try clear hcz18_4
          try clear hcz18_5
          try clear hcz18_6
          try clear hcz18_7
          try clear hcz18_8
          try clear hcz18_9
          try clear hcz20_0
          try clear hcz20_1
          try clear hcz20_10
          try clear hcz20_11
          try clear hcz20_12
          try clear hcz20_13
          try clear hcz20_14
          try clear hcz20_15
          try clear hcz20_16
          try clear hcz20_17
          try clear hcz20_18
          try clear hcz20_19
          try clear hcz20_2
          try clear hcz20_3
          try clear hcz20_4
          try clear hcz20_5
          try clear hcz20_6
          try clear hcz20_7
          try clear hcz20_8
          try clear hcz20_9
          try clear hcz21_0
          try clear hcz21_1
          try clear hcz21_10
          try clear hcz21_11
          try clear hcz21_12
          try clear hcz21_13
          try clear hcz21_14
          try clear hcz21_15
          try clear hcz21_16
          try clear hcz21_17
          try clear hcz21_18
          try clear hcz21_19
          try clear hcz21_2
          try clear hcz21_3
          try clear hcz21_4
          try clear hcz21_5
          try clear hcz21_6
          try clear hcz21_7
          try clear hcz21_8
          try clear hcz21_9
          try clear hcz23_0
          try clear hcz23_1
          try clear hcz23_10
          try clear hcz23_11
          try clear hcz23_12
          try clear hcz23_13
          try clear hcz23_14
          try clear hcz23_15
          try clear hcz23_16
          try clear hcz23_17
          try clear hcz23_18
          try clear hcz23_19
          try clear hcz23_2
          try clear hcz23_3
          try clear hcz23_4
          try clear hcz23_5
          try clear hcz23_6
          try clear hcz23_7
          try clear hcz23_8
          try clear hcz23_9
          try clear hcz24_0
          try clear hcz24_1
          try clear hcz24_10
          try clear hcz24_11
          try clear hcz24_12
          try clear hcz24_13
          try clear hcz24_14
          try clear hcz24_15
          try clear hcz24_16
          try clear hcz24_17
          try clear hcz24_18
          try clear hcz24_19
          try clear hcz24_2
          try clear hcz24_3
          try clear hcz24_4
          try clear hcz24_5
          try clear hcz24_6
          try clear hcz24_7
          try clear hcz24_8
          try clear hcz24_9
          try clear hcz26_0
          try clear hcz26_1
          try clear hcz26_10
          try clear hcz26_11
          try clear hcz26_12
          try clear hcz26_13
          try clear hcz26_14
          try clear hcz26_15
          try clear hcz26_16
          try clear hcz26_17
          try clear hcz26_18
          try clear hcz26_19
          try clear hcz26_2
          try clear hcz26_3
          try clear hcz26_4
          try clear hcz26_5
          try clear hcz26_6
          try clear hcz26_7
          try clear hcz26_8
          try clear hcz26_9
          try clear hcz27_0
          try clear hcz27_1
          try clear hcz27_10
          try clear hcz27_11
          try clear hcz27_12
          try clear hcz27_13
          try clear hcz27_14
          try clear hcz27_15
          try clear hcz27_16
          try clear hcz27_17
          try clear hcz27_18
          try clear hcz27_19
          try clear hcz27_2
          try clear hcz27_3
          try clear hcz27_4
          try clear hcz27_5
          try clear hcz27_6
          try clear hcz27_7
          try clear hcz27_8
          try clear hcz27_9
          try clear hcz29_0
          try clear hcz29_1
          try clear hcz29_10
          try clear hcz29_11
          try clear hcz29_12
          try clear hcz29_13
          try clear hcz29_14
          try clear hcz29_15
          try clear hcz29_16
          try clear hcz29_17
          try clear hcz29_18
          try clear hcz29_19
          try clear hcz29_2
          try clear hcz29_3
          try clear hcz29_4
          try clear hcz29_5
          try clear hcz29_6
          try clear hcz29_7
          try clear hcz29_8
          try clear hcz29_9
          try clear hcz30_0
          try clear hcz30_1
          try clear hcz30_10
          try clear hcz30_11
          try clear hcz30_12
          try clear hcz30_13
          try clear hcz30_14
          try clear hcz30_15
          try clear hcz30_16
          try clear hcz30_17
          try clear hcz30_18
          try clear hcz30_19
          try clear hcz30_2
          try clear hcz30_3
          try clear hcz30_4
          try clear hcz30_5
          try clear hcz30_6
          try clear hcz30_7
          try clear hcz30_8
          try clear hcz30_9
          try clear hcz32_0
          try clear hcz32_1
          try clear hcz32_10
          try clear hcz32_11
          try clear hcz32_12
          try clear hcz32_13
          try clear hcz32_14
          try clear hcz32_15
          try clear hcz32_16
          try clear hcz32_17
          try clear hcz32_18
          try clear hcz32_19
          try clear hcz32_2
          try clear hcz32_3
          try clear hcz32_4
          try clear hcz32_5
          try clear hcz32_6
          try clear hcz32_7
          try clear hcz32_8
          try clear hcz32_9
          try clear hcz33_0
          try clear hcz33_1
          try clear hcz33_10
          try clear hcz33_11
          try clear hcz33_12
          try clear hcz33_13
          try clear hcz33_14
          try clear hcz33_15
          try clear hcz33_16
          try clear hcz33_17
          try clear hcz33_18
          try clear hcz33_19
          try clear hcz33_2
          try clear hcz33_3
          try clear hcz33_4
          try clear hcz33_5
          try clear hcz33_6
          try clear hcz33_7
          try clear hcz33_8
          try clear hcz33_9
          try clear hfz11_0
          try clear hfz11_1
          try clear hfz11_10
          try clear hfz11_11
          try clear hfz11_12
          try clear hfz11_13
          try clear hfz11_14
          try clear hfz11_15
          try clear hfz11_16
          try clear hfz11_17
          try clear hfz11_18
          try clear hfz11_19
          try clear hfz11_2
          try clear hfz11_3
          try clear hfz11_4
          try clear hfz11_5
          try clear hfz11_6
          try clear hfz11_7
          try clear hfz11_8
          try clear hfz11_9
          try clear hfz13_0
          try clear hfz13_1
          try clear hfz13_10
          try clear hfz13_11
          try clear hfz13_12
          try clear hfz13_13
          try clear hfz13_14
          try clear hfz13_15
          try clear hfz13_16
          try clear hfz13_17
          try clear hfz13_18
          try clear hfz13_19
          try clear hfz13_2
          try clear hfz13_3
          try clear hfz13_4
          try clear hfz13_5
          try clear hfz13_6
          try clear hfz13_7
          try clear hfz13_8
          try clear hfz13_9
          try clear hfz15_0
          try clear hfz15_1
          try clear hfz15_10
          try clear hfz15_11
          try clear hfz15_12
          try clear hfz15_13
          try clear hfz15_14
          try clear hfz15_15
          try clear hfz15_16
          try clear hfz15_17
          try clear hfz15_18
          try clear hfz15_19
          try clear hfz15_2
          try clear hfz15_3
          try clear hfz15_4
          try clear hfz15_5
          try clear hfz15_6
          try clear hfz15_7
          try clear hfz15_8
          try clear hfz15_9
          try clear hfz17_0
          try clear hfz17_1
          try clear hfz17_10
          try clear hfz17_11
          try clear hfz17_12
          try clear hfz17_13
          try clear hfz17_14
          try clear hfz17_15
          try clear hfz17_16
          try clear hfz17_17
          try clear hfz17_18
          try clear hfz17_19
          try clear hfz17_2
          try clear hfz17_3
          try clear hfz17_4
          try clear hfz17_5
          try clear hfz17_6
          try clear hfz17_7
          try clear hfz17_8
          try clear hfz17_9
          try clear hfz18_0
          try clear hfz18_1
          try clear hfz18_10
          try clear hfz18_11
          try clear hfz18_12
          try clear hfz18_13
          try clear hfz18_14
          try clear hfz18_15
          try clear hfz18_16
          try clear hfz18_17
          try clear hfz18_18
          try clear hfz18_19
          try clear hfz18_2
          try clear hfz18_3
          try clear hfz18_4
          try clear hfz18_5
          try clear hfz18_6
          try clear hfz18_7
          try clear hfz18_8
          try clear hfz18_9
          try clear hfz20_0
          try clear hfz20_1
          try clear hfz20_10
          try clear hfz20_11
          try clear hfz20_12
          try clear hfz20_13
          try clear hfz20_14
          try clear hfz20_15
          try clear hfz20_16
          try clear hfz20_17
          try clear hfz20_18
          try clear hfz20_19
          try clear hfz20_2
          try clear hfz20_3
          try clear hfz20_4
          try clear hfz20_5
          try clear hfz20_6
          try clear hfz20_7
          try clear hfz20_8
          try clear hfz20_9
          try clear hfz21_0
          try clear hfz21_1
          try clear hfz21_10
          try clear hfz21_11
          try clear hfz21_12
          try clear hfz21_13
          try clear hfz21_14
          try clear hfz21_15
          try clear hfz21_16
          try clear hfz21_17
          try clear hfz21_18
          try clear hfz21_19
          try clear hfz21_2
          try clear hfz21_3
          try clear hfz21_4
          try clear hfz21_5
          try clear hfz21_6
          try clear hfz21_7
          try clear hfz21_8
          try clear hfz21_9
          try clear hfz23_0
          try clear hfz23_1
          try clear hfz23_10
          try clear hfz23_11
          try clear hfz23_12
          try clear hfz23_13
          try clear hfz23_14
          try clear hfz23_15
          try clear hfz23_16
          try clear hfz23_17
          try clear hfz23_18
          try clear hfz23_19
          try clear hfz23_2
          try clear hfz23_3
          try clear hfz23_4
          try clear hfz23_5
          try clear hfz23_6
          try clear hfz23_7
          try clear hfz23_8
          try clear hfz23_9
          try clear hfz24_0
          try clear hfz24_1
          try clear hfz24_10
          try clear hfz24_11
          try clear hfz24_12
          try clear hfz24_13
          try clear hfz24_14
          try clear hfz24_15
          try clear hfz24_16
          try clear hfz24_17
          try clear hfz24_18
          try clear hfz24_19
          try clear hfz24_2
          try clear hfz24_3
          try clear hfz24_4
          try clear hfz24_5
          try clear hfz24_6
          try clear hfz24_7
          try clear hfz24_8
          try clear hfz24_9
          try clear hfz26_0
          try clear hfz26_1
          try clear hfz26_10
          try clear hfz26_11
          try clear hfz26_12
          try clear hfz26_13
          try clear hfz26_14
          try clear hfz26_15
          try clear hfz26_16
          try clear hfz26_17
          try clear hfz26_18
          try clear hfz26_19
          try clear hfz26_2
          try clear hfz26_3
          try clear hfz26_4
          try clear hfz26_5
          try clear hfz26_6
          try clear hfz26_7
          try clear hfz26_8
          try clear hfz26_9
          try clear hfz27_0
          try clear hfz27_1
          try clear hfz27_10
          try clear hfz27_11
          try clear hfz27_12
          try clear hfz27_13
          try clear hfz27_14
          try clear hfz27_15
          try clear hfz27_16
          try clear hfz27_17
          try clear hfz27_18
          try clear hfz27_19
          try clear hfz27_2
          try clear hfz27_3
          try clear hfz27_4
          try clear hfz27_5
          try clear hfz27_6
          try clear hfz27_7
          try clear hfz27_8
          try clear hfz27_9
          try clear hfz29_0
          try clear hfz29_1
          try clear hfz29_10
          try clear hfz29_11
          try clear hfz29_12
          try clear hfz29_13
          try clear hfz29_14
          try clear hfz29_15
          try clear hfz29_16
          try clear hfz29_17
          try clear hfz29_18
          try clear hfz29_19
          try clear hfz29_2
          try clear hfz29_3
          try clear hfz29_4
          try clear hfz29_5
          try clear hfz29_6
          try clear hfz29_7
          try clear hfz29_8
          try clear hfz29_9
          try clear hfz30_0
          try clear hfz30_1
          try clear hfz30_10
          try clear hfz30_11
          try clear hfz30_12
          try clear hfz30_13
          try clear hfz30_14
          try clear hfz30_15
          try clear hfz30_16
          try clear hfz30_17
          try clear hfz30_18
          try clear hfz30_19
          try clear hfz30_2
          try clear hfz30_3
          try clear hfz30_4
          try clear hfz30_5
          try clear hfz30_6
          try clear hfz30_7
          try clear hfz30_8
          try clear hfz30_9
          try clear hfz32_0
          try clear hfz32_1
          try clear hfz32_10
          try clear hfz32_11
          try clear hfz32_12
          try clear hfz32_13
          try clear hfz32_14
          try clear hfz32_15
          try clear hfz32_16
          try clear hfz32_17
          try clear hfz32_18
          try clear hfz32_19
          try clear hfz32_2
          try clear hfz32_3
          try clear hfz32_4
          try clear hfz32_5
          try clear hfz32_6
          try clear hfz32_7
          try clear hfz32_8
          try clear hfz32_9
          try clear hfz33_0
          try clear hfz33_1
          try clear hfz33_10
          try clear hfz33_11
          try clear hfz33_12
          try clear hfz33_13
          try clear hfz33_14
          try clear hfz33_15
          try clear hfz33_16
          try clear hfz33_17
          try clear hfz33_18
          try clear hfz33_19
          try clear hfz33_2
          try clear hfz33_3
          try clear hfz33_4
          try clear hfz33_5
          try clear hfz33_6
          try clear hfz33_7
          try clear hfz33_8
          try clear hfz33_9
          obtain ⟨x3_2, rfl, HA, HK2, BK149, HB⟩ := hrel
          cases gk with
          | zero => exact absurd HA.out (by simp [hutchref16_Right.l0])
          | succ k2 =>
            have H := HA.out
            clear HA
            simp only [hutchref16_Right.l0] at H
            by_cases c36 : x3_2 < (l0_5.length : Int)
            · rw [if_pos c36] at H
              have c36b0 : decide (x3_2 < (l0_5.length : Int)) = true := decide_eq_true c36
              clear c36
              by_cases c37 : 0 ≤ x3_2
              · rw [if_pos c37] at H
                have c37b0 : decide (0 ≤ x3_2) = true := decide_eq_true c37
                clear c37
                by_cases c38 : ((rd_T42 l0_5 x3_2).f1) = 2
                · rw [if_pos c38] at H
                  have c38b0 : (((rd_T42 l0_5 x3_2).f1) == 2) = true := beq_iff_eq.mpr c38
                  have c38b1 : (((rd_T42 l0_5 x3_2).f1) != 2) = false := bne_eq_false_iff_eq.mpr c38
                  clear c38
                  obtain ⟨bq39, hbq39⟩ : ∃ b_ : Bool, b_ = ((rd_T42 l0_5 x3_2).f2) := ⟨_, rfl⟩
                  replace H : (if bq39 = true then (some false) else (if (rd_T42 l0_5 x3_2).f3 = true then (some false) else (hutchref16_Right.l0 k2 (wrap64 (x3_2 + 1)) a0_0 a0_1 a0_2 a0_3 a0_4 l0_5 l0_6 l0_7 a0_8 a0_9 a0_10 a0_11 a0_12 a0_13 a0_14 a0_15 a0_16 a0_17 a0_18 a0_19))) = some r := by rw [← hbq39] at H; exact H
                  have Nbq39 := Aside0.mk hbq39
                  clear hbq39
                  by_cases c40 : bq39 = true
                  · subst c40
                    have H1 : (some false) = some r := by rw [if_pos rfl] at H; exact H
                    clear H
                    have H := H1
                    clear H1
                    obtain rfl := Option.some.inj H
                    have hcz41_0 : wr.cell? ⟨gb149, 0, none⟩ = some (.int .i64 a0_0) := (blk_cell BK149.out 0).trans rfl
                    have hcz41_1 : wr.cell? ⟨gb149, 1, none⟩ = some (.int .i64 a0_1) := (blk_cell BK149.out 1).trans rfl
                    have hcz41_2 : wr.cell? ⟨gb149, 2, none⟩ = some (.int .i64 a0_2) := (blk_cell BK149.out 2).trans rfl
                    have hcz41_3 : wr.cell? ⟨gb149, 3, none⟩ = some (.int .i64 a0_3) := (blk_cell BK149.out 3).trans rfl
                    have hcz41_4 : wr.cell? ⟨gb149, 4, none⟩ = some (.int .i64 a0_4) := (blk_cell BK149.out 4).trans rfl
                    have hcz41_5 : wr.cell? ⟨gb149, 5, none⟩ = some (.slice A0_5 l0_5.length c0_5) := (blk_cell BK149.out 5).trans rfl
                    have hcz41_6 : wr.cell? ⟨gb149, 6, none⟩ = some (.slice A0_6 l0_6.length c0_6) := (blk_cell BK149.out 6).trans rfl
                    have hcz41_7 : wr.cell? ⟨gb149, 7, none⟩ = some (.slice A0_7 l0_7.length c0_7) := (blk_cell BK149.out 7).trans rfl
                    have hcz41_8 : wr.cell? ⟨gb149, 8, none⟩ = some (.int .i64 a0_8) := (blk_cell BK149.out 8).trans rfl
                    have hcz41_9 : wr.cell? ⟨gb149, 9, none⟩ = some (.int .i64 a0_9) := (blk_cell BK149.out 9).trans rfl
                    have hcz41_10 : wr.cell? ⟨gb149, 10, none⟩ = some (.int .u64 a0_10) := (blk_cell BK149.out 10).trans rfl
                    have hcz41_11 : wr.cell? ⟨gb149, 11, none⟩ = some (.int .u64 a0_11) := (blk_cell BK149.out 11).trans rfl
                    have hcz41_12 : wr.cell? ⟨gb149, 12, none⟩ = some (.int .u64 a0_12) := (blk_cell BK149.out 12).trans rfl
                    have hcz41_13 : wr.cell? ⟨gb149, 13, none⟩ = some (.int .u64 a0_13) := (blk_cell BK149.out 13).trans rfl
                    have hcz41_14 : wr.cell? ⟨gb149, 14, none⟩ = some (.int .u64 a0_14) := (blk_cell BK149.out 14).trans rfl
                    have hcz41_15 : wr.cell? ⟨gb149, 15, none⟩ = some (.int .u64 a0_15) := (blk_cell BK149.out 15).trans rfl
                    have hcz41_16 : wr.cell? ⟨gb149, 16, none⟩ = some (.int .u64 a0_16) := (blk_cell BK149.out 16).trans rfl
                    have hcz41_17 : wr.cell? ⟨gb149, 17, none⟩ = some (.int .u64 a0_17) := (blk_cell BK149.out 17).trans rfl
                    have hcz41_18 : wr.cell? ⟨gb149, 18, none⟩ = some (.int .u64 a0_18) := (blk_cell BK149.out 18).trans rfl
                    have hcz41_19 : wr.cell? ⟨gb149, 19, none⟩ = some (.int .u64 a0_19) := (blk_cell BK149.out 19).trans rfl
                    have hfz41_0 := blk_frozen BK149.out 0
                    have hfz41_1 := blk_frozen BK149.out 1
                    have hfz41_2 := blk_frozen BK149.out 2
                    have hfz41_3 := blk_frozen BK149.out 3
                    have hfz41_4 := blk_frozen BK149.out 4
                    have hfz41_5 := blk_frozen BK149.out 5
                    have hfz41_6 := blk_frozen BK149.out 6
                    have hfz41_7 := blk_frozen BK149.out 7
                    have hfz41_8 := blk_frozen BK149.out 8
                    have hfz41_9 := blk_frozen BK149.out 9
                    have hfz41_10 := blk_frozen BK149.out 10
                    have hfz41_11 := blk_frozen BK149.out 11
                    have hfz41_12 := blk_frozen BK149.out 12
                    have hfz41_13 := blk_frozen BK149.out 13
                    have hfz41_14 := blk_frozen BK149.out 14
                    have hfz41_15 := blk_frozen BK149.out 15
                    have hfz41_16 := blk_frozen BK149.out 16
                    have hfz41_17 := blk_frozen BK149.out 17
                    have hfz41_18 := blk_frozen BK149.out 18
                    have hfz41_19 := blk_frozen BK149.out 19
                    have p151 : 0 ≤ (x3_2 : Int) := of_decide_eq_true (by first | (with_reducible assumption) | assumption)
                    have q151 : x3_2 < (l0_5.length : Int) := of_decide_eq_true (by first | (with_reducible assumption) | assumption)
                    obtain ⟨ad151, e151, hx151_0, hx151_1, hx151_2, hx151_3⟩ := at_T42 HR0_5.out x3_2 p151 q151
                    (try rw [← Nbq39.out] at hx151_2)
                    (try rw [← Nbq39.out] at hx151_3)
                    cases e151
                    replace hx151_0 := (HB.out.cell (World.block_lt_of_cell? w _ hx151_0)).trans hx151_0
                    replace hx151_1 := (HB.out.cell (World.block_lt_of_cell? w _ hx151_1)).trans hx151_1
                    replace hx151_2 := (HB.out.cell (World.block_lt_of_cell? w _ hx151_2)).trans hx151_2
                    replace hx151_3 := (HB.out.cell (World.block_lt_of_cell? w _ hx151_3)).trans hx151_3
                    replace p151 := eq_true p151
                    replace q151 := eq_true q151
                    go_wp2_with (first | ((with_reducible refine gate_dst (N := 4) rfl ?_); (try (refine gate_guard (by rfl) ?_; dsimp only)); refine box_event ?hg (N := 4) ?hd (cs := #[.int .u64 0, .int .i64 0, .bool false, .bool false]) (t := 42) ?hr ?_; (case hd => rfl); (case hg => rfl); (case hr => first | (go_simp; done) | (go_simp; rfl)); intro gb152 hg w42 hbox hb; have n0_ := Aside0.mk (blk_below (g := gb149) (o := .cells #[.int .i64 a0_0, .int .i64 a0_1, .int .i64 a0_2, .int .i64 a0_3, .int .i64 a0_4, .slice (some ad151) l0_5.length c0_5, .slice A0_6 l0_6.length c0_6, .slice A0_7 l0_7.length c0_7, .int .i64 a0_8, .int .i64 a0_9, .int .u64 a0_10, .int .u64 a0_11, .int .u64 a0_12, .int .u64 a0_13, .int .u64 a0_14, .int .u64 a0_15, .int .u64 a0_16, .int .u64 a0_17, .int .u64 a0_18, .int .u64 a0_19] 38 (0, 0)) (by (with_reducible repeat (first | refine blk_drewN ?_ _ | refine blk_drew ?_ | refine blk_alloc ?_ _)); exact BK149.out) hb); have n1_ := Aside0.mk (below_step (by repeat (first | (with_reducible first | exact HB.out | apply below_alloc | apply pw_below_drewN | apply below_drew1 | refine below_set ?_ GE149.out) | exact HB.out)) hb); have n2_ := Aside0.mk (hbox); have n3_ := Aside0.mk ((by rw [hg]; exact (below_size (by repeat (first | (with_reducible first | exact HB.out | apply below_alloc | apply pw_below_drewN | apply below_drew1 | refine below_set ?_ GE149.out) | exact HB.out))) : w.heap.size ≤ gb152)); have n4_ := Aside0.mk ((by rw [hg]; exact (below_size (by repeat (first | (with_reducible first | exact HB.out | apply below_alloc | apply pw_below_drewN | apply below_drew1 | refine below_set ?_ GE149.out) | exact HB.out))) : w.heap.size ≤ gb152)); have n5_ := Aside0.mk ((by rw [hg]; exact Nat.ne_of_lt (blk_lt (g := gb149) (o := .cells #[.int .i64 a0_0, .int .i64 a0_1, .int .i64 a0_2, .int .i64 a0_3, .int .i64 a0_4, .slice (some ad151) l0_5.length c0_5, .slice A0_6 l0_6.length c0_6, .slice A0_7 l0_7.length c0_7, .int .i64 a0_8, .int .i64 a0_9, .int .u64 a0_10, .int .u64 a0_11, .int .u64 a0_12, .int .u64 a0_13, .int .u64 a0_14, .int .u64 a0_15, .int .u64 a0_16, .int .u64 a0_17, .int .u64 a0_18, .int .u64 a0_19] 38 (0, 0)) (by (with_reducible repeat (first | refine blk_drewN ?_ _ | refine blk_drew ?_ | refine blk_alloc ?_ _)); exact BK149.out)) : gb149 ≠ gb152)); have n6_ := Aside0.mk ((by rw [hg]; exact Nat.ne_of_gt (blk_lt (g := gb149) (o := .cells #[.int .i64 a0_0, .int .i64 a0_1, .int .i64 a0_2, .int .i64 a0_3, .int .i64 a0_4, .slice (some ad151) l0_5.length c0_5, .slice A0_6 l0_6.length c0_6, .slice A0_7 l0_7.length c0_7, .int .i64 a0_8, .int .i64 a0_9, .int .u64 a0_10, .int .u64 a0_11, .int .u64 a0_12, .int .u64 a0_13, .int .u64 a0_14, .int .u64 a0_15, .int .u64 a0_16, .int .u64 a0_17, .int .u64 a0_18, .int .u64 a0_19] 38 (0, 0)) (by (with_reducible repeat (first | refine blk_drewN ?_ _ | refine blk_drew ?_ | refine blk_alloc ?_ _)); exact BK149.out)) : gb152 ≠ gb149)); clear BK149; clear HB; have BK149 := n0_; have HB := n1_; have BK152 := n2_; have GW152 := n3_; have GE152 := n4_; have NB149_152 := n5_; have NB152_149 := n6_; clear n0_ n1_ n2_ n3_ n4_ n5_ n6_; clear hb hbox hg; have hnb43 := NB152_149.out; have hnc43 := NB149_152.out; have hcz44_0 : w42.cell? ⟨gb152, 0, none⟩ = some (.int .u64 0) := (blk_cell BK152.out 0).trans rfl; have hcz44_1 : w42.cell? ⟨gb152, 1, none⟩ = some (.int .i64 0) := (blk_cell BK152.out 1).trans rfl; have hcz44_2 : w42.cell? ⟨gb152, 2, none⟩ = some (.bool false) := (blk_cell BK152.out 2).trans rfl; have hcz44_3 : w42.cell? ⟨gb152, 3, none⟩ = some (.bool false) := (blk_cell BK152.out 3).trans rfl; have hfz44_0 := blk_frozen BK152.out 0; have hfz44_1 := blk_frozen BK152.out 1; have hfz44_2 := blk_frozen BK152.out 2; have hfz44_3 := blk_frozen BK152.out 3))
                    go_ret
                    exact ⟨by first | rfl | (simp [errW_none, errW_some] <;> rfl) | (simp [*, errW_none, errW_some] <;> rfl), by repeat (first | (with_reducible first | exact HB.out | apply below_alloc | apply pw_below_drewN | apply below_drew1 | refine below_set ?_ GE149.out | refine below_set ?_ GE152.out) | exact HB.out)⟩
                  · replace c40 := Bool.eq_false_iff.mpr c40
                    subst c40
                    have H1 : (if (rd_T42 l0_5 x3_2).f3 = true then (some false) else (hutchref16_Right.l0 k2 (wrap64 (x3_2 + 1)) a0_0 a0_1 a0_2 a0_3 a0_4 l0_5 l0_6 l0_7 a0_8 a0_9 a0_10 a0_11 a0_12 a0_13 a0_14 a0_15 a0_16 a0_17 a0_18 a0_19)) = some r := by rw [if_neg (show ¬ (false = true) by decide)] at H; exact H
                    clear H
                    have H := H1
                    clear H1
                    obtain ⟨bq45, hbq45⟩ : ∃ b_ : Bool, b_ = ((rd_T42 l0_5 x3_2).f3) := ⟨_, rfl⟩
                    replace H : (if bq45 = true then (some false) else (hutchref16_Right.l0 k2 (wrap64 (x3_2 + 1)) a0_0 a0_1 a0_2 a0_3 a0_4 l0_5 l0_6 l0_7 a0_8 a0_9 a0_10 a0_11 a0_12 a0_13 a0_14 a0_15 a0_16 a0_17 a0_18 a0_19)) = some r := by rw [← hbq45] at H; exact H
                    have Nbq45 := Aside0.mk hbq45
                    clear hbq45
                    by_cases c46 : bq45 = true
                    · subst c46
                      have H1 : (some false) = some r := by rw [if_pos rfl] at H; exact H
                      clear H
                      have H := H1
                      clear H1
                      obtain rfl := Option.some.inj H
                      have hcz47_0 : wr.cell? ⟨gb149, 0, none⟩ = some (.int .i64 a0_0) := (blk_cell BK149.out 0).trans rfl
                      have hcz47_1 : wr.cell? ⟨gb149, 1, none⟩ = some (.int .i64 a0_1) := (blk_cell BK149.out 1).trans rfl
                      have hcz47_2 : wr.cell? ⟨gb149, 2, none⟩ = some (.int .i64 a0_2) := (blk_cell BK149.out 2).trans rfl
                      have hcz47_3 : wr.cell? ⟨gb149, 3, none⟩ = some (.int .i64 a0_3) := (blk_cell BK149.out 3).trans rfl
                      have hcz47_4 : wr.cell? ⟨gb149, 4, none⟩ = some (.int .i64 a0_4) := (blk_cell BK149.out 4).trans rfl
                      have hcz47_5 : wr.cell? ⟨gb149, 5, none⟩ = some (.slice A0_5 l0_5.length c0_5) := (blk_cell BK149.out 5).trans rfl
                      have hcz47_6 : wr.cell? ⟨gb149, 6, none⟩ = some (.slice A0_6 l0_6.length c0_6) := (blk_cell BK149.out 6).trans rfl
                      have hcz47_7 : wr.cell? ⟨gb149, 7, none⟩ = some (.slice A0_7 l0_7.length c0_7) := (blk_cell BK149.out 7).trans rfl
                      have hcz47_8 : wr.cell? ⟨gb149, 8, none⟩ = some (.int .i64 a0_8) := (blk_cell BK149.out 8).trans rfl
                      have hcz47_9 : wr.cell? ⟨gb149, 9, none⟩ = some (.int .i64 a0_9) := (blk_cell BK149.out 9).trans rfl
                      have hcz47_10 : wr.cell? ⟨gb149, 10, none⟩ = some (.int .u64 a0_10) := (blk_cell BK149.out 10).trans rfl
                      have hcz47_11 : wr.cell? ⟨gb149, 11, none⟩ = some (.int .u64 a0_11) := (blk_cell BK149.out 11).trans rfl
                      have hcz47_12 : wr.cell? ⟨gb149, 12, none⟩ = some (.int .u64 a0_12) := (blk_cell BK149.out 12).trans rfl
                      have hcz47_13 : wr.cell? ⟨gb149, 13, none⟩ = some (.int .u64 a0_13) := (blk_cell BK149.out 13).trans rfl
                      have hcz47_14 : wr.cell? ⟨gb149, 14, none⟩ = some (.int .u64 a0_14) := (blk_cell BK149.out 14).trans rfl
                      have hcz47_15 : wr.cell? ⟨gb149, 15, none⟩ = some (.int .u64 a0_15) := (blk_cell BK149.out 15).trans rfl
                      have hcz47_16 : wr.cell? ⟨gb149, 16, none⟩ = some (.int .u64 a0_16) := (blk_cell BK149.out 16).trans rfl
                      have hcz47_17 : wr.cell? ⟨gb149, 17, none⟩ = some (.int .u64 a0_17) := (blk_cell BK149.out 17).trans rfl
                      have hcz47_18 : wr.cell? ⟨gb149, 18, none⟩ = some (.int .u64 a0_18) := (blk_cell BK149.out 18).trans rfl
                      have hcz47_19 : wr.cell? ⟨gb149, 19, none⟩ = some (.int .u64 a0_19) := (blk_cell BK149.out 19).trans rfl
                      have hfz47_0 := blk_frozen BK149.out 0
                      have hfz47_1 := blk_frozen BK149.out 1
                      have hfz47_2 := blk_frozen BK149.out 2
                      have hfz47_3 := blk_frozen BK149.out 3
                      have hfz47_4 := blk_frozen BK149.out 4
                      have hfz47_5 := blk_frozen BK149.out 5
                      have hfz47_6 := blk_frozen BK149.out 6
                      have hfz47_7 := blk_frozen BK149.out 7
                      have hfz47_8 := blk_frozen BK149.out 8
                      have hfz47_9 := blk_frozen BK149.out 9
                      have hfz47_10 := blk_frozen BK149.out 10
                      have hfz47_11 := blk_frozen BK149.out 11
                      have hfz47_12 := blk_frozen BK149.out 12
                      have hfz47_13 := blk_frozen BK149.out 13
                      have hfz47_14 := blk_frozen BK149.out 14
                      have hfz47_15 := blk_frozen BK149.out 15
                      have hfz47_16 := blk_frozen BK149.out 16
                      have hfz47_17 := blk_frozen BK149.out 17
                      have hfz47_18 := blk_frozen BK149.out 18
                      have hfz47_19 := blk_frozen BK149.out 19
                      have p151 : 0 ≤ (x3_2 : Int) := of_decide_eq_true (by first | (with_reducible assumption) | assumption)
                      have q151 : x3_2 < (l0_5.length : Int) := of_decide_eq_true (by first | (with_reducible assumption) | assumption)
                      obtain ⟨ad151, e151, hx151_0, hx151_1, hx151_2, hx151_3⟩ := at_T42 HR0_5.out x3_2 p151 q151
                      (try rw [← Nbq39.out] at hx151_2)
                      (try rw [← Nbq45.out] at hx151_2)
                      (try rw [← Nbq39.out] at hx151_3)
                      (try rw [← Nbq45.out] at hx151_3)
                      cases e151
                      replace hx151_0 := (HB.out.cell (World.block_lt_of_cell? w _ hx151_0)).trans hx151_0
                      replace hx151_1 := (HB.out.cell (World.block_lt_of_cell? w _ hx151_1)).trans hx151_1
                      replace hx151_2 := (HB.out.cell (World.block_lt_of_cell? w _ hx151_2)).trans hx151_2
                      replace hx151_3 := (HB.out.cell (World.block_lt_of_cell? w _ hx151_3)).trans hx151_3
                      replace p151 := eq_true p151
                      replace q151 := eq_true q151
                      go_wp2_with (first | ((with_reducible refine gate_dst (N := 4) rfl ?_); (try (refine gate_guard (by rfl) ?_; dsimp only)); refine box_event ?hg (N := 4) ?hd (cs := #[.int .u64 0, .int .i64 0, .bool false, .bool false]) (t := 42) ?hr ?_; (case hd => rfl); (case hg => rfl); (case hr => first | (go_simp; done) | (go_simp; rfl)); intro gb152 hg w48 hbox hb; have n0_ := Aside0.mk (blk_below (g := gb149) (o := .cells #[.int .i64 a0_0, .int .i64 a0_1, .int .i64 a0_2, .int .i64 a0_3, .int .i64 a0_4, .slice (some ad151) l0_5.length c0_5, .slice A0_6 l0_6.length c0_6, .slice A0_7 l0_7.length c0_7, .int .i64 a0_8, .int .i64 a0_9, .int .u64 a0_10, .int .u64 a0_11, .int .u64 a0_12, .int .u64 a0_13, .int .u64 a0_14, .int .u64 a0_15, .int .u64 a0_16, .int .u64 a0_17, .int .u64 a0_18, .int .u64 a0_19] 38 (0, 0)) (by (with_reducible repeat (first | refine blk_drewN ?_ _ | refine blk_drew ?_ | refine blk_alloc ?_ _)); exact BK149.out) hb); have n1_ := Aside0.mk (below_step (by repeat (first | (with_reducible first | exact HB.out | apply below_alloc | apply pw_below_drewN | apply below_drew1 | refine below_set ?_ GE149.out) | exact HB.out)) hb); have n2_ := Aside0.mk (hbox); have n3_ := Aside0.mk ((by rw [hg]; exact (below_size (by repeat (first | (with_reducible first | exact HB.out | apply below_alloc | apply pw_below_drewN | apply below_drew1 | refine below_set ?_ GE149.out) | exact HB.out))) : w.heap.size ≤ gb152)); have n4_ := Aside0.mk ((by rw [hg]; exact (below_size (by repeat (first | (with_reducible first | exact HB.out | apply below_alloc | apply pw_below_drewN | apply below_drew1 | refine below_set ?_ GE149.out) | exact HB.out))) : w.heap.size ≤ gb152)); have n5_ := Aside0.mk ((by rw [hg]; exact Nat.ne_of_lt (blk_lt (g := gb149) (o := .cells #[.int .i64 a0_0, .int .i64 a0_1, .int .i64 a0_2, .int .i64 a0_3, .int .i64 a0_4, .slice (some ad151) l0_5.length c0_5, .slice A0_6 l0_6.length c0_6, .slice A0_7 l0_7.length c0_7, .int .i64 a0_8, .int .i64 a0_9, .int .u64 a0_10, .int .u64 a0_11, .int .u64 a0_12, .int .u64 a0_13, .int .u64 a0_14, .int .u64 a0_15, .int .u64 a0_16, .int .u64 a0_17, .int .u64 a0_18, .int .u64 a0_19] 38 (0, 0)) (by (with_reducible repeat (first | refine blk_drewN ?_ _ | refine blk_drew ?_ | refine blk_alloc ?_ _)); exact BK149.out)) : gb149 ≠ gb152)); have n6_ := Aside0.mk ((by rw [hg]; exact Nat.ne_of_gt (blk_lt (g := gb149) (o := .cells #[.int .i64 a0_0, .int .i64 a0_1, .int .i64 a0_2, .int .i64 a0_3, .int .i64 a0_4, .slice (some ad151) l0_5.length c0_5, .slice A0_6 l0_6.length c0_6, .slice A0_7 l0_7.length c0_7, .int .i64 a0_8, .int .i64 a0_9, .int .u64 a0_10, .int .u64 a0_11, .int .u64 a0_12, .int .u64 a0_13, .int .u64 a0_14, .int .u64 a0_15, .int .u64 a0_16, .int .u64 a0_17, .int .u64 a0_18, .int .u64 a0_19] 38 (0, 0)) (by (with_reducible repeat (first | refine blk_drewN ?_ _ | refine blk_drew ?_ | refine blk_alloc ?_ _)); exact BK149.out)) : gb152 ≠ gb149)); clear BK149; clear HB; have BK149 := n0_; have HB := n1_; have BK152 := n2_; have GW152 := n3_; have GE152 := n4_; have NB149_152 := n5_; have NB152_149 := n6_; clear n0_ n1_ n2_ n3_ n4_ n5_ n6_; clear hb hbox hg; have hnb49 := NB152_149.out; have hnc49 := NB149_152.out; have hcz50_0 : w48.cell? ⟨gb152, 0, none⟩ = some (.int .u64 0) := (blk_cell BK152.out 0).trans rfl; have hcz50_1 : w48.cell? ⟨gb152, 1, none⟩ = some (.int .i64 0) := (blk_cell BK152.out 1).trans rfl; have hcz50_2 : w48.cell? ⟨gb152, 2, none⟩ = some (.bool false) := (blk_cell BK152.out 2).trans rfl; have hcz50_3 : w48.cell? ⟨gb152, 3, none⟩ = some (.bool false) := (blk_cell BK152.out 3).trans rfl; have hfz50_0 := blk_frozen BK152.out 0; have hfz50_1 := blk_frozen BK152.out 1; have hfz50_2 := blk_frozen BK152.out 2; have hfz50_3 := blk_frozen BK152.out 3))
                      go_ret
                      exact ⟨by first | rfl | (simp [errW_none, errW_some] <;> rfl) | (simp [*, errW_none, errW_some] <;> rfl), by repeat (first | (with_reducible first | exact HB.out | apply below_alloc | apply pw_below_drewN | apply below_drew1 | refine below_set ?_ GE149.out | refine below_set ?_ GE152.out) | exact HB.out)⟩
                    · replace c46 := Bool.eq_false_iff.mpr c46
                      subst c46
                      have H1 : (hutchref16_Right.l0 k2 (wrap64 (x3_2 + 1)) a0_0 a0_1 a0_2 a0_3 a0_4 l0_5 l0_6 l0_7 a0_8 a0_9 a0_10 a0_11 a0_12 a0_13 a0_14 a0_15 a0_16 a0_17 a0_18 a0_19) = some r := by rw [if_neg (show ¬ (false = true) by decide)] at H; exact H
                      clear H
                      have H := H1
                      clear H1
                      have H' := Aside0.mk H
                      clear H
                      have hcz51_0 : wr.cell? ⟨gb149, 0, none⟩ = some (.int .i64 a0_0) := (blk_cell BK149.out 0).trans rfl
                      have hcz51_1 : wr.cell? ⟨gb149, 1, none⟩ = some (.int .i64 a0_1) := (blk_cell BK149.out 1).trans rfl
                      have hcz51_2 : wr.cell? ⟨gb149, 2, none⟩ = some (.int .i64 a0_2) := (blk_cell BK149.out 2).trans rfl
                      have hcz51_3 : wr.cell? ⟨gb149, 3, none⟩ = some (.int .i64 a0_3) := (blk_cell BK149.out 3).trans rfl
                      have hcz51_4 : wr.cell? ⟨gb149, 4, none⟩ = some (.int .i64 a0_4) := (blk_cell BK149.out 4).trans rfl
                      have hcz51_5 : wr.cell? ⟨gb149, 5, none⟩ = some (.slice A0_5 l0_5.length c0_5) := (blk_cell BK149.out 5).trans rfl
                      have hcz51_6 : wr.cell? ⟨gb149, 6, none⟩ = some (.slice A0_6 l0_6.length c0_6) := (blk_cell BK149.out 6).trans rfl
                      have hcz51_7 : wr.cell? ⟨gb149, 7, none⟩ = some (.slice A0_7 l0_7.length c0_7) := (blk_cell BK149.out 7).trans rfl
                      have hcz51_8 : wr.cell? ⟨gb149, 8, none⟩ = some (.int .i64 a0_8) := (blk_cell BK149.out 8).trans rfl
                      have hcz51_9 : wr.cell? ⟨gb149, 9, none⟩ = some (.int .i64 a0_9) := (blk_cell BK149.out 9).trans rfl
                      have hcz51_10 : wr.cell? ⟨gb149, 10, none⟩ = some (.int .u64 a0_10) := (blk_cell BK149.out 10).trans rfl
                      have hcz51_11 : wr.cell? ⟨gb149, 11, none⟩ = some (.int .u64 a0_11) := (blk_cell BK149.out 11).trans rfl
                      have hcz51_12 : wr.cell? ⟨gb149, 12, none⟩ = some (.int .u64 a0_12) := (blk_cell BK149.out 12).trans rfl
                      have hcz51_13 : wr.cell? ⟨gb149, 13, none⟩ = some (.int .u64 a0_13) := (blk_cell BK149.out 13).trans rfl
                      have hcz51_14 : wr.cell? ⟨gb149, 14, none⟩ = some (.int .u64 a0_14) := (blk_cell BK149.out 14).trans rfl
                      have hcz51_15 : wr.cell? ⟨gb149, 15, none⟩ = some (.int .u64 a0_15) := (blk_cell BK149.out 15).trans rfl
                      have hcz51_16 : wr.cell? ⟨gb149, 16, none⟩ = some (.int .u64 a0_16) := (blk_cell BK149.out 16).trans rfl
                      have hcz51_17 : wr.cell? ⟨gb149, 17, none⟩ = some (.int .u64 a0_17) := (blk_cell BK149.out 17).trans rfl
                      have hcz51_18 : wr.cell? ⟨gb149, 18, none⟩ = some (.int .u64 a0_18) := (blk_cell BK149.out 18).trans rfl
                      have hcz51_19 : wr.cell? ⟨gb149, 19, none⟩ = some (.int .u64 a0_19) := (blk_cell BK149.out 19).trans rfl
                      have hfz51_0 := blk_frozen BK149.out 0
                      have hfz51_1 := blk_frozen BK149.out 1
                      have hfz51_2 := blk_frozen BK149.out 2
                      have hfz51_3 := blk_frozen BK149.out 3
                      have hfz51_4 := blk_frozen BK149.out 4
                      have hfz51_5 := blk_frozen BK149.out 5
                      have hfz51_6 := blk_frozen BK149.out 6
                      have hfz51_7 := blk_frozen BK149.out 7
                      have hfz51_8 := blk_frozen BK149.out 8
                      have hfz51_9 := blk_frozen BK149.out 9
                      have hfz51_10 := blk_frozen BK149.out 10
                      have hfz51_11 := blk_frozen BK149.out 11
                      have hfz51_12 := blk_frozen BK149.out 12
                      have hfz51_13 := blk_frozen BK149.out 13
                      have hfz51_14 := blk_frozen BK149.out 14
                      have hfz51_15 := blk_frozen BK149.out 15
                      have hfz51_16 := blk_frozen BK149.out 16
                      have hfz51_17 := blk_frozen BK149.out 17
                      have hfz51_18 := blk_frozen BK149.out 18
                      have hfz51_19 := blk_frozen BK149.out 19
                      have p151 : 0 ≤ (x3_2 : Int) := of_decide_eq_true (by first | (with_reducible assumption) | assumption)
                      have q151 : x3_2 < (l0_5.length : Int) := of_decide_eq_true (by first | (with_reducible assumption) | assumption)
                      obtain ⟨ad151, e151, hx151_0, hx151_1, hx151_2, hx151_3⟩ := at_T42 HR0_5.out x3_2 p151 q151
                      (try rw [← Nbq39.out] at hx151_2)
                      (try rw [← Nbq45.out] at hx151_2)
                      (try rw [← Nbq39.out] at hx151_3)
                      (try rw [← Nbq45.out] at hx151_3)
                      cases e151
                      replace hx151_0 := (HB.out.cell (World.block_lt_of_cell? w _ hx151_0)).trans hx151_0
                      replace hx151_1 := (HB.out.cell (World.block_lt_of_cell? w _ hx151_1)).trans hx151_1
                      replace hx151_2 := (HB.out.cell (World.block_lt_of_cell? w _ hx151_2)).trans hx151_2
                      replace hx151_3 := (HB.out.cell (World.block_lt_of_cell? w _ hx151_3)).trans hx151_3
                      replace p151 := eq_true p151
                      replace q151 := eq_true q151
                      go_wp2_with (first | ((with_reducible refine gate_dst (N := 4) rfl ?_); (try (refine gate_guard (by rfl) ?_; dsimp only)); refine box_event ?hg (N := 4) ?hd (cs := #[.int .u64 0, .int .i64 0, .bool false, .bool false]) (t := 42) ?hr ?_; (case hd => rfl); (case hg => rfl); (case hr => first | (go_simp; done) | (go_simp; rfl)); intro gb152 hg w52 hbox hb; have n0_ := Aside0.mk (blk_below (g := gb149) (o := .cells #[.int .i64 a0_0, .int .i64 a0_1, .int .i64 a0_2, .int .i64 a0_3, .int .i64 a0_4, .slice (some ad151) l0_5.length c0_5, .slice A0_6 l0_6.length c0_6, .slice A0_7 l0_7.length c0_7, .int .i64 a0_8, .int .i64 a0_9, .int .u64 a0_10, .int .u64 a0_11, .int .u64 a0_12, .int .u64 a0_13, .int .u64 a0_14, .int .u64 a0_15, .int .u64 a0_16, .int .u64 a0_17, .int .u64 a0_18, .int .u64 a0_19] 38 (0, 0)) (by (with_reducible repeat (first | refine blk_drewN ?_ _ | refine blk_drew ?_ | refine blk_alloc ?_ _)); exact BK149.out) hb); have n1_ := Aside0.mk (below_step (by repeat (first | (with_reducible first | exact HB.out | apply below_alloc | apply pw_below_drewN | apply below_drew1 | refine below_set ?_ GE149.out) | exact HB.out)) hb); have n2_ := Aside0.mk (hbox); have n3_ := Aside0.mk ((by rw [hg]; exact (below_size (by repeat (first | (with_reducible first | exact HB.out | apply below_alloc | apply pw_below_drewN | apply below_drew1 | refine below_set ?_ GE149.out) | exact HB.out))) : w.heap.size ≤ gb152)); have n4_ := Aside0.mk ((by rw [hg]; exact (below_size (by repeat (first | (with_reducible first | exact HB.out | apply below_alloc | apply pw_below_drewN | apply below_drew1 | refine below_set ?_ GE149.out) | exact HB.out))) : w.heap.size ≤ gb152)); have n5_ := Aside0.mk ((by rw [hg]; exact Nat.ne_of_lt (blk_lt (g := gb149) (o := .cells #[.int .i64 a0_0, .int .i64 a0_1, .int .i64 a0_2, .int .i64 a0_3, .int .i64 a0_4, .slice (some ad151) l0_5.length c0_5, .slice A0_6 l0_6.length c0_6, .slice A0_7 l0_7.length c0_7, .int .i64 a0_8, .int .i64 a0_9, .int .u64 a0_10, .int .u64 a0_11, .int .u64 a0_12, .int .u64 a0_13, .int .u64 a0_14, .int .u64 a0_15, .int .u64 a0_16, .int .u64 a0_17, .int .u64 a0_18, .int .u64 a0_19] 38 (0, 0)) (by (with_reducible repeat (first | refine blk_drewN ?_ _ | refine blk_drew ?_ | refine blk_alloc ?_ _)); exact BK149.out)) : gb149 ≠ gb152)); have n6_ := Aside0.mk ((by rw [hg]; exact Nat.ne_of_gt (blk_lt (g := gb149) (o := .cells #[.int .i64 a0_0, .int .i64 a0_1, .int .i64 a0_2, .int .i64 a0_3, .int .i64 a0_4, .slice (some ad151) l0_5.length c0_5, .slice A0_6 l0_6.length c0_6, .slice A0_7 l0_7.length c0_7, .int .i64 a0_8, .int .i64 a0_9, .int .u64 a0_10, .int .u64 a0_11, .int .u64 a0_12, .int .u64 a0_13, .int .u64 a0_14, .int .u64 a0_15, .int .u64 a0_16, .int .u64 a0_17, .int .u64 a0_18, .int .u64 a0_19] 38 (0, 0)) (by (with_reducible repeat (first | refine blk_drewN ?_ _ | refine blk_drew ?_ | refine blk_alloc ?_ _)); exact BK149.out)) : gb152 ≠ gb149)); clear BK149; clear HB; have BK149 := n0_; have HB := n1_; have BK152 := n2_; have GW152 := n3_; have GE152 := n4_; have NB149_152 := n5_; have NB152_149 := n6_; clear n0_ n1_ n2_ n3_ n4_ n5_ n6_; clear hb hbox hg; have hnb53 := NB152_149.out; have hnc53 := NB149_152.out; have hcz54_0 : w52.cell? ⟨gb152, 0, none⟩ = some (.int .u64 0) := (blk_cell BK152.out 0).trans rfl; have hcz54_1 : w52.cell? ⟨gb152, 1, none⟩ = some (.int .i64 0) := (blk_cell BK152.out 1).trans rfl; have hcz54_2 : w52.cell? ⟨gb152, 2, none⟩ = some (.bool false) := (blk_cell BK152.out 2).trans rfl; have hcz54_3 : w52.cell? ⟨gb152, 3, none⟩ = some (.bool false) := (blk_cell BK152.out 3).trans rfl; have hfz54_0 := blk_frozen BK152.out 0; have hfz54_1 := blk_frozen BK152.out 1; have hfz54_2 := blk_frozen BK152.out 2; have hfz54_3 := blk_frozen BK152.out 3))
                      go_roundg k2
                      case measure => have := HJ1.out; have := HK2.out; omega
                      case rel => exact ⟨(wrap64 (x3_2 + 1)), (by first | rfl | (simp; done) | (simp [*]; done)), H', ⟨by have := HJ1.out; have := HK2.out; omega⟩, ⟨by (with_reducible repeat (first | refine blk_drewN ?_ _ | refine blk_drew ?_ | refine blk_alloc ?_ _)); refine blk_far ?_ NB149_152.out _; (with_reducible repeat (first | refine blk_drewN ?_ _ | refine blk_drew ?_ | refine blk_alloc ?_ _)); refine blk_far ?_ NB149_152.out _; (with_reducible repeat (first | refine blk_drewN ?_ _ | refine blk_drew ?_ | refine blk_alloc ?_ _)); refine blk_far ?_ NB149_152.out _; (with_reducible repeat (first | refine blk_drewN ?_ _ | refine blk_drew ?_ | refine blk_alloc ?_ _)); refine blk_far ?_ NB149_152.out _; (with_reducible repeat (first | refine blk_drewN ?_ _ | refine blk_drew ?_ | refine blk_alloc ?_ _)); exact BK149.out⟩, ⟨by repeat (first | (with_reducible first | exact HB.out | apply below_alloc | apply pw_below_drewN | apply below_drew1 | refine below_set ?_ GE149.out | refine below_set ?_ GE152.out) | exact HB.out)⟩⟩
                · rw [if_neg c38] at H
                  have c38b0 : (((rd_T42 l0_5 x3_2).f1) == 2) = false := beq_eq_false_iff_ne.mpr c38
                  have c38b1 : (((rd_T42 l0_5 x3_2).f1) != 2) = true := bne_iff_ne.mpr c38
                  obtain rfl := Option.some.inj H
                  have hcz55_0 : wr.cell? ⟨gb149, 0, none⟩ = some (.int .i64 a0_0) := (blk_cell BK149.out 0).trans rfl
                  have hcz55_1 : wr.cell? ⟨gb149, 1, none⟩ = some (.int .i64 a0_1) := (blk_cell BK149.out 1).trans rfl
                  have hcz55_2 : wr.cell? ⟨gb149, 2, none⟩ = some (.int .i64 a0_2) := (blk_cell BK149.out 2).trans rfl
                  have hcz55_3 : wr.cell? ⟨gb149, 3, none⟩ = some (.int .i64 a0_3) := (blk_cell BK149.out 3).trans rfl
                  have hcz55_4 : wr.cell? ⟨gb149, 4, none⟩ = some (.int .i64 a0_4) := (blk_cell BK149.out 4).trans rfl
                  have hcz55_5 : wr.cell? ⟨gb149, 5, none⟩ = some (.slice A0_5 l0_5.length c0_5) := (blk_cell BK149.out 5).trans rfl
                  have hcz55_6 : wr.cell? ⟨gb149, 6, none⟩ = some (.slice A0_6 l0_6.length c0_6) := (blk_cell BK149.out 6).trans rfl
                  have hcz55_7 : wr.cell? ⟨gb149, 7, none⟩ = some (.slice A0_7 l0_7.length c0_7) := (blk_cell BK149.out 7).trans rfl
                  have hcz55_8 : wr.cell? ⟨gb149, 8, none⟩ = some (.int .i64 a0_8) := (blk_cell BK149.out 8).trans rfl
                  have hcz55_9 : wr.cell? ⟨gb149, 9, none⟩ = some (.int .i64 a0_9) := (blk_cell BK149.out 9).trans rfl
                  have hcz55_10 : wr.cell? ⟨gb149, 10, none⟩ = some (.int .u64 a0_10) := (blk_cell BK149.out 10).trans rfl
                  have hcz55_11 : wr.cell? ⟨gb149, 11, none⟩ = some (.int .u64 a0_11) := (blk_cell BK149.out 11).trans rfl
                  have hcz55_12 : wr.cell? ⟨gb149, 12, none⟩ = some (.int .u64 a0_12) := (blk_cell BK149.out 12).trans rfl
                  have hcz55_13 : wr.cell? ⟨gb149, 13, none⟩ = some (.int .u64 a0_13) := (blk_cell BK149.out 13).trans rfl
                  have hcz55_14 : wr.cell? ⟨gb149, 14, none⟩ = some (.int .u64 a0_14) := (blk_cell BK149.out 14).trans rfl
                  have hcz55_15 : wr.cell? ⟨gb149, 15, none⟩ = some (.int .u64 a0_15) := (blk_cell BK149.out 15).trans rfl
                  have hcz55_16 : wr.cell? ⟨gb149, 16, none⟩ = some (.int .u64 a0_16) := (blk_cell BK149.out 16).trans rfl
                  have hcz55_17 : wr.cell? ⟨gb149, 17, none⟩ = some (.int .u64 a0_17) := (blk_cell BK149.out 17).trans rfl
                  have hcz55_18 : wr.cell? ⟨gb149, 18, none⟩ = some (.int .u64 a0_18) := (blk_cell BK149.out 18).trans rfl
                  have hcz55_19 : wr.cell? ⟨gb149, 19, none⟩ = some (.int .u64 a0_19) := (blk_cell BK149.out 19).trans rfl
                  have hfz55_0 := blk_frozen BK149.out 0
                  have hfz55_1 := blk_frozen BK149.out 1
                  have hfz55_2 := blk_frozen BK149.out 2
                  have hfz55_3 := blk_frozen BK149.out 3
                  have hfz55_4 := blk_frozen BK149.out 4
                  have hfz55_5 := blk_frozen BK149.out 5
                  have hfz55_6 := blk_frozen BK149.out 6
                  have hfz55_7 := blk_frozen BK149.out 7
                  have hfz55_8 := blk_frozen BK149.out 8
                  have hfz55_9 := blk_frozen BK149.out 9
                  have hfz55_10 := blk_frozen BK149.out 10
                  have hfz55_11 := blk_frozen BK149.out 11
                  have hfz55_12 := blk_frozen BK149.out 12
                  have hfz55_13 := blk_frozen BK149.out 13
                  have hfz55_14 := blk_frozen BK149.out 14
                  have hfz55_15 := blk_frozen BK149.out 15
                  have hfz55_16 := blk_frozen BK149.out 16
                  have hfz55_17 := blk_frozen BK149.out 17
                  have hfz55_18 := blk_frozen BK149.out 18
                  have hfz55_19 := blk_frozen BK149.out 19
                  have p151 : 0 ≤ (x3_2 : Int) := of_decide_eq_true (by first | (with_reducible assumption) | assumption)
                  have q151 : x3_2 < (l0_5.length : Int) := of_decide_eq_true (by first | (with_reducible assumption) | assumption)
                  obtain ⟨ad151, e151, hx151_0, hx151_1, hx151_2, hx151_3⟩ := at_T42 HR0_5.out x3_2 p151 q151
                  cases e151
                  replace hx151_0 := (HB.out.cell (World.block_lt_of_cell? w _ hx151_0)).trans hx151_0
                  replace hx151_1 := (HB.out.cell (World.block_lt_of_cell? w _ hx151_1)).trans hx151_1
                  replace hx151_2 := (HB.out.cell (World.block_lt_of_cell? w _ hx151_2)).trans hx151_2
                  replace hx151_3 := (HB.out.cell (World.block_lt_of_cell? w _ hx151_3)).trans hx151_3
                  replace p151 := eq_true p151
                  replace q151 := eq_true q151
                  go_wp2_with (first | ((with_reducible refine gate_dst (N := 4) rfl ?_); (try (refine gate_guard (by rfl) ?_; dsimp only)); refine box_event ?hg (N := 4) ?hd (cs := #[.int .u64 0, .int .i64 0, .bool false, .bool false]) (t := 42) ?hr ?_; (case hd => rfl); (case hg => rfl); (case hr => first | (go_simp; done) | (go_simp; rfl)); intro gb152 hg w56 hbox hb; have n0_ := Aside0.mk (blk_below (g := gb149) (o := .cells #[.int .i64 a0_0, .int .i64 a0_1, .int .i64 a0_2, .int .i64 a0_3, .int .i64 a0_4, .slice (some ad151) l0_5.length c0_5, .slice A0_6 l0_6.length c0_6, .slice A0_7 l0_7.length c0_7, .int .i64 a0_8, .int .i64 a0_9, .int .u64 a0_10, .int .u64 a0_11, .int .u64 a0_12, .int .u64 a0_13, .int .u64 a0_14, .int .u64 a0_15, .int .u64 a0_16, .int .u64 a0_17, .int .u64 a0_18, .int .u64 a0_19] 38 (0, 0)) (by (with_reducible repeat (first | refine blk_drewN ?_ _ | refine blk_drew ?_ | refine blk_alloc ?_ _)); exact BK149.out) hb); have n1_ := Aside0.mk (below_step (by repeat (first | (with_reducible first | exact HB.out | apply below_alloc | apply pw_below_drewN | apply below_drew1 | refine below_set ?_ GE149.out) | exact HB.out)) hb); have n2_ := Aside0.mk (hbox); have n3_ := Aside0.mk ((by rw [hg]; exact (below_size (by repeat (first | (with_reducible first | exact HB.out | apply below_alloc | apply pw_below_drewN | apply below_drew1 | refine below_set ?_ GE149.out) | exact HB.out))) : w.heap.size ≤ gb152)); have n4_ := Aside0.mk ((by rw [hg]; exact (below_size (by repeat (first | (with_reducible first | exact HB.out | apply below_alloc | apply pw_below_drewN | apply below_drew1 | refine below_set ?_ GE149.out) | exact HB.out))) : w.heap.size ≤ gb152)); have n5_ := Aside0.mk ((by rw [hg]; exact Nat.ne_of_lt (blk_lt (g := gb149) (o := .cells #[.int .i64 a0_0, .int .i64 a0_1, .int .i64 a0_2, .int .i64 a0_3, .int .i64 a0_4, .slice (some ad151) l0_5.length c0_5, .slice A0_6 l0_6.length c0_6, .slice A0_7 l0_7.length c0_7, .int .i64 a0_8, .int .i64 a0_9, .int .u64 a0_10, .int .u64 a0_11, .int .u64 a0_12, .int .u64 a0_13, .int .u64 a0_14, .int .u64 a0_15, .int .u64 a0_16, .int .u64 a0_17, .int .u64 a0_18, .int .u64 a0_19] 38 (0, 0)) (by (with_reducible repeat (first | refine blk_drewN ?_ _ | refine blk_drew ?_ | refine blk_alloc ?_ _)); exact BK149.out)) : gb149 ≠ gb152)); have n6_ := Aside0.mk ((by rw [hg]; exact Nat.ne_of_gt (blk_lt (g := gb149) (o := .cells #[.int .i64 a0_0, .int .i64 a0_1, .int .i64 a0_2, .int .i64 a0_3, .int .i64 a0_4, .slice (some ad151) l0_5.length c0_5, .slice A0_6 l0_6.length c0_6, .slice A0_7 l0_7.length c0_7, .int .i64 a0_8, .int .i64 a0_9, .int .u64 a0_10, .int .u64 a0_11, .int .u64 a0_12, .int .u64 a0_13, .int .u64 a0_14, .int .u64 a0_15, .int .u64 a0_16, .int .u64 a0_17, .int .u64 a0_18, .int .u64 a0_19] 38 (0, 0)) (by (with_reducible repeat (first | refine blk_drewN ?_ _ | refine blk_drew ?_ | refine blk_alloc ?_ _)); exact BK149.out)) : gb152 ≠ gb149)); clear BK149; clear HB; have BK149 := n0_; have HB := n1_; have BK152 := n2_; have GW152 := n3_; have GE152 := n4_; have NB149_152 := n5_; have NB152_149 := n6_; clear n0_ n1_ n2_ n3_ n4_ n5_ n6_; clear hb hbox hg; have hnb57 := NB152_149.out; have hnc57 := NB149_152.out; have hcz58_0 : w56.cell? ⟨gb152, 0, none⟩ = some (.int .u64 0) := (blk_cell BK152.out 0).trans rfl; have hcz58_1 : w56.cell? ⟨gb152, 1, none⟩ = some (.int .i64 0) := (blk_cell BK152.out 1).trans rfl; have hcz58_2 : w56.cell? ⟨gb152, 2, none⟩ = some (.bool false) := (blk_cell BK152.out 2).trans rfl; have hcz58_3 : w56.cell? ⟨gb152, 3, none⟩ = some (.bool false) := (blk_cell BK152.out 3).trans rfl; have hfz58_0 := blk_frozen BK152.out 0; have hfz58_1 := blk_frozen BK152.out 1; have hfz58_2 := blk_frozen BK152.out 2; have hfz58_3 := blk_frozen BK152.out 3))
                  go_ret
                  exact ⟨by first | rfl | (simp [errW_none, errW_some] <;> rfl) | (simp [*, errW_none, errW_some] <;> rfl), by repeat (first | (with_reducible first | exact HB.out | apply below_alloc | apply pw_below_drewN | apply below_drew1 | refine below_set ?_ GE149.out | refine below_set ?_ GE152.out) | exact HB.out)⟩
              · rw [if_neg c37] at H
                exact absurd H (by simp)
            · rw [if_neg c36] at H
              have c36b0 : decide (x3_2 < (l0_5.length : Int)) = false := decide_eq_false c36
              clear c36
              replace H := Option.bind_eq_some_iff.mp H
              obtain ⟨t153, A590, H⟩ := H
              replace H : (some t153) = some r := H
              have A59 := Aside0.mk A590
              clear A590
              obtain rfl := Option.some.inj H
              have hcz60_0 : wr.cell? ⟨gb149, 0, none⟩ = some (.int .i64 a0_0) := (blk_cell BK149.out 0).trans rfl
              have hcz60_1 : wr.cell? ⟨gb149, 1, none⟩ = some (.int .i64 a0_1) := (blk_cell BK149.out 1).trans rfl
              have hcz60_2 : wr.cell? ⟨gb149, 2, none⟩ = some (.int .i64 a0_2) := (blk_cell BK149.out 2).trans rfl
              have hcz60_3 : wr.cell? ⟨gb149, 3, none⟩ = some (.int .i64 a0_3) := (blk_cell BK149.out 3).trans rfl
              have hcz60_4 : wr.cell? ⟨gb149, 4, none⟩ = some (.int .i64 a0_4) := (blk_cell BK149.out 4).trans rfl
              have hcz60_5 : wr.cell? ⟨gb149, 5, none⟩ = some (.slice A0_5 l0_5.length c0_5) := (blk_cell BK149.out 5).trans rfl
              have hcz60_6 : wr.cell? ⟨gb149, 6, none⟩ = some (.slice A0_6 l0_6.length c0_6) := (blk_cell BK149.out 6).trans rfl
              have hcz60_7 : wr.cell? ⟨gb149, 7, none⟩ = some (.slice A0_7 l0_7.length c0_7) := (blk_cell BK149.out 7).trans rfl
              have hcz60_8 : wr.cell? ⟨gb149, 8, none⟩ = some (.int .i64 a0_8) := (blk_cell BK149.out 8).trans rfl
              have hcz60_9 : wr.cell? ⟨gb149, 9, none⟩ = some (.int .i64 a0_9) := (blk_cell BK149.out 9).trans rfl
              have hcz60_10 : wr.cell? ⟨gb149, 10, none⟩ = some (.int .u64 a0_10) := (blk_cell BK149.out 10).trans rfl
              have hcz60_11 : wr.cell? ⟨gb149, 11, none⟩ = some (.int .u64 a0_11) := (blk_cell BK149.out 11).trans rfl
              have hcz60_12 : wr.cell? ⟨gb149, 12, none⟩ = some (.int .u64 a0_12) := (blk_cell BK149.out 12).trans rfl
              have hcz60_13 : wr.cell? ⟨gb149, 13, none⟩ = some (.int .u64 a0_13) := (blk_cell BK149.out 13).trans rfl
              have hcz60_14 : wr.cell? ⟨gb149, 14, none⟩ = some (.int .u64 a0_14) := (blk_cell BK149.out 14).trans rfl
              have hcz60_15 : wr.cell? ⟨gb149, 15, none⟩ = some (.int .u64 a0_15) := (blk_cell BK149.out 15).trans rfl
              have hcz60_16 : wr.cell? ⟨gb149, 16, none⟩ = some (.int .u64 a0_16) := (blk_cell BK149.out 16).trans rfl
              have hcz60_17 : wr.cell? ⟨gb149, 17, none⟩ = some (.int .u64 a0_17) := (blk_cell BK149.out 17).trans rfl
              have hcz60_18 : wr.cell? ⟨gb149, 18, none⟩ = some (.int .u64 a0_18) := (blk_cell BK149.out 18).trans rfl
              have hcz60_19 : wr.cell? ⟨gb149, 19, none⟩ = some (.int .u64 a0_19) := (blk_cell BK149.out 19).trans rfl
              have hfz60_0 := blk_frozen BK149.out 0
              have hfz60_1 := blk_frozen BK149.out 1
              have hfz60_2 := blk_frozen BK149.out 2
              have hfz60_3 := blk_frozen BK149.out 3
              have hfz60_4 := blk_frozen BK149.out 4
              have hfz60_5 := blk_frozen BK149.out 5
              have hfz60_6 := blk_frozen BK149.out 6
              have hfz60_7 := blk_frozen BK149.out 7
              have hfz60_8 := blk_frozen BK149.out 8
              have hfz60_9 := blk_frozen BK149.out 9
              have hfz60_10 := blk_frozen BK149.out 10
              have hfz60_11 := blk_frozen BK149.out 11
              have hfz60_12 := blk_frozen BK149.out 12
              have hfz60_13 := blk_frozen BK149.out 13
              have hfz60_14 := blk_frozen BK149.out 14
              have hfz60_15 := blk_frozen BK149.out 15
              have hfz60_16 := blk_frozen BK149.out 16
              have hfz60_17 := blk_frozen BK149.out 17
              have hfz60_18 := blk_frozen BK149.out 18
              have hfz60_19 := blk_frozen BK149.out 19
              go_wp2_with (first | ((with_reducible refine gate_callee (f := 40) rfl ?_); refine goesL_ (some 76) rfl rfl Try.func40 (by kernel_rfl) rfl #[.slice A0_5 l0_5.length c0_5] rfl (by (try simp only [List.map_toArray, List.map_cons, List.map_nil]); first | done | rfl | (simp only [List.length_drop, List.length_take]; rfl)) ?_; (with_reducible refine (hutchref12_Once.calls k2 _ _ l0_5 t153 _ ?side1 ?side2 A59.out).mono ?_); (case side1 => repeat (first | exact (Kd.C_below HR0_5.out HB.out) | (with_reducible refine Kd.C_alloc ?_ _) | (with_reducible refine Kd.C_drewN ?_ _) | (with_reducible refine Kd.C_drew ?_))); (case side2 => exact HC0_5.out); rintro e w' ⟨rfl, ⟨nd, rfl⟩⟩; refine ⟨_, rfl, ?_⟩))
              go_ret
              exact ⟨by first | rfl | (simp [errW_none, errW_some] <;> rfl) | (simp [*, errW_none, errW_some] <;> rfl), by repeat (first | (with_reducible first | exact HB.out | apply below_alloc | apply pw_below_drewN | apply below_drew1 | refine below_set ?_ GE149.out) | exact HB.out)⟩

end Go.Proofs.Ytekbgpfpnjddgaa.PLruLoads
