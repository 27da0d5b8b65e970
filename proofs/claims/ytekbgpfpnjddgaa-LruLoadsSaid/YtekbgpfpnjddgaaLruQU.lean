/- Walks over the reference of lru: first. Walks over the reference of lru: Touch, Drop. Walks over the reference of lru: Touch of a kept key, Drop. Walks over the reference of lru: spill. Walks over the reference of lru: Resize, Admit. -/
import Derived.Test.YtekbgpfpnjddgaaLruOP
import Derived.Great.BuildSlice
namespace Go.Proofs.Ytekbgpfpnjddgaa
open Go.RowKit Go.Proofs.YtekbgpfpnjddgaaW.PrintWords
open Go.Proofs.Ytekbgpfpnjddgaa.PLruLoads
namespace Lru
/-- A state of the reference: its pages as keys, its other lists any. -/
def stIn (c : Conf) (n : Cnt) (pv qv gv : Value) : Value := .agg (inCells c 0 pv qv gv 0 0 n)
theorem PagesAt.calm {w w' : World} {v : Value} {ks : List Int} (h : PagesAt w v ks) (hc : Calm w w') : PagesAt w' v ks := by
  obtain ⟨A, cp, h1, h2, h3⟩ := h
  exact ⟨A, cp, h1, h2, Kd.C_below h3 hc.below⟩
theorem add_block' (a : Addr) (n : Nat) : (a.add n).block = a.block := by unfold Addr.add; split <;> rfl
theorem PagesAt.kept {F : Nat → Prop} {w w' : World} {v : Value} {ks : List Int} (h : PagesAt w v ks) (hk : Go.Proofs.Ytekbgpfpnjddgaa.Kept F w w') (hF : ∀ g, v.ownBlock = some g → ¬ F g) : PagesAt w' v ks := by
  obtain ⟨A, cp, rfl, h1, h2, h3, h4⟩ := h
  refine ⟨A, cp, rfl, h1, h2, h3, fun q => ?_⟩
  obtain ⟨ad, rfl, hc⟩ := h4 q
  refine ⟨ad, rfl, fun j p hp => ?_⟩
  obtain ⟨c, c1, c2, c3⟩ := hc j p hp
  have e := k42_open c2
  exact ⟨c, c1, by rw [e]; exact k42_mk w' p, fun i u hu => cell_kept' hk (c3 i u hu) (by rw [add_block']; exact hF _ rfl)⟩
set_option maxRecDepth 100000 in
theorem RefFirst_calls {w : World} (c : Conf) (n : Cnt) (pv qv gv : Value) (ks : List Int) (hv : PagesAt w pv ks) (hl : ks.length ≤ 1000) (hq : qv.oneCell' = true) (hg : gv.oneCell' = true) (key : Int) :
    Calls Try.prog 75 #[stIn c n pv qv gv, .int .u64 key] w fun e w' => ∃ v', e = .returned (stIn c n v' qv gv) ∧ PagesAt w' v' (key :: without ks key) ∧ (∀ g, v'.ownBlock = some g → w.heap.size ≤ g ∧ g < w'.heap.size) ∧ Calm w w' := by
  unfold stIn
  have HV := Lib.hid hv
  clear hv
  go_enter Try.func75, Try.ntmps75
  go_upto_region 1 with fail
  have C1 : Hid (Calm w ((w.alloc (.cells (inCells c 0 pv qv gv 0 0 n) 38)).alloc (.cells (stCells ⟨0, 0, 0, 0⟩ zeroCnt (.slice none 0 0)) 38))) := Lib.hid (((Kept.refl _ w).alloc _).alloc _)
  have HB1 : Hid (Blk ((w.alloc (.cells (inCells c 0 pv qv gv 0 0 n) 38)).alloc (.cells (stCells ⟨0, 0, 0, 0⟩ zeroCnt (.slice none 0 0)) 38)) w.heap.size (inCells c 0 pv qv gv 0 0 n)) := Lib.hid ((Blk.new w _ _).alloc _)
  have HR1 : Hid (Blk ((w.alloc (.cells (inCells c 0 pv qv gv 0 0 n) 38)).alloc (.cells (stCells ⟨0, 0, 0, 0⟩ zeroCnt (.slice none 0 0)) 38)) (w.heap.size + 1) (stCells ⟨0, 0, 0, 0⟩ zeroCnt (.slice none 0 0))) := Lib.hid (Blk.new' (by simp) _ _)
  have HS1 : Hid (((w.alloc (.cells (inCells c 0 pv qv gv 0 0 n) 38)).alloc (.cells (stCells ⟨0, 0, 0, 0⟩ zeroCnt (.slice none 0 0)) 38)).heap.size = w.heap.size + 2) := Lib.hid (by simp)
  change Code.wp _ _ _ _ ((w.alloc (.cells (inCells c 0 pv qv gv 0 0 n) 38)).alloc (.cells (stCells ⟨0, 0, 0, 0⟩ zeroCnt (.slice none 0 0)) 38))
  generalize (w.alloc (.cells (inCells c 0 pv qv gv 0 0 n) 38)).alloc (.cells (stCells ⟨0, 0, 0, 0⟩ zeroCnt (.slice none 0 0)) 38) = w1 at C1 HB1 HR1 HS1 ⊢
  generalize hN : w.heap.size = N at HB1 HR1 HS1 ⊢
  have b5 : w1.cell? ⟨N, 5, none⟩ = some pv := (HB1.out.cell 5).trans rfl
  go_upto_region 2 with (first | (go_at_call 74; refine (RefWithout_calls (HV.out.calm C1.out) hl key).mono ?_; rintro e' w2 ⟨v2, rfl, hp2, ho2, hc2⟩; have P2 := Lib.hid hp2; have C2 := Lib.hid (C1.out.trans hc2); have B2 := Lib.hid (HB1.out.calm hc2); have R2 := Lib.hid (HR1.out.calm hc2); have hs2 := hc2.size; clear hp2 ho2 hc2 HB1 HR1 b5) | (go_at_call 88; refine (RefTop_calls P2.out (Nat.le_trans (List.length_filter_le ..) hl) key).mono ?_; rintro e' w3 ⟨v3, rfl, hp3, ho3, hc3⟩; obtain ⟨T3, q3, rfl, hq3, hr3⟩ := hp3; have P3 : Hid (PagesAt w3 (.slice T3 (key :: without ks key).length q3) (key :: without ks key)) := Lib.hid ⟨T3, q3, rfl, hq3, hr3⟩; have C3 := Lib.hid (C2.out.trans hc3); have B3 := Lib.hid (B2.out.calm hc3); have R3 := Lib.hid (R2.out.calm hc3); have O3 := Lib.hid ho3; have hs3 := hc3.size; have t5 : w3.cell? ⟨N, 5, none⟩ = some pv := (B3.out.cell 5).trans rfl; have tz := B3.out.frozen 5; clear hq3 hr3 ho3 hc3))
  have B4 : Hid (Blk (w3.setCell ⟨N, 5, none⟩ (.slice T3 (key :: without ks key).length q3)) N (inCells c 0 (.slice T3 (key :: without ks key).length q3) qv gv 0 0 n)) := Lib.hid (B3.out.set 5 _)
  have R4 := Lib.hid (R3.out.other (a := ⟨N, 5, none⟩) (by show N + 1 ≠ N; omega) (.slice T3 (key :: without ks key).length q3))
  have K4 : Hid (Go.Proofs.Ytekbgpfpnjddgaa.Kept (fun k => k = N) w3 (w3.setCell ⟨N, 5, none⟩ (.slice T3 (key :: without ks key).length q3))) := Lib.hid ((Kept.refl (fun k => k = N) w3).setCell (p := ⟨N, 5, none⟩) (fun _ => rfl) _)
  change Code.wp _ _ _ _ (w3.setCell ⟨N, 5, none⟩ (.slice T3 (key :: without ks key).length q3))
  generalize w3.setCell ⟨N, 5, none⟩ (.slice T3 (key :: without ks key).length q3) = w4 at B4 R4 K4 ⊢
  have HRG := Lib.hid (blk_range B4.out 0 20 (inCells c 0 (.slice T3 (key :: without ks key).length q3) qv gv 0 0 n).toList rfl)
  have HTH : Hid (w4.there (N + 1) 0 (inCells c 0 (.slice T3 (key :: without ks key).length q3) qv gv 0 0 n).size) := by
    refine Lib.hid (fun j hj => ?_)
    have hj : j < 20 := hj
    rw [Nat.zero_add, R4.out.cell]
    exact ⟨by rw [Array.getElem?_eq_getElem (show j < (stCells ⟨0, 0, 0, 0⟩ zeroCnt (.slice none 0 0)).size from hj)]; rfl, R4.out.frozen _⟩
  have H1 : Hid ((inCells c 0 (.slice T3 (key :: without ks key).length q3) qv gv 0 0 n).all (·.oneCell') = true) := Lib.hid (by rw [← Array.all_toList]; simp only [inCells, List.all_cons, List.all_nil, hq, hg]; rfl)
  clear t5 tz
  refine wp_region_lit ?_
  refine wpList_load_mid rfl 38 (.tmp 2) rfl N 0 rfl (inCells c 0 (.slice T3 (key :: without ks key).length q3) qv gv 0 0 n).toList _ HRG.out Try.underlying38 rfl sizeSt ?_
  refine wpList_store_mid rfl 38 (.tmp 4) (.tmp 13) rfl (N + 1) 0 (inCells c 0 (.slice T3 (key :: without ks key).length q3) qv gv 0 0 n) rfl rfl HTH.out sizeSt H1.out ?_
  refine wpList_nil ?_
  have BX := Lib.hid (setCells_blk R4.out (inCells c 0 (.slice T3 (key :: without ks key).length q3) qv gv 0 0 n) rfl)
  have KX := Lib.hid (setCells_kept (F := fun k => k = N + 1) (b := N + 1) (fun _ => rfl) (inCells c 0 (.slice T3 (key :: without ks key).length q3) qv gv 0 0 n).toList 0 w4 (Kept.refl _ _))
  generalize w4.setCells (N + 1) 0 (inCells c 0 (.slice T3 (key :: without ks key).length q3) qv gv 0 0 n).toList = wx at BX KX ⊢
  go_wp2_with fail
  obtain ⟨tX, hX⟩ := BX.out
  refine bodyPost_ret (results_cell_row rfl _ _ (N + 1) tX (inCells c 0 (.slice T3 (key :: without ks key).length q3) qv gv 0 0 n) (0, 0) _ rfl hX Try.underlying38 rfl sizeSt) rfl ?_
  have hsN : w2.heap.size ≥ N + 2 := by rw [← HS1.out]; exact hs2
  have hK1 : Go.Proofs.Ytekbgpfpnjddgaa.Kept (fun k => k = N ∨ k = N + 1) w3 wx := (K4.out.mono (fun k _ q => .inl q)).trans (KX.out.mono (fun k _ q => .inr q))
  refine ⟨_, rfl, P3.out.kept hK1 ?_, ?_, ?_⟩
  · intro g z q
    have := (O3.out g z).1
    omega
  · intro g z
    have h1 := O3.out g z
    have h2 := hK1.size
    have h3 := C2.out.size
    omega
  · exact C3.out.step hK1 (fun k h1 h2 => by have := hN; omega)
end Lru
end Go.Proofs.Ytekbgpfpnjddgaa
namespace Go.Proofs.Ytekbgpfpnjddgaa
open Go.RowKit Go.Proofs.YtekbgpfpnjddgaaW.PrintWords
open Go.Proofs.Ytekbgpfpnjddgaa.PLruLoads
namespace Lru
section
variable {P : Program}
theorem results_row_tmp {fn : Func} {p u : Tmp} {ty : TypeId} (h : fn.results = #[.cell p ty, .tmp u]) (tmps : Array Value) (w : World) (g : Nat) (t : TypeId) (cs : Array Value) (fr : Nat × Nat) (d : TypeDesc)
    (hp : tmps.getD p undef = .pointer (some ⟨g, 0, none⟩)) (hg : w.heap[g]? = some (.cells cs t fr))
    (hu : P.underlying ty = some d) (hd : (match d with | .struct _ | .array _ _ => true | _ => false) = true) (hi : (P.info? ty).map (·.size) = some cs.size) :
    (results fn tmps).run P w = .ok (.tuple #[.agg cs, tmps.getD u undef]) w := by
  have hp' : tmps[p]?.getD undef = .pointer (some ⟨g, 0, none⟩) := by simpa using hp
  simp [results, h, hp', asAddr, run_loadVar_row w g t ty cs fr d hg hu hd hi]
theorem results_row_tmp2 {fn : Func} {p u v : Tmp} {ty : TypeId} (h : fn.results = #[.cell p ty, .tmp u, .tmp v]) (tmps : Array Value) (w : World) (g : Nat) (t : TypeId) (cs : Array Value) (fr : Nat × Nat) (d : TypeDesc)
    (hp : tmps.getD p undef = .pointer (some ⟨g, 0, none⟩)) (hg : w.heap[g]? = some (.cells cs t fr))
    (hu : P.underlying ty = some d) (hd : (match d with | .struct _ | .array _ _ => true | _ => false) = true) (hi : (P.info? ty).map (·.size) = some cs.size) :
    (results fn tmps).run P w = .ok (.tuple #[.agg cs, tmps.getD u undef, tmps.getD v undef]) w := by
  have hp' : tmps[p]?.getD undef = .pointer (some ⟨g, 0, none⟩) := by simpa using hp
  simp [results, h, hp', asAddr, run_loadVar_row w g t ty cs fr d hg hu hd hi]
end
/-- What a function of the reference has laid at its start: its state's box, and its result's block. -/
structure Laid (w w1 : World) (N : Nat) (cs : Array Value) : Prop where
  calm : Calm w w1
  box : Blk w1 N cs
  res : Blk w1 (N + 1) (stCells ⟨0, 0, 0, 0⟩ zeroCnt (.slice none 0 0))
  size : w1.heap.size = N + 2
  base : w.heap.size = N
theorem Laid.mk' (w : World) (cs : Array Value) (t t' : TypeId) : Laid w ((w.alloc (.cells cs t)).alloc (.cells (stCells ⟨0, 0, 0, 0⟩ zeroCnt (.slice none 0 0)) t')) w.heap.size cs :=
  ⟨((Kept.refl _ w).alloc _).alloc _, (Blk.new w _ _).alloc _, Blk.new' (by simp) _ _, by simp, rfl⟩
theorem there_of {w : World} {b : Nat} {cs : Array Value} (h : Blk w b cs) (k : Nat) (hk : cs.size = k) : w.there b 0 k := by
  subst hk
  intro j hj
  rw [Nat.zero_add, h.cell]
  exact ⟨by rw [Array.getElem?_eq_getElem hj]; rfl, h.frozen _⟩
theorem in_one {c : Conf} {n : Cnt} {tgt cold tst : Int} {pv qv gv : Value} (hp : pv.oneCell' = true) (hq : qv.oneCell' = true) (hg : gv.oneCell' = true) : (inCells c tgt pv qv gv cold tst n).all (·.oneCell') = true := by
  rw [← Array.all_toList]; simp only [inCells, List.all_cons, List.all_nil, hp, hq, hg]; rfl
theorem PagesAt.one {w : World} {v : Value} {ks : List Int} (h : PagesAt w v ks) : v.oneCell' = true := by obtain ⟨A, cp, rfl, _⟩ := h; rfl
theorem RefKept_st {w : World} (c : Conf) (n : Cnt) (pv qv gv : Value) (ks : List Int) (hv : PagesAt w pv ks) (hl : ks.length ≤ 1000) (key : Int) :
    Calls Try.prog 45 #[.agg (inCells c 0 pv qv gv 0 0 n), .int .u64 key] w fun e w' => e = .returned (.bool (decide (key ∈ ks))) ∧ Calm w w' := by
  obtain ⟨A, cp, rfl, hcp, hp⟩ := hv
  exact RefKept_calls c n ks hl A cp hcp hp qv gv key
set_option maxRecDepth 100000 in
theorem RefTouch_no {w : World} (c : Conf) (n : Cnt) (pv qv gv : Value) (ks : List Int) (hv : PagesAt w pv ks) (hl : ks.length ≤ 1000) (hq : qv.oneCell' = true) (hg : gv.oneCell' = true) (key : Int) (hk : key ∉ ks) :
    Calls Try.prog 46 #[stIn c n pv qv gv, .int .u64 key] w fun e w' => e = .returned (.tuple #[stIn c n pv qv gv, .bool false]) ∧ Calm w w' := by
  unfold stIn
  have HV := Lib.hid hv
  have HK := Lib.hid (fun w1 (hc : Calm w w1) => RefKept_st (w := w1) c n pv qv gv ks (hv.calm hc) hl key)
  simp only [decide_eq_false hk] at HK
  have H1 := Lib.hid (in_one (c := c) (n := n) (tgt := 0) (cold := 0) (tst := 0) hv.one hq hg)
  clear hv hk
  go_enter Try.func46, Try.ntmps46
  go_upto_region 1 with fail
  have LA := Lib.hid (Laid.mk' w (inCells c 0 pv qv gv 0 0 n) 38 38)
  change Code.wp _ _ _ _ ((w.alloc (.cells (inCells c 0 pv qv gv 0 0 n) 38)).alloc (.cells (stCells ⟨0, 0, 0, 0⟩ zeroCnt (.slice none 0 0)) 38))
  generalize (w.alloc (.cells (inCells c 0 pv qv gv 0 0 n) 38)).alloc (.cells (stCells ⟨0, 0, 0, 0⟩ zeroCnt (.slice none 0 0)) 38) = w1 at LA ⊢
  generalize w.heap.size = N at LA ⊢
  have HRG := Lib.hid (blk_range LA.out.box 0 20 (inCells c 0 pv qv gv 0 0 n).toList rfl)
  refine wp_region_lit ?_
  refine wpList_load_mid rfl 38 (.tmp 2) rfl N 0 rfl (inCells c 0 pv qv gv 0 0 n).toList _ HRG.out Try.underlying38 rfl sizeSt ?_
  have HKK := Lib.hid (HK.out w1 LA.out.calm)
  go_upto_region 2 with (go_at_call 45; refine HKK.out.mono ?_; rintro e' w2 ⟨rfl, hc⟩; have C2 := Lib.hid hc; clear hc HKK HRG)
  have HRG := Lib.hid (blk_range (LA.out.box.calm C2.out) 0 20 (inCells c 0 pv qv gv 0 0 n).toList rfl)
  have R2 := Lib.hid (LA.out.res.calm C2.out)
  have HTH := Lib.hid (there_of R2.out (inCells c 0 pv qv gv 0 0 n).size rfl)
  refine wp_region_lit ?_
  refine wpList_load_mid rfl 38 (.tmp 2) rfl N 0 rfl (inCells c 0 pv qv gv 0 0 n).toList _ HRG.out Try.underlying38 rfl sizeSt ?_
  refine wpList_store_mid rfl 38 (.tmp 4) (.tmp 10) rfl (N + 1) 0 (inCells c 0 pv qv gv 0 0 n) rfl rfl HTH.out sizeSt H1.out ?_
  have BX := Lib.hid (setCells_blk R2.out (inCells c 0 pv qv gv 0 0 n) rfl)
  have KX := Lib.hid (setCells_kept (F := fun k => k = N + 1) (b := N + 1) (fun _ => rfl) (inCells c 0 pv qv gv 0 0 n).toList 0 w2 (Kept.refl _ _))
  generalize w2.setCells (N + 1) 0 (inCells c 0 pv qv gv 0 0 n).toList = wx at BX KX ⊢
  go_wp2_with fail
  obtain ⟨tX, hX⟩ := BX.out
  refine bodyPost_ret (results_row_tmp rfl _ _ (N + 1) tX (inCells c 0 pv qv gv 0 0 n) (0, 0) _ rfl hX Try.underlying38 rfl sizeSt) rfl ?_
  exact ⟨rfl, (LA.out.calm.trans C2.out).step KX.out (fun k h1 h2 => by have := LA.out.base; omega)⟩
end Lru
end Go.Proofs.Ytekbgpfpnjddgaa
namespace Go.Proofs.Ytekbgpfpnjddgaa
open Go.RowKit Go.Proofs.YtekbgpfpnjddgaaW.PrintWords
open Go.Proofs.Ytekbgpfpnjddgaa.PLruLoads
namespace Lru
theorem RefWithout_st {w : World} {pv : Value} {ks : List Int} (hv : PagesAt w pv ks) (hl : ks.length ≤ 1000) (key : Int) :
    ∀ w1, Calm w w1 → Calls Try.prog 74 #[pv, .int .u64 key] w1 fun e w' => ∃ v', e = .returned v' ∧ PagesAt w' v' (without ks key) ∧ (∀ g, v'.ownBlock = some g → w1.heap.size ≤ g ∧ g < w'.heap.size) ∧ Calm w1 w' :=
  fun _ hc => RefWithout_calls (hv.calm hc) hl key
set_option maxRecDepth 100000 in
theorem RefDrop_calls {w : World} (c : Conf) (n : Cnt) (pv qv gv : Value) (ks : List Int) (hv : PagesAt w pv ks) (hl : ks.length ≤ 1000) (hq : qv.oneCell' = true) (hg : gv.oneCell' = true) (key : Int) :
    Calls Try.prog 44 #[stIn c n pv qv gv, .int .u64 key] w fun e w' => ∃ v', e = .returned (.tuple #[stIn c n v' qv gv, .bool (decide (key ∈ ks))]) ∧ PagesAt w' v' (without ks key) ∧ (∀ g, v'.ownBlock = some g → w.heap.size ≤ g ∧ g < w'.heap.size) ∧ Calm w w' := by
  unfold stIn
  have HK := Lib.hid (fun w1 (hc : Calm w w1) => RefKept_st (w := w1) c n pv qv gv ks (hv.calm hc) hl key)
  have HW := Lib.hid (RefWithout_st hv hl key)
  clear hv
  generalize hkk : decide (key ∈ ks) = kk at HK ⊢
  clear hkk
  go_enter Try.func44, Try.ntmps44
  go_upto_region 1 with fail
  have LA := Lib.hid (Laid.mk' w (inCells c 0 pv qv gv 0 0 n) 38 38)
  change Code.wp _ _ _ _ ((w.alloc (.cells (inCells c 0 pv qv gv 0 0 n) 38)).alloc (.cells (stCells ⟨0, 0, 0, 0⟩ zeroCnt (.slice none 0 0)) 38))
  generalize (w.alloc (.cells (inCells c 0 pv qv gv 0 0 n) 38)).alloc (.cells (stCells ⟨0, 0, 0, 0⟩ zeroCnt (.slice none 0 0)) 38) = w1 at LA ⊢
  generalize hN : w.heap.size = N at LA ⊢
  have HRG := Lib.hid (blk_range LA.out.box 0 20 (inCells c 0 pv qv gv 0 0 n).toList rfl)
  refine wp_region_lit ?_
  refine wpList_load_mid rfl 38 (.tmp 2) rfl N 0 rfl (inCells c 0 pv qv gv 0 0 n).toList _ HRG.out Try.underlying38 rfl sizeSt ?_
  have HKK := Lib.hid (HK.out w1 LA.out.calm)
  go_upto_region 2 with (go_at_call 45; refine HKK.out.mono ?_; rintro e' w2 ⟨rfl, hc⟩; have C2 := Lib.hid hc; clear hc HKK HRG)
  have B2 := Lib.hid (LA.out.box.calm C2.out)
  have R2 := Lib.hid (LA.out.res.calm C2.out)
  have CW2 := Lib.hid (LA.out.calm.trans C2.out)
  have HS2 := Lib.hid (show N + 2 ≤ w2.heap.size by rw [← LA.out.size]; exact C2.out.size)
  have HWW := Lib.hid (HW.out w2 CW2.out)
  have b5 : w2.cell? ⟨N, 5, none⟩ = some pv := (B2.out.cell 5).trans rfl
  go_upto_region 3 with (go_at_call 74; refine HWW.out.mono ?_; rintro e' w3 ⟨v3, rfl, hp3, ho3, hc3⟩; obtain ⟨T3, q3, rfl, hq3, hr3⟩ := hp3; have P3 : Hid (PagesAt w3 (.slice T3 (without ks key).length q3) (without ks key)) := Lib.hid ⟨T3, q3, rfl, hq3, hr3⟩; have C3 := Lib.hid (CW2.out.trans hc3); have B3 := Lib.hid (B2.out.calm hc3); have R3 := Lib.hid (R2.out.calm hc3); have O3 := Lib.hid ho3; have S3 := Lib.hid hc3.size; have t5 : w3.cell? ⟨N, 5, none⟩ = some pv := (B3.out.cell 5).trans rfl; have tz := B3.out.frozen 5; clear hq3 hr3 ho3 hc3 HWW b5)
  have B4 : Hid (Blk (w3.setCell ⟨N, 5, none⟩ (.slice T3 (without ks key).length q3)) N (inCells c 0 (.slice T3 (without ks key).length q3) qv gv 0 0 n)) := Lib.hid (B3.out.set 5 _)
  have R4 := Lib.hid (R3.out.other (a := ⟨N, 5, none⟩) (by show N + 1 ≠ N; omega) (.slice T3 (without ks key).length q3))
  have K4 : Hid (Go.Proofs.Ytekbgpfpnjddgaa.Kept (fun k => k = N) w3 (w3.setCell ⟨N, 5, none⟩ (.slice T3 (without ks key).length q3))) := Lib.hid ((Kept.refl (fun k => k = N) w3).setCell (p := ⟨N, 5, none⟩) (fun _ => rfl) _)
  change Code.wp _ _ _ _ (w3.setCell ⟨N, 5, none⟩ (.slice T3 (without ks key).length q3))
  generalize w3.setCell ⟨N, 5, none⟩ (.slice T3 (without ks key).length q3) = w4 at B4 R4 K4 ⊢
  have HRG := Lib.hid (blk_range B4.out 0 20 (inCells c 0 (.slice T3 (without ks key).length q3) qv gv 0 0 n).toList rfl)
  have HTH := Lib.hid (there_of R4.out (inCells c 0 (.slice T3 (without ks key).length q3) qv gv 0 0 n).size rfl)
  have H1 := Lib.hid (in_one (c := c) (n := n) (tgt := 0) (cold := 0) (tst := 0) P3.out.one hq hg)
  clear t5 tz
  refine wp_region_lit ?_
  refine wpList_load_mid rfl 38 (.tmp 2) rfl N 0 rfl (inCells c 0 (.slice T3 (without ks key).length q3) qv gv 0 0 n).toList _ HRG.out Try.underlying38 rfl sizeSt ?_
  iterate 3 go_step
  refine wpList_store_mid rfl 38 (.tmp 4) (.tmp 15) rfl (N + 1) 0 (inCells c 0 (.slice T3 (without ks key).length q3) qv gv 0 0 n) rfl rfl HTH.out sizeSt H1.out ?_
  have BX := Lib.hid (setCells_blk R4.out (inCells c 0 (.slice T3 (without ks key).length q3) qv gv 0 0 n) rfl)
  have KX := Lib.hid (setCells_kept (F := fun k => k = N + 1) (b := N + 1) (fun _ => rfl) (inCells c 0 (.slice T3 (without ks key).length q3) qv gv 0 0 n).toList 0 w4 (Kept.refl _ _))
  generalize w4.setCells (N + 1) 0 (inCells c 0 (.slice T3 (without ks key).length q3) qv gv 0 0 n).toList = wx at BX KX ⊢
  go_wp2_with fail
  obtain ⟨tX, hX⟩ := BX.out
  refine bodyPost_ret (results_row_tmp rfl _ _ (N + 1) tX (inCells c 0 (.slice T3 (without ks key).length q3) qv gv 0 0 n) (0, 0) _ rfl hX Try.underlying38 rfl sizeSt) rfl ?_
  have hK1 : Go.Proofs.Ytekbgpfpnjddgaa.Kept (fun k => k = N ∨ k = N + 1) w3 wx := (K4.out.mono (fun k _ q => .inl q)).trans (KX.out.mono (fun k _ q => .inr q))
  refine ⟨_, rfl, P3.out.kept hK1 ?_, ?_, ?_⟩
  · intro g z q
    have := (O3.out g z).1
    have := HS2.out
    omega
  · intro g z
    have h1 := O3.out g z
    have h2 := hK1.size
    have h3 := HS2.out
    omega
  · exact C3.out.step hK1 (fun k h1 h2 => by omega)
set_option maxRecDepth 100000 in
theorem RefTouch_yes {w : World} (c : Conf) (n : Cnt) (pv qv gv : Value) (ks : List Int) (hv : PagesAt w pv ks) (hl : ks.length ≤ 1000) (hq : qv.oneCell' = true) (hg : gv.oneCell' = true) (key : Int) (hk : key ∈ ks) :
    Calls Try.prog 46 #[stIn c n pv qv gv, .int .u64 key] w fun e w' => ∃ v', e = .returned (.tuple #[stIn c (hit n) v' qv gv, .bool true]) ∧ PagesAt w' v' (key :: without ks key) ∧ (∀ g, v'.ownBlock = some g → w.heap.size ≤ g ∧ g < w'.heap.size) ∧ Calm w w' := by
  unfold stIn
  have HK := Lib.hid (fun w1 (hc : Calm w w1) => RefKept_st (w := w1) c n pv qv gv ks (hv.calm hc) hl key)
  have HF := Lib.hid (fun w1 (hc : Calm w w1) => RefFirst_calls (w := w1) c (hit n) pv qv gv ks (hv.calm hc) hl hq hg key)
  unfold stIn at HF
  simp only [decide_eq_true hk] at HK
  clear hv hk
  go_enter Try.func46, Try.ntmps46
  go_upto_region 1 with fail
  have LA := Lib.hid (Laid.mk' w (inCells c 0 pv qv gv 0 0 n) 38 38)
  change Code.wp _ _ _ _ ((w.alloc (.cells (inCells c 0 pv qv gv 0 0 n) 38)).alloc (.cells (stCells ⟨0, 0, 0, 0⟩ zeroCnt (.slice none 0 0)) 38))
  generalize (w.alloc (.cells (inCells c 0 pv qv gv 0 0 n) 38)).alloc (.cells (stCells ⟨0, 0, 0, 0⟩ zeroCnt (.slice none 0 0)) 38) = w1 at LA ⊢
  generalize hN : w.heap.size = N at LA ⊢
  have HRG := Lib.hid (blk_range LA.out.box 0 20 (inCells c 0 pv qv gv 0 0 n).toList rfl)
  refine wp_region_lit ?_
  refine wpList_load_mid rfl 38 (.tmp 2) rfl N 0 rfl (inCells c 0 pv qv gv 0 0 n).toList _ HRG.out Try.underlying38 rfl sizeSt ?_
  have HKK := Lib.hid (HK.out w1 LA.out.calm)
  go_upto_region 3 with (go_at_call 45; refine HKK.out.mono ?_; rintro e' w2 ⟨rfl, hc⟩; have C2 := Lib.hid hc; clear hc HKK HRG)
  have B2 := Lib.hid (LA.out.box.calm C2.out)
  have R2 := Lib.hid (LA.out.res.calm C2.out)
  have CW2 := Lib.hid (LA.out.calm.trans C2.out)
  have HS2 := Lib.hid (show N + 2 ≤ w2.heap.size by rw [← LA.out.size]; exact C2.out.size)
  have bA : w2.cell? ⟨N, 10, none⟩ = some (.int .u64 n.n0) := (B2.out.cell 10).trans rfl
  have bz := B2.out.frozen 10
  go_upto_region 4 with fail
  have B3 : Hid (Blk (w2.setCell ⟨N, 10, none⟩ (.int .u64 (IntKind.u64.wrap (n.n0 + 1)))) N (inCells c 0 pv qv gv 0 0 (hit n))) := Lib.hid (B2.out.set 10 _)
  have R3 := Lib.hid (R2.out.other (a := ⟨N, 10, none⟩) (by show N + 1 ≠ N; omega) (.int .u64 (IntKind.u64.wrap (n.n0 + 1))))
  have K3 : Hid (Go.Proofs.Ytekbgpfpnjddgaa.Kept (fun k => k = N) w2 (w2.setCell ⟨N, 10, none⟩ (.int .u64 (IntKind.u64.wrap (n.n0 + 1))))) := Lib.hid ((Kept.refl (fun k => k = N) w2).setCell (p := ⟨N, 10, none⟩) (fun _ => rfl) _)
  clear bA bz
  change Code.wp _ _ _ _ (w2.setCell ⟨N, 10, none⟩ (.int .u64 (IntKind.u64.wrap (n.n0 + 1))))
  generalize w2.setCell ⟨N, 10, none⟩ (.int .u64 (IntKind.u64.wrap (n.n0 + 1))) = w3 at B3 R3 K3 ⊢
  have C3 := Lib.hid (CW2.out.step K3.out (fun k h1 h2 => by omega))
  have HS3 := Lib.hid (Nat.le_trans HS2.out K3.out.size)
  have HRG := Lib.hid (blk_range B3.out 0 20 (inCells c 0 pv qv gv 0 0 (hit n)).toList rfl)
  refine wp_region_lit ?_
  refine wpList_load_mid rfl 38 (.tmp 2) rfl N 0 rfl (inCells c 0 pv qv gv 0 0 (hit n)).toList _ HRG.out Try.underlying38 rfl sizeSt ?_
  iterate 5 go_step
  go_at_call 75
  refine (HF.out w3 C3.out).mono ?_
  rintro e' w4 ⟨v4, rfl, hp4, ho4, hc4⟩
  dsimp only
  go_step
  have P4 := Lib.hid hp4
  have O4 := Lib.hid ho4
  have C4 := Lib.hid (C3.out.trans hc4)
  have R4 := Lib.hid (R3.out.calm hc4)
  have HS4 := Lib.hid (Nat.le_trans HS3.out hc4.size)
  clear hp4 ho4 hc4
  have HTH := Lib.hid (there_of R4.out (inCells c 0 v4 qv gv 0 0 (hit n)).size rfl)
  have H1 := Lib.hid (in_one (c := c) (n := hit n) (tgt := 0) (cold := 0) (tst := 0) P4.out.one hq hg)
  refine wpList_store_mid rfl 38 (.tmp 4) (.tmp 19) rfl (N + 1) 0 (inCells c 0 v4 qv gv 0 0 (hit n)) rfl rfl HTH.out sizeSt H1.out ?_
  have BX := Lib.hid (setCells_blk R4.out (inCells c 0 v4 qv gv 0 0 (hit n)) rfl)
  have KX := Lib.hid (setCells_kept (F := fun k => k = N + 1) (b := N + 1) (fun _ => rfl) (inCells c 0 v4 qv gv 0 0 (hit n)).toList 0 w4 (Kept.refl _ _))
  generalize w4.setCells (N + 1) 0 (inCells c 0 v4 qv gv 0 0 (hit n)).toList = wx at BX KX ⊢
  go_wp2_with fail
  obtain ⟨tX, hX⟩ := BX.out
  refine bodyPost_ret (results_row_tmp rfl _ _ (N + 1) tX (inCells c 0 v4 qv gv 0 0 (hit n)) (0, 0) _ rfl hX Try.underlying38 rfl sizeSt) rfl ?_
  refine ⟨_, rfl, P4.out.kept KX.out ?_, ?_, ?_⟩
  · intro g z q
    have := (O4.out g z).1
    have := HS3.out
    omega
  · intro g z
    have h1 := O4.out g z
    have h2 := KX.out.size
    have h3 := HS3.out
    omega
  · exact C4.out.step KX.out (fun k h1 h2 => by omega)
end Lru
end Go.Proofs.Ytekbgpfpnjddgaa
namespace Go.Proofs.Ytekbgpfpnjddgaa
open Go.RowKit Go.Proofs.YtekbgpfpnjddgaaW.PrintWords
open Go.Proofs.Ytekbgpfpnjddgaa.PLruLoads
namespace Lru
/-- A state, and what was evicted. -/
def goneCells (c : Conf) (n : Cnt) (pv qv gv o : Value) : Array Value :=
  #[.int .i64 c.pol, .int .i64 c.cap, .int .i64 c.quota, .int .i64 c.ghosts, .int .i64 0, pv, qv, gv, .int .i64 0, .int .i64 0,
    .int .u64 n.n0, .int .u64 n.n1, .int .u64 n.n2, .int .u64 n.n3, .int .u64 n.n4, .int .u64 n.n5, .int .u64 n.n6, .int .u64 n.n7, .int .u64 n.n8, .int .u64 n.n9, o]
theorem sizeGone : (Try.prog.info? 138).map (·.size) = some 21 := by kernel_rfl
/-- What a round of spill knows: k keys are gone. -/
structure Spl (w wr : World) (N : Nat) (c : Conf) (n : Cnt) (pv qv gv : Value) (ks : List Int) (most k : Nat) (v : Value) : Prop where
  hk : k ≤ ks.length - most
  calm : Calm w wr
  row : wr.ownsRow (N + 2) 31 1 v k (((ks.drop (ks.length - k)).reverse).map (Value.int .u64))
  res : Blk wr (N + 1) (goneCells ⟨0, 0, 0, 0⟩ zeroCnt (.slice none 0 0) (.slice none 0 0) (.slice none 0 0) (.slice none 0 0))
  size : N + 2 ≤ wr.heap.size
  st : ∃ pk, Blk wr N (inCells c 0 pk qv gv 0 0 (evicts k n)) ∧ (pk = pv ∨ ∀ g, pk.ownBlock = some g → N + 2 ≤ g ∧ g < wr.heap.size) ∧
    ∀ wz, Calm w wz → Go.Proofs.Ytekbgpfpnjddgaa.Kept (fun q => some q = v.ownBlock ∨ q = N ∨ q = N + 1) wr wz → PagesAt wz pk (ks.take (ks.length - k))
theorem gone_one {c : Conf} {n : Cnt} {pv qv gv o : Value} (hp : pv.oneCell' = true) (hq : qv.oneCell' = true) (hg : gv.oneCell' = true) (ho : o.oneCell' = true) : (goneCells c n pv qv gv o).all (·.oneCell') = true := by
  rw [← Array.all_toList]; simp only [goneCells, List.all_cons, List.all_nil, hp, hq, hg, ho]; rfl
theorem built_gone (c : Conf) (n : Cnt) (pv qv gv : Value) (A : Option Addr) (l k : Nat) : Try.prog.built 138 [(0, .agg (inCells c 0 pv qv gv 0 0 n)), (1, .slice A l k)] = some (goneCells c n pv qv gv (.slice A l k)) := by kernel_rfl
theorem map_two {α β : Type} (f : α → β) (a b : α) : (Array.map f #[a, b]).toList = [f a, f b] := by simp
theorem kept_of_grown2 {w w' : World} {b : Option Nat} (h : w.grownBy w' b) : Go.Proofs.Ytekbgpfpnjddgaa.Kept (fun q => b = some q) w w' := kept_of_grown h
set_option maxRecDepth 100000 in
set_option maxHeartbeats 1000000 in
theorem RefSpill_calls {w : World} (c : Conf) (n : Cnt) (pv qv gv : Value) (ks : List Int) (hv : PagesAt w pv ks) (hl : ks.length ≤ 1000) (hn : ks.Nodup) (hq : qv.oneCell' = true) (hg : gv.oneCell' = true) (most : Nat) :
    Calls Try.prog 73 #[stIn c n pv qv gv, .int .i64 most] w fun e w' => ∃ v' o, e = .returned (.agg (goneCells c (evicts (ks.length - most) n) v' qv gv o)) ∧ PagesAt w' v' (ks.take most) ∧ (v' = pv ∨ ∀ g, v'.ownBlock = some g → w.heap.size ≤ g ∧ g < w'.heap.size) ∧
      w'.ownsRow w.heap.size 31 1 o (ks.length - most) (((ks.drop most).reverse).map (Value.int .u64)) ∧ Calm w w' := by
  unfold stIn
  have HV := Lib.hid hv
  have HN := Lib.hid hn
  clear hv hn
  go_enter Try.func73, Try.ntmps73
  go_upto_region 1 with fail
  have C1 : Hid (Calm w ((w.alloc (.cells (inCells c 0 pv qv gv 0 0 n) 38)).alloc (.cells (goneCells ⟨0, 0, 0, 0⟩ zeroCnt (.slice none 0 0) (.slice none 0 0) (.slice none 0 0) (.slice none 0 0)) 138))) := Lib.hid (((Kept.refl _ w).alloc _).alloc _)
  have B1 := Lib.hid ((Blk.new w (inCells c 0 pv qv gv 0 0 n) 38).alloc (.cells (goneCells ⟨0, 0, 0, 0⟩ zeroCnt (.slice none 0 0) (.slice none 0 0) (.slice none 0 0) (.slice none 0 0)) 138))
  have R1 := Lib.hid (Blk.new' (w := w.alloc (.cells (inCells c 0 pv qv gv 0 0 n) 38)) (b := w.heap.size + 1) (by simp) (goneCells ⟨0, 0, 0, 0⟩ zeroCnt (.slice none 0 0) (.slice none 0 0) (.slice none 0 0) (.slice none 0 0)) 138)
  have S1 : Hid (((w.alloc (.cells (inCells c 0 pv qv gv 0 0 n) 38)).alloc (.cells (goneCells ⟨0, 0, 0, 0⟩ zeroCnt (.slice none 0 0) (.slice none 0 0) (.slice none 0 0) (.slice none 0 0)) 138)).heap.size = w.heap.size + 2) := Lib.hid (by simp)
  change Code.wp _ _ _ _ ((w.alloc (.cells (inCells c 0 pv qv gv 0 0 n) 38)).alloc (.cells (goneCells ⟨0, 0, 0, 0⟩ zeroCnt (.slice none 0 0) (.slice none 0 0) (.slice none 0 0) (.slice none 0 0)) 138))
  generalize (w.alloc (.cells (inCells c 0 pv qv gv 0 0 n) 38)).alloc (.cells (goneCells ⟨0, 0, 0, 0⟩ zeroCnt (.slice none 0 0) (.slice none 0 0) (.slice none 0 0) (.slice none 0 0)) 138) = w1 at C1 B1 R1 S1 ⊢
  generalize hN : w.heap.size = N at B1 R1 S1 ⊢
  go_upto_region 2 with fail
  go_loopw [5] (fun v5 wr => ∃ k : Nat, Spl w wr N c n pv qv gv ks most k v5) (fun v5 wr => ks.length - sliceLen v5)
  case atStart =>
    refine ⟨0, Nat.zero_le _, C1.out, ?_, R1.out, by have := S1.out; omega, pv, B1.out, .inl rfl, fun wz hc _ => ?_⟩
    · rw [Nat.sub_zero, List.drop_length]
      exact World.ownsRow_nil _ _ _ _
    · rw [Nat.sub_zero, List.take_length]
      exact HV.out.calm hc
  case round =>
    obtain ⟨k, hs⟩ := hrel
    have hk := hs.hk
    obtain ⟨pk, hb, hpo, hpp⟩ := hs.st
    have HS := Lib.hid hs
    have HB := Lib.hid hb
    have HPO := Lib.hid hpo
    have HPP := Lib.hid hpp
    have hlk : (ks.take (ks.length - k)).length = ks.length - k := by rw [List.length_take]; omega
    obtain ⟨T, q, rfl, hTq, hT⟩ := hpp wr hs.calm (Kept.refl _ _)
    have HT := Lib.hid hT
    clear hs hb hpo hpp hT
    rw [hlk] at HB HPO HPP hTq
    obtain ⟨K, hK⟩ : ∃ K, ks.length - k = K := ⟨_, rfl⟩
    rw [hK] at HB hTq hlk HPP HPO HT
    have b5 : wr.cell? ⟨N, 5, none⟩ = some (.slice T K q) := (HB.out.cell 5).trans rfl
    have HLK := Lib.hid hlk
    have HK := Lib.hid hK
    clear hlk
    by_cases hd : K ≤ most
    · have hd1 : decide ((most : Int) < (K : Int)) = false := decide_eq_false (by omega)
      have hd2 : decide (most < K) = false := decide_eq_false (by omega)
      have hpk := HPP.out wr HS.out.calm (Kept.refl _ _)
      have P1 := Lib.hid hpk
      have H1 := Lib.hid (in_one (c := c) (n := evicts k n) (tgt := 0) (cold := 0) (tst := 0) hpk.one hq hg)
      have HRG := Lib.hid (blk_range HB.out 0 20 (inCells c 0 (.slice T K q) qv gv 0 0 (evicts k n)).toList rfl)
      have ho2 : ∃ A l k, u5 = .slice A l k := by
        rcases HS.out.row.2 with ⟨z, _⟩ | ⟨_, _, _, z, _⟩ <;> exact ⟨_, _, _, z⟩
      have ho1 : u5.oneCell' = true := by obtain ⟨_, _, _, z⟩ := ho2; rw [z]; rfl
      have HBG : Hid (Try.prog.built 138 [(0, .agg (inCells c 0 (.slice T K q) qv gv 0 0 (evicts k n))), (1, u5)] = some (goneCells c (evicts k n) (.slice T K q) qv gv u5)) := Lib.hid (by obtain ⟨_, _, _, z⟩ := ho2; rw [z]; exact built_gone ..)
      clear ho2
      have G1 := Lib.hid (gone_one (c := c) (n := evicts k n) hpk.one hq hg ho1)
      have HTH := Lib.hid (there_of HS.out.res (goneCells c (evicts k n) (.slice T K q) qv gv u5).size rfl)
      have HKQ := Lib.hid (show k = ks.length - most by have := HS.out.hk; omega)
      clear hpk ho1
      go_upto_region 7 with fail
      refine wp_region_lit ?_
      refine wpList_load_mid rfl 38 (.tmp 2) rfl N 0 rfl (inCells c 0 (.slice T K q) qv gv 0 0 (evicts k n)).toList _ HRG.out Try.underlying38 rfl sizeSt ?_
      iterate 3 go_step
      refine wpList_buildTo rfl 138 #[(0, .tmp 36), (1, .tmp 37)] rfl (some 38) rfl (goneCells c (evicts k n) (.slice T K q) qv gv u5) (Eq.trans (congrArg (Try.prog.built 138) (map_two _ _ _)) HBG.out) ?_
      refine wpList_store_mid rfl 138 (.tmp 4) (.tmp 38) rfl (N + 1) 0 (goneCells c (evicts k n) (.slice T K q) qv gv u5) rfl rfl HTH.out sizeGone G1.out ?_
      refine wpList_nil ?_
      have BX := Lib.hid (setCells_blk HS.out.res (goneCells c (evicts k n) (.slice T K q) qv gv u5) rfl)
      have KX := Lib.hid (setCells_kept (F := fun k => k = N + 1) (b := N + 1) (fun _ => rfl) (goneCells c (evicts k n) (.slice T K q) qv gv u5).toList 0 wr (Kept.refl _ _))
      generalize wr.setCells (N + 1) 0 (goneCells c (evicts k n) (.slice T K q) qv gv u5).toList = wx at BX KX ⊢
      go_wp2_with fail
      obtain ⟨tX, hX⟩ := BX.out
      refine bodyPost_ret (results_cell_row rfl _ _ (N + 1) tX (goneCells c (evicts k n) (.slice T K q) qv gv u5) (0, 0) _ rfl hX Try.underlying138 rfl sizeGone) rfl ?_
      have CX := HS.out.calm.step KX.out (fun k h1 h2 => by omega)
      have eK : ks.take K = ks.take most := by
        rcases Nat.lt_or_ge ks.length most with z | z
        · have := HK.out
          have := HKQ.out
          rw [List.take_of_length_le (by omega), List.take_of_length_le (by omega)]
        · have := HK.out
          have := HKQ.out
          rw [show K = most by omega]
      refine ⟨_, u5, by rw [HKQ.out], ?_, ?_, ?_, CX⟩
      · rw [← eK]
        exact HPP.out wx CX (KX.out.mono (fun _ _ z => .inr (.inr z)))
      · refine HPO.out.imp id (fun h g z => ?_)
        have := h g z
        have := KX.out.size
        omega
      · have hr := ownsRow_kept HS.out.row KX.out (fun g z y => by have := ownsRow_lt HS.out.row z; omega)
        have hr := ownsRow_weaken hr (show N ≤ N + 2 by omega)
        have e2 : ks.drop (ks.length - k) = ks.drop most := by
          rw [HKQ.out]
          exact (drop_min ks most).1
        rw [e2, HKQ.out] at hr
        rw [hN]
        exact hr
    · have hd1 : decide ((most : Int) < (K : Int)) = true := decide_eq_true (by omega)
      have hd2 : decide (most < K) = true := decide_eq_true (by omega)
      obtain ⟨key, hx1, hx2⟩ := take_last ks K (by omega) (by omega)
      have hjt : ((ks.take K).map pg).length = K := by rw [List.length_map, HLK.out]
      obtain ⟨j, hj⟩ : ∃ j, j + 1 = K := ⟨K - 1, by omega⟩
      obtain ⟨ad, rfl, p0, p1, p2, p3⟩ := at_T42 HT.out (j : Int) (by omega) (by rw [hjt]; omega)
      have ex : rd_T42 ((ks.take K).map pg) (j : Int) = pg key := by
        rw [rd42 (by rw [hjt]; omega)]
        simp only [hx1]
        rw [List.getElem_map, List.getElem_append_right (by rw [List.length_take]; omega)]
        congr 1
        simp [List.getElem_singleton]
      rw [ex, Int.toNat_natCast] at p0
      clear p1 p2 p3 ex hjt
      have z0 : wrap64 ((K : Int) - 1) = (j : Int) := by unfold wrap64; omega
      have z1 : (0 : Int) ≤ (j : Int) := by omega
      have z2 : (j : Int) < (K : Int) := by omega
      rw [show (pg key).f0 = key from rfl] at p0
      obtain ⟨i0, hi, hz0, hz1, hz2⟩ := info_parts infoU64
      have hb1 : k + 1 ≤ maxLen := by unfold maxLen; omega
      have hb2 : (k + 1) * 8 ≤ 140737488355328 := by omega
      have HX1 := Lib.hid hx1
      have HX2 := Lib.hid hx2
      have HJ := Lib.hid hj
      have HD := Lib.hid hd
      clear hx1 hx2 hj hd hK
      go_upto_region 4 with fail
      clear b5 p0
      go_upto_region 5 with (at_builtin; refine wpList_append_lies _ rfl (.tmp 21) (.tmp 23) 22 rfl (N + 2) 31 i0 (.int .u64 0) 1 8 Try.underlying22 hi hz0 hz1 hz2 rfl (by decide) _ _ _ rfl (HS.out.row.alloc _) ⟨wr.heap.size, 0, none⟩ 1 1 [.int .u64 key] rfl rfl (World.news_of_block (cs := #[.int .u64 key]) (alloc_last _ _ _)) (by intro u hu; simp at hu; subst hu; rfl) (by decide) hb1 hb2 (by have := HS.out.size; simp; omega) _ rfl ?_; intro g cap w3 hown hgrow hat hlt3; have OWN := Lib.hid hown; have GR := Lib.hid hgrow; have AT := Lib.hid hat; have LT3 := Lib.hid hlt3; clear hown hgrow hat hlt3)
      have KG := Lib.hid ((kept_of_grown2 GR.out).of_alloc)
      have hro : ∀ q, u5.ownBlock = some q → N + 2 ≤ q ∧ q < wr.heap.size := fun q z => by have := ownsRow_lt HS.out.row z; omega
      have HRO := Lib.hid hro
      clear hro
      have C3 := Lib.hid (HS.out.calm.step KG.out (fun q h1 h2 => by have := HRO.out q h2; omega))
      have B3 := Lib.hid (HB.out.kept KG.out (fun z => by have := HRO.out N z; omega))
      have R3 := Lib.hid (HS.out.res.kept KG.out (fun z => by have := HRO.out (N + 1) z; omega))
      have PK3 := Lib.hid (HPP.out w3 C3.out (KG.out.mono (fun q _ z => .inl z.symm)))
      have S3 := Lib.hid (Nat.le_trans HS.out.size KG.out.size)
      have HW3 := Lib.hid (RefWithout_calls PK3.out (by rw [List.length_take]; omega) key)
      have b5 : w3.cell? ⟨N, 5, none⟩ = some (.slice (some ad) K q) := (B3.out.cell 5).trans rfl
      go_upto_region 6 with (go_at_call 74; refine HW3.out.mono ?_; rintro e' w4 ⟨v4, rfl, hp4, ho4, hc4⟩; obtain ⟨T4, q4, rfl, hq4, hr4⟩ := hp4; have P4 : Hid (PagesAt w4 (.slice T4 (without (ks.take K) key).length q4) (without (ks.take K) key)) := Lib.hid ⟨T4, q4, rfl, hq4, hr4⟩; have C4 := Lib.hid hc4; have B4 := Lib.hid (B3.out.calm hc4); have R4 := Lib.hid (R3.out.calm hc4); have O4 := Lib.hid ho4; have t5 := (B4.out.cell 5).trans rfl; have tz := B4.out.frozen 5; clear hq4 hr4 ho4 hc4 HW3 b5)
      have B5 : Hid (Blk (w4.setCell ⟨N, 5, none⟩ (.slice T4 (without (ks.take K) key).length q4)) N (inCells c 0 (.slice T4 (without (ks.take K) key).length q4) qv gv 0 0 (evicts k n))) := Lib.hid (B4.out.set 5 _)
      have R5 := Lib.hid (R4.out.other (a := ⟨N, 5, none⟩) (by show N + 1 ≠ N; omega) (.slice T4 (without (ks.take K) key).length q4))
      have K5 : Hid (Go.Proofs.Ytekbgpfpnjddgaa.Kept (fun q => q = N) w4 (w4.setCell ⟨N, 5, none⟩ (.slice T4 (without (ks.take K) key).length q4))) := Lib.hid ((Kept.refl (fun q => q = N) w4).setCell (p := ⟨N, 5, none⟩) (fun _ => rfl) _)
      change Code.wp _ _ _ _ (w4.setCell ⟨N, 5, none⟩ (.slice T4 (without (ks.take K) key).length q4))
      generalize w4.setCell ⟨N, 5, none⟩ (.slice T4 (without (ks.take K) key).length q4) = w5 at B5 R5 K5 ⊢
      clear t5 tz
      have b15 : w5.cell? ⟨N, 15, none⟩ = some (.int .u64 (evicts k n).n5) := (B5.out.cell 15).trans rfl
      have bz := B5.out.frozen 15
      go_wp2_with fail
      clear b15 bz
      have B6 : Hid (Blk (w5.setCell ⟨N, 15, none⟩ (.int .u64 (IntKind.u64.wrap ((evicts k n).n5 + 1)))) N (inCells c 0 (.slice T4 (without (ks.take K) key).length q4) qv gv 0 0 (evicts (k + 1) n))) := Lib.hid (B5.out.set 15 _)
      have R6 := Lib.hid (R5.out.other (a := ⟨N, 15, none⟩) (by show N + 1 ≠ N; omega) (.int .u64 (IntKind.u64.wrap ((evicts k n).n5 + 1))))
      have K6 := Lib.hid (K5.out.setCell (p := ⟨N, 15, none⟩) (fun _ => rfl) (.int .u64 (IntKind.u64.wrap ((evicts k n).n5 + 1))))
      go_roundw
      case rel =>
        have hw5 : w4.heap.size ≤ (w5.setCell ⟨N, 15, none⟩ (.int .u64 (IntKind.u64.wrap ((evicts k n).n5 + 1)))).heap.size := K6.out.size
        generalize w5.setCell ⟨N, 15, none⟩ (.int .u64 (IntKind.u64.wrap ((evicts k n).n5 + 1))) = w6 at B6 R6 K6 hw5
        have hw34 := C4.out.size
        have hS3 := S3.out
        have hLT := LT3.out
        have eT : ks.length - (k + 1) = K - 1 := by have := HK.out; omega
        refine ⟨k + 1, by have := HD.out; have := HK.out; omega, (C3.out.trans C4.out).step K6.out (fun q h1 h2 => by omega), ?_, R6.out, by omega, _, B6.out, ?_, ?_⟩
        · have e1 : ((ks.drop (ks.length - (k + 1))).reverse).map (Value.int .u64) = ((ks.drop (ks.length - k)).reverse).map (Value.int .u64) ++ [.int .u64 key] := by
            rw [eT, HX2.out, HK.out]
            simp
          rw [e1]
          exact ownsRow_kept (ownsRow_kept OWN.out C4.out (fun _ _ z => z)) K6.out (fun q z y => by have := (ownsRow_lt OWN.out z).2; omega)
        · right
          intro q z
          have := O4.out q z
          omega
        · intro wz _ hkz
          have e3 : without (ks.take K) key = ks.take (ks.length - (k + 1)) := by
            have hnd : (ks.take K).Nodup := HN.out.sublist (List.take_sublist ..)
            rw [HX1.out] at hnd ⊢
            rw [without_mid hnd, List.append_nil, eT]
          have h6 := P4.out.kept K6.out (fun q z y => by have := O4.out q z; omega)
          have h7 := h6.kept hkz (fun q z y => by
            have := O4.out q z
            rcases y with y | y | y
            · have y : q = g := by injection y
              omega
            · omega
            · omega)
          rw [← e3]
          exact h7
      case measure =>
        have := ownsRow_len HS.out.row
        rw [this]
        show ks.length - (k + 1) < ks.length - k
        have := HD.out
        have := HK.out
        omega
end Lru
end Go.Proofs.Ytekbgpfpnjddgaa
namespace Go.Proofs.Ytekbgpfpnjddgaa
open Go.RowKit Go.Proofs.YtekbgpfpnjddgaaW.PrintWords Go.Proofs.YtekbgpfpnjddgaaW.PrintLast Go.Proofs.YtekbgpfpnjddgaaW.PrintMore
open Go.Proofs.Ytekbgpfpnjddgaa.PLruLoads
namespace Lru
/-- A state with what was evicted lies in one box, and a state's room in another. -/
structure Gon (G R : Nat) (cs : Array Value) (w : World) : Prop where
  box : Blk w G cs
  res : ∃ rs, Blk w R rs ∧ rs.size = 20
theorem Gon.drew {G R : Nat} {cs : Array Value} {w : World} (h : Gon G R cs w) : Gon G R cs w.drew := ⟨h.box, h.res⟩
theorem Gon.calm {G R : Nat} {cs : Array Value} {w w' : World} (h : Gon G R cs w) (hc : Calm w w') : Gon G R cs w' := by
  obtain ⟨rs, h1, h2⟩ := h.res
  exact ⟨h.box.calm hc, rs, h1.calm hc, h2⟩
theorem Gon.there {G R : Nat} {cs : Array Value} {w : World} (h : Gon G R cs w) {k : Nat} (hk : k = 20) : w.there R 0 k := by
  subst hk
  obtain ⟨rs, h1, h2⟩ := h.res
  exact there_of h1 20 h2
theorem Gon.to {G R : Nat} {cs : Array Value} {w : World} (h : Gon G R cs w) (vs : Array Value) (hs : vs.size = 20) (hne : G ≠ R) : Gon G R cs (w.setCells R 0 vs.toList) := by
  obtain ⟨rs, h1, h2⟩ := h.res
  exact ⟨h.box.kept (setCells_kept (F := fun k => k = R) (b := R) (fun _ => rfl) vs.toList 0 w (Kept.refl _ _)) (fun z => hne z), vs, setCells_blk h1 vs (by omega), hs⟩
theorem Gon.blkTo {G R : Nat} {cs : Array Value} {w : World} (h : Gon G R cs w) (vs : Array Value) (hs : vs.size = 20) : Blk (w.setCells R 0 vs.toList) R vs := by
  obtain ⟨rs, h1, h2⟩ := h.res
  exact setCells_blk h1 vs (by omega)
theorem Gon.gone {G R : Nat} {c : Conf} {n : Cnt} {pv qv gv o : Value} {w : World} (h : Gon G R (goneCells c n pv qv gv o) w) : w.cell? ⟨G, 20, none⟩ = some o := (h.box.cell 20).trans rfl
theorem PagesAt.spilt {w w3 wx : World} {F : Nat → Prop} {pv v3 : Value} {ks : List Int} {most : Nat} (hv : PagesAt w pv ks) (h3 : PagesAt w3 v3 (ks.take most)) (ho : v3 = pv ∨ ∀ g, v3.ownBlock = some g → ¬ F g) (hc : Calm w wx) (hk : Go.Proofs.Ytekbgpfpnjddgaa.Kept F w3 wx) : PagesAt wx v3 (ks.take most) := by
  rcases ho with rfl | ho
  · have hl : (ks.take most).length = ks.length := by
      obtain ⟨A, cp, h1, _⟩ := hv
      obtain ⟨B, cq, h2, _⟩ := h3
      rw [h1] at h2
      injection h2 with _ h2 _
      exact h2.symm
    have e : ks.take most = ks := by
      rw [List.length_take] at hl
      exact List.take_of_length_le (by omega)
    rw [e]
    exact hv.calm hc
  · exact h3.kept hk ho
set_option maxRecDepth 100000 in
set_option maxHeartbeats 1000000 in
theorem RefResize_calls {w : World} (c c' : Conf) (n : Cnt) (pv qv gv : Value) (ks : List Int) (hv : PagesAt w pv ks) (hl : ks.length ≤ 1000) (hn : ks.Nodup) (hq : qv.oneCell' = true) (hg : gv.oneCell' = true) (most : Nat) (hm : c'.cap = (most : Int)) :
    Calls Try.prog 43 #[stIn c n pv qv gv, c'.agg] w fun e w' => ∃ v' o, e = .returned (.tuple #[stIn c' (evicts (ks.length - most) n) v' qv gv, o]) ∧ PagesAt w' v' (ks.take most) ∧ (v' = pv ∨ ∀ g, v'.ownBlock = some g → w.heap.size ≤ g ∧ g < w'.heap.size) ∧
      w'.ownsRow w.heap.size 31 1 o (ks.length - most) (((ks.drop most).reverse).map (Value.int .u64)) ∧ Calm w w' := by
  have HP := Lib.hid (fun w1 (hc : Calm w w1) => RefSpill_calls (w := w1) c' n pv qv gv ks (hv.calm hc) hl hn hq hg most)
  unfold stIn at HP ⊢
  unfold Conf.agg
  have HM := Lib.hid hm
  have HV := Lib.hid hv
  clear hv hn hm
  go_enter Try.func43, Try.ntmps43
  go_upto_region 1 with fail
  have C1 : Hid (Calm w (((w.alloc (.cells (inCells c 0 pv qv gv 0 0 n) 38)).alloc (.cells #[.int .i64 c'.pol, .int .i64 c'.cap, .int .i64 c'.quota, .int .i64 c'.ghosts] 25)).alloc (.cells (stCells ⟨0, 0, 0, 0⟩ zeroCnt (.slice none 0 0)) 38))) := Lib.hid ((((Kept.refl _ w).alloc _).alloc _).alloc _)
  have B1 := Lib.hid (((Blk.new w (inCells c 0 pv qv gv 0 0 n) 38).alloc (.cells #[.int .i64 c'.pol, .int .i64 c'.cap, .int .i64 c'.quota, .int .i64 c'.ghosts] 25)).alloc (.cells (stCells ⟨0, 0, 0, 0⟩ zeroCnt (.slice none 0 0)) 38))
  have Q1 := Lib.hid ((Blk.new' (w := w.alloc (.cells (inCells c 0 pv qv gv 0 0 n) 38)) (b := w.heap.size + 1) (by simp) #[.int .i64 c'.pol, .int .i64 c'.cap, .int .i64 c'.quota, .int .i64 c'.ghosts] 25).alloc (.cells (stCells ⟨0, 0, 0, 0⟩ zeroCnt (.slice none 0 0)) 38))
  have R1 := Lib.hid (Blk.new' (w := (w.alloc (.cells (inCells c 0 pv qv gv 0 0 n) 38)).alloc (.cells #[.int .i64 c'.pol, .int .i64 c'.cap, .int .i64 c'.quota, .int .i64 c'.ghosts] 25)) (b := w.heap.size + 2) (by simp) (stCells ⟨0, 0, 0, 0⟩ zeroCnt (.slice none 0 0)) 38)
  have S1 : Hid ((((w.alloc (.cells (inCells c 0 pv qv gv 0 0 n) 38)).alloc (.cells #[.int .i64 c'.pol, .int .i64 c'.cap, .int .i64 c'.quota, .int .i64 c'.ghosts] 25)).alloc (.cells (stCells ⟨0, 0, 0, 0⟩ zeroCnt (.slice none 0 0)) 38)).heap.size = w.heap.size + 3) := Lib.hid (by simp)
  change Code.wp _ _ _ _ (((w.alloc (.cells (inCells c 0 pv qv gv 0 0 n) 38)).alloc (.cells #[.int .i64 c'.pol, .int .i64 c'.cap, .int .i64 c'.quota, .int .i64 c'.ghosts] 25)).alloc (.cells (stCells ⟨0, 0, 0, 0⟩ zeroCnt (.slice none 0 0)) 38))
  generalize ((w.alloc (.cells (inCells c 0 pv qv gv 0 0 n) 38)).alloc (.cells #[.int .i64 c'.pol, .int .i64 c'.cap, .int .i64 c'.quota, .int .i64 c'.ghosts] 25)).alloc (.cells (stCells ⟨0, 0, 0, 0⟩ zeroCnt (.slice none 0 0)) 38) = w1 at C1 B1 Q1 R1 S1 ⊢
  generalize hN : w.heap.size = N at B1 Q1 R1 S1 ⊢
  have HQ := Lib.hid (blk_range Q1.out 0 4 [.int .i64 c'.pol, .int .i64 c'.cap, .int .i64 c'.quota, .int .i64 c'.ghosts] rfl)
  have HTB := Lib.hid (there_of B1.out 20 rfl)
  refine wp_region_lit ?_
  refine wpList_load_mid rfl 25 (.tmp 3) rfl (N + 1) 0 rfl [.int .i64 c'.pol, .int .i64 c'.cap, .int .i64 c'.quota, .int .i64 c'.ghosts] _ HQ.out Try.underlying25 rfl sizeConf ?_
  iterate 3 go_step
  refine wpList_store_mid rfl 25 (.tmp 8) (.tmp 7) rfl N 0 #[.int .i64 c'.pol, .int .i64 c'.cap, .int .i64 c'.quota, .int .i64 c'.ghosts] rfl rfl (fun j hj => HTB.out j (by have : j < 4 := hj; omega)) sizeConf (by simp [Value.oneCell']) ?_
  have B2 : Hid (Blk (w1.setCells N 0 (#[.int .i64 c'.pol, .int .i64 c'.cap, .int .i64 c'.quota, .int .i64 c'.ghosts] : Array Value).toList) N (inCells c' 0 pv qv gv 0 0 n)) := Lib.hid ((((B1.out.set 0 (.int .i64 c'.pol)).set 1 (.int .i64 c'.cap)).set 2 (.int .i64 c'.quota)).set 3 (.int .i64 c'.ghosts))
  have K2 := Lib.hid (setCells_kept (F := fun k => k = N) (b := N) (fun _ => rfl) (#[.int .i64 c'.pol, .int .i64 c'.cap, .int .i64 c'.quota, .int .i64 c'.ghosts] : Array Value).toList 0 w1 (Kept.refl _ _))
  generalize w1.setCells N 0 (#[.int .i64 c'.pol, .int .i64 c'.cap, .int .i64 c'.quota, .int .i64 c'.ghosts] : Array Value).toList = w2 at B2 K2 ⊢
  have Q2 := Lib.hid (Q1.out.kept K2.out (fun q => by omega))
  have R2 := Lib.hid (R1.out.kept K2.out (fun q => by omega))
  have C2 := Lib.hid (C1.out.step K2.out (fun k h1 h2 => by omega))
  have HPP := Lib.hid (HP.out w2 C2.out)
  go_upto_region 2 with fail
  have HRG := Lib.hid (blk_range B2.out 0 20 (inCells c' 0 pv qv gv 0 0 n).toList rfl)
  have q1 : w2.cell? ⟨N + 1, 1, none⟩ = some (.int .i64 most) := by rw [← HM.out]; exact (Q2.out.cell 1).trans rfl
  refine wp_region_lit ?_
  refine wpList_load_mid rfl 38 (.tmp 2) rfl N 0 rfl (inCells c' 0 pv qv gv 0 0 n).toList _ HRG.out Try.underlying38 rfl sizeSt ?_
  iterate 3 go_step
  iterate 3 go_step
  iterate 2 go_step
  go_at_call 73
  refine HPP.out.mono ?_
  rintro e' w3 ⟨v3, o3, rfl, hp3, ho3, hr3, hc3⟩
  dsimp only
  go_step
  have P3 := Lib.hid hp3
  have O3 := Lib.hid ho3
  have RW3 := Lib.hid hr3
  have C3 := Lib.hid hc3
  clear hp3 ho3 hr3 hc3 q1 HRG
  iterate 3 go_step
  have ho2 : ∃ A l k, o3 = .slice A l k := by
    rcases RW3.out.2 with ⟨z, _⟩ | ⟨_, _, _, z, _⟩ <;> exact ⟨_, _, _, z⟩
  have ho1 : o3.oneCell' = true := by obtain ⟨_, _, _, z⟩ := ho2; rw [z]; rfl
  have H1 := Lib.hid (in_one (c := c') (n := evicts (ks.length - most) n) (tgt := 0) (cold := 0) (tst := 0) P3.out.one hq hg)
  refine wpList_plain rfl fun K hK => wp_store_new 138 (.tmp 6) (.tmp 12) rfl w3 (goneCells ⟨0, 0, 0, 0⟩ zeroCnt (.slice none 0 0) (.slice none 0 0) (.slice none 0 0) (.slice none 0 0)) (goneCells c' (evicts (ks.length - most) n) v3 qv gv o3) rfl rfl sizeGone rfl (gone_one P3.out.one hq hg ho1) (hK _ _ ?_)
  clear hK K
  have G4 := Lib.hid (Blk.new w3 (goneCells c' (evicts (ks.length - most) n) v3 qv gv o3) 138)
  have R4 := Lib.hid ((R2.out.calm C3.out).alloc (.cells (goneCells c' (evicts (ks.length - most) n) v3 qv gv o3) 138))
  have K4 : Hid (Calm w3 (w3.alloc (.cells (goneCells c' (evicts (ks.length - most) n) v3 qv gv o3) 138))) := Lib.hid ((Kept.refl _ w3).alloc _)
  have hs3 : N + 3 ≤ w3.heap.size := by have := S1.out; have := K2.out.size; have := C3.out.size; omega
  have HS3 := Lib.hid hs3
  clear hs3 ho1 ho2
  go_upto_region 3 with fail
  generalize w3.alloc (.cells (goneCells c' (evicts (ks.length - most) n) v3 qv gv o3) 138) = w4 at G4 R4 K4 ⊢
  generalize hG : w3.heap.size = G at G4
  have HGR : Hid (G ≠ N + 1 + 1) := Lib.hid (by have := HS3.out; omega)
  have hheld : Gon G (N + 1 + 1) (goneCells c' (evicts (ks.length - most) n) v3 qv gv o3) w4 := ⟨G4.out, _, R4.out, rfl⟩
  refine wp_region_noPanic ?_
  refine start_ (n := 6) (S := Gon G (N + 1 + 1) (goneCells c' (evicts (ks.length - most) n) v3 qv gv o3)) (ds := []) #[false, false, false, false, false, false] (by kernel_rfl) rfl rfl hheld.drew (fun hHeld => ?_)
  refine pure_ (i := 0) (N := some 13) (v := ?_) (a' := ?_) #[true, false, false, false, false, false] rfl rfl (by kernel_rfl) (fun _ _ _ h => h) (Or.inl ⟨by rfl, ?_⟩) ?_ ?_
  rotate_left
  · intro w'; go_simp; with_reducible rfl
  rotate_left
  · simp only [Act.put, List.setIfInBounds_toArray, List.set_cons_zero, List.set_cons_succ]; rfl
  refine take_ (i := 1) (N := some 14) (v := .agg ((inCells c' 0 v3 qv gv 0 0 (evicts (ks.length - most) n)).toList).toArray) (a' := ?_) #[true, true, false, false, false, false] rfl rfl (by kernel_rfl) (fun _ _ _ h => h) (yieldsIf_load_mid (by rfl) 38 (.tmp 13) rfl G 0 rfl (inCells c' 0 v3 qv gv 0 0 (evicts (ks.length - most) n)).toList _ (fun w' hS => blk_range hS.box 0 20 _ rfl) Try.underlying38 rfl sizeSt) hHeld ?_ ?_
  rotate_left
  · simp only [Act.put, List.setIfInBounds_toArray, List.set_cons_zero, List.set_cons_succ]; rfl
  refine pure_ (i := 2) (N := some 15) (v := ?_) (a' := ?_) #[true, true, true, false, false, false] rfl rfl (by kernel_rfl) (fun _ _ _ h => h) (Or.inl ⟨by rfl, ?_⟩) ?_ ?_
  rotate_left
  · intro w'; go_simp; with_reducible rfl
  rotate_left
  · simp only [Act.put, List.setIfInBounds_toArray, List.set_cons_zero, List.set_cons_succ]; rfl
  refine take_ (i := 3) (N := some 16) (v := ?_) (a' := ?_) #[true, true, true, true, false, false] rfl rfl (by kernel_rfl) (fun _ _ _ h => h) (Or.inl ⟨by rfl, ?_⟩) hHeld ?_ ?_
  rotate_left
  · intro w' hS; have c0 := hS.gone; go_simp; with_reducible rfl
  rotate_left
  · simp only [Act.put, List.setIfInBounds_toArray, List.set_cons_zero, List.set_cons_succ]; rfl
  refine one_ (i := 4) (N := none) #[true, true, true, true, true, false] rfl rfl (by kernel_rfl) (by decide) (fun K hK => ?_)
  rw [if_pos (by rfl)]
  have BX := Lib.hid (hHeld.blkTo (inCells c' 0 v3 qv gv 0 0 (evicts (ks.length - most) n)) rfl)
  have KX := Lib.hid (setCells_kept (F := fun k => k = N + 1 + 1) (b := N + 1 + 1) (fun _ => rfl) (inCells c' 0 v3 qv gv 0 0 (evicts (ks.length - most) n)).toList 0 w4.drew (Kept.refl _ _))
  have hheld' := hHeld.to (inCells c' 0 v3 qv gv 0 0 (evicts (ks.length - most) n)) rfl HGR.out
  refine wp_store_mid 38 (.tmp 4) (.tmp 14) rfl (N + 1 + 1) 0 (inCells c' 0 v3 qv gv 0 0 (evicts (ks.length - most) n)) rfl rfl (hHeld.there rfl) sizeSt H1.out ?_
  refine hK.out _ _ hheld' (fun hHeld => ?_)
  refine pure_ (i := 5) (N := some 5) (v := ?_) (a' := ?_) #[true, true, true, true, true, true] rfl rfl (by kernel_rfl) (fun _ _ _ h => h) (Or.inl ⟨by rfl, ?_⟩) ?_ ?_
  rotate_left
  · intro w'; go_simp; with_reducible rfl
  rotate_left
  · rfl
  refine done_ (by kernel_rfl) ?_
  clear K hK hheld'
  refine NoPanic.normal ?_
  generalize w4.drew.setCells (N + 1 + 1) 0 (inCells c' 0 v3 qv gv 0 0 (evicts (ks.length - most) n)).toList = wx at BX KX hHeld ⊢
  go_wp2_with fail
  obtain ⟨tX, hX⟩ := BX.out
  have HS := HS3.out
  refine bodyPost_ret (results_row_tmp rfl _ _ (N + 1 + 1) tX (inCells c' 0 v3 qv gv 0 0 (evicts (ks.length - most) n)) (0, 0) _ rfl hX Try.underlying38 rfl sizeSt) rfl ?_
  have hK4 : Go.Proofs.Ytekbgpfpnjddgaa.Kept (fun k => k = N + 1 + 1) w3 wx := (K4.out.drew.mono (fun _ _ q => q.elim)).trans KX.out
  have CX : Calm w wx := (C2.out.trans C3.out).step hK4 (fun k h1 h2 => by omega)
  have HS2 : N + 3 ≤ w2.heap.size := by have := S1.out; have := K2.out.size; omega
  refine ⟨_, o3, rfl, HV.out.spilt P3.out (O3.out.imp id (fun h g z q => by have := (h g z).1; omega)) CX hK4, ?_, ?_, CX⟩
  · refine O3.out.imp id (fun h g z => ?_)
    have := h g z
    have := hK4.size
    have := C2.out.size
    omega
  · have hr := ownsRow_kept RW3.out hK4 (fun g z y => by have := ownsRow_lt RW3.out z; omega)
    exact ownsRow_weaken (base' := w.heap.size) hr (by omega)
set_option maxRecDepth 100000 in
theorem RefAdmit_no {w : World} (c : Conf) (n : Cnt) (pv qv gv : Value) (ks : List Int) (hv : PagesAt w pv ks) (hl : ks.length ≤ 1000) (hq : qv.oneCell' = true) (hg : gv.oneCell' = true) (key : Int) (hk : key ∈ ks) :
    Calls Try.prog 47 #[stIn c n pv qv gv, .int .u64 key] w fun e w' => e = .returned (.tuple #[stIn c n pv qv gv, .slice none 0 0, .bool false]) ∧ Calm w w' := by
  unfold stIn
  have HV := Lib.hid hv
  have HK := Lib.hid (fun w1 (hc : Calm w w1) => RefKept_st (w := w1) c n pv qv gv ks (hv.calm hc) hl key)
  simp only [decide_eq_true hk] at HK
  have H1 := Lib.hid (in_one (c := c) (n := n) (tgt := 0) (cold := 0) (tst := 0) hv.one hq hg)
  clear hv hk
  go_enter Try.func47, Try.ntmps47
  go_upto_region 1 with fail
  have LA := Lib.hid (Laid.mk' w (inCells c 0 pv qv gv 0 0 n) 38 38)
  change Code.wp _ _ _ _ ((w.alloc (.cells (inCells c 0 pv qv gv 0 0 n) 38)).alloc (.cells (stCells ⟨0, 0, 0, 0⟩ zeroCnt (.slice none 0 0)) 38))
  generalize (w.alloc (.cells (inCells c 0 pv qv gv 0 0 n) 38)).alloc (.cells (stCells ⟨0, 0, 0, 0⟩ zeroCnt (.slice none 0 0)) 38) = w1 at LA ⊢
  generalize w.heap.size = N at LA ⊢
  have HRG := Lib.hid (blk_range LA.out.box 0 20 (inCells c 0 pv qv gv 0 0 n).toList rfl)
  refine wp_region_lit ?_
  refine wpList_load_mid rfl 38 (.tmp 2) rfl N 0 rfl (inCells c 0 pv qv gv 0 0 n).toList _ HRG.out Try.underlying38 rfl sizeSt ?_
  have HKK := Lib.hid (HK.out w1 LA.out.calm)
  go_upto_region 2 with (go_at_call 45; refine HKK.out.mono ?_; rintro e' w2 ⟨rfl, hc⟩; have C2 := Lib.hid hc; clear hc HKK HRG)
  have HRG := Lib.hid (blk_range (LA.out.box.calm C2.out) 0 20 (inCells c 0 pv qv gv 0 0 n).toList rfl)
  have R2 := Lib.hid (LA.out.res.calm C2.out)
  have HTH := Lib.hid (there_of R2.out (inCells c 0 pv qv gv 0 0 n).size rfl)
  refine wp_region_lit ?_
  refine wpList_load_mid rfl 38 (.tmp 2) rfl N 0 rfl (inCells c 0 pv qv gv 0 0 n).toList _ HRG.out Try.underlying38 rfl sizeSt ?_
  refine wpList_store_mid rfl 38 (.tmp 4) (.tmp 11) rfl (N + 1) 0 (inCells c 0 pv qv gv 0 0 n) rfl rfl HTH.out sizeSt H1.out ?_
  have BX := Lib.hid (setCells_blk R2.out (inCells c 0 pv qv gv 0 0 n) rfl)
  have KX := Lib.hid (setCells_kept (F := fun k => k = N + 1) (b := N + 1) (fun _ => rfl) (inCells c 0 pv qv gv 0 0 n).toList 0 w2 (Kept.refl _ _))
  generalize w2.setCells (N + 1) 0 (inCells c 0 pv qv gv 0 0 n).toList = wx at BX KX ⊢
  go_wp2_with fail
  obtain ⟨tX, hX⟩ := BX.out
  refine bodyPost_ret (results_row_tmp2 rfl _ _ (N + 1) tX (inCells c 0 pv qv gv 0 0 n) (0, 0) _ rfl hX Try.underlying38 rfl sizeSt) rfl ?_
  exact ⟨rfl, (LA.out.calm.trans C2.out).step KX.out (fun k h1 h2 => by have := LA.out.base; omega)⟩
set_option maxRecDepth 100000 in
set_option maxHeartbeats 1000000 in
theorem RefAdmit_yes {w : World} (c : Conf) (n : Cnt) (pv qv gv : Value) (ks : List Int) (hv : PagesAt w pv ks) (hl : ks.length ≤ 1000) (hn : ks.Nodup) (hq : qv.oneCell' = true) (hg : gv.oneCell' = true) (key : Int) (hk : key ∉ ks) (most : Nat) (hm : c.cap = (most : Int) + 1) (hmost : most < 256) :
    Calls Try.prog 47 #[stIn c n pv qv gv, .int .u64 key] w fun e w' => ∃ v' o, e = .returned (.tuple #[stIn c (evicts (ks.length - most) (miss n)) v' qv gv, o, .bool true]) ∧ PagesAt w' v' (key :: ks.take most) ∧ (∀ g, v'.ownBlock = some g → w.heap.size ≤ g ∧ g < w'.heap.size) ∧
      w'.ownsRow w.heap.size 31 1 o (ks.length - most) (((ks.drop most).reverse).map (Value.int .u64)) ∧ Calm w w' := by
  unfold stIn
  have HK := Lib.hid (fun w1 (hc : Calm w w1) => RefKept_st (w := w1) c n pv qv gv ks (hv.calm hc) hl key)
  have HP := Lib.hid (fun w1 (hc : Calm w w1) => RefSpill_calls (w := w1) c (miss n) pv qv gv ks (hv.calm hc) hl hn hq hg most)
  have HF := Lib.hid (fun (w1 : World) (v3 : Value) (h : PagesAt w1 v3 (ks.take most)) => RefFirst_calls (w := w1) c (evicts (ks.length - most) (miss n)) v3 qv gv (ks.take most) h (Nat.le_trans (List.length_take_le ..) (by omega)) hq hg key)
  unfold stIn at HP HF
  simp only [decide_eq_false hk] at HK
  rw [without_not (fun z => hk (List.mem_of_mem_take z))] at HF
  have HV := Lib.hid hv
  clear hv hk hn
  go_enter Try.func47, Try.ntmps47
  go_upto_region 1 with fail
  have LA := Lib.hid (Laid.mk' w (inCells c 0 pv qv gv 0 0 n) 38 38)
  change Code.wp _ _ _ _ ((w.alloc (.cells (inCells c 0 pv qv gv 0 0 n) 38)).alloc (.cells (stCells ⟨0, 0, 0, 0⟩ zeroCnt (.slice none 0 0)) 38))
  generalize (w.alloc (.cells (inCells c 0 pv qv gv 0 0 n) 38)).alloc (.cells (stCells ⟨0, 0, 0, 0⟩ zeroCnt (.slice none 0 0)) 38) = w1 at LA ⊢
  generalize hN : w.heap.size = N at LA ⊢
  have HRG := Lib.hid (blk_range LA.out.box 0 20 (inCells c 0 pv qv gv 0 0 n).toList rfl)
  refine wp_region_lit ?_
  refine wpList_load_mid rfl 38 (.tmp 2) rfl N 0 rfl (inCells c 0 pv qv gv 0 0 n).toList _ HRG.out Try.underlying38 rfl sizeSt ?_
  have HKK := Lib.hid (HK.out w1 LA.out.calm)
  go_upto_region 3 with (go_at_call 45; refine HKK.out.mono ?_; rintro e' w2 ⟨rfl, hc⟩; have C2 := Lib.hid hc; clear hc HKK HRG)
  have B2 := Lib.hid (LA.out.box.calm C2.out)
  have R2 := Lib.hid (LA.out.res.calm C2.out)
  have CW2 := Lib.hid (LA.out.calm.trans C2.out)
  have HS2 := Lib.hid (show N + 2 ≤ w2.heap.size by rw [← LA.out.size]; exact C2.out.size)
  have bA : w2.cell? ⟨N, 11, none⟩ = some (.int .u64 n.n1) := (B2.out.cell 11).trans rfl
  have bz := B2.out.frozen 11
  go_upto_region 4 with fail
  have B3 : Hid (Blk (w2.setCell ⟨N, 11, none⟩ (.int .u64 (IntKind.u64.wrap (n.n1 + 1)))) N (inCells c 0 pv qv gv 0 0 (miss n))) := Lib.hid (B2.out.set 11 _)
  have R3 := Lib.hid (R2.out.other (a := ⟨N, 11, none⟩) (by show N + 1 ≠ N; omega) (.int .u64 (IntKind.u64.wrap (n.n1 + 1))))
  have K3 : Hid (Go.Proofs.Ytekbgpfpnjddgaa.Kept (fun k => k = N) w2 (w2.setCell ⟨N, 11, none⟩ (.int .u64 (IntKind.u64.wrap (n.n1 + 1))))) := Lib.hid ((Kept.refl (fun k => k = N) w2).setCell (p := ⟨N, 11, none⟩) (fun _ => rfl) _)
  clear bA bz
  change Code.wp _ _ _ _ (w2.setCell ⟨N, 11, none⟩ (.int .u64 (IntKind.u64.wrap (n.n1 + 1))))
  generalize w2.setCell ⟨N, 11, none⟩ (.int .u64 (IntKind.u64.wrap (n.n1 + 1))) = w3 at B3 R3 K3 ⊢
  have C3 := Lib.hid (CW2.out.step K3.out (fun k h1 h2 => by omega))
  have HS3 := Lib.hid (Nat.le_trans HS2.out K3.out.size)
  have b1 : w3.cell? ⟨N, 1, none⟩ = some (.int .i64 ((most : Int) + 1)) := by rw [← hm]; exact (B3.out.cell 1).trans rfl
  have z1 : wrap64 (most : Int) = (most : Int) := by unfold wrap64; omega
  have z2 : wrap64 ((most : Int) + 1 - 1) = (most : Int) := by unfold wrap64; omega
  have HRG := Lib.hid (blk_range B3.out 0 20 (inCells c 0 pv qv gv 0 0 (miss n)).toList rfl)
  have HPP := Lib.hid (HP.out w3 C3.out)
  clear hm
  refine wp_region_lit ?_
  refine wpList_load_mid rfl 38 (.tmp 2) rfl N 0 rfl (inCells c 0 pv qv gv 0 0 (miss n)).toList _ HRG.out Try.underlying38 rfl sizeSt ?_
  iterate 12 go_step
  iterate 2 go_step
  go_at_call 73
  refine HPP.out.mono ?_
  rintro e' w4 ⟨v3, o3, rfl, hp3, ho3, hr3, hc3⟩
  dsimp only
  go_step
  have P3 := Lib.hid hp3
  have O3 := Lib.hid ho3
  have RW3 := Lib.hid hr3
  have D3 := Lib.hid hc3
  clear hp3 ho3 hr3 hc3 b1 HRG
  iterate 3 go_step
  have ho2 : ∃ A l k, o3 = .slice A l k := by
    rcases RW3.out.2 with ⟨z, _⟩ | ⟨_, _, _, z, _⟩ <;> exact ⟨_, _, _, z⟩
  have ho1 : o3.oneCell' = true := by obtain ⟨_, _, _, z⟩ := ho2; rw [z]; rfl
  refine wpList_plain rfl fun K hK => wp_store_new 138 (.tmp 7) (.tmp 23) rfl w4 (goneCells ⟨0, 0, 0, 0⟩ zeroCnt (.slice none 0 0) (.slice none 0 0) (.slice none 0 0) (.slice none 0 0)) (goneCells c (evicts (ks.length - most) (miss n)) v3 qv gv o3) rfl rfl sizeGone rfl (gone_one P3.out.one hq hg ho1) (hK _ _ ?_)
  clear hK K
  have G4 := Lib.hid (Blk.new w4 (goneCells c (evicts (ks.length - most) (miss n)) v3 qv gv o3) 138)
  have R4 := Lib.hid ((R3.out.calm D3.out).alloc (.cells (goneCells c (evicts (ks.length - most) (miss n)) v3 qv gv o3) 138))
  have K4 : Hid (Calm w4 (w4.alloc (.cells (goneCells c (evicts (ks.length - most) (miss n)) v3 qv gv o3) 138))) := Lib.hid ((Kept.refl _ w4).alloc _)
  have HS4 := Lib.hid (Nat.le_trans HS3.out D3.out.size)
  clear ho1 ho2
  go_upto_region 5 with fail
  generalize w4.alloc (.cells (goneCells c (evicts (ks.length - most) (miss n)) v3 qv gv o3) 138) = w5 at G4 R4 K4 ⊢
  generalize hG : w4.heap.size = G at G4
  have HGR : Hid (G ≠ N + 1) := Lib.hid (by have := HS4.out; omega)
  have CW5 := Lib.hid ((C3.out.trans D3.out).trans K4.out.drew)
  have P5 : Hid (PagesAt w5.drew v3 (ks.take most)) := Lib.hid (HV.out.spilt (F := fun _ => False) P3.out (.inr (fun _ _ z => z)) CW5.out K4.out.drew)
  have HF5 := Lib.hid (HF.out w5.drew v3 P5.out)
  have hheld : Gon G (N + 1) (goneCells c (evicts (ks.length - most) (miss n)) v3 qv gv o3) w5 := ⟨G4.out, _, R4.out, rfl⟩
  refine wp_region_noPanic ?_
  refine start_ (n := 9) (S := Gon G (N + 1) (goneCells c (evicts (ks.length - most) (miss n)) v3 qv gv o3)) (ds := []) #[false, false, false, false, false, false, false, false, false] (by kernel_rfl) rfl rfl hheld.drew (fun hHeld => ?_)
  refine pure_ (i := 0) (N := some 24) (v := ?_) (a' := ?_) #[true, false, false, false, false, false, false, false, false] rfl rfl (by kernel_rfl) (fun _ _ _ h => h) (Or.inl ⟨by rfl, ?_⟩) ?_ ?_
  rotate_left
  · intro w'; go_simp; with_reducible rfl
  rotate_left
  · simp only [Act.put, List.setIfInBounds_toArray, List.set_cons_zero, List.set_cons_succ]; rfl
  refine take_ (i := 1) (N := some 25) (v := .agg ((inCells c 0 v3 qv gv 0 0 (evicts (ks.length - most) (miss n))).toList).toArray) (a' := ?_) #[true, true, false, false, false, false, false, false, false] rfl rfl (by kernel_rfl) (fun _ _ _ h => h) (yieldsIf_load_mid (by rfl) 38 (.tmp 24) rfl G 0 rfl (inCells c 0 v3 qv gv 0 0 (evicts (ks.length - most) (miss n))).toList _ (fun w' hS => blk_range hS.box 0 20 _ rfl) Try.underlying38 rfl sizeSt) hHeld ?_ ?_
  rotate_left
  · simp only [Act.put, List.setIfInBounds_toArray, List.set_cons_zero, List.set_cons_succ]; rfl
  refine pure_ (i := 2) (N := some 26) (v := ?_) (a' := ?_) #[true, true, true, false, false, false, false, false, false] rfl rfl (by kernel_rfl) (fun _ _ _ h => h) (Or.inl ⟨by rfl, ?_⟩) ?_ ?_
  rotate_left
  · intro w'; go_simp; with_reducible rfl
  rotate_left
  · simp only [Act.put, List.setIfInBounds_toArray, List.set_cons_zero, List.set_cons_succ]; rfl
  refine pure_ (i := 4) (N := some 28) (v := ?_) (a' := ?_) #[true, true, true, false, true, false, false, false, false] rfl rfl (by kernel_rfl) (fun _ _ _ h => h) (Or.inl ⟨by rfl, ?_⟩) ?_ ?_
  rotate_left
  · intro w'; go_simp; with_reducible rfl
  rotate_left
  · simp only [Act.put, List.setIfInBounds_toArray, List.set_cons_zero, List.set_cons_succ]; rfl
  refine take_ (i := 5) (N := some 29) (v := ?_) (a' := ?_) #[true, true, true, false, true, true, false, false, false] rfl rfl (by kernel_rfl) (fun _ _ _ h => h) (Or.inl ⟨by rfl, ?_⟩) hHeld ?_ ?_
  rotate_left
  · intro w' hS; have c0 := hS.gone; go_simp; with_reducible rfl
  rotate_left
  · simp only [Act.put, List.setIfInBounds_toArray, List.set_cons_zero, List.set_cons_succ]; rfl
  refine one_ (i := 3) (N := some 27) #[true, true, true, true, true, true, false, false, false] rfl rfl (by kernel_rfl) (by decide) (fun K hK => ?_)
  rw [if_pos (by rfl)]
  go_simp
  go_at_call 75
  refine HF5.out.mono ?_
  rintro e' w6 ⟨v6, rfl, hp6, ho6, hc6⟩
  dsimp only
  have P6 := Lib.hid hp6
  have O6 := Lib.hid ho6
  have D6 := Lib.hid hc6
  have H1 := Lib.hid (in_one (c := c) (n := evicts (ks.length - most) (miss n)) (tgt := 0) (cold := 0) (tst := 0) hp6.one hq hg)
  have hheld6 := hHeld.calm hc6
  clear hp6 ho6 hc6
  refine hK.out _ _ hheld6 (fun hHeld => ?_)
  clear K hK hheld6
  refine one_ (i := 6) (N := none) #[true, true, true, true, true, true, true, false, false] rfl rfl (by kernel_rfl) (by decide) (fun K hK => ?_)
  rw [if_pos (by rfl)]
  have BX := Lib.hid (hHeld.blkTo (inCells c 0 v6 qv gv 0 0 (evicts (ks.length - most) (miss n))) rfl)
  have KX := Lib.hid (setCells_kept (F := fun k => k = N + 1) (b := N + 1) (fun _ => rfl) (inCells c 0 v6 qv gv 0 0 (evicts (ks.length - most) (miss n))).toList 0 w6 (Kept.refl _ _))
  have hheld' := hHeld.to (inCells c 0 v6 qv gv 0 0 (evicts (ks.length - most) (miss n))) rfl HGR.out
  refine wp_store_mid 38 (.tmp 4) (.tmp 27) rfl (N + 1) 0 (inCells c 0 v6 qv gv 0 0 (evicts (ks.length - most) (miss n))) rfl rfl (hHeld.there rfl) sizeSt H1.out ?_
  refine hK.out _ _ hheld' (fun hHeld => ?_)
  refine pure_ (i := 7) (N := some 5) (v := ?_) (a' := ?_) #[true, true, true, true, true, true, true, true, false] rfl rfl (by kernel_rfl) (fun _ _ _ h => h) (Or.inl ⟨by rfl, ?_⟩) ?_ ?_
  rotate_left
  · intro w'; go_simp; with_reducible rfl
  rotate_left
  · rfl
  refine pure_ (i := 8) (N := some 6) (v := ?_) (a' := ?_) #[true, true, true, true, true, true, true, true, true] rfl rfl (by kernel_rfl) (fun _ _ _ h => h) (Or.inl ⟨by rfl, ?_⟩) ?_ ?_
  rotate_left
  · intro w'; go_simp; with_reducible rfl
  rotate_left
  · rfl
  refine done_ (by kernel_rfl) ?_
  clear K hK hheld'
  refine NoPanic.normal ?_
  generalize w6.setCells (N + 1) 0 (inCells c 0 v6 qv gv 0 0 (evicts (ks.length - most) (miss n))).toList = wx at BX KX hHeld ⊢
  go_wp2_with fail
  obtain ⟨tX, hX⟩ := BX.out
  have HS := HS4.out
  refine bodyPost_ret (results_row_tmp2 rfl _ _ (N + 1) tX (inCells c 0 v6 qv gv 0 0 (evicts (ks.length - most) (miss n))) (0, 0) _ rfl hX Try.underlying38 rfl sizeSt) rfl ?_
  have hsw : w4.heap.size ≤ w5.drew.heap.size := K4.out.size
  have C6 := D6.out.size
  refine ⟨v6, o3, rfl, P6.out.kept KX.out (fun g z q => by have := (O6.out g z).1; omega), ?_, ?_, (CW5.out.trans D6.out).step KX.out (fun k h1 h2 => by omega)⟩
  · intro g z
    have := O6.out g z
    have := KX.out.size
    omega
  · have hs3 := HS3.out
    have hr := ownsRow_kept (ownsRow_kept RW3.out (K4.out.drew.trans D6.out) (fun _ _ z => z)) KX.out (fun g z y => by have := ownsRow_lt RW3.out z; omega)
    exact ownsRow_weaken (base' := w.heap.size) hr (by omega)
end Lru
end Go.Proofs.Ytekbgpfpnjddgaa
