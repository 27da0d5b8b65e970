/- Walks over hutchlaw16.LruLoads: a state that may be; the whole. -/
import Derived.Test.YtekbgpfpnjddgaaLruX
namespace Go.Proofs.Ytekbgpfpnjddgaa
open Go.RowKit Go.Proofs.YtekbgpfpnjddgaaW.PrintWords Go.Proofs.YtekbgpfpnjddgaaW.PrintLast Go.Proofs.YtekbgpfpnjddgaaW.PrintMore
open Go.Proofs.Ytekbgpfpnjddgaa.PLruLoads
namespace Lru
theorem sizeAct : (Try.prog.info? 53).map (·.size) = some 6 := by kernel_rfl
theorem Same_kin {w : World} (c : Conf) (n : Cnt) {base : Nat} {v pv : Value} {ks : List Int} (h : w.ownsRow base 42 4 v ks.length (ks.flatMap pageV)) (hl : ks.length ≤ 1000) (hp : PagesAt w pv ks) (Aq : Option Addr) (cq : Nat) (Ag : Option Addr) (cg : Nat) :
    Calls Try.prog 18 #[stAgg c n v, .agg (inCells c 0 pv (.slice Aq 0 cq) (.slice Ag 0 cg) 0 0 n)] w fun e w' => e = .returned (.bool true) ∧ Calm w w' := by
  obtain ⟨A, cp, rfl, h1, h2⟩ := hp
  exact Same_calls c n h hl A cp h1 h2 Aq cq Ag cg
/-- What the loop holds on to: the state's box, and an engine that stands as it says. -/
structure Rn (w : World) (N e : Nat) (F : Nat → Prop) (c : Conf) (n : Cnt) (ks : List Int) (m : Int) (pv qv gv : Value) (w' : World) : Prop where
  box : Blk w' N (inCells c 0 pv qv gv 0 0 n)
  st : Stands w' e F c n ks m
  fits : c.fits = true
  calm : Calm w w'
  pages : ∀ wz, Go.Proofs.Ytekbgpfpnjddgaa.Kept (fun k => F k ∨ k = N) w' wz → PagesAt wz pv ks
  apart : ∀ k, F k → N < k
section
variable {w : World} {N e : Nat} {F : Nat → Prop} {c : Conf} {n : Cnt} {ks : List Int} {m : Int} {pv qv gv : Value} {w' : World}
theorem Rn.at (h : Rn w N e F c n ks m pv qv gv w') : PagesAt w' pv ks := h.pages w' (Kept.refl _ _)
theorem Rn.on {w'' : World} (h : Rn w N e F c n ks m pv qv gv w') (hc : Calm w' w'') : Rn w N e F c n ks m pv qv gv w'' :=
  ⟨h.box.calm hc, h.st.calm hc, h.fits, h.calm.trans hc, fun wz hk => h.pages wz ((hc.mono (fun _ _ q => q.elim)).trans hk), h.apart⟩
theorem Rn.drew (h : Rn w N e F c n ks m pv qv gv w') : Rn w N e F c n ks m pv qv gv w'.drew := h.on ((Kept.refl _ _).drew)
theorem Rn.kin (h : Rn w N e F c n ks m pv qv gv w') : Kin w' e F c n ks m pv := ⟨h.st, h.fits, fun wz hk => h.pages wz (hk.mono (fun _ _ q => .inl q))⟩
theorem Rn.len (h : Rn w N e F c n ks m pv qv gv w') : ks.length ≤ 1000 := h.kin.len
end
set_option maxRecDepth 100000 in
set_option maxHeartbeats 2000000 in
theorem Loads_right {w : World} {c : Conf} {n : Cnt} {A : Option Addr} {cp : Nat} {ks : List Int} {Aq : Option Addr} {cq : Nat} {Ag : Option Addr} {cg : Nat} (h : InAt w A cp (ks.map pg) Aq cq [] Ag cg []) {v : Value} {xs : List ActR} (hx : ActsW w v xs) (hm : xs.length ≤ 40) (hs : ks.length ≤ 60) (hr : rightB c 0 0 0 (ks.map pg) 0 0 = true) :
    Calls Try.prog 5 #[.agg (inCells c 0 (.slice A ks.length cp) (.slice Aq 0 cq) (.slice Ag 0 cg) 0 0 n), v] w fun e w' => e = .returned (.bool true) ∧ Calm w w' := by
  have HX := Lib.hid hx
  obtain ⟨AA, ca, rfl, hca, _⟩ := hx
  have HI := Lib.hid h
  have HRL := Lib.hid (fun wz (hc : Calm w wz) => Right_calls (w := wz) (c := c) (n := n) 0 0 0 A cp (ks.map pg) Aq 0 cq Ag 0 cg (Kd.C_below HI.out.p hc.below) (by rw [List.length_map]; exact hs) (by omega) (by omega))
  have HRR := Lib.hid (fun wz (hc : Calm w wz) => RefRight_calls (w := wz) (c := c) (n := n) (tgt := 0) (cold := 0) (tst := 0) (HI.out.calm hc) (by rw [List.length_map]; exact hs))
  simp only [List.length_nil] at HRR
  rw [hr] at HRL HRR
  simp only [List.length_map] at HRL HRR
  clear h
  go_enter Try.func5, Try.ntmps5
  go_upto_region 1 with fail
  have C1 := Lib.hid (Kept.alloc (Kept.refl (fun _ => False) w) (.cells (inCells c 0 (.slice A ks.length cp) (.slice Aq 0 cq) (.slice Ag 0 cg) 0 0 n) 38))
  have B1 := Lib.hid (Blk.new w (inCells c 0 (.slice A ks.length cp) (.slice Aq 0 cq) (.slice Ag 0 cg) 0 0 n) 38)
  generalize w.alloc (.cells (inCells c 0 (.slice A ks.length cp) (.slice Aq 0 cq) (.slice Ag 0 cg) 0 0 n) 38) = w1 at C1 B1 ⊢
  generalize hN : w.heap.size = N at B1
  have hd : decide ((40 : Int) < (xs.length : Int)) = false := decide_eq_false (by omega)
  have hd2 : decide (40 < xs.length) = false := decide_eq_false (by omega)
  have HSM0 := Lib.hid (Small_calls (c := c) (tgt := 0) (cold := 0) (tst := 0) (n := n) (HI.out.calm C1.out))
  rw [decide_eq_true (by rw [List.length_map]; exact ⟨hs, Nat.zero_le _, Nat.zero_le _⟩)] at HSM0
  have HSM := HSM0
  simp only [List.length_map, List.length_nil] at HSM
  clear HSM0
  have HRG := Lib.hid (blk_range B1.out 0 20 (inCells c 0 (.slice A ks.length cp) (.slice Aq 0 cq) (.slice Ag 0 cg) 0 0 n).toList rfl)
  refine wp_region_lit ?_
  iterate 12 go_step
  refine wpList_step fun K hK => ?_
  rw [if_pos (by rfl)]
  refine wp_load_mid 38 (.tmp 2) rfl N 0 rfl (inCells c 0 (.slice A ks.length cp) (.slice Aq 0 cq) (.slice Ag 0 cg) 0 0 n).toList _ HRG.out Try.underlying38 rfl sizeSt (hK _ _ ?_)
  clear K hK
  refine wpList_step fun K hK => ?_
  rw [if_pos (by rfl)]
  go_simp
  go_at_call 14
  refine HSM.out.mono ?_
  rintro e' w2 ⟨rfl, hc2⟩
  dsimp only
  refine hK _ _ ?_
  clear K hK HSM HRG
  have C2 := Lib.hid (C1.out.trans hc2)
  have B2 := Lib.hid (B1.out.calm hc2)
  clear hc2
  have HL0 := Load_good (w := w2) (c := c) (n := n) 0 0 0 A cp (ks.map pg) Aq 0 cq Ag 0 cg (Kd.C_below HI.out.p (Calm.below C2.out)) (by rw [List.length_map]; exact hs) (by omega) (by omega) hr
  simp only [List.length_map] at HL0
  have HRG := Lib.hid (blk_range B2.out 0 20 (inCells c 0 (.slice A ks.length cp) (.slice Aq 0 cq) (.slice Ag 0 cg) 0 0 n).toList rfl)
  have HL := Lib.hid (HL0)
  go_upto_region 3 with fail
  refine wp_region_lit ?_
  refine wpList_load_mid rfl 38 (.tmp 2) rfl N 0 rfl (inCells c 0 (.slice A ks.length cp) (.slice Aq 0 cq) (.slice Ag 0 cg) 0 0 n).toList _ HRG.out Try.underlying38 rfl sizeSt ?_
  iterate 2 go_step
  go_at_call 15
  refine HL.out.mono ?_
  rintro e' w3 ⟨e, rfl, hh3⟩
  dsimp only
  go_step
  obtain ⟨F, ps, m, hI, hps, hFF⟩ := hh3.is
  have hks : ps.map Prod.snd = ks := by
    rw [hps, List.take_of_length_le (Nat.le_of_eq (List.length_map _)), List.map_map]
    exact List.map_id' _
  have C3 := Lib.hid (C2.out.trans hh3.calm)
  have B3 := Lib.hid (B2.out.calm hh3.calm)
  have hN2 : N < w2.heap.size := B2.out.lt
  have HF := Lib.hid (show ∀ k, F k → N < k from fun k q => by have := (hFF k q).1; omega)
  have hR3 : Rn w N e F c n ks m (.slice A ks.length cp) (.slice Aq 0 cq) (.slice Ag 0 cg) w3 := by
    refine ⟨B3.out, ⟨ps, hI, hks⟩, (rightB_true hr).1, C3.out, fun wz hk => ?_, HF.out⟩
    have cz : Calm w wz := C3.out.step hk (fun k h1 h2 => by
      rcases h2 with h2 | h2
      · have := HF.out k h2; omega
      · omega)
    exact ⟨A, cp, rfl, by have := HI.out.hp; rw [List.length_map] at this; exact this, Kd.C_below HI.out.p (Calm.below cz)⟩
  have R3 := Lib.hid hR3
  clear hR3 hh3 hI hps hFF HRG HL HL0 hr hks
  go_upto_region 4 with fail
  have hheld : Rn w N e F c n ks m (.slice A ks.length cp) (.slice Aq 0 cq) (.slice Ag 0 cg) w3 := R3.out
  go_cut [29] from 25 to 29 (fun v29 wz => v29 = .bool false ∧ Rn w N e F c n ks m (.slice A ks.length cp) (.slice Aq 0 cq) (.slice Ag 0 cg) wz)
  case first =>
    refine wp_region_noPanic ?_
    refine start_ (n := 5) (S := Rn w N e F c n ks m (.slice A ks.length cp) (.slice Aq 0 cq) (.slice Ag 0 cg)) (ds := []) #[false, false, false, false, false] (by kernel_rfl) rfl rfl hheld.drew (fun hHeld => ?_)
    refine take_ (i := 0) (N := some 25) (v := .agg ((inCells c 0 (.slice A ks.length cp) (.slice Aq 0 cq) (.slice Ag 0 cg) 0 0 n).toList).toArray) (a' := ?_) #[true, false, false, false, false] rfl rfl (by kernel_rfl) (fun _ _ _ h => h) (yieldsIf_load_mid (by rfl) 38 (.tmp 2) rfl N 0 rfl (inCells c 0 (.slice A ks.length cp) (.slice Aq 0 cq) (.slice Ag 0 cg) 0 0 n).toList _ (fun w' hS => blk_range hS.box 0 20 _ rfl) Try.underlying38 rfl sizeSt) hHeld ?_ ?_
    rotate_left
    · simp only [Act.put, List.setIfInBounds_toArray, List.set_cons_zero, List.set_cons_succ]; rfl
    refine take_ (i := 2) (N := some 27) (v := .agg ((inCells c 0 (.slice A ks.length cp) (.slice Aq 0 cq) (.slice Ag 0 cg) 0 0 n).toList).toArray) (a' := ?_) #[true, false, true, false, false] rfl rfl (by kernel_rfl) (fun _ _ _ h => h) (yieldsIf_load_mid (by rfl) 38 (.tmp 2) rfl N 0 rfl (inCells c 0 (.slice A ks.length cp) (.slice Aq 0 cq) (.slice Ag 0 cg) 0 0 n).toList _ (fun w' hS => blk_range hS.box 0 20 _ rfl) Try.underlying38 rfl sizeSt) hHeld ?_ ?_
    rotate_left
    · simp only [Act.put, List.setIfInBounds_toArray, List.set_cons_zero, List.set_cons_succ]; rfl
    refine one_ (i := 1) (N := some 26) #[true, true, true, false, false] rfl rfl (by kernel_rfl) (by decide) (fun K hK => ?_)
    rw [if_pos (by rfl)]
    go_simp
    go_at_call 16
    refine (HRL.out _ hHeld.calm).mono ?_
    rintro e' wc ⟨rfl, hcc⟩
    dsimp only
    refine hK.out _ _ (hHeld.on hcc) (fun hHeld => ?_)
    clear K hK hcc
    refine one_ (i := 3) (N := some 28) #[true, true, true, true, false] rfl rfl (by kernel_rfl) (by decide) (fun K hK => ?_)
    rw [if_pos (by rfl)]
    go_simp
    go_at_call 17
    refine (HRR.out _ hHeld.calm).mono ?_
    rintro e' wc2 ⟨rfl, hcc⟩
    dsimp only
    refine hK.out _ _ (hHeld.on hcc) (fun hHeld => ?_)
    clear K hK hcc
    refine take_ (i := 4) (N := some 29) (v := ?_) (a' := ?_) #[true, true, true, true, true] rfl rfl (by kernel_rfl) (fun _ _ _ h => h) (Or.inl ⟨by rfl, ?_⟩) hHeld ?_ ?_
    rotate_left
    · intro w' hS; go_simp; with_reducible rfl
    rotate_left
    · rfl
    refine done_ (by kernel_rfl) ?_
    refine NoPanic.normal ?_
    go_wp2_with fail
    go_meet
    exact ⟨by simp, hHeld⟩
  case rest =>
    obtain ⟨rfl, hh⟩ := hcut
    have HH := Lib.hid hh
    clear hh hheld
    have HRG := Lib.hid (blk_range HH.out.box 0 20 (inCells c 0 (.slice A ks.length cp) (.slice Aq 0 cq) (.slice Ag 0 cg) 0 0 n).toList rfl)
    have HRX := Lib.hid (HRR.out wc HH.out.calm)
    go_upto_region 6 with fail
    refine wp_region_lit ?_
    refine wpList_load_mid rfl 38 (.tmp 2) rfl N 0 rfl (inCells c 0 (.slice A ks.length cp) (.slice Aq 0 cq) (.slice Ag 0 cg) 0 0 n).toList _ HRG.out Try.underlying38 rfl sizeSt ?_
    iterate 2 go_step
    go_at_call 17
    refine HRX.out.mono ?_
    rintro e' w6 ⟨rfl, hc6⟩
    dsimp only
    go_step
    have H6 := Lib.hid (HH.out.on hc6)
    clear hc6 HRG
    have hheld := H6.out
    go_upto_region 8 with fail
    refine wp_region_noPanic ?_
    refine start_ (n := 13) (S := Rn w N e F c n ks m (.slice A ks.length cp) (.slice Aq 0 cq) (.slice Ag 0 cg)) (ds := []) #[false, false, false, false, false, false, false, false, false, false, false, false, false] (by kernel_rfl) rfl rfl hheld.drew (fun hHeld => ?_)
    refine pure_ (i := 0) (N := some 42) (v := ?_) (a' := ?_) #[true, false, false, false, false, false, false, false, false, false, false, false, false] rfl rfl (by kernel_rfl) (fun _ _ _ h => h) (Or.inl ⟨by rfl, ?_⟩) ?_ ?_
    rotate_left
    · intro w'; go_simp; with_reducible rfl
    rotate_left
    · simp only [Act.put, List.setIfInBounds_toArray, List.set_cons_zero, List.set_cons_succ]; rfl
    refine pure_ (i := 1) (N := some 43) (v := ?_) (a' := ?_) #[true, true, false, false, false, false, false, false, false, false, false, false, false] rfl rfl (by kernel_rfl) (fun _ _ _ h => h) (Or.inl ⟨by rfl, ?_⟩) ?_ ?_
    rotate_left
    · intro w'; go_simp; with_reducible rfl
    rotate_left
    · simp only [Act.put, List.setIfInBounds_toArray, List.set_cons_zero, List.set_cons_succ]; rfl
    refine pure_ (i := 2) (N := some 44) (v := ?_) (a' := ?_) #[true, true, true, false, false, false, false, false, false, false, false, false, false] rfl rfl (by kernel_rfl) (fun _ _ _ h => h) (Or.inl ⟨by rfl, ?_⟩) ?_ ?_
    rotate_left
    · intro w'; go_simp; with_reducible rfl
    rotate_left
    · simp only [Act.put, List.setIfInBounds_toArray, List.set_cons_zero, List.set_cons_succ]; rfl
    refine pure_ (i := 3) (N := some 45) (v := ?_) (a' := ?_) #[true, true, true, true, false, false, false, false, false, false, false, false, false] rfl rfl (by kernel_rfl) (fun _ _ _ h => h) (Or.inl ⟨by rfl, ?_⟩) ?_ ?_
    rotate_left
    · intro w'; go_simp; with_reducible rfl
    rotate_left
    · simp only [Act.put, List.setIfInBounds_toArray, List.set_cons_zero, List.set_cons_succ]; rfl
    refine pure_ (i := 4) (N := some 46) (v := ?_) (a' := ?_) #[true, true, true, true, true, false, false, false, false, false, false, false, false] rfl rfl (by kernel_rfl) (fun _ _ _ h => h) (Or.inl ⟨by rfl, ?_⟩) ?_ ?_
    rotate_left
    · intro w'; go_simp; with_reducible rfl
    rotate_left
    · simp only [Act.put, List.setIfInBounds_toArray, List.set_cons_zero, List.set_cons_succ]; rfl
    refine pure_ (i := 5) (N := some 47) (v := ?_) (a' := ?_) #[true, true, true, true, true, true, false, false, false, false, false, false, false] rfl rfl (by kernel_rfl) (fun _ _ _ h => h) (Or.inl ⟨by rfl, ?_⟩) ?_ ?_
    rotate_left
    · intro w'; go_simp; with_reducible rfl
    rotate_left
    · simp only [Act.put, List.setIfInBounds_toArray, List.set_cons_zero, List.set_cons_succ]; rfl
    refine pure_ (i := 6) (N := some 48) (v := ?_) (a' := ?_) #[true, true, true, true, true, true, true, false, false, false, false, false, false] rfl rfl (by kernel_rfl) (fun _ _ _ h => h) (Or.inl ⟨by rfl, ?_⟩) ?_ ?_
    rotate_left
    · intro w'; go_simp; with_reducible rfl
    rotate_left
    · simp only [Act.put, List.setIfInBounds_toArray, List.set_cons_zero, List.set_cons_succ]; rfl
    refine pure_ (i := 7) (N := some 49) (v := ?_) (a' := ?_) #[true, true, true, true, true, true, true, true, false, false, false, false, false] rfl rfl (by kernel_rfl) (fun _ _ _ h => h) (Or.inl ⟨by rfl, ?_⟩) ?_ ?_
    rotate_left
    · intro w'; go_simp; with_reducible rfl
    rotate_left
    · simp only [Act.put, List.setIfInBounds_toArray, List.set_cons_zero, List.set_cons_succ]; rfl
    refine take_ (i := 9) (N := some 51) (v := .agg ((inCells c 0 (.slice A ks.length cp) (.slice Aq 0 cq) (.slice Ag 0 cg) 0 0 n).toList).toArray) (a' := ?_) #[true, true, true, true, true, true, true, true, false, true, false, false, false] rfl rfl (by kernel_rfl) (fun _ _ _ h => h) (yieldsIf_load_mid (by rfl) 38 (.tmp 2) rfl N 0 rfl (inCells c 0 (.slice A ks.length cp) (.slice Aq 0 cq) (.slice Ag 0 cg) 0 0 n).toList _ (fun w' hS => blk_range hS.box 0 20 _ rfl) Try.underlying38 rfl sizeSt) hHeld ?_ ?_
    rotate_left
    · simp only [Act.put, List.setIfInBounds_toArray, List.set_cons_zero, List.set_cons_succ]; rfl
    refine one_ (i := 8) (N := some 50) #[true, true, true, true, true, true, true, true, true, true, false, false, false] rfl rfl (by kernel_rfl) (by decide) (fun K hK => ?_)
    rw [if_pos (by rfl)]
    go_simp
    go_at_call 11
    refine (State_stands hHeld.st).mono ?_
    rintro e' wS ⟨vS, rfl, hrow, hcc⟩
    dsimp only
    have ROW := Lib.hid hrow
    refine hK.out _ _ (hHeld.on hcc) (fun hHeld => ?_)
    clear K hK hcc hrow
    refine one_ (i := 10) (N := some 52) #[true, true, true, true, true, true, true, true, true, true, true, false, false] rfl rfl (by kernel_rfl) (by decide) (fun K hK => ?_)
    rw [if_pos (by rfl)]
    go_simp
    go_at_call 18
    refine (Same_kin _ _ ROW.out hHeld.len hHeld.at Aq cq Ag cg).mono ?_
    rintro e' wT ⟨rfl, hcc⟩
    dsimp only
    refine hK.out _ _ (hHeld.on hcc) (fun hHeld => ?_)
    clear K hK hcc ROW
    refine pure_ (i := 11) (N := some 53) (v := ?_) (a' := ?_) #[true, true, true, true, true, true, true, true, true, true, true, true, false] rfl rfl (by kernel_rfl) (fun _ _ _ h => h) (Or.inl ⟨by rfl, ?_⟩) ?_ ?_
    rotate_left
    · intro w'; go_simp; with_reducible rfl
    rotate_left
    · rfl
    refine pure_ (i := 12) (N := some 54) (v := ?_) (a' := ?_) #[true, true, true, true, true, true, true, true, true, true, true, true, true] rfl rfl (by kernel_rfl) (fun _ _ _ h => h) (Or.inl ⟨by rfl, ?_⟩) ?_ ?_
    rotate_left
    · intro w'; go_simp; with_reducible rfl
    rotate_left
    · rfl
    refine done_ (by kernel_rfl) ?_
    refine NoPanic.normal ?_
    have H8 := Lib.hid hHeld
    clear hHeld hheld H6 HH HRX R3 B3 C3 C2 B2 C1 B1 HRL HRR
    go_upto_region 11 with fail
    go_loopw [57] (fun v57 wr => ∃ (j : Nat) (F : Nat → Prop) (c : Conf) (n : Cnt) (ks : List Int) (m : Int) (pv : Value), j ≤ xs.length ∧ v57 = .int .i64 (j : Int) ∧ Rn w N e F c n ks m pv (.slice Aq 0 cq) (.slice Ag 0 cg) wr) (fun v57 _ => xs.length - (intOf v57).toNat)
    case atStart => exact ⟨0, F, c, n, ks, m, _, Nat.zero_le _, rfl, H8.out⟩
    case round =>
      obtain ⟨j, F1, c1, n1, k1, m1, pv, hj, rfl, hrn⟩ := hrel
      have RN := Lib.hid hrn
      clear hrn
      by_cases hlt : j < xs.length
      · obtain ⟨AA', ca', hAA, _, hcells⟩ := HX.out.calm RN.out.calm
        injection hAA with hA1 _ hA3
        subst hA1 hA3
        obtain ⟨ad, rfl, hcell⟩ := hcells.resolve_left (fun q => by rw [q] at hlt; exact Nat.not_lt_zero _ hlt)
        obtain ⟨q0, q1, q2, q3, q4, q5⟩ := hcell j hlt
        generalize xs.getD j default = x at q0 q1 q2 q3 q4 q5
        clear hcell hcells
        have z1 : (0 : Int) ≤ (j : Int) := by omega
        have z2 : (j : Int) < (xs.length : Int) := by omega
        go_upto_region 13 with fail
        have B8 := Lib.hid (Blk.new wr (actCells x.k x.key x.c) 53)
        have R12 := Lib.hid (RN.out.on ((Kept.refl _ wr).alloc (.cells (actCells x.k x.key x.c) 53)))
        change Code.wp _ _ _ _ (wr.alloc (.cells (actCells x.k x.key x.c) 53))
        generalize wr.alloc (.cells (actCells x.k x.key x.c) 53) = w4 at B8 R12 ⊢
        generalize wr.heap.size = H at B8
        clear q0 q1 q2 q3 q4 q5 z1 z2
        have HRG := Lib.hid (blk_range R12.out.box 0 20 (inCells c1 0 pv (.slice Aq 0 cq) (.slice Ag 0 cg) 0 0 n1).toList rfl)
        have HAG := Lib.hid (blk_range B8.out 0 6 (actCells x.k x.key x.c).toList rfl)
        have HSP := Step_calls R12.out.kin (qv := .slice Aq 0 cq) (gv := .slice Ag 0 cg) rfl rfl x.k x.key x.c
        unfold stIn at HSP
        refine wp_region_lit ?_
        iterate 3 go_step
        refine wpList_load_mid rfl 38 (.tmp 2) rfl N 0 rfl (inCells c1 0 pv (.slice Aq 0 cq) (.slice Ag 0 cg) 0 0 n1).toList _ HRG.out Try.underlying38 rfl sizeSt ?_
        refine wpList_load_mid rfl 53 (.tmp 8) rfl H 0 rfl (actCells x.k x.key x.c).toList _ HAG.out Try.underlying53 rfl sizeAct ?_
        iterate 2 go_step
        go_at_call 19
        refine HSP.mono ?_
        rintro e' w5 ⟨r, rfl, c2, n2, ks2, v2, F2, jj, d, rfl, hk2, hkk, hF2, _, _, hown⟩
        dsimp only
        go_step
        have K2 := Lib.hid hk2
        have KK := Lib.hid hkk
        have HF2 := Lib.hid hF2
        have OWN := Lib.hid hown
        have H1 := Lib.hid (in_one (c := c2) (n := n2) (tgt := 0) (cold := 0) (tst := 0) (qv := .slice Aq 0 cq) (gv := .slice Ag 0 cg) hk2.at.one rfl rfl)
        clear hk2 hkk hF2 hown HRG HAG HSP
        generalize IntKind.u64.wrap (m1 + (jj : Int)) = m2 at K2
        iterate 12 go_step
        refine wpList_plain rfl fun K hK => wp_store_new 38 (.tmp 9) (.tmp 66) rfl w5 (stCells ⟨0, 0, 0, 0⟩ zeroCnt (.slice none 0 0)) (inCells c2 0 v2 (.slice Aq 0 cq) (.slice Ag 0 cg) 0 0 n2) rfl rfl sizeSt rfl H1.out (hK _ _ ?_)
        clear hK K
        have B6 := Lib.hid ((R12.out.box.kept KK.out (fun z => by have := R12.out.apart N z; omega)).alloc (.cells (inCells c2 0 v2 (.slice Aq 0 cq) (.slice Ag 0 cg) 0 0 n2) 38))
        have G6 := Lib.hid (Blk.new w5 (inCells c2 0 v2 (.slice Aq 0 cq) (.slice Ag 0 cg) 0 0 n2) 38)
        have K6 : Hid (Calm w5 (w5.alloc (.cells (inCells c2 0 v2 (.slice Aq 0 cq) (.slice Ag 0 cg) 0 0 n2) 38))) := Lib.hid ((Kept.refl _ w5).alloc _)
        go_upto_region 14 with fail
        generalize w5.alloc (.cells (inCells c2 0 v2 (.slice Aq 0 cq) (.slice Ag 0 cg) 0 0 n2) 38) = w6 at B6 G6 K6 ⊢
        generalize hG : w5.heap.size = G at G6
        have HRG := Lib.hid (blk_range G6.out 0 20 (inCells c2 0 v2 (.slice Aq 0 cq) (.slice Ag 0 cg) 0 0 n2).toList rfl)
        have HTH := Lib.hid (there_of B6.out (inCells c2 0 v2 (.slice Aq 0 cq) (.slice Ag 0 cg) 0 0 n2).size rfl)
        refine wp_region_lit ?_
        refine wpList_load_mid rfl 38 (.tmp 9) rfl G 0 rfl (inCells c2 0 v2 (.slice Aq 0 cq) (.slice Ag 0 cg) 0 0 n2).toList _ HRG.out Try.underlying38 rfl sizeSt ?_
        refine wpList_store_mid rfl 38 (.tmp 2) (.tmp 68) rfl N 0 (inCells c2 0 v2 (.slice Aq 0 cq) (.slice Ag 0 cg) 0 0 n2) rfl rfl HTH.out sizeSt H1.out ?_
        have BX := Lib.hid (setCells_blk B6.out (inCells c2 0 v2 (.slice Aq 0 cq) (.slice Ag 0 cg) 0 0 n2) rfl)
        have KX := Lib.hid (setCells_kept (F := fun k => k = N) (b := N) (fun _ => rfl) (inCells c2 0 v2 (.slice Aq 0 cq) (.slice Ag 0 cg) 0 0 n2).toList 0 w6 (Kept.refl _ _))
        generalize w6.setCells N 0 (inCells c2 0 v2 (.slice Aq 0 cq) (.slice Ag 0 cg) 0 0 n2).toList = w7 at BX KX ⊢
        have hR7 : Rn w N e F2 c2 n2 ks2 m2 v2 (.slice Aq 0 cq) (.slice Ag 0 cg) w7 := by
          have hN4 : N < w4.heap.size := R12.out.box.lt
          have hap : ∀ k, F2 k → N < k := fun k z => (HF2.out k z).elim (R12.out.apart k) (fun y => by omega)
          have K57 := KX.out
          have KA : Go.Proofs.Ytekbgpfpnjddgaa.Kept (fun k => F1 k ∨ k = N) w4 w7 := ((KK.out.mono (fun _ _ q => .inl q)).trans (K6.out.mono (fun _ _ q => q.elim))).trans (KX.out.mono (fun _ _ q => .inr q))
          refine ⟨BX.out, (K2.out.st.calm K6.out).kept KX.out (fun k z q => by have := hap k z; omega), K2.out.fits, ?_, ?_, hap⟩
          · refine R12.out.calm.step KA (fun k h1 h2 => ?_)
            rcases h2 with h2 | h2
            · have := R12.out.apart k h2; omega
            · omega
          · intro wz hk
            rcases OWN.out with ⟨hv, e2⟩ | ho
            · rw [e2, hv]
              refine R12.out.pages wz (KA.step hk (fun i h1 h2 => ?_))
              rcases h2 with h2 | h2
              · exact .inl ((HF2.out i h2).resolve_right (by omega))
              · exact .inr h2
            · have e1 := (K2.out.at.calm K6.out).kept KX.out (fun g z q => by have := (ho g z).1; omega)
              exact e1.kept hk (fun g z q => by
                rcases q with q | q
                · exact (ho g z).2 q
                · have := (ho g z).1; omega)
        have hheld := hR7
        clear BX KX HTH HRG B6 G6 K6 OWN HF2 KK K2 R12 B8 RN hR7 H1
        go_upto_region 15 with fail
        refine wp_region_noPanic ?_
        refine start_ (n := 9) (S := Rn w N e F2 c2 n2 ks2 m2 v2 (.slice Aq 0 cq) (.slice Ag 0 cg)) (ds := []) #[false, false, false, false, false, false, false, false, false] (by kernel_rfl) rfl rfl hheld.drew (fun hHeld => ?_)
        refine pure_ (i := 0) (N := some 69) (v := ?_) (a' := ?_) #[true, false, false, false, false, false, false, false, false] rfl rfl (by kernel_rfl) (fun _ _ _ h => h) (Or.inl ⟨by rfl, ?_⟩) ?_ ?_
        rotate_left
        · intro w'; go_simp; with_reducible rfl
        rotate_left
        · simp only [Act.put, List.setIfInBounds_toArray, List.set_cons_zero, List.set_cons_succ]; rfl
        refine pure_ (i := 1) (N := some 70) (v := ?_) (a' := ?_) #[true, true, false, false, false, false, false, false, false] rfl rfl (by kernel_rfl) (fun _ _ _ h => h) (Or.inl ⟨by rfl, ?_⟩) ?_ ?_
        rotate_left
        · intro w'; go_simp; with_reducible rfl
        rotate_left
        · simp only [Act.put, List.setIfInBounds_toArray, List.set_cons_zero, List.set_cons_succ]; rfl
        refine pure_ (i := 2) (N := some 71) (v := ?_) (a' := ?_) #[true, true, true, false, false, false, false, false, false] rfl rfl (by kernel_rfl) (fun _ _ _ h => h) (Or.inl ⟨by rfl, ?_⟩) ?_ ?_
        rotate_left
        · intro w'; go_simp; with_reducible rfl
        rotate_left
        · simp only [Act.put, List.setIfInBounds_toArray, List.set_cons_zero, List.set_cons_succ]; rfl
        refine pure_ (i := 3) (N := some 72) (v := ?_) (a' := ?_) #[true, true, true, true, false, false, false, false, false] rfl rfl (by kernel_rfl) (fun _ _ _ h => h) (Or.inl ⟨by rfl, ?_⟩) ?_ ?_
        rotate_left
        · intro w'; go_simp; with_reducible rfl
        rotate_left
        · simp only [Act.put, List.setIfInBounds_toArray, List.set_cons_zero, List.set_cons_succ]; rfl
        refine take_ (i := 5) (N := some 74) (v := .agg ((inCells c2 0 v2 (.slice Aq 0 cq) (.slice Ag 0 cg) 0 0 n2).toList).toArray) (a' := ?_) #[true, true, true, true, false, true, false, false, false] rfl rfl (by kernel_rfl) (fun _ _ _ h => h) (yieldsIf_load_mid (by rfl) 38 (.tmp 2) rfl N 0 rfl (inCells c2 0 v2 (.slice Aq 0 cq) (.slice Ag 0 cg) 0 0 n2).toList _ (fun w' hS => blk_range hS.box 0 20 _ rfl) Try.underlying38 rfl sizeSt) hHeld ?_ ?_
        rotate_left
        · simp only [Act.put, List.setIfInBounds_toArray, List.set_cons_zero, List.set_cons_succ]; rfl
        refine one_ (i := 4) (N := some 73) #[true, true, true, true, true, true, false, false, false] rfl rfl (by kernel_rfl) (by decide) (fun K hK => ?_)
        rw [if_pos (by rfl)]
        go_simp
        go_at_call 11
        refine (State_stands hHeld.st).mono ?_
        rintro e' wS ⟨vS, rfl, hrow, hcc⟩
        dsimp only
        have ROW := Lib.hid hrow
        refine hK.out _ _ (hHeld.on hcc) (fun hHeld => ?_)
        clear K hK hcc hrow
        refine one_ (i := 6) (N := some 75) #[true, true, true, true, true, true, true, false, false] rfl rfl (by kernel_rfl) (by decide) (fun K hK => ?_)
        rw [if_pos (by rfl)]
        go_simp
        go_at_call 18
        refine (Same_kin _ _ ROW.out hHeld.len hHeld.at Aq cq Ag cg).mono ?_
        rintro e' wT ⟨rfl, hcc⟩
        dsimp only
        refine hK.out _ _ (hHeld.on hcc) (fun hHeld => ?_)
        clear K hK hcc ROW
        refine pure_ (i := 7) (N := some 76) (v := ?_) (a' := ?_) #[true, true, true, true, true, true, true, true, false] rfl rfl (by kernel_rfl) (fun _ _ _ h => h) (Or.inl ⟨by rfl, ?_⟩) ?_ ?_
        rotate_left
        · intro w'; go_simp; with_reducible rfl
        rotate_left
        · rfl
        refine pure_ (i := 8) (N := some 77) (v := ?_) (a' := ?_) #[true, true, true, true, true, true, true, true, true] rfl rfl (by kernel_rfl) (fun _ _ _ h => h) (Or.inl ⟨by rfl, ?_⟩) ?_ ?_
        rotate_left
        · intro w'; go_simp; with_reducible rfl
        rotate_left
        · rfl
        refine done_ (by kernel_rfl) ?_
        refine NoPanic.normal ?_
        have H15 := Lib.hid hHeld
        clear hHeld hheld
        go_wp2_with fail
        go_roundw
        case rel => exact ⟨j + 1, F2, c2, n2, ks2, m2, v2, by omega, by go_num, H15.out⟩
        case measure => simp [intOf] <;> omega
      · obtain rfl : j = xs.length := by omega
        go_wp2_with (go_at_call 8; refine (alive_calls _).mono ?_; rintro e' wA ⟨rfl, hbA⟩; have CA := Lib.hid (Kept.of_below hbA (fun _ => False)); clear hbA)
        go_ret
        exact ⟨rfl, RN.out.calm.trans CA.out⟩
theorem LruLoads_calls {w : World} {A : Option Addr} {cp : Nat} {pp : List S42} {Aq : Option Addr} {cq : Nat} {lq : List Int} {Ag : Option Addr} {cg : Nat} {lg : List Int} (h : InAt w A cp pp Aq cq lq Ag cg lg) {v : Value} {xs : List ActR} (hx : ActsW w v xs) (tgt cold tst : Int) (n : Cnt) (c : Conf) :
    Calls Try.prog 5 #[.agg (inCells c tgt (.slice A pp.length cp) (.slice Aq lq.length cq) (.slice Ag lg.length cg) cold tst n), v] w fun e w' => e = .returned (.bool true) ∧ Below w.heap.size w w' := by
  have go : ∀ {e : Ending} {w' : World}, (e = .returned (.bool true) ∧ Calm w w') → e = .returned (.bool true) ∧ Below w.heap.size w w' := fun z => ⟨z.1, Calm.below z.2⟩
  by_cases hm : 40 < xs.length
  · exact (Loads_many h hx hm).mono (fun _ _ => go)
  by_cases hs : pp.length ≤ 60 ∧ lq.length ≤ 60 ∧ lg.length ≤ 60
  · by_cases hr : rightB c tgt cold tst pp lq.length lg.length = true
    · obtain ⟨_, rfl, rfl, rfl, h5, h6, _, h8, _⟩ := rightB_true hr
      obtain rfl := List.eq_nil_of_length_eq_zero h5
      obtain rfl := List.eq_nil_of_length_eq_zero h6
      obtain ⟨ks, rfl⟩ : ∃ ks : List Int, pp = ks.map pg := by
        refine ⟨pp.map (·.f0), ?_⟩
        rw [List.map_map]
        refine (List.map_id' pp).symm.trans (List.map_congr_left (fun p hp => ?_))
        have := h8 p hp
        unfold pageOk at this
        rw [Bool.and_eq_true, decide_eq_true_eq, Bool.and_eq_true] at this
        obtain ⟨a1, a2, a3⟩ := this
        obtain ⟨f0, f1, f2, f3⟩ := p
        simp at a1 a2 a3
        subst a1 a2 a3
        rfl
      have := Loads_right (c := c) (n := n) h hx (by omega) (by have := hs.1; rw [List.length_map] at this; exact this) hr
      rw [← List.length_map (f := pg)] at this
      exact this.mono (fun _ _ => go)
    · exact (Loads_wrong h hx (by omega) hs (Bool.eq_false_iff.2 hr)).mono (fun _ _ => go)
  · exact (Loads_wide h hx (by omega) hs).mono (fun _ _ => go)
end Lru
end Go.Proofs.Ytekbgpfpnjddgaa
