/- Walks over hutchlaw16.LruLoads. -/
import Derived.Test.YtekbgpfpnjddgaaLruVW
import Derived.Test.YtekbgpfpnjddgaaLruK
namespace Go.Proofs.Ytekbgpfpnjddgaa
open Go.RowKit Go.Proofs.YtekbgpfpnjddgaaW.PrintWords Go.Proofs.YtekbgpfpnjddgaaW.PrintLast Go.Proofs.YtekbgpfpnjddgaaW.PrintMore
open Go.Proofs.Ytekbgpfpnjddgaa.PLruLoads
namespace Lru
structure ActR where
  k : Int
  key : Int
  c : Conf
instance : Inhabited ActR := ⟨⟨0, 0, ⟨0, 0, 0, 0⟩⟩⟩
/-- v is a slice of acts that reads as xs. -/
def ActsW (w : World) (v : Value) (xs : List ActR) : Prop := ∃ A c, v = .slice A xs.length c ∧ xs.length ≤ c ∧ (xs = [] ∨ ∃ ad, A = some ad ∧ ∀ i, i < xs.length →
  w.cell? (ad.add (i * 6)) = some (.int .i64 (xs.getD i default).k) ∧ w.cell? ⟨(ad.add (i * 6)).block, (ad.add (i * 6)).off + 1, none⟩ = some (.int .u64 (xs.getD i default).key) ∧
  w.cell? ⟨(ad.add (i * 6)).block, (ad.add (i * 6)).off + 2, none⟩ = some (.int .i64 (xs.getD i default).c.pol) ∧ w.cell? ⟨(ad.add (i * 6)).block, (ad.add (i * 6)).off + 3, none⟩ = some (.int .i64 (xs.getD i default).c.cap) ∧
  w.cell? ⟨(ad.add (i * 6)).block, (ad.add (i * 6)).off + 4, none⟩ = some (.int .i64 (xs.getD i default).c.quota) ∧ w.cell? ⟨(ad.add (i * 6)).block, (ad.add (i * 6)).off + 5, none⟩ = some (.int .i64 (xs.getD i default).c.ghosts))
theorem ActsW.calm {w w' : World} {v : Value} {xs : List ActR} (h : ActsW w v xs) (hc : Calm w w') : ActsW w' v xs := by
  obtain ⟨A, c, h1, h2, h3⟩ := h
  refine ⟨A, c, h1, h2, h3.imp id ?_⟩
  rintro ⟨ad, h4, h5⟩
  refine ⟨ad, h4, fun i hi => ?_⟩
  obtain ⟨q0, q1, q2, q3, q4, q5⟩ := h5 i hi
  exact ⟨cell_kept' hc q0 id, cell_kept' hc q1 id, cell_kept' hc q2 id, cell_kept' hc q3 id, cell_kept' hc q4 id, cell_kept' hc q5 id⟩
/-- A state that came in: its three slices read as lists. -/
structure InAt (w : World) (A : Option Addr) (cp : Nat) (pp : List S42) (Aq : Option Addr) (cq : Nat) (lq : List Int) (Ag : Option Addr) (cg : Nat) (lg : List Int) : Prop where
  p : Kd.C k42 w A pp.length pp
  hp : pp.length ≤ cp
  q : Kd.C (Kd.int .u64) w Aq lq.length lq
  hq : lq.length ≤ cq
  g : Kd.C (Kd.int .u64) w Ag lg.length lg
  hg : lg.length ≤ cg
theorem InAt.calm {w w' : World} {A : Option Addr} {cp : Nat} {pp : List S42} {Aq : Option Addr} {cq : Nat} {lq : List Int} {Ag : Option Addr} {cg : Nat} {lg : List Int} (h : InAt w A cp pp Aq cq lq Ag cg lg) (hc : Calm w w') : InAt w' A cp pp Aq cq lq Ag cg lg :=
  ⟨Kd.C_below h.p hc.below, h.hp, Kd.C_below h.q hc.below, h.hq, Kd.C_below h.g hc.below, h.hg⟩
section
variable {w : World} {c : Conf} {tgt cold tst : Int} {n : Cnt} {A : Option Addr} {cp : Nat} {pp : List S42} {Aq : Option Addr} {cq : Nat} {lq : List Int} {Ag : Option Addr} {cg : Nat} {lg : List Int}
/-- What the first regions hold on to. -/
structure Rt (w : World) (N : Nat) (cs : Array Value) (w' : World) : Prop where
  box : Blk w' N cs
  calm : Calm w w'
theorem Rt.drew {w w' : World} {N : Nat} {cs : Array Value} (h : Rt w N cs w') : Rt w N cs w'.drew := ⟨h.box, h.calm.drew⟩
theorem Rt.on {w w' w'' : World} {N : Nat} {cs : Array Value} (h : Rt w N cs w') (hc : Calm w' w'') : Rt w N cs w'' := ⟨h.box.calm hc, h.calm.trans hc⟩
theorem Small_calls (h : InAt w A cp pp Aq cq lq Ag cg lg) : Calls Try.prog 14 #[.agg (inCells c tgt (.slice A pp.length cp) (.slice Aq lq.length cq) (.slice Ag lg.length cg) cold tst n), .int .i64 60] w fun e w' => e = .returned (.bool (decide (pp.length ≤ 60 ∧ lq.length ≤ 60 ∧ lg.length ≤ 60))) ∧ Calm w w' := by
  have hf : hutchref12_Small.f c.pol c.cap c.quota c.ghosts tgt pp lq lg cold tst n.n0 n.n1 n.n2 n.n3 n.n4 n.n5 n.n6 n.n7 n.n8 n.n9 60 = some (decide (pp.length ≤ 60 ∧ lq.length ≤ 60 ∧ lg.length ≤ 60)) := by
    unfold hutchref12_Small.f
    repeat' split
    all_goals first | (rw [decide_eq_false (by omega)]) | (congr 1; rw [decide_eq_decide]; omega)
  refine (hutchref12_Small.calls c.pol c.cap c.quota c.ghosts tgt A cp pp Aq cq lq Ag cg lg cold tst n.n0 n.n1 n.n2 n.n3 n.n4 n.n5 n.n6 n.n7 n.n8 n.n9 60 _ w h.p h.hp h.q h.hq h.g h.hg hf).mono ?_
  rintro e w' ⟨rfl, hb⟩
  exact ⟨rfl, Kept.of_below hb _⟩
theorem RefRight_calls (h : InAt w A cp pp Aq cq lq Ag cg lg) (hl : pp.length ≤ 60) : Calls Try.prog 17 #[.agg (inCells c tgt (.slice A pp.length cp) (.slice Aq lq.length cq) (.slice Ag lg.length cg) cold tst n)] w fun e w' => e = .returned (.bool (rightB c tgt cold tst pp lq.length lg.length)) ∧ Calm w w' := by
  refine (hutchref16_Right.calls (3 * pp.length + 4) c.pol c.cap c.quota c.ghosts tgt A cp pp Aq cq lq Ag cg lg cold tst n.n0 n.n1 n.n2 n.n3 n.n4 n.n5 n.n6 n.n7 n.n8 n.n9 _ w h.p h.hp h.q h.hq h.g h.hg (right_f c tgt cold tst pp lq lg n (by omega) (by omega))).mono ?_
  rintro e w' ⟨rfl, hb⟩
  exact ⟨rfl, Kept.of_below hb _⟩
end
set_option maxRecDepth 100000 in
set_option maxHeartbeats 1000000 in
theorem Loads_many {w : World} {c : Conf} {tgt cold tst : Int} {n : Cnt} {A : Option Addr} {cp : Nat} {pp : List S42} {Aq : Option Addr} {cq : Nat} {lq : List Int} {Ag : Option Addr} {cg : Nat} {lg : List Int} (_h : InAt w A cp pp Aq cq lq Ag cg lg) {v : Value} {xs : List ActR} (hx : ActsW w v xs) (hm : 40 < xs.length) :
    Calls Try.prog 5 #[.agg (inCells c tgt (.slice A pp.length cp) (.slice Aq lq.length cq) (.slice Ag lg.length cg) cold tst n), v] w fun e w' => e = .returned (.bool true) ∧ Calm w w' := by
  obtain ⟨AA, ca, rfl, hca, hx⟩ := hx
  clear hx hca
  go_enter Try.func5, Try.ntmps5
  go_upto_region 1 with fail
  have C1 := Lib.hid (Kept.alloc (Kept.refl (fun _ => False) w) (.cells (inCells c tgt (.slice A pp.length cp) (.slice Aq lq.length cq) (.slice Ag lg.length cg) cold tst n) 38))
  have B1 := Lib.hid (Blk.new w (inCells c tgt (.slice A pp.length cp) (.slice Aq lq.length cq) (.slice Ag lg.length cg) cold tst n) 38)
  generalize w.alloc (.cells (inCells c tgt (.slice A pp.length cp) (.slice Aq lq.length cq) (.slice Ag lg.length cg) cold tst n) 38) = w1 at C1 B1 ⊢
  generalize hN : w.heap.size = N at B1
  have hd : decide ((40 : Int) < (xs.length : Int)) = true := decide_eq_true (by omega)
  have hd2 : decide (40 < xs.length) = true := decide_eq_true hm
  go_wp2_with (go_at_call 8; refine (alive_calls _).mono ?_; rintro e' wA ⟨rfl, hbA⟩; have CA := Lib.hid (Kept.of_below hbA (fun _ => False)); clear hbA)
  go_ret
  exact ⟨rfl, C1.out.trans CA.out⟩
set_option maxRecDepth 100000 in
set_option maxHeartbeats 1000000 in
theorem Loads_wide {w : World} {c : Conf} {tgt cold tst : Int} {n : Cnt} {A : Option Addr} {cp : Nat} {pp : List S42} {Aq : Option Addr} {cq : Nat} {lq : List Int} {Ag : Option Addr} {cg : Nat} {lg : List Int} (h : InAt w A cp pp Aq cq lq Ag cg lg) {v : Value} {xs : List ActR} (hx : ActsW w v xs) (hm : xs.length ≤ 40) (hs : ¬ (pp.length ≤ 60 ∧ lq.length ≤ 60 ∧ lg.length ≤ 60)) :
    Calls Try.prog 5 #[.agg (inCells c tgt (.slice A pp.length cp) (.slice Aq lq.length cq) (.slice Ag lg.length cg) cold tst n), v] w fun e w' => e = .returned (.bool true) ∧ Calm w w' := by
  obtain ⟨AA, ca, rfl, hca, hx⟩ := hx
  have HI := Lib.hid h
  clear h hx hca
  go_enter Try.func5, Try.ntmps5
  go_upto_region 1 with fail
  have C1 := Lib.hid (Kept.alloc (Kept.refl (fun _ => False) w) (.cells (inCells c tgt (.slice A pp.length cp) (.slice Aq lq.length cq) (.slice Ag lg.length cg) cold tst n) 38))
  have B1 := Lib.hid (Blk.new w (inCells c tgt (.slice A pp.length cp) (.slice Aq lq.length cq) (.slice Ag lg.length cg) cold tst n) 38)
  generalize w.alloc (.cells (inCells c tgt (.slice A pp.length cp) (.slice Aq lq.length cq) (.slice Ag lg.length cg) cold tst n) 38) = w1 at C1 B1 ⊢
  generalize hN : w.heap.size = N at B1
  have hd : decide ((40 : Int) < (xs.length : Int)) = false := decide_eq_false (by omega)
  have hd2 : decide (40 < xs.length) = false := decide_eq_false (by omega)
  have HSM := Lib.hid (Small_calls (c := c) (tgt := tgt) (cold := cold) (tst := tst) (n := n) (HI.out.calm C1.out))
  rw [decide_eq_false hs] at HSM
  have HRG := Lib.hid (blk_range B1.out 0 20 (inCells c tgt (.slice A pp.length cp) (.slice Aq lq.length cq) (.slice Ag lg.length cg) cold tst n).toList rfl)
  refine wp_region_lit ?_
  iterate 12 go_step
  refine wpList_step fun K hK => ?_
  rw [if_pos (by rfl)]
  refine wp_load_mid 38 (.tmp 2) rfl N 0 rfl (inCells c tgt (.slice A pp.length cp) (.slice Aq lq.length cq) (.slice Ag lg.length cg) cold tst n).toList _ HRG.out Try.underlying38 rfl sizeSt (hK _ _ ?_)
  clear K hK
  refine wpList_step fun K hK => ?_
  rw [if_pos (by rfl)]
  go_simp
  go_at_call 14
  refine HSM.out.mono ?_
  rintro e' w2 ⟨rfl, hc2⟩
  dsimp only
  refine hK _ _ ?_
  clear K hK HSM HRG
  have C2 := Lib.hid (C1.out.trans hc2)
  have B2 := Lib.hid (B1.out.calm hc2)
  clear hc2
  clear hs
  go_wp2_with (go_at_call 8; refine (alive_calls _).mono ?_; rintro e' wA ⟨rfl, hbA⟩; have CA := Lib.hid (Kept.of_below hbA (fun _ => False)); clear hbA)
  go_ret
  exact ⟨rfl, C2.out.trans CA.out⟩
set_option maxRecDepth 100000 in
set_option maxHeartbeats 1000000 in
theorem Loads_wrong {w : World} {c : Conf} {tgt cold tst : Int} {n : Cnt} {A : Option Addr} {cp : Nat} {pp : List S42} {Aq : Option Addr} {cq : Nat} {lq : List Int} {Ag : Option Addr} {cg : Nat} {lg : List Int} (h : InAt w A cp pp Aq cq lq Ag cg lg) {v : Value} {xs : List ActR} (hx : ActsW w v xs) (hm : xs.length ≤ 40) (hs : pp.length ≤ 60 ∧ lq.length ≤ 60 ∧ lg.length ≤ 60) (hr : rightB c tgt cold tst pp lq.length lg.length = false) :
    Calls Try.prog 5 #[.agg (inCells c tgt (.slice A pp.length cp) (.slice Aq lq.length cq) (.slice Ag lg.length cg) cold tst n), v] w fun e w' => e = .returned (.bool true) ∧ Calm w w' := by
  obtain ⟨AA, ca, rfl, hca, hx⟩ := hx
  have HI := Lib.hid h
  have HRL := Lib.hid (fun wz (hc : Calm w wz) => Right_calls (w := wz) (c := c) (n := n) tgt cold tst A cp pp Aq lq.length cq Ag lg.length cg (Kd.C_below HI.out.p hc.below) hs.1 hs.2.1 hs.2.2)
  have HRR := Lib.hid (fun wz (hc : Calm w wz) => RefRight_calls (w := wz) (c := c) (n := n) (tgt := tgt) (cold := cold) (tst := tst) (HI.out.calm hc) hs.1)
  rw [hr] at HRL HRR
  clear h hx hca
  go_enter Try.func5, Try.ntmps5
  go_upto_region 1 with fail
  have C1 := Lib.hid (Kept.alloc (Kept.refl (fun _ => False) w) (.cells (inCells c tgt (.slice A pp.length cp) (.slice Aq lq.length cq) (.slice Ag lg.length cg) cold tst n) 38))
  have B1 := Lib.hid (Blk.new w (inCells c tgt (.slice A pp.length cp) (.slice Aq lq.length cq) (.slice Ag lg.length cg) cold tst n) 38)
  generalize w.alloc (.cells (inCells c tgt (.slice A pp.length cp) (.slice Aq lq.length cq) (.slice Ag lg.length cg) cold tst n) 38) = w1 at C1 B1 ⊢
  generalize hN : w.heap.size = N at B1
  have hd : decide ((40 : Int) < (xs.length : Int)) = false := decide_eq_false (by omega)
  have hd2 : decide (40 < xs.length) = false := decide_eq_false (by omega)
  have HSM := Lib.hid (Small_calls (c := c) (tgt := tgt) (cold := cold) (tst := tst) (n := n) (HI.out.calm C1.out))
  rw [decide_eq_true hs] at HSM
  have HRG := Lib.hid (blk_range B1.out 0 20 (inCells c tgt (.slice A pp.length cp) (.slice Aq lq.length cq) (.slice Ag lg.length cg) cold tst n).toList rfl)
  refine wp_region_lit ?_
  iterate 12 go_step
  refine wpList_step fun K hK => ?_
  rw [if_pos (by rfl)]
  refine wp_load_mid 38 (.tmp 2) rfl N 0 rfl (inCells c tgt (.slice A pp.length cp) (.slice Aq lq.length cq) (.slice Ag lg.length cg) cold tst n).toList _ HRG.out Try.underlying38 rfl sizeSt (hK _ _ ?_)
  clear K hK
  refine wpList_step fun K hK => ?_
  rw [if_pos (by rfl)]
  go_simp
  go_at_call 14
  refine HSM.out.mono ?_
  rintro e' w2 ⟨rfl, hc2⟩
  dsimp only
  refine hK _ _ ?_
  clear K hK HSM HRG
  have C2 := Lib.hid (C1.out.trans hc2)
  have B2 := Lib.hid (B1.out.calm hc2)
  clear hc2
  have HRG := Lib.hid (blk_range B2.out 0 20 (inCells c tgt (.slice A pp.length cp) (.slice Aq lq.length cq) (.slice Ag lg.length cg) cold tst n).toList rfl)
  have HL := Lib.hid (Load_bad (w := w2) (c := c) (n := n) tgt cold tst A cp pp Aq lq.length cq Ag lg.length cg (Kd.C_below HI.out.p (Calm.below C2.out)) hs.1 hs.2.1 hs.2.2 hr)
  go_upto_region 3 with fail
  refine wp_region_lit ?_
  refine wpList_load_mid rfl 38 (.tmp 2) rfl N 0 rfl (inCells c tgt (.slice A pp.length cp) (.slice Aq lq.length cq) (.slice Ag lg.length cg) cold tst n).toList _ HRG.out Try.underlying38 rfl sizeSt ?_
  iterate 2 go_step
  go_at_call 15
  refine HL.out.mono ?_
  rintro e' w3 ⟨rfl, hc3⟩
  dsimp only
  go_step
  have C3 := Lib.hid (C2.out.trans hc3)
  have B3 := Lib.hid (B2.out.calm hc3)
  clear hc3 HRG HL hs hr
  go_upto_region 4 with fail
  have hheld : Rt w N (inCells c tgt (.slice A pp.length cp) (.slice Aq lq.length cq) (.slice Ag lg.length cg) cold tst n) w3 := ⟨B3.out, C3.out⟩
  go_cut [29] from 25 to 29 (fun v29 wz => v29 = .bool false ∧ Rt w N (inCells c tgt (.slice A pp.length cp) (.slice Aq lq.length cq) (.slice Ag lg.length cg) cold tst n) wz)
  case first =>
    refine wp_region_noPanic ?_
    refine start_ (n := 5) (S := Rt w N (inCells c tgt (.slice A pp.length cp) (.slice Aq lq.length cq) (.slice Ag lg.length cg) cold tst n)) (ds := []) #[false, false, false, false, false] (by kernel_rfl) rfl rfl hheld.drew (fun hHeld => ?_)
    refine take_ (i := 0) (N := some 25) (v := .agg ((inCells c tgt (.slice A pp.length cp) (.slice Aq lq.length cq) (.slice Ag lg.length cg) cold tst n).toList).toArray) (a' := ?_) #[true, false, false, false, false] rfl rfl (by kernel_rfl) (fun _ _ _ h => h) (yieldsIf_load_mid (by rfl) 38 (.tmp 2) rfl N 0 rfl (inCells c tgt (.slice A pp.length cp) (.slice Aq lq.length cq) (.slice Ag lg.length cg) cold tst n).toList _ (fun w' hS => blk_range hS.box 0 20 _ rfl) Try.underlying38 rfl sizeSt) hHeld ?_ ?_
    rotate_left
    · simp only [Act.put, List.setIfInBounds_toArray, List.set_cons_zero, List.set_cons_succ]; rfl
    refine take_ (i := 2) (N := some 27) (v := .agg ((inCells c tgt (.slice A pp.length cp) (.slice Aq lq.length cq) (.slice Ag lg.length cg) cold tst n).toList).toArray) (a' := ?_) #[true, false, true, false, false] rfl rfl (by kernel_rfl) (fun _ _ _ h => h) (yieldsIf_load_mid (by rfl) 38 (.tmp 2) rfl N 0 rfl (inCells c tgt (.slice A pp.length cp) (.slice Aq lq.length cq) (.slice Ag lg.length cg) cold tst n).toList _ (fun w' hS => blk_range hS.box 0 20 _ rfl) Try.underlying38 rfl sizeSt) hHeld ?_ ?_
    rotate_left
    · simp only [Act.put, List.setIfInBounds_toArray, List.set_cons_zero, List.set_cons_succ]; rfl
    refine one_ (i := 1) (N := some 26) #[true, true, true, false, false] rfl rfl (by kernel_rfl) (by decide) (fun K hK => ?_)
    rw [if_pos (by rfl)]
    go_simp
    go_at_call 16
    refine (HRL.out _ hHeld.calm).mono ?_
    rintro e' wc ⟨rfl, hcc⟩
    dsimp only
    refine hK.out _ _ (hHeld.on hcc) (fun hHeld => ?_)
    clear K hK hcc
    refine one_ (i := 3) (N := some 28) #[true, true, true, true, false] rfl rfl (by kernel_rfl) (by decide) (fun K hK => ?_)
    rw [if_pos (by rfl)]
    go_simp
    go_at_call 17
    refine (HRR.out _ hHeld.calm).mono ?_
    rintro e' wc2 ⟨rfl, hcc⟩
    dsimp only
    refine hK.out _ _ (hHeld.on hcc) (fun hHeld => ?_)
    clear K hK hcc
    refine take_ (i := 4) (N := some 29) (v := ?_) (a' := ?_) #[true, true, true, true, true] rfl rfl (by kernel_rfl) (fun _ _ _ h => h) (Or.inl ⟨by rfl, ?_⟩) hHeld ?_ ?_
    rotate_left
    · intro w' hS; go_simp; with_reducible rfl
    rotate_left
    · rfl
    refine done_ (by kernel_rfl) ?_
    refine NoPanic.normal ?_
    go_wp2_with fail
    go_meet
    exact ⟨by simp, hHeld⟩
  case rest =>
    obtain ⟨rfl, hh⟩ := hcut
    have HH := Lib.hid hh
    clear hh hheld
    have HRG := Lib.hid (blk_range HH.out.box 0 20 (inCells c tgt (.slice A pp.length cp) (.slice Aq lq.length cq) (.slice Ag lg.length cg) cold tst n).toList rfl)
    have HRX := Lib.hid (HRR.out wc HH.out.calm)
    go_upto_region 6 with fail
    refine wp_region_lit ?_
    refine wpList_load_mid rfl 38 (.tmp 2) rfl N 0 rfl (inCells c tgt (.slice A pp.length cp) (.slice Aq lq.length cq) (.slice Ag lg.length cg) cold tst n).toList _ HRG.out Try.underlying38 rfl sizeSt ?_
    iterate 2 go_step
    go_at_call 17
    refine HRX.out.mono ?_
    rintro e' w6 ⟨rfl, hc6⟩
    dsimp only
    go_step
    have H6 := Lib.hid (HH.out.on hc6)
    clear hc6 HRG
    go_wp2_with (go_at_call 8; refine (alive_calls _).mono ?_; rintro e' wA ⟨rfl, hbA⟩; have CA := Lib.hid (Kept.of_below hbA (fun _ => False)); clear hbA)
    go_ret
    exact ⟨rfl, H6.out.calm.trans CA.out⟩
end Lru
end Go.Proofs.Ytekbgpfpnjddgaa
