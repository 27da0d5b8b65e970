/- Walks over lru: Load. -/
import Derived.Test.YtekbgpfpnjddgaaLruJ
import Derived.Deep.RegionWith
namespace Go.Proofs.Ytekbgpfpnjddgaa
open Go.RowKit Go.Proofs.YtekbgpfpnjddgaaW.PrintWords
open Go.Proofs.Ytekbgpfpnjddgaa.PLruLoads (S42 k42 z42 rd_T42 at_T42)
namespace Lru
def cntL (n : Cnt) : List Value := [.int .u64 n.n0, .int .u64 n.n1, .int .u64 n.n2, .int .u64 n.n3, .int .u64 n.n4, .int .u64 n.n5, .int .u64 n.n6, .int .u64 n.n7, .int .u64 n.n8, .int .u64 n.n9]
def setL : Array Value → Nat → List Value → Array Value
  | cs, _, [] => cs
  | cs, o, v :: r => setL (cs.setIfInBounds o v) (o + 1) r
theorem setCells_setL {b : Nat} : ∀ (vs : List Value) (o : Nat) (w : World) (cs : Array Value), Blk w b cs → Blk (w.setCells b o vs) b (setL cs o vs)
  | [], _, _, _, h => h
  | v :: r, o, _, _, h => setCells_setL r (o + 1) _ _ (h.set o v)
theorem setL_counts (c : Conf) (pb ob ib : Nat) (n n' : Cnt) : setL (cells c pb ob ib n) 7 (cntL n') = cells c pb ob ib n' := by
  simp [setL, cells, cntL]
section
variable {w : World} {e : Nat} {F : Nat → Prop} {c : Conf} {n n' : Cnt} {ps : List (Int × Int)} {m : Int}
theorem Is.counts (h : Is w e F c n ps m) (n' : Cnt) : w.there e 7 10 ∧ Is (w.setCells e 7 (cntL n')) e F c n' ps m ∧ Kept (fun k => k = e) w (w.setCells e 7 (cntL n')) := by
  obtain ⟨pb, ob, ib, Fp, Fo, Fi, τ, hb, hp, ha, h0, h1, h2, h3⟩ := h
  have hk := setCells_kept (F := fun k => k = e) (b := e) (fun _ => rfl) (cntL n') 7 w (Kept.refl _ _)
  refine ⟨?_, ⟨pb, ob, ib, Fp, Fo, Fi, τ, ?_, hp.kept hk ?_ ?_ ?_, ha.size hk.size, h0, h1, h2, h3⟩, hk⟩
  · intro j hj
    rw [hb.cell]
    exact ⟨by rw [Array.getElem?_eq_getElem (show 7 + j < (cells c pb ob ib n).size by show 7 + j < 17; omega)]; rfl, hb.frozen _⟩
  · exact setL_counts c pb ob ib n n' ▸ setCells_setL (cntL n') 7 w _ hb
  · exact fun k q z => ha.ep (by rw [← z]; exact q)
  · exact fun k q z => ha.eo (by rw [← z]; exact q)
  · exact fun k q z => ha.ei (by rw [← z]; exact q)
set_option maxRecDepth 100000 in
theorem Load_bad (tgt cold tst : Int) (A : Option Addr) (cp : Nat) (pp : List S42) (Aq : Option Addr) (nq cq : Nat) (Ag : Option Addr) (ng cg : Nat)
    (hp : Kd.C k42 w A pp.length pp) (hl : pp.length ≤ 60) (hq : nq ≤ 60) (hg : ng ≤ 60) (hr : rightB c tgt cold tst pp nq ng = false) :
    Calls Try.prog 15 #[.agg (inCells c tgt (.slice A pp.length cp) (.slice Aq nq cq) (.slice Ag ng cg) cold tst n)] w fun e w' => e = .returned (.tuple #[.pointer none, .int .i64 12]) ∧ Calm w w' := by
  have HR := Lib.hid (fun w1 (hc : Calm w w1) => Right_calls (w := w1) (c := c) (n := n) tgt cold tst A cp pp Aq nq cq Ag ng cg (Kd.C_below hp hc.below) hl hq hg)
  simp only [hr] at HR
  clear hp hr
  go_enter Try.func15, Try.ntmps15
  go_upto_region 1 with fail
  have C1 := Lib.hid (Kept.alloc (Kept.refl (fun _ => False) w) (.cells (inCells c tgt (.slice A pp.length cp) (.slice Aq nq cq) (.slice Ag ng cg) cold tst n) 38))
  have HRG := Lib.hid (blk_range (Blk.new w (inCells c tgt (.slice A pp.length cp) (.slice Aq nq cq) (.slice Ag ng cg) cold tst n) 38) 0 20 (inCells c tgt (.slice A pp.length cp) (.slice Aq nq cq) (.slice Ag ng cg) cold tst n).toList rfl)
  generalize w.alloc (.cells (inCells c tgt (.slice A pp.length cp) (.slice Aq nq cq) (.slice Ag ng cg) cold tst n) 38) = w1 at C1 HRG ⊢
  generalize w.heap.size = N at HRG
  refine wp_region_lit ?_
  refine wpList_load_mid rfl 38 (.tmp 1) rfl N 0 rfl (inCells c tgt (.slice A pp.length cp) (.slice Aq nq cq) (.slice Ag ng cg) cold tst n).toList _ HRG.out Try.underlying38 rfl sizeSt ?_
  have HRR := Lib.hid (HR.out w1 C1.out)
  go_wp2_with (go_at_call 16; refine HRR.out.mono ?_; rintro e' w2 ⟨rfl, hc⟩; have C2 := Lib.hid (C1.out.trans hc); clear hc)
  go_ret2
  exact ⟨rfl, C2.out⟩
theorem rightB_true {c : Conf} {tgt cold tst : Int} {pp : List S42} {nq ng : Nat} (h : rightB c tgt cold tst pp nq ng = true) : c.fits = true ∧ tgt = 0 ∧ cold = 0 ∧ tst = 0 ∧ nq = 0 ∧ ng = 0 ∧ (pp.length : Int) ≤ c.cap ∧ (∀ p ∈ pp, pageOk p = true) ∧ (pp.map (·.f0)).Nodup := by
  unfold rightB headB pagesB at h
  rw [Bool.and_eq_true, decide_eq_true_eq, decide_eq_true_eq] at h
  obtain ⟨⟨h1, h2, h3, h4, h5, h6⟩, h7, h8⟩ := h
  exact ⟨h1, h2, h3, h4, by omega, by omega, h6, h7, h8⟩
/-- What is read while the pages go in. -/
structure Half (w : World) (N : Nat) (e : Nat) (c : Conf) (n : Cnt) (pp : List S42) (j : Nat) (wr : World) : Prop where
  is : ∃ (F : Nat → Prop) (ps : List (Int × Int)) (m : Int), Is wr e F c n ps m ∧ ps.map Prod.snd = (pp.take j).map (·.f0) ∧ (∀ k, F k → N < k ∧ k < wr.heap.size)
  calm : Calm w wr
set_option maxRecDepth 100000 in
set_option maxHeartbeats 1000000 in
theorem Load_good (tgt cold tst : Int) (A : Option Addr) (cp : Nat) (pp : List S42) (Aq : Option Addr) (nq cq : Nat) (Ag : Option Addr) (ng cg : Nat)
    (hp : Kd.C k42 w A pp.length pp) (hl : pp.length ≤ 60) (hq : nq ≤ 60) (hg : ng ≤ 60) (hr : rightB c tgt cold tst pp nq ng = true) :
    Calls Try.prog 15 #[.agg (inCells c tgt (.slice A pp.length cp) (.slice Aq nq cq) (.slice Ag ng cg) cold tst n)] w fun e' w' => ∃ e, e' = .returned (.tuple #[.pointer (some ⟨e, 0, none⟩), .int .i64 0]) ∧ Half w w.heap.size e c n pp pp.length w' := by
  have HR := Lib.hid (fun w1 (hc : Calm w w1) => Right_calls (w := w1) (c := c) (n := n) tgt cold tst A cp pp Aq nq cq Ag ng cg (Kd.C_below hp hc.below) hl hq hg)
  simp only [hr] at HR
  have HT := Lib.hid (rightB_true hr)
  have HP := Lib.hid hp
  clear hp hr
  go_enter Try.func15, Try.ntmps15
  go_upto_region 1 with fail
  have C1 := Lib.hid (Kept.alloc (Kept.refl (fun _ => False) w) (.cells (inCells c tgt (.slice A pp.length cp) (.slice Aq nq cq) (.slice Ag ng cg) cold tst n) 38))
  have HB1 := Lib.hid (Blk.new w (inCells c tgt (.slice A pp.length cp) (.slice Aq nq cq) (.slice Ag ng cg) cold tst n) 38)
  generalize w.alloc (.cells (inCells c tgt (.slice A pp.length cp) (.slice Aq nq cq) (.slice Ag ng cg) cold tst n) 38) = w1 at C1 HB1 ⊢
  generalize hN : w.heap.size = N at HB1 ⊢
  have HRG := Lib.hid (blk_range HB1.out 0 20 (inCells c tgt (.slice A pp.length cp) (.slice Aq nq cq) (.slice Ag ng cg) cold tst n).toList rfl)
  refine wp_region_lit ?_
  refine wpList_load_mid rfl 38 (.tmp 1) rfl N 0 rfl (inCells c tgt (.slice A pp.length cp) (.slice Aq nq cq) (.slice Ag ng cg) cold tst n).toList _ HRG.out Try.underlying38 rfl sizeSt ?_
  have HRR := Lib.hid (HR.out w1 C1.out)
  clear HR HRG
  go_upto_region 3 with (go_at_call 16; refine HRR.out.mono ?_; rintro e' w2 ⟨rfl, hc⟩; have C2 := Lib.hid (C1.out.trans hc); have B2 := Lib.hid (HB1.out.calm hc); clear hc)
  clear HRR C1 HB1
  have b0 : w2.cell? ⟨N, 0, none⟩ = some (.int .i64 c.pol) := (B2.out.cell 0).trans rfl
  have b1 : w2.cell? ⟨N, 1, none⟩ = some (.int .i64 c.cap) := (B2.out.cell 1).trans rfl
  have b2 : w2.cell? ⟨N, 2, none⟩ = some (.int .i64 c.quota) := (B2.out.cell 2).trans rfl
  have b3 : w2.cell? ⟨N, 3, none⟩ = some (.int .i64 c.ghosts) := (B2.out.cell 3).trans rfl
  go_upto_region 4 with (go_at_call 7; refine (New_good (w := w2) c HT.out.1).mono ?_; rintro e' w3 ⟨e, rfl, hi, hc⟩; have I3 := Lib.hid (hi.trim); have C3 := Lib.hid (C2.out.trans hc); have B3 := Lib.hid (B2.out.calm hc); have hs3 := hc.size; clear hi hc)
  clear b0 b1 b2 b3
  obtain ⟨hth, hI4, hk4⟩ := I3.out.counts n
  have TH := Lib.hid hth
  have I4 := Lib.hid hI4
  have K4 := Lib.hid hk4
  have HR10 := Lib.hid (blk_range B3.out 10 10 (cntL n) rfl)
  have hN2 : N < w2.heap.size := B2.out.lt
  have hen : N < e := by have := I3.out.self; have h1 : w2.heap.size ≤ e := this.1; omega
  clear hth hI4 hk4
  have r0 : w3.cell? ⟨N, 10, none⟩ = some (.int .u64 n.n0) := (B3.out.cell 10).trans rfl
  have r1 : w3.cell? ⟨N, 11, none⟩ = some (.int .u64 n.n1) := (B3.out.cell 11).trans rfl
  have r2 : w3.cell? ⟨N, 12, none⟩ = some (.int .u64 n.n2) := (B3.out.cell 12).trans rfl
  have r3 : w3.cell? ⟨N, 13, none⟩ = some (.int .u64 n.n3) := (B3.out.cell 13).trans rfl
  have r4 : w3.cell? ⟨N, 14, none⟩ = some (.int .u64 n.n4) := (B3.out.cell 14).trans rfl
  have r5 : w3.cell? ⟨N, 15, none⟩ = some (.int .u64 n.n5) := (B3.out.cell 15).trans rfl
  have r6 : w3.cell? ⟨N, 16, none⟩ = some (.int .u64 n.n6) := (B3.out.cell 16).trans rfl
  have r7 : w3.cell? ⟨N, 17, none⟩ = some (.int .u64 n.n7) := (B3.out.cell 17).trans rfl
  have r8 : w3.cell? ⟨N, 18, none⟩ = some (.int .u64 n.n8) := (B3.out.cell 18).trans rfl
  have r9 : w3.cell? ⟨N, 19, none⟩ = some (.int .u64 n.n9) := (B3.out.cell 19).trans rfl
  obtain ⟨pb, ob, ib, Fp, Fo, Fi, τ, hb3, _⟩ := I3.out
  have hz := fun o => hb3.frozen o
  have s0 : w3.cell? ⟨e, 7, none⟩ = some (.int .u64 0) := (hb3.cell 7).trans rfl
  have s1 : w3.cell? ⟨e, 8, none⟩ = some (.int .u64 0) := (hb3.cell 8).trans rfl
  have s2 : w3.cell? ⟨e, 9, none⟩ = some (.int .u64 0) := (hb3.cell 9).trans rfl
  have s3 : w3.cell? ⟨e, 10, none⟩ = some (.int .u64 0) := (hb3.cell 10).trans rfl
  have s4 : w3.cell? ⟨e, 11, none⟩ = some (.int .u64 0) := (hb3.cell 11).trans rfl
  have s5 : w3.cell? ⟨e, 12, none⟩ = some (.int .u64 0) := (hb3.cell 12).trans rfl
  have s6 : w3.cell? ⟨e, 13, none⟩ = some (.int .u64 0) := (hb3.cell 13).trans rfl
  have s7 : w3.cell? ⟨e, 14, none⟩ = some (.int .u64 0) := (hb3.cell 14).trans rfl
  have s8 : w3.cell? ⟨e, 15, none⟩ = some (.int .u64 0) := (hb3.cell 15).trans rfl
  have s9 : w3.cell? ⟨e, 16, none⟩ = some (.int .u64 0) := (hb3.cell 16).trans rfl
  clear hb3
  go_upto_region 5 with fail
  change Code.wp _ _ _ _ (w3.setCells e 7 (cntL n))
  clear hz r0 s0 r1 s1 r2 s2 r3 s3 r4 s4 r5 s5 r6 s6 r7 s7 r8 s8 r9 s9
  generalize w3.setCells e 7 (cntL n) = w4 at I4 K4 ⊢
  have B4 := Lib.hid (B3.out.kept K4.out (fun h => by omega))
  have C4 : Hid (Calm w w4) := Lib.hid (C3.out.step K4.out (fun k h1 h2 => by omega))
  have hs34 := K4.out.size
  have b5 : w4.cell? ⟨N, 5, none⟩ = some (.slice A pp.length cp) := (B4.out.cell 5).trans rfl
  go_upto_region 6 with fail
  clear b5 TH HR10 I3 K4
  rename World => wq
  go_loopw [27] (fun v27 wy => ∃ j : Nat, j ≤ pp.length ∧ v27 = .int .i64 (j : Int) ∧ Half w N e c n pp j wy) (fun v27 _ => pp.length - (intOf v27).toNat)
  case atStart =>
    refine ⟨0, Nat.zero_le _, rfl, ⟨_, [], _, I4.out.trim, by simp, ?_⟩, C4.out⟩
    rintro k ⟨⟨z1, _⟩, z2⟩
    have z1 : w2.heap.size ≤ k := z1
    exact ⟨by omega, z2⟩
  case round =>
    obtain ⟨j, hj, rfl, hh⟩ := hrel
    have HH := Lib.hid hh
    clear hh
    by_cases hlt : j < pp.length
    · obtain ⟨ad, rfl, p0, p1, p2, p3⟩ := at_T42 (Kd.C_below HP.out HH.out.calm.below) (j : Int) (by omega) (by omega)
      have ex : rd_T42 pp (j : Int) = pp[j] := by unfold rd_T42; rw [Int.toNat_natCast, List.getD_eq_getElem?_getD, List.getElem?_eq_getElem hlt]; rfl
      have EJ := Lib.hid (show pp.take (j + 1) = pp.take j ++ [rd_T42 pp (j : Int)] by rw [List.take_succ_eq_append_getElem hlt, ex])
      clear ex
      generalize rd_T42 pp (j : Int) = x at p0 p1 p2 p3 EJ
      rw [Int.toNat_natCast] at p0 p1 p2 p3
      have z1 : (0 : Int) ≤ (j : Int) := by omega
      have z2 : (j : Int) < (pp.length : Int) := by omega
      go_upto_region 8 with fail
      have C6 : Calm wr _ := (Kept.refl _ wr).alloc (.cells #[.int .u64 x.f0, .int .i64 x.f1, .bool x.f2, .bool x.f3] 42)
      have HX6 := Lib.hid (Blk.new wr #[.int .u64 x.f0, .int .i64 x.f1, .bool x.f2, .bool x.f3] 42)
      obtain ⟨F, ps, m, hI, hps, hF⟩ := HH.out.is
      have I6 := Lib.hid (hI.calm C6)
      have CC6 := Lib.hid (HH.out.calm.trans C6)
      have hs6 : (wr.alloc (.cells #[.int .u64 x.f0, .int .i64 x.f1, .bool x.f2, .bool x.f3] 42)).heap.size = wr.heap.size + 1 := by simp
      have HPS := Lib.hid hps
      have HF := Lib.hid hF
      clear C6 p0 p1 p2 p3 hI hps hF
      generalize wr.alloc (.cells #[.int .u64 x.f0, .int .i64 x.f1, .bool x.f2, .bool x.f3] 42) = w6 at HX6 I6 CC6 hs6 ⊢
      generalize hWR : wr.heap.size = H at HX6 hs6 HF
      obtain ⟨pb, ob, ib, Fp, Fo, Fi, τ, hb6, hp6, ha6, y0, y1, y2, y3⟩ := I6.out
      have B6 := Lib.hid hb6
      have P6 := Lib.hid hp6
      have A6 := Lib.hid ha6
      have Z := Lib.hid (show F e ∧ (∀ k, Fp k → F k) ∧ (∀ k, Fo k → F k) ∧ (∀ k, Fi k → F k) from ⟨y0, y1, y2, y3⟩)
      have hlen : ps.length < 256 := by
        have h1 := congrArg List.length HPS.out
        rw [List.length_map, List.length_map, List.length_take] at h1
        omega
      clear hb6 hp6 ha6 y0 y1 y2 y3 I6
      have k4 := (cell_ptrs B6.out).1
      have x0 := HX6.out.cell 0
      simp at x0
      have hx1 : H < w6.heap.size := HX6.out.lt
      have he6 : e < w6.heap.size := A6.out.le
      have HS6 := Lib.hid hs6
      have HWR := Lib.hid hWR
      clear hs6 hWR
      go_cut [8, 9, 27] from 27 to 57 (fun v8 v9 v27 wz => ∃ (hb : Nat) (p t : Int), v27 = .int .i64 (j : Int) ∧ v8 = .pointer (some ⟨hb, 0, none⟩) ∧ Blk wz hb #[.int .i32 p, .int .u32 t] ∧ w6.heap.size ≤ hb ∧ (∀ y, (p, y) ∉ ps) ∧ (∃ (Fp' : Nat → Prop) (τ' : Int → Int), SlabU.Has wz pb Fp' 256 ((p, x.f0) :: ps) τ' ∧ (∀ k, Fp' k → (Fp k ∨ w6.heap.size ≤ k) ∧ k < wz.heap.size ∧ k ≠ hb)) ∧ Go.Proofs.Ytekbgpfpnjddgaa.Kept Fp w6 wz)
      case first =>
        go_region_with (go_at_call 36; refine (SlabU.Alloc_has (P6.out.sl.calm (by first | exact Kept.drew (Kept.refl _ _) | exact Kept.alloc (Kept.drew (Kept.refl _ _)) _ | exact Kept.drew (Kept.alloc (Kept.refl _ _) _))) hlen x.f0).mono ?_; rintro e' w7 ⟨p, t, rfl, hno, hsl, hk7⟩; have SL7 := Lib.hid hsl; have K7 := Lib.hid hk7; have HNO := Lib.hid hno; have hs7 := hk7.size; (first | (have hbx : Blk w7 w6.heap.size #[.int .i32 0, .int .u32 0] := Blk.kept (by first | exact Blk.new' (w := w6.drew) rfl _ _ | exact (Blk.new' (w := w6) rfl _ _).drew) hk7 (fun h => absurd (A6.out.lp _ h) (Nat.lt_irrefl _)); have q0 := hbx.cell 0; have q1 := hbx.cell 1; have qz := fun o => hbx.frozen o; simp at q0 q1; have HBX := Lib.hid hbx; clear hbx) | skip); clear hno hsl hk7)
        all_goals go_wp2_with fail
        all_goals go_meet
        all_goals first
          | (refine ⟨w7.heap.size, p, t, rfl, rfl, Blk.new w7 _ _, hs7, HNO.out, ⟨_, _, (SL7.out.trim).calm ((Kept.refl _ _).alloc _), ?_⟩, ((Kept.drew (Kept.refl _ _)).trans K7.out).alloc _⟩
             rintro k ⟨q, q2⟩
             exact ⟨q, by simp; omega, by omega⟩)
          | (have hkk : Go.Proofs.Ytekbgpfpnjddgaa.Kept Fp w6 w7 := Kept.trans (by first | exact Kept.alloc (Kept.drew (Kept.refl _ _)) _ | exact Kept.drew (Kept.alloc (Kept.refl _ _) _)) K7.out
             have hbb := (HBX.out.set 0 (.int .i32 p)).set 1 (.int .u32 t)
             have hk8 : Go.Proofs.Ytekbgpfpnjddgaa.Kept (fun k => k = w6.heap.size) w7 ((w7.setCell ⟨w6.heap.size, 0, none⟩ (.int .i32 p)).setCell ⟨w6.heap.size, 1, none⟩ (.int .u32 t)) := ((Kept.refl (fun k => k = w6.heap.size) w7).setCell (p := ⟨w6.heap.size, 0, none⟩) (fun _ => rfl) _).setCell (p := ⟨w6.heap.size, 1, none⟩) (fun _ => rfl) _
             refine ⟨w6.heap.size, p, t, rfl, rfl, hbb, Nat.le_refl _, HNO.out, ⟨_, _, (SL7.out.trim).kept hk8 ?_, ?_⟩, hkk.step hk8 (fun k h1 h2 => by omega)⟩
             · rintro k ⟨q | q, _⟩ z
               · have := A6.out.lp k q; omega
               · simp at q; omega
             · rintro k ⟨q | q, q2⟩
               · have := A6.out.lp k q
                 exact ⟨.inl q, by simpa using q2, by omega⟩
               · simp at q
                 exact ⟨.inr (by omega), by simpa using q2, by omega⟩)
      case rest =>
        obtain ⟨hb, p, t, rfl, rfl, hbk, hhb, hno, ⟨Fp', τ', hsl, hFp'⟩, hkc⟩ := hcut
        have SL7 := Lib.hid hsl
        have HFP := Lib.hid hFp'
        have HNO := Lib.hid hno
        have KC := Lib.hid hkc
        have B7 := Lib.hid (B6.out.kept hkc A6.out.ep)
        have CH7 := Lib.hid (P6.out.ch.kept hkc (fun k q z => A6.out.po k z q))
        have LK7 := Lib.hid (P6.out.lk.kept hkc (fun k q z => A6.out.pi k z q))
        have HX7 := Lib.hid (HX6.out.kept hkc (fun q => by have := (HF.out H (Z.out.2.1 H q)).2; omega))
        have HH7 := Lib.hid hbk
        have hs67 := hkc.size
        have hhc : hb < wc.heap.size := hbk.lt
        clear hbk hno hsl hFp' hkc k4 x0
        have k6 := (cell_ptrs B7.out).2.2
        have x0 := HX7.out.cell 0
        have h0 := HH7.out.cell 0
        simp at x0 h0
        go_upto_region 9 with fail
        go_still_tail 8, (by kernel_rfl)
        change wpList _ _ _ _ _ wc.drew
        have CD : Calm wc wc.drew := Kept.drew (Kept.refl _ _)
        have SL8 := Lib.hid (SL7.out.calm CD)
        have CH8 := Lib.hid (CH7.out.calm CD)
        have LK8 := Lib.hid (LK7.out.calm CD)
        have B8 := Lib.hid (B7.out.calm CD)
        have HH8 := Lib.hid (HH7.out.calm CD)
        have KC8 := Lib.hid (KC.out.drew)
        have hs78 : wc.drew.heap.size = wc.heap.size := rfl
        clear k6 x0 h0 CD SL7 CH7 LK7 B7 HH7 HX7
        generalize wc.drew = w8 at SL8 CH8 LK8 B8 HH8 KC8 hs78 ⊢
        have hll : (ps.map Prod.swap).length < 100000 := by rw [List.length_map]; omega
        go_upto_region 10 with (go_at_call 37; refine (Look.Put_has LK8.out x.f0 p hll).mono ?_; rintro e' w9 ⟨rfl, n9, hn9, hlk, hk9⟩; have LK9 := Lib.hid hlk.trim; have K9 := Lib.hid hk9; have hs89 := hk9.size; clear hlk hk9)
        have hFil : ∀ k, Fi k → k < w6.heap.size := A6.out.li
        have B9 := Lib.hid (B8.out.kept K9.out A6.out.ei)
        have HH9 := Lib.hid (HH8.out.kept K9.out (fun q => by have := hFil hb q; omega))
        have CH9 := Lib.hid (CH8.out.kept K9.out A6.out.oi)
        have SL9 := Lib.hid (SL8.out.kept K9.out (fun k q z => ((HFP.out k q).1).elim (fun y => A6.out.pi k y z) (fun y => by have := hFil k z; omega)))
        clear B8 HH8 CH8 SL8 LK8
        have k5 := (cell_ptrs B9.out).2.1
        have h0 := HH9.out.cell 0
        simp at h0
        go_still_tail 6, (by kernel_rfl)
        change wpList _ _ _ _ _ w9.drew
        have CD : Calm w9 w9.drew := Kept.drew (Kept.refl _ _)
        have SLX := Lib.hid (SL9.out.calm CD)
        have CHX := Lib.hid (CH9.out.calm CD)
        have LKX := Lib.hid (LK9.out.calm CD)
        have BX := Lib.hid (B9.out.calm CD)
        have KX := Lib.hid (K9.out.drew)
        have hs9X : w9.drew.heap.size = w9.heap.size := rfl
        clear k5 h0 CD SL9 CH9 LK9 B9 HH9
        generalize w9.drew = wx at SLX CHX LKX BX KX hs9X ⊢
        have hpp : 0 ≤ p ∧ p < ((256 : Nat) : Int) := SLX.out.pos p x.f0 (List.mem_cons_self ..)
        have HPP := Lib.hid hpp
        have HN : Hid (∀ i : Nat, i < [ps.map Prod.fst].length → p ∉ [ps.map Prod.fst].getD i []) := by
          refine Lib.hid (fun i hi => ?_)
          have : i = 0 := by simp at hi; exact hi
          subst this
          intro z
          obtain ⟨⟨a, y⟩, hy, q⟩ := List.mem_map.1 z
          have q : a = p := q
          exact HNO.out y (by rw [← q]; exact hy)
        clear hpp
        go_wp2_with (go_at_call 38; refine (Chain.Behind_has CHX.out (l := 0) Nat.zero_lt_one HPP.out HN.out).mono ?_; rintro e' wf ⟨rfl, hch, hkf⟩; have CHF := Lib.hid hch; have KF := Lib.hid hkf; have hsXF := hkf.size; clear hch hkf)
        go_roundw
        case rel =>
          have hnk : x.f0 ∉ ps.map Prod.snd := by
            rw [HPS.out]
            have h1 := HT.out.2.2.2.2.2.2.2.2
            rw [← List.take_append_drop (j + 1) pp, EJ.out, List.map_append, List.map_append, List.nodup_append] at h1
            have h2 := h1.1
            rw [List.nodup_append] at h2
            exact fun z => h2.2.2 _ z _ (by simp) rfl
          have hput : Look.put (ps.map Prod.swap) x.f0 p = (x.f0, p) :: ps.map Prod.swap := by
            show (x.f0, p) :: Look.del _ _ = _
            rw [Look.del_none]
            rw [Look.not_has_iff]
            intro u q
            obtain ⟨⟨a, y⟩, hy, z⟩ := List.mem_map.1 q
            injection z with z1 z2
            have z1 : y = x.f0 := z1
            exact hnk (List.mem_map.2 ⟨(a, y), hy, z1⟩)
          have hFol : ∀ k, Fo k → k < w6.heap.size := A6.out.lo
          have hle := A6.out.le
          have hH6 := HS6.out
          have hNH : N ≤ H := by have := HH.out.calm.size; have := HWR.out; omega
          have KT : Go.Proofs.Ytekbgpfpnjddgaa.Kept F w6 wf := ((KC8.out.mono (fun k _ q => Z.out.2.1 k q)).step KX.out (fun k h1 h2 => Z.out.2.2.2 k h2)).step KF.out (fun k h1 h2 => Z.out.2.2.1 k h2)
          refine ⟨j + 1, by omega, by go_num, ⟨fun k => (F k ∨ w6.heap.size ≤ k) ∧ k < wf.heap.size, ps ++ [(p, x.f0)], _, ⟨pb, ob, ib, Fp', Fo, _, τ', BX.out.kept KF.out A6.out.eo, ⟨(SLX.out.kept KF.out ?_).perm (List.perm_append_singleton _ _).symm, ?_, ((LKX.out.kept KF.out ?_).perm ?_)⟩, ?_, ⟨.inl Z.out.1, by omega⟩, ?_, ?_, ?_⟩, ?_, ?_⟩, ?_⟩
          · exact fun k q z => ((HFP.out k q).1).elim (fun y => A6.out.po k y z) (fun y => by have := hFol k z; omega)
          · have := CHF.out
            rw [show [ps.map Prod.fst].set 0 ([ps.map Prod.fst].getD 0 [] ++ [p]) = [(ps ++ [(p, x.f0)]).map Prod.fst] by simp] at this
            exact this
          · rintro k ⟨q | q, _⟩ z
            · exact A6.out.oi k z q
            · have := hFol k z; omega
          · rw [hput, List.map_append]
            exact (List.perm_append_singleton _ _).symm
          · refine { le := by omega, lp := fun k q => by have := (HFP.out k q).2.1; omega, lo := fun k q => by have := hFol k q; omega, li := fun k q => by have := q.2; omega, ep := fun q => ((HFP.out e q).1).elim A6.out.ep (fun y => by omega), eo := A6.out.eo, ei := ?_, po := fun k q z => ((HFP.out k q).1).elim (fun y => A6.out.po k y z) (fun y => by have := hFol k z; omega), pi := ?_, oi := ?_ }
            · rintro ⟨q | q, _⟩
              · exact A6.out.ei q
              · omega
            · rintro k q ⟨z | z, _⟩
              · exact ((HFP.out k q).1).elim (fun y => A6.out.pi k y z) (fun y => by have := hFil k z; omega)
              · have := (HFP.out k q).2.1; omega
            · rintro k q ⟨z | z, _⟩
              · exact A6.out.oi k q z
              · have := hFol k q; omega
          · exact fun k q => ⟨((HFP.out k q).1).imp (Z.out.2.1 k) id, by have := (HFP.out k q).2.1; omega⟩
          · exact fun k q => ⟨.inl (Z.out.2.2.1 k q), by have := hFol k q; omega⟩
          · rintro k ⟨q | q, z⟩
            · exact ⟨.inl (Z.out.2.2.2 k q), by omega⟩
            · exact ⟨.inr (by omega), by omega⟩
          · rw [EJ.out, List.map_append, List.map_append, HPS.out]
            rfl
          · rintro k ⟨q | q, z⟩
            · exact ⟨(HF.out k q).1, z⟩
            · exact ⟨by omega, z⟩
          · exact CC6.out.step KT (fun k h1 h2 => by have := (HF.out k h2).1; have := hN; omega)
        case measure => simp [intOf] <;> omega
    · obtain rfl : j = pp.length := by omega
      go_wp2_with fail
      go_ret2
      exact ⟨_, rfl, by rw [hN]; exact HH.out⟩
end
end Lru
end Go.Proofs.Ytekbgpfpnjddgaa
