/- Walks over lru: Right. -/
import Derived.Test.YtekbgpfpnjddgaaLruI
import Derived.Test.YtekbgpfpnjddgaaPLruLoadsx5
namespace Go.Proofs.Ytekbgpfpnjddgaa
open Go.RowKit Go.Proofs.YtekbgpfpnjddgaaW.PrintWords
open Go.Proofs.Ytekbgpfpnjddgaa.PLruLoads (S42 k42 z42 rd_T42 at_T42)
namespace Lru
/-- A state that came in, as its cells. -/
def inCells (c : Conf) (tgt : Int) (pv qv gv : Value) (cold tst : Int) (n : Cnt) : Array Value :=
  #[.int .i64 c.pol, .int .i64 c.cap, .int .i64 c.quota, .int .i64 c.ghosts, .int .i64 tgt, pv, qv, gv, .int .i64 cold, .int .i64 tst,
    .int .u64 n.n0, .int .u64 n.n1, .int .u64 n.n2, .int .u64 n.n3, .int .u64 n.n4, .int .u64 n.n5, .int .u64 n.n6, .int .u64 n.n7, .int .u64 n.n8, .int .u64 n.n9]
def pageOk (p : S42) : Bool := decide (p.f1 = 2) && (!p.f2 && !p.f3)
/-- The state's head is one of an engine. -/
def headB (c : Conf) (tgt cold tst : Int) (np nq ng : Nat) : Bool := decide (c.fits = true ∧ tgt = 0 ∧ cold = 0 ∧ tst = 0 ∧ nq + ng = 0 ∧ (np : Int) ≤ c.cap)
def pagesB (pp : List S42) : Bool := decide ((∀ p ∈ pp, pageOk p = true) ∧ (pp.map (·.f0)).Nodup)
def rightB (c : Conf) (tgt cold tst : Int) (pp : List S42) (nq ng : Nat) : Bool := headB c tgt cold tst pp.length nq ng && pagesB pp
theorem headB_false {c : Conf} {tgt cold tst : Int} {np nq ng : Nat} (h : ¬ (c.fits = true ∧ tgt = 0 ∧ cold = 0 ∧ tst = 0 ∧ nq + ng = 0 ∧ (np : Int) ≤ c.cap)) : Value.bool true = Value.bool (!headB c tgt cold tst np nq ng) := by
  rw [show headB c tgt cold tst np nq ng = false from decide_eq_false h]; rfl
theorem headB_true {c : Conf} {tgt cold tst : Int} {np nq ng : Nat} (h : c.fits = true ∧ tgt = 0 ∧ cold = 0 ∧ tst = 0 ∧ nq + ng = 0 ∧ (np : Int) ≤ c.cap) : Value.bool false = Value.bool (!headB c tgt cold tst np nq ng) := by
  rw [show headB c tgt cold tst np nq ng = true from decide_eq_true h]; rfl
theorem in_cells {w : World} {b : Nat} {c : Conf} {tgt : Int} {pv qv gv : Value} {cold tst : Int} {n : Cnt} (h : Blk w b (inCells c tgt pv qv gv cold tst n)) :
    w.cell? ⟨b, 1, none⟩ = some (.int .i64 c.cap) ∧ w.cell? ⟨b, 4, none⟩ = some (.int .i64 tgt) ∧ w.cell? ⟨b, 5, none⟩ = some pv ∧ w.cell? ⟨b, 6, none⟩ = some qv ∧ w.cell? ⟨b, 7, none⟩ = some gv ∧ w.cell? ⟨b, 8, none⟩ = some (.int .i64 cold) ∧ w.cell? ⟨b, 9, none⟩ = some (.int .i64 tst) :=
  ⟨(h.cell 1).trans rfl, (h.cell 4).trans rfl, (h.cell 5).trans rfl, (h.cell 6).trans rfl, (h.cell 7).trans rfl, (h.cell 8).trans rfl, (h.cell 9).trans rfl⟩
theorem pagesB_bad {pp : List S42} {x : S42} (hx : x ∈ pp) (h : pageOk x = false) : pagesB pp = false := decide_eq_false (fun z => by have := z.1 x hx; rw [h] at this; cases this)
theorem pagesB_twice {pp : List S42} {j : Nat} {x : S42} (he : pp.take (j + 1) = pp.take j ++ [x]) (h : x.f0 ∈ (pp.take j).map (·.f0)) : pagesB pp = false := by
  refine decide_eq_false (fun z => ?_)
  have h1 := z.2
  rw [← List.take_append_drop (j + 1) pp, he, List.map_append, List.map_append, List.nodup_append] at h1
  have h2 := h1.1
  rw [List.nodup_append] at h2
  exact h2.2.2 _ h _ (by simp) rfl
section
variable {w : World} {c : Conf} {n : Cnt}
set_option maxRecDepth 100000 in
set_option maxHeartbeats 1000000 in
theorem Right_calls (tgt cold tst : Int) (A : Option Addr) (cp : Nat) (pp : List S42) (Aq : Option Addr) (nq cq : Nat) (Ag : Option Addr) (ng cg : Nat)
    (hp : Kd.C k42 w A pp.length pp) (hl : pp.length ≤ 60) (hq : nq ≤ 60) (hg : ng ≤ 60) :
    Calls Try.prog 16 #[.agg (inCells c tgt (.slice A pp.length cp) (.slice Aq nq cq) (.slice Ag ng cg) cold tst n)] w fun e w' => e = .returned (.bool (rightB c tgt cold tst pp nq ng)) ∧ Calm w w' := by
  have HP := Lib.hid hp
  have HF := Lib.hid (fun w => fits_calls c w)
  unfold Conf.agg at HF
  unfold rightB
  clear hp
  go_enter Try.func16, Try.ntmps16
  go_upto_region 1 with fail
  have HB := Lib.hid (Blk.new w (inCells c tgt (.slice A pp.length cp) (.slice Aq nq cq) (.slice Ag ng cg) cold tst n) 38)
  have C1 : Hid (Calm w _) := Lib.hid (Kept.alloc (Kept.refl _ w) (.cells (inCells c tgt (.slice A pp.length cp) (.slice Aq nq cq) (.slice Ag ng cg) cold tst n) 38))
  generalize w.alloc (.cells (inCells c tgt (.slice A pp.length cp) (.slice Aq nq cq) (.slice Ag ng cg) cold tst n) 38) = w1 at HB C1 ⊢
  generalize hN : w.heap.size = N at HB
  have b0 : w1.cell? ⟨N, 0, none⟩ = some (.int .i64 c.pol) := (HB.out.cell 0).trans rfl
  have b1 : w1.cell? ⟨N, 1, none⟩ = some (.int .i64 c.cap) := (HB.out.cell 1).trans rfl
  have b2 : w1.cell? ⟨N, 2, none⟩ = some (.int .i64 c.quota) := (HB.out.cell 2).trans rfl
  have b3 : w1.cell? ⟨N, 3, none⟩ = some (.int .i64 c.ghosts) := (HB.out.cell 3).trans rfl
  have b4 : w1.cell? ⟨N, 4, none⟩ = some (.int .i64 tgt) := (HB.out.cell 4).trans rfl
  have b5 : w1.cell? ⟨N, 5, none⟩ = some (.slice A pp.length cp) := (HB.out.cell 5).trans rfl
  have b6 : w1.cell? ⟨N, 6, none⟩ = some (.slice Aq nq cq) := (HB.out.cell 6).trans rfl
  have b7 : w1.cell? ⟨N, 7, none⟩ = some (.slice Ag ng cg) := (HB.out.cell 7).trans rfl
  have b8 : w1.cell? ⟨N, 8, none⟩ = some (.int .i64 cold) := (HB.out.cell 8).trans rfl
  have b9 : w1.cell? ⟨N, 9, none⟩ = some (.int .i64 tst) := (HB.out.cell 9).trans rfl
  go_cut [43] (fun v43 wz => v43 = .bool (!headB c tgt cold tst pp.length nq ng) ∧ Calm w1 wz)
  case first =>
    by_cases hf : c.fits = true
    case neg =>
      rw [Bool.not_eq_true] at hf
      rw [hf] at HF
      go_wp2_with (go_at_call 28; refine (HF.out _).mono ?_; rintro e w2 ⟨rfl, hc2⟩; have C2 := Lib.hid hc2; have B2 := Lib.hid (HB.out.calm hc2); clear hc2 b0 b1 b2 b3 b4 b5 b6 b7 b8 b9; obtain ⟨b1, b4, b5, b6, b7, b8, b9⟩ := in_cells B2.out)
      go_meet
      exact ⟨headB_false (fun h => by rw [hf] at h; exact absurd h.1 (by decide)), C2.out⟩
    rw [hf] at HF
    by_cases ht : tgt = 0
    case neg =>
      have ht1 : (tgt != 0) = true := by simpa using ht
      go_wp2_with (go_at_call 28; refine (HF.out _).mono ?_; rintro e w2 ⟨rfl, hc2⟩; have C2 := Lib.hid hc2; have B2 := Lib.hid (HB.out.calm hc2); clear hc2 b0 b1 b2 b3 b4 b5 b6 b7 b8 b9; obtain ⟨b1, b4, b5, b6, b7, b8, b9⟩ := in_cells B2.out)
      go_meet
      exact ⟨headB_false (fun h => ht h.2.1), C2.out⟩
    by_cases hc : cold = 0
    case neg =>
      have hc1 : (cold != 0) = true := by simpa using hc
      subst ht
      go_wp2_with (go_at_call 28; refine (HF.out _).mono ?_; rintro e w2 ⟨rfl, hc2⟩; have C2 := Lib.hid hc2; have B2 := Lib.hid (HB.out.calm hc2); clear hc2 b0 b1 b2 b3 b4 b5 b6 b7 b8 b9; obtain ⟨b1, b4, b5, b6, b7, b8, b9⟩ := in_cells B2.out)
      go_meet
      exact ⟨headB_false (fun h => hc h.2.2.1), C2.out⟩
    by_cases hs : tst = 0
    case neg =>
      have hs1 : (tst != 0) = true := by simpa using hs
      subst ht hc
      go_wp2_with (go_at_call 28; refine (HF.out _).mono ?_; rintro e w2 ⟨rfl, hc2⟩; have C2 := Lib.hid hc2; have B2 := Lib.hid (HB.out.calm hc2); clear hc2 b0 b1 b2 b3 b4 b5 b6 b7 b8 b9; obtain ⟨b1, b4, b5, b6, b7, b8, b9⟩ := in_cells B2.out)
      go_meet
      exact ⟨headB_false (fun h => hs h.2.2.2.1), C2.out⟩
    by_cases hqg : nq + ng = 0
    case neg =>
      have hd1 : decide ((0 : Int) < (nq : Int) + (ng : Int)) = true := decide_eq_true (by omega)
      subst ht hc hs
      go_wp2_with (go_at_call 28; refine (HF.out _).mono ?_; rintro e w2 ⟨rfl, hc2⟩; have C2 := Lib.hid hc2; have B2 := Lib.hid (HB.out.calm hc2); clear hc2 b0 b1 b2 b3 b4 b5 b6 b7 b8 b9; obtain ⟨b1, b4, b5, b6, b7, b8, b9⟩ := in_cells B2.out)
      go_meet
      exact ⟨headB_false (fun h => hqg h.2.2.2.2.1), C2.out⟩
    have hd1 : decide ((0 : Int) < (nq : Int) + (ng : Int)) = false := decide_eq_false (by omega)
    by_cases hcp : (pp.length : Int) ≤ c.cap
    case neg =>
      have hd2 : decide (c.cap < (pp.length : Int)) = true := decide_eq_true (by omega)
      subst ht hc hs
      go_wp2_with (go_at_call 28; refine (HF.out _).mono ?_; rintro e w2 ⟨rfl, hc2⟩; have C2 := Lib.hid hc2; have B2 := Lib.hid (HB.out.calm hc2); clear hc2 b0 b1 b2 b3 b4 b5 b6 b7 b8 b9; obtain ⟨b1, b4, b5, b6, b7, b8, b9⟩ := in_cells B2.out)
      go_meet
      exact ⟨headB_false (fun h => absurd h.2.2.2.2.2 (by omega)), C2.out⟩
    have hd2 : decide (c.cap < (pp.length : Int)) = false := decide_eq_false (by omega)
    subst ht hc hs
    go_wp2_with (go_at_call 28; refine (HF.out _).mono ?_; rintro e w2 ⟨rfl, hc2⟩; have C2 := Lib.hid hc2; have B2 := Lib.hid (HB.out.calm hc2); clear hc2 b0 b1 b2 b3 b4 b5 b6 b7 b8 b9; obtain ⟨b1, b4, b5, b6, b7, b8, b9⟩ := in_cells B2.out)
    go_meet
    exact ⟨headB_true ⟨hf, rfl, rfl, rfl, hqg, hcp⟩, C2.out⟩
  case rest =>
    obtain ⟨rfl, hcz⟩ := hcut
    obtain ⟨hd, hhd⟩ : ∃ hd, hd = headB c tgt cold tst pp.length nq ng := ⟨_, rfl⟩
    rw [← hhd]
    have HHD := Lib.hid hhd
    clear hhd
    have B2 := Lib.hid (HB.out.calm hcz)
    have C2 := Lib.hid (C1.out.trans hcz)
    clear b0 b1 b2 b3 b4 b5 b6 b7 b8 b9 HB C1 hcz HF
    cases hd
    · go_wp2_with fail
      go_ret
      exact ⟨by rw [← HHD.out]; rfl, C2.out⟩
    go_upto_region 4 with (go_at_call 29; refine (Look.New_has _).mono ?_; rintro e' w3 ⟨b, rfl, hl3, hc3⟩; have L3 := Lib.hid hl3; have C3 := Lib.hid (C2.out.trans hc3); have B3 := Lib.hid (B2.out.calm hc3); have hs3 := hc3.size; clear hl3 hc3)
    obtain ⟨b1, b4, b5, b6, b7, b8, b9⟩ := in_cells B3.out
    have hwz := C2.out.size
    rw [hN] at hwz
    go_upto_region 5 with fail
    clear b1 b4 b5 b6 b7 b8 b9
    go_loopw [48] (fun v48 wr => ∃ (j : Nat) (F : Nat → Prop) (L : List (Int × Int)) (m : Int), j ≤ pp.length ∧ v48 = .int .i64 (j : Int) ∧ Look.Has wr b F L m ∧ (∀ k, F k → N < k) ∧ L.length ≤ j ∧ (∀ x, x ∈ L.map Prod.fst ↔ x ∈ (pp.take j).map (·.f0)) ∧ (∀ p ∈ pp.take j, pageOk p = true) ∧ ((pp.take j).map (·.f0)).Nodup ∧ Below N w wr) (fun v48 _ => pp.length - (intOf v48).toNat)
    case atStart =>
      refine ⟨0, _, _, _, Nat.zero_le _, rfl, L3.out, fun k q => ?_, Nat.le_refl _, by simp, by simp, by simp, hN ▸ Calm.below C3.out⟩
      have q : wc.heap.size ≤ k := q
      have := B2.out.lt
      omega
    case round =>
      obtain ⟨j, F, L, m, hj, rfl, hL, hF, hLj, hmem, hok, hnd, hbl⟩ := hrel
      have HL := Lib.hid hL
      have HX := Lib.hid (show (∀ k, F k → N < k) ∧ (∀ x, x ∈ L.map Prod.fst ↔ x ∈ (pp.take j).map (·.f0)) ∧ (∀ p ∈ pp.take j, pageOk p = true) ∧ ((pp.take j).map (·.f0)).Nodup from ⟨hF, hmem, hok, hnd⟩)
      have BL := Lib.hid hbl
      clear hL hF hmem hok hnd hbl
      by_cases hlt : j < pp.length
      · have BW : Below w.heap.size w wr := by have := BL.out; rw [← hN] at this; exact this
        obtain ⟨ad, rfl, p0, p1, p2, p3⟩ := at_T42 (Kd.C_below HP.out BW) (j : Int) (by omega) (by omega)
        have ex : rd_T42 pp (j : Int) = pp[j] := by unfold rd_T42; rw [Int.toNat_natCast, List.getD_eq_getElem?_getD, List.getElem?_eq_getElem hlt]; rfl
        have EJ := Lib.hid (show pp.take (j + 1) = pp.take j ++ [rd_T42 pp (j : Int)] by rw [List.take_succ_eq_append_getElem hlt, ex])
        have EM := Lib.hid (show rd_T42 pp (j : Int) ∈ pp by rw [ex]; exact List.getElem_mem hlt)
        clear ex BW
        generalize rd_T42 pp (j : Int) = x at p0 p1 p2 p3 EJ EM
        rw [Int.toNat_natCast] at p0 p1 p2 p3
        have z1 : (0 : Int) ≤ (j : Int) := by omega
        have z2 : (j : Int) < (pp.length : Int) := by omega
        go_upto_region 7 with fail
        have C6 : Calm wr _ := (Kept.refl _ wr).alloc (.cells #[.int .u64 x.f0, .int .i64 x.f1, .bool x.f2, .bool x.f3] 42)
        have HX6 := Lib.hid (Blk.new wr #[.int .u64 x.f0, .int .i64 x.f1, .bool x.f2, .bool x.f3] 42)
        have L6 := Lib.hid (HL.out.calm C6)
        have hNr : N ≤ wr.heap.size := by have := BL.out.size; omega
        have B6 := Lib.hid (BL.out.trans ((Calm.below C6).mono hNr))
        clear C6 p0 p1 p2 p3 HL BL
        generalize wr.alloc (.cells #[.int .u64 x.f0, .int .i64 x.f1, .bool x.f2, .bool x.f3] 42) = w6 at HX6 L6 B6 ⊢
        have x0 := HX6.out.cell 0
        have x1 := HX6.out.cell 1
        have x2 := HX6.out.cell 2
        have x3 := HX6.out.cell 3
        simp at x0 x1 x2 x3
        have CF := Lib.hid (show Calm w w6 by have := B6.out; rw [← hN] at this; exact Kept.of_below this _)
        by_cases hk : x.f1 = 2
        case neg =>
          have hk1 : (x.f1 != 2) = true := by simpa using hk
          have HB := Lib.hid (pagesB_bad EM.out (by unfold pageOk; rw [decide_eq_false hk]; rfl))
          clear hk
          go_wp2_with fail
          go_ret
          exact ⟨by rw [HB.out, Bool.and_false]; rfl, CF.out⟩
        by_cases hf2 : x.f2 = true
        case pos =>
          have HB := Lib.hid (pagesB_bad EM.out (by unfold pageOk; rw [hf2]; simp))
          rw [hk] at x1
          rw [hf2] at x2
          clear hk hf2
          go_wp2_with fail
          go_ret
          exact ⟨by rw [HB.out, Bool.and_false]; rfl, CF.out⟩
        by_cases hf3 : x.f3 = true
        case pos =>
          have HB := Lib.hid (pagesB_bad EM.out (by unfold pageOk; rw [hf3]; simp))
          rw [Bool.not_eq_true] at hf2
          rw [hk] at x1
          rw [hf2] at x2
          rw [hf3] at x3
          clear hk hf2 hf3
          go_wp2_with fail
          go_ret
          exact ⟨by rw [HB.out, Bool.and_false]; rfl, CF.out⟩
        rw [Bool.not_eq_true] at hf2 hf3
        have HOK := Lib.hid (show pageOk x = true by unfold pageOk; rw [hk, hf2, hf3]; rfl)
        rw [hk] at x1
        rw [hf2] at x2
        rw [hf3] at x3
        clear hk hf2 hf3
        have HPUT := Lib.hid (Look.Put_has L6.out x.f0 0 (by omega))
        have hN6 : N ≤ w6.heap.size := by have := B6.out.size; have := CF.out.size; omega
        by_cases hin : Look.has L x.f0 = true
        · rw [hin, Bool.not_true] at HPUT
          have HB := Lib.hid (pagesB_twice EJ.out (by
            obtain ⟨v, hv⟩ := Look.has_iff.1 hin
            exact (HX.out.2.1 _).1 (List.mem_map.2 ⟨_, hv, rfl⟩)))
          clear hin
          go_wp2_with (go_at_call 37; refine HPUT.out.mono ?_; rintro e' w7 ⟨rfl, n7, hn7, hlk, hk7⟩; have L7 := Lib.hid hlk; have B7 := Lib.hid (B6.out.trans (show Below N w6 w7 from ⟨hk7.os, hk7.tape, hk7.output, hk7.size, fun k hkB => hk7.block k (by omega) (fun q => by have := HX.out.1 k q; omega)⟩)); clear hlk hk7)
          go_ret
          exact ⟨by rw [HB.out, Bool.and_false]; rfl, by have := B7.out; rw [← hN] at this; exact Kept.of_below this _⟩
        · have hnot : x.f0 ∉ (pp.take j).map (·.f0) := by
            intro z
            obtain ⟨y, hy, he⟩ := List.mem_map.1 ((HX.out.2.1 _).2 z)
            exact hin (Look.has_iff.2 ⟨y.2, by rw [← he]; exact hy⟩)
          have HNOT := Lib.hid hnot
          rw [Bool.not_eq_true] at hin
          rw [hin, Bool.not_false] at HPUT
          clear hin hnot
          go_wp2_with (go_at_call 37; refine HPUT.out.mono ?_; rintro e' w7 ⟨rfl, n7, hn7, hlk, hk7⟩; have L7 := Lib.hid hlk; have B7 := Lib.hid (B6.out.trans (show Below N w6 w7 from ⟨hk7.os, hk7.tape, hk7.output, hk7.size, fun k hkB => hk7.block k (by omega) (fun q => by have := HX.out.1 k q; omega)⟩)); clear hlk hk7)
          go_roundw
          case rel =>
            have hdel : (Look.del L x.f0).length ≤ L.length := List.length_filter_le ..
            refine ⟨j + 1, _, _, _, by omega, by go_num, L7.out, ?_, ?_, ?_, ?_, ?_, B7.out⟩
            · rintro k (q | q)
              · exact HX.out.1 k q
              · have := HX6.out.lt; omega
            · show (Look.del L x.f0).length + 1 ≤ j + 1
              omega
            · intro y
              rw [EJ.out, List.map_append, List.mem_append, ← HX.out.2.1]
              simp only [Look.put, Look.del, List.map_cons, List.mem_cons, List.mem_map, List.mem_filter, List.map_nil, List.not_mem_nil, or_false]
              constructor
              · rintro (rfl | ⟨a, ⟨ha, _⟩, rfl⟩)
                · exact .inr rfl
                · exact .inl ⟨a, ha, rfl⟩
              · rintro (⟨a, ha, rfl⟩ | rfl)
                · by_cases hax : a.1 = x.f0
                  · exact .inl hax
                  · exact .inr ⟨a, ⟨ha, by simpa using hax⟩, rfl⟩
                · exact .inl rfl
            · rw [EJ.out]
              intro p hp
              rcases List.mem_append.1 hp with hp | hp
              · exact HX.out.2.2.1 p hp
              · rw [List.mem_singleton] at hp; rw [hp]; exact HOK.out
            · rw [EJ.out, List.map_append, List.nodup_append]
              refine ⟨HX.out.2.2.2, by simp, ?_⟩
              intro a ha b' hb' he
              rw [List.map_cons, List.map_nil, List.mem_singleton] at hb'
              rw [he, hb'] at ha
              exact HNOT.out ha
          case measure => simp [intOf] <;> omega
      · obtain rfl : j = pp.length := by omega
        have hr := HX.out
        rw [List.take_length] at hr
        have HR := Lib.hid (show pagesB pp = true from decide_eq_true ⟨hr.2.2.1, hr.2.2.2⟩)
        clear hr
        go_wp2_with fail
        go_ret
        exact ⟨by rw [← HHD.out, HR.out]; rfl, by have := BL.out; rw [← hN] at this; exact Kept.of_below this _⟩
end
end Lru
end Go.Proofs.Ytekbgpfpnjddgaa
