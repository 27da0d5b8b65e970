/- The law LruRecent: what it calls, and what it answers. -/
import Derived.Test.YtekbgpfpnjddgaaLruPure
namespace Go.Proofs.Ytekbgpfpnjddgaa
open Go.RowKit
namespace Lru
theorem pages_get {w : World} {base : Nat} {v : Value} {ks : List Int} (h : w.ownsRow base 42 4 v ks.length (ks.flatMap pageV)) {j : Nat} (hj : j < ks.length) :
    ∃ g cap, v = .slice (some ⟨g, 0, none⟩) ks.length cap ∧ w.cell? ⟨g, j * 4, none⟩ = some (.int .u64 (ks.getD j 0)) ∧ w.cell? ⟨g, j * 4 + 1, none⟩ = some (.int .i64 2) ∧ w.cell? ⟨g, j * 4 + 2, none⟩ = some (.bool false) ∧ w.cell? ⟨g, j * 4 + 3, none⟩ = some (.bool false) := by
  rcases h.2 with ⟨_, h0⟩ | ⟨g, cap, cur, rfl, _, hgb, hnc, _, hcs, htake⟩
  · omega
  · have hg : ∀ i, i < 4 → w.cell? ⟨g, j * 4 + i, none⟩ = (pageV (ks.getD j 0))[i]? := by
      intro i hi
      have e1 := flat_list_get (f := pageV) (k := 4) (fun _ => rfl) ks j i hj hi
      rw [← htake, List.getElem?_take_of_lt (by omega), Array.getElem?_toList] at e1
      simp only [World.cell?, hgb]
      rw [show (cur[j * 4 + i]?) = _ from e1, List.getD_eq_getElem?_getD, List.getElem?_eq_getElem hj]
      rfl
    exact ⟨g, cap, rfl, hg 0 (by decide), hg 1 (by decide), hg 2 (by decide), hg 3 (by decide)⟩
theorem field_pages (v0 v1 v2 v3 v4 v5 v6 v7 v8 v9 v10 v11 v12 v13 v14 v15 v16 v17 v18 v19 : Value) (W : World) :
    Sem.run Try.prog (Instr.field 38 (.agg #[v0, v1, v2, v3, v4, v5, v6, v7, v8, v9, v10, v11, v12, v13, v14, v15, v16, v17, v18, v19]) 2) W = .ok v5 W := by kernel_rfl
section
variable {w : World} {e : Nat} {c : Conf} {ks : List Int}
theorem From.asked {B : Nat} (h : From B c w e ks) (key : Int) (most : Nat) (hc : c.cap = (most : Int) + 1) (hm : most < 256) :
    Calls Try.prog 9 #[.pointer (some ⟨e, 0, none⟩), .int .u64 key] w fun e' w' => e' = .returned (.bool (decide (key ∈ ks))) ∧ Below B w w' ∧ From B c w' e (ask most ks key) := by
  obtain ⟨h0, n, m, h1⟩ := h
  refine (asked_calls h1 key most hc hm).mono ?_
  rintro e' w' ⟨rfl, hk', F', n', m', z1, _, z3⟩
  exact ⟨rfl, ⟨hk'.os, hk'.tape, hk'.output, hk'.size, fun k hkB => hk'.block k (by omega) (by omega)⟩, Nat.le_trans h0 hk'.size, _, _, z3.mono (fun q y => (z1 q y).1.elim id (fun y => by omega))⟩
end
set_option maxRecDepth 100000 in
set_option maxHeartbeats 1000000 in
theorem LruRecent_calls (w : World) (a0 : Int) (va : Value) (xs : List Int) (h0 : 0 ≤ a0) (h1 : a0 ≤ 255) (hx : IntsW .u64 w va xs) :
    Calls Try.prog 3 #[.int .u8 a0, va] w fun e w' => e = .returned (.bool true) ∧ Below w.heap.size w w' := by
  obtain ⟨A, ca, rfl, hca, hxa⟩ := hx
  have HX := Lib.hid hxa
  clear hxa
  have e1 : IntKind.i64.wrap a0 = a0 := by rw [IntKind.wrap_i64]; omega
  have e0 := Int.tmod_eq_emod_of_nonneg (b := 60) h0
  obtain ⟨q, hq⟩ : ∃ q : Nat, Int.tmod a0 60 = (q : Int) := ⟨(a0 % 60).toNat, by omega⟩
  have hq60 : q < 60 := by omega
  clear e0
  have e2 : IntKind.i64.wrap (2 + (q : Int)) = (q : Int) + 2 := by rw [IntKind.wrap_i64]; omega
  go_enter Try.func3, Try.ntmps3
  go_upto_region 2 with fail
  have hfit : Hid (Conf.fits ⟨3, (q : Int) + 2, 1, 0⟩ = true) := Lib.hid (by unfold Conf.fits; rw [decide_eq_true_eq]; simp; omega)
  have hcap : Hid ((⟨3, (q : Int) + 2, 1, 0⟩ : Conf).cap = ((q + 1 : Nat) : Int) + 1 ∧ q + 1 < 256) := Lib.hid ⟨by show (q : Int) + 2 = _; omega, by omega⟩
  clear e1 hq e2 h0 h1
  have HB1 := Lib.hid (Blk.new w #[.int .i64 3, .int .i64 ((q : Int) + 2), .int .i64 1, .int .i64 0] 25)
  have C1 : Hid (Calm w _) := Lib.hid (Kept.alloc (Kept.refl _ w) (.cells #[.int .i64 3, .int .i64 ((q : Int) + 2), .int .i64 1, .int .i64 0] 25))
  have hs1 : Hid ((w.alloc (.cells #[.int .i64 3, .int .i64 ((q : Int) + 2), .int .i64 1, .int .i64 0] 25)).heap.size = w.heap.size + 1) := Lib.hid (by simp)
  generalize w.alloc (.cells #[.int .i64 3, .int .i64 ((q : Int) + 2), .int .i64 1, .int .i64 0] 25) = w1 at HB1 C1 hs1 ⊢
  generalize hN : w.heap.size = N at HB1 hs1
  have b0 := HB1.out.cell 0
  have b1 := HB1.out.cell 1
  have b2 := HB1.out.cell 2
  have b3 := HB1.out.cell 3
  simp at b0 b1 b2 b3
  go_upto_if 33 with (go_at_call 7; refine (From.new w1 ⟨3, (q : Int) + 2, 1, 0⟩ hfit.out).mono ?_; rw [hs1.out]; rintro e' w2 ⟨e, rfl, hb, hf⟩; have S2 := Lib.hid hf; have B2 := Lib.hid hb; clear hb hf)
  have BB2 : Hid (Below N w w2) := Lib.hid (by have := Calm.below C1.out; rw [hN] at this; exact this.trans (B2.out.mono (by omega)))
  have hN2 : N + 1 ≤ w2.heap.size := S2.out.1
  have HB2 := Lib.hid (Blk.of_eq HB1.out (B2.out.block N (by omega)))
  clear b0 b1 b2 b3 HB1 C1 hs1 B2
  by_cases hlong : xs.length ≤ 100
  case neg =>
    have hd : decide (100 < (xs.length : Int)) = true := decide_eq_true (by omega)
    go_wp2_with (go_at_call 8; refine (alive_calls w2).mono ?_; rintro e' w3 ⟨rfl, hb⟩; have B3 := Lib.hid (BB2.out.trans (hb.mono (by omega))); clear hb)
    go_ret
    exact ⟨rfl, hN ▸ B3.out⟩
  have hd : decide (100 < (xs.length : Int)) = false := decide_eq_false (by omega)
  go_wp2_with fail
  clear hd
  go_loopw [37] (fun i wr => ∃ k : Nat, k ≤ xs.length ∧ i = .int .i64 (k : Int) ∧ From (N + 1) ⟨3, (q : Int) + 2, 1, 0⟩ wr e ((firsts (xs.take k).reverse).take (q + 1 + 1)) ∧ Below (N + 1) w2 wr) (fun i _ => xs.length - (intOf i).toNat)
  case atStart => exact ⟨0, Nat.zero_le _, rfl, by simpa [firsts] using S2.out, Below.refl _ _⟩
  case round =>
    obtain ⟨k, hk, rfl, hf, hb⟩ := hrel
    have SR := Lib.hid hf
    have BR := Lib.hid hb
    clear hf hb
    by_cases hlt : k < xs.length
    · rcases HX.out with h0 | ⟨ad, rfl, hxa⟩
      · subst h0; simp at hlt
      have c0 := hxa k hlt
      have c1 : wr.cell? (ad.add k) = some (.int .u64 (xs.getD k 0)) := (World.cell?_of_block (a := ad.add k) ((BB2.out.trans (BR.out.mono (by omega))).block (ad.add k).block (by rw [← hN]; exact World.block_lt_of_cell? w _ c0))).trans c0
      have z1 : (0 : Int) ≤ (k : Int) := by omega
      have z2 : (k : Int) < (xs.length : Int) := by omega
      have eg : xs.getD k 0 = xs[k] := by rw [List.getD_eq_getElem?_getD, List.getElem?_eq_getElem hlt]; rfl
      have ES := Lib.hid (show (xs.take (k + 1)).reverse = xs.getD k 0 :: (xs.take k).reverse by rw [List.take_succ_eq_append_getElem hlt, eg, List.reverse_append]; rfl)
      clear c0 hxa eg
      generalize xs.getD k 0 = u at c1 ES
      have HA := Lib.hid (SR.out.asked u (q + 1) hcap.out.1 hcap.out.2)
      go_wp2_with (go_at_call 9; refine HA.out.mono ?_; rintro e' w3 ⟨rfl, hb, hf⟩; have S3 := Lib.hid hf; have B3 := Lib.hid hb; clear hb hf)
      go_roundw
      case rel =>
        have := S3.out
        rw [ask_firsts, ← ES.out] at this
        exact ⟨k + 1, by omega, by go_num, this, BR.out.trans B3.out⟩
      case measure => simp [intOf]; omega
    · obtain rfl : k = xs.length := by omega
      have hfull := SR.out
      rw [List.take_length] at hfull
      have SF := Lib.hid hfull
      clear hfull SR
      go_upto_region 14 with fail
      clear hk hlt
      obtain ⟨hBN, n0, m0, hst⟩ := SF.out
      have ST := Lib.hid hst.trim
      have hw2r := BR.out.size
      have C1 := (Blk.of_eq HB2.out (BR.out.block N (by omega)))
      have HBR := Lib.hid C1
      clear hst C1
      obtain ⟨i0, hi, hz0, hz1, hz2⟩ := info_parts infoU64
      have HI := Lib.hid hi; have HZ0 := Lib.hid hz0; have HZ1 := Lib.hid hz1; have HZ2 := Lib.hid hz2
      clear hi hz0 hz1 hz2
      rename World => wb
      go_loopw [10, 11] (fun v10 v11 wy => ∃ t : Nat, t ≤ xs.length ∧ v11 = .int .i64 ((t : Int) - 1) ∧ wy.ownsRow wb.heap.size 31 1 v10 ((firsts (xs.reverse.take (xs.length - t))).take (q + 1 + 1)).length (((firsts (xs.reverse.take (xs.length - t))).take (q + 1 + 1)).map (Value.int .u64)) ∧ Calm wb wy) (fun _ v11 _ => (intOf v11 + 1).toNat)
      case atStart => exact ⟨xs.length, Nat.le_refl _, rfl, by rw [Nat.sub_self]; exact World.ownsRow_nil _ _ _ _, Kept.refl _ _⟩
      case round =>
        obtain ⟨t, ht, rfl, hrow, hcm⟩ := hrel
        generalize hD : (firsts (xs.reverse.take (xs.length - t))).take (q + 1 + 1) = D at hrow
        have hDl : D.length ≤ q + 1 + 1 := by rw [← hD, List.length_take]; omega
        have hvs : ∃ a cp, u10 = .slice a D.length cp := by
          rcases hrow.2 with ⟨rfl, h0⟩ | ⟨g, cap, _, rfl, _⟩
          · exact ⟨_, _, by rw [h0]⟩
          · exact ⟨_, _, rfl⟩
        obtain ⟨va, vc, rfl⟩ := hvs
        have b1 := (HBR.out.calm hcm).cell 1
        simp at b1
        have ROW := Lib.hid hrow
        have CM := Lib.hid hcm
        have HD := Lib.hid hD
        clear hrow hcm hD
        by_cases hgo : t ≠ 0 ∧ D.length < q + 1 + 1
        · obtain ⟨ht0, hD2⟩ := hgo
          obtain ⟨s, rfl⟩ : ∃ s, t = s + 1 := ⟨t - 1, by omega⟩
          rcases HX.out with h0 | ⟨ad, rfl, hxa⟩
          · subst h0; simp at ht
          have c0 := hxa s (by omega)
          have c1 : wr.cell? (ad.add s) = some (.int .u64 (xs.getD s 0)) := (World.cell?_of_block (a := ad.add s) (((BB2.out.trans (BR.out.mono (by omega))).trans ((Calm.below CM.out).mono (by omega))).block (ad.add s).block (by rw [← hN]; exact World.block_lt_of_cell? w _ c0))).trans c0
          have hs1 : (((s + 1 : Nat) : Int) - 1) = (s : Int) := by omega
          have hs0 : (0 : Int) ≤ (s : Int) := by omega
          have hs2 : (s : Int) < (xs.length : Int) := by omega
          have hd1 : decide ((D.length : Int) < (q : Int) + 2) = true := decide_eq_true (by omega)
          have eg : xs.getD s 0 = xs[s]'(by omega) := by rw [List.getD_eq_getElem?_getD, List.getElem?_eq_getElem (by omega)]; rfl
          have ES := Lib.hid (show xs.reverse.take (xs.length - s) = xs.reverse.take (xs.length - (s + 1)) ++ [xs.getD s 0] by
            rw [show xs.length - s = xs.length - (s + 1) + 1 by omega, List.take_succ_eq_append_getElem (by rw [List.length_reverse]; omega), List.getElem_reverse, eg]
            congr 3
            omega)
          have HDF := Lib.hid (show firsts (xs.reverse.take (xs.length - (s + 1))) = D by
            have h1 := HD.out
            have h2 : ((firsts (xs.reverse.take (xs.length - (s + 1)))).take (q + 1 + 1)).length < q + 1 + 1 := by rw [h1]; exact hD2
            rw [List.length_take] at h2
            exact (List.take_of_length_le (by omega)).symm.trans h1)
          rw [hs1]
          clear c0 hxa eg hs1
          generalize xs.getD s 0 = x at c1 ES
          have hdl : (D.length : Int) ≤ 100000 := by omega
          have HH := Lib.hid (Keys.Has_calls wr (.slice va D.length vc) D x (Ints.of_owns ROW.out).w hdl)
          have hDm : D.length ≤ 61 := by omega
          clear hdl
          by_cases hin : x ∈ D
          · rw [decide_eq_true hin] at HH
            have HIN := Lib.hid hin
            clear hin
            go_wp2_with (go_at_call 10; refine HH.out.mono ?_; rintro e' w3 ⟨rfl, n3, rfl⟩)
            go_roundw
            case rel =>
              have e1 : (firsts (xs.reverse.take (xs.length - s))).take (q + 1 + 1) = D := by
                rw [ES.out, firsts_snoc, if_pos ((mem_firsts _).1 (by rw [HDF.out]; exact HIN.out))]
                exact HD.out
              refine ⟨s, by omega, by go_num, ?_, CM.out.drewN n3⟩
              rw [e1]
              exact ownsRow_kept ROW.out ((Kept.refl (fun _ => False) _).drewN n3) (fun _ _ h => h)
            case measure => simp [intOf] <;> omega
          · rw [decide_eq_false hin] at HH
            have HIN := Lib.hid hin
            clear hin
            go_upto_region 17 with (go_at_call 10; refine HH.out.mono ?_; rintro e' w3 ⟨rfl, n3, rfl⟩)
            have CW := Lib.hid (CM.out.drewN n3)
            have RW := Lib.hid (ownsRow_kept ROW.out ((Kept.refl (fun _ => False) wr).drewN n3) (fun _ _ h => h))
            have c2 : (wr.drewN n3).cell? (ad.add s) = some (.int .u64 x) := c1
            have hsz := CW.out.size
            clear c1 b1
            generalize wr.drewN n3 = w3 at CW RW c2 hsz ⊢
            go_wp2_with (at_builtin; refine wpList_append_lies _ rfl (.tmp 66) (.tmp 71) 22 rfl wb.heap.size 31 i0 (.int .u64 0) 1 8 Try.underlying22 HI.out HZ0.out HZ1.out HZ2.out rfl (by decide) _ _ _ rfl (RW.out.alloc _) ⟨w3.heap.size, 0, none⟩ 1 1 [.int .u64 x] rfl rfl (World.news_of_block (cs := #[.int .u64 x]) (alloc_last _ _ _)) (by intro u hu; simp at hu; subst hu; rfl) (by decide) (by unfold maxLen; omega) (by omega) (by simp; omega) _ rfl ?_; intro g cap w4 hown hgrow hat hlt3; have OWN := Lib.hid hown; have GR := Lib.hid hgrow; have AT := Lib.hid hat; clear hown hgrow hat)
            go_roundw
            case rel =>
              have e1 : (firsts (xs.reverse.take (xs.length - s))).take (q + 1 + 1) = D ++ [x] := by
                rw [ES.out, firsts_snoc, if_neg (fun h => HIN.out (by rw [← HDF.out]; exact (mem_firsts _).2 h)), HDF.out]
                exact List.take_of_length_le (by simp; omega)
              refine ⟨s, by omega, by go_num, ?_, ?_⟩
              · rw [e1, List.length_append, List.map_append]
                exact OWN.out
              · exact (CW.out.step (kept_of_grown GR.out |>.of_alloc) (fun k h1 h2 => by have := (ownsRow_lt RW.out h2).2; omega))
            case measure => simp [intOf] <;> omega
        · go_upto_region 14 with fail
          generalize hiv : (t : Int) - 1 = iv
          go_cut [10, 56] (fun v10 v56 wz => v10 = .slice va D.length vc ∧ v56 = .bool false ∧ wz = wr)
          case first =>
            by_cases ht0 : 0 ≤ iv
            · have hd1 : decide ((D.length : Int) < (q : Int) + 2) = false := decide_eq_false (by omega)
              clear hiv
              go_wp2_with fail
              go_meet
              exact ⟨rfl, rfl, rfl⟩
            · have hd0 : decide (0 ≤ iv) = false := decide_eq_false ht0
              clear hiv
              go_wp2_with fail
              go_meet
              exact ⟨rfl, rfl, rfl⟩
          case rest =>
            obtain ⟨rfl, rfl, rfl⟩ := hcut
            have hDW : D = (firsts xs.reverse).take (q + 1 + 1) := by
              have h1 := HD.out
              by_cases ht0 : t = 0
              · rw [← h1, ht0, Nat.sub_zero, ← List.length_reverse, List.take_length]
              · have h2 : ¬ D.length < q + 1 + 1 := fun h => hgo ⟨ht0, h⟩
                obtain ⟨s', hs'⟩ := firsts_prefix (xs.reverse.drop (xs.length - t)) (xs.reverse.take (xs.length - t))
                rw [List.take_append_drop] at hs'
                have h3 := congrArg List.length h1
                rw [List.length_take] at h3
                rw [hs', List.take_append_of_le_length (by omega), h1]
            have ST2 := Lib.hid (ST.out.calm CM.out)
            rw [← hDW] at ST2
            clear ST SF b1 hDW hgo hiv
            have hfp := field_pages
            go_upto_region 20 with (go_at_call 11; refine (State_stands ST2.out).mono ?_; rintro e' w5 ⟨v, rfl, hr, hc⟩; have ROWP := Lib.hid hr; have CP := Lib.hid hc; clear hr hc; unfold stAgg stCells; obtain ⟨vA, vcap, rfl⟩ : ∃ a cp, v = .slice a D.length cp := by { rcases ROWP.out.2 with ⟨z, h0⟩ | ⟨g, cap, _, z, _⟩ <;> rw [z]; exact ⟨_, _, by rw [h0]⟩; exact ⟨_, _, rfl⟩ })
            clear hfp
            have CP' := Lib.hid (CM.out.trans CP.out)
            have hD61 : D.length ≤ 61 := by omega
            have hszr := CP.out.size
            have hB5 := Lib.hid (ownsRow_kept ROW.out CP.out (fun _ _ h => h))
            clear CM ROW ST2 HD hDl
            rename World => wc
            go_loopw [12, 77] (fun v12 v77 wy => ∃ j : Nat, j ≤ D.length ∧ v77 = .int .i64 (j : Int) ∧ wy.ownsRow wc.heap.size 31 1 v12 j ((D.take j).map (Value.int .u64)) ∧ Calm wc wy) (fun _ v77 _ => D.length - (intOf v77).toNat)
            case atStart => exact ⟨0, Nat.zero_le _, rfl, World.ownsRow_nil _ _ _ _, Kept.refl _ _⟩
            case round =>
              obtain ⟨j, hj, rfl, hrow, hcm⟩ := hrel
              have hvs : ∃ a cp, u12 = .slice a j cp := by
                rcases hrow.2 with ⟨rfl, h0⟩ | ⟨g, cap, _, rfl, _⟩
                · exact ⟨_, _, by rw [h0]⟩
                · exact ⟨_, _, rfl⟩
              obtain ⟨ga, gc, rfl⟩ := hvs
              have GOT := Lib.hid hrow
              have CG := Lib.hid hcm
              clear hrow hcm
              by_cases hlt : j < D.length
              · obtain ⟨g, cap, hg, p0, p1, p2, p3⟩ := pages_get (ownsRow_kept ROWP.out CG.out (fun _ _ h => h)) hlt
                injection hg with hg1 hg2 hg3
                subst hg1 hg3
                have EJ := Lib.hid (show D.take (j + 1) = D.take j ++ [D.getD j 0] by
                  rw [List.take_succ_eq_append_getElem hlt, List.getD_eq_getElem?_getD, List.getElem?_eq_getElem hlt]; rfl)
                generalize D.getD j 0 = x at p0 EJ
                have z1 : (0 : Int) ≤ (j : Int) := by omega
                have z2 : (j : Int) < (D.length : Int) := by omega
                go_upto_region 22 with fail
                have C6 : Calm wr _ := (Kept.refl _ wr).alloc (.cells #[.int .u64 x, .int .i64 2, .bool false, .bool false] 42)
                have HX6 := Lib.hid (Blk.new wr #[.int .u64 x, .int .i64 2, .bool false, .bool false] 42)
                have CG6 := Lib.hid (CG.out.trans C6)
                have G6 := Lib.hid (ownsRow_kept GOT.out C6 (fun _ _ h => h))
                have hs6 := CG6.out.size
                clear C6 p0 p1 p2 p3
                generalize wr.alloc (.cells #[.int .u64 x, .int .i64 2, .bool false, .bool false] 42) = w6 at HX6 CG6 G6 hs6 ⊢
                have x0 := HX6.out.cell 0
                simp at x0
                go_wp2_with (at_builtin; refine wpList_append_lies _ rfl (.tmp 81) (.tmp 84) 22 rfl wc.heap.size 31 i0 (.int .u64 0) 1 8 Try.underlying22 HI.out HZ0.out HZ1.out HZ2.out rfl (by decide) _ _ _ rfl (G6.out.alloc _) ⟨w6.heap.size, 0, none⟩ 1 1 [.int .u64 x] rfl rfl (World.news_of_block (cs := #[.int .u64 x]) (alloc_last _ _ _)) (by intro u hu; simp at hu; subst hu; rfl) (by decide) (by unfold maxLen; omega) (by omega) (by simp; omega) _ rfl ?_; intro g' cap' w7 hown hgrow hat hlt3; have OWN := Lib.hid hown; have GR := Lib.hid hgrow; clear hown hgrow hat)
                go_roundw
                case rel =>
                  refine ⟨j + 1, by omega, by go_num, ?_, ?_⟩
                  · rw [EJ.out, List.map_append]
                    exact OWN.out
                  · exact CG6.out.step (kept_of_grown GR.out |>.of_alloc) (fun k h1 h2 => by have := (ownsRow_lt G6.out h2).2; omega)
                case measure => simp [intOf] <;> omega
              · obtain rfl : j = D.length := by omega
                have hgot := GOT.out
                rw [List.take_length] at hgot
                have HS := Lib.hid (Keys.Same_calls wr _ _ D D (Ints.of_owns hgot).w (Ints.of_owns (ownsRow_kept hB5.out CG.out (fun _ _ h => h))).w (by omega) (by omega))
                rw [decide_eq_true rfl] at HS
                have BF := Lib.hid ((BB2.out.trans (BR.out.mono (by omega))).trans ((Calm.below (CP'.out.trans CG.out)).mono (by omega)))
                have hNr := BF.out.size
                clear hgot
                go_wp2_with (first | (go_at_call 12; refine HS.out.mono ?_; rintro e' w8 ⟨rfl, n8, rfl⟩) | (go_at_call 8; refine (alive_calls _).mono ?_; rintro e' w9 ⟨rfl, hb⟩; have B9 := Lib.hid hb; clear hb))
                go_ret
                have hd : Below N wr (wr.drewN n8) := (Calm.below ((Kept.refl (fun _ => False) wr).drewN n8)).mono (by omega)
                exact ⟨rfl, hN ▸ ((BF.out.trans hd).trans (B9.out.mono (by have := hd.size; omega)))⟩
theorem LruRecent_row (w : World) (a0 : Int) (va : Value) (xs : List Int) (h0 : (Lit.int .u8 a0).wf = true) (hx : IntsW .u64 w va xs) (_ : ∀ x ∈ xs, (Lit.int .u64 x).wf = true) :
    Calls Try.prog 3 #[.int .u8 a0, va] w fun e w' => e = .returned (.bool true) ∧ Below w.heap.size w w' :=
  LruRecent_calls w a0 va xs (u8_of_wf h0).1 (u8_of_wf h0).2 hx
end Lru
end Go.Proofs.Ytekbgpfpnjddgaa
