/- The law LruGrows: two engines beside each other. -/
import Derived.Test.YtekbgpfpnjddgaaLruRec
namespace Go.Proofs.Ytekbgpfpnjddgaa
open Go.RowKit
namespace Lru
/-- Two engines in one memory. -/
def Two (B : Nat) (w : World) (ex ey : Nat) (cx cy : Conf) (k1 k2 : List Int) (h1 h2 : Int) : Prop :=
  B ≤ w.heap.size ∧ ∃ (Fx Fy : Nat → Prop) (nx ny : Cnt) (mx my : Int), Stands w ex Fx cx nx k1 mx ∧ Stands w ey Fy cy ny k2 my ∧ nx.n0 = h1 ∧ ny.n0 = h2 ∧ (∀ k, Fx k → ¬ Fy k) ∧ (∀ k, Fx k → B ≤ k ∧ k < w.heap.size) ∧ (∀ k, Fy k → B ≤ k ∧ k < w.heap.size)
section
variable {B : Nat} {w : World} {ex ey : Nat} {cx cy : Conf} {k1 k2 : List Int} {h1 h2 : Int}
theorem Two.calm {w' : World} (h : Two B w ex ey cx cy k1 k2 h1 h2) (hk : Calm w w') : Two B w' ex ey cx cy k1 k2 h1 h2 := by
  obtain ⟨h0, Fx, Fy, nx, ny, mx, my, z1, z2, z3, z4, z5, z6, z7⟩ := h
  have hs := hk.size
  exact ⟨by omega, Fx, Fy, nx, ny, mx, my, z1.calm hk, z2.calm hk, z3, z4, z5, fun k q => ⟨(z6 k q).1, by have := (z6 k q).2; omega⟩, fun k q => ⟨(z7 k q).1, by have := (z7 k q).2; omega⟩⟩
theorem Two.swap (h : Two B w ex ey cx cy k1 k2 h1 h2) : Two B w ey ex cy cx k2 k1 h2 h1 := by
  obtain ⟨h0, Fx, Fy, nx, ny, mx, my, z1, z2, z3, z4, z5, z6, z7⟩ := h
  exact ⟨h0, Fy, Fx, ny, nx, my, mx, z2, z1, z4, z3, fun k q z => z5 k z q, z7, z6⟩
theorem Two.asked (h : Two B w ex ey cx cy k1 k2 h1 h2) (key : Int) (most : Nat) (hc : cx.cap = (most : Int) + 1) (hm : most < 256) (hh : 0 ≤ h1 ∧ h1 ≤ 1000) :
    Calls Try.prog 9 #[.pointer (some ⟨ex, 0, none⟩), .int .u64 key] w fun e' w' => e' = .returned (.bool (decide (key ∈ k1))) ∧ Below B w w' ∧ Two B w' ex ey cx cy (ask most k1 key) k2 (if key ∈ k1 then h1 + 1 else h1) h2 := by
  obtain ⟨h0, Fx, Fy, nx, ny, mx, my, z1, z2, z3, z4, z5, z6, z7⟩ := h
  refine (asked_calls z1 key most hc hm).mono ?_
  rintro e' w' ⟨rfl, hk', F', n', m', y1, y2, y3⟩
  have hs := hk'.size
  refine ⟨rfl, ⟨hk'.os, hk'.tape, hk'.output, hk'.size, fun k hkB => hk'.block k (by omega) (fun q => by have := (z6 k q).1; omega)⟩, by omega, F', Fy, n', ny, m', my, y3, z2.kept hk' (fun k q z => z5 k z q), ?_, z4, ?_, ?_, ?_⟩
  · rw [y2, z3]
    split
    · rw [IntKind.wrap_u64]; omega
    · rfl
  · intro k q z
    rcases (y1 k q).1 with y | y
    · exact z5 k y z
    · have := (z7 k z).2; omega
  · intro k q
    refine ⟨(y1 k q).1.elim (fun y => (z6 k y).1) (fun y => by omega), (y1 k q).2⟩
  · exact fun k q => ⟨(z7 k q).1, by have := (z7 k q).2; omega⟩
theorem Two.state (h : Two B w ex ey cx cy k1 k2 h1 h2) :
    Calls Try.prog 11 #[.pointer (some ⟨ex, 0, none⟩)] w fun e' w' => ∃ v n, e' = .returned (stAgg cx n v) ∧ n.n0 = h1 ∧ w'.ownsRow w.heap.size 42 4 v k1.length (k1.flatMap pageV) ∧ Calm w w' := by
  obtain ⟨h0, Fx, Fy, nx, ny, mx, my, z1, z2, z3, z4, z5, z6, z7⟩ := h
  refine (State_stands z1).mono ?_
  rintro e' w' ⟨v, rfl, hr, hc⟩
  exact ⟨v, nx, rfl, z3, hr, hc⟩
theorem Two.kind (h : Two B w ex ey cx cy k1 k2 h1 h2) (key : Int) :
    Calls Try.prog 13 #[.pointer (some ⟨ey, 0, none⟩), .int .u64 key] w fun e' w' => e' = .returned (.int .i64 (if key ∈ k2 then 2 else 0)) ∧ w' = w := by
  obtain ⟨h0, Fx, Fy, nx, ny, mx, my, z1, z2, z3, z4, z5, z6, z7⟩ := h
  exact Kind_stands z2 key
theorem Two.few (h : Two B w ex ey cx cy k1 k2 h1 h2) : k1.length ≤ 256 ∧ k2.length ≤ 256 := by
  obtain ⟨h0, Fx, Fy, nx, ny, mx, my, z1, z2, z3, z4, z5, z6, z7⟩ := h
  exact ⟨z1.few, z2.few⟩
/-- Both are made. -/
theorem Two.new {w0 w1 w2 : World} (hx : Is w1 ex (fun k => w0.heap.size ≤ k) cx zeroCnt [] 0) (hB : B ≤ w0.heap.size) (h01 : w0.heap.size ≤ w1.heap.size) (hc2 : Calm w1 w2) (hy : Is w2 ey (fun k => w1.heap.size ≤ k) cy zeroCnt [] 0) : Two B w2 ex ey cx cy [] [] 0 0 := by
  have hs := hc2.size
  refine ⟨by omega, _, _, _, _, _, _, ⟨[], (hx.trim.calm hc2), rfl⟩, ⟨[], hy.trim, rfl⟩, rfl, rfl, ?_, ?_, ?_⟩
  · rintro k ⟨_, z1⟩ ⟨z2, _⟩
    have z2 : w1.heap.size ≤ k := z2
    omega
  · rintro k ⟨z1, z2⟩
    have z1 : w0.heap.size ≤ k := z1
    omega
  · rintro k ⟨z1, z2⟩
    have z1 : w1.heap.size ≤ k := z1
    omega
end
theorem take_sub {D : List Int} {M1 M2 : Nat} (h : M1 ≤ M2) {x : Int} (hx : x ∈ D.take M1) : x ∈ D.take M2 := by
  have e : D.take M1 = (D.take M2).take M1 := by rw [List.take_take, Nat.min_eq_left h]
  rw [e] at hx
  exact List.mem_of_mem_take hx
theorem field_counts (v0 v1 v2 v3 v4 v5 v6 v7 v8 v9 v10 v11 v12 v13 v14 v15 v16 v17 v18 v19 : Value) (W : World) :
    Sem.run Try.prog (Instr.field 38 (.agg #[v0, v1, v2, v3, v4, v5, v6, v7, v8, v9, v10, v11, v12, v13, v14, v15, v16, v17, v18, v19]) 7) W = .ok (.agg #[v10, v11, v12, v13, v14, v15, v16, v17, v18, v19]) W := by kernel_rfl
theorem field_hits (v10 v11 v12 v13 v14 v15 v16 v17 v18 v19 : Value) (W : World) :
    Sem.run Try.prog (Instr.field 36 (.agg #[v10, v11, v12, v13, v14, v15, v16, v17, v18, v19]) 0) W = .ok v10 W := by kernel_rfl
set_option maxRecDepth 100000 in
set_option maxHeartbeats 1000000 in
theorem LruGrows_calls (w : World) (a0 a1 : Int) (va : Value) (xs : List Int) (h0 : 0 ≤ a0) (h1 : a0 ≤ 255) (h2 : 0 ≤ a1) (h3 : a1 ≤ 255) (hx : IntsW .u64 w va xs) :
    Calls Try.prog 4 #[.int .u8 a0, .int .u8 a1, va] w fun e w' => e = .returned (.bool true) ∧ Below w.heap.size w w' := by
  obtain ⟨A, ca, rfl, hca, hxa⟩ := hx
  have HX := Lib.hid hxa
  clear hxa
  have e1 : IntKind.i64.wrap a0 = a0 := by rw [IntKind.wrap_i64]; omega
  have e3 : IntKind.i64.wrap a1 = a1 := by rw [IntKind.wrap_i64]; omega
  have e0 := Int.tmod_eq_emod_of_nonneg (b := 30) h0
  have e4 := Int.tmod_eq_emod_of_nonneg (b := 30) h2
  obtain ⟨q, hq⟩ : ∃ q : Nat, Int.tmod a0 30 = (q : Int) := ⟨(a0 % 30).toNat, by omega⟩
  obtain ⟨p, hp⟩ : ∃ p : Nat, Int.tmod a1 30 = (p : Int) := ⟨(a1 % 30).toNat, by omega⟩
  have hq30 : q < 30 := by omega
  have hp30 : p < 30 := by omega
  clear e0 e4
  have e2 : IntKind.i64.wrap (2 + (q : Int)) = (q : Int) + 2 := by rw [IntKind.wrap_i64]; omega
  have e5 : IntKind.i64.wrap ((q : Int) + 2 + (p : Int)) = (q : Int) + 2 + (p : Int) := by rw [IntKind.wrap_i64]; omega
  go_enter Try.func4, Try.ntmps4
  go_upto_region 4 with fail
  have hfit1 : Hid (Conf.fits ⟨3, (q : Int) + 2, 1, 0⟩ = true) := Lib.hid (by unfold Conf.fits; rw [decide_eq_true_eq]; simp; omega)
  have hfit2 : Hid (Conf.fits ⟨3, (q : Int) + 2 + (p : Int), 1, 0⟩ = true) := Lib.hid (by unfold Conf.fits; rw [decide_eq_true_eq]; simp; omega)
  have hcap1 : Hid ((⟨3, (q : Int) + 2, 1, 0⟩ : Conf).cap = ((q + 1 : Nat) : Int) + 1 ∧ q + 1 < 256) := Lib.hid ⟨by show (q : Int) + 2 = _; omega, by omega⟩
  have hcap2 : Hid ((⟨3, (q : Int) + 2 + (p : Int), 1, 0⟩ : Conf).cap = ((q + p + 1 : Nat) : Int) + 1 ∧ q + p + 1 < 256) := Lib.hid ⟨by show (q : Int) + 2 + (p : Int) = _; omega, by omega⟩
  clear e1 hq e2 e3 hp e5 h0 h1 h2 h3
  have b0 : Blk ((w.alloc (.cells #[.int .i64 3, .int .i64 ((q : Int) + 2), .int .i64 1, .int .i64 0] 25)).alloc (.cells #[.int .i64 3, .int .i64 ((q : Int) + 2 + (p : Int)), .int .i64 1, .int .i64 0] 25)) w.heap.size #[.int .i64 3, .int .i64 ((q : Int) + 2), .int .i64 1, .int .i64 0] := (Blk.new w _ _).alloc _
  have b1 : Blk ((w.alloc (.cells #[.int .i64 3, .int .i64 ((q : Int) + 2), .int .i64 1, .int .i64 0] 25)).alloc (.cells #[.int .i64 3, .int .i64 ((q : Int) + 2 + (p : Int)), .int .i64 1, .int .i64 0] 25)) (w.heap.size + 1) #[.int .i64 3, .int .i64 ((q : Int) + 2 + (p : Int)), .int .i64 1, .int .i64 0] := Blk.new' (by simp) _ _
  have kk : Calm w ((w.alloc (.cells #[.int .i64 3, .int .i64 ((q : Int) + 2), .int .i64 1, .int .i64 0] 25)).alloc (.cells #[.int .i64 3, .int .i64 ((q : Int) + 2 + (p : Int)), .int .i64 1, .int .i64 0] 25)) := ((Kept.refl _ w).alloc _).alloc _
  have ss : ((w.alloc (.cells #[.int .i64 3, .int .i64 ((q : Int) + 2), .int .i64 1, .int .i64 0] 25)).alloc (.cells #[.int .i64 3, .int .i64 ((q : Int) + 2 + (p : Int)), .int .i64 1, .int .i64 0] 25)).heap.size = w.heap.size + 2 := by simp
  generalize (w.alloc (.cells #[.int .i64 3, .int .i64 ((q : Int) + 2), .int .i64 1, .int .i64 0] 25)).alloc (.cells #[.int .i64 3, .int .i64 ((q : Int) + 2 + (p : Int)), .int .i64 1, .int .i64 0] 25) = w3 at b0 b1 kk ss ⊢
  generalize hN : w.heap.size = N at b0 b1 ss ⊢
  have HB0 := Lib.hid b0
  have HB1 := Lib.hid b1
  have K3 := Lib.hid kk
  have S3 := Lib.hid ss
  clear b0 b1 kk ss
  have b0 := HB0.out.cell 0
  have b1 := HB0.out.cell 1
  have b2 := HB0.out.cell 2
  have b3 := HB0.out.cell 3
  simp at b0 b1 b2 b3
  go_upto_region 5 with (go_at_call 7; refine (New_good (w := w3) ⟨3, (q : Int) + 2, 1, 0⟩ hfit1.out).mono ?_; rintro e' w4 ⟨ex, rfl, hi, hc⟩; have I4 := Lib.hid hi; have K4 := Lib.hid hc; clear hi hc)
  clear b0 b1 b2 b3
  have d1 := Lib.hid (HB1.out.calm K4.out)
  have b0 := d1.out.cell 0
  have b1 := d1.out.cell 1
  have b2 := d1.out.cell 2
  have b3 := d1.out.cell 3
  simp at b0 b1 b2 b3
  go_upto_if 58 with (go_at_call 7; refine (New_good (w := w4) ⟨3, (q : Int) + 2 + (p : Int), 1, 0⟩ hfit2.out).mono ?_; rintro e' w5 ⟨ey, rfl, hi, hc⟩; have I5 := Lib.hid hi; have K5 := Lib.hid hc; clear hi hc)
  have TW := Lib.hid (Two.new (B := N + 2) I4.out (by rw [S3.out]; omega) K4.out.size K5.out I5.out)
  have KK := Lib.hid ((K3.out.trans K4.out).trans K5.out)
  have hsz : N + 2 ≤ w5.heap.size := TW.out.1
  clear b0 b1 b2 b3 d1 I4 I5 K3 K4 K5 HB0 HB1 S3 hfit1 hfit2
  have BB : Hid (Below N w w5) := Lib.hid (hN ▸ Calm.below KK.out)
  clear KK
  by_cases hlong : xs.length ≤ 100
  case neg =>
    have hd : decide (100 < (xs.length : Int)) = true := decide_eq_true (by omega)
    go_wp2_with (go_at_call 8; refine (alive_calls w5).mono ?_; rintro e' w6 ⟨rfl, hb⟩; have B6 := Lib.hid (BB.out.trans (hb.mono (by omega))); clear hb)
    go_ret
    exact ⟨rfl, hN ▸ B6.out⟩
  have hd : decide (100 < (xs.length : Int)) = false := decide_eq_false (by omega)
  go_wp2_with fail
  clear hd
  go_loopw [62] (fun i wr => ∃ (k : Nat) (g1 g2 : Int), k ≤ xs.length ∧ i = .int .i64 (k : Int) ∧ Two (N + 2) wr ex ey ⟨3, (q : Int) + 2, 1, 0⟩ ⟨3, (q : Int) + 2 + (p : Int), 1, 0⟩ ((firsts (xs.take k).reverse).take (q + 1 + 1)) ((firsts (xs.take k).reverse).take (q + p + 1 + 1)) g1 g2 ∧ (0 ≤ g1 ∧ g1 ≤ g2 ∧ g2 ≤ k) ∧ Below (N + 2) w5 wr) (fun i _ => xs.length - (intOf i).toNat)
  case atStart => exact ⟨0, 0, 0, Nat.zero_le _, rfl, by simpa [firsts] using TW.out, by omega, Below.refl _ _⟩
  case round =>
    obtain ⟨k, g1, g2, hk, rfl, ht, ⟨hg0, hg1, hg2⟩, hb⟩ := hrel
    have SR := Lib.hid ht
    have BR := Lib.hid hb
    clear ht hb
    by_cases hlt : k < xs.length
    · rcases HX.out with h0 | ⟨ad, rfl, hxa⟩
      · subst h0; simp at hlt
      have c0 := hxa k hlt
      have c1 : wr.cell? (ad.add k) = some (.int .u64 (xs.getD k 0)) := (World.cell?_of_block (a := ad.add k) ((BB.out.trans (BR.out.mono (by omega))).block (ad.add k).block (by rw [← hN]; exact World.block_lt_of_cell? w _ c0))).trans c0
      have z1 : (0 : Int) ≤ (k : Int) := by omega
      have z2 : (k : Int) < (xs.length : Int) := by omega
      have eg : xs.getD k 0 = xs[k] := by rw [List.getD_eq_getElem?_getD, List.getElem?_eq_getElem hlt]; rfl
      have ES := Lib.hid (show (xs.take (k + 1)).reverse = xs.getD k 0 :: (xs.take k).reverse by rw [List.take_succ_eq_append_getElem hlt, eg, List.reverse_append]; rfl)
      clear c0 hxa eg
      generalize xs.getD k 0 = u at c1 ES
      have HA := Lib.hid (SR.out.asked u (q + 1) hcap1.out.1 hcap1.out.2 (by omega))
      rw [ask_firsts, ← ES.out] at HA
      have hsub : ∀ x, x ∈ (firsts (xs.take k).reverse).take (q + 1 + 1) → x ∈ (firsts (xs.take k).reverse).take (q + p + 1 + 1) := fun x h => take_sub (by omega) h
      have SUB := Lib.hid hsub
      clear hsub
      go_upto_region 14 with (first | (go_at_call 9; refine HA.out.mono ?_; clear HA; rintro e' w6 ⟨rfl, hb, ht⟩; have T6 := Lib.hid ht; have B6 := Lib.hid hb; clear hb ht) | (go_at_call 9; have HA2 := T6.out.swap.asked u (q + p + 1) hcap2.out.1 hcap2.out.2 (by omega); rw [ask_firsts, ← ES.out] at HA2; refine HA2.mono ?_; clear HA2; rintro e' w7 ⟨rfl, hb, ht⟩; have T7 := Lib.hid ht.swap; have B7 := Lib.hid (B6.out.trans hb); clear hb ht))
      have hw57 := B7.out.size
      obtain ⟨d1, d2, hd1, hd2⟩ : ∃ d1 d2, d1 = decide (u ∈ (firsts (xs.take k).reverse).take (q + 1 + 1)) ∧ d2 = decide (u ∈ (firsts (xs.take k).reverse).take (q + p + 1 + 1)) := ⟨_, _, rfl, rfl⟩
      have HIMP : Hid (d1 = true → d2 = true) := Lib.hid (fun h => by rw [hd1, decide_eq_true_eq] at h; rw [hd2, decide_eq_true_eq]; exact SUB.out u h)
      rw [← hd1, ← hd2]
      clear hd1 hd2
      go_cut [76] (fun v76 wz => v76 = .bool false ∧ wz = w7)
      case first =>
        cases d1
        · go_wp2_with fail
          go_meet
          exact ⟨rfl, rfl⟩
        · obtain rfl : d2 = true := HIMP.out rfl
          go_wp2_with fail
          go_meet
          exact ⟨rfl, rfl⟩
      case rest =>
        obtain ⟨rfl, rfl⟩ := hcut
        have hsub2 : ∀ x, x ∈ (firsts (xs.take (k + 1)).reverse).take (q + 1 + 1) → x ∈ (firsts (xs.take (k + 1)).reverse).take (q + p + 1 + 1) := fun x h => take_sub (by omega) h
        obtain ⟨h1, h2, hh, hT⟩ : ∃ h1 h2 : Int, (0 ≤ h1 ∧ h1 ≤ h2 ∧ h2 ≤ (k : Int) + 1) ∧ Two (N + 2) wc ex ey ⟨3, (q : Int) + 2, 1, 0⟩ ⟨3, (q : Int) + 2 + (p : Int), 1, 0⟩ ((firsts (xs.take (k + 1)).reverse).take (q + 1 + 1)) ((firsts (xs.take (k + 1)).reverse).take (q + p + 1 + 1)) h1 h2 := by
          refine ⟨_, _, ?_, T7.out⟩
          by_cases hin : u ∈ (firsts (xs.take k).reverse).take (q + 1 + 1)
          · rw [if_pos hin, if_pos (SUB.out u hin)]; omega
          · rw [if_neg hin]
            split <;> omega
        have HSUB := Lib.hid hsub2
        have HT := Lib.hid hT
        clear hsub2 hT T7 SUB c1 ES
        have B7' := Lib.hid (BR.out.trans B7.out)
        clear B7 T6 B6
        have HGEN : ∃ D1 D2, D1 = (firsts (xs.take (k + 1)).reverse).take (q + 1 + 1) ∧ D2 = (firsts (xs.take (k + 1)).reverse).take (q + p + 1 + 1) := ⟨_, _, rfl, rfl⟩
        obtain ⟨D1, D2, hD1, hD2⟩ := HGEN
        rw [← hD1, ← hD2] at HSUB HT
        have HD1 := Lib.hid hD1
        have HD2 := Lib.hid hD2
        clear hD1 hD2
        have hfew := HT.out.few
        have hfp := field_pages
        go_upto_region 17 with (go_at_call 11; refine HT.out.state.mono ?_; rintro e' w8 ⟨v, n, rfl, hn, hr, hc⟩; have ROWP := Lib.hid hr; have CP := Lib.hid hc; clear hr hc hn; unfold stAgg stCells; obtain ⟨vA, vcap, rfl⟩ : ∃ a cp, v = .slice a D1.length cp := by { rcases ROWP.out.2 with ⟨z, h0⟩ | ⟨g, cap, _, z, _⟩ <;> rw [z]; exact ⟨_, _, by rw [h0]⟩; exact ⟨_, _, rfl⟩ })
        clear hfp
        have T8 := Lib.hid (HT.out.calm CP.out)
        have B8 := Lib.hid (B7'.out.trans ((Calm.below CP.out).mono (by have := HT.out.1; omega)))
        clear HT B7' CP
        go_loopw [81] (fun v81 wy => ∃ j : Nat, j ≤ D1.length ∧ v81 = .int .i64 (j : Int) ∧ Calm w8 wy) (fun v81 _ => D1.length - (intOf v81).toNat)
        case atStart => exact ⟨0, Nat.zero_le _, rfl, Kept.refl _ _⟩
        case round =>
          obtain ⟨j, hj, rfl, hcm⟩ := hrel
          have CG := Lib.hid hcm
          clear hcm
          by_cases hjl : j < D1.length
          · obtain ⟨g, cap, hg, p0, p1, p2, p3⟩ := pages_get (ownsRow_kept ROWP.out CG.out (fun _ _ h => h)) hjl
            injection hg with hg1' hg2' hg3'
            subst hg1' hg3'
            have hmem : D1.getD j 0 ∈ D2 := HSUB.out _ (by rw [List.getD_eq_getElem?_getD, List.getElem?_eq_getElem hjl]; exact List.getElem_mem hjl)
            have HMEM := Lib.hid hmem
            clear hmem hg2'
            generalize D1.getD j 0 = x at p0 HMEM
            have y1 : (0 : Int) ≤ (j : Int) := by omega
            have y2 : (j : Int) < (D1.length : Int) := by omega
            go_upto_region 19 with fail
            have C6 : Calm wr _ := (Kept.refl _ wr).alloc (.cells #[.int .u64 x, .int .i64 2, .bool false, .bool false] 42)
            have HX6 := Lib.hid (Blk.new wr #[.int .u64 x, .int .i64 2, .bool false, .bool false] 42)
            have CG6 := Lib.hid (CG.out.trans C6)
            clear C6 p0 p1 p2 p3
            generalize wr.alloc (.cells #[.int .u64 x, .int .i64 2, .bool false, .bool false] 42) = w6 at HX6 CG6 ⊢
            have x0 := HX6.out.cell 0
            simp at x0
            have HK := Lib.hid ((T8.out.calm CG6.out).kind x)
            rw [if_pos HMEM.out] at HK
            go_wp2_with (go_at_call 13; refine HK.out.mono ?_; rintro e' w' ⟨rfl, rfl⟩)
            go_roundw
            case rel => exact ⟨j + 1, by omega, by go_num, CG6.out⟩
            case measure => simp [intOf] <;> omega
          · obtain rfl : j = D1.length := by omega
            have TF := Lib.hid (T8.out.calm CG.out)
            have BF := Lib.hid (B8.out.trans ((Calm.below CG.out).mono T8.out.1))
            go_wp2_with fail
            go_roundw
            case rel =>
              refine ⟨k + 1, h1, h2, by omega, by go_num, ?_, by omega, BF.out⟩
              rw [← HD1.out, ← HD2.out]
              exact TF.out
            case measure => simp [intOf] <;> omega
    · obtain rfl : k = xs.length := by omega
      have hfp := field_counts
      have hfh := field_hits
      have hd : decide (g1 ≤ g2) = true := decide_eq_true hg1
      have BN := Lib.hid (BB.out.trans (BR.out.mono (by omega)))
      go_wp2_with (first | (go_at_call 8; refine (alive_calls _).mono ?_; rintro e' w9 ⟨rfl, hb⟩; have B9 := Lib.hid hb; clear hb) | (go_at_call 11; refine SR.out.state.mono ?_; rintro e' w8 ⟨v, n, rfl, hn, hr, hc⟩; have SY := Lib.hid (SR.out.swap.calm hc); have C8 := Lib.hid hc; clear SR hr hc; unfold stAgg stCells; rw [hn]; clear hn) | (go_at_call 11; refine SY.out.state.mono ?_; rintro e' w10 ⟨v', n', rfl, hn, hr, hc⟩; have C10 := Lib.hid (C8.out.trans hc); clear SY hr hc; unfold stAgg stCells; rw [hn]; clear hn))
      go_ret
      have hnn := BN.out.size
      have hnc := C10.out.size
      exact ⟨rfl, hN ▸ ((BN.out.trans ((Calm.below C10.out).mono (by omega))).trans (B9.out.mono (by omega)))⟩
theorem LruGrows_row (w : World) (a0 a1 : Int) (va : Value) (xs : List Int) (h0 : (Lit.int .u8 a0).wf = true) (h1 : (Lit.int .u8 a1).wf = true) (hx : IntsW .u64 w va xs) (_ : ∀ x ∈ xs, (Lit.int .u64 x).wf = true) :
    Calls Try.prog 4 #[.int .u8 a0, .int .u8 a1, va] w fun e w' => e = .returned (.bool true) ∧ Below w.heap.size w w' :=
  LruGrows_calls w a0 a1 va xs (u8_of_wf h0).1 (u8_of_wf h0).2 (u8_of_wf h1).1 (u8_of_wf h1).2 hx
end Lru
end Go.Proofs.Ytekbgpfpnjddgaa
