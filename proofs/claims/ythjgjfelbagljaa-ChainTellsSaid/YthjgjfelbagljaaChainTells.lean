/- The walk of the law ChainTells. -/
import Derived.Test.YthjgjfelbagljaaChainLeaves
import Derived.Test.YthjgjfelbagljaaTurned
import Derived.Test.YthjgjfelbagljaaIterC
import Derived.Sort.CutIn
namespace Go.Proofs.Ythjgjfelbagljaa
open Go.RowKit Go.Shelf Go.Proofs.YthjgjfelbagljaaW.PrintWords Go.Proofs.YthjgjfelbagljaaW.PrintLast Go.Proofs.YthjgjfelbagljaaW.PrintMore
attribute [local go_sem] Oper.semAt_some min2_int min_two
namespace Chain

/-- What the rounds leave: each node is taken out, and put ahead of list 1. -/
def turnAll (s : St) (pre : List Int) : St := pre.foldl (fun s x => (s.remove x).ahead 1 x) s
theorem turnAll_snoc (s : St) (pre : List Int) (x : Int) : turnAll s (pre ++ [x]) = ((turnAll s pre).remove x).ahead 1 x := by
  unfold turnAll; rw [List.foldl_append]; rfl
theorem turnAll_inv {s : St} {L : List Int} (h : Inv s [L, []]) : ∀ k, k ≤ L.length → Inv (turnAll s (L.take k)) [L.drop k, (L.take k).reverse] := by
  intro k
  induction k with
  | zero => intro _; exact h
  | succ k ih =>
    intro hk
    have hi := ih (by omega)
    have hkl : k < L.length := by omega
    rw [← take_snoc' hkl, turnAll_snoc]
    have hd : L.drop k = L.getD k 0 :: L.drop (k + 1) := by
      rw [List.drop_eq_getElem_cons hkl, List.getD_eq_getElem?_getD, List.getElem?_eq_getElem hkl]; rfl
    generalize L.getD k 0 = x at hd ⊢
    have h1 : Inv ((turnAll s (L.take k)).remove x) [L.drop (k + 1), (L.take k).reverse] := hi.remove (l := 0) (A := []) (B := L.drop (k + 1)) (Nat.succ_pos _) hd
    have hmem := hi.node 0 (Nat.succ_pos _) x (by show x ∈ L.drop k; rw [hd]; exact List.mem_cons_self)
    have hn : ((turnAll s (L.take k)).remove x).hasNode x := ⟨hmem.1, by rw [remove_len]; exact hmem.2⟩
    have hnd := hi.nodup 0 (Nat.succ_pos _)
    have hnd' : (x :: L.drop (k + 1)).Nodup := by rw [← hd]; exact hnd
    have hap := hi.apart 0 1 (Nat.succ_pos _) (by simp) (by decide) x (by show x ∈ L.drop k; rw [hd]; exact List.mem_cons_self)
    have hw : ((turnAll s (L.take k)).remove x).wrong ((1 : Nat) : Int) x = 0 := by
      rw [h1.wrong_eq, if_pos ⟨h1.hasList (l := 1) (by simp), hn⟩, if_neg]
      rintro ⟨j, hj, hm⟩
      have : j = 0 ∨ j = 1 := by simp at hj; omega
      rcases this with rfl | rfl
      · exact (List.nodup_cons.1 hnd').1 hm
      · exact hap hm
    have h2 := h1.ahead 1 x (by simp)
    rw [if_pos hw] at h2
    rw [List.reverse_append]
    exact h2
theorem turnAll_mid {s : St} {L : List Int} (h : Inv s [L, []]) {k : Nat} (hkl : k < L.length) : Inv ((turnAll s (L.take k)).remove (L.getD k 0)) [L.drop (k + 1), (L.take k).reverse] := by
  have hd : L.drop k = L.getD k 0 :: L.drop (k + 1) := by
    rw [List.drop_eq_getElem_cons hkl, List.getD_eq_getElem?_getD, List.getElem?_eq_getElem hkl]; rfl
  exact (turnAll_inv h k (by omega)).remove (l := 0) (A := []) (B := L.drop (k + 1)) (Nat.succ_pos _) hd
theorem prefix_snoc {L pre : List Int} {x : Int} (h : pre ++ [x] <+: L) : pre.length < L.length ∧ pre = L.take pre.length ∧ x = L.getD pre.length 0 := by
  obtain ⟨r, rfl⟩ := h
  refine ⟨by simp, by simp, ?_⟩
  rw [List.append_assoc, List.getD_eq_getElem?_getD, List.getElem?_append_right (Nat.le_refl _), Nat.sub_self]
  rfl
theorem ownsRow_kept {F : Nat → Prop} {w w' : World} {base e size n : Nat} {v : Value} {xs : List Value} (h : w.ownsRow base e size v n xs) (hk : Kept F w w') (hF : ∀ g, base ≤ g → g < w.heap.size → ¬ F g) : w'.ownsRow base e size v n xs := by
  refine ⟨h.1, ?_⟩
  rcases h.2 with h2 | ⟨g, cap, cur, hv, hg, hh, r⟩
  · exact .inl h2
  · exact .inr ⟨g, cap, cur, hv, hg, (hk.block g (Array.getElem?_eq_some_iff.1 hh).1 (hF g hg (Array.getElem?_eq_some_iff.1 hh).1)).trans hh, r⟩
theorem boxed_kept {F : Nat → Prop} {w w' : World} {B : Nat} {t : TypeId} {v : Value} (h : Boxed w B t v) (hk : Kept F w w') (hF : ¬ F B) : Boxed w' B t v :=
  (hk.block B (Array.getElem?_eq_some_iff.1 h).1 hF).trans h
theorem At.mine {Bs : List Nat} {n₀ : Nat} {W W' : World} {b b1 b2 : Nat} {s : St} (h : At W b b1 b2 s) (hm : Mine Bs n₀ W W') (h0 : b < n₀) (h1 : b1 < n₀) (h2 : b2 < n₀) : At W' b b1 b2 s :=
  ⟨h.head.mine hm h0, h.links.mine hm h1, h.lists.mine hm h2, h.ne1, h.ne2, h.ne3, h.nodes, h.many⟩
theorem turnAll_next {s : St} {L : List Int} (h : Inv s [L, []]) {k : Nat} (hk : k < L.length) :
    (turnAll s (L.take k)).stands (L.getD k 0) := by
  have hi := turnAll_inv h k (by omega)
  refine hi.stands_mem (l := 0) (Nat.succ_pos _) ?_
  show _ ∈ L.drop k
  rw [List.drop_eq_getElem_cons hk, List.getD_eq_getElem?_getD, List.getElem?_eq_getElem hk]
  exact List.mem_cons_self

set_option maxRecDepth 100000 in
set_option maxHeartbeats 4000000 in
theorem ChainTells_calls (w : World) (v : Value) (xs : List Int) (m : Nat) (hm : (m : Int) ≤ 255) (hx : IntsW .u8 w v xs) (hr : ∀ x ∈ xs, 0 ≤ x ∧ x ≤ 255) :
    Calls Try.prog 6 #[v, .int .u8 (m : Int)] w fun e w' => e = .returned (.bool true) ∧ Below w.heap.size w w' := by
  obtain ⟨A, c, rfl, hc, hxa⟩ := hx
  have HX := Lib.hid hxa
  clear hxa
  refine (callsIn_wide (n := 6)).1 ?_
  obtain ⟨i0, hi, hz0, hz1, hz2⟩ := info_parts info21
  have HI := Lib.hid hi; have HZ0 := Lib.hid hz0; have HZ1 := Lib.hid hz1; have HZ2 := Lib.hid hz2
  clear hi hz0 hz1 hz2
  refine callsIn_of_wp_marks Try.func6 rfl trivial ?_ rfl
  simp only [Try.ntmps6, List.size_toArray, List.length_cons, List.length_nil, Nat.reduceAdd, Nat.reduceSub, Array.replicate_succ, Array.replicate_zero, List.push_toArray, List.append_toArray, List.nil_append, List.cons_append]
  by_cases h60 : 60 < xs.length
  · have c60 : (60 : Int) < (xs.length : Int) := by omega
    clear h60
    gi_wp2_with (refine ⟨trivial, ?_⟩; gi_at_call 16; refine (callsIn_wide.2 (alive_calls _)).mono ?_; rintro e w' ⟨rfl, hbc⟩)
    exact ⟨_, results_tmp rfl _ _ _, rfl, hbc⟩
  have c60 : (xs.length : Int) ≤ 60 := by omega
  gi_wp2_with (refine ⟨trivial, ?_⟩; gi_at_call 17; refine (callsIn_wide.2 (New_calls _ 256 2 (by decide) (by decide) (by decide) (by decide))).mono ?_; rintro e wa ⟨b, b1, b2, rfl, hs, hka, z0, z1, z2⟩)
  have hbx : Boxed (wa.alloc (.cells #[.pointer (some ⟨b, 0, none⟩)] 41)) wa.heap.size 41 (.pointer (some ⟨b, 0, none⟩)) := Boxed.new wa _ _
  have hsA : At (wa.alloc (.cells #[.pointer (some ⟨b, 0, none⟩)] 41)) b b1 b2 (St.new 256 2) := hs.calm ((Kept.refl _ _).alloc _)
  have hKA : Calm w (wa.alloc (.cells #[.pointer (some ⟨b, 0, none⟩)] 41)) := hka.alloc _
  have hb0 : b < wa.heap.size := hs.head.lt
  have hb1 : b1 < wa.heap.size := hs.links.lt
  have hb2 : b2 < wa.heap.size := hs.lists.lt
  have hSA : (wa.alloc (.cells #[.pointer (some ⟨b, 0, none⟩)] 41)).heap.size = wa.heap.size + 1 := World.size_alloc _ _
  have hwa := hka.size
  generalize wa.heap.size = n5 at hbx hsA hKA hb0 hb1 hb2 hSA hwa ⊢
  generalize wa.alloc (.cells #[.pointer (some ⟨b, 0, none⟩)] 41) = wA at hbx hsA hKA hSA ⊢
  clear hs hka
  gi_loopw [34] (fun i wr => ∃ (k : Nat) (s : St) (L : List Int), k ≤ xs.length ∧ i = .int .i64 (k : Int) ∧ At wr b b1 b2 s ∧ Filled 1 xs k s L ∧ Kept (Two b1 b2) wA wr) (fun i _ => xs.length - (intOf i).toNat)
  case atStart => exact ⟨0, _, [], Nat.zero_le _, rfl, hsA, Filled.start 1 (by decide) xs, Kept.refl _ _⟩
  case round =>
    obtain ⟨j, s, L, hj, rfl, hat, hfill, hkept⟩ := hrel
    have hc5 : wr.cell? ⟨n5, 0, none⟩ = some (.pointer (some ⟨b, 0, none⟩)) := cell_kept hkept hbx.cell (fun h => by unfold Two at h; omega)
    by_cases hlt : j < xs.length
    · have hxa := HX.out
      rcases hxa with h0 | ⟨ad, rfl, hxa⟩
      · subst h0; simp at hlt
      have c0 := hxa j hlt
      have c1 : wr.cell? (ad.add j) = some (.int .u8 (xs.getD j 0)) := cell_kept' hkept (cell_kept' hKA c0 (fun h => h)) (fun h => by have := World.block_lt_of_cell? w _ c0; unfold Two at h; omega)
      clear c0
      have z2 : (j : Int) < (xs.length : Int) := by omega
      have hxr := hr (xs.getD j 0) (getD_mem hlt)
      generalize xs.getD j 0 = u at c1 hxr
      obtain ⟨L', hfill'⟩ := hfill.next u hxr.1 hxr.2
      have HF := Lib.hid hfill'
      have h1 := Behind_calls wr b b1 b2 s 0 u hat hfill.inv.valid (by omega)
      have H1 := Lib.hid h1
      obtain ⟨u0, u1⟩ := hxr
      clear h1 hxa hfill' hfill
      gi_wp2_with fail
      refine ⟨trivial, (callsIn_wide.2 H1.out).mono ?_⟩
      rintro e wb ⟨rfl, hatb, hkb⟩
      gi_wp2_with fail
      go_roundw
      case rel => exact ⟨j + 1, _, L', by omega, by go_num, hatb, HF.out, hkept.trans hkb⟩
      case measure => simp [intOf]; omega
    · obtain rfl : j = xs.length := by omega
      have hinv : Inv s [L, []] := hfill.inv
      have hfew := hfill.few
      have hL60 : (L.length : Int) ≤ 60 := by omega
      have T0 := told_at 0 1000 L hat (hinv.way (l := 0) (by simp)) (by decide)
      rw [List.take_of_length_le (show L.length ≤ 1000 by omega)] at T0
      have HT := Lib.hid T0
      have HV := Lib.hid hinv
      have K0 : Calm w wr := hKA.step hkept (fun i hi h => by unfold Two at h; omega)
      have hn5 : n5 < wr.heap.size := by have := hkept.size; omega
      have Hbx := Lib.hid hbx
      clear T0 hinv hfill HX hsA hbx
      gi_wp2_with fail
      refine ⟨trivial, (callsIn_wide.2 HT.out).mono ?_⟩
      rintro e wB ⟨v, rfl, hrow, hbb⟩
      have hc5B : wB.cell? ⟨n5, 0, none⟩ = some (.pointer (some ⟨b, 0, none⟩)) := cell_kept (Kept.of_below hbb (fun _ => False)) hc5 (fun h => h)
      have hatB : At wB b b1 b2 s := hat.calm (Kept.of_below hbb _)
      have T1 := back_at 0 m L.reverse hatB (HV.out.way_back (l := 0) (by simp)) (by omega)
      have HT1 := Lib.hid T1
      clear T1
      obtain ⟨B, cB, rfl, hcB, hCB⟩ := Kd.R_reads (kd_of_owns hrow)
      have HCB := Lib.hid hCB
      have HIB := Lib.hid (Ints.of_owns hrow)
      clear hCB hc5
      gi_wp2_with fail
      refine ⟨trivial, (callsIn_wide.2 HT1.out).mono ?_⟩
      rintro e wC ⟨v, rfl, hrow1, hbC⟩
      have hc5C : wC.cell? ⟨n5, 0, none⟩ = some (.pointer (some ⟨b, 0, none⟩)) := cell_kept (Kept.of_below hbC (fun _ => False)) hc5B (fun h => h)
      have hatC : At wC b b1 b2 s := hatB.calm (Kept.of_below hbC _)
      have HI1 := Lib.hid (Ints.of_owns hrow1)
      have hlen1 : (L.reverse.take m).length = min m L.length := by rw [List.length_take, List.length_reverse]
      have hS0 : Since wC wC := Since.refl wC
      clear hrow1
      gi_upto_region 13 with fail
      gi_cut [80] from 81 (fun r wz => r = .bool false ∧ Since wC wz)
      case first =>
        have hC1 := Kd.C_below HCB.out hbC
        have L0 : s.len 0 = L.length := HV.out.len_eq (l := 0) (by simp)
        have M0 := Len_calls wC b b1 b2 s 0 hatC
        rw [L0] at M0
        have HM0 := Lib.hid M0
        have HTu := Lib.hid (Ref04.Turned_calls wC B cB L hC1 hcB (by omega))
        clear M0 L0 hC1
        gi_wp2_with fail
        refine ⟨trivial, (callsIn_wide.2 HM0.out).mono ?_⟩
        rintro e w' ⟨rfl, rfl⟩
        gi_wp2_with fail
        refine ⟨trivial, (callsIn_wide.2 HTu.out).mono ?_⟩
        rintro e wT ⟨vT, rfl, hrowT, hbT⟩
        have hlT : L.reverse.length = L.length := List.length_reverse
        have HST : Since wC wT := hS0.next hbT
        rcases hrowT.2 with ⟨rfl, h0⟩ | ⟨g, cap, cur, rfl, hbg, _, hcap, _⟩
        · obtain rfl : L = [] := List.eq_nil_of_length_eq_zero (by omega)
          have HZ : Hid (Ints .i32 wT (.slice none 0 0) (([] : List Int).reverse.take m)) := Lib.hid (by simpa using Ints.nil .i32 wT)
          gi_wp2_with ((refine ⟨trivial, ?_⟩; gi_at_call 21; refine (callsIn_wide.2 (Ref04.Nodes_calls _ _ _ (([] : List Int).reverse.take m) (([] : List Int).reverse.take m) (HI1.out.below HST.out) HZ.out (by simp) (by simp))).mono ?_; rw [decide_eq_true rfl]; rintro e w' ⟨rfl, nN, rfl⟩))
          gi_meet
          exact ⟨rfl, HST.drewN _⟩
        · by_cases hml : (m : Int) < (L.length : Int)
          · have HZ : Hid (Ints .i32 wT (.slice (some ⟨g, 0, none⟩) m cap) (L.reverse.take m)) := Lib.hid ((Ints.of_owns hrowT).take m (by omega))
            have hqc : (m : Int) ≤ (cap : Int) := by omega
            clear hrowT
            gi_wp2_with (refine ⟨trivial, ?_⟩; gi_at_call 21; refine (callsIn_wide.2 (Ref04.Nodes_calls _ _ _ (L.reverse.take m) (L.reverse.take m) (HI1.out.below HST.out) HZ.out (by rw [hlen1]; omega) (by rw [hlen1]; omega))).mono ?_; rw [decide_eq_true rfl]; rintro e w' ⟨rfl, nN, rfl⟩)
            gi_meet
            exact ⟨rfl, HST.drewN _⟩
          · have HZ : Hid (Ints .i32 wT (.slice (some ⟨g, 0, none⟩) L.length cap) (L.reverse.take m)) := Lib.hid (by
              have := Ints.of_owns hrowT
              rw [hlT] at this
              rw [List.take_of_length_le (by omega)]
              exact this)
            have hqc : (L.length : Int) ≤ (cap : Int) := by omega
            clear hrowT
            gi_wp2_with (refine ⟨trivial, ?_⟩; gi_at_call 21; refine (callsIn_wide.2 (Ref04.Nodes_calls _ _ _ (L.reverse.take m) (L.reverse.take m) (HI1.out.below HST.out) HZ.out (by rw [hlen1]; omega) (by rw [hlen1]; omega))).mono ?_; rw [decide_eq_true rfl]; rintro e w' ⟨rfl, nN, rfl⟩)
            gi_meet
            exact ⟨rfl, HST.drewN _⟩
      case rest =>
        obtain ⟨rfl, hsz⟩ := hcut
        have hn5z : n5 < wc.heap.size := by have := hsz.out.size; have := hbC.size; have := hbb.size; omega
        gi_upto_region 16 with fail
        have hKz : Kept (Two b1 b2) wA wc := ((hkept.trans (Kept.of_below hbb _)).trans (Kept.of_below hbC _)).trans (Kept.of_below hsz.out _)
        have hb5 : Boxed (wc.alloc (.cells #[.slice none 0 0] 45)) n5 41 (.pointer (some ⟨b, 0, none⟩)) :=
          boxed_kept Hbx.out (hKz.alloc _) (fun h => by unfold Two at h; omega)
        have hsD : At (wc.alloc (.cells #[.slice none 0 0] 45)) b b1 b2 s := (hatC.calm (Kept.of_below hsz.out _)).calm ((Kept.refl _ _).alloc _)
        have hKD : Calm w (wc.alloc (.cells #[.slice none 0 0] 45)) := (((K0.trans (Kept.of_below hbb _)).trans (Kept.of_below hbC _)).trans (Kept.of_below hsz.out _)).alloc _
        have hb13 : Boxed (wc.alloc (.cells #[.slice none 0 0] 45)) wc.heap.size 45 (.slice none 0 0) := Boxed.new wc _ _
        have hSD : (wc.alloc (.cells #[.slice none 0 0] 45)).heap.size = wc.heap.size + 1 := World.size_alloc _ _
        have hwD : w.heap.size ≤ b ∧ w.heap.size ≤ b1 ∧ w.heap.size ≤ b2 := ⟨z0, z1, z2⟩
        have hKB : Calm wB (wc.alloc (.cells #[.slice none 0 0] 45)) := ((Kept.of_below hbC _).trans (Kept.of_below hsz.out _)).alloc _
        have hBn : wB.heap.size ≤ wc.heap.size := Nat.le_trans hbC.size hsz.out.size
        have Hrow := Lib.hid hrow
        generalize wc.heap.size = n13 at hb13 hSD hn5z hBn ⊢
        generalize wc.alloc (.cells #[.slice none 0 0] 45) = wD at hb5 hsD hKD hb13 hSD hKB ⊢
        have hcD := hb5.cell
        have HB5 := Lib.hid hb5
        have HB13 := Lib.hid hb13
        clear hKz hsz hatC hatB hat hkept hc5B hc5C hrow HCB HIB HT HT1 HI1 hS0 hb5 hb13 Hbx
        have hq := func_eq_nil
        gi_wp2_with (refine ⟨trivial, ?_⟩; gi_at_call 28; refine (callsIn_wide.2 (All_calls _ _ _)).mono ?_; rintro e w' ⟨rfl, rfl⟩)
        have hI4 := All_iter wD 5 (by omega) [n13] b b1 b2 s 0 L hsD (HV.out.way (l := 0) (by simp)) (world4 wD (some ⟨b, 0, none⟩) 0 49 36) (Kept.refl _ _)
        have hC4 : Calm wD (world4 wD (some ⟨b, 0, none⟩) 0 49 36) := world4_calm _ _ _ _ _
        have hS4 : (world4 wD (some ⟨b, 0, none⟩) 0 49 36).heap.size = n13 + 5 := by rw [world4_size, hSD]
        rw [hSD] at hI4
        try rw [hSD]
        generalize world4 wD (some ⟨b, 0, none⟩) 0 49 36 = W4 at hI4 hC4 hS4 ⊢
        have hs4 : At W4 b b1 b2 s := hsD.calm hC4
        have h54 : Boxed W4 n5 41 (.pointer (some ⟨b, 0, none⟩)) := boxed_kept HB5.out hC4 id
        have h134 : Boxed W4 n13 45 (.slice none 0 0) := boxed_kept HB13.out hC4 id
        have hbn : b < n5 ∧ b1 < n5 ∧ b2 < n5 := ⟨hb0, hb1, hb2⟩
        refine rangeFunc_law1 84 15 (fun x : Int => Value.int .i32 x) rfl (by omega) (gf := 58) (lb := #[.pointer (some ⟨n13 + 1 + 2, 0, none⟩), .pointer (some ⟨n13 + 1 + 3, 0, none⟩)]) rfl trivial (enters_of Try.func58 (by kernel_rfl) rfl)
          hI4 (fun _ _ => trivial) (fun _ _ _ _ _ _ _ _ => trivial) (Below.refl _ _) (by simp; omega) ?snug (fun _ => rfl)
          (fun pre A => (∃ v, Boxed A n13 45 v ∧ A.ownsRow (n13 + 5) 21 1 v pre.length (pre.map (Value.int .i32)) ∧ True) ∧ Kept (fun k => k = n13 ∨ Two b1 b2 k) W4 A ∧ At A b b1 b2 (turnAll s pre))
          (fun _ _ _ => False) ?abI (fun _ _ _ _ h _ => h) ⟨⟨_, h134, World.ownsRow_nil _ _ _ _, trivial⟩, Kept.refl _ _, hs4⟩
          ?assign ?body ?done ?stop
        case snug =>
          intro B' hB' o v' g hc' hv'
          obtain rfl : B' = n13 := by simpa using hB'
          exfalso
          cases o with
          | zero => rw [h134.cell] at hc'; cases hc'; cases hv'
          | succ o =>
            unfold World.cell? at hc'
            rw [show W4.heap[B']? = _ from h134] at hc'
            simp at hc'
        case abI =>
          refine (abiding_holds _ _ _ _ _ _ _ _ (by simp) (by omega)).and (Abiding.and (abiding_kept (Nat.le_refl _)) ?_)
          exact fun _ _ _ h hm' => At.mine h hm' (by omega) (by omega) (by omega)
        case assign =>
          intro l' pre x A K hI hs hK
          gi_wp2
          exact hK _ _ (Yours.refl _ _ _) trivial hI rfl
        case body =>
          rintro l' pre x a' A hl' hrec ⟨⟨v', hv, hrow, _⟩, hkA, hatA⟩ rfl hlt hpre
          obtain ⟨hk, hpk, hxk⟩ := prefix_snoc hpre
          have hi5 : Boxed A n5 41 (.pointer (some ⟨b, 0, none⟩)) := boxed_kept h54 hkA (fun h => by unfold Two at h; omega)
          have invk : Inv (turnAll s pre) [L.drop pre.length, pre.reverse] := by
            have := turnAll_inv HV.out pre.length (by omega)
            rwa [← hpk] at this
          have invm : Inv ((turnAll s pre).remove x) [L.drop (pre.length + 1), pre.reverse] := by
            have := turnAll_mid HV.out hk
            rwa [← hpk, ← hxk] at this
          have hx31 : x < 2147483648 := by
            rw [hxk]
            exact HV.out.node_lt (l := 0) (by simp) _ (getD_mem hk)
          have hsn : ((turnAll s pre).remove x).ahead 1 x = turnAll s (pre ++ [x]) := (turnAll_snoc s pre x).symm
          have HIK := Lib.hid invk
          have HIM := Lib.hid invm
          have HSN := Lib.hid hsn
          have hc13 := hv.cell
          have hf13 := hv.frozen
          have hpl : (pre.length : Int) ≤ 60 := by omega
          have hszA : n13 + 5 ≤ A.heap.size := by have := hkA.size; omega
          clear invk invm hsn hpk hxk hpre hlt hrec hl'
          gi_wp2_with (gi_at_builtin; refine wpListIn_append_own_at _ rfl _ _ 45 rfl (n13 + 5) 21 i0 (.int .i32 0) 1 4 Try.underlying45 HI.out HZ0.out HZ1.out HZ2.out rfl (by decide) _ _ _ rfl (hrow.alloc _) ⟨A.heap.size, 0, none⟩ 1 1 [.int .i32 x] rfl rfl (cell_one_new _ _ _) (by simp [Value.oneCell']) (by unfold maxLen; omega) (by omega) (by simp; omega) ?_; intro v'' w1 hown' hgrow _ hatw; obtain ⟨g', cap', rfl⟩ := ownsRow_succ hown'; obtain ⟨hv1, hv2, hr2, hb2'⟩ := boxed_appended (n := w.heap.size) hv (by decide) hrow (by omega) (by omega) (by omega) hown' hgrow; have hc1 := hv1.cell; have hf1 := hv1.frozen; have KA := Kept.appended (F := fun k => k = n13 ∨ n13 + 5 ≤ k) (v' := .slice (some ⟨g', 0, none⟩) (pre.length + 1) cap') hrow hgrow (.inl rfl) (fun j hj => .inr hj); have h75 := boxed_kept hi5 KA (by omega); have hc75 := h75.cell; have YA := Yours.appended hv (by decide) hrow (show n13 ∈ [n13] by simp) (show n13 < W4.heap.size by omega) hown' hgrow hatw (by simp only [List.mem_singleton]; rintro B' rfl; exact ⟨by omega, by omega, hv.not_row (by decide) hrow⟩))
          have hat2 := hatA.kept KA (by omega) (by omega) (by omega)
          have R1 := Remove_calls _ b b1 b2 (turnAll s pre) x hat2 HIK.out.valid hx31 (HIK.out.many_pos x)
          have hsz2 := KA.size
          have HR1 := Lib.hid R1
          clear R1
          generalize w1.setCell ⟨n13, 0, none⟩ (Value.slice (some ⟨g', 0, none⟩) (pre.length + 1) cap') = A2 at hv2 hr2 hb2' KA h75 hc75 hat2 hsz2 HR1 YA ⊢
          refine ⟨trivial, (CallsIn.inRound _ (callsIn_wide.2 HR1.out)).mono ?_⟩
          rintro e A3 ⟨rfl, hat3, hk3⟩
          have h76 := boxed_kept h75 hk3 (fun h => by unfold Two at h; omega)
          have hc76 := h76.cell
          have R2 := Ahead_calls _ b b1 b2 ((turnAll s pre).remove x) 1 x hat3 HIM.out.valid hx31
          have HR2 := Lib.hid R2
          clear R2
          gi_wp2_with fail
          refine ⟨trivial, (CallsIn.inRound _ (callsIn_wide.2 HR2.out)).mono ?_⟩
          rintro e A4 ⟨rfl, hat4, hk4⟩
          have hk34 : Kept (Two b1 b2) A2 A4 := hk3.trans hk4
          gi_wp2_with fail
          refine ⟨?_, trivial, ⟨_, boxed_kept hv2 hk34 (fun h => by unfold Two at h; omega), ?_, trivial⟩, ?_, ?_⟩
          · refine Yours.trans (B := A2) ?_ ?_
            · exact YA
            · refine Yours.of_kept hk34 (fun k hk1 hk2 h => by unfold Two at h; omega) ?_
              simp only [List.mem_singleton]
              rintro B' rfl
              exact ⟨by omega, fun h => by unfold Two at h; omega⟩
          · have := ownsRow_kept hr2 hk34 (fun g hg _ h => by unfold Two at h; omega)
            rw [List.length_append, List.map_append]
            exact this
          · exact (hkA.step KA (fun k hk h => by omega)).trans (hk34.mono (fun k _ h => .inr h))
          · rw [← HSN.out]
            exact hat4
        case done =>
          rintro D ys A hD rfl ⟨⟨v', hv, hrow, _⟩, hkA, hatA⟩ hK
          have hi5 : Boxed A n5 41 (.pointer (some ⟨b, 0, none⟩)) := boxed_kept h54 hkA (fun h => by unfold Two at h; omega)
          have invF : Inv (turnAll s ys) [[], ys.reverse] := by
            have := turnAll_inv HV.out ys.length (Nat.le_refl _)
            rwa [List.take_length, List.drop_length] at this
          have hc5 := hi5.cell
          have hc13 := hv.cell
          have HIs := Lib.hid (Ints.of_owns hrow)
          have hszA : n13 + 5 ≤ A.heap.size := by have := hkA.size; omega
          have KA : Kept (fun k => k = n13 ∨ Two b1 b2 k) wD A := (hC4.mono (fun _ _ h => h.elim)).trans hkA
          have T2 := told_at 1 1000 ys.reverse hatA (invF.way (l := 1) (by simp)) (by decide)
          rw [List.take_of_length_le (show ys.reverse.length ≤ 1000 by rw [List.length_reverse]; omega)] at T2
          have HT2 := Lib.hid T2
          have HFV := Lib.hid invF
          clear T2 invF hrow hv
          gi_wp2_with fail
          refine ⟨trivial, (callsIn_wide.2 HT2.out).mono ?_⟩
          rintro e wF ⟨v3, rfl, hrow3, hbF⟩
          have hcF := (Boxed.cell (boxed_kept hi5 (Kept.of_below hbF (fun _ => False)) id))
          have hcG : wF.cell? ⟨n13, 0, none⟩ = some v' := cell_kept (Kept.of_below hbF (fun _ => False)) hc13 id
          have hrF : wF.ownsRow wr.heap.size 21 1 (.slice B ys.length cB) ys.length (ys.map (Value.int .i32)) :=
            ownsRow_kept (ownsRow_kept (Hrow.out) ((hKB.mono (fun _ _ h => h.elim)).trans KA) (fun g hg hlt h => by unfold Two at h; omega)) (Kept.of_below hbF (fun _ => False)) (fun _ _ _ h => h)
          have hJ2 := Lib.hid (Ints.of_owns hrF)
          have hJ1 := Lib.hid (HIs.out.below hbF)
          have hKF : wF.heap[D]? = some (.deferred (some [])) := (hbF.block D (Array.getElem?_eq_some_iff.1 hK).1).trans hK
          have HrF := Lib.hid hrF
          have Hr3 := Lib.hid hrow3
          have hat5 : At wF b b1 b2 (turnAll s ys) := hatA.calm (Kept.of_below hbF _)
          have hKwF : Calm w wF := (hKD.step KA (fun k hk h => by unfold Two at h; omega)).trans (Kept.of_below hbF _)
          have hys : (ys.length : Int) ≤ 60 := by omega
          clear hrF hrow3 hc5 hc13 hK hbF hkA hatA KA
          gi_wp2_with fail
          refine ⟨trivial, (callsIn_wide.2 (Ref04.Nodes_calls wF _ _ ys ys hJ1.out hJ2.out (by omega) (by omega))).mono ?_⟩
          rw [decide_eq_true rfl]
          rintro e w' ⟨rfl, n1, rfl⟩
          have HTu2 := Ref04.Turned_calls (wF.drewN n1) B cB ys (by
            obtain ⟨B', c', he, hl, hc⟩ := Kd.R_reads (kd_of_owns HrF.out)
            injection he with h1 h2 h3
            subst h1
            exact Kd.C_drewN hc n1) hcB (by omega)
          have HT3 := Lib.hid HTu2
          clear HTu2
          gi_wp2_with fail
          refine ⟨trivial, (callsIn_wide.2 HT3.out).mono ?_⟩
          rintro e wG ⟨vT, rfl, hrowT, hbG⟩
          have hKG : Calm wF wG := ((Kept.refl (fun _ => False) wF).drewN n1).trans (Kept.of_below hbG _)
          have hJ3 := Lib.hid (Ints.of_owns hrowT)
          have hJ4 := Lib.hid ((Ints.of_owns Hr3.out).calm hKG)
          have hcH := cell_kept hKG hcF id
          have hatG : At (wG) b b1 b2 (turnAll s ys) := hat5.calm hKG
          have hKGD : wG.heap[D]? = some (.deferred (some [])) := (hKG.block D (Array.getElem?_eq_some_iff.1 hKF).1 id).trans hKF
          clear hrowT hbG
          gi_wp2_with fail
          refine ⟨trivial, (callsIn_wide.2 (Ref04.Nodes_calls wG _ _ ys.reverse ys.reverse hJ4.out hJ3.out (by simp; omega) (by simp; omega))).mono ?_⟩
          rw [decide_eq_true rfl]
          rintro e w' ⟨rfl, n2, rfl⟩
          have M0 := Len_calls (wG.drewN n2) b b1 b2 (turnAll s ys) 0 (hatG.of_heap rfl)
          rw [show (turnAll s ys).len 0 = 0 from HFV.out.len_eq (l := 0) (by simp)] at M0
          have HM0 := Lib.hid M0
          clear M0
          gi_wp2_with fail
          refine ⟨trivial, (callsIn_wide.2 HM0.out).mono ?_⟩
          rintro e w' ⟨rfl, rfl⟩
          gi_wp2_with fail
          refine ⟨trivial, (callsIn_wide.2 (alive_calls _)).mono ?_⟩
          rintro e wH ⟨rfl, hbH⟩
          have hKH : wH.heap[D]? = some (.deferred (some [])) := (hbH.block D (Array.getElem?_eq_some_iff.1 hKGD).1).trans hKGD
          have hBf : Below w.heap.size w wH := ((hKwF.trans (hKG.drewN n2)).trans (Kept.of_below hbH _)).below (fun _ _ h => h)
          gi_wp2_with fail
          refine ⟨by simp, .inl ⟨_, _, rfl, run_takeDeferred hKH, ?_⟩⟩
          have hDw : w.heap.size ≤ D := by have := hKD.size; omega
          exact ⟨_, results_tmp rfl _ _ _, rfl, hBf.trans (belowK_b (w := w) (Nat.le_refl _) wH D _ _ hDw hKH rfl rfl)⟩
        case stop =>
          rintro D c pre A _ _ h _
          exact h.elim
theorem ChainTells_row (w : World) (v : Value) (xs : List Int) (k : Int) (hx : IntsW .u8 w v xs) (hr : ∀ x ∈ xs, (Lit.int .u8 x).wf = true) (hk : (Lit.int .u8 k).wf = true) :
    Calls Try.prog 6 #[v, .int .u8 k] w fun e w' => e = .returned (.bool true) ∧ Below w.heap.size w w' := by
  obtain ⟨m, rfl⟩ : ∃ m : Nat, k = (m : Int) := ⟨k.toNat, by have := (u8_of_wf hk).1; omega⟩
  exact ChainTells_calls w v xs m (u8_of_wf hk).2 hx (fun x h => u8_of_wf (hr x h))
end Chain
end Go.Proofs.Ythjgjfelbagljaa
