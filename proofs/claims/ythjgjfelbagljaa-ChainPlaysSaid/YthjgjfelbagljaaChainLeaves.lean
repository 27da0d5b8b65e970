/- The walk of the law ChainLeaves. -/
import Derived.Test.YthjgjfelbagljaaChainAlive
import Derived.Test.YthjgjfelbagljaaChainNil
import Derived.Test.YthjgjfelbagljaaJoined
import Derived.Deep.RegionHeld3
namespace Go.Proofs.Ythjgjfelbagljaa
open Go.RowKit Go.Proofs.YthjgjfelbagljaaW.PrintWords Go.Proofs.YthjgjfelbagljaaW.PrintLast Go.Proofs.YthjgjfelbagljaaW.PrintMore
namespace Chain

theorem behind_len (s : St) (l n : Int) : (s.behind l n).links.length = s.links.length := by
  unfold St.behind
  split
  · exact (join_len _ _ _ _ _).1
  · rfl
/-- A node is put behind the first list: what the first list is then. -/
theorem Inv.push {s : St} {L : List Int} {R : List (List Int)} (h : Inv s (L :: R)) (n : Int) (hn : s.hasNode n) : ∃ L', Inv (s.behind 0 n) (L' :: R) ∧ L' ≠ [] ∧ L'.length ≤ L.length + 1 ∨ Inv (s.behind 0 n) (L :: R) ∧ L' = L ∧ ∃ j : Nat, j < (L :: R).length ∧ n ∈ (L :: R).getD j [] := by
  have hb := h.behind 0 n (by simp)
  have hl0 : s.hasList (0 : Int) := h.hasList (l := 0) (by simp)
  by_cases hin : ∃ j : Nat, j < (L :: R).length ∧ n ∈ (L :: R).getD j []
  · have hw : s.wrong ((0 : Nat) : Int) n ≠ 0 := by
      rw [h.wrong_eq, if_pos ⟨hl0, hn⟩, if_pos hin]; decide
    rw [if_neg hw] at hb
    exact ⟨L, .inr ⟨hb, rfl, hin⟩⟩
  · have hw : s.wrong ((0 : Nat) : Int) n = 0 := by
      rw [h.wrong_eq, if_pos ⟨hl0, hn⟩, if_neg hin]
    rw [if_pos hw] at hb
    exact ⟨L ++ [n], .inl ⟨hb, by simp, by simp⟩⟩
theorem remove_len (s : St) (n : Int) : (s.remove n).links.length = s.links.length := by
  unfold St.remove
  split
  · exact (unlink_len _ _).1
  · rfl
/-- The state behind so many rounds. -/
structure Filled (m : Nat) (xs : List Int) (k : Nat) (s : St) (L : List Int) : Prop where
  inv : Inv s (L :: List.replicate m [])
  few : L.length ≤ k
  some_ : 0 < k → L ≠ []
  links : s.links.length = 256
theorem Filled.start (m : Nat) (hm : m ≤ 7) (xs : List Int) : Filled m xs 0 (St.new 256 (m + 1)) [] := by
  refine ⟨?_, Nat.le_refl _, fun h => absurd h (by decide), List.length_replicate⟩
  have := Inv.new 256 (m + 1) (by decide) (by omega)
  rw [List.replicate_succ] at this
  exact this
theorem Filled.next {m : Nat} {xs : List Int} {k : Nat} {s : St} {L : List Int} (h : Filled m xs k s L) (n : Int) (h0 : 0 ≤ n) (h1 : n ≤ 255) : ∃ L', Filled m xs (k + 1) (s.behind 0 n) L' := by
  have hn : s.hasNode n := ⟨h0, by rw [h.links]; omega⟩
  obtain ⟨L', ⟨hi, hne, hlen⟩ | ⟨hi, rfl, j, hj, hm⟩⟩ := h.inv.push n hn
  · exact ⟨L', hi, by have := h.few; omega, fun _ => hne, by rw [behind_len]; exact h.links⟩
  · refine ⟨L', hi, by have := h.few; omega, fun _ he => ?_, by rw [behind_len]; exact h.links⟩
    subst he
    cases j with
    | zero => simp at hm
    | succ j =>
      have : (List.replicate m ([] : List Int)).getD j [] = [] := by
        rw [List.getD_eq_getElem?_getD, List.getElem?_replicate]; split <;> rfl
      rw [List.getD_cons_succ, this] at hm
      cases hm

/-- A row of the call's own that is not empty: where it lies. -/
theorem owns_first {k : IntKind} {w : World} {base e : Nat} {B : Option Addr} {n c : Nat} {xs : List Int} (h : w.ownsRow base e 1 (.slice B n c) xs.length (xs.map (Value.int k))) (hx : 0 < xs.length) :
    ∃ g, base ≤ g ∧ B = some ⟨g, 0, none⟩ ∧ ∀ i, i < xs.length → w.cell? ⟨g, i, none⟩ = some (.int k (xs.getD i 0)) := by
  rcases h.2 with ⟨_, h0⟩ | ⟨g, cap, cur, he, hbg, _⟩
  · omega
  · obtain ⟨_, _, h0 | ⟨g', o', he', hc⟩⟩ := (Ints.of_owns h).cell
    · subst h0; simp at hx
    · injection he with he1 he2 he3
      rw [he'] at he1
      injection he1 with he1
      injection he1 with h1 h2
      subst h1 h2
      exact ⟨g', hbg, he', fun i hi => by have := hc i hi; rwa [Nat.zero_add] at this⟩
set_option maxRecDepth 100000 in
set_option maxHeartbeats 4000000 in
theorem ChainLeaves_calls (w : World) (v : Value) (xs : List Int) (k : Int) (hk0 : 0 ≤ k) (hk1 : k < 18446744073709551616) (hx : IntsW .u8 w v xs) (hr : ∀ x ∈ xs, 0 ≤ x ∧ x ≤ 255) :
    Calls Try.prog 5 #[v, .int .u64 k] w fun e w' => e = .returned (.bool true) ∧ Below w.heap.size w w' := by
  obtain ⟨A, c, rfl, hc, hxa⟩ := hx
  have HX := Lib.hid hxa
  clear hxa
  by_cases h60 : 60 < xs.length
  · have c60 : (60 : Int) < (xs.length : Int) := by omega
    clear h60
    go_enter Try.func5, Try.ntmps5
    go_wp2_with (first | (go_at_call 16; refine (alive_calls _).mono ?_; rintro e w' ⟨rfl, hbc⟩))
    go_ret
    exact ⟨rfl, hbc⟩
  have c60 : (xs.length : Int) ≤ 60 := by omega
  go_enter Try.func5, Try.ntmps5
  go_wp2_with fail
  refine (New_calls w 256 1 (by decide) (by decide) (by decide) (by decide)).mono ?_
  rintro e wa ⟨b, b1, b2, rfl, hs, hka, z0, z1, z2⟩
  have hs0 : At wa b b1 b2 (St.new 256 1) := hs
  clear hs
  go_wp2_with fail
  go_loopw [33] (fun i wr => ∃ (k : Nat) (s : St) (L : List Int), k ≤ xs.length ∧ i = .int .i64 (k : Int) ∧ At wr b b1 b2 s ∧ Filled 0 xs k s L ∧ Kept (Two b1 b2) wa wr) (fun i _ => xs.length - (intOf i).toNat)
  case atStart => exact ⟨0, _, [], Nat.zero_le _, rfl, hs0, Filled.start 0 (by decide) xs, Kept.refl _ _⟩
  case round =>
    obtain ⟨j, s, L, hj, rfl, hat, hfill, hkept⟩ := hrel
    by_cases hlt : j < xs.length
    · have hxa := HX.out
      rcases hxa with h0 | ⟨ad, rfl, hxa⟩
      · subst h0; simp at hlt
      have c0 := hxa j hlt
      have c1 : wr.cell? (ad.add j) = some (.int .u8 (xs.getD j 0)) := cell_kept' hkept (cell_kept' hka c0 (fun h => h)) (fun h => by have := World.block_lt_of_cell? w _ c0; unfold Two at h; omega)
      clear c0
      have z2 : (j : Int) < (xs.length : Int) := by omega
      have hxr := hr (xs.getD j 0) (getD_mem hlt)
      generalize xs.getD j 0 = u at c1 hxr
      obtain ⟨L', hfill'⟩ := hfill.next u hxr.1 hxr.2
      have HF := Lib.hid hfill'
      have h1 := Behind_calls wr b b1 b2 s 0 u hat hfill.inv.valid (by omega)
      have H1 := Lib.hid h1
      obtain ⟨u0, u1⟩ := hxr
      clear h1 hxa hfill'
      go_wp2_with fail
      refine H1.out.mono ?_
      rintro e wb ⟨rfl, hatb, hkb⟩
      go_wp2_with fail
      go_roundw
      case rel => exact ⟨j + 1, _, L', by omega, by go_num, hatb, HF.out, hkept.trans hkb⟩
      case measure => simp [intOf]; omega
    · obtain rfl : j = xs.length := by omega
      have hinv := hfill.inv
      have HN := Lib.hid hfill.some_
      have hfew := hfill.few
      have HI := Lib.hid hinv
      have T0 := told_at 0 1000 L hat (hinv.way (l := 0) (Nat.succ_pos _)) (by decide)
      rw [List.take_of_length_le (show L.length ≤ 1000 by omega)] at T0
      have HT := Lib.hid T0
      clear T0 hinv hfill
      go_wp2_with fail
      refine HT.out.mono ?_
      rintro e wB ⟨v, rfl, hrow, hbb⟩
      have K0 : Calm w wr := hka.step hkept (fun i hi h => by unfold Two at h; omega)
      obtain ⟨B, cB, rfl, hcB, hCB⟩ := Kd.R_reads (kd_of_owns hrow)
      by_cases hL : L.length = 0
      · have hx0 : xs.length = 0 := by
          rcases Nat.eq_zero_or_pos xs.length with h | h
          · exact h
          · exact absurd (List.eq_nil_of_length_eq_zero hL) (HN.out h)
        rw [hL] at hCB ⊢
        rw [hx0]
        go_wp2_with (first | (go_at_call 16; refine (alive_calls _).mono ?_; rintro e w' ⟨rfl, hbc⟩))
        go_ret
        exact ⟨rfl, ((K0.trans (Kept.of_below hbb _)).trans (Kept.of_below hbc _)).below (fun _ _ h => h)⟩
      · have hL1 : (0 : Int) < (L.length : Int) := by omega
        have hL2 : (L.length : Int) ≤ 60 := by omega
        obtain ⟨gB, hgB, hB, hcells⟩ := owns_first hrow (by omega)
        subst hB
        have hIB := Ints.of_owns hrow
        obtain ⟨i, hi, hrem⟩ : ∃ i : Nat, i < L.length ∧ k % (L.length : Int) = (i : Int) :=
          ⟨(k % (L.length : Int)).toNat, by have := Int.emod_lt_of_pos k hL1; omega, by have := Int.emod_nonneg k (show (L.length : Int) ≠ 0 by omega); omega⟩
        have hi2 : (i : Int) < (L.length : Int) := by omega
        have hw : wrap64 (k % (L.length : Int)) = (i : Int) := by rw [hrem]; unfold wrap64; omega
        clear hrem
        have c1 := hcells i hi
        have hinv : Inv s [L] := HI.out
        have hatb : At wB b b1 b2 s := hat.calm (Kept.of_below hbb _)
        have hsplit := split_at hi
        have hmem : L.getD i 0 ∈ L := getD_mem hi
        have hst : s.stands (L.getD i 0) := hinv.stands_mem (l := 0) (Nat.succ_pos _) hmem
        have hx31 := hinv.node_lt (l := 0) (Nat.succ_pos _) _ hmem
        have R1 := Remove_calls wB b b1 b2 s (L.getD i 0) hatb hinv.valid hx31 (hinv.many_pos _)
        rw [decide_eq_true hst] at R1
        have inv1 : Inv (s.remove (L.getD i 0)) [L.take i ++ L.drop (i + 1)] := hinv.remove (l := 0) (Nat.succ_pos _) hsplit
        have hnd := hinv.nodup 0 (Nat.succ_pos _)
        have hnot : L.getD i 0 ∉ L.take i ++ L.drop (i + 1) := by
          intro hm
          have hnd' : L.Nodup := hnd
          rw [hsplit] at hnd'
          rw [List.nodup_append] at hnd'
          rcases List.mem_append.1 hm with h | h
          · exact hnd'.2.2 _ h _ List.mem_cons_self rfl
          · exact (List.nodup_cons.1 hnd'.2.1).1 h
        have hns : ¬ (s.remove (L.getD i 0)).stands (L.getD i 0) := by
          intro h
          obtain ⟨j, hj, hm⟩ := (inv1.stands_iff _).1 h
          obtain rfl : j = 0 := by simp at hj; omega
          exact hnot hm
        have H1 := Lib.hid R1
        have HS := Lib.hid hsplit
        have HN2 := Lib.hid hns
        have HN3 := Lib.hid hnot
        have hb1 : b1 < wr.heap.size := hat.links.lt
        have hb2 : b2 < wr.heap.size := hat.lists.lt
        obtain ⟨hx0, hnlt⟩ := hinv.node 0 (Nat.succ_pos _) _ hmem
        have HH := Lib.hid hcells
        have LP : (L.take i).length = i := by rw [List.length_take]; omega
        have LR : (L.drop (i + 1)).length = L.length - (i + 1) := List.length_drop
        clear R1 hsplit hns hnot hcells hmem hst hnd
        have HCB := Lib.hid hCB
        clear hCB hrow
        generalize hxe : L.getD i 0 = x at *
        have Hxe := Lib.hid hxe
        clear hxe
        go_wp2_with fail
        refine H1.out.mono ?_
        rintro e wC ⟨rfl, hatc, hkc⟩
        have R2 := Remove_calls wC b b1 b2 (s.remove x) x hatc inv1.valid hx31 (inv1.many_pos _)
        rw [decide_eq_false HN2.out, show (s.remove x).remove x = s.remove x from if_neg HN2.out] at R2
        have H2 := Lib.hid R2
        clear R2
        have c2 : wC.cell? ⟨gB, i, none⟩ = some (.int .i32 x) := cell_kept hkc c1 (fun h => by unfold Two at h; omega)
        go_wp2_with fail
        refine H2.out.mono ?_
        rintro e wD ⟨rfl, hatd, hkd⟩
        have T1 := told_at 0 1000 (L.take i ++ L.drop (i + 1)) hatd (inv1.way (l := 0) (Nat.succ_pos _)) (by decide)
        rw [List.take_of_length_le (show (L.take i ++ L.drop (i + 1)).length ≤ 1000 by rw [List.length_append]; omega)] at T1
        have HT1 := Lib.hid T1
        clear T1
        go_wp2_with fail
        refine HT1.out.mono ?_
        rintro e wE ⟨v, rfl, hrow1, hbe⟩
        obtain ⟨C, cC, rfl, hcC, hCC⟩ := Kd.R_reads (kd_of_owns hrow1)
        have hlen : (L.take i ++ L.drop (i + 1)).length = i + (L.length - (i + 1)) := by rw [List.length_append, LP, LR]
        have hIC := Ints.of_owns hrow1
        have hatE : At wE b b1 b2 (s.remove x) := hatd.calm (Kept.of_below hbe _)
        have hKE : Kept (Two b1 b2) wB wE := (hkc.trans hkd).trans (Kept.of_below hbe _)
        rw [hlen] at hIC
        have hnR : i + (L.length - (i + 1)) ≤ 60 := by omega
        generalize i + (L.length - (i + 1)) = nR at hIC hlen hnR ⊢
        have HIC := Lib.hid hIC
        have hS0 : Since wE wE := Since.refl wE
        have hBnot : ∀ g, Value.ownBlock (.slice (some ⟨gB, 0, none⟩) L.length cB) = some g → ¬ Two b1 b2 g := by
          intro g hg h
          simp [Value.ownBlock] at hg
          unfold Two at h
          omega
        have HCE := Lib.hid (kd_kept HCB.out hKE (fun g hg h => hBnot g (by simpa [Value.ownBlock] using hg) h))
        have HIB := Lib.hid hIB
        have HBnot := Lib.hid hBnot
        have HV1 := Lib.hid inv1
        have HVV := Lib.hid hinv
        clear hIC hCC hIB hBnot inv1 hinv
        go_upto_region 18 with fail
        go_cut [99] (fun r wz => r = .bool false ∧ Since wE wz)
        case first =>
          have q1 : (0 : Int) ≤ (i : Int) := by omega
          have q2 : (i : Int) ≤ (cB : Int) := by omega
          have q3 : IntKind.i64.wrap ((i : Int) + 1) = (i : Int) + 1 := by rw [IntKind.wrap_i64]; omega
          have q4 : (0 : Int) ≤ (i : Int) + 1 := by omega
          have q5 : (i : Int) + 1 ≤ (L.length : Int) := by omega
          have q6 : (L.length : Int) ≤ (cB : Int) := by omega
          have q7 : ((i : Int) + 1).toNat = i + 1 := by omega
          have q9 : (i : Int) + 1 ≤ (cB : Int) := by omega
          have HTK := Lib.hid (Kd.C_take HCE.out (show i ≤ L.length by omega))
          have hdr := Kd.C_drop (m := i + 1) (c := cB) HCE.out (by omega) hcB
          by_cases hcm : i + 1 = cB
          · rw [if_pos hcm.symm] at hdr
            have HDR := Lib.hid hdr
            clear hdr
            go_region_held3 (fun w' => Since wE w') (first | with_reducible assumption | (with_reducible refine Since.drew ?_; with_reducible assumption) | (with_reducible refine Since.drewN ?_ _; with_reducible assumption) | (with_reducible refine Since.next ?_ hJ; with_reducible assumption))
              (first
                | (go_at_call 22; refine (Ref04.Joined_calls' _ _ _ _ _ _ _ (L.take i) (L.drop (i + 1)) ?_ ?_ ?_ ?_ ?_ ?_ ?_).mono ?_; exact LP; (first | with_reducible exact LR | (rw [LR]; omega)); exact Since.kd (by with_reducible assumption) HTK.out; omega; exact Since.kd (by with_reducible assumption) HDR.out; omega; omega; rintro e w' ⟨vJ, rfl, hrowJ, hJ⟩)
                | (go_at_call 21; refine (Ref04.Nodes_calls _ _ _ (L.take i ++ L.drop (i + 1)) (L.take i ++ L.drop (i + 1)) (Since.ints (by with_reducible assumption) HIC.out) (by with_reducible first | exact Ints.of_owns hrowJ | exact Ints.calm (Ints.of_owns hrowJ) (Kept.drew (Kept.refl _ _)) | exact Ints.calm (Ints.of_owns hrowJ) (Kept.drewN (Kept.refl _ _) _)) (by rw [hlen]; omega) (by rw [hlen]; omega)).mono ?_; rw [decide_eq_true rfl]; rintro e w' ⟨rfl, nN, rfl⟩))
            go_wp2_with fail
            go_meet
            refine ⟨rfl, ?_⟩
            with_reducible assumption
          · rw [if_neg (fun h => hcm h.symm)] at hdr
            have HDR : Hid ((Kd.int .i32).C wE (some ⟨gB, i + 1, none⟩) (L.drop (i + 1)).length (L.drop (i + 1))) := Lib.hid (by
              have e : Option.map (fun x : Addr => x.add ((i + 1) * (Kd.int .i32).sz)) (some (⟨gB, 0, none⟩ : Addr)) = some ⟨gB, i + 1, none⟩ := by
                show some (Addr.add ⟨gB, 0, none⟩ ((i + 1) * 1)) = _
                rw [Addr.add_lit]
                simp
              rw [← e]
              exact hdr)
            clear hdr
            have q10 : ¬ cB = i + 1 := fun h => hcm h.symm
            go_region_held3 (fun w' => Since wE w') (first | with_reducible assumption | (with_reducible refine Since.drew ?_; with_reducible assumption) | (with_reducible refine Since.drewN ?_ _; with_reducible assumption) | (with_reducible refine Since.next ?_ hJ; with_reducible assumption))
              (first
                | (go_at_call 22; refine (Ref04.Joined_calls' _ _ _ _ _ _ _ (L.take i) (L.drop (i + 1)) ?_ ?_ ?_ ?_ ?_ ?_ ?_).mono ?_; exact LP; (first | with_reducible exact LR | (rw [LR]; omega)); exact Since.kd (by with_reducible assumption) HTK.out; omega; exact Since.kd (by with_reducible assumption) HDR.out; omega; omega; rintro e w' ⟨vJ, rfl, hrowJ, hJ⟩)
                | (go_at_call 21; refine (Ref04.Nodes_calls _ _ _ (L.take i ++ L.drop (i + 1)) (L.take i ++ L.drop (i + 1)) (Since.ints (by with_reducible assumption) HIC.out) (by with_reducible first | exact Ints.of_owns hrowJ | exact Ints.calm (Ints.of_owns hrowJ) (Kept.drew (Kept.refl _ _)) | exact Ints.calm (Ints.of_owns hrowJ) (Kept.drewN (Kept.refl _ _) _)) (by rw [hlen]; omega) (by rw [hlen]; omega)).mono ?_; rw [decide_eq_true rfl]; rintro e w' ⟨rfl, nN, rfl⟩))
            go_wp2_with fail
            go_meet
            refine ⟨rfl, ?_⟩
            with_reducible assumption
        case rest =>
          obtain ⟨rfl, hsz⟩ := hcut
          have hKz : Kept (Two b1 b2) wB wc := hKE.trans (Kept.of_below hsz.out _)
          have hatz : At wc b b1 b2 (s.remove x) := hatE.calm (Kept.of_below hsz.out _)
          have inv1 := HV1.out
          have hinv := HVV.out
          have cz : ∀ j, j < L.length → wc.cell? ⟨gB, j, none⟩ = some (.int .i32 (L.getD j 0)) := fun j hj => cell_kept hKz (HH.out j hj) (fun h => by unfold Two at h; omega)
          have hnode1 : (s.remove x).hasNode x := ⟨hx0, by rw [remove_len]; exact hnlt⟩
          have hfree : ∀ j : Nat, j < [L.take i ++ L.drop (i + 1)].length → x ∉ [L.take i ++ L.drop (i + 1)].getD j [] := by
            intro j hj hm
            obtain rfl : j = 0 := by simp at hj; omega
            exact HN3.out hm
          have CZ := Lib.hid cz
          have HFR := Lib.hid hfree
          have HN1 := Lib.hid hnode1
          clear cz hfree hnode1 inv1 hinv
          go_upto_if 101 with fail
          go_cut [14] (fun f wz => f = .int .i64 0 ∧ ∃ s2, At wz b b1 b2 s2 ∧ Inv s2 [L] ∧ Kept (Two b1 b2) wB wz)
          case first =>
            have inv1 := HV1.out
            have hinv := HVV.out
            have cz := CZ.out
            have hfree := HFR.out
            have hnode1 := HN1.out
            by_cases hi0 : i = 0
            · have c3 := cz 0 (by omega)
              rw [show L.getD 0 0 = x from by have := Hxe.out; rw [hi0] at this; exact this] at c3
              have hw1 : (s.remove x).wrong ((0 : Nat) : Int) x = 0 := by
                rw [inv1.wrong_eq, if_pos ⟨inv1.hasList (l := 0) (Nat.succ_pos _), hnode1⟩, if_neg]
                rintro ⟨j, hj, hm⟩
                exact hfree j hj hm
              have inv2 := inv1.ahead 0 x (Nat.succ_pos _)
              rw [if_pos hw1] at inv2
              have inv3 : Inv ((s.remove x).ahead 0 x) [x :: (L.take i ++ L.drop (i + 1))] := inv2
              rw [show x :: (L.take i ++ L.drop (i + 1)) = L by have := HS.out; rw [hi0] at this ⊢; exact this.symm] at inv3
              have R3 := Ahead_calls wc b b1 b2 (s.remove x) 0 x hatz HV1.out.valid hx31
              rw [show (s.remove x).wrong 0 x = 0 from hw1] at R3
              have H3 := Lib.hid R3
              have H4 := Lib.hid inv3
              have hd1 : decide ((i : Int) = 0) = true := by simpa using hi0
              have hd2 : ((i : Int) == 0) = true := by simpa using hi0
              clear R3 inv2 hw1 inv3 inv1 hinv cz hfree hnode1 hi0
              go_wp2_with fail
              refine H3.out.mono ?_
              rintro e wf ⟨rfl, hatf, hkf⟩
              go_wp2_with fail
              go_meet
              exact ⟨rfl, _, hatf, H4.out, hKz.trans hkf⟩
            · obtain ⟨m, hm⟩ : ∃ m, i = m + 1 := ⟨i - 1, by omega⟩
              have hmm : m < L.length := by omega
              have c3 := cz i hi
              have c4 := cz m hmm
              rw [Hxe.out] at c3
              have hy := hinv.node_lt (l := 0) (Nat.succ_pos _) _ (getD_mem hmm)
              have hAB : L.take i ++ L.drop (i + 1) = L.take m ++ L.getD m 0 :: L.drop (i + 1) := by
                rw [hm, ← take_snoc' hmm, List.append_assoc]; rfl
              obtain ⟨hw1, inv2⟩ := inv1.insert (l := 0) (Nat.succ_pos _) hAB hnode1 hfree
              have inv3 : Inv ((s.remove x).insert x (L.getD m 0)) [L.take m ++ L.getD m 0 :: x :: L.drop (i + 1)] := inv2
              rw [show L.take m ++ L.getD m 0 :: x :: L.drop (i + 1) = L by
                have := HS.out
                rw [hm, ← take_snoc' hmm, List.append_assoc] at this
                rw [hm]
                exact this.symm] at inv3
              have R3 := Insert_calls wc.drew b b1 b2 (s.remove x) x (L.getD m 0) (hatz.of_heap rfl) HV1.out.valid hx31 hy
              rw [hw1] at R3
              have H3 := Lib.hid R3
              have H4 := Lib.hid inv3
              have hd1 : decide ((i : Int) = 0) = false := by simpa using hi0
              have hd2 : ((i : Int) == 0) = false := by simpa using hi0
              have hw2 : IntKind.i64.wrap ((i : Int) - 1) = (m : Int) := by rw [IntKind.wrap_i64]; omega
              have hm2 : (m : Int) < (L.length : Int) := by omega
              clear R3 inv2 hAB hw1 inv3 inv1 hinv cz hfree hnode1 hi0 hm
              generalize L.getD m 0 = y at c4 H3 H4
              go_upto_region 23 with fail
              go_still_tail 10, (by kernel_rfl)
              change wpList _ _ _ _ _ wc.drew
              go_wp2_with fail
              refine H3.out.mono ?_
              rintro e wf ⟨rfl, hatf, hkf⟩
              go_wp2_with fail
              go_meet
              exact ⟨rfl, _, hatf, H4.out, hKz.trans ⟨hkf.os, hkf.tape, hkf.output, hkf.size, hkf.block⟩⟩
          case rest =>
            obtain ⟨rfl, s2, hat2, inv2, hk2⟩ := hcut
            have T2 := told_at 0 1000 L hat2 (inv2.way (l := 0) (Nat.succ_pos _)) (by decide)
            rw [List.take_of_length_le (show L.length ≤ 1000 by omega)] at T2
            have HT2 := Lib.hid T2
            clear T2 inv2
            go_wp2_with fail
            refine HT2.out.mono ?_
            rintro e wF ⟨v3, rfl, hrow3, hbF⟩
            have I3 := Ints.of_owns hrow3
            have I4 : Ints .i32 wF (.slice (some ⟨gB, 0, none⟩) L.length cB) L := ((HIB.out).kept hk2 HBnot.out).below hbF
            have HI3 := Lib.hid I3
            have HI4 := Lib.hid I4
            clear I3 I4
            go_wp2_with (first
              | (go_at_call 21; refine (Ref04.Nodes_calls _ _ _ L L HI3.out HI4.out (by omega) (by omega)).mono ?_; rw [decide_eq_true rfl]; rintro e w' ⟨rfl, nN, rfl⟩)
              | (go_at_call 16; refine (alive_calls _).mono ?_; rintro e w' ⟨rfl, hbc⟩))
            go_ret
            refine ⟨rfl, ?_⟩
            have K1 : Calm w wB := K0.trans (Kept.of_below hbb _)
            have K2 : Calm w wc := K1.step hk2 (fun i hi h => by unfold Two at h; omega)
            have K3 : Calm w (wF.drewN nN) := (K2.trans (Kept.of_below hbF _)).drewN nN
            exact (K3.trans (Kept.of_below hbc _)).below (fun _ _ h => h)
theorem ChainLeaves_row (w : World) (v : Value) (xs : List Int) (k : Int) (hx : IntsW .u8 w v xs) (hr : ∀ x ∈ xs, (Lit.int .u8 x).wf = true) (hk : (Lit.int .u64 k).wf = true) :
    Calls Try.prog 5 #[v, .int .u64 k] w fun e w' => e = .returned (.bool true) ∧ Below w.heap.size w w' :=
  ChainLeaves_calls w v xs k (u64_of_wf hk).1 (by have := (u64_of_wf hk).2; omega) hx (fun x h => u8_of_wf (hr x h))
end Chain
end Go.Proofs.Ythjgjfelbagljaa
