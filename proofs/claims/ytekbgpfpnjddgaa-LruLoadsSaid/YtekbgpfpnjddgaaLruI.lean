/- Walks over lru: Resize. -/
import Derived.Test.YtekbgpfpnjddgaaLruH
namespace Go.Proofs.Ytekbgpfpnjddgaa
open Go.RowKit
namespace Lru
section
variable {w : World} {e : Nat} {F : Nat → Prop} {c c' : Conf} {n : Cnt} {ps : List (Int × Int)} {ks : List Int} {m : Int}
/-- An engine's config is laid anew. -/
theorem Is.conf (h : Is w e F c n ps m) (c' : Conf) : ((∀ o, w.frozen? ⟨e, o, none⟩ = false) ∧ w.cell? ⟨e, 0, none⟩ = some (.int .i64 c.pol) ∧ w.cell? ⟨e, 1, none⟩ = some (.int .i64 c.cap) ∧ w.cell? ⟨e, 2, none⟩ = some (.int .i64 c.quota) ∧ w.cell? ⟨e, 3, none⟩ = some (.int .i64 c.ghosts)) ∧ Is ((((w.setCell ⟨e, 0, none⟩ (.int .i64 c'.pol)).setCell ⟨e, 1, none⟩ (.int .i64 c'.cap)).setCell ⟨e, 2, none⟩ (.int .i64 c'.quota)).setCell ⟨e, 3, none⟩ (.int .i64 c'.ghosts)) e F c' n ps m ∧
    Kept (fun k => k = e) w ((((w.setCell ⟨e, 0, none⟩ (.int .i64 c'.pol)).setCell ⟨e, 1, none⟩ (.int .i64 c'.cap)).setCell ⟨e, 2, none⟩ (.int .i64 c'.quota)).setCell ⟨e, 3, none⟩ (.int .i64 c'.ghosts)) := by
  obtain ⟨pb, ob, ib, Fp, Fo, Fi, τ, hb, hp, ha, h0, h1, h2, h3⟩ := h
  have hk : Kept (fun k => k = e) w ((((w.setCell ⟨e, 0, none⟩ (.int .i64 c'.pol)).setCell ⟨e, 1, none⟩ (.int .i64 c'.cap)).setCell ⟨e, 2, none⟩ (.int .i64 c'.quota)).setCell ⟨e, 3, none⟩ (.int .i64 c'.ghosts)) :=
    ((((Kept.refl (fun k => k = e) w).setCell (p := ⟨e, 0, none⟩) (fun _ => rfl) _).setCell (p := ⟨e, 1, none⟩) (fun _ => rfl) _).setCell (p := ⟨e, 2, none⟩) (fun _ => rfl) _).setCell (p := ⟨e, 3, none⟩) (fun _ => rfl) _
  refine ⟨?_, ⟨pb, ob, ib, Fp, Fo, Fi, τ, (((hb.set 0 _).set 1 _).set 2 _).set 3 _, hp.kept hk ?_ ?_ ?_, ha.size hk.size, h0, h1, h2, h3⟩, hk⟩
  · exact ⟨fun o => hb.frozen o, (hb.cell 0).trans rfl, (hb.cell 1).trans rfl, (hb.cell 2).trans rfl, (hb.cell 3).trans rfl⟩
  · exact fun k q z => ha.ep (by rw [← z]; exact q)
  · exact fun k q z => ha.eo (by rw [← z]; exact q)
  · exact fun k q z => ha.ei (by rw [← z]; exact q)
theorem Spill.from {w0 w1 wr : World} {most k : Nat} {v : Value} (h : Spill w1 wr e F c n ps m most k v) (hk : Kept F w0 w1) : Spill w0 wr e F c n ps m most k v := by
  have hs := hk.size
  obtain ⟨F', j, h1, h2, h3, h4, h5⟩ := h.is
  exact ⟨h.hk, ownsRow_weaken h.row hs, ⟨F', j, h1, fun q z => (h2 q z).imp id (fun y => by omega), h3, h4, h5⟩, hk.trans h.kept⟩
set_option maxRecDepth 100000 in
theorem Resize_bad (hc : c'.fits = false) (e : Nat) :
    Calls Try.prog 21 #[.pointer (some ⟨e, 0, none⟩), c'.agg] w fun e' w' => e' = .returned (.tuple #[.slice none 0 0, .int .i64 2]) ∧ Calm w w' := by
  have HF := Lib.hid (fun w => fits_calls c' w)
  rw [hc] at HF
  clear hc
  unfold Conf.agg at HF ⊢
  go_enter Try.func21, Try.ntmps21
  go_upto_region 3 with fail
  have HB := Lib.hid (Blk.new w #[.int .i64 c'.pol, .int .i64 c'.cap, .int .i64 c'.quota, .int .i64 c'.ghosts] 25)
  have C1 : Hid (Calm w _) := Lib.hid (Kept.alloc (Kept.refl _ w) (.cells #[.int .i64 c'.pol, .int .i64 c'.cap, .int .i64 c'.quota, .int .i64 c'.ghosts] 25))
  generalize w.alloc (.cells #[.int .i64 c'.pol, .int .i64 c'.cap, .int .i64 c'.quota, .int .i64 c'.ghosts] 25) = w1 at HB C1 ⊢
  generalize w.heap.size = B at HB
  have b0 := HB.out.cell 0
  have b1 := HB.out.cell 1
  have b2 := HB.out.cell 2
  have b3 := HB.out.cell 3
  simp at b0 b1 b2 b3
  go_wp2_with (go_at_call 28; refine (HF.out _).mono ?_; rintro e w2 ⟨rfl, hc2⟩; have C2 := Lib.hid (C1.out.trans hc2); clear hc2)
  go_ret2
  exact ⟨rfl, C2.out⟩
set_option maxRecDepth 100000 in
set_option maxHeartbeats 1000000 in
theorem Resize_good (h : Is w e F c n ps m) (hc : c'.fits = true) (most : Nat) (hm : c'.cap = (most : Int)) :
    Calls Try.prog 21 #[.pointer (some ⟨e, 0, none⟩), c'.agg] w fun e' w' => ∃ v, e' = .returned (.tuple #[v, .int .i64 0]) ∧ Spill w w' e F c' n ps m most (ps.length - most) v := by
  have HF := Lib.hid (fun w => fits_calls c' w)
  rw [hc] at HF
  have hm256 : most ≤ 256 := by
    unfold Conf.fits at hc
    rw [decide_eq_true_eq] at hc
    omega
  have HM := Lib.hid hm
  have H := Lib.hid h
  have hlt := h.lt
  clear hc h hm
  unfold Conf.agg at HF ⊢
  go_enter Try.func21, Try.ntmps21
  go_upto_region 3 with fail
  have HB := Lib.hid (Blk.new w #[.int .i64 c'.pol, .int .i64 c'.cap, .int .i64 c'.quota, .int .i64 c'.ghosts] 25)
  have C1 : Hid (Calm w _) := Lib.hid (Kept.alloc (Kept.refl _ w) (.cells #[.int .i64 c'.pol, .int .i64 c'.cap, .int .i64 c'.quota, .int .i64 c'.ghosts] 25))
  generalize w.alloc (.cells #[.int .i64 c'.pol, .int .i64 c'.cap, .int .i64 c'.quota, .int .i64 c'.ghosts] 25) = w1 at HB C1 ⊢
  generalize hBq : w.heap.size = B at HB hlt
  have b0 := HB.out.cell 0
  have b1 := HB.out.cell 1
  have b2 := HB.out.cell 2
  have b3 := HB.out.cell 3
  simp at b0 b1 b2 b3
  go_upto_region 5 with (go_at_call 28; refine (HF.out _).mono ?_; rintro e2 w2 ⟨rfl, hc2⟩; have C2 := Lib.hid (C1.out.trans hc2); have B2 := Lib.hid (HB.out.calm hc2); clear hc2)
  clear b0 b1 b2 b3 HB C1
  have b0 := B2.out.cell 0
  have b1 := B2.out.cell 1
  have b2 := B2.out.cell 2
  have b3 := B2.out.cell 3
  simp at b0 b1 b2 b3
  obtain ⟨⟨hz, f0, f1, f2, f3⟩, hI3, hk3⟩ := (H.out.calm C2.out).conf c'
  have I3 := Lib.hid hI3
  have K3 := Lib.hid hk3
  clear hI3 hk3
  go_upto_region 6 with fail
  clear f0 f1 f2 f3 hz b0 b1 b2 b3
  generalize (((w2.setCell ⟨e, 0, none⟩ (.int .i64 c'.pol)).setCell ⟨e, 1, none⟩ (.int .i64 c'.cap)).setCell ⟨e, 2, none⟩ (.int .i64 c'.quota)).setCell ⟨e, 3, none⟩ (.int .i64 c'.ghosts) = w3 at I3 K3 ⊢
  have b1 := (B2.out.kept K3.out (fun h => by omega)).cell 1
  simp at b1
  rw [HM.out] at b1
  have KW := Lib.hid ((C2.out.mono (G := F) (fun _ _ h => h.elim)).trans (K3.out.mono (fun k _ h => by rw [h]; exact H.out.self)))
  go_wp2_with (go_at_call 48; refine (spill_calls I3.out most (by omega)).mono ?_; rintro e' w4 ⟨v, rfl, hs⟩; have SP := Lib.hid (hs.from KW.out); clear hs)
  go_ret2
  exact ⟨_, rfl, SP.out⟩
/-- By its keys alone. -/
theorem Resize_stands (h : Stands w e F c n ks m) (hc : c'.fits = true) (most : Nat) (hm : c'.cap = (most : Int)) :
    Calls Try.prog 21 #[.pointer (some ⟨e, 0, none⟩), c'.agg] w fun e' w' => ∃ v, e' = .returned (.tuple #[v, .int .i64 0]) ∧ w'.ownsRow w.heap.size 31 1 v (ks.length - most) (((ks.drop most).reverse).map (Value.int .u64)) ∧ Kept F w w' ∧
      ∃ (F' : Nat → Prop) (j : Nat), j ≤ 4 * (ks.length - most) ∧ (∀ q, F' q → F q ∨ w.heap.size ≤ q) ∧ (∀ q, F' q → q < w'.heap.size) ∧ (∀ g, v.ownBlock = some g → ¬ F' g) ∧ Stands w' e F' c' (evicts (ks.length - most) n) (ks.take most) (IntKind.u64.wrap (m + j)) := by
  obtain ⟨ps, h1, rfl⟩ := h
  refine (Resize_good h1 hc most hm).mono ?_
  rintro e' w' ⟨v, rfl, hs⟩
  obtain ⟨F', j, z1, z2, z3, z4, z5⟩ := hs.is
  have hr := hs.row
  rw [(drop_min ps most).1] at hr
  rw [(drop_min ps most).2] at z5
  refine ⟨v, rfl, ?_, hs.kept, F', j, ?_, z2, z3, z4, ?_⟩
  · rw [List.length_map, ← List.map_drop, ← List.map_reverse]
    exact hr
  · rw [List.length_map]; exact z1
  · rw [List.length_map, ← List.map_take]
    exact ⟨_, z5, rfl⟩
end
end Lru
end Go.Proofs.Ytekbgpfpnjddgaa
