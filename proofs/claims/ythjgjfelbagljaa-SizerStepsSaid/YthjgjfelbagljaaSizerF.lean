/- The walk of the law SizerSteps. -/
import Derived.Test.YthjgjfelbagljaaSizerE
import Derived.Test.YthjgjfelbagljaaStillRound
import Derived.StillTailTactics
namespace Go.Proofs.Ythjgjfelbagljaa
open Go.RowKit Go.Shelf Go.Proofs.YthjgjfelbagljaaW.PrintWords Go.Proofs.YthjgjfelbagljaaW.PrintLast Go.Proofs.YthjgjfelbagljaaW.PrintMore Go.Proofs.Ythjgjfelbagljaa.PSizerSteps
attribute [local go_sem] Oper.semAt_some
namespace Siz

theorem results_flag {P : Program} {fn : Func} {p : Tmp} {ty : TypeId} (h : fn.results = #[.cell p ty]) (tmps : Array Value) (w : World) (g : Nat) (v : Value)
    (hp : tmps.getD p undef = .pointer (some ⟨g, 0, none⟩)) (hc : w.cell? ⟨g, 0, none⟩ = some v) (ha : (isAgg ty).run P w = .ok false w) :
    (results fn tmps).run P w = .ok v w := by
  have hp' : tmps[p]?.getD undef = .pointer (some ⟨g, 0, none⟩) := by simpa using hp
  simp [results, h, hp', asAddr, go_sem, ha, hc]
theorem seq2_eq_nil (f : Fn) (a cs : Array Value) (W : World) : Sem.run Try.prog (binOp BinOp.eql 30 (.func f a cs) .nilFunc) W = .ok (.bool false) W := by kernel_rfl
/-- A row of configs at address A, in a block below b. -/
def RowAt (w : World) (b : Nat) (A : Option Addr) (L : List Cfg) : Prop := L = [] ∨ ∃ g, A = some ⟨g, 0, none⟩ ∧ g < b ∧ ∀ i, i < L.length →
  w.cell? ⟨g, i * 4, none⟩ = some (.int .i64 (L.getD i z24).f0) ∧ w.cell? ⟨g, i * 4 + 1, none⟩ = some (.int .i64 (L.getD i z24).f1) ∧ w.cell? ⟨g, i * 4 + 2, none⟩ = some (.int .i64 (L.getD i z24).f2) ∧ w.cell? ⟨g, i * 4 + 3, none⟩ = some (.int .i64 (L.getD i z24).f3)
theorem RowAt.kept {F : Nat → Prop} {w w' : World} {b : Nat} {A : Option Addr} {L : List Cfg} (h : RowAt w b A L) (hk : Go.Proofs.Ythjgjfelbagljaa.Kept F w w') (hb : b ≤ w.heap.size) (hF : ∀ g, g < b → ¬ F g) : RowAt w' b A L := by
  refine h.imp id ?_
  rintro ⟨g, rfl, hg, hc⟩
  refine ⟨g, rfl, hg, fun i hi => ?_⟩
  obtain ⟨h0, h1, h2, h3⟩ := hc i hi
  have e := fun o => World.cell?_of_block (w := w) (w' := w') (a := ⟨g, o, none⟩) (hk.block g (by omega) (hF g hg))
  exact ⟨(e _).trans h0, (e _).trans h1, (e _).trans h2, (e _).trans h3⟩
theorem RowAt.calm {w w' : World} {b : Nat} {A : Option Addr} {L : List Cfg} (h : RowAt w b A L) (hk : Calm w w') (hb : b ≤ w.heap.size) : RowAt w' b A L := h.kept hk hb (fun _ _ h => h)
theorem way_at {c t : Cfg} {n i : Int} {pre : List (Int × Cfg)} {x : Cfg} (h : pre ++ [(i, x)] <+: way c t n) : pre.length < (waySteps c t n).length ∧ i = (pre.length : Int) + 1 ∧ x = (waySteps c t n).getD pre.length z24 := by
  obtain ⟨r, hr⟩ := h
  have hget : (way c t n)[pre.length]? = some (i, x) := by
    rw [← hr, List.append_assoc, List.getElem?_append_right (Nat.le_refl _), Nat.sub_self]
    rfl
  have hlen : pre.length < (way c t n).length := (List.getElem?_eq_some_iff.1 hget).1
  have hw : wrong c t n = 0 := by
    by_cases hw : wrong c t n = 0
    · exact hw
    · rw [way_wrong hw] at hlen
      exact absurd hlen (by simp)
  refine ⟨by unfold waySteps; rw [List.length_map]; exact hlen, ?_, ?_⟩
  · have h2 := hget
    rw [way_right hw, List.getElem?_map] at h2
    rw [way_right hw] at hlen
    rw [List.getElem?_range (by simpa using hlen)] at h2
    simp at h2
    exact h2.1.symm
  · unfold waySteps
    rw [List.getD_eq_getElem?_getD, List.getElem?_map, hget]
    rfl
theorem cellK {w w' : World} (hk : Calm w w') {b o : Nat} {u : Value} (h : w.cell? ⟨b, o, none⟩ = some u) : w'.cell? ⟨b, o, none⟩ = some u :=
  (World.cell?_of_block (w := w) (w' := w') (a := ⟨b, o, none⟩) (hk.block b (World.block_lt_of_cell? w _ h) id)).trans h
theorem min2_min (k k' : IntKind) (x y : Int) : Builtin.min2 (.int k x) (.int k' y) = pure (.int k (min x y)) := by
  rw [min2_int]
  congr 2
  split <;> omega
/-- The law's own variables. -/
structure Env (c t : Cfg) (m q : Int) (v : Value) (pf p9 : Nat) (W : World) : Prop where
  f1 : Blk W pf (cells c)
  f2 : Blk W (pf + 1) (cells t)
  f3 : Blk W (pf + 1 + 1) #[.int .u8 m]
  f4 : Blk W (pf + 1 + 1 + 1) #[.bool false]
  g9 : Blk W p9 #[v]
  g12 : Blk W (p9 + 1 + 3) #[.int .i64 q]
theorem Env.calm {c t : Cfg} {m q : Int} {v : Value} {pf p9 : Nat} {W W' : World} (h : Env c t m q v pf p9 W) (hk : Calm W W') : Env c t m q v pf p9 W' :=
  ⟨h.f1.calm hk, h.f2.calm hk, h.f3.calm hk, h.f4.calm hk, h.g9.calm hk, h.g12.calm hk⟩
theorem bool_flat (W : World) : (isAgg 4).run Try.prog W = .ok false W := by kernel_rfl

attribute [local go_sem] min2_min min_two
set_option maxRecDepth 100000 in
set_option maxHeartbeats 4000000 in
theorem SizerSteps_calls (w : World) (c t : Cfg) (n m : Int) (hn : n ≤ 9223372036854775807) (hm0 : 0 ≤ m) (hm1 : m ≤ 255) :
    Calls Try.prog 3 #[.agg (cells c), .agg (cells t), .int .i64 n, .int .u8 m] w fun e w' => e = .returned (.bool true) ∧ Below w.heap.size w w' := by
  refine (callsIn_wide (n := 6)).1 ?_
  have HM := Lib.hid (fun W => hutchref33_May.calls c.f0 c.f1 c.f2 c.f3 t.f0 t.f1 t.f2 t.f3 _ W (may33_f c t))
  have HS := Lib.hid (fun W => Steps_calls W c t n hn)
  have hq0 := seq2_eq_nil
  refine callsIn_of_wp_marks Try.func3 rfl trivial ?_ rfl
  simp only [Try.ntmps3, List.size_toArray, List.length_cons, List.length_nil, Nat.reduceAdd, Nat.reduceSub, Array.replicate_succ, Array.replicate_zero, List.push_toArray, List.append_toArray, List.nil_append, List.cons_append]
  unfold cells
  gi_upto_region 1 with fail
  have F1 : Blk ((((w.alloc (.cells #[.int .i64 c.f0, .int .i64 c.f1, .int .i64 c.f2, .int .i64 c.f3] 24)).alloc (.cells #[.int .i64 t.f0, .int .i64 t.f1, .int .i64 t.f2, .int .i64 t.f3] 24)).alloc (.cells #[.int .u8 m] 5)).alloc (.cells #[.bool false] 4)) w.heap.size (cells c) := (((Blk.new w _ _).alloc _).alloc _).alloc _
  have F2 : Blk ((((w.alloc (.cells #[.int .i64 c.f0, .int .i64 c.f1, .int .i64 c.f2, .int .i64 c.f3] 24)).alloc (.cells #[.int .i64 t.f0, .int .i64 t.f1, .int .i64 t.f2, .int .i64 t.f3] 24)).alloc (.cells #[.int .u8 m] 5)).alloc (.cells #[.bool false] 4)) (w.heap.size + 1) (cells t) := by
    have := Blk.new (w.alloc (.cells #[.int .i64 c.f0, .int .i64 c.f1, .int .i64 c.f2, .int .i64 c.f3] 24)) (cells t) 24
    rw [World.size_alloc] at this
    exact (this.alloc _).alloc _
  have F3 : Blk ((((w.alloc (.cells #[.int .i64 c.f0, .int .i64 c.f1, .int .i64 c.f2, .int .i64 c.f3] 24)).alloc (.cells #[.int .i64 t.f0, .int .i64 t.f1, .int .i64 t.f2, .int .i64 t.f3] 24)).alloc (.cells #[.int .u8 m] 5)).alloc (.cells #[.bool false] 4)) (w.heap.size + 1 + 1) #[.int .u8 m] := by
    have := Blk.new ((w.alloc (.cells #[.int .i64 c.f0, .int .i64 c.f1, .int .i64 c.f2, .int .i64 c.f3] 24)).alloc (.cells #[.int .i64 t.f0, .int .i64 t.f1, .int .i64 t.f2, .int .i64 t.f3] 24)) #[.int .u8 m] 5
    rw [World.size_alloc, World.size_alloc] at this
    exact this.alloc _
  have F4 : Blk ((((w.alloc (.cells #[.int .i64 c.f0, .int .i64 c.f1, .int .i64 c.f2, .int .i64 c.f3] 24)).alloc (.cells #[.int .i64 t.f0, .int .i64 t.f1, .int .i64 t.f2, .int .i64 t.f3] 24)).alloc (.cells #[.int .u8 m] 5)).alloc (.cells #[.bool false] 4)) (w.heap.size + 1 + 1 + 1) #[.bool false] := by
    have := Blk.new (((w.alloc (.cells #[.int .i64 c.f0, .int .i64 c.f1, .int .i64 c.f2, .int .i64 c.f3] 24)).alloc (.cells #[.int .i64 t.f0, .int .i64 t.f1, .int .i64 t.f2, .int .i64 t.f3] 24)).alloc (.cells #[.int .u8 m] 5)) #[.bool false] 4
    rw [World.size_alloc, World.size_alloc, World.size_alloc] at this
    exact this
  have F5 : Calm w ((((w.alloc (.cells #[.int .i64 c.f0, .int .i64 c.f1, .int .i64 c.f2, .int .i64 c.f3] 24)).alloc (.cells #[.int .i64 t.f0, .int .i64 t.f1, .int .i64 t.f2, .int .i64 t.f3] 24)).alloc (.cells #[.int .u8 m] 5)).alloc (.cells #[.bool false] 4)) := ((((Kept.refl _ w).alloc _).alloc _).alloc _).alloc _
  have F6 : ((((w.alloc (.cells #[.int .i64 c.f0, .int .i64 c.f1, .int .i64 c.f2, .int .i64 c.f3] 24)).alloc (.cells #[.int .i64 t.f0, .int .i64 t.f1, .int .i64 t.f2, .int .i64 t.f3] 24)).alloc (.cells #[.int .u8 m] 5)).alloc (.cells #[.bool false] 4)).heap.size = w.heap.size + 4 := by simp
  generalize ((((w.alloc (.cells #[.int .i64 c.f0, .int .i64 c.f1, .int .i64 c.f2, .int .i64 c.f3] 24)).alloc (.cells #[.int .i64 t.f0, .int .i64 t.f1, .int .i64 t.f2, .int .i64 t.f3] 24)).alloc (.cells #[.int .u8 m] 5)).alloc (.cells #[.bool false] 4)) = w4 at F1 F2 F3 F4 F5 F6 ⊢
  obtain ⟨a0, a1, a2, a3⟩ := Cells F1
  obtain ⟨c0, c1, c2, c3⟩ := Cells F2
  gi_wp2_with fail
  refine ⟨trivial, (callsIn_wide.2 (HS.out w4)).mono ?_⟩
  rintro e w5 ⟨v, rfl, hrow, hb5⟩
  have hC := cfgs_of_owns hrow
  obtain ⟨A, cc, rfl, hcc, hcells⟩ := hC
  have HC5 : Hid (RowAt w5 w5.heap.size A (waySteps c t n)) := Lib.hid hcells
  have k5 : Calm w4 w5 := Kept.of_below hb5 _
  have F1 := F1.calm k5
  have F2 := F2.calm k5
  have F3 := F3.calm k5
  have F4 := F4.calm k5
  have F5 := F5.trans k5
  have F6 : w.heap.size + 4 ≤ w5.heap.size := by have := k5.size; omega
  clear a0 a1 a2 a3 c0 c1 c2 c3 hrow hb5 k5 hcells
  gi_upto_region 2 with fail
  have G9 : Blk (w5.alloc (.cells #[.slice A (waySteps c t n).length cc] 25)) w5.heap.size #[.slice A (waySteps c t n).length cc] := Blk.new w5 _ _
  have k6 : Calm w5 (w5.alloc (.cells #[.slice A (waySteps c t n).length cc] 25)) := (Kept.refl _ w5).alloc _
  have s6 : (w5.alloc (.cells #[.slice A (waySteps c t n).length cc] 25)).heap.size = w5.heap.size + 1 := World.size_alloc _ _
  generalize w5.alloc (.cells #[.slice A (waySteps c t n).length cc] 25) = w6 at G9 k6 s6 ⊢
  have F1 := F1.calm k6
  have F2 := F2.calm k6
  have F3 := F3.calm k6
  have F4 := F4.calm k6
  have F5 := F5.trans k6
  have HC6 := Lib.hid (HC5.out.calm k6 (Nat.le_refl _))
  clear k6 HC5
  generalize hp9 : w5.heap.size = p9 at G9 s6 F6 HC6 ⊢
  clear hp9
  obtain ⟨a0, a1, a2, a3⟩ := Cells F1
  obtain ⟨c0, c1, c2, c3⟩ := Cells F2
  gi_wp2_with fail
  refine ⟨trivial, (callsIn_wide.2 (All_calls w6 c t n)).mono ?_⟩
  rintro e w7 ⟨rfl, rfl⟩
  have E1 : Blk (((w6.alloc (.cells (cells c) 24)).alloc (.cells (cells t) 24)).alloc (.cells #[.int .i64 n] 3)) w6.heap.size (cells c) := ((Blk.new w6 _ _).alloc _).alloc _
  have E2 : Blk (((w6.alloc (.cells (cells c) 24)).alloc (.cells (cells t) 24)).alloc (.cells #[.int .i64 n] 3)) (w6.heap.size + 1) (cells t) := by
    have := Blk.new (w6.alloc (.cells (cells c) 24)) (cells t) 24
    rw [World.size_alloc] at this
    exact this.alloc _
  have E3 : Blk (((w6.alloc (.cells (cells c) 24)).alloc (.cells (cells t) 24)).alloc (.cells #[.int .i64 n] 3)) (w6.heap.size + 2) #[.int .i64 n] := by
    have := Blk.new ((w6.alloc (.cells (cells c) 24)).alloc (.cells (cells t) 24)) #[.int .i64 n] 3
    rw [World.size_alloc, World.size_alloc] at this
    exact this
  have k7 : Calm w6 (((w6.alloc (.cells (cells c) 24)).alloc (.cells (cells t) 24)).alloc (.cells #[.int .i64 n] 3)) := (((Kept.refl _ w6).alloc _).alloc _).alloc _
  have s7 : (((w6.alloc (.cells (cells c) 24)).alloc (.cells (cells t) 24)).alloc (.cells #[.int .i64 n] 3)).heap.size = w6.heap.size + 3 := by simp
  generalize (((w6.alloc (.cells (cells c) 24)).alloc (.cells (cells t) 24)).alloc (.cells #[.int .i64 n] 3)) = w7 at E1 E2 E3 k7 s7 ⊢
  have F1 := F1.calm k7
  have F2 := F2.calm k7
  have F3 := F3.calm k7
  have F4 := F4.calm k7
  have G9 := G9.calm k7
  have F5 := F5.trans k7
  have HC7 := Lib.hid (HC6.out.calm k7 (by omega))
  clear k7 HC6 a0 a1 a2 a3 c0 c1 c2 c3
  rw [s6] at E1 E2 E3 s7 ⊢
  clear s6
  gi_upto_region 6 with fail
  have G12 : Blk (w7.alloc (.cells #[.int .i64 0] 3)) w7.heap.size #[.int .i64 0] := Blk.new w7 _ _
  have k8 : Calm w7 (w7.alloc (.cells #[.int .i64 0] 3)) := (Kept.refl _ w7).alloc _
  have s8 : (w7.alloc (.cells #[.int .i64 0] 3)).heap.size = w7.heap.size + 1 := World.size_alloc _ _
  generalize (w7.alloc (.cells #[.int .i64 0] 3)) = w8 at G12 k8 s8 ⊢
  have F1 := F1.calm k8
  have F2 := F2.calm k8
  have F3 := F3.calm k8
  have F4 := F4.calm k8
  have G9 := G9.calm k8
  have F5 := F5.trans k8
  have E1 := E1.calm k8
  have E2 := E2.calm k8
  have E3 := E3.calm k8
  have HC8 := Lib.hid (HC7.out.calm k8 (by omega))
  clear k8 HC7
  rw [s7] at G12 s8
  clear s7
  have hit := All1_iter 5 (by omega) (p9 + 1) (p9 + 1 + 1) (p9 + 1 + 2) c t n hn [] w8 E1 E2 E3
  clear E1 E2 E3
  gi_wp2_with fail
  refine rangeFunc_box (fun z x q => (((z.setIfInBounds 33 (.int .i64 x.1)).setIfInBounds 34 (.agg (cells x.2))).setIfInBounds 13 (.int .i64 x.1)).setIfInBounds 14 (.pointer (some ⟨q, 0, none⟩))) (fun x => cells x.2)
    rfl (by omega) (gf := 40) (lb := #[.pointer (some ⟨p9 + 1, 0, none⟩), .pointer (some ⟨p9 + 1 + 1, 0, none⟩), .pointer (some ⟨p9 + 1 + 2, 0, none⟩)]) rfl trivial (enters_of Try.func40 (by kernel_rfl) rfl)
    hit (fun h k => h.trans k) ?kb (Below.refl _ _) (fun _ h => by cases h) (Snug.nil _) (fun _ => rfl)
    (fun pre A => ((pre.length : Int) ≤ m ∧ Blk A (p9 + 1 + 3) #[.int .i64 (pre.length : Int)]) ∧ Go.Proofs.Ythjgjfelbagljaa.Kept (fun k => k = p9 + 1 + 3) w8 A)
    (fun j pre A => (j = .exit 0 ∧ m < (pre.length : Int) ∧ Blk A (p9 + 1 + 3) #[.int .i64 m]) ∧ Go.Proofs.Ythjgjfelbagljaa.Kept (fun k => k = p9 + 1 + 3) w8 A)
    ?abI ?abX ⟨⟨hm0, G12⟩, Kept.refl _ _⟩ ?assign ?body ?done ?stop
  case kb =>
    intro B l' o o' hl ho _ _
    exact ⟨rfl, rfl, rfl, by simp, fun k hk hF => World.putObj_heap_other (fun e => hF (by omega))⟩
  case abI => exact fun s B B' h hm => ⟨⟨h.1.1, h.1.2.mine hm (by omega)⟩, abiding_kept (β := Unit) (Nat.le_refl _) () _ _ h.2 hm⟩
  case abX => exact fun j s B B' h hm => ⟨⟨h.1.1, h.1.2.1, h.1.2.2.mine hm (by omega)⟩, abiding_kept (β := Unit) (Nat.le_refl _) () _ _ h.2 hm⟩
  case assign =>
    rintro l' pre ⟨i, x⟩ B K hI hs hK
    simp only [cells]
    gi_wp2
    refine hK _ _ ?_ ?_ ?_ ⟨B.heap.size, hs, Blk.new B _ _, rfl⟩
    · exact Yours.of_kept ((Kept.refl (fun _ => False) B).alloc _) (fun _ _ _ h => h) (fun B hB => by cases hB)
    · exact (Kept.refl _ B).alloc _
    · exact ⟨⟨hI.1.1, hI.1.2.alloc _⟩, hI.2.alloc _⟩
  case body =>
    rintro l' pre ⟨i, x⟩ q B hl' hrec ⟨⟨hpm, hb12⟩, hkB⟩ hqn hq hlt hpre
    have F3b := F3.kept hkB (by omega)
    have G9b := G9.kept hkB (by omega)
    have d12 := Cell1 hb12
    have d7 := Cell1 F3b
    have d9 := Cell1 G9b
    have hwm : IntKind.i64.wrap m = m := by rw [IntKind.wrap_i64]; omega
    clear hrec hl'
    simp only [List.setIfInBounds_toArray, List.set_cons_zero, List.set_cons_succ]
    by_cases hfull : m ≤ (pre.length : Int)
    · obtain rfl : m = (pre.length : Int) := by omega
      gi_wp2_with fail
      exact ⟨Yours.refl _ _ _, ⟨rfl, by simp, hb12⟩, hkB⟩
    · have hroom : (pre.length : Int) < m := by omega
      gi_upto_region 10 with fail
      obtain ⟨hk0, rfl, hx⟩ := way_at hpre
      have hR := HC8.out.kept hkB (by omega) (fun g hg h => by omega)
      rcases hR with h0 | ⟨g, rfl, hg, hcl⟩
      · rw [h0] at hk0; cases hk0
      obtain ⟨r0, r1, r2, r3⟩ := hcl pre.length hk0
      rw [← hx] at r0 r1 r2 r3
      obtain ⟨x0, x1, x2, x3⟩ := Cells (show Blk B q (cells x) from hq)
      have hz0 : (0 : Int) ≤ (pre.length : Int) := by omega
      have hz1 : (pre.length : Int) < ((waySteps c t n).length : Int) := by omega
      have hz2 : ¬ ((waySteps c t n).length : Int) ≤ (pre.length : Int) := by omega
      have hwn : IntKind.i64.wrap ((pre.length : Int) + 1) = (pre.length : Int) + 1 := by rw [IntKind.wrap_i64]; omega
      have HX := Lib.hid hx
      have HP := Lib.hid hpre
      clear hcl hx hpre hlt hfull
      refine wpIn_region_still_round (by kernel_rfl) (by kernel_rfl) (by kernel_rfl) ?_
      repeat still_step
      refine wpStill_nil ?_
      have hb12d : Blk B.drew (p9 + 1 + 3) #[.int .i64 (pre.length : Int)] := hb12
      have hkd : Go.Proofs.Ythjgjfelbagljaa.Kept (fun k => k = p9 + 1 + 3) w8 B.drew := hkB.drew
      have hyd : Yours [] w8.heap.size B B.drew := ⟨Nat.le_refl _, fun _ h => .inl h, fun _ _ _ _ => rfl⟩
      have hkp : Keeps (p9 + 1 + 1) (p9 + 1 + 2) B B.drew := (Kept.refl _ B).drew
      clear r0 r1 r2 r3 x0 x1 x2 x3 d12 d7 d9 F3b G9b hb12 hq
      change Exit.then _ _ _ _ B.drew
      generalize B.drew = B' at hb12d hkd hyd hkp ⊢
      simp only [Exit.then]
      have d12 := Cell1 hb12d
      have f12 := fun o => hb12d.frozen o
      rw [s8] at hyd
      gi_wp2_with fail
      have kst : Go.Proofs.Ythjgjfelbagljaa.Kept (fun k => k = p9 + 1 + 3) B' (B'.setCell ⟨p9 + 1 + 3, 0, none⟩ (.int .i64 ((pre.length : Int) + 1))) := (Kept.refl (fun k => k = p9 + 1 + 3) B').setCell (p := ⟨p9 + 1 + 3, 0, none⟩) (fun _ => rfl) _
      refine ⟨hyd.trans (Yours.of_kept kst (fun k hk _ h => by have : k = p9 + 1 + 3 := h; omega) (fun B hB => by cases hB)), hkp.trans (kst.mono (fun k _ h => by have : k = p9 + 1 + 3 := h; omega)), ⟨?_, ?_⟩, hkd.trans kst⟩
      · simp
        omega
      · rw [show (((pre ++ [((pre.length : Int) + 1, x)]).length : Nat) : Int) = (pre.length : Int) + 1 by simp]
        exact hb12d.set 0 _
  case done =>
    rintro D ys A' hD rfl ⟨⟨hlm, hb12⟩, hkA⟩ hK
    have hlw : (way c t n).length = (waySteps c t n).length := (List.length_map _).symm
    rw [hlw] at hlm hb12
    obtain ⟨q, hqe⟩ : ∃ q : Int, q = ((waySteps c t n).length : Int) := ⟨_, rfl⟩
    have hqm : min ((waySteps c t n).length : Int) m = q := by omega
    rw [← hqe] at hb12
    clear hqe
    have KW : Calm w A' := F5.step hkA (fun k hk h => by have : k = p9 + 1 + 3 := h; omega)
    have E0 : Env c t m q (.slice A (waySteps c t n).length cc) w.heap.size p9 A' := ⟨F1.kept hkA (by omega), F2.kept hkA (by omega), F3.kept hkA (by omega), F4.kept hkA (by omega), G9.kept hkA (by omega), hb12⟩
    have hR0 := HC8.out.kept hkA (by omega) (fun g hg h => by have : g = p9 + 1 + 3 := h; omega)
    have HR0 := Lib.hid hR0
    have K0 : Calm A' A' := Kept.refl _ _
    have hszA : w8.heap.size ≤ A'.heap.size := hkA.size
    have hwm : IntKind.i64.wrap m = m := by rw [IntKind.wrap_i64]; omega
    clear hR0
    by_cases hmay : May c t
    · rw [decide_eq_true hmay] at HM
      by_cases h1 : n < 1
      · have hwr : wrong c t n = 1 := by unfold wrong; rw [if_pos hmay, if_pos h1]
        have hw0 := waySteps_wrong (show wrong c t n ≠ 0 by rw [hwr]; decide)
        have hl0 : (waySteps c t n).length = 0 := by rw [hw0]; rfl
        obtain rfl : q = 0 := by omega
        rw [hl0] at E0
        rw [hwr]
        obtain ⟨a0, a1, a2, a3⟩ := Cells E0.f1
        obtain ⟨c0, c1, c2, c3⟩ := Cells E0.f2
        have d7 := Cell1 E0.f3
        have d9 := Cell1 E0.g9
        have d12 := Cell1 E0.g12
        gi_wp2_with fail
        refine ⟨trivial, (callsIn_wide.2 (HM.out _)).mono ?_⟩
        rintro e x1 ⟨rfl, hx1⟩
        have E1 := E0.calm (Kept.of_below hx1 _)
        have K1 := K0.trans (Kept.of_below hx1 (fun _ => False))
        clear a0 a1 a2 a3 c0 c1 c2 c3 d7 d9 d12
        obtain ⟨a0, a1, a2, a3⟩ := Cells E1.f1
        obtain ⟨c0, c1, c2, c3⟩ := Cells E1.f2
        have d7 := Cell1 E1.f3
        have d9 := Cell1 E1.g9
        have d12 := Cell1 E1.g12
        gi_wp2_with fail
        refine ⟨trivial, (callsIn_wide.2 (HM.out _)).mono ?_⟩
        rintro e x2 ⟨rfl, hx2⟩
        have E2 := E1.calm (Kept.of_below hx2 _)
        have K2 := K1.trans (Kept.of_below hx2 (fun _ => False))
        clear a0 a1 a2 a3 c0 c1 c2 c3 d7 d9 d12
        obtain ⟨a0, a1, a2, a3⟩ := Cells E2.f1
        obtain ⟨c0, c1, c2, c3⟩ := Cells E2.f2
        have d7 := Cell1 E2.f3
        have d9 := Cell1 E2.g9
        have d12 := Cell1 E2.g12
        gi_wp2_with (refine ⟨trivial, ?_⟩; gi_at_call 12; refine (callsIn_wide.2 (alive_calls _)).mono ?_; rintro e x4 ⟨rfl, hx4⟩; have E4 := E2.calm (Kept.of_below hx4 _); have z8 := Cell1 E4.f4; have y8 := fun o => E4.f4.frozen o)
        have K4 := K2.trans (Kept.of_below hx4 (fun _ => False))
        have hp8 : w.heap.size + 1 + 1 + 1 < w8.heap.size := by omega
        have hD5 : (x4.setCell ⟨w.heap.size + 1 + 1 + 1, 0, none⟩ (.bool true)).heap[D]? = some (.deferred (some [])) := by
          rw [Below.heap_setCell _ _ _ _ (show D ≠ w.heap.size + 1 + 1 + 1 by omega), K4.block D (Array.getElem?_eq_some_iff.1 hK).1 (fun h => h)]
          exact hK
        have hB5 : Below w.heap.size w (x4.setCell ⟨w.heap.size + 1 + 1 + 1, 0, none⟩ (.bool true)) := ((KW.trans K4).below (fun _ _ h => h)).setCell (p := ⟨w.heap.size + 1 + 1 + 1, 0, none⟩) (by show w.heap.size ≤ w.heap.size + 1 + 1 + 1; omega) _
        refine ⟨by simp, .inl ⟨_, _, rfl, run_takeDeferred hD5, ?_⟩⟩
        refine ⟨_, results_flag rfl _ _ (w.heap.size + 1 + 1 + 1) (.bool true) rfl ?_ (bool_flat _), rfl, hB5.trans (belowK_b (w := w) (Nat.le_refl _) _ D _ _ (by omega) hD5 rfl rfl)⟩
        rw [cell_putObj hD5 rfl rfl]
        exact Cell1 (E4.f4.set 0 (.bool true))
      · have h1' : 1 ≤ n := by omega
        have hwr : wrong c t n = 0 := by unfold wrong; rw [if_pos hmay, if_neg h1]
        have hws := waySteps_right hwr
        rw [hws] at E0 hqm HR0
        rw [hwr]
        obtain ⟨a0, a1, a2, a3⟩ := Cells E0.f1
        obtain ⟨c0, c1, c2, c3⟩ := Cells E0.f2
        have d7 := Cell1 E0.f3
        have d9 := Cell1 E0.g9
        have d12 := Cell1 E0.g12
        gi_wp2_with fail
        refine ⟨trivial, (callsIn_wide.2 (HM.out _)).mono ?_⟩
        rintro e x1 ⟨rfl, hx1⟩
        have E1 := E0.calm (Kept.of_below hx1 _)
        have K1 := K0.trans (Kept.of_below hx1 (fun _ => False))
        clear a0 a1 a2 a3 c0 c1 c2 c3 d7 d9 d12
        obtain ⟨a0, a1, a2, a3⟩ := Cells E1.f1
        obtain ⟨c0, c1, c2, c3⟩ := Cells E1.f2
        have d7 := Cell1 E1.f3
        have d9 := Cell1 E1.g9
        have d12 := Cell1 E1.g12
        gi_wp2_with fail
        refine ⟨trivial, (callsIn_wide.2 (RefSteps_calls _ c t n h1' hn hmay)).mono ?_⟩
        rintro e x2 ⟨v2, rfl, hrow2, hx2⟩
        obtain ⟨A2, cc2, rfl, hcc2, hcells2⟩ := cfgs_of_owns hrow2
        have HQ2 : Hid (RowAt x2 x2.heap.size A2 (steps c t n)) := Lib.hid hcells2
        have E2 := E1.calm (Kept.of_below hx2 _)
        have K2 := K1.trans (Kept.of_below hx2 (fun _ => False))
        have HR2 := Lib.hid (HR0.out.calm K2 (by omega))
        clear hrow2 hcells2 hx2
        clear a0 a1 a2 a3 c0 c1 c2 c3 d7 d9 d12
        obtain ⟨a0, a1, a2, a3⟩ := Cells E2.f1
        obtain ⟨c0, c1, c2, c3⟩ := Cells E2.f2
        have d7 := Cell1 E2.f3
        have d9 := Cell1 E2.g9
        have d12 := Cell1 E2.g12
        skip
        gi_upto_region 22 with fail
        clear a0 a1 a2 a3 c0 c1 c2 c3 d7 d9 d12
        gi_loopw [110] (fun v wr => ∃ k : Nat, k ≤ (steps c t n).length ∧ v = .int .i64 (k : Int) ∧ Calm x2 wr) (fun v _ => (steps c t n).length - (intOf v).toNat)
        case atStart => exact ⟨0, Nat.zero_le _, rfl, Kept.refl _ _⟩
        case round =>
          obtain ⟨k, hk, rfl, kx⟩ := hrel
          have E3 := E2.calm kx
          have K3 := K2.trans kx
          by_cases hlt : k < (steps c t n).length
          · have hok : Ok ((steps c t n).getD k z24) := by
              have hkm : k < many c t n := by rw [steps_length] at hlt; exact hlt
              have e : (steps c t n).getD k z24 = st t n c (k + 1) := by
                unfold steps
                rw [List.getD_eq_getElem?_getD, List.getElem?_map, List.getElem?_range hkm]; rfl
              rw [e]
              exact Ok.st h1' hmay.1 hmay.2.1 (k + 1)
            rcases HR2.out.calm kx (by have := K2.size; omega) with h0 | ⟨g, rfl, hg, hcl⟩
            · rw [h0] at hlt; cases hlt
            rcases HQ2.out.calm kx (Nat.le_refl _) with h0 | ⟨g2, rfl, hg2, hcl2⟩
            · rw [h0] at hlt; cases hlt
            obtain ⟨r0, r1, r2, r3⟩ := hcl k hlt
            obtain ⟨s0, s1, s2, s3⟩ := hcl2 k hlt
            have hz0 : (0 : Int) ≤ (k : Int) := by omega
            have hz1 : (k : Int) < ((steps c t n).length : Int) := by omega
            have hl512 : (steps c t n).length ≤ 512 := by rw [steps_length]; exact many_le h1' hmay.1 hmay.2.1
            have hwk : IntKind.i64.wrap ((k : Int) + 1) = (k : Int) + 1 := by rw [IntKind.wrap_i64]; omega
            have hgl : g < wr.heap.size := by have := K3.size; omega
            have hg2l : g2 < wr.heap.size := by have := kx.size; omega
            clear hcl hcl2
            generalize (steps c t n).getD k z24 = x at r0 r1 r2 r3 s0 s1 s2 s3 hok
            have HM11 := Lib.hid (fun W => hutchref11_May.calls x.f0 x.f1 x.f2 x.f3 true W (by rw [may11_f, decide_eq_true hok]))
            gi_upto_region 24 with fail
            have B18 : Blk (wr.alloc (.cells #[.int .i64 x.f0, .int .i64 x.f1, .int .i64 x.f2, .int .i64 x.f3] 24)) wr.heap.size (cells x) := Blk.new wr _ _
            have k18 : Calm wr (wr.alloc (.cells #[.int .i64 x.f0, .int .i64 x.f1, .int .i64 x.f2, .int .i64 x.f3] 24)) := (Kept.refl _ wr).alloc _
            clear r0 r1 r2 r3
            have s0 := cellK k18 s0
            have s1 := cellK k18 s1
            have s2 := cellK k18 s2
            have s3 := cellK k18 s3
            generalize wr.heap.size = p18 at B18 ⊢
            generalize wr.alloc (.cells #[.int .i64 x.f0, .int .i64 x.f1, .int .i64 x.f2, .int .i64 x.f3] 24) = y1 at B18 k18 s0 s1 s2 s3 ⊢
            obtain ⟨b0, b1, b2, b3⟩ := Cells B18
            refine wpIn_wide.2 ?_
            go_still_tail 8, (by kernel_rfl)
            have k19 : Calm wr y1.drew := k18.drew
            change wpList _ _ _ _ _ y1.drew
            clear s0 s1 s2 s3 b0 b1 b2 b3 B18 k18
            generalize y1.drew = y2 at k19 ⊢
            go_wp2_with (go_at_call 14; refine (HM11.out _).mono ?_; rintro e y3 ⟨rfl, hy3⟩)
            gi_wp2_with fail
            refine ⟨⟨k + 1, by omega, by rw [Int.natCast_add]; rfl, kx.trans (k19.trans (Kept.of_below hy3 _))⟩, ?_⟩
            simp [intOf]
            omega
          · obtain rfl : k = (steps c t n).length := by omega
            gi_wp2_with (refine ⟨trivial, ?_⟩; gi_at_call 12; refine (callsIn_wide.2 (alive_calls _)).mono ?_; rintro e x4 ⟨rfl, hx4⟩; have E4 := E3.calm (Kept.of_below hx4 _); have z8 := Cell1 E4.f4; have y8 := fun o => E4.f4.frozen o)
            have K4 := K3.trans (Kept.of_below hx4 (fun _ => False))
            have hp8 : w.heap.size + 1 + 1 + 1 < w8.heap.size := by omega
            have hD5 : (x4.setCell ⟨w.heap.size + 1 + 1 + 1, 0, none⟩ (.bool true)).heap[D]? = some (.deferred (some [])) := by
              rw [Below.heap_setCell _ _ _ _ (show D ≠ w.heap.size + 1 + 1 + 1 by omega), K4.block D (Array.getElem?_eq_some_iff.1 hK).1 (fun h => h)]
              exact hK
            have hB5 : Below w.heap.size w (x4.setCell ⟨w.heap.size + 1 + 1 + 1, 0, none⟩ (.bool true)) := ((KW.trans K4).below (fun _ _ h => h)).setCell (p := ⟨w.heap.size + 1 + 1 + 1, 0, none⟩) (by show w.heap.size ≤ w.heap.size + 1 + 1 + 1; omega) _
            refine ⟨by simp, .inl ⟨_, _, rfl, run_takeDeferred hD5, ?_⟩⟩
            refine ⟨_, results_flag rfl _ _ (w.heap.size + 1 + 1 + 1) (.bool true) rfl ?_ (bool_flat _), rfl, hB5.trans (belowK_b (w := w) (Nat.le_refl _) _ D _ _ (by omega) hD5 rfl rfl)⟩
            rw [cell_putObj hD5 rfl rfl]
            exact Cell1 (E4.f4.set 0 (.bool true))
    · rw [decide_eq_false hmay] at HM
      have hwr : wrong c t n = 2 := by unfold wrong; rw [if_neg hmay]
      have hw0 := waySteps_wrong (show wrong c t n ≠ 0 by rw [hwr]; decide)
      have hl0 : (waySteps c t n).length = 0 := by rw [hw0]; rfl
      obtain rfl : q = 0 := by omega
      rw [hl0] at E0
      rw [hwr]
      obtain ⟨a0, a1, a2, a3⟩ := Cells E0.f1
      obtain ⟨c0, c1, c2, c3⟩ := Cells E0.f2
      have d7 := Cell1 E0.f3
      have d9 := Cell1 E0.g9
      have d12 := Cell1 E0.g12
      gi_wp2_with fail
      refine ⟨trivial, (callsIn_wide.2 (HM.out _)).mono ?_⟩
      rintro e x1 ⟨rfl, hx1⟩
      have E1 := E0.calm (Kept.of_below hx1 _)
      have K1 := K0.trans (Kept.of_below hx1 (fun _ => False))
      clear a0 a1 a2 a3 c0 c1 c2 c3 d7 d9 d12
      obtain ⟨a0, a1, a2, a3⟩ := Cells E1.f1
      obtain ⟨c0, c1, c2, c3⟩ := Cells E1.f2
      have d7 := Cell1 E1.f3
      have d9 := Cell1 E1.g9
      have d12 := Cell1 E1.g12
      gi_wp2_with fail
      refine ⟨trivial, (callsIn_wide.2 (HM.out _)).mono ?_⟩
      rintro e x2 ⟨rfl, hx2⟩
      have E2 := E1.calm (Kept.of_below hx2 _)
      have K2 := K1.trans (Kept.of_below hx2 (fun _ => False))
      clear a0 a1 a2 a3 c0 c1 c2 c3 d7 d9 d12
      obtain ⟨a0, a1, a2, a3⟩ := Cells E2.f1
      obtain ⟨c0, c1, c2, c3⟩ := Cells E2.f2
      have d7 := Cell1 E2.f3
      have d9 := Cell1 E2.g9
      have d12 := Cell1 E2.g12
      gi_wp2_with (refine ⟨trivial, ?_⟩; gi_at_call 12; refine (callsIn_wide.2 (alive_calls _)).mono ?_; rintro e x4 ⟨rfl, hx4⟩; have E4 := E2.calm (Kept.of_below hx4 _); have z8 := Cell1 E4.f4; have y8 := fun o => E4.f4.frozen o)
      have K4 := K2.trans (Kept.of_below hx4 (fun _ => False))
      have hp8 : w.heap.size + 1 + 1 + 1 < w8.heap.size := by omega
      have hD5 : (x4.setCell ⟨w.heap.size + 1 + 1 + 1, 0, none⟩ (.bool true)).heap[D]? = some (.deferred (some [])) := by
        rw [Below.heap_setCell _ _ _ _ (show D ≠ w.heap.size + 1 + 1 + 1 by omega), K4.block D (Array.getElem?_eq_some_iff.1 hK).1 (fun h => h)]
        exact hK
      have hB5 : Below w.heap.size w (x4.setCell ⟨w.heap.size + 1 + 1 + 1, 0, none⟩ (.bool true)) := ((KW.trans K4).below (fun _ _ h => h)).setCell (p := ⟨w.heap.size + 1 + 1 + 1, 0, none⟩) (by show w.heap.size ≤ w.heap.size + 1 + 1 + 1; omega) _
      refine ⟨by simp, .inl ⟨_, _, rfl, run_takeDeferred hD5, ?_⟩⟩
      refine ⟨_, results_flag rfl _ _ (w.heap.size + 1 + 1 + 1) (.bool true) rfl ?_ (bool_flat _), rfl, hB5.trans (belowK_b (w := w) (Nat.le_refl _) _ D _ _ (by omega) hD5 rfl rfl)⟩
      rw [cell_putObj hD5 rfl rfl]
      exact Cell1 (E4.f4.set 0 (.bool true))
  case stop =>
    rintro D j pre A' hD hpre ⟨⟨rfl, hlt, hb12⟩, hkA⟩ hK
    have hlw : (way c t n).length = (waySteps c t n).length := (List.length_map _).symm
    have hlp := hpre.length_le
    obtain ⟨q, hqe⟩ : ∃ q : Int, q = m := ⟨_, rfl⟩
    have hqm : min ((waySteps c t n).length : Int) m = q := by omega
    rw [← hqe] at hb12
    clear hqe
    have KW : Calm w A' := F5.step hkA (fun k hk h => by have : k = p9 + 1 + 3 := h; omega)
    have E0 : Env c t m q (.slice A (waySteps c t n).length cc) w.heap.size p9 A' := ⟨F1.kept hkA (by omega), F2.kept hkA (by omega), F3.kept hkA (by omega), F4.kept hkA (by omega), G9.kept hkA (by omega), hb12⟩
    have hR0 := HC8.out.kept hkA (by omega) (fun g hg h => by have : g = p9 + 1 + 3 := h; omega)
    have HR0 := Lib.hid hR0
    have K0 : Calm A' A' := Kept.refl _ _
    have hszA : w8.heap.size ≤ A'.heap.size := hkA.size
    have hwm : IntKind.i64.wrap m = m := by rw [IntKind.wrap_i64]; omega
    clear hR0
    by_cases hmay : May c t
    · rw [decide_eq_true hmay] at HM
      by_cases h1 : n < 1
      · have hwr : wrong c t n = 1 := by unfold wrong; rw [if_pos hmay, if_pos h1]
        have hw0 := waySteps_wrong (show wrong c t n ≠ 0 by rw [hwr]; decide)
        have hl0 : (waySteps c t n).length = 0 := by rw [hw0]; rfl
        exfalso
        omega
      · have h1' : 1 ≤ n := by omega
        have hwr : wrong c t n = 0 := by unfold wrong; rw [if_pos hmay, if_neg h1]
        have hws := waySteps_right hwr
        rw [hws] at E0 hqm HR0
        rw [hwr]
        obtain ⟨a0, a1, a2, a3⟩ := Cells E0.f1
        obtain ⟨c0, c1, c2, c3⟩ := Cells E0.f2
        have d7 := Cell1 E0.f3
        have d9 := Cell1 E0.g9
        have d12 := Cell1 E0.g12
        gi_wp2_with fail
        refine ⟨trivial, (callsIn_wide.2 (HM.out _)).mono ?_⟩
        rintro e x1 ⟨rfl, hx1⟩
        have E1 := E0.calm (Kept.of_below hx1 _)
        have K1 := K0.trans (Kept.of_below hx1 (fun _ => False))
        clear a0 a1 a2 a3 c0 c1 c2 c3 d7 d9 d12
        obtain ⟨a0, a1, a2, a3⟩ := Cells E1.f1
        obtain ⟨c0, c1, c2, c3⟩ := Cells E1.f2
        have d7 := Cell1 E1.f3
        have d9 := Cell1 E1.g9
        have d12 := Cell1 E1.g12
        gi_wp2_with fail
        refine ⟨trivial, (callsIn_wide.2 (RefSteps_calls _ c t n h1' hn hmay)).mono ?_⟩
        rintro e x2 ⟨v2, rfl, hrow2, hx2⟩
        obtain ⟨A2, cc2, rfl, hcc2, hcells2⟩ := cfgs_of_owns hrow2
        have HQ2 : Hid (RowAt x2 x2.heap.size A2 (steps c t n)) := Lib.hid hcells2
        have E2 := E1.calm (Kept.of_below hx2 _)
        have K2 := K1.trans (Kept.of_below hx2 (fun _ => False))
        have HR2 := Lib.hid (HR0.out.calm K2 (by omega))
        clear hrow2 hcells2 hx2
        clear a0 a1 a2 a3 c0 c1 c2 c3 d7 d9 d12
        obtain ⟨a0, a1, a2, a3⟩ := Cells E2.f1
        obtain ⟨c0, c1, c2, c3⟩ := Cells E2.f2
        have d7 := Cell1 E2.f3
        have d9 := Cell1 E2.g9
        have d12 := Cell1 E2.g12
        skip
        gi_upto_region 22 with fail
        clear a0 a1 a2 a3 c0 c1 c2 c3 d7 d9 d12
        gi_loopw [110] (fun v wr => ∃ k : Nat, k ≤ (steps c t n).length ∧ v = .int .i64 (k : Int) ∧ Calm x2 wr) (fun v _ => (steps c t n).length - (intOf v).toNat)
        case atStart => exact ⟨0, Nat.zero_le _, rfl, Kept.refl _ _⟩
        case round =>
          obtain ⟨k, hk, rfl, kx⟩ := hrel
          have E3 := E2.calm kx
          have K3 := K2.trans kx
          by_cases hlt : k < (steps c t n).length
          · have hok : Ok ((steps c t n).getD k z24) := by
              have hkm : k < many c t n := by rw [steps_length] at hlt; exact hlt
              have e : (steps c t n).getD k z24 = st t n c (k + 1) := by
                unfold steps
                rw [List.getD_eq_getElem?_getD, List.getElem?_map, List.getElem?_range hkm]; rfl
              rw [e]
              exact Ok.st h1' hmay.1 hmay.2.1 (k + 1)
            rcases HR2.out.calm kx (by have := K2.size; omega) with h0 | ⟨g, rfl, hg, hcl⟩
            · rw [h0] at hlt; cases hlt
            rcases HQ2.out.calm kx (Nat.le_refl _) with h0 | ⟨g2, rfl, hg2, hcl2⟩
            · rw [h0] at hlt; cases hlt
            obtain ⟨r0, r1, r2, r3⟩ := hcl k hlt
            obtain ⟨s0, s1, s2, s3⟩ := hcl2 k hlt
            have hz0 : (0 : Int) ≤ (k : Int) := by omega
            have hz1 : (k : Int) < ((steps c t n).length : Int) := by omega
            have hl512 : (steps c t n).length ≤ 512 := by rw [steps_length]; exact many_le h1' hmay.1 hmay.2.1
            have hwk : IntKind.i64.wrap ((k : Int) + 1) = (k : Int) + 1 := by rw [IntKind.wrap_i64]; omega
            have hgl : g < wr.heap.size := by have := K3.size; omega
            have hg2l : g2 < wr.heap.size := by have := kx.size; omega
            clear hcl hcl2
            generalize (steps c t n).getD k z24 = x at r0 r1 r2 r3 s0 s1 s2 s3 hok
            have HM11 := Lib.hid (fun W => hutchref11_May.calls x.f0 x.f1 x.f2 x.f3 true W (by rw [may11_f, decide_eq_true hok]))
            gi_upto_region 24 with fail
            have B18 : Blk (wr.alloc (.cells #[.int .i64 x.f0, .int .i64 x.f1, .int .i64 x.f2, .int .i64 x.f3] 24)) wr.heap.size (cells x) := Blk.new wr _ _
            have k18 : Calm wr (wr.alloc (.cells #[.int .i64 x.f0, .int .i64 x.f1, .int .i64 x.f2, .int .i64 x.f3] 24)) := (Kept.refl _ wr).alloc _
            clear r0 r1 r2 r3
            have s0 := cellK k18 s0
            have s1 := cellK k18 s1
            have s2 := cellK k18 s2
            have s3 := cellK k18 s3
            generalize wr.heap.size = p18 at B18 ⊢
            generalize wr.alloc (.cells #[.int .i64 x.f0, .int .i64 x.f1, .int .i64 x.f2, .int .i64 x.f3] 24) = y1 at B18 k18 s0 s1 s2 s3 ⊢
            obtain ⟨b0, b1, b2, b3⟩ := Cells B18
            refine wpIn_wide.2 ?_
            go_still_tail 8, (by kernel_rfl)
            have k19 : Calm wr y1.drew := k18.drew
            change wpList _ _ _ _ _ y1.drew
            clear s0 s1 s2 s3 b0 b1 b2 b3 B18 k18
            generalize y1.drew = y2 at k19 ⊢
            go_wp2_with (go_at_call 14; refine (HM11.out _).mono ?_; rintro e y3 ⟨rfl, hy3⟩)
            gi_wp2_with fail
            refine ⟨⟨k + 1, by omega, by rw [Int.natCast_add]; rfl, kx.trans (k19.trans (Kept.of_below hy3 _))⟩, ?_⟩
            simp [intOf]
            omega
          · obtain rfl : k = (steps c t n).length := by omega
            gi_wp2_with (refine ⟨trivial, ?_⟩; gi_at_call 12; refine (callsIn_wide.2 (alive_calls _)).mono ?_; rintro e x4 ⟨rfl, hx4⟩; have E4 := E3.calm (Kept.of_below hx4 _); have z8 := Cell1 E4.f4; have y8 := fun o => E4.f4.frozen o)
            have K4 := K3.trans (Kept.of_below hx4 (fun _ => False))
            have hp8 : w.heap.size + 1 + 1 + 1 < w8.heap.size := by omega
            have hD5 : (x4.setCell ⟨w.heap.size + 1 + 1 + 1, 0, none⟩ (.bool true)).heap[D]? = some (.deferred (some [])) := by
              rw [Below.heap_setCell _ _ _ _ (show D ≠ w.heap.size + 1 + 1 + 1 by omega), K4.block D (Array.getElem?_eq_some_iff.1 hK).1 (fun h => h)]
              exact hK
            have hB5 : Below w.heap.size w (x4.setCell ⟨w.heap.size + 1 + 1 + 1, 0, none⟩ (.bool true)) := ((KW.trans K4).below (fun _ _ h => h)).setCell (p := ⟨w.heap.size + 1 + 1 + 1, 0, none⟩) (by show w.heap.size ≤ w.heap.size + 1 + 1 + 1; omega) _
            refine ⟨by simp, .inl ⟨_, _, rfl, run_takeDeferred hD5, ?_⟩⟩
            refine ⟨_, results_flag rfl _ _ (w.heap.size + 1 + 1 + 1) (.bool true) rfl ?_ (bool_flat _), rfl, hB5.trans (belowK_b (w := w) (Nat.le_refl _) _ D _ _ (by omega) hD5 rfl rfl)⟩
            rw [cell_putObj hD5 rfl rfl]
            exact Cell1 (E4.f4.set 0 (.bool true))
    · rw [decide_eq_false hmay] at HM
      have hwr : wrong c t n = 2 := by unfold wrong; rw [if_neg hmay]
      have hw0 := waySteps_wrong (show wrong c t n ≠ 0 by rw [hwr]; decide)
      have hl0 : (waySteps c t n).length = 0 := by rw [hw0]; rfl
      exfalso
      omega
theorem SizerSteps_row (w : World) (c t : Cfg) (n m : Int) (hn : (Lit.int .i64 n).wf = true) (hm : (Lit.int .u8 m).wf = true) :
    Calls Try.prog 3 #[.agg #[.int .i64 c.f0, .int .i64 c.f1, .int .i64 c.f2, .int .i64 c.f3], .agg #[.int .i64 t.f0, .int .i64 t.f1, .int .i64 t.f2, .int .i64 t.f3], .int .i64 n, .int .u8 m] w fun e w' => e = .returned (.bool true) ∧ Below w.heap.size w w' := by
  have h : IntKind.u8.min ≤ m ∧ m ≤ IntKind.u8.max := by simpa [Lit.wf] using hm
  rw [show IntKind.u8.min = 0 from rfl, show IntKind.u8.max = 255 from rfl] at h
  have h2 : IntKind.i64.min ≤ n ∧ n ≤ IntKind.i64.max := by simpa [Lit.wf] using hn
  rw [show IntKind.i64.max = 9223372036854775807 from rfl] at h2
  exact SizerSteps_calls w c t n m h2.2 h.1 h.2
end Siz
end Go.Proofs.Ythjgjfelbagljaa
