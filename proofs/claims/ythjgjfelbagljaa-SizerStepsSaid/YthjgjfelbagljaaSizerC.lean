/- The sizer: Steps. -/
import Derived.Test.YthjgjfelbagljaaSizerB
import Derived.Test.YthjgjfelbagljaaIterD
namespace Go.Proofs.Ythjgjfelbagljaa
open Go.RowKit Go.Shelf Go.Proofs.YthjgjfelbagljaaW.PrintWords Go.Proofs.YthjgjfelbagljaaW.PrintLast Go.Proofs.YthjgjfelbagljaaW.PrintMore Go.Proofs.Ythjgjfelbagljaa.PSizerSteps
attribute [local go_sem] Oper.semAt_some
namespace Siz

/-- The cells of a row of configs. -/
def flatC (L : List Cfg) : List Value := L.flatMap (fun c => (cells c).toList)
theorem flatC_snoc (L : List Cfg) (c : Cfg) : flatC (L ++ [c]) = flatC L ++ (cells c).toList := by unfold flatC; simp
def waySteps (c t : Cfg) (n : Int) : List Cfg := (way c t n).map Prod.snd
theorem waySteps_right {c t : Cfg} {n : Int} (h : wrong c t n = 0) : waySteps c t n = steps c t n := by
  unfold waySteps steps
  rw [way_right h, List.map_map]
  rfl
theorem waySteps_wrong {c t : Cfg} {n : Int} (h : wrong c t n ≠ 0) : waySteps c t n = [] := by unfold waySteps; rw [way_wrong h]; rfl
theorem way_length_le {c t : Cfg} {n : Int} : (way c t n).length ≤ 512 := by
  unfold way
  by_cases h : wrong c t n = 0
  · obtain ⟨hm, h1⟩ := right_may h
    rw [if_pos h]
    simpa using many_le h1 hm.1 hm.2.1
  · rw [if_neg h]; simp

theorem ownsRow_weaken {w : World} {base base' : Nat} {e : TypeId} {size : Nat} {v : Value} {n : Nat} {xs : List Value} (h : w.ownsRow base e size v n xs) (hb : base' ≤ base) : w.ownsRow base' e size v n xs := by
  refine ⟨h.1, ?_⟩
  rcases h.2 with h2 | ⟨g, cap, cur, hv, hg, r⟩
  · exact .inl h2
  · exact .inr ⟨g, cap, cur, hv, by omega, r⟩
theorem cells_new (A : World) (cs : Array Value) (ty : TypeId) : ∀ j u, cs.toList[j]? = some u → (A.alloc (.cells cs ty)).cell? ((⟨A.heap.size, 0, none⟩ : Addr).add j) = some u := fun j u h => by
  rw [Addr.add_lit, (Blk.new A cs ty).cell, Nat.zero_add, ← Array.getElem?_toList]
  exact h
set_option maxRecDepth 100000 in
set_option maxHeartbeats 4000000 in
theorem Steps_calls (w : World) (c t : Cfg) (n : Int) (hn : n ≤ 9223372036854775807) :
    Calls Try.prog 9 #[.agg (cells c), .agg (cells t), .int .i64 n] w fun e w' =>
      ∃ v, e = .returned (.tuple #[v, .int .i64 (wrong c t n)]) ∧ w'.ownsRow w.heap.size 24 4 v (waySteps c t n).length (flatC (waySteps c t n)) ∧ Below w.heap.size w w' := by
  refine (callsIn_wide (n := 6)).1 ?_
  have HW := Lib.hid (fun W => sizer_wrong.calls 4 c.f0 c.f1 c.f2 c.f3 t.f0 t.f1 t.f2 t.f3 n _ W (wrong_f c t n))
  refine callsIn_of_wp_marks Try.func9 rfl trivial ?_ rfl
  simp only [Try.ntmps9, List.size_toArray, List.length_cons, List.length_nil, Nat.reduceAdd, Nat.reduceSub, Array.replicate_succ, Array.replicate_zero, List.push_toArray, List.append_toArray, List.nil_append, List.cons_append]
  unfold cells
  by_cases hw : wrong c t n = 0
  · have hq : (wrong c t n != 0) = false := by simpa using hw
    have HR := Lib.hid hw
    clear hw
    gi_wp2_with fail
    refine ⟨trivial, (callsIn_wide.2 (HW.out _)).mono ?_⟩
    rintro e w3 ⟨rfl, hb3⟩
    have B3 : Blk ((w.alloc (.cells #[.int .i64 c.f0, .int .i64 c.f1, .int .i64 c.f2, .int .i64 c.f3] 24)).alloc (.cells #[.int .i64 t.f0, .int .i64 t.f1, .int .i64 t.f2, .int .i64 t.f3] 24)) w.heap.size (cells c) := (Blk.new w _ _).alloc _
    have B4 : Blk ((w.alloc (.cells #[.int .i64 c.f0, .int .i64 c.f1, .int .i64 c.f2, .int .i64 c.f3] 24)).alloc (.cells #[.int .i64 t.f0, .int .i64 t.f1, .int .i64 t.f2, .int .i64 t.f3] 24)) (w.heap.size + 1) (cells t) := by
      have := Blk.new (w.alloc (.cells #[.int .i64 c.f0, .int .i64 c.f1, .int .i64 c.f2, .int .i64 c.f3] 24)) (cells t) 24
      rw [World.size_alloc] at this
      exact this
    have K3 : Calm w w3 := (((Kept.refl (fun _ => False) w).alloc _).alloc _).trans (Kept.of_below hb3 _)
    have C3 := B3.calm (Kept.of_below hb3 _)
    have C4 := B4.calm (Kept.of_below hb3 _)
    clear hb3 B3 B4
    gi_upto_region 5 with fail
    have hbox : Boxed (w3.alloc (.cells #[.slice none 0 0] 25)) w3.heap.size 25 (.slice none 0 0) := Boxed.new w3 _ _
    have K4 : Calm w3 (w3.alloc (.cells #[.slice none 0 0] 25)) := (Kept.refl _ _).alloc _
    have hS4 : w3.heap.size + 1 = (w3.alloc (.cells #[.slice none 0 0] 25)).heap.size := by rw [World.size_alloc]
    have hS3 : w.heap.size ≤ w3.heap.size := K3.size
    generalize w3.alloc (.cells #[.slice none 0 0] 25) = w4 at hbox K4 hS4 ⊢
    have D3 := C3.calm K4
    have D4 := C4.calm K4
    have K5 := K3.trans K4
    clear C3 C4 K3 K4
    obtain ⟨a0, a1, a2, a3⟩ := Cells D3
    obtain ⟨c0, c1, c2, c3⟩ := Cells D4
    generalize w3.heap.size = pb at hbox hS4 hS3 ⊢
    gi_wp2_with (refine ⟨trivial, ?_⟩; gi_at_call 10; refine (callsIn_wide.2 (All_calls _ c t n)).mono ?_; rintro e w' ⟨rfl, rfl⟩)
    have hw5S : (((w4.alloc (.cells (cells c) 24)).alloc (.cells (cells t) 24)).alloc (.cells #[.int .i64 n] 3)).heap.size = w4.heap.size + 3 := by simp
    have E1 : Blk (((w4.alloc (.cells (cells c) 24)).alloc (.cells (cells t) 24)).alloc (.cells #[.int .i64 n] 3)) w4.heap.size (cells c) := ((Blk.new w4 _ _).alloc _).alloc _
    have E2 : Blk (((w4.alloc (.cells (cells c) 24)).alloc (.cells (cells t) 24)).alloc (.cells #[.int .i64 n] 3)) (w4.heap.size + 1) (cells t) := by
      have := Blk.new (w4.alloc (.cells (cells c) 24)) (cells t) 24
      rw [World.size_alloc] at this
      exact this.alloc _
    have E3 : Blk (((w4.alloc (.cells (cells c) 24)).alloc (.cells (cells t) 24)).alloc (.cells #[.int .i64 n] 3)) (w4.heap.size + 2) #[.int .i64 n] := by
      have := Blk.new ((w4.alloc (.cells (cells c) 24)).alloc (.cells (cells t) 24)) #[.int .i64 n] 3
      rw [World.size_alloc, World.size_alloc] at this
      exact this
    have K6 : Calm w4 (((w4.alloc (.cells (cells c) 24)).alloc (.cells (cells t) 24)).alloc (.cells #[.int .i64 n] 3)) := (((Kept.refl _ w4).alloc _).alloc _).alloc _
    have hbox5 : Boxed (((w4.alloc (.cells (cells c) 24)).alloc (.cells (cells t) 24)).alloc (.cells #[.int .i64 n] 3)) pb 25 (.slice none 0 0) := ((hbox.alloc _).alloc _).alloc _
    clear hbox a0 a1 a2 a3 c0 c1 c2 c3 D3 D4
    generalize ((w4.alloc (.cells (cells c) 24)).alloc (.cells (cells t) 24)).alloc (.cells #[.int .i64 n] 3) = w5 at hw5S E1 E2 E3 K6 hbox5 ⊢
    have K7 : Below w.heap.size w w5 := (K5.trans K6).below (fun _ _ h => h)
    clear K5 K6
    have hit := All1_iter 5 (by omega) w4.heap.size (w4.heap.size + 1) (w4.heap.size + 2) c t n hn [pb] w5 E1 E2 E3
    obtain ⟨i0, hi, hz0, hz1, hz2⟩ := info_parts info24
    have HI := Lib.hid hi; have HZ0 := Lib.hid hz0; have HZ1 := Lib.hid hz1; have HZ2 := Lib.hid hz2
    clear hi hz0 hz1 hz2 E1 E2 E3
    generalize w4.heap.size = p4 at *
    subst hS4
    refine rangeFunc_box (fun m x q => ((m.setIfInBounds 23 (.int .i64 x.1)).setIfInBounds 24 (.agg (cells x.2))).setIfInBounds 11 (.pointer (some ⟨q, 0, none⟩))) (fun x => cells x.2)
      rfl (by omega) (gf := 40) (lb := #[.pointer (some ⟨pb + 1, 0, none⟩), .pointer (some ⟨pb + 1 + 1, 0, none⟩), .pointer (some ⟨pb + 1 + 2, 0, none⟩)]) rfl trivial (enters_of Try.func40 (by kernel_rfl) rfl)
      hit (fun h k => h.trans k) ?kb (Below.refl _ _) (by simp; omega) ?snug (fun _ => rfl)
      (fun pre A => (∃ v, Boxed A pb 25 v ∧ A.ownsRow w5.heap.size 24 4 v pre.length (flatC (pre.map Prod.snd)) ∧ True) ∧ (Below w.heap.size w A ∧ w5.heap.size ≤ A.heap.size))
      (fun _ _ _ => False) ?abI (fun _ _ _ _ h _ => h) ⟨⟨_, hbox5, World.ownsRow_nil _ _ _ _, trivial⟩, K7, Nat.le_refl _⟩ ?assign ?body ?done ?stop
    case kb =>
      intro A l' o o' hl ho _ _
      exact ⟨rfl, rfl, rfl, by simp, fun k hk hF => World.putObj_heap_other (fun e => hF (by omega))⟩
    case snug =>
      intro B hB o v g hc hv
      obtain rfl : B = pb := by simpa using hB
      exfalso
      cases o with
      | zero => rw [hbox5.cell] at hc; cases hc; cases hv
      | succ o =>
        unfold World.cell? at hc
        rw [show w5.heap[B]? = _ from hbox5] at hc
        simp at hc
    case abI => exact (abiding_holds _ _ _ _ _ _ _ _ (by simp) (by omega)).and ((abiding_below (by omega) (Nat.le_refl _)).and abiding_size)
    case assign =>
      rintro l' pre ⟨i, x⟩ A K hI hs hK
      simp only [cells]
      gi_wp2
      refine hK _ _ ?_ ?_ ?_ ⟨A.heap.size, hs, Blk.new A _ _, rfl⟩
      · have hpb : pb < A.heap.size := by omega
        exact Yours.of_kept ((Kept.refl (fun _ => False) A).alloc _) (fun _ _ _ h => h) (fun B hB => ⟨by rw [show B = pb by simpa using hB]; exact hpb, fun h => h⟩)
      · exact (Kept.refl _ A).alloc _
      · obtain ⟨⟨v, h1, h2, h3⟩, h4, h5⟩ := hI
        exact ⟨⟨v, h1.alloc _, h2.alloc _, h3⟩, h4.alloc (by omega) _, by rw [World.size_alloc]; omega⟩
    case body =>
      rintro l' pre ⟨i, x⟩ q A hl' hrec ⟨⟨v, hv, hrow, _⟩, hB, hS⟩ hqn hq hlt _
      rw [hw5S] at hrow hS hqn
      have hc := hv.cell
      have hf := hv.frozen
      have hlen' : pre.length + 1 ≤ 512 := by have := way_length_le (c := c) (t := t) (n := n); omega
      obtain ⟨a0, a1, a2, a3⟩ := Cells hq
      clear hlt hrec hl'
      simp only [List.setIfInBounds_toArray, List.set_cons_zero, List.set_cons_succ]
      gi_wp2_with (gi_at_builtin; refine wpListIn_append_own_at _ rfl _ _ 25 rfl (pb + 1 + 3) 24 i0 (.agg #[.int .i64 0, .int .i64 0, .int .i64 0, .int .i64 0]) 4 32 Try.underlying25 HI.out HZ0.out HZ1.out HZ2.out rfl (by decide) _ _ _ rfl (hrow.alloc _) ⟨A.heap.size, 0, none⟩ 1 1 (cells x).toList rfl rfl (cells_new _ _ _) (by simp [cells, Value.oneCell']) (by unfold maxLen; omega) (by omega) (by simp; omega) ?_; intro v' w1 hown' hgrow _ hat; obtain ⟨g', cap', rfl⟩ := ownsRow_succ hown'; obtain ⟨hv1, hv2, hr2, hb2⟩ := boxed_appended (n := w.heap.size) hv (by decide) hrow (by omega) (by omega) (by omega) hown' hgrow; have hc1 := hv1.cell; have hf1 := hv1.frozen)
      refine ⟨?_, ?_, ⟨_, hv2, ?_⟩, hB.trans hb2, by have := hb2.size; omega⟩
      · exact Yours.appended hv (by decide) hrow (by simp) (by omega) hown' hgrow hat (by simp only [List.mem_singleton]; rintro B' rfl; exact ⟨by omega, by omega, hv.not_row (by decide) hrow⟩)
      · exact Kept.appended hrow hgrow (by omega) (fun j hj => by omega)
      · rw [List.length_append, List.map_append]
        show World.ownsRow _ _ _ _ _ _ (flatC (_ ++ [x]))
        rw [flatC_snoc]
        exact hr2
    case done =>
      rintro D ys A hD rfl ⟨⟨v, hv, hrow, _⟩, hB, hS⟩ hK
      have hc := hv.cell
      gi_wp2_with fail
      refine ⟨by simp, .inl ⟨_, _, rfl, run_takeDeferred hK, ?_⟩⟩
      refine ⟨_, results_tmp2 rfl _ _ _, v, by rw [HR.out]; rfl, ?_, hB.trans (belowK_b (w := w) (Nat.le_refl _) A D _ _ (by omega) hK rfl rfl)⟩
      rw [show (waySteps c t n).length = (way c t n).length from List.length_map _]
      exact ownsRow_weaken (ownsRow_putObj hrow _ hK rfl) (show w.heap.size ≤ w5.heap.size by omega)
    case stop =>
      rintro D c pre A _ _ h _
      exact h.elim
  · have hq : (wrong c t n != 0) = true := by simpa using hw
    have HV := Lib.hid (waySteps_wrong hw)
    clear hw
    gi_wp2_with fail
    refine ⟨trivial, (callsIn_wide.2 (HW.out _)).mono ?_⟩
    rintro e w3 ⟨rfl, hb3⟩
    gi_wp2_with fail
    refine ⟨_, results_tmp2 rfl _ _ _, _, rfl, ?_, ?_⟩
    · rw [HV.out]
      exact World.ownsRow_nil _ _ _ _
    · exact ((((Kept.refl (fun _ => False) w).alloc _).alloc _).trans (Kept.of_below hb3 _)).below (fun _ _ h => h)
end Siz
end Go.Proofs.Ythjgjfelbagljaa
