/- The law's own functions over chain: told, back. -/
import Derived.Test.YthjgjfelbagljaaChainH
namespace Go.Proofs.Ythjgjfelbagljaa
open Go.RowKit Go.Shelf
attribute [local go_sem] Oper.semAt_some
namespace Chain

theorem take_of_prefix {xs pre : List Int} {m : Nat} (h : pre <+: xs) (hm : m < pre.length) : pre.take m = xs.take m := by
  obtain ⟨r, rfl⟩ := h
  rw [List.take_append_of_le_length (by omega)]
theorem ownsRow_weaken {w : World} {base base' : Nat} {e : TypeId} {size : Nat} {v : Value} {n : Nat} {xs : List Value} (h : w.ownsRow base e size v n xs) (hb : base' ≤ base) : w.ownsRow base' e size v n xs := by
  refine ⟨h.1, ?_⟩
  rcases h.2 with h2 | ⟨g, cap, cur, hv, hg, r⟩
  · exact .inl h2
  · exact .inr ⟨g, cap, cur, hv, by omega, r⟩
theorem func_eq_nil (f : Fn) (a cs : Array Value) (W : World) : Sem.run Try.prog (binOp BinOp.eql 56 (.func f a cs) .nilFunc) W = .ok (.bool false) W := by kernel_rfl

set_option maxRecDepth 100000 in
set_option maxHeartbeats 1000000 in
theorem told_gen (w : World) (c : Option Addr) (i : Int) (m : Nat) (xs : List Int) (hm : (m : Int) ≤ 100000) (hlen : xs.length ≤ 65536)
    (hit : ∀ (w1 w0 : World), Calm w w1 → Calm (world4 w1 c i 49 36) w0 → ∀ Bs, Iter Fence.wide 5 Try.prog 58 #[.pointer (some ⟨w1.heap.size + 2, 0, none⟩), .pointer (some ⟨w1.heap.size + 3, 0, none⟩)] (fun x : Int => #[Value.int .i32 x]) (fun _ _ => True) (fun ys => ys = xs) (fun pre => pre <+: xs) xs.length Bs w0) :
    Calls Try.prog 19 #[.pointer c, .int .i64 i, .int .i64 (m : Int)] w fun e w' => ∃ v, e = .returned (.tuple #[v, .bool true]) ∧ w'.ownsRow w.heap.size 21 1 v (xs.take m).length ((xs.take m).map (Value.int .i32)) ∧ Below w.heap.size w w' := by
  refine (callsIn_wide (n := 6)).1 ?_
  obtain ⟨i0, hi, hz0, hz1, hz2⟩ := info_parts info21
  have HI := Lib.hid hi; have HZ0 := Lib.hid hz0; have HZ1 := Lib.hid hz1; have HZ2 := Lib.hid hz2
  have HIT := Lib.hid hit
  clear hi hz0 hz1 hz2 hit
  have hq := func_eq_nil
  refine callsIn_of_wp_marks Try.func19 rfl trivial ?_ rfl
  simp only [Try.ntmps19, List.size_toArray, List.length_cons, List.length_nil, Nat.reduceAdd, Nat.reduceSub, Array.replicate_succ, Array.replicate_zero, List.push_toArray, List.append_toArray, List.nil_append, List.cons_append]
  gi_wp2_with (refine ⟨trivial, ?_⟩; gi_at_call 28; refine (callsIn_wide.2 (All_calls _ _ _)).mono ?_; rintro e w' ⟨rfl, rfl⟩)
  have hit := HIT.out (w.alloc (.cells #[.int .i64 (m : Int)] 3))
  have hb0 := Boxed.new w 3 (.int .i64 (m : Int))
  have hC4 : Calm (w.alloc (.cells #[.int .i64 (m : Int)] 3)) (world4 (w.alloc (.cells #[.int .i64 (m : Int)] 3)) c i 49 36) := world4_calm _ _ _ _ _
  have hS4 : (world4 (w.alloc (.cells #[.int .i64 (m : Int)] 3)) c i 49 36).heap.size = w.heap.size + 5 := by rw [world4_size, World.size_alloc]
  rw [World.size_alloc] at hit
  generalize world4 (w.alloc (.cells #[.int .i64 (m : Int)] 3)) c i 49 36 = W4 at hit hC4 hS4 ⊢
  have hC0 : Calm w W4 := ((Kept.refl _ w).alloc _).trans hC4
  have hb4 : Boxed W4 w.heap.size 3 (.int .i64 (m : Int)) := (hC4.block w.heap.size (by simp) (fun h => h)).trans hb0
  have hbl := Boxed.new W4 45 (.slice none 0 0)
  have hb5 := hb4.alloc (.cells #[.slice none 0 0] 45)
  have hS5 : (W4.alloc (.cells #[.slice none 0 0] 45)).heap.size = w.heap.size + 6 := by rw [World.size_alloc, hS4]
  have hB5 : Below w.heap.size w (W4.alloc (.cells #[.slice none 0 0] 45)) := (hC0.alloc _).below (fun _ _ h => h)
  have hI5 := hit (W4.alloc (.cells #[.slice none 0 0] 45)) ((Kept.refl _ w).alloc _) ((Kept.refl _ W4).alloc _) [w.heap.size + 5]
  rw [hS4] at hbl ⊢
  generalize W4.alloc (.cells #[.slice none 0 0] 45) = W5 at hbl hb5 hS5 hB5 hI5 ⊢
  clear hit hC4 hS4 hC0 hb4 hb0 HIT
  refine rangeFunc_law rfl (by omega) (gf := 58) (lb := #[.pointer (some ⟨w.heap.size + 1 + 2, 0, none⟩), .pointer (some ⟨w.heap.size + 1 + 3, 0, none⟩)]) rfl trivial (enters_of Try.func58 (by kernel_rfl) rfl)
    hI5 (fun _ _ => trivial) (fun _ _ _ _ _ _ _ _ => trivial) (Below.refl _ _) (by simp; omega) ?snug (fun _ => rfl)
    (fun pre A => (∃ v, Boxed A (w.heap.size + 5) 45 v ∧ A.ownsRow (w.heap.size + 6) 21 1 v pre.length (pre.map (Value.int .i32)) ∧ pre.length ≤ m) ∧ (Below w.heap.size w A ∧ w.heap.size + 6 ≤ A.heap.size) ∧ Boxed A w.heap.size 3 (.int .i64 (m : Int)))
    (fun j pre A => j = .exit 0 ∧ m < pre.length ∧ (∃ v, Boxed A (w.heap.size + 5) 45 v ∧ A.ownsRow (w.heap.size + 6) 21 1 v (pre.take m).length ((pre.take m).map (Value.int .i32)) ∧ True) ∧ Below w.heap.size w A)
    ?abI ?abX ⟨⟨_, hbl, World.ownsRow_nil _ _ _ _, Nat.zero_le _⟩, ⟨hB5, by omega⟩, hb5⟩
    (fun x a' _ => a' = { tmps := #[Value.pointer c, Value.int IntKind.i64 i, Value.int IntKind.i64 (m : Int), undef, undef,
          Value.pointer (some ⟨w.heap.size, 0, none⟩), Value.slice none 0 0, Value.bool false,
          Value.func (Fn.func 58) #[] #[Value.pointer (some ⟨w.heap.size + 1 + 2, 0, none⟩), Value.pointer (some ⟨w.heap.size + 1 + 3, 0, none⟩)],
          Value.pointer (some ⟨w.heap.size + 5, 0, none⟩), .int .i32 x, Value.pointer c, Value.int IntKind.i64 i,
          Value.func (Fn.func 58) #[] #[Value.pointer (some ⟨w.heap.size + 1 + 2, 0, none⟩), Value.pointer (some ⟨w.heap.size + 1 + 3, 0, none⟩)],
          Value.func (Fn.func 58) #[] #[Value.pointer (some ⟨w.heap.size + 1 + 2, 0, none⟩), Value.pointer (some ⟨w.heap.size + 1 + 3, 0, none⟩)],
          Value.bool false,
          Value.func (Fn.func 58) #[] #[Value.pointer (some ⟨w.heap.size + 1 + 2, 0, none⟩), Value.pointer (some ⟨w.heap.size + 1 + 3, 0, none⟩)],
          .int .i32 x, undef, undef, undef, undef, undef, undef, undef, undef, undef], defers := [] })
    (fun _ _ _ _ _ h _ => h) ?assign ?body ?done ?stop
  case snug =>
    intro B hB o v g hc hv
    obtain rfl : B = w.heap.size + 5 := by simpa using hB
    exfalso
    cases o with
    | zero => rw [hbl.cell] at hc; cases hc; cases hv
    | succ o =>
      unfold World.cell? at hc
      rw [show W5.heap[w.heap.size + 5]? = _ from hbl] at hc
      simp at hc
  case abI =>
    refine (abiding_holds _ _ _ _ _ _ _ _ (by simp) (by omega)).and (Abiding.and ((abiding_below (by omega) (Nat.le_refl _)).and abiding_size) ?_)
    exact fun _ _ _ h hm => Boxed.mine h hm (by omega)
  case abX =>
    intro j s A A' h hm'
    obtain ⟨h1, h2, ⟨v, h3, h4, _⟩, h5⟩ := h
    exact ⟨h1, h2, ⟨v, Boxed.mine h3 hm' (by omega), ownsRow_mine h4 h3 (by simp) hm', trivial⟩, (abiding_below (Bs := [w.heap.size + 5]) (β := Unit) (by omega) (Nat.le_refl _)) () _ _ h5 hm'⟩
  case assign =>
    intro l' pre x A K hI hs hK
    gi_wp2
    exact hK _ _ (Yours.refl _ _ _) trivial hI rfl
  case body =>
    rintro l' pre x a' A hl' hrec ⟨⟨v, hv, hrow, hpm⟩, ⟨hB, hS⟩, hbm⟩ rfl hlt _
    have hc := hv.cell
    have hf := hv.frozen
    have hcm := hbm.cell
    have hpl : (pre.length : Int) ≤ 65536 := by omega
    have hlen' : pre.length + 1 ≤ 65536 := by omega
    have Hlt := Lib.hid hlt
    have hvs : ∃ a cp, v = .slice a pre.length cp := by
      rcases hrow.2 with ⟨rfl, h0⟩ | ⟨g, cap, _, rfl, _⟩
      · exact ⟨_, _, by rw [h0]⟩
      · exact ⟨_, _, rfl⟩
    obtain ⟨va, vc, rfl⟩ := hvs
    clear hlt hrec hl' hlen
    by_cases hfull : m ≤ pre.length
    · obtain rfl : pre.length = m := by omega
      clear hpm hfull
      gi_wp2_with fail
      refine ⟨Yours.refl _ _ _, rfl, by simp, ⟨_, hv, ?_, trivial⟩, hB⟩
      rw [List.take_left]
      exact hrow
    · have hroom : pre.length < m := by omega
      clear hpm hfull
      gi_wp2_with (gi_at_builtin; refine wpListIn_append_own_at _ rfl _ _ 45 rfl (w.heap.size + 6) 21 i0 (.int .i32 0) 1 4 Try.underlying45 HI.out HZ0.out HZ1.out HZ2.out rfl (by decide) _ _ _ rfl (hrow.alloc _) ⟨A.heap.size, 0, none⟩ 1 1 [.int .i32 x] rfl rfl (cell_one_new _ _ _) (by simp [Value.oneCell']) (by unfold maxLen; omega) (by omega) (by simp; omega) ?_; intro v' w1 hown' hgrow _ hat; obtain ⟨g', cap', rfl⟩ := ownsRow_succ hown'; obtain ⟨hv1, hv2, hr2, hb2⟩ := boxed_appended (n := w.heap.size) hv (by decide) hrow (by omega) (by omega) (by omega) hown' hgrow; have hc1 := hv1.cell; have hf1 := hv1.frozen)
      refine ⟨?_, trivial, ⟨_, hv2, by rw [List.length_append, List.map_append]; exact hr2, by simp; omega⟩, ⟨hB.trans hb2, by have := hb2.size; omega⟩, ?_⟩
      · exact Yours.appended hv (by decide) hrow (by simp) (by omega) hown' hgrow hat (by simp only [List.mem_singleton]; rintro B' rfl; exact ⟨by omega, by omega, hv.not_row (by decide) hrow⟩)
      · have h7 : Boxed w1 w.heap.size 3 (.int .i64 (m : Int)) := (hbm.alloc _).kept hgrow (fun e => by have := hrow.lt _ e.symm; omega)
        exact h7.other (by omega) _
  case done =>
    rintro D ys A hD rfl ⟨⟨v, hv, hrow, hpm⟩, ⟨hB, hS⟩, hbm⟩ hK
    have hc := hv.cell
    gi_wp2_with fail
    refine ⟨by simp, .inl ⟨_, _, rfl, run_takeDeferred hK, ?_⟩⟩
    refine ⟨_, results_tmp2 rfl _ _ _, v, rfl, ?_, hB.trans (belowK_b (w := w) (Nat.le_refl _) A D _ _ (by omega) hK rfl rfl)⟩
    rw [List.take_of_length_le hpm]
    exact ownsRow_weaken (ownsRow_putObj hrow _ hK rfl) (by omega)
  case stop =>
    rintro D j pre A hD hpre ⟨rfl, hlt, ⟨v, hv, hrow, _⟩, hB⟩ hK
    have hc := hv.cell
    gi_wp2_with fail
    refine ⟨by simp, .inl ⟨_, _, rfl, run_takeDeferred hK, ?_⟩⟩
    refine ⟨_, results_tmp2 rfl _ _ _, v, rfl, ?_, hB.trans (belowK_b (w := w) (Nat.le_refl _) A D _ _ (by omega) hK rfl rfl)⟩
    rw [← take_of_prefix hpre hlt]
    exact ownsRow_weaken (ownsRow_putObj hrow _ hK rfl) (by omega)

set_option maxRecDepth 100000 in
set_option maxHeartbeats 1000000 in
theorem back_gen (w : World) (c : Option Addr) (i : Int) (m : Nat) (xs : List Int) (hm : (m : Int) ≤ 100000) (hlen : xs.length ≤ 65536)
    (hit : ∀ (w1 w0 : World), Calm w w1 → Calm (world4 w1 c i 57 37) w0 → ∀ Bs, Iter Fence.wide 5 Try.prog 58 #[.pointer (some ⟨w1.heap.size + 2, 0, none⟩), .pointer (some ⟨w1.heap.size + 3, 0, none⟩)] (fun x : Int => #[Value.int .i32 x]) (fun _ _ => True) (fun ys => ys = xs) (fun pre => pre <+: xs) xs.length Bs w0) :
    Calls Try.prog 25 #[.pointer c, .int .i64 i, .int .i64 (m : Int)] w fun e w' => ∃ v, e = .returned (.tuple #[v, .bool true]) ∧ w'.ownsRow w.heap.size 21 1 v (xs.take m).length ((xs.take m).map (Value.int .i32)) ∧ Below w.heap.size w w' := by
  refine (callsIn_wide (n := 6)).1 ?_
  obtain ⟨i0, hi, hz0, hz1, hz2⟩ := info_parts info21
  have HI := Lib.hid hi; have HZ0 := Lib.hid hz0; have HZ1 := Lib.hid hz1; have HZ2 := Lib.hid hz2
  have HIT := Lib.hid hit
  clear hi hz0 hz1 hz2 hit
  have hq := func_eq_nil
  refine callsIn_of_wp_marks Try.func25 rfl trivial ?_ rfl
  simp only [Try.ntmps25, List.size_toArray, List.length_cons, List.length_nil, Nat.reduceAdd, Nat.reduceSub, Array.replicate_succ, Array.replicate_zero, List.push_toArray, List.append_toArray, List.nil_append, List.cons_append]
  gi_wp2_with (refine ⟨trivial, ?_⟩; gi_at_call 46; refine (callsIn_wide.2 (Back_calls _ _ _)).mono ?_; rintro e w' ⟨rfl, rfl⟩)
  have hit := HIT.out (w.alloc (.cells #[.int .i64 (m : Int)] 3))
  have hb0 := Boxed.new w 3 (.int .i64 (m : Int))
  have hC4 : Calm (w.alloc (.cells #[.int .i64 (m : Int)] 3)) (world4 (w.alloc (.cells #[.int .i64 (m : Int)] 3)) c i 57 37) := world4_calm _ _ _ _ _
  have hS4 : (world4 (w.alloc (.cells #[.int .i64 (m : Int)] 3)) c i 57 37).heap.size = w.heap.size + 5 := by rw [world4_size, World.size_alloc]
  rw [World.size_alloc] at hit
  generalize world4 (w.alloc (.cells #[.int .i64 (m : Int)] 3)) c i 57 37 = W4 at hit hC4 hS4 ⊢
  have hC0 : Calm w W4 := ((Kept.refl _ w).alloc _).trans hC4
  have hb4 : Boxed W4 w.heap.size 3 (.int .i64 (m : Int)) := (hC4.block w.heap.size (by simp) (fun h => h)).trans hb0
  have hbl := Boxed.new W4 45 (.slice none 0 0)
  have hb5 := hb4.alloc (.cells #[.slice none 0 0] 45)
  have hS5 : (W4.alloc (.cells #[.slice none 0 0] 45)).heap.size = w.heap.size + 6 := by rw [World.size_alloc, hS4]
  have hB5 : Below w.heap.size w (W4.alloc (.cells #[.slice none 0 0] 45)) := (hC0.alloc _).below (fun _ _ h => h)
  have hI5 := hit (W4.alloc (.cells #[.slice none 0 0] 45)) ((Kept.refl _ w).alloc _) ((Kept.refl _ W4).alloc _) [w.heap.size + 5]
  rw [hS4] at hbl ⊢
  generalize W4.alloc (.cells #[.slice none 0 0] 45) = W5 at hbl hb5 hS5 hB5 hI5 ⊢
  clear hit hC4 hS4 hC0 hb4 hb0 HIT
  refine rangeFunc_law rfl (by omega) (gf := 58) (lb := #[.pointer (some ⟨w.heap.size + 1 + 2, 0, none⟩), .pointer (some ⟨w.heap.size + 1 + 3, 0, none⟩)]) rfl trivial (enters_of Try.func58 (by kernel_rfl) rfl)
    hI5 (fun _ _ => trivial) (fun _ _ _ _ _ _ _ _ => trivial) (Below.refl _ _) (by simp; omega) ?snug (fun _ => rfl)
    (fun pre A => (∃ v, Boxed A (w.heap.size + 5) 45 v ∧ A.ownsRow (w.heap.size + 6) 21 1 v pre.length (pre.map (Value.int .i32)) ∧ pre.length ≤ m) ∧ (Below w.heap.size w A ∧ w.heap.size + 6 ≤ A.heap.size) ∧ Boxed A w.heap.size 3 (.int .i64 (m : Int)))
    (fun j pre A => j = .exit 0 ∧ m < pre.length ∧ (∃ v, Boxed A (w.heap.size + 5) 45 v ∧ A.ownsRow (w.heap.size + 6) 21 1 v (pre.take m).length ((pre.take m).map (Value.int .i32)) ∧ True) ∧ Below w.heap.size w A)
    ?abI ?abX ⟨⟨_, hbl, World.ownsRow_nil _ _ _ _, Nat.zero_le _⟩, ⟨hB5, by omega⟩, hb5⟩
    (fun x a' _ => a' = { tmps := #[Value.pointer c, Value.int IntKind.i64 i, Value.int IntKind.i64 (m : Int), undef, undef,
          Value.pointer (some ⟨w.heap.size, 0, none⟩), Value.slice none 0 0, Value.bool false,
          Value.func (Fn.func 58) #[] #[Value.pointer (some ⟨w.heap.size + 1 + 2, 0, none⟩), Value.pointer (some ⟨w.heap.size + 1 + 3, 0, none⟩)],
          Value.pointer (some ⟨w.heap.size + 5, 0, none⟩), .int .i32 x, Value.pointer c, Value.int IntKind.i64 i,
          Value.func (Fn.func 58) #[] #[Value.pointer (some ⟨w.heap.size + 1 + 2, 0, none⟩), Value.pointer (some ⟨w.heap.size + 1 + 3, 0, none⟩)],
          Value.func (Fn.func 58) #[] #[Value.pointer (some ⟨w.heap.size + 1 + 2, 0, none⟩), Value.pointer (some ⟨w.heap.size + 1 + 3, 0, none⟩)],
          Value.bool false,
          Value.func (Fn.func 58) #[] #[Value.pointer (some ⟨w.heap.size + 1 + 2, 0, none⟩), Value.pointer (some ⟨w.heap.size + 1 + 3, 0, none⟩)],
          .int .i32 x, undef, undef, undef, undef, undef, undef, undef, undef, undef], defers := [] })
    (fun _ _ _ _ _ h _ => h) ?assign ?body ?done ?stop
  case snug =>
    intro B hB o v g hc hv
    obtain rfl : B = w.heap.size + 5 := by simpa using hB
    exfalso
    cases o with
    | zero => rw [hbl.cell] at hc; cases hc; cases hv
    | succ o =>
      unfold World.cell? at hc
      rw [show W5.heap[w.heap.size + 5]? = _ from hbl] at hc
      simp at hc
  case abI =>
    refine (abiding_holds _ _ _ _ _ _ _ _ (by simp) (by omega)).and (Abiding.and ((abiding_below (by omega) (Nat.le_refl _)).and abiding_size) ?_)
    exact fun _ _ _ h hm => Boxed.mine h hm (by omega)
  case abX =>
    intro j s A A' h hm'
    obtain ⟨h1, h2, ⟨v, h3, h4, _⟩, h5⟩ := h
    exact ⟨h1, h2, ⟨v, Boxed.mine h3 hm' (by omega), ownsRow_mine h4 h3 (by simp) hm', trivial⟩, (abiding_below (Bs := [w.heap.size + 5]) (β := Unit) (by omega) (Nat.le_refl _)) () _ _ h5 hm'⟩
  case assign =>
    intro l' pre x A K hI hs hK
    gi_wp2
    exact hK _ _ (Yours.refl _ _ _) trivial hI rfl
  case body =>
    rintro l' pre x a' A hl' hrec ⟨⟨v, hv, hrow, hpm⟩, ⟨hB, hS⟩, hbm⟩ rfl hlt _
    have hc := hv.cell
    have hf := hv.frozen
    have hcm := hbm.cell
    have hpl : (pre.length : Int) ≤ 65536 := by omega
    have hlen' : pre.length + 1 ≤ 65536 := by omega
    have Hlt := Lib.hid hlt
    have hvs : ∃ a cp, v = .slice a pre.length cp := by
      rcases hrow.2 with ⟨rfl, h0⟩ | ⟨g, cap, _, rfl, _⟩
      · exact ⟨_, _, by rw [h0]⟩
      · exact ⟨_, _, rfl⟩
    obtain ⟨va, vc, rfl⟩ := hvs
    clear hlt hrec hl' hlen
    by_cases hfull : m ≤ pre.length
    · obtain rfl : pre.length = m := by omega
      clear hpm hfull
      gi_wp2_with fail
      refine ⟨Yours.refl _ _ _, rfl, by simp, ⟨_, hv, ?_, trivial⟩, hB⟩
      rw [List.take_left]
      exact hrow
    · have hroom : pre.length < m := by omega
      clear hpm hfull
      gi_wp2_with (gi_at_builtin; refine wpListIn_append_own_at _ rfl _ _ 45 rfl (w.heap.size + 6) 21 i0 (.int .i32 0) 1 4 Try.underlying45 HI.out HZ0.out HZ1.out HZ2.out rfl (by decide) _ _ _ rfl (hrow.alloc _) ⟨A.heap.size, 0, none⟩ 1 1 [.int .i32 x] rfl rfl (cell_one_new _ _ _) (by simp [Value.oneCell']) (by unfold maxLen; omega) (by omega) (by simp; omega) ?_; intro v' w1 hown' hgrow _ hat; obtain ⟨g', cap', rfl⟩ := ownsRow_succ hown'; obtain ⟨hv1, hv2, hr2, hb2⟩ := boxed_appended (n := w.heap.size) hv (by decide) hrow (by omega) (by omega) (by omega) hown' hgrow; have hc1 := hv1.cell; have hf1 := hv1.frozen)
      refine ⟨?_, trivial, ⟨_, hv2, by rw [List.length_append, List.map_append]; exact hr2, by simp; omega⟩, ⟨hB.trans hb2, by have := hb2.size; omega⟩, ?_⟩
      · exact Yours.appended hv (by decide) hrow (by simp) (by omega) hown' hgrow hat (by simp only [List.mem_singleton]; rintro B' rfl; exact ⟨by omega, by omega, hv.not_row (by decide) hrow⟩)
      · have h7 : Boxed w1 w.heap.size 3 (.int .i64 (m : Int)) := (hbm.alloc _).kept hgrow (fun e => by have := hrow.lt _ e.symm; omega)
        exact h7.other (by omega) _
  case done =>
    rintro D ys A hD rfl ⟨⟨v, hv, hrow, hpm⟩, ⟨hB, hS⟩, hbm⟩ hK
    have hc := hv.cell
    gi_wp2_with fail
    refine ⟨by simp, .inl ⟨_, _, rfl, run_takeDeferred hK, ?_⟩⟩
    refine ⟨_, results_tmp2 rfl _ _ _, v, rfl, ?_, hB.trans (belowK_b (w := w) (Nat.le_refl _) A D _ _ (by omega) hK rfl rfl)⟩
    rw [List.take_of_length_le hpm]
    exact ownsRow_weaken (ownsRow_putObj hrow _ hK rfl) (by omega)
  case stop =>
    rintro D j pre A hD hpre ⟨rfl, hlt, ⟨v, hv, hrow, _⟩, hB⟩ hK
    have hc := hv.cell
    gi_wp2_with fail
    refine ⟨by simp, .inl ⟨_, _, rfl, run_takeDeferred hK, ?_⟩⟩
    refine ⟨_, results_tmp2 rfl _ _ _, v, rfl, ?_, hB.trans (belowK_b (w := w) (Nat.le_refl _) A D _ _ (by omega) hK rfl rfl)⟩
    rw [← take_of_prefix hpre hlt]
    exact ownsRow_weaken (ownsRow_putObj hrow _ hK rfl) (by omega)
end Chain
end Go.Proofs.Ythjgjfelbagljaa
