/- Walks over chain: walk, as an iterator. -/
import Derived.Test.YthjgjfelbagljaaIterB
import Derived.Test.YthjgjfelbagljaaChainF
namespace Go.Proofs.Ythjgjfelbagljaa
open Go.RowKit Go.Shelf
attribute [local go_sem] Oper.semAt_some
namespace Chain

theorem info21 : (Try.prog.info? 21).map (fun i => (i.zero, i.size, i.bytes)) = some (some (.int .i32 0), 1, 4) := by kernel_rfl

set_option maxHeartbeats 400000 in
theorem steps_calls (ff fo : Fn) (fa fc oa oc : Array Value) (w : World) :
    Calls Try.prog 59 #[.func ff fa fc, .func fo oa oc] w fun e w' => e = .returned (.func (.func 62) #[] #[.pointer (some ⟨w.heap.size, 0, none⟩), .pointer (some ⟨w.heap.size + 1, 0, none⟩)]) ∧ w' = (w.alloc (.cells #[.func ff fa fc] 96)).alloc (.cells #[.func fo oa oc] 74) := by
  go_enter Try.func59, Try.ntmps59
  go_wp2_with fail
  go_ret
  exact ⟨rfl, rfl⟩

/-- What the range over steps keeps: all but the box of 'all', and what is new. -/
def But (p : Nat) (k : Nat) : Prop := k = p ∨ p + 3 ≤ k

set_option maxRecDepth 100000 in
set_option maxHeartbeats 1000000 in
theorem walk_iter (n : Nat) (hn : 3 ≤ n) (R : World → Prop) (p1 p2 ff fo : Nat) (fa fc oa oc : Array Value) (xs : List Int) (hnd : xs.Nodup) (hlen : xs.length ≤ 65536) (hL : Leads R p1 p2 ff fo fa fc oa oc xs)
    (Bs : List Nat) (w : World) (hRb : ∀ W, Below w.heap.size w W → R W) :
    Iter Fence.wide n Try.prog 58 #[.pointer (some ⟨p1, 0, none⟩), .pointer (some ⟨p2, 0, none⟩)] (fun x : Int => #[Value.int .i32 x]) (fun _ _ => True) (fun ys => ys = xs) (fun pre => pre <+: xs) xs.length Bs w := by
  intro l J Jx W hW hBs hsn hJ hJx hY h0
  have h1 : 1 ≤ n := by omega
  have hRall : ∀ W', Below W.heap.size W W' → R W' := fun W' h => hRb W' (hW.trans (h.mono hW.size))
  have HR := Lib.hid hRall
  have hb1 := hL.box1 _ (hRall _ ((Below.refl _ W).alloc (Nat.le_refl _) (.cells #[.slice none 0 0] 45)))
  have hb2 := hL.box2 _ (hRall _ ((Below.refl _ W).alloc (Nat.le_refl _) (.cells #[.slice none 0 0] 45)))
  obtain ⟨i0, hi, hz0, hz1, hz2⟩ := info_parts info21
  have HI := Lib.hid hi; have HZ0 := Lib.hid hz0; have HZ1 := Lib.hid hz1; have HZ2 := Lib.hid hz2
  clear hi hz0 hz1 hz2 hRall
  refine callsIn_of_wp_marks Try.func58 rfl trivial ?_ rfl
  simp only [Try.ntmps58, List.size_toArray, List.length_cons, List.length_nil, Nat.reduceAdd, Nat.reduceSub, Array.replicate_succ, Array.replicate_zero, List.push_toArray, List.append_toArray, List.nil_append, List.cons_append]
  gi_wp2_with (refine ⟨trivial, ?_⟩; gi_at_call 59; refine (callsIn_wide.2 (steps_calls _ _ _ _ _ _ _)).mono ?_; rintro e w' ⟨rfl, rfl⟩)
  obtain ⟨Wb, hWb⟩ : ∃ Wb, ((W.alloc (.cells #[.slice none 0 0] 45)).alloc (.cells #[.func (.func ff) fa fc] 96)).alloc (.cells #[.func (.func fo) oa oc] 74) = Wb := ⟨_, rfl⟩
  have hWbS : Wb.heap.size = W.heap.size + 3 := by rw [← hWb]; simp
  have hWbB : Below W.heap.size W Wb := by rw [← hWb]; exact (((Below.refl _ W).alloc (Nat.le_refl _) _).alloc (by simp) _).alloc (by simp; omega) _
  have hbox : Boxed Wb W.heap.size 45 (.slice none 0 0) := by rw [← hWb]; exact ((Boxed.new W _ _).alloc _).alloc _
  have hq1 : Boxed Wb (W.heap.size + 1) 96 (.func (.func ff) fa fc) := by
    rw [← hWb]
    have := Boxed.new (W.alloc (.cells #[.slice none 0 0] 45)) 96 (.func (.func ff) fa fc)
    rw [World.size_alloc] at this
    exact this.alloc _
  have hq2 : Boxed Wb (W.heap.size + 2) 74 (.func (.func fo) oa oc) := by
    rw [← hWb]
    have := Boxed.new ((W.alloc (.cells #[.slice none 0 0] 45)).alloc (.cells #[.func (.func ff) fa fc] 96)) 74 (.func (.func fo) oa oc)
    rw [World.size_alloc, World.size_alloc] at this
    exact this
  rw [hWb]
  clear hWb hb1 hb2
  have hq2' : Boxed Wb (W.heap.size + 1 + 1) 74 (.func (.func fo) oa oc) := hq2
  -- what the inner range keeps
  have hRin : ∀ A, Kept (But W.heap.size) Wb A → R A := fun A hA => HR.out A ⟨hA.os.trans hWbB.os, hA.tape.trans hWbB.tape, hA.output.trans hWbB.output, Nat.le_trans hWbB.size hA.size, fun k hk =>
    (hA.block k (by omega) (by unfold But; omega)).trans (hWbB.block k hk)⟩
  have hLin : Leads (fun A => Kept (But W.heap.size) Wb A) (W.heap.size + 1) (W.heap.size + 1 + 1) ff fo fa fc oa oc xs :=
    { box1 := fun A hA => (World.cell?_of_block (hA.block (W.heap.size + 1) (by omega) (by unfold But; omega))).trans hq1.cell
      box2 := fun A hA => (World.cell?_of_block (hA.block (W.heap.size + 1 + 1) (by omega) (by unfold But; omega))).trans hq2'.cell
      from_ := fun A hA => hL.from_ A (hRin A hA)
      on_ := fun A i hA hi => hL.on_ A i (hRin A hA) hi
      enters1 := hL.enters1
      enters2 := hL.enters2 }
  have hin : Iter Fence.wide (n - 1) Try.prog 62 #[.pointer (some ⟨W.heap.size + 1, 0, none⟩), .pointer (some ⟨W.heap.size + 1 + 1, 0, none⟩)] (fun x : Int => #[Value.int .i32 x]) (fun A B => Kept (But W.heap.size) A B) (fun ys => ys = xs) (fun pre => pre <+: xs) xs.length [W.heap.size] Wb :=
    fun l' J' Jx' A hA _ _ _ _ hY' h0' => steps_in (n - 1) (by omega) _ _ _ ff fo fa fc oa oc xs hnd hLin [W.heap.size] _ (fun X Y hX hXY => hX.trans hXY) l' J' Jx' A.heap.size hY' A
      (Kept.of_below hA _) (Nat.le_refl _) h0'
  refine rangeFunc_law rfl h1 (gf := 62) (lb := #[.pointer (some ⟨W.heap.size + 1, 0, none⟩), .pointer (some ⟨W.heap.size + 1 + 1, 0, none⟩)]) rfl trivial (enters_of Try.func62 (by kernel_rfl) rfl)
    hin (fun h k => h.trans k) ?kb (Below.refl _ _) (by simp; omega) ?snug (fun _ => rfl)
    (fun pre A => (∃ v, Boxed A W.heap.size 45 v ∧ A.ownsRow (W.heap.size + 3) 21 1 v pre.length (pre.map (Value.int .i32)) ∧ True) ∧ (Below W.heap.size W A ∧ W.heap.size + 3 ≤ A.heap.size))
    (fun _ _ _ => False)
    ?abI (fun _ _ _ _ h _ => h) ⟨⟨_, hbox, World.ownsRow_nil _ _ _ _, trivial⟩, hWbB, by omega⟩
    (fun x a' _ => a' = { tmps := #[Value.func (Fn.yield l) #[] #[], Value.pointer (some ⟨p1, 0, none⟩), Value.pointer (some ⟨p2, 0, none⟩), undef, Value.pointer (some ⟨W.heap.size, 0, none⟩), .int .i32 x, undef, undef, Value.func (Fn.func ff) fa fc,
          Value.func (Fn.func fo) oa oc, Value.func (Fn.func 62) #[] #[Value.pointer (some ⟨W.heap.size + 1, 0, none⟩), Value.pointer (some ⟨W.heap.size + 1 + 1, 0, none⟩)],
          .int .i32 x, undef, undef, undef, undef, undef, undef, undef, undef, undef, undef, undef, undef, undef, undef, undef], defers := [] })
    (fun _ _ _ _ _ h _ => h) ?assign ?body ?done ?stop
  case kb =>
    intro A l' o o' hl ho _ _
    exact ⟨rfl, rfl, rfl, by simp, fun k hk hF => World.putObj_heap_other (fun e => hF (by unfold But; omega))⟩
  case snug =>
    intro B hB o v g hc hv
    obtain rfl : B = W.heap.size := by simpa using hB
    exfalso
    cases o with
    | zero => rw [hbox.cell] at hc; cases hc; cases hv
    | succ o =>
      unfold World.cell? at hc
      rw [show Wb.heap[W.heap.size]? = _ from hbox] at hc
      simp at hc
  case abI => exact (abiding_holds _ _ _ _ _ _ _ _ (by simp) (by omega)).and ((abiding_below (by omega) (Nat.le_refl _)).and abiding_size)
  case assign =>
    intro l' pre x A K hI hs hK
    gi_wp2
    exact hK _ _ (Yours.refl _ _ _) (Kept.refl _ _) hI rfl
  case body =>
    rintro l' pre x a' A hl' hrec ⟨⟨v, hv, hrow, _⟩, hB, hS⟩ rfl hlt _
    have hc := hv.cell
    have hf := hv.frozen
    have hlen' : pre.length + 1 ≤ 65536 := by omega
    have Hlt := Lib.hid hlt
    clear hlt hrec hl' hlen
    gi_wp2_with (gi_at_builtin; refine wpListIn_append_own_at _ rfl _ _ 45 rfl (W.heap.size + 3) 21 i0 (.int .i32 0) 1 4 Try.underlying45 HI.out HZ0.out HZ1.out HZ2.out rfl (by decide) _ _ _ rfl (hrow.alloc _) ⟨A.heap.size, 0, none⟩ 1 1 [.int .i32 x] rfl rfl (cell_one_new _ _ _) (by simp [Value.oneCell']) (by unfold maxLen; omega) (by omega) (by simp; omega) ?_; intro v' w1 hown' hgrow _ hat; obtain ⟨g', cap', rfl⟩ := ownsRow_succ hown'; obtain ⟨hv1, hv2, hr2, hb2⟩ := boxed_appended (n := W.heap.size) hv (by decide) hrow (by omega) (by omega) (by omega) hown' hgrow; have hc1 := hv1.cell; have hf1 := hv1.frozen)
    refine ⟨?_, ?_, ⟨_, hv2, by rw [List.length_append, List.map_append]; exact hr2, trivial⟩, hB.trans hb2, by have := hb2.size; omega⟩
    · exact Yours.appended hv (by decide) hrow (by simp) (by omega) hown' hgrow hat (by simp only [List.mem_singleton]; rintro B' rfl; exact ⟨by omega, by omega, hv.not_row (by decide) hrow⟩)
    · exact Kept.appended hrow hgrow (.inl rfl) (fun j hj => .inr hj)
  case done =>
    rintro D ys A hD rfl ⟨⟨v, hv, hrow, _⟩, hB, hS⟩ hK
    have hJ0 : J [] A := hJ _ _ _ h0 (mine_of_below hB (Nat.le_refl _))
    have hno : ∀ g, W.heap.size ≤ g → ¬ Own Bs A g := by
      rintro g hg ⟨⟨B, hb, o, u, hc, hu⟩, _⟩
      have hBW := hBs B hb
      rw [hB.cell (p := ⟨B, o, none⟩) hBW] at hc
      have := hsn B hb o u g hc hu
      omega
    have hc := hv.cell
    have hlen2 : (ys.length : Int) ≤ 65536 := by omega
    have hDo : ∀ X, X.heap[D]? = some (.deferred (some [])) → ¬ Own Bs X D := fun X h => not_own h rfl
    rcases hrow.2 with ⟨rfl, h2⟩ | ⟨g, cap, cur, rfl, hbg, hgb, hnc, hcm, hcs, htake⟩
    · obtain rfl : ys = [] := List.eq_nil_of_length_eq_zero h2
      clear hrow
      gi_wp2_with fail
      gi_loopw [18] (fun i wr => i = .int .i64 0 ∧ wr = A) (fun _ _ => 0)
      case atStart => exact ⟨rfl, rfl⟩
      case round =>
        obtain ⟨rfl, rfl⟩ := hrel
        gi_wp2_with fail
        refine ⟨by simp, .inl ⟨_, _, rfl, run_takeDeferred hK, ?_⟩⟩
        exact ⟨_, results_none rfl _ _ _, ⟨_, rfl⟩, .inl ⟨_, rfl, hJ _ _ _ hJ0 (Mine.putObj _ hK rfl (by omega))⟩⟩
    · have hcells : ∀ k : Nat, k < ys.length → cur[k]? = some (.int .i32 (ys.getD k 0)) := fun k hk => by
        rw [← Array.getElem?_toList, ← List.getElem?_take_of_lt (j := ys.length * 1) (by omega), htake, List.getElem?_map, List.getElem?_eq_getElem hk, List.getD_eq_getElem?_getD, List.getElem?_eq_getElem hk]
        rfl
      have HC := Lib.hid hcells
      have HB := Lib.hid hBs
      clear hrow hcells htake
      have hg0 := hno g (by omega)
      gi_wp2_with fail
      gi_loopw [18] (fun i wr => ∃ k : Nat, k ≤ ys.length ∧ i = .int .i64 (k : Int) ∧ J (ys.take k) wr ∧ wr.heap[g]? = some (.cells cur 21 (0, 0)) ∧ ¬ Own Bs wr g ∧ W.heap.size ≤ wr.heap.size ∧ wr.heap[D]? = some (.deferred (some [])))
        (fun i _ => ys.length - (intOf i).toNat)
      case atStart => exact ⟨0, Nat.zero_le _, rfl, hJ0, hgb, hg0, by omega, hK⟩
      case round =>
        obtain ⟨k, hk, rfl, hJk, hgk, hok, hsk, hDk⟩ := hrel
        by_cases hlt : k < ys.length
        · have hcell : wr.cell? ⟨g, k, none⟩ = some (.int .i32 (ys.getD k 0)) := by
            simp only [World.cell?, hgk]
            exact HC.out k hlt
          obtain ⟨fn, tmps, assign, body, hy, hYr⟩ := hY (ys.take k) (ys.getD k 0) wr hJk (by simp; omega) hsk (by rw [take_snoc' hlt]; exact List.take_prefix _ _)
          have HY := Lib.hid hYr
          have Htk := Lib.hid (take_snoc' hlt)
          clear hYr
          generalize ys.getD k 0 = x at hcell hy HY Htk
          gi_wp2_with fail
          refine HY.out.mono ?_
          rintro e W' (⟨rfl, hJ', hy', _⟩ | ⟨rfl, hJx', hy'⟩)
          · gi_wp2_with fail
            go_roundw
            case rel =>
              have hglt := (Array.getElem?_eq_some_iff.1 hgk).1
              refine ⟨k + 1, by omega, by go_num, by rw [← Htk.out]; exact hJ', (hy'.kept g (by omega) hglt hok).trans hgk, fun h => ?_, Nat.le_trans hsk hy'.size, (hy'.kept D (by omega) (Array.getElem?_eq_some_iff.1 hDk).1 (hDo _ hDk)).trans hDk⟩
              rcases hy'.own g h with h | h | h
              · exact hok h
              · omega
              · omega
            case measure => simp [intOf]; omega
          · have hDk' := (hy'.kept D (by omega) (Array.getElem?_eq_some_iff.1 hDk).1 (hDo _ hDk)).trans hDk
            gi_wp2_with fail
            refine ⟨by simp, .inl ⟨_, _, rfl, run_takeDeferred hDk', ?_⟩⟩
            exact ⟨_, results_none rfl _ _ _, ⟨_, rfl⟩, .inr ⟨_, ⟨ys.drop (k + 1), by rw [Htk.out, List.take_append_drop]⟩, hJx _ _ _ hJx' (Mine.putObj _ hDk' rfl (by omega))⟩⟩
        · obtain rfl : k = ys.length := by omega
          gi_wp2_with fail
          refine ⟨by simp, .inl ⟨_, _, rfl, run_takeDeferred hDk, ?_⟩⟩
          exact ⟨_, results_none rfl _ _ _, ⟨_, rfl⟩, .inl ⟨_, rfl, hJ _ _ _ (by rw [List.take_length] at hJk; exact hJk) (Mine.putObj _ hDk rfl (by omega))⟩⟩
  case stop =>
    rintro D c pre A _ _ h _
    exact h.elim
end Chain
end Go.Proofs.Ythjgjfelbagljaa
