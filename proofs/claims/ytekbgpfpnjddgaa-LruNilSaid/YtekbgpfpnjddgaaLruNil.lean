/- A nil engine: what its functions answer, and the law LruNil. -/
import Derived.Test.YtekbgpfpnjddgaaLruLawA
import Derived.Test.YtekbgpfpnjddgaaPLruSame
import Derived.Great.BuildSlice
namespace Go.Proofs.Ytekbgpfpnjddgaa
open Go.RowKit
namespace Lru
section
variable {w : World}
theorem find_nil (key : Int) : Calls Try.prog 35 #[.pointer none, .int .u64 key] w fun e' w' => e' = .returned (.tuple #[.int .i32 0, .bool false]) ∧ w' = w := by
  go_enter Try.func35, Try.ntmps35
  go_wp2_with fail
  go_ret2
  exact ⟨rfl, rfl⟩
theorem Kind_nil (key : Int) : Calls Try.prog 13 #[.pointer none, .int .u64 key] w fun e' w' => e' = .returned (.int .i64 0) ∧ w' = w := by
  go_enter Try.func13, Try.ntmps13
  go_wp2_with (go_at_call 35; refine (find_nil key).mono ?_; rintro e' w' ⟨rfl, rfl⟩)
  go_ret
  exact ⟨rfl, rfl⟩
theorem Touch_nil (key : Int) : Calls Try.prog 23 #[.pointer none, .int .u64 key] w fun e' w' => e' = .returned (.bool false) ∧ w' = w := by
  go_enter Try.func23, Try.ntmps23
  go_wp2_with (go_at_call 35; refine (find_nil key).mono ?_; rintro e' w' ⟨rfl, rfl⟩)
  go_ret
  exact ⟨rfl, rfl⟩
theorem Drop_nil (key : Int) : Calls Try.prog 24 #[.pointer none, .int .u64 key] w fun e' w' => e' = .returned (.bool false) ∧ w' = w := by
  go_enter Try.func24, Try.ntmps24
  go_wp2_with (go_at_call 35; refine (find_nil key).mono ?_; rintro e' w' ⟨rfl, rfl⟩)
  go_ret
  exact ⟨rfl, rfl⟩
theorem Admit_nil (key : Int) : Calls Try.prog 20 #[.pointer none, .int .u64 key] w fun e' w' => e' = .returned (.tuple #[.slice none 0 0, .bool false]) ∧ w' = w := by
  go_enter Try.func20, Try.ntmps20
  go_wp2_with fail
  go_ret2
  exact ⟨rfl, rfl⟩
theorem Resize_nil (c : Conf) : Calls Try.prog 21 #[.pointer none, c.agg] w fun e' w' => e' = .returned (.tuple #[.slice none 0 0, .int .i64 9]) ∧ Calm w w' := by
  unfold Conf.agg
  go_enter Try.func21, Try.ntmps21
  go_wp2_with fail
  go_ret2
  exact ⟨rfl, (Kept.refl _ w).alloc _⟩
theorem Len_nil : Calls Try.prog 25 #[.pointer none] w fun e' w' => e' = .returned (.int .i64 0) ∧ w' = w := by
  go_enter Try.func25, Try.ntmps25
  go_wp2_with fail
  go_ret
  exact ⟨rfl, rfl⟩
theorem Nodes_nil : Calls Try.prog 26 #[.pointer none] w fun e' w' => e' = .returned (.int .i64 0) ∧ w' = w := by
  go_enter Try.func26, Try.ntmps26
  go_wp2_with (go_at_call 25; refine Len_nil.mono ?_; rintro e' w' ⟨rfl, rfl⟩)
  go_ret
  exact ⟨rfl, rfl⟩
theorem Moves_nil : Calls Try.prog 27 #[.pointer none] w fun e' w' => e' = .returned (.int .u64 0) ∧ w' = w := by
  go_enter Try.func27, Try.ntmps27
  go_wp2_with fail
  go_ret
  exact ⟨rfl, rfl⟩
theorem Keys_nil : Calls Try.prog 22 #[.pointer none] w fun e' w' => e' = .returned (.slice none 0 0) ∧ w' = w := by
  go_enter Try.func22, Try.ntmps22
  go_wp2_with fail
  go_ret
  exact ⟨rfl, rfl⟩
set_option maxRecDepth 100000 in
theorem State_nil : Calls Try.prog 11 #[.pointer none] w fun e' w' => e' = .returned (.agg (stCells ⟨0, 0, 0, 0⟩ zeroCnt (.slice none 0 0))) ∧ Calm w w' := by
  refine (callsIn_wide (n := 6)).1 ?_
  refine callsIn_of_wp_marks Try.func11 rfl trivial ?_ rfl
  simp only [Try.ntmps11, List.size_toArray, List.length_cons, List.length_nil, Nat.reduceAdd, Nat.reduceSub, Array.replicate_succ, Array.replicate_zero, List.push_toArray, List.append_toArray, List.nil_append, List.cons_append]
  refine wpIn_wide.2 ?_
  go_upto_region 2 with fail
  have hC : Calm w ((w.alloc (.cells #[.pointer none] 26)).alloc (.cells (stCells ⟨0, 0, 0, 0⟩ zeroCnt (.slice none 0 0)) 38)) := ((Kept.refl _ w).alloc _).alloc _
  have hcell : ((w.alloc (.cells #[.pointer none] 26)).alloc (.cells (stCells ⟨0, 0, 0, 0⟩ zeroCnt (.slice none 0 0)) 38)).heap[w.heap.size + 1]? = some (.cells (stCells ⟨0, 0, 0, 0⟩ zeroCnt (.slice none 0 0)) 38 (0, 0)) := by
    have := alloc_last (w.alloc (.cells #[.pointer none] 26)) (stCells ⟨0, 0, 0, 0⟩ zeroCnt (.slice none 0 0)) 38
    rw [World.size_alloc] at this
    exact this
  have HC := Lib.hid hC
  have HCELL := Lib.hid hcell
  have hsz : w.heap.size + 1 = (w.alloc (.cells #[.pointer none] 26)).heap.size := by simp
  have HSZ := Lib.hid hsz
  clear hC hcell hsz
  refine wp_region_lit ?_
  refine wpList_buildTo rfl 38 #[] rfl (some 11) rfl (stCells ⟨0, 0, 0, 0⟩ zeroCnt (.slice none 0 0)) (by kernel_rfl) ?_
  refine wpList_plain rfl fun K hK => wp_store_new 38 (.tmp 2) (.tmp 11) rfl (w.alloc (.cells #[.pointer none] 26)) (stCells ⟨0, 0, 0, 0⟩ zeroCnt (.slice none 0 0)) (stCells ⟨0, 0, 0, 0⟩ zeroCnt (.slice none 0 0)) (by rw [← HSZ.out]; rfl) rfl sizeSt rfl (by simp [stCells, Value.oneCell']) (hK _ _ ?_)
  refine wpList_nil ?_
  generalize (w.alloc (.cells #[.pointer none] 26)).alloc (.cells (stCells ⟨0, 0, 0, 0⟩ zeroCnt (.slice none 0 0)) 38) = w2 at HC HCELL ⊢
  go_wp2_with fail
  exact ⟨_, results_cell_row rfl _ _ (w.heap.size + 1) 38 (stCells ⟨0, 0, 0, 0⟩ zeroCnt (.slice none 0 0)) (0, 0) _ rfl HCELL.out Try.underlying38 rfl sizeSt, rfl, HC.out⟩
/-- The states of two that have nothing are the same. -/
theorem SameNil_calls : Calls Try.prog 18 #[.agg (stCells ⟨0, 0, 0, 0⟩ zeroCnt (.slice none 0 0)), .agg (stCells ⟨0, 0, 0, 0⟩ zeroCnt (.slice none 0 0))] w fun e' w' => e' = .returned (.bool true) ∧ Calm w w' := by
  refine (PLruLoads.hutchref12_Same.calls 4 0 0 0 0 0 none 0 [] none 0 [] none 0 [] 0 0 0 0 0 0 0 0 0 0 0 0 0 0 0 0 0 none 0 [] none 0 [] none 0 [] 0 0 0 0 0 0 0 0 0 0 0 0 true w ?_ (Nat.le_refl _) ?_ (Nat.le_refl _) ?_ (Nat.le_refl _) ?_ (Nat.le_refl _) ?_ (Nat.le_refl _) ?_ (Nat.le_refl _) ?_).mono ?_
  case refine_7 => rfl
  case refine_8 =>
    rintro e' w' ⟨he, hb⟩
    exact ⟨he, Kept.of_below hb _⟩
  all_goals exact ⟨rfl, by simp, fun h => absurd h (Nat.lt_irrefl 0)⟩
set_option maxRecDepth 100000 in
set_option maxHeartbeats 1000000 in
theorem LruNil_calls (key : Int) (c : Conf) : Calls Try.prog 6 #[.int .u64 key, c.agg] w fun e' w' => e' = .returned (.bool true) ∧ Below w.heap.size w w' := by
  unfold Conf.agg
  go_enter Try.func6, Try.ntmps6
  go_upto_region 3 with (go_at_call 20; refine (Admit_nil key).mono ?_; rintro e' w' ⟨rfl, rfl⟩)
  have HB := Lib.hid (Blk.new w #[.int .i64 c.pol, .int .i64 c.cap, .int .i64 c.quota, .int .i64 c.ghosts] 25)
  have C1 : Hid (Calm w _) := Lib.hid (Kept.alloc (Kept.refl _ w) (.cells #[.int .i64 c.pol, .int .i64 c.cap, .int .i64 c.quota, .int .i64 c.ghosts] 25))
  generalize w.alloc (.cells #[.int .i64 c.pol, .int .i64 c.cap, .int .i64 c.quota, .int .i64 c.ghosts] 25) = w1 at HB C1 ⊢
  generalize hN : w.heap.size = N at HB
  have b0 := HB.out.cell 0
  have b1 := HB.out.cell 1
  have b2 := HB.out.cell 2
  have b3 := HB.out.cell 3
  simp at b0 b1 b2 b3
  go_upto_region 4 with (go_at_call 21; refine (Resize_nil (w := w1) c).mono ?_; rintro e' w2 ⟨rfl, hc⟩; have C2 := Lib.hid (C1.out.trans hc); clear hc)
  clear b0 b1 b2 b3 HB C1
  go_wp2_with (first
    | (go_at_call 22; refine Keys_nil.mono ?_; rintro e' w' ⟨rfl, rfl⟩)
    | (go_at_call 23; refine (Touch_nil key).mono ?_; rintro e' w' ⟨rfl, rfl⟩)
    | (go_at_call 24; refine (Drop_nil key).mono ?_; rintro e' w' ⟨rfl, rfl⟩)
    | (go_at_call 13; refine (Kind_nil key).mono ?_; rintro e' w' ⟨rfl, rfl⟩)
    | (go_at_call 25; refine Len_nil.mono ?_; rintro e' w' ⟨rfl, rfl⟩)
    | (go_at_call 26; refine Nodes_nil.mono ?_; rintro e' w' ⟨rfl, rfl⟩)
    | (go_at_call 27; refine Moves_nil.mono ?_; rintro e' w' ⟨rfl, rfl⟩)
    | (go_at_call 11; refine State_nil.mono ?_; rintro e' w3 ⟨rfl, hc⟩; have C3 := Lib.hid (C2.out.trans hc); clear hc)
    | (go_at_call 18; refine SameNil_calls.mono ?_; rintro e' w4 ⟨rfl, hc⟩; have C4 := Lib.hid (C3.out.trans hc); clear hc)
    | (go_at_call 8; refine (alive_calls _).mono ?_; rintro e' w5 ⟨rfl, hb⟩; have B5 := Lib.hid hb; clear hb))
  go_ret
  exact ⟨rfl, (Calm.below C4.out).trans (B5.out.mono C4.out.size)⟩
theorem LruNil_row (w : World) (key : Int) (c : Conf) (_ : (Lit.int .u64 key).wf = true) : Calls Try.prog 6 #[.int .u64 key, .agg #[.int .i64 c.pol, .int .i64 c.cap, .int .i64 c.quota, .int .i64 c.ghosts]] w fun e' w' => e' = .returned (.bool true) ∧ Below w.heap.size w w' := LruNil_calls key c
end
end Lru
end Go.Proofs.Ytekbgpfpnjddgaa
