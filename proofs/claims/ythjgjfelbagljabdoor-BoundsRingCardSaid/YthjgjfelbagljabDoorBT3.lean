/- Printed by the kit's print.py, from a print with stand-ins for two functions; their contracts are proved by hand. -/
import Derived.Test.YthjgjfelbagljabDoorBT0
import Derived.Test.YthjgjfelbagljabDoorBT2
namespace Go.Proofs.YthjgjfelbagljabDoor.PBoundsTells
open Go.RowKit Go.Proofs.YthjgjfelbagljabDoorW.PrintWords Go.Proofs.YthjgjfelbagljabDoorW.PrintLast Go.Proofs.YthjgjfelbagljabDoorW.PrintMore
attribute [local go_sem] max2_int min2_int max_two min_two max_three min_three max_four min_four   -- for this text's walks alone
set_option linter.unusedVariables false
set_option linter.unusedSimpArgs false

/-! ### bounds_Broken: function 6 -/
def bounds_Broken.l0 : Nat → List Int → List Bool → Int → Option (List Int)
  | 0, _, _, _ => none
  | k + 1, x7, x71, x72 => if x72 < 9 then (if 0 ≤ x72 then (if x72 < (x71.length : Int) then (if rdOf false x71 x72 = true then (bounds_Broken.l0 k x7 x71 (wrap64 (x72 + 1))) else (if x7.length < 17592186044416 then (bounds_Broken.l0 k (x7 ++ [wrap64 (x72 + 1)]) x71 (wrap64 (x72 + 1))) else (none))) else (none)) else (none)) else (some x7)
def bounds_Broken.f (k : Nat) (a0_0 : Int) (a0_1 : Int) (a0_2 : Int) (a0_3 : Int) (a0_4 : Int) (a0_5 : Int) (a0_6 : Int) (a0_7 : Int) (a0_8 : Int) (a0_9 : Int) (a1 : Int) : Option (List Int) := (bounds_sum.f k (([a0_0, a0_1] : List Int))).bind fun bt129 => ((bounds_sum.f k (([a0_2] : List Int))).bind fun bt135 => ((bounds_wide_most.f bt135.1 bt135.2 bt129.1 bt129.2).bind fun t137 => ((bounds_sum.f k (([a0_4] : List Int))).bind fun bt141 => ((bounds_wide_most.f bt141.1 bt141.2 bt129.1 bt129.2).bind fun t143 => ((bounds_sum.f k (([a0_8] : List Int))).bind fun bt147 => ((bounds_wide_most.f bt147.1 bt147.2 bt129.1 bt129.2).bind fun t149 => ((bounds_done.f k a0_0 a0_1 a0_2 a0_3 a0_4 a0_5 a0_6 a0_7 a0_8 a0_9).bind fun bt150 => ((bounds_wide_times.f bt129.1 bt129.2 4).bind fun bt152 => ((bounds_wide_most.f bt150.1 bt150.2 bt152.1 bt152.2).bind fun t154 => ((bounds_sum.f k (([a0_9] : List Int))).bind fun bt158 => ((bounds_done.f k a0_0 a0_1 a0_2 a0_3 a0_4 a0_5 a0_6 a0_7 a0_8 a0_9).bind fun bt160 => ((bounds_wide_times.f bt160.1 bt160.2 (IntKind.u64.wrap (mx 0 a1))).bind fun bt162 => ((bounds_wide_most.f bt158.1 bt158.2 bt162.1 bt162.2).bind fun t164 => (bounds_Broken.l0 k ([] : List Int) (([t137, decide (a0_3 ≤ a0_2), t143, decide (a0_5 ≤ a0_1), decide (a0_6 ≤ a0_5), decide (a0_7 ≤ a0_0), t149, t154, t164] : List Bool)) 0))))))))))))))
theorem bounds_Broken.mono_l : ∀ k, (∀ y0 y1 y2, LeO (bounds_Broken.l0 k y0 y1 y2) (bounds_Broken.l0 (k + 1) y0 y1 y2))
  | 0 => fun _ _ _ r h => by simp [bounds_Broken.l0] at h
  | k + 1 => by
    have ih0 := bounds_Broken.mono_l k
    · intro y0 y1 y2
      unfold bounds_Broken.l0
      repeat' first
      | (with_reducible exact ih0 _ _ _)
      | (with_reducible exact bounds_done.mono _ _ _ _ _ _ _ _ _ _ _)
      | (with_reducible exact bounds_sum.mono _ _)
      | (with_reducible exact LeO.refl _)
      | (with_reducible exact LeO.none _)
      | (with_reducible refine LeO.ite ?_ ?_)
      | (with_reducible refine LeO.bind ?_ (fun _ => ?_))
      | exact ih0 _ _ _
      | exact bounds_done.mono _ _ _ _ _ _ _ _ _ _ _
      | exact bounds_sum.mono _ _
      | exact LeO.none _
      | refine LeO.ite ?_ ?_
      | refine LeO.bind ?_ (fun _ => ?_)
theorem bounds_Broken.mono : ∀ a0 a1 a2 a3 a4 a5 a6 a7 a8 a9 a10 k, LeO (bounds_Broken.f k a0 a1 a2 a3 a4 a5 a6 a7 a8 a9 a10) (bounds_Broken.f (k + 1) a0 a1 a2 a3 a4 a5 a6 a7 a8 a9 a10) := by
  intro a0 a1 a2 a3 a4 a5 a6 a7 a8 a9 a10 k
  have ih0 := bounds_Broken.mono_l k
  unfold bounds_Broken.f
  repeat' first
      | (with_reducible exact ih0 _ _ _)
      | (with_reducible exact bounds_done.mono _ _ _ _ _ _ _ _ _ _ _)
      | (with_reducible exact bounds_sum.mono _ _)
      | (with_reducible exact LeO.refl _)
      | (with_reducible exact LeO.none _)
      | (with_reducible refine LeO.ite ?_ ?_)
      | (with_reducible refine LeO.bind ?_ (fun _ => ?_))
      | exact ih0 _ _ _
      | exact bounds_done.mono _ _ _ _ _ _ _ _ _ _ _
      | exact bounds_sum.mono _ _
      | exact LeO.none _
      | refine LeO.ite ?_ ?_
      | refine LeO.bind ?_ (fun _ => ?_)
/-- What stands while bounds.Broken's nine answers are made: two boxes, and the rows that are laid so far. -/
structure BrokenAt (w0 : World) (g1 g2 : Nat) (c1 c2 : Array Value) (y1 y2 y3 y4 : List Int) (v1 v2 v3 v4 : Value) (b1 b2 b3 b4 : Bool) (w : World) : Prop where
  box1 : w.heap[g1]? = some (.cells c1 24 (0, 0))
  box2 : w.heap[g2]? = some (.cells c2 42 (0, 0))
  below : Below w0.heap.size w0 w
  s1 : b1 = true → Kd.R (Kd.int .u64) 22 w w0.heap.size (fun _ => True) v1 y1
  s2 : b2 = true → Kd.R (Kd.int .u64) 22 w w0.heap.size (fun _ => True) v2 y2
  s3 : b3 = true → Kd.R (Kd.int .u64) 22 w w0.heap.size (fun _ => True) v3 y3
  s4 : b4 = true → Kd.R (Kd.int .u64) 22 w w0.heap.size (fun _ => True) v4 y4
theorem BrokenAt.grow {w0 : World} {g1 g2 : Nat} {c1 c2 : Array Value} {y1 y2 y3 y4 : List Int} {v1 v2 v3 v4 : Value} {b1 b2 b3 b4 : Bool} {w w2 : World} (h : BrokenAt w0 g1 g2 c1 c2 y1 y2 y3 y4 v1 v2 v3 v4 b1 b2 b3 b4 w) (hb : Below w.heap.size w w2) :
    BrokenAt w0 g1 g2 c1 c2 y1 y2 y3 y4 v1 v2 v3 v4 b1 b2 b3 b4 w2 :=
  ⟨blk_below h.box1 hb, blk_below h.box2 hb, below_step h.below hb, fun e => Kd.R_below (h.s1 e) hb, fun e => Kd.R_below (h.s2 e) hb, fun e => Kd.R_below (h.s3 e) hb, fun e => Kd.R_below (h.s4 e) hb⟩
def Held47 (lo : Nat) (m : Value) (cs : Array Value) (w : World) : Prop := ∃ g : Nat, m = .pointer (some ⟨g, 0, none⟩) ∧ lo ≤ g ∧ w.heap[g]? = some (.cells cs 47 (0, 0))
theorem Held47.grow {lo : Nat} {m : Value} {cs : Array Value} {w w2 : World} (h : Held47 lo m cs w) (hb : Below w.heap.size w w2) : Held47 lo m cs w2 := by
  obtain ⟨g, e, hl, hc⟩ := h
  exact ⟨g, e, hl, blk_below hc hb⟩
theorem set9 {w : World} {g t : Nat} {z : Value} (h : w.heap[g]? = some (.cells #[z, z, z, z, z, z, z, z, z] t (0, 0))) (x0 x1 x2 x3 x4 x5 x6 x7 x8 : Value) : (((((((((w.setCell ⟨g, 0, none⟩ x0).setCell ⟨g, 1, none⟩ x1).setCell ⟨g, 2, none⟩ x2).setCell ⟨g, 3, none⟩ x3).setCell ⟨g, 4, none⟩ x4).setCell ⟨g, 5, none⟩ x5).setCell ⟨g, 6, none⟩ x6).setCell ⟨g, 7, none⟩ x7).setCell ⟨g, 8, none⟩ x8).heap[g]? = some (.cells #[x0, x1, x2, x3, x4, x5, x6, x7, x8] t (0, 0)) := by
  refine blk_put (cs := #[x0, x1, x2, x3, x4, x5, x6, x7, z]) ?_ 8 _ rfl
  refine blk_put (cs := #[x0, x1, x2, x3, x4, x5, x6, z, z]) ?_ 7 _ rfl
  refine blk_put (cs := #[x0, x1, x2, x3, x4, x5, z, z, z]) ?_ 6 _ rfl
  refine blk_put (cs := #[x0, x1, x2, x3, x4, z, z, z, z]) ?_ 5 _ rfl
  refine blk_put (cs := #[x0, x1, x2, x3, z, z, z, z, z]) ?_ 4 _ rfl
  refine blk_put (cs := #[x0, x1, x2, z, z, z, z, z, z]) ?_ 3 _ rfl
  refine blk_put (cs := #[x0, x1, z, z, z, z, z, z, z]) ?_ 2 _ rfl
  refine blk_put (cs := #[x0, z, z, z, z, z, z, z, z]) ?_ 1 _ rfl
  refine blk_put (cs := #[z, z, z, z, z, z, z, z, z]) ?_ 0 _ rfl
  exact h
theorem below9 {w0 w : World} {g : Nat} (h : Below w0.heap.size w0 w) (hg : w0.heap.size ≤ g) (x0 x1 x2 x3 x4 x5 x6 x7 x8 : Value) : Below w0.heap.size w0 (((((((((w.setCell ⟨g, 0, none⟩ x0).setCell ⟨g, 1, none⟩ x1).setCell ⟨g, 2, none⟩ x2).setCell ⟨g, 3, none⟩ x3).setCell ⟨g, 4, none⟩ x4).setCell ⟨g, 5, none⟩ x5).setCell ⟨g, 6, none⟩ x6).setCell ⟨g, 7, none⟩ x7).setCell ⟨g, 8, none⟩ x8) := by
  with_reducible exact below_set (below_set (below_set (below_set (below_set (below_set (below_set (below_set (below_set h hg) hg) hg) hg) hg) hg) hg) hg) hg
theorem idx47_0 (w : World) (x0 x1 x2 x3 x4 x5 x6 x7 x8 : Value) : (Instr.index 47 (.agg #[x0, x1, x2, x3, x4, x5, x6, x7, x8]) (.int .i64 0)).run Tryd.prog w = .ok x0 w := by kernel_rfl
theorem idx47_1 (w : World) (x0 x1 x2 x3 x4 x5 x6 x7 x8 : Value) : (Instr.index 47 (.agg #[x0, x1, x2, x3, x4, x5, x6, x7, x8]) (.int .i64 1)).run Tryd.prog w = .ok x1 w := by kernel_rfl
theorem idx47_2 (w : World) (x0 x1 x2 x3 x4 x5 x6 x7 x8 : Value) : (Instr.index 47 (.agg #[x0, x1, x2, x3, x4, x5, x6, x7, x8]) (.int .i64 2)).run Tryd.prog w = .ok x2 w := by kernel_rfl
theorem idx47_3 (w : World) (x0 x1 x2 x3 x4 x5 x6 x7 x8 : Value) : (Instr.index 47 (.agg #[x0, x1, x2, x3, x4, x5, x6, x7, x8]) (.int .i64 3)).run Tryd.prog w = .ok x3 w := by kernel_rfl
theorem idx47_4 (w : World) (x0 x1 x2 x3 x4 x5 x6 x7 x8 : Value) : (Instr.index 47 (.agg #[x0, x1, x2, x3, x4, x5, x6, x7, x8]) (.int .i64 4)).run Tryd.prog w = .ok x4 w := by kernel_rfl
theorem idx47_5 (w : World) (x0 x1 x2 x3 x4 x5 x6 x7 x8 : Value) : (Instr.index 47 (.agg #[x0, x1, x2, x3, x4, x5, x6, x7, x8]) (.int .i64 5)).run Tryd.prog w = .ok x5 w := by kernel_rfl
theorem idx47_6 (w : World) (x0 x1 x2 x3 x4 x5 x6 x7 x8 : Value) : (Instr.index 47 (.agg #[x0, x1, x2, x3, x4, x5, x6, x7, x8]) (.int .i64 6)).run Tryd.prog w = .ok x6 w := by kernel_rfl
theorem idx47_7 (w : World) (x0 x1 x2 x3 x4 x5 x6 x7 x8 : Value) : (Instr.index 47 (.agg #[x0, x1, x2, x3, x4, x5, x6, x7, x8]) (.int .i64 7)).run Tryd.prog w = .ok x7 w := by kernel_rfl
theorem idx47_8 (w : World) (x0 x1 x2 x3 x4 x5 x6 x7 x8 : Value) : (Instr.index 47 (.agg #[x0, x1, x2, x3, x4, x5, x6, x7, x8]) (.int .i64 8)).run Tryd.prog w = .ok x8 w := by kernel_rfl
def bounds_Broken.T2 : Bool × List (List Nat × List Nat) := (true, [([], []), ([0], [0]), ([1], [1]), ([2], [2]), ([], []), ([3, 4, 3], [3, 4]), ([], []), ([6], [6]), ([], []), ([8], [8]), ([7, 9], [7, 9]), ([], []), ([11], [11]), ([12], [12]), ([13, 5], [13]), ([], []), ([14, 15, 14], [14, 15]), ([], []), ([17], [17]), ([], []), ([19], [19]), ([18, 20], [18, 20]), ([], []), ([22], [22]), ([], []), ([24], [24]), ([23, 25], [23, 25]), ([], []), ([27], [27]), ([], []), ([29], [29]), ([28, 30], [28, 30]), ([], []), ([32], [32]), ([33], [33]), ([34, 16], [34]), ([], []), ([35, 36, 35], [35, 36]), ([], []), ([38, 37], [38]), ([], []), ([40, 39], [40]), ([39, 41, 41], [39, 41]), ([], []), ([43], [43]), ([44], [44]), ([45, 42], [45]), ([], []), ([47, 46], [47]), ([], []), ([49], [49]), ([50], [50]), ([48, 51, 48], [48, 51]), ([46, 52, 52], [46, 52]), ([5, 10, 16, 21, 26, 31, 37, 42, 53], [5, 10, 16, 21, 26, 31, 37, 42, 53]), ([], []), ([55, 54, 53, 0, 1, 2, 3, 4, 5, 6, 7, 8, 9, 10, 11, 12, 13, 14, 15, 16, 17, 18, 19, 20, 21, 22, 23, 24, 25, 26, 27, 28, 29, 30, 31, 32, 33, 34, 35, 36, 37, 38, 39, 40, 41, 42, 43, 44, 45, 46, 47, 48, 49, 50, 51, 52, 53, 54, 55], [54, 55])])
def bounds_Broken.B2 : List Nat := [0, 1, 3, 7, 0, 31, 0, 64, 0, 256, 960, 0, 2048, 6144, 14399, 0, 63551, 0, 131072, 0, 524288, 1966080, 0, 4194304, 0, 16777216, 62914560, 0, 134217728, 0, 536870912, 2013265920, 0, 4294967296, 12884901888, 30064900159, 0, 133144115263, 0, 545460975679, 0, 2194728417343, 4393751672895, 0, 8796093022208, 26388279066624, 70364449339455, 0, 281470681872447, 0, 562949953421312, 1688849860263936, 4503595332532287, 9007194959902783, 18014398509481983, 0, 72057594037927935]
theorem bounds_Broken.tab2 : rtab .any (opsOf Tryd.f6 2) = bounds_Broken.T2 := by kernel_rfl
theorem bounds_Broken.bits2 : waitsOk bounds_Broken.T2.2 bounds_Broken.B2 = true := by kernel_rfl
set_option maxHeartbeats 8000000 in
set_option maxRecDepth 100000 in
theorem bounds_Broken.calls (k : Nat) (a0_0 : Int) (a0_1 : Int) (a0_2 : Int) (a0_3 : Int) (a0_4 : Int) (a0_5 : Int) (a0_6 : Int) (a0_7 : Int) (a0_8 : Int) (a0_9 : Int) (a1 : Int) (r : List Int) (w : World) (h : bounds_Broken.f k a0_0 a0_1 a0_2 a0_3 a0_4 a0_5 a0_6 a0_7 a0_8 a0_9 a1 = some r) :
    Calls Tryd.prog 6 #[.agg #[.int .u64 a0_0, .int .u64 a0_1, .int .u64 a0_2, .int .u64 a0_3, .int .u64 a0_4, .int .u64 a0_5, .int .u64 a0_6, .int .u64 a0_7, .int .u64 a0_8, .int .u64 a0_9], .int .i64 a1] w fun e w' => ∃ v0_ : Value, e = .returned (v0_) ∧ Kd.R (Kd.int .i64) 3 w' w.heap.size (fun _ => True) v0_ r ∧ Below w.heap.size w w' := by
  have hu24 := Tryd.underlying24
  have hu42 := Tryd.underlying42
  have HB := Aside0.mk (Below.refl w.heap.size w)
  have H : ((bounds_sum.f k (([a0_0, a0_1] : List Int))).bind fun bt129 => ((bounds_sum.f k (([a0_2] : List Int))).bind fun bt135 => ((bounds_wide_most.f bt135.1 bt135.2 bt129.1 bt129.2).bind fun t137 => ((bounds_sum.f k (([a0_4] : List Int))).bind fun bt141 => ((bounds_wide_most.f bt141.1 bt141.2 bt129.1 bt129.2).bind fun t143 => ((bounds_sum.f k (([a0_8] : List Int))).bind fun bt147 => ((bounds_wide_most.f bt147.1 bt147.2 bt129.1 bt129.2).bind fun t149 => ((bounds_done.f k a0_0 a0_1 a0_2 a0_3 a0_4 a0_5 a0_6 a0_7 a0_8 a0_9).bind fun bt150 => ((bounds_wide_times.f bt129.1 bt129.2 4).bind fun bt152 => ((bounds_wide_most.f bt150.1 bt150.2 bt152.1 bt152.2).bind fun t154 => ((bounds_sum.f k (([a0_9] : List Int))).bind fun bt158 => ((bounds_done.f k a0_0 a0_1 a0_2 a0_3 a0_4 a0_5 a0_6 a0_7 a0_8 a0_9).bind fun bt160 => ((bounds_wide_times.f bt160.1 bt160.2 (IntKind.u64.wrap (mx 0 a1))).bind fun bt162 => ((bounds_wide_most.f bt158.1 bt158.2 bt162.1 bt162.2).bind fun t164 => (bounds_Broken.l0 k ([] : List Int) (([t137, decide (a0_3 ≤ a0_2), t143, decide (a0_5 ≤ a0_1), decide (a0_6 ≤ a0_5), decide (a0_7 ≤ a0_0), t149, t154, t164] : List Bool)) 0))))))))))))))) = some r := h
  clear h
  obtain ⟨y126, hy126⟩ : ∃ y_ : List Int, y_ = (([a0_0, a0_1] : List Int)) := ⟨_, rfl⟩
  replace H : ((bounds_sum.f k y126).bind fun bt129 => ((bounds_sum.f k (([a0_2] : List Int))).bind fun bt135 => ((bounds_wide_most.f bt135.1 bt135.2 bt129.1 bt129.2).bind fun t137 => ((bounds_sum.f k (([a0_4] : List Int))).bind fun bt141 => ((bounds_wide_most.f bt141.1 bt141.2 bt129.1 bt129.2).bind fun t143 => ((bounds_sum.f k (([a0_8] : List Int))).bind fun bt147 => ((bounds_wide_most.f bt147.1 bt147.2 bt129.1 bt129.2).bind fun t149 => ((bounds_done.f k a0_0 a0_1 a0_2 a0_3 a0_4 a0_5 a0_6 a0_7 a0_8 a0_9).bind fun bt150 => ((bounds_wide_times.f bt129.1 bt129.2 4).bind fun bt152 => ((bounds_wide_most.f bt150.1 bt150.2 bt152.1 bt152.2).bind fun t154 => ((bounds_sum.f k (([a0_9] : List Int))).bind fun bt158 => ((bounds_done.f k a0_0 a0_1 a0_2 a0_3 a0_4 a0_5 a0_6 a0_7 a0_8 a0_9).bind fun bt160 => ((bounds_wide_times.f bt160.1 bt160.2 (IntKind.u64.wrap (mx 0 a1))).bind fun bt162 => ((bounds_wide_most.f bt158.1 bt158.2 bt162.1 bt162.2).bind fun t164 => (bounds_Broken.l0 k ([] : List Int) (([t137, decide (a0_3 ≤ a0_2), t143, decide (a0_5 ≤ a0_1), decide (a0_6 ≤ a0_5), decide (a0_7 ≤ a0_0), t149, t154, t164] : List Bool)) 0))))))))))))))) = some r := by first | (rw [hy126]; with_reducible exact H) | (have H2_ := (Option.bind_some _ _).symm.trans H; rw [hy126]; with_reducible exact H2_) | (have H2_ := (Option.bind_some _ _).symm.trans H; with_reducible exact H2_) | with_reducible exact H | (rw [hy126]; exact H) | exact H
  have Ny126 := Aside0.mk hy126
  clear hy126
  replace H := Option.bind_eq_some_iff.mp H
  obtain ⟨⟨t129, t130⟩, A30, H⟩ := H
  replace H : ((bounds_sum.f k (([a0_2] : List Int))).bind fun bt135 => ((bounds_wide_most.f bt135.1 bt135.2 t129 t130).bind fun t137 => ((bounds_sum.f k (([a0_4] : List Int))).bind fun bt141 => ((bounds_wide_most.f bt141.1 bt141.2 t129 t130).bind fun t143 => ((bounds_sum.f k (([a0_8] : List Int))).bind fun bt147 => ((bounds_wide_most.f bt147.1 bt147.2 t129 t130).bind fun t149 => ((bounds_done.f k a0_0 a0_1 a0_2 a0_3 a0_4 a0_5 a0_6 a0_7 a0_8 a0_9).bind fun bt150 => ((bounds_wide_times.f t129 t130 4).bind fun bt152 => ((bounds_wide_most.f bt150.1 bt150.2 bt152.1 bt152.2).bind fun t154 => ((bounds_sum.f k (([a0_9] : List Int))).bind fun bt158 => ((bounds_done.f k a0_0 a0_1 a0_2 a0_3 a0_4 a0_5 a0_6 a0_7 a0_8 a0_9).bind fun bt160 => ((bounds_wide_times.f bt160.1 bt160.2 (IntKind.u64.wrap (mx 0 a1))).bind fun bt162 => ((bounds_wide_most.f bt158.1 bt158.2 bt162.1 bt162.2).bind fun t164 => (bounds_Broken.l0 k ([] : List Int) (([t137, decide (a0_3 ≤ a0_2), t143, decide (a0_5 ≤ a0_1), decide (a0_6 ≤ a0_5), decide (a0_7 ≤ a0_0), t149, t154, t164] : List Bool)) 0)))))))))))))) = some r := H
  have A3 := Aside0.mk A30
  clear A30
  obtain ⟨y132, hy132⟩ : ∃ y_ : List Int, y_ = (([a0_2] : List Int)) := ⟨_, rfl⟩
  replace H : ((bounds_sum.f k y132).bind fun bt135 => ((bounds_wide_most.f bt135.1 bt135.2 t129 t130).bind fun t137 => ((bounds_sum.f k (([a0_4] : List Int))).bind fun bt141 => ((bounds_wide_most.f bt141.1 bt141.2 t129 t130).bind fun t143 => ((bounds_sum.f k (([a0_8] : List Int))).bind fun bt147 => ((bounds_wide_most.f bt147.1 bt147.2 t129 t130).bind fun t149 => ((bounds_done.f k a0_0 a0_1 a0_2 a0_3 a0_4 a0_5 a0_6 a0_7 a0_8 a0_9).bind fun bt150 => ((bounds_wide_times.f t129 t130 4).bind fun bt152 => ((bounds_wide_most.f bt150.1 bt150.2 bt152.1 bt152.2).bind fun t154 => ((bounds_sum.f k (([a0_9] : List Int))).bind fun bt158 => ((bounds_done.f k a0_0 a0_1 a0_2 a0_3 a0_4 a0_5 a0_6 a0_7 a0_8 a0_9).bind fun bt160 => ((bounds_wide_times.f bt160.1 bt160.2 (IntKind.u64.wrap (mx 0 a1))).bind fun bt162 => ((bounds_wide_most.f bt158.1 bt158.2 bt162.1 bt162.2).bind fun t164 => (bounds_Broken.l0 k ([] : List Int) (([t137, decide (a0_3 ≤ a0_2), t143, decide (a0_5 ≤ a0_1), decide (a0_6 ≤ a0_5), decide (a0_7 ≤ a0_0), t149, t154, t164] : List Bool)) 0)))))))))))))) = some r := by first | (rw [hy132]; with_reducible exact H) | (have H2_ := (Option.bind_some _ _).symm.trans H; rw [hy132]; with_reducible exact H2_) | (have H2_ := (Option.bind_some _ _).symm.trans H; with_reducible exact H2_) | with_reducible exact H | (rw [hy132]; exact H) | exact H
  have Ny132 := Aside0.mk hy132
  clear hy132
  replace H := Option.bind_eq_some_iff.mp H
  obtain ⟨⟨t135, t136⟩, A40, H⟩ := H
  replace H : ((bounds_wide_most.f t135 t136 t129 t130).bind fun t137 => ((bounds_sum.f k (([a0_4] : List Int))).bind fun bt141 => ((bounds_wide_most.f bt141.1 bt141.2 t129 t130).bind fun t143 => ((bounds_sum.f k (([a0_8] : List Int))).bind fun bt147 => ((bounds_wide_most.f bt147.1 bt147.2 t129 t130).bind fun t149 => ((bounds_done.f k a0_0 a0_1 a0_2 a0_3 a0_4 a0_5 a0_6 a0_7 a0_8 a0_9).bind fun bt150 => ((bounds_wide_times.f t129 t130 4).bind fun bt152 => ((bounds_wide_most.f bt150.1 bt150.2 bt152.1 bt152.2).bind fun t154 => ((bounds_sum.f k (([a0_9] : List Int))).bind fun bt158 => ((bounds_done.f k a0_0 a0_1 a0_2 a0_3 a0_4 a0_5 a0_6 a0_7 a0_8 a0_9).bind fun bt160 => ((bounds_wide_times.f bt160.1 bt160.2 (IntKind.u64.wrap (mx 0 a1))).bind fun bt162 => ((bounds_wide_most.f bt158.1 bt158.2 bt162.1 bt162.2).bind fun t164 => (bounds_Broken.l0 k ([] : List Int) (([t137, decide (a0_3 ≤ a0_2), t143, decide (a0_5 ≤ a0_1), decide (a0_6 ≤ a0_5), decide (a0_7 ≤ a0_0), t149, t154, t164] : List Bool)) 0))))))))))))) = some r := H
  have A4 := Aside0.mk A40
  clear A40
  replace H := Option.bind_eq_some_iff.mp H
  obtain ⟨t137, A50, H⟩ := H
  replace H : ((bounds_sum.f k (([a0_4] : List Int))).bind fun bt141 => ((bounds_wide_most.f bt141.1 bt141.2 t129 t130).bind fun t143 => ((bounds_sum.f k (([a0_8] : List Int))).bind fun bt147 => ((bounds_wide_most.f bt147.1 bt147.2 t129 t130).bind fun t149 => ((bounds_done.f k a0_0 a0_1 a0_2 a0_3 a0_4 a0_5 a0_6 a0_7 a0_8 a0_9).bind fun bt150 => ((bounds_wide_times.f t129 t130 4).bind fun bt152 => ((bounds_wide_most.f bt150.1 bt150.2 bt152.1 bt152.2).bind fun t154 => ((bounds_sum.f k (([a0_9] : List Int))).bind fun bt158 => ((bounds_done.f k a0_0 a0_1 a0_2 a0_3 a0_4 a0_5 a0_6 a0_7 a0_8 a0_9).bind fun bt160 => ((bounds_wide_times.f bt160.1 bt160.2 (IntKind.u64.wrap (mx 0 a1))).bind fun bt162 => ((bounds_wide_most.f bt158.1 bt158.2 bt162.1 bt162.2).bind fun t164 => (bounds_Broken.l0 k ([] : List Int) (([t137, decide (a0_3 ≤ a0_2), t143, decide (a0_5 ≤ a0_1), decide (a0_6 ≤ a0_5), decide (a0_7 ≤ a0_0), t149, t154, t164] : List Bool)) 0)))))))))))) = some r := H
  have A5 := Aside0.mk A50
  clear A50
  obtain ⟨y138, hy138⟩ : ∃ y_ : List Int, y_ = (([a0_4] : List Int)) := ⟨_, rfl⟩
  replace H : ((bounds_sum.f k y138).bind fun bt141 => ((bounds_wide_most.f bt141.1 bt141.2 t129 t130).bind fun t143 => ((bounds_sum.f k (([a0_8] : List Int))).bind fun bt147 => ((bounds_wide_most.f bt147.1 bt147.2 t129 t130).bind fun t149 => ((bounds_done.f k a0_0 a0_1 a0_2 a0_3 a0_4 a0_5 a0_6 a0_7 a0_8 a0_9).bind fun bt150 => ((bounds_wide_times.f t129 t130 4).bind fun bt152 => ((bounds_wide_most.f bt150.1 bt150.2 bt152.1 bt152.2).bind fun t154 => ((bounds_sum.f k (([a0_9] : List Int))).bind fun bt158 => ((bounds_done.f k a0_0 a0_1 a0_2 a0_3 a0_4 a0_5 a0_6 a0_7 a0_8 a0_9).bind fun bt160 => ((bounds_wide_times.f bt160.1 bt160.2 (IntKind.u64.wrap (mx 0 a1))).bind fun bt162 => ((bounds_wide_most.f bt158.1 bt158.2 bt162.1 bt162.2).bind fun t164 => (bounds_Broken.l0 k ([] : List Int) (([t137, decide (a0_3 ≤ a0_2), t143, decide (a0_5 ≤ a0_1), decide (a0_6 ≤ a0_5), decide (a0_7 ≤ a0_0), t149, t154, t164] : List Bool)) 0)))))))))))) = some r := by first | (rw [hy138]; with_reducible exact H) | (have H2_ := (Option.bind_some _ _).symm.trans H; rw [hy138]; with_reducible exact H2_) | (have H2_ := (Option.bind_some _ _).symm.trans H; with_reducible exact H2_) | with_reducible exact H | (rw [hy138]; exact H) | exact H
  have Ny138 := Aside0.mk hy138
  clear hy138
  replace H := Option.bind_eq_some_iff.mp H
  obtain ⟨⟨t141, t142⟩, A60, H⟩ := H
  replace H : ((bounds_wide_most.f t141 t142 t129 t130).bind fun t143 => ((bounds_sum.f k (([a0_8] : List Int))).bind fun bt147 => ((bounds_wide_most.f bt147.1 bt147.2 t129 t130).bind fun t149 => ((bounds_done.f k a0_0 a0_1 a0_2 a0_3 a0_4 a0_5 a0_6 a0_7 a0_8 a0_9).bind fun bt150 => ((bounds_wide_times.f t129 t130 4).bind fun bt152 => ((bounds_wide_most.f bt150.1 bt150.2 bt152.1 bt152.2).bind fun t154 => ((bounds_sum.f k (([a0_9] : List Int))).bind fun bt158 => ((bounds_done.f k a0_0 a0_1 a0_2 a0_3 a0_4 a0_5 a0_6 a0_7 a0_8 a0_9).bind fun bt160 => ((bounds_wide_times.f bt160.1 bt160.2 (IntKind.u64.wrap (mx 0 a1))).bind fun bt162 => ((bounds_wide_most.f bt158.1 bt158.2 bt162.1 bt162.2).bind fun t164 => (bounds_Broken.l0 k ([] : List Int) (([t137, decide (a0_3 ≤ a0_2), t143, decide (a0_5 ≤ a0_1), decide (a0_6 ≤ a0_5), decide (a0_7 ≤ a0_0), t149, t154, t164] : List Bool)) 0))))))))))) = some r := H
  have A6 := Aside0.mk A60
  clear A60
  replace H := Option.bind_eq_some_iff.mp H
  obtain ⟨t143, A70, H⟩ := H
  replace H : ((bounds_sum.f k (([a0_8] : List Int))).bind fun bt147 => ((bounds_wide_most.f bt147.1 bt147.2 t129 t130).bind fun t149 => ((bounds_done.f k a0_0 a0_1 a0_2 a0_3 a0_4 a0_5 a0_6 a0_7 a0_8 a0_9).bind fun bt150 => ((bounds_wide_times.f t129 t130 4).bind fun bt152 => ((bounds_wide_most.f bt150.1 bt150.2 bt152.1 bt152.2).bind fun t154 => ((bounds_sum.f k (([a0_9] : List Int))).bind fun bt158 => ((bounds_done.f k a0_0 a0_1 a0_2 a0_3 a0_4 a0_5 a0_6 a0_7 a0_8 a0_9).bind fun bt160 => ((bounds_wide_times.f bt160.1 bt160.2 (IntKind.u64.wrap (mx 0 a1))).bind fun bt162 => ((bounds_wide_most.f bt158.1 bt158.2 bt162.1 bt162.2).bind fun t164 => (bounds_Broken.l0 k ([] : List Int) (([t137, decide (a0_3 ≤ a0_2), t143, decide (a0_5 ≤ a0_1), decide (a0_6 ≤ a0_5), decide (a0_7 ≤ a0_0), t149, t154, t164] : List Bool)) 0)))))))))) = some r := H
  have A7 := Aside0.mk A70
  clear A70
  obtain ⟨y144, hy144⟩ : ∃ y_ : List Int, y_ = (([a0_8] : List Int)) := ⟨_, rfl⟩
  replace H : ((bounds_sum.f k y144).bind fun bt147 => ((bounds_wide_most.f bt147.1 bt147.2 t129 t130).bind fun t149 => ((bounds_done.f k a0_0 a0_1 a0_2 a0_3 a0_4 a0_5 a0_6 a0_7 a0_8 a0_9).bind fun bt150 => ((bounds_wide_times.f t129 t130 4).bind fun bt152 => ((bounds_wide_most.f bt150.1 bt150.2 bt152.1 bt152.2).bind fun t154 => ((bounds_sum.f k (([a0_9] : List Int))).bind fun bt158 => ((bounds_done.f k a0_0 a0_1 a0_2 a0_3 a0_4 a0_5 a0_6 a0_7 a0_8 a0_9).bind fun bt160 => ((bounds_wide_times.f bt160.1 bt160.2 (IntKind.u64.wrap (mx 0 a1))).bind fun bt162 => ((bounds_wide_most.f bt158.1 bt158.2 bt162.1 bt162.2).bind fun t164 => (bounds_Broken.l0 k ([] : List Int) (([t137, decide (a0_3 ≤ a0_2), t143, decide (a0_5 ≤ a0_1), decide (a0_6 ≤ a0_5), decide (a0_7 ≤ a0_0), t149, t154, t164] : List Bool)) 0)))))))))) = some r := by first | (rw [hy144]; with_reducible exact H) | (have H2_ := (Option.bind_some _ _).symm.trans H; rw [hy144]; with_reducible exact H2_) | (have H2_ := (Option.bind_some _ _).symm.trans H; with_reducible exact H2_) | with_reducible exact H | (rw [hy144]; exact H) | exact H
  have Ny144 := Aside0.mk hy144
  clear hy144
  replace H := Option.bind_eq_some_iff.mp H
  obtain ⟨⟨t147, t148⟩, A80, H⟩ := H
  replace H : ((bounds_wide_most.f t147 t148 t129 t130).bind fun t149 => ((bounds_done.f k a0_0 a0_1 a0_2 a0_3 a0_4 a0_5 a0_6 a0_7 a0_8 a0_9).bind fun bt150 => ((bounds_wide_times.f t129 t130 4).bind fun bt152 => ((bounds_wide_most.f bt150.1 bt150.2 bt152.1 bt152.2).bind fun t154 => ((bounds_sum.f k (([a0_9] : List Int))).bind fun bt158 => ((bounds_done.f k a0_0 a0_1 a0_2 a0_3 a0_4 a0_5 a0_6 a0_7 a0_8 a0_9).bind fun bt160 => ((bounds_wide_times.f bt160.1 bt160.2 (IntKind.u64.wrap (mx 0 a1))).bind fun bt162 => ((bounds_wide_most.f bt158.1 bt158.2 bt162.1 bt162.2).bind fun t164 => (bounds_Broken.l0 k ([] : List Int) (([t137, decide (a0_3 ≤ a0_2), t143, decide (a0_5 ≤ a0_1), decide (a0_6 ≤ a0_5), decide (a0_7 ≤ a0_0), t149, t154, t164] : List Bool)) 0))))))))) = some r := H
  have A8 := Aside0.mk A80
  clear A80
  replace H := Option.bind_eq_some_iff.mp H
  obtain ⟨t149, A90, H⟩ := H
  replace H : ((bounds_done.f k a0_0 a0_1 a0_2 a0_3 a0_4 a0_5 a0_6 a0_7 a0_8 a0_9).bind fun bt150 => ((bounds_wide_times.f t129 t130 4).bind fun bt152 => ((bounds_wide_most.f bt150.1 bt150.2 bt152.1 bt152.2).bind fun t154 => ((bounds_sum.f k (([a0_9] : List Int))).bind fun bt158 => ((bounds_done.f k a0_0 a0_1 a0_2 a0_3 a0_4 a0_5 a0_6 a0_7 a0_8 a0_9).bind fun bt160 => ((bounds_wide_times.f bt160.1 bt160.2 (IntKind.u64.wrap (mx 0 a1))).bind fun bt162 => ((bounds_wide_most.f bt158.1 bt158.2 bt162.1 bt162.2).bind fun t164 => (bounds_Broken.l0 k ([] : List Int) (([t137, decide (a0_3 ≤ a0_2), t143, decide (a0_5 ≤ a0_1), decide (a0_6 ≤ a0_5), decide (a0_7 ≤ a0_0), t149, t154, t164] : List Bool)) 0)))))))) = some r := H
  have A9 := Aside0.mk A90
  clear A90
  replace H := Option.bind_eq_some_iff.mp H
  obtain ⟨⟨t150, t151⟩, A100, H⟩ := H
  replace H : ((bounds_wide_times.f t129 t130 4).bind fun bt152 => ((bounds_wide_most.f t150 t151 bt152.1 bt152.2).bind fun t154 => ((bounds_sum.f k (([a0_9] : List Int))).bind fun bt158 => ((bounds_done.f k a0_0 a0_1 a0_2 a0_3 a0_4 a0_5 a0_6 a0_7 a0_8 a0_9).bind fun bt160 => ((bounds_wide_times.f bt160.1 bt160.2 (IntKind.u64.wrap (mx 0 a1))).bind fun bt162 => ((bounds_wide_most.f bt158.1 bt158.2 bt162.1 bt162.2).bind fun t164 => (bounds_Broken.l0 k ([] : List Int) (([t137, decide (a0_3 ≤ a0_2), t143, decide (a0_5 ≤ a0_1), decide (a0_6 ≤ a0_5), decide (a0_7 ≤ a0_0), t149, t154, t164] : List Bool)) 0))))))) = some r := H
  have A10 := Aside0.mk A100
  clear A100
  replace H := Option.bind_eq_some_iff.mp H
  obtain ⟨⟨t152, t153⟩, A110, H⟩ := H
  replace H : ((bounds_wide_most.f t150 t151 t152 t153).bind fun t154 => ((bounds_sum.f k (([a0_9] : List Int))).bind fun bt158 => ((bounds_done.f k a0_0 a0_1 a0_2 a0_3 a0_4 a0_5 a0_6 a0_7 a0_8 a0_9).bind fun bt160 => ((bounds_wide_times.f bt160.1 bt160.2 (IntKind.u64.wrap (mx 0 a1))).bind fun bt162 => ((bounds_wide_most.f bt158.1 bt158.2 bt162.1 bt162.2).bind fun t164 => (bounds_Broken.l0 k ([] : List Int) (([t137, decide (a0_3 ≤ a0_2), t143, decide (a0_5 ≤ a0_1), decide (a0_6 ≤ a0_5), decide (a0_7 ≤ a0_0), t149, t154, t164] : List Bool)) 0)))))) = some r := H
  have A11 := Aside0.mk A110
  clear A110
  replace H := Option.bind_eq_some_iff.mp H
  obtain ⟨t154, A120, H⟩ := H
  replace H : ((bounds_sum.f k (([a0_9] : List Int))).bind fun bt158 => ((bounds_done.f k a0_0 a0_1 a0_2 a0_3 a0_4 a0_5 a0_6 a0_7 a0_8 a0_9).bind fun bt160 => ((bounds_wide_times.f bt160.1 bt160.2 (IntKind.u64.wrap (mx 0 a1))).bind fun bt162 => ((bounds_wide_most.f bt158.1 bt158.2 bt162.1 bt162.2).bind fun t164 => (bounds_Broken.l0 k ([] : List Int) (([t137, decide (a0_3 ≤ a0_2), t143, decide (a0_5 ≤ a0_1), decide (a0_6 ≤ a0_5), decide (a0_7 ≤ a0_0), t149, t154, t164] : List Bool)) 0))))) = some r := H
  have A12 := Aside0.mk A120
  clear A120
  obtain ⟨y155, hy155⟩ : ∃ y_ : List Int, y_ = (([a0_9] : List Int)) := ⟨_, rfl⟩
  replace H : ((bounds_sum.f k y155).bind fun bt158 => ((bounds_done.f k a0_0 a0_1 a0_2 a0_3 a0_4 a0_5 a0_6 a0_7 a0_8 a0_9).bind fun bt160 => ((bounds_wide_times.f bt160.1 bt160.2 (IntKind.u64.wrap (mx 0 a1))).bind fun bt162 => ((bounds_wide_most.f bt158.1 bt158.2 bt162.1 bt162.2).bind fun t164 => (bounds_Broken.l0 k ([] : List Int) (([t137, decide (a0_3 ≤ a0_2), t143, decide (a0_5 ≤ a0_1), decide (a0_6 ≤ a0_5), decide (a0_7 ≤ a0_0), t149, t154, t164] : List Bool)) 0))))) = some r := by first | (rw [hy155]; with_reducible exact H) | (have H2_ := (Option.bind_some _ _).symm.trans H; rw [hy155]; with_reducible exact H2_) | (have H2_ := (Option.bind_some _ _).symm.trans H; with_reducible exact H2_) | with_reducible exact H | (rw [hy155]; exact H) | exact H
  have Ny155 := Aside0.mk hy155
  clear hy155
  replace H := Option.bind_eq_some_iff.mp H
  obtain ⟨⟨t158, t159⟩, A130, H⟩ := H
  replace H : ((bounds_done.f k a0_0 a0_1 a0_2 a0_3 a0_4 a0_5 a0_6 a0_7 a0_8 a0_9).bind fun bt160 => ((bounds_wide_times.f bt160.1 bt160.2 (IntKind.u64.wrap (mx 0 a1))).bind fun bt162 => ((bounds_wide_most.f t158 t159 bt162.1 bt162.2).bind fun t164 => (bounds_Broken.l0 k ([] : List Int) (([t137, decide (a0_3 ≤ a0_2), t143, decide (a0_5 ≤ a0_1), decide (a0_6 ≤ a0_5), decide (a0_7 ≤ a0_0), t149, t154, t164] : List Bool)) 0)))) = some r := H
  have A13 := Aside0.mk A130
  clear A130
  replace H := Option.bind_eq_some_iff.mp H
  obtain ⟨⟨t160, t161⟩, A140, H⟩ := H
  replace H : ((bounds_wide_times.f t160 t161 (IntKind.u64.wrap (mx 0 a1))).bind fun bt162 => ((bounds_wide_most.f t158 t159 bt162.1 bt162.2).bind fun t164 => (bounds_Broken.l0 k ([] : List Int) (([t137, decide (a0_3 ≤ a0_2), t143, decide (a0_5 ≤ a0_1), decide (a0_6 ≤ a0_5), decide (a0_7 ≤ a0_0), t149, t154, t164] : List Bool)) 0))) = some r := H
  have A14 := Aside0.mk A140
  clear A140
  obtain ⟨ji15, hji15⟩ : ∃ j_ : Int, (mx 0 a1) = j_ := ⟨_, rfl⟩
  replace H : ((bounds_wide_times.f t160 t161 (IntKind.u64.wrap (ji15))).bind fun bt162 => ((bounds_wide_most.f t158 t159 bt162.1 bt162.2).bind fun t164 => (bounds_Broken.l0 k ([] : List Int) (([t137, decide (a0_3 ≤ a0_2), t143, decide (a0_5 ≤ a0_1), decide (a0_6 ≤ a0_5), decide (a0_7 ≤ a0_0), t149, t154, t164] : List Bool)) 0))) = some r := by first | (rw [hji15] at H; exact H) | (simp only [hji15] at H ⊢; exact H)
  (try rw [hji15] at A3)
  (try rw [hji15] at A4)
  (try rw [hji15] at A5)
  (try rw [hji15] at A6)
  (try rw [hji15] at A7)
  (try rw [hji15] at A8)
  (try rw [hji15] at A9)
  (try rw [hji15] at A10)
  (try rw [hji15] at A11)
  (try rw [hji15] at A12)
  (try rw [hji15] at A13)
  (try rw [hji15] at A14)
  (try (have hji15l : 0 ≤ ji15 := by (rw [← hji15]; unfold mx; (repeat' split) <;> omega)))
  (try (have hji15m : 0 ≤ ji15 := by omega))
  have hji15_ : (if 0 < a1 then a1 else 0) = ji15 := hji15
  replace H := Option.bind_eq_some_iff.mp H
  obtain ⟨⟨t162, t163⟩, A160, H⟩ := H
  replace H : ((bounds_wide_most.f t158 t159 t162 t163).bind fun t164 => (bounds_Broken.l0 k ([] : List Int) (([t137, decide (a0_3 ≤ a0_2), t143, decide (a0_5 ≤ a0_1), decide (a0_6 ≤ a0_5), decide (a0_7 ≤ a0_0), t149, t154, t164] : List Bool)) 0)) = some r := H
  have A16 := Aside0.mk A160
  clear A160
  replace H := Option.bind_eq_some_iff.mp H
  obtain ⟨t164, A170, H⟩ := H
  replace H : (bounds_Broken.l0 k ([] : List Int) (([t137, decide (a0_3 ≤ a0_2), t143, decide (a0_5 ≤ a0_1), decide (a0_6 ≤ a0_5), decide (a0_7 ≤ a0_0), t149, t154, t164] : List Bool)) 0) = some r := H
  have A17 := Aside0.mk A170
  clear A170
  obtain ⟨y165, hy165⟩ : ∃ y_ : List Bool, y_ = (([t137, decide (a0_3 ≤ a0_2), t143, decide (a0_5 ≤ a0_1), decide (a0_6 ≤ a0_5), decide (a0_7 ≤ a0_0), t149, t154, t164] : List Bool)) := ⟨_, rfl⟩
  replace H : (bounds_Broken.l0 k ([] : List Int) y165 0) = some r := by first | (rw [hy165]; with_reducible exact H) | (have H2_ := (Option.bind_some _ _).symm.trans H; rw [hy165]; with_reducible exact H2_) | (have H2_ := (Option.bind_some _ _).symm.trans H; with_reducible exact H2_) | with_reducible exact H | (rw [hy165]; exact H) | exact H
  have Ny165 := Aside0.mk hy165
  clear hy165
  have H' := Aside0.mk H
  clear H
  go_enter Tryd.func6, Tryd.ntmps6
  try go_wp2_with (first | ((with_reducible refine gate_dst (N := 2) rfl ?_); refine box_event ?hg (N := 2) ?hd (cs := #[.int .u64 a0_0, .int .u64 a0_1, .int .u64 a0_2, .int .u64 a0_3, .int .u64 a0_4, .int .u64 a0_5, .int .u64 a0_6, .int .u64 a0_7, .int .u64 a0_8, .int .u64 a0_9]) (t := 24) ?hr ?_; (case hd => rfl); (case hg => rfl); (case hr => first | (go_simp; done) | (go_simp; rfl)); intro gb125 hg w18 hbox hb; have n0_ := Aside0.mk (below_step (by repeat (first | (with_reducible first | exact HB.out | apply below_alloc | apply pw_below_drewN | apply below_drew1) | exact HB.out)) hb); have n1_ := Aside0.mk (hbox); have n2_ := Aside0.mk ((by rw [hg]; exact (below_size (by repeat (first | (with_reducible first | exact HB.out | apply below_alloc | apply pw_below_drewN | apply below_drew1) | exact HB.out))) : w.heap.size ≤ gb125)); have n3_ := Aside0.mk ((by rw [hg]; exact (below_size (by repeat (first | (with_reducible first | exact HB.out | apply below_alloc | apply pw_below_drewN | apply below_drew1) | exact HB.out))) : w.heap.size ≤ gb125)); clear HB; have HB := n0_; have BK125 := n1_; have GW125 := n2_; have GE125 := n3_; clear n0_ n1_ n2_ n3_; clear hb hbox hg; have hcz19_0 : w18.cell? ⟨gb125, 0, none⟩ = some (.int .u64 a0_0) := (blk_cell BK125.out 0).trans rfl; have hcz19_1 : w18.cell? ⟨gb125, 1, none⟩ = some (.int .u64 a0_1) := (blk_cell BK125.out 1).trans rfl; have hcz19_2 : w18.cell? ⟨gb125, 2, none⟩ = some (.int .u64 a0_2) := (blk_cell BK125.out 2).trans rfl; have hcz19_3 : w18.cell? ⟨gb125, 3, none⟩ = some (.int .u64 a0_3) := (blk_cell BK125.out 3).trans rfl; have hcz19_4 : w18.cell? ⟨gb125, 4, none⟩ = some (.int .u64 a0_4) := (blk_cell BK125.out 4).trans rfl; have hcz19_5 : w18.cell? ⟨gb125, 5, none⟩ = some (.int .u64 a0_5) := (blk_cell BK125.out 5).trans rfl; have hcz19_6 : w18.cell? ⟨gb125, 6, none⟩ = some (.int .u64 a0_6) := (blk_cell BK125.out 6).trans rfl; have hcz19_7 : w18.cell? ⟨gb125, 7, none⟩ = some (.int .u64 a0_7) := (blk_cell BK125.out 7).trans rfl; have hcz19_8 : w18.cell? ⟨gb125, 8, none⟩ = some (.int .u64 a0_8) := (blk_cell BK125.out 8).trans rfl; have hcz19_9 : w18.cell? ⟨gb125, 9, none⟩ = some (.int .u64 a0_9) := (blk_cell BK125.out 9).trans rfl; have hfz19_0 := blk_frozen BK125.out 0; have hfz19_1 := blk_frozen BK125.out 1; have hfz19_2 := blk_frozen BK125.out 2; have hfz19_3 := blk_frozen BK125.out 3; have hfz19_4 := blk_frozen BK125.out 4; have hfz19_5 := blk_frozen BK125.out 5; have hfz19_6 := blk_frozen BK125.out 6; have hfz19_7 := blk_frozen BK125.out 7; have hfz19_8 := blk_frozen BK125.out 8; have hfz19_9 := blk_frozen BK125.out 9) | ((with_reducible refine gate_dst (N := 14) rfl ?_); refine Kd.R_lit (Kd.int .u64) _ 22 ?hg (N := 14) ?hd (xs := ([a0_0, a0_1] : List Int)) (inner := [.int .u64 a0_0, .int .u64 a0_1]) (ok := fun _ => True) (okp := fun _ => True) ?hr ?hp (fun _ hk => hk) trivial (Below.refl _ _) (Nat.le_refl _) (by simp) ?_; (case hd => rfl); (case hg => rfl); (case hr => first | (go_simp; done) | (go_simp; rfl)); (case hp => exact (Reps.one (show Kd.M (Kd.int .u64) _ _ _ a0_0 [.int .u64 a0_0] from rfl) (Reps.one (show Kd.M (Kd.int .u64) _ _ _ a0_1 [.int .u64 a0_1] from rfl) (Reps.none _ _)))); intro v127 w20 ho21 hb hg_ hnew_; clear hg_ hnew_; (first | rw [← Ny126.out] at ho21 | (simp only [Int.reduceToNat] at ho21; rw [← Ny126.out] at ho21)); have n0_ := Aside0.mk (Kd.R_lower ho21 (below_size (by repeat (first | (with_reducible first | exact HB.out | apply below_alloc | apply pw_below_drewN | apply below_drew1 | refine below_set ?_ GE125.out) | exact HB.out)))); have n1_ := Aside0.mk (blk_below (g := gb125) (o := .cells #[.int .u64 a0_0, .int .u64 a0_1, .int .u64 a0_2, .int .u64 a0_3, .int .u64 a0_4, .int .u64 a0_5, .int .u64 a0_6, .int .u64 a0_7, .int .u64 a0_8, .int .u64 a0_9] 24 (0, 0)) (by (with_reducible repeat (first | refine blk_drewN ?_ _ | refine blk_drew ?_ | refine blk_alloc ?_ _)); exact BK125.out) hb); have n2_ := Aside0.mk (below_step (by repeat (first | (with_reducible first | exact HB.out | apply below_alloc | apply pw_below_drewN | apply below_drew1 | refine below_set ?_ GE125.out) | exact HB.out)) hb); clear BK125; clear HB; have HO128 := n0_; have BK125 := n1_; have HB := n2_; clear n0_ n1_ n2_; clear hb ho21; obtain ⟨Ao22, co22, eo22⟩ := Kd.R_slice HO128.out; subst eo22) | ((with_reducible refine gate_callee (f := 18) rfl ?_); refine goesL_ (some 15) rfl rfl Tryd.func18 (by kernel_rfl) rfl #[.slice Ao22 y126.length co22] rfl (by (try simp only [List.map_toArray, List.map_cons, List.map_nil]); first | done | rfl | (simp only [List.length_drop, List.length_take]; rfl)) ?_; (with_reducible refine (bounds_sum.calls k _ _ y126 t129 t130 _ ?side1 ?side2 A3.out).mono ?_); (case side1 => repeat (first | exact (Kd.R_reads' HO128.out).2.2 | (with_reducible refine Kd.C_alloc ?_ _) | (with_reducible refine Kd.C_drewN ?_ _) | (with_reducible refine Kd.C_drew ?_))); (case side2 => exact (Kd.R_reads' HO128.out).2.1); rintro e w23 ⟨rfl, hb⟩; refine ⟨_, rfl, ?_⟩; have n0_ := Aside0.mk (Kd.R_below (by (with_reducible repeat (first | apply Kd.R_alloc | apply Kd.R_drewN | apply Kd.R_drew)); exact HO128.out) hb); have n1_ := Aside0.mk (blk_below (g := gb125) (o := .cells #[.int .u64 a0_0, .int .u64 a0_1, .int .u64 a0_2, .int .u64 a0_3, .int .u64 a0_4, .int .u64 a0_5, .int .u64 a0_6, .int .u64 a0_7, .int .u64 a0_8, .int .u64 a0_9] 24 (0, 0)) (by (with_reducible repeat (first | refine blk_drewN ?_ _ | refine blk_drew ?_ | refine blk_alloc ?_ _)); exact BK125.out) hb); have n2_ := Aside0.mk (below_step (by repeat (first | (with_reducible first | exact HB.out | apply below_alloc | apply pw_below_drewN | apply below_drew1 | refine below_set ?_ GE125.out) | exact HB.out)) hb); clear HO128; clear BK125; clear HB; have HO128 := n0_; have BK125 := n1_; have HB := n2_; clear n0_ n1_ n2_; (try clear hb); (try clear hb2); (try clear hk); (try clear hi)) | ((with_reducible refine gate_dst (N := 5) rfl ?_); refine box_event ?hg (N := 5) ?hd (cs := #[.int .u64 0, .int .u64 0]) (t := 42) ?hr ?_; (case hd => rfl); (case hg => rfl); (case hr => first | (go_simp; done) | (go_simp; rfl)); intro gb131 hg w24 hbox hb; have n0_ := Aside0.mk (Kd.R_below (by (with_reducible repeat (first | apply Kd.R_alloc | apply Kd.R_drewN | apply Kd.R_drew)); exact HO128.out) hb); have n1_ := Aside0.mk (blk_below (g := gb125) (o := .cells #[.int .u64 a0_0, .int .u64 a0_1, .int .u64 a0_2, .int .u64 a0_3, .int .u64 a0_4, .int .u64 a0_5, .int .u64 a0_6, .int .u64 a0_7, .int .u64 a0_8, .int .u64 a0_9] 24 (0, 0)) (by (with_reducible repeat (first | refine blk_drewN ?_ _ | refine blk_drew ?_ | refine blk_alloc ?_ _)); exact BK125.out) hb); have n2_ := Aside0.mk (below_step (by repeat (first | (with_reducible first | exact HB.out | apply below_alloc | apply pw_below_drewN | apply below_drew1 | refine below_set ?_ GE125.out) | exact HB.out)) hb); have n3_ := Aside0.mk (hbox); have n4_ := Aside0.mk ((by rw [hg]; exact (below_size (by repeat (first | (with_reducible first | exact HB.out | apply below_alloc | apply pw_below_drewN | apply below_drew1 | refine below_set ?_ GE125.out) | exact HB.out))) : w.heap.size ≤ gb131)); have n5_ := Aside0.mk ((by rw [hg]; exact (below_size (by repeat (first | (with_reducible first | exact HB.out | apply below_alloc | apply pw_below_drewN | apply below_drew1 | refine below_set ?_ GE125.out) | exact HB.out))) : w.heap.size ≤ gb131)); have n6_ := Aside0.mk ((by rw [hg]; exact Nat.ne_of_lt (blk_lt (g := gb125) (o := .cells #[.int .u64 a0_0, .int .u64 a0_1, .int .u64 a0_2, .int .u64 a0_3, .int .u64 a0_4, .int .u64 a0_5, .int .u64 a0_6, .int .u64 a0_7, .int .u64 a0_8, .int .u64 a0_9] 24 (0, 0)) (by (with_reducible repeat (first | refine blk_drewN ?_ _ | refine blk_drew ?_ | refine blk_alloc ?_ _)); exact BK125.out)) : gb125 ≠ gb131)); have n7_ := Aside0.mk ((by rw [hg]; exact Nat.ne_of_gt (blk_lt (g := gb125) (o := .cells #[.int .u64 a0_0, .int .u64 a0_1, .int .u64 a0_2, .int .u64 a0_3, .int .u64 a0_4, .int .u64 a0_5, .int .u64 a0_6, .int .u64 a0_7, .int .u64 a0_8, .int .u64 a0_9] 24 (0, 0)) (by (with_reducible repeat (first | refine blk_drewN ?_ _ | refine blk_drew ?_ | refine blk_alloc ?_ _)); exact BK125.out)) : gb131 ≠ gb125)); clear HO128; clear BK125; clear HB; have HO128 := n0_; have BK125 := n1_; have HB := n2_; have BK131 := n3_; have GW131 := n4_; have GE131 := n5_; have NB125_131 := n6_; have NB131_125 := n7_; clear n0_ n1_ n2_ n3_ n4_ n5_ n6_ n7_; clear hb hbox hg; have hnb25 := NB131_125.out; have hnc25 := NB125_131.out; have hcz26_0 : w24.cell? ⟨gb131, 0, none⟩ = some (.int .u64 0) := (blk_cell BK131.out 0).trans rfl; have hcz26_1 : w24.cell? ⟨gb131, 1, none⟩ = some (.int .u64 0) := (blk_cell BK131.out 1).trans rfl; have hfz26_0 := blk_frozen BK131.out 0; have hfz26_1 := blk_frozen BK131.out 1))
  have n0_ : Aside0 (Kd.R (Kd.int .u64) 22 ((w24.setCell ⟨gb131, 0, none⟩ (.int .u64 t129)).setCell ⟨gb131, 1, none⟩ (.int .u64 t130)) w.heap.size (fun _ => True) (.slice Ao22 y126.length co22) y126) := ⟨by (with_reducible repeat (first | apply Kd.R_alloc | apply Kd.R_drewN | apply Kd.R_drew)); exact Kd.R_mono (Kd.R_far (p := ⟨gb131, 1, none⟩) (Kd.R_far (p := ⟨gb131, 0, none⟩) (Kd.R_types HO128.out BK131.out (by decide)) (fun _ hk => hk.2) (.int .u64 t129)) (fun _ hk => hk.2) (.int .u64 t130)) (fun _ hk => trivial)⟩
  have n1_ : Aside0 (((w24.setCell ⟨gb131, 0, none⟩ (.int .u64 t129)).setCell ⟨gb131, 1, none⟩ (.int .u64 t130)).heap[gb125]? = some (.cells #[.int .u64 a0_0, .int .u64 a0_1, .int .u64 a0_2, .int .u64 a0_3, .int .u64 a0_4, .int .u64 a0_5, .int .u64 a0_6, .int .u64 a0_7, .int .u64 a0_8, .int .u64 a0_9] 24 (0, 0))) := ⟨by (with_reducible repeat (first | refine blk_drewN ?_ _ | refine blk_drew ?_ | refine blk_alloc ?_ _)); refine blk_far ?_ NB125_131.out _; (with_reducible repeat (first | refine blk_drewN ?_ _ | refine blk_drew ?_ | refine blk_alloc ?_ _)); refine blk_far ?_ NB125_131.out _; (with_reducible repeat (first | refine blk_drewN ?_ _ | refine blk_drew ?_ | refine blk_alloc ?_ _)); exact BK125.out⟩
  have n2_ : Aside0 (((w24.setCell ⟨gb131, 0, none⟩ (.int .u64 t129)).setCell ⟨gb131, 1, none⟩ (.int .u64 t130)).heap[gb131]? = some (.cells #[.int .u64 t129, .int .u64 t130] 42 (0, 0))) := ⟨by (with_reducible repeat (first | refine blk_drewN ?_ _ | refine blk_drew ?_ | refine blk_alloc ?_ _)); refine blk_put (cs := #[.int .u64 t129, .int .u64 0]) ?_ 1 _ rfl; (with_reducible repeat (first | refine blk_drewN ?_ _ | refine blk_drew ?_ | refine blk_alloc ?_ _)); refine blk_put (cs := #[.int .u64 0, .int .u64 0]) ?_ 0 _ rfl; (with_reducible repeat (first | refine blk_drewN ?_ _ | refine blk_drew ?_ | refine blk_alloc ?_ _)); exact BK131.out⟩
  have n3_ : Aside0 (Below w.heap.size w ((w24.setCell ⟨gb131, 0, none⟩ (.int .u64 t129)).setCell ⟨gb131, 1, none⟩ (.int .u64 t130))) := ⟨by repeat (first | (with_reducible first | exact HB.out | apply below_alloc | apply pw_below_drewN | apply below_drew1 | refine below_set ?_ GE125.out | refine below_set ?_ GE131.out) | exact HB.out)⟩
  (try clear HO128)
  (try clear BK125)
  (try clear BK131)
  (try clear HB)
  generalize ((w24.setCell ⟨gb131, 0, none⟩ (.int .u64 t129)).setCell ⟨gb131, 1, none⟩ (.int .u64 t130)) = w27 at n0_ n1_ n2_ n3_ ⊢
  have HO128 := n0_
  have BK125 := n1_
  have BK131 := n2_
  have HB := n3_
  clear n0_ n1_ n2_ n3_
  have n0_ := Aside0.mk (Kd.R_drew HO128.out)
  have n1_ := Aside0.mk (blk_drew BK125.out)
  have n2_ := Aside0.mk (blk_drew BK131.out)
  have n3_ := Aside0.mk (below_drew1 HB.out)
  clear HO128
  clear BK125
  clear BK131
  clear HB
  have HO128 := n0_
  have BK125 := n1_
  have BK131 := n2_
  have HB := n3_
  clear n0_ n1_ n2_ n3_
  refine start_ (n := 57) (S := fun w' => True) (ds := []) #[false, false, false, false, false, false, false, false, false, false, false, false, false, false, false, false, false, false, false, false, false, false, false, false, false, false, false, false, false, false, false, false, false, false, false, false, false, false, false, false, false, false, false, false, false, false, false, false, false, false, false, false, false, false, false, false, false] (by kernel_rfl) rfl rfl trivial (fun hHeld => ?_); refine with_tabW bounds_Broken.tab2 bounds_Broken.bits2 (fun HT_ HW_ => ?_)
  generalize w27.drew = w28 at HO128 BK125 BK131 HB hHeld ⊢
  refine pure_ (i := 0) (N := some 16) (v := ?_) (a' := ?_) #[true, false, false, false, false, false, false, false, false, false, false, false, false, false, false, false, false, false, false, false, false, false, false, false, false, false, false, false, false, false, false, false, false, false, false, false, false, false, false, false, false, false, false, false, false, false, false, false, false, false, false, false, false, false, false, false, false] rfl rfl (any_of HT_.out (by kernel_rfl)) (fun _ _ _ h => h) (Or.inl ⟨by rfl, ?_⟩) ?_ ?_
  rotate_left
  · intro w'
    go_simp
    with_reducible rfl
  rotate_left
  · simp only [Act.put, List.setIfInBounds_toArray, List.set_cons_zero, List.set_cons_succ, i64_w, i32_w]
    rfl
  refine pure_ (i := 6) (N := some 22) (v := ?_) (a' := ?_) #[true, false, false, false, false, false, true, false, false, false, false, false, false, false, false, false, false, false, false, false, false, false, false, false, false, false, false, false, false, false, false, false, false, false, false, false, false, false, false, false, false, false, false, false, false, false, false, false, false, false, false, false, false, false, false, false, false] rfl rfl (any_of HT_.out (by kernel_rfl)) (fun _ _ _ h => h) (Or.inl ⟨by rfl, ?_⟩) ?_ ?_
  rotate_left
  · intro w'
    go_simp
    with_reducible rfl
  rotate_left
  · simp only [Act.put, List.setIfInBounds_toArray, List.set_cons_zero, List.set_cons_succ, i64_w, i32_w]
    rfl
  refine pure_ (i := 8) (N := some 24) (v := ?_) (a' := ?_) #[true, false, false, false, false, false, true, false, true, false, false, false, false, false, false, false, false, false, false, false, false, false, false, false, false, false, false, false, false, false, false, false, false, false, false, false, false, false, false, false, false, false, false, false, false, false, false, false, false, false, false, false, false, false, false, false, false] rfl rfl (any_of HT_.out (by kernel_rfl)) (fun _ _ _ h => h) (Or.inl ⟨by rfl, ?_⟩) ?_ ?_
  rotate_left
  · intro w'
    go_simp
    with_reducible rfl
  rotate_left
  · simp only [Act.put, List.setIfInBounds_toArray, List.set_cons_zero, List.set_cons_succ, i64_w, i32_w]
    rfl
  refine pure_ (i := 11) (N := some 27) (v := ?_) (a' := ?_) #[true, false, false, false, false, false, true, false, true, false, false, true, false, false, false, false, false, false, false, false, false, false, false, false, false, false, false, false, false, false, false, false, false, false, false, false, false, false, false, false, false, false, false, false, false, false, false, false, false, false, false, false, false, false, false, false, false] rfl rfl (any_of HT_.out (by kernel_rfl)) (fun _ _ _ h => h) (Or.inl ⟨by rfl, ?_⟩) ?_ ?_
  rotate_left
  · intro w'
    go_simp
    with_reducible rfl
  rotate_left
  · simp only [Act.put, List.setIfInBounds_toArray, List.set_cons_zero, List.set_cons_succ, i64_w, i32_w]
    rfl
  refine pure_ (i := 17) (N := some 33) (v := ?_) (a' := ?_) #[true, false, false, false, false, false, true, false, true, false, false, true, false, false, false, false, false, true, false, false, false, false, false, false, false, false, false, false, false, false, false, false, false, false, false, false, false, false, false, false, false, false, false, false, false, false, false, false, false, false, false, false, false, false, false, false, false] rfl rfl (any_of HT_.out (by kernel_rfl)) (fun _ _ _ h => h) (Or.inl ⟨by rfl, ?_⟩) ?_ ?_
  rotate_left
  · intro w'
    go_simp
    with_reducible rfl
  rotate_left
  · simp only [Act.put, List.setIfInBounds_toArray, List.set_cons_zero, List.set_cons_succ, i64_w, i32_w]
    rfl
  refine pure_ (i := 19) (N := some 35) (v := ?_) (a' := ?_) #[true, false, false, false, false, false, true, false, true, false, false, true, false, false, false, false, false, true, false, true, false, false, false, false, false, false, false, false, false, false, false, false, false, false, false, false, false, false, false, false, false, false, false, false, false, false, false, false, false, false, false, false, false, false, false, false, false] rfl rfl (any_of HT_.out (by kernel_rfl)) (fun _ _ _ h => h) (Or.inl ⟨by rfl, ?_⟩) ?_ ?_
  rotate_left
  · intro w'
    go_simp
    with_reducible rfl
  rotate_left
  · simp only [Act.put, List.setIfInBounds_toArray, List.set_cons_zero, List.set_cons_succ, i64_w, i32_w]
    rfl
  refine pure_ (i := 22) (N := some 38) (v := ?_) (a' := ?_) #[true, false, false, false, false, false, true, false, true, false, false, true, false, false, false, false, false, true, false, true, false, false, true, false, false, false, false, false, false, false, false, false, false, false, false, false, false, false, false, false, false, false, false, false, false, false, false, false, false, false, false, false, false, false, false, false, false] rfl rfl (any_of HT_.out (by kernel_rfl)) (fun _ _ _ h => h) (Or.inl ⟨by rfl, ?_⟩) ?_ ?_
  rotate_left
  · intro w'
    go_simp
    with_reducible rfl
  rotate_left
  · simp only [Act.put, List.setIfInBounds_toArray, List.set_cons_zero, List.set_cons_succ, i64_w, i32_w]
    rfl
  refine pure_ (i := 24) (N := some 40) (v := ?_) (a' := ?_) #[true, false, false, false, false, false, true, false, true, false, false, true, false, false, false, false, false, true, false, true, false, false, true, false, true, false, false, false, false, false, false, false, false, false, false, false, false, false, false, false, false, false, false, false, false, false, false, false, false, false, false, false, false, false, false, false, false] rfl rfl (any_of HT_.out (by kernel_rfl)) (fun _ _ _ h => h) (Or.inl ⟨by rfl, ?_⟩) ?_ ?_
  rotate_left
  · intro w'
    go_simp
    with_reducible rfl
  rotate_left
  · simp only [Act.put, List.setIfInBounds_toArray, List.set_cons_zero, List.set_cons_succ, i64_w, i32_w]
    rfl
  refine pure_ (i := 27) (N := some 43) (v := ?_) (a' := ?_) #[true, false, false, false, false, false, true, false, true, false, false, true, false, false, false, false, false, true, false, true, false, false, true, false, true, false, false, true, false, false, false, false, false, false, false, false, false, false, false, false, false, false, false, false, false, false, false, false, false, false, false, false, false, false, false, false, false] rfl rfl (any_of HT_.out (by kernel_rfl)) (fun _ _ _ h => h) (Or.inl ⟨by rfl, ?_⟩) ?_ ?_
  rotate_left
  · intro w'
    go_simp
    with_reducible rfl
  rotate_left
  · simp only [Act.put, List.setIfInBounds_toArray, List.set_cons_zero, List.set_cons_succ, i64_w, i32_w]
    rfl
  refine pure_ (i := 29) (N := some 45) (v := ?_) (a' := ?_) #[true, false, false, false, false, false, true, false, true, false, false, true, false, false, false, false, false, true, false, true, false, false, true, false, true, false, false, true, false, true, false, false, false, false, false, false, false, false, false, false, false, false, false, false, false, false, false, false, false, false, false, false, false, false, false, false, false] rfl rfl (any_of HT_.out (by kernel_rfl)) (fun _ _ _ h => h) (Or.inl ⟨by rfl, ?_⟩) ?_ ?_
  rotate_left
  · intro w'
    go_simp
    with_reducible rfl
  rotate_left
  · simp only [Act.put, List.setIfInBounds_toArray, List.set_cons_zero, List.set_cons_succ, i64_w, i32_w]
    rfl
  refine pure_ (i := 32) (N := some 48) (v := ?_) (a' := ?_) #[true, false, false, false, false, false, true, false, true, false, false, true, false, false, false, false, false, true, false, true, false, false, true, false, true, false, false, true, false, true, false, false, true, false, false, false, false, false, false, false, false, false, false, false, false, false, false, false, false, false, false, false, false, false, false, false, false] rfl rfl (any_of HT_.out (by kernel_rfl)) (fun _ _ _ h => h) (Or.inl ⟨by rfl, ?_⟩) ?_ ?_
  rotate_left
  · intro w'
    go_simp
    with_reducible rfl
  rotate_left
  · simp only [Act.put, List.setIfInBounds_toArray, List.set_cons_zero, List.set_cons_succ, i64_w, i32_w]
    rfl
  refine pure_ (i := 43) (N := some 59) (v := ?_) (a' := ?_) #[true, false, false, false, false, false, true, false, true, false, false, true, false, false, false, false, false, true, false, true, false, false, true, false, true, false, false, true, false, true, false, false, true, false, false, false, false, false, false, false, false, false, false, true, false, false, false, false, false, false, false, false, false, false, false, false, false] rfl rfl (any_of HT_.out (by kernel_rfl)) (fun _ _ _ h => h) (Or.inl ⟨by rfl, ?_⟩) ?_ ?_
  rotate_left
  · intro w'
    go_simp
    with_reducible rfl
  rotate_left
  · simp only [Act.put, List.setIfInBounds_toArray, List.set_cons_zero, List.set_cons_succ, i64_w, i32_w]
    rfl
  refine pure_ (i := 49) (N := some 65) (v := ?_) (a' := ?_) #[true, false, false, false, false, false, true, false, true, false, false, true, false, false, false, false, false, true, false, true, false, false, true, false, true, false, false, true, false, true, false, false, true, false, false, false, false, false, false, false, false, false, false, true, false, false, false, false, false, true, false, false, false, false, false, false, false] rfl rfl (any_of HT_.out (by kernel_rfl)) (fun _ _ _ h => h) (Or.inl ⟨by rfl, ?_⟩) ?_ ?_
  rotate_left
  · intro w'
    go_simp
    with_reducible rfl
  rotate_left
  · simp only [Act.put, List.setIfInBounds_toArray, List.set_cons_zero, List.set_cons_succ, i64_w, i32_w]
    rfl
  refine inv_at [1, 2, 3, 4, 5, 7, 9, 10, 12, 13, 14, 15, 16, 18, 20, 21, 23, 25, 26, 28, 30, 31, 33, 34, 35, 36, 37, 38, 39, 40, 41, 42, 44, 45, 46, 47, 48, 50, 51, 52, 53, 54, 55, 56] (fun a0_ b a w' => ∃ (v133 : Value) (v139 : Value) (v145 : Value) (v156 : Value) (m55_ : Value), a = putSel a0_ b [(1, 17, .int .u64 a0_2), (2, 18, v133), (3, 19, .agg #[.int .u64 t135, .int .u64 t136]), (4, 20, .agg #[.int .u64 t129, .int .u64 t130]), (5, 21, .bool t137), (7, 23, .int .u64 a0_3), (9, 25, .int .u64 a0_2), (10, 26, .bool (decide (a0_3 ≤ a0_2))), (12, 28, .int .u64 a0_4), (13, 29, v139), (14, 30, .agg #[.int .u64 t141, .int .u64 t142]), (15, 31, .agg #[.int .u64 t129, .int .u64 t130]), (16, 32, .bool t143), (18, 34, .int .u64 a0_5), (20, 36, .int .u64 a0_1), (21, 37, .bool (decide (a0_5 ≤ a0_1))), (23, 39, .int .u64 a0_6), (25, 41, .int .u64 a0_5), (26, 42, .bool (decide (a0_6 ≤ a0_5))), (28, 44, .int .u64 a0_7), (30, 46, .int .u64 a0_0), (31, 47, .bool (decide (a0_7 ≤ a0_0))), (33, 49, .int .u64 a0_8), (34, 50, v145), (35, 51, .agg #[.int .u64 t147, .int .u64 t148]), (36, 52, .agg #[.int .u64 t129, .int .u64 t130]), (37, 53, .bool t149), (38, 54, .agg #[.int .u64 a0_0, .int .u64 a0_1, .int .u64 a0_2, .int .u64 a0_3, .int .u64 a0_4, .int .u64 a0_5, .int .u64 a0_6, .int .u64 a0_7, .int .u64 a0_8, .int .u64 a0_9]), (39, 55, .agg #[.int .u64 t150, .int .u64 t151]), (40, 56, .agg #[.int .u64 t129, .int .u64 t130]), (41, 57, .agg #[.int .u64 t152, .int .u64 t153]), (42, 58, .bool t154), (44, 60, .int .u64 a0_9), (45, 61, v156), (46, 62, .agg #[.int .u64 t158, .int .u64 t159]), (47, 63, .agg #[.int .u64 a0_0, .int .u64 a0_1, .int .u64 a0_2, .int .u64 a0_3, .int .u64 a0_4, .int .u64 a0_5, .int .u64 a0_6, .int .u64 a0_7, .int .u64 a0_8, .int .u64 a0_9]), (48, 64, .agg #[.int .u64 t160, .int .u64 t161]), (50, 66, .int .i64 ji15), (51, 67, .int .u64 (IntKind.u64.wrap (ji15))), (52, 68, .agg #[.int .u64 t162, .int .u64 t163]), (53, 69, .bool t164), (54, 70, .agg #[.bool t137, .bool (decide (a0_3 ≤ a0_2)), .bool t143, .bool (decide (a0_5 ≤ a0_1)), .bool (decide (a0_6 ≤ a0_5)), .bool (decide (a0_7 ≤ a0_0)), .bool t149, .bool t154, .bool t164]), (55, 6, m55_)] ∧ (b 56 = false → BrokenAt w gb125 gb131 #[.int .u64 a0_0, .int .u64 a0_1, .int .u64 a0_2, .int .u64 a0_3, .int .u64 a0_4, .int .u64 a0_5, .int .u64 a0_6, .int .u64 a0_7, .int .u64 a0_8, .int .u64 a0_9] #[.int .u64 t129, .int .u64 t130] y132 y138 y144 y155 v133 v139 v145 v156 (b 2) (b 13) (b 34) (b 45) w') ∧ (b 55 = true → b 56 = false → Held47 w.heap.size m55_ #[.bool false, .bool false, .bool false, .bool false, .bool false, .bool false, .bool false, .bool false, .bool false] w') ∧ (b 56 = true → Held47 w.heap.size m55_ #[.bool t137, .bool (decide (a0_3 ≤ a0_2)), .bool t143, .bool (decide (a0_5 ≤ a0_1)), .bool (decide (a0_6 ≤ a0_5)), .bool (decide (a0_7 ≤ a0_0)), .bool t149, .bool t154, .bool t164] w' ∧ Below w.heap.size w w')) HT_.out HW_.out (by kernel_rfl) (by kernel_rfl) ?_ ?_ ?_
  · exact ⟨.bool false, .bool false, .bool false, .bool false, .bool false, by simp only [putSel, Bool.false_eq_true, if_false], fun _ => ⟨BK125.out, BK131.out, HB.out, fun h_ => absurd h_ (by decide), fun h_ => absurd h_ (by decide), fun h_ => absurd h_ (by decide), fun h_ => absurd h_ (by decide)⟩, fun h_ => absurd h_ (by decide), fun h_ => absurd h_ (by decide)⟩
  · skip
    clear BK125 BK131 HB HO128
    refine steps_cons ?_ ?_
    · rintro b a w' ⟨v133, v139, v145, v156, m55_, ha, QC, QA, QF⟩ hb_ hon hoff
      refine ⟨_, rfl, fun K hK => ?_⟩
      have C := Aside0.mk (QC (hoff 56 (by kernel_rfl)))
      have e16 : a.tmps[16]? = some (.pointer (some ⟨gb125, 2, none⟩)) := by rw [ha]; exact (putSel_off rfl).trans rfl
      replace ha := Aside0.mk ha
      have BK125 := Aside0.mk C.out.box1
      have hc2_ : w'.cell? ⟨gb125, 2, none⟩ = some (.int .u64 a0_2) := (blk_cell BK125.out 2).trans rfl
      refine value_ (w1 := w') (v := .int .u64 a0_2) (by rfl) rfl ?_ ?_
      · go_simp
        (try simp only [i64_w])
        try rfl
      refine hK.out _ _ ⟨v133, v139, v145, v156, m55_, (by rw [ha.out]; exact putSel_upk 0 hb_ rfl rfl rfl), fun _ => C.out, QA, fun h0_ => absurd ((hoff 56 (by kernel_rfl)).symm.trans h0_) (by decide)⟩
    refine steps_cons ?_ ?_
    · rintro b a w' ⟨v133, v139, v145, v156, m55_, ha, QC, QA, QF⟩ hb_ hon hoff
      refine ⟨_, rfl, fun K hK => ?_⟩
      have C := Aside0.mk (QC (hoff 56 (by kernel_rfl)))
      have e17 : a.tmps[17]? = some (.int .u64 a0_2) := by rw [ha]; exact putSel_on (e := (1, 17, .int .u64 a0_2)) 0 rfl rfl (hon 1 (by kernel_rfl)) rfl
      replace ha := Aside0.mk ha
      refine Kd.R_lit_step (Kd.int .u64) _ 22 ?hg (N := 18) ?hd (xs := ([a0_2] : List Int)) (inner := [.int .u64 a0_2]) (ok := fun _ => True) (okp := fun _ => True) ?hr ?hp (fun _ hk => hk) trivial (Below.refl _ _) (Nat.le_refl _) (by simp) ?_; (case hd => rfl); (case hg => rfl); (case hr => first | (go_simp; done) | (go_simp; rfl)); (case hp => exact (Reps.one (show Kd.M (Kd.int .u64) _ _ _ a0_2 [.int .u64 a0_2] from rfl) (Reps.none _ _)))
      intro v133 w29 ho30 hb hg_ hnew_
      clear hg_ hnew_
      (first | rw [← Ny132.out] at ho30 | (simp only [Int.reduceToNat] at ho30; rw [← Ny132.out] at ho30))
      have C1_ := C.out.grow hb
      refine hK.out _ _ ⟨v133, v139, v145, v156, m55_, (by rw [ha.out]; exact putSel_upk 1 hb_ rfl rfl rfl), fun _ => ⟨C1_.box1, C1_.box2, C1_.below, fun _ => Kd.R_lower ho30 (below_size C.out.below), C1_.s2, C1_.s3, C1_.s4⟩, fun h0_ h1_ => (QA h0_ h1_).grow hb, fun h0_ => absurd ((hoff 56 (by kernel_rfl)).symm.trans h0_) (by decide)⟩
    refine steps_cons ?_ ?_
    · rintro b a w' ⟨v133, v139, v145, v156, m55_, ha, QC, QA, QF⟩ hb_ hon hoff
      refine ⟨_, rfl, fun K hK => ?_⟩
      have C := Aside0.mk (QC (hoff 56 (by kernel_rfl)))
      have e18 : a.tmps[18]? = some (v133) := by rw [ha]; exact putSel_on (e := (2, 18, v133)) 1 rfl rfl (hon 2 (by kernel_rfl)) rfl
      replace ha := Aside0.mk ha
      have HO134 := Aside0.mk (C.out.s1 (hon 2 (by kernel_rfl)))
      obtain ⟨Ao32, co32, eo32⟩ := Kd.R_slice HO134.out
      (first | subst eo32 | (injection eo32 with f1_ f2_ f3_; have f4_ := f1_.symm; have f5_ := f3_.symm; clear f1_ f2_ f3_; subst f4_; subst f5_))
      refine goes_ Tryd.func18 (by kernel_rfl) rfl #[.slice Ao32 y132.length co32] (by rfl) rfl rfl (by first | (simp only [List.map_toArray, List.map_cons, List.map_nil, Act.eval, Array.getD_eq_getD_getElem?, Option.getD_some, e18]; done) | (simp only [List.map_toArray, List.map_cons, List.map_nil, Act.eval, Array.getD_eq_getD_getElem?, Option.getD_some, e18]; rfl)) ?_
      with_reducible refine (bounds_sum.calls k _ _ y132 t135 t136 _ ?side1 ?side2 A4.out).mono ?_
      (case side1 => repeat (first | exact (Kd.R_reads' HO134.out).2.2 | (with_reducible refine Kd.C_alloc ?_ _) | (with_reducible refine Kd.C_drewN ?_ _) | (with_reducible refine Kd.C_drew ?_)))
      (case side2 => exact (Kd.R_reads' HO134.out).2.1)
      rintro e w33 ⟨rfl, hb⟩
      refine ⟨_, rfl, ?_⟩
      refine hK.out _ _ ⟨.slice Ao32 y132.length co32, v139, v145, v156, m55_, (by rw [ha.out]; exact putSel_upk 2 hb_ rfl rfl rfl), fun _ => C.out.grow hb, fun h0_ h1_ => (QA h0_ h1_).grow hb, fun h0_ => absurd ((hoff 56 (by kernel_rfl)).symm.trans h0_) (by decide)⟩
    refine steps_cons ?_ ?_
    · rintro b a w' ⟨v133, v139, v145, v156, m55_, ha, QC, QA, QF⟩ hb_ hon hoff
      refine ⟨_, rfl, fun K hK => ?_⟩
      have C := Aside0.mk (QC (hoff 56 (by kernel_rfl)))
      have e5 : a.tmps[5]? = some (.pointer (some ⟨gb131, 0, none⟩)) := by rw [ha]; exact (putSel_off rfl).trans rfl
      replace ha := Aside0.mk ha
      have BK131 := Aside0.mk C.out.box2
      have hc0_ : w'.cell? ⟨gb131, 0, none⟩ = some (.int .u64 t129) := (blk_cell BK131.out 0).trans rfl
      have hc1_ : w'.cell? ⟨gb131, 1, none⟩ = some (.int .u64 t130) := (blk_cell BK131.out 1).trans rfl
      refine value_ (w1 := w') (v := .agg #[.int .u64 t129, .int .u64 t130]) (by rfl) rfl ?_ ?_
      · go_simp
        (try simp only [i64_w])
        try rfl
      refine hK.out _ _ ⟨v133, v139, v145, v156, m55_, (by rw [ha.out]; exact putSel_upk 3 hb_ rfl rfl rfl), fun _ => C.out, QA, fun h0_ => absurd ((hoff 56 (by kernel_rfl)).symm.trans h0_) (by decide)⟩
    refine steps_cons ?_ ?_
    · rintro b a w' ⟨v133, v139, v145, v156, m55_, ha, QC, QA, QF⟩ hb_ hon hoff
      refine ⟨_, rfl, fun K hK => ?_⟩
      have C := Aside0.mk (QC (hoff 56 (by kernel_rfl)))
      have e19 : a.tmps[19]? = some (.agg #[.int .u64 t135, .int .u64 t136]) := by rw [ha]; exact putSel_on (e := (3, 19, .agg #[.int .u64 t135, .int .u64 t136])) 2 rfl rfl (hon 3 (by kernel_rfl)) rfl
      have e20 : a.tmps[20]? = some (.agg #[.int .u64 t129, .int .u64 t130]) := by rw [ha]; exact putSel_on (e := (4, 20, .agg #[.int .u64 t129, .int .u64 t130])) 3 rfl rfl (hon 4 (by kernel_rfl)) rfl
      replace ha := Aside0.mk ha
      refine goes_ Tryd.func19 (by kernel_rfl) rfl #[.agg #[.int .u64 t135, .int .u64 t136], .agg #[.int .u64 t129, .int .u64 t130]] (by rfl) rfl rfl (by first | (simp only [List.map_toArray, List.map_cons, List.map_nil, Act.eval, Array.getD_eq_getD_getElem?, Option.getD_some, e19, e20]; done) | (simp only [List.map_toArray, List.map_cons, List.map_nil, Act.eval, Array.getD_eq_getD_getElem?, Option.getD_some, e19, e20]; rfl)) ?_
      with_reducible refine (bounds_wide_most.calls t135 t136 t129 t130 t137 _ A5.out).mono ?_
      rintro e w34 ⟨rfl, hb⟩
      refine ⟨_, rfl, ?_⟩
      refine hK.out _ _ ⟨v133, v139, v145, v156, m55_, (by rw [ha.out]; exact putSel_upk 4 hb_ rfl rfl rfl), fun _ => C.out.grow hb, fun h0_ h1_ => (QA h0_ h1_).grow hb, fun h0_ => absurd ((hoff 56 (by kernel_rfl)).symm.trans h0_) (by decide)⟩
    refine steps_cons ?_ ?_
    · rintro b a w' ⟨v133, v139, v145, v156, m55_, ha, QC, QA, QF⟩ hb_ hon hoff
      refine ⟨_, rfl, fun K hK => ?_⟩
      have C := Aside0.mk (QC (hoff 56 (by kernel_rfl)))
      have e22 : a.tmps[22]? = some (.pointer (some ⟨gb125, 3, none⟩)) := by rw [ha]; exact (putSel_off rfl).trans rfl
      replace ha := Aside0.mk ha
      have BK125 := Aside0.mk C.out.box1
      have hc3_ : w'.cell? ⟨gb125, 3, none⟩ = some (.int .u64 a0_3) := (blk_cell BK125.out 3).trans rfl
      refine value_ (w1 := w') (v := .int .u64 a0_3) (by rfl) rfl ?_ ?_
      · go_simp
        (try simp only [i64_w])
        try rfl
      refine hK.out _ _ ⟨v133, v139, v145, v156, m55_, (by rw [ha.out]; exact putSel_upk 5 hb_ rfl rfl rfl), fun _ => C.out, QA, fun h0_ => absurd ((hoff 56 (by kernel_rfl)).symm.trans h0_) (by decide)⟩
    refine steps_cons ?_ ?_
    · rintro b a w' ⟨v133, v139, v145, v156, m55_, ha, QC, QA, QF⟩ hb_ hon hoff
      refine ⟨_, rfl, fun K hK => ?_⟩
      have C := Aside0.mk (QC (hoff 56 (by kernel_rfl)))
      have e24 : a.tmps[24]? = some (.pointer (some ⟨gb125, 2, none⟩)) := by rw [ha]; exact (putSel_off rfl).trans rfl
      replace ha := Aside0.mk ha
      have BK125 := Aside0.mk C.out.box1
      have hc2_ : w'.cell? ⟨gb125, 2, none⟩ = some (.int .u64 a0_2) := (blk_cell BK125.out 2).trans rfl
      refine value_ (w1 := w') (v := .int .u64 a0_2) (by rfl) rfl ?_ ?_
      · go_simp
        (try simp only [i64_w])
        try rfl
      refine hK.out _ _ ⟨v133, v139, v145, v156, m55_, (by rw [ha.out]; exact putSel_upk 6 hb_ rfl rfl rfl), fun _ => C.out, QA, fun h0_ => absurd ((hoff 56 (by kernel_rfl)).symm.trans h0_) (by decide)⟩
    refine steps_cons ?_ ?_
    · rintro b a w' ⟨v133, v139, v145, v156, m55_, ha, QC, QA, QF⟩ hb_ hon hoff
      refine ⟨_, rfl, fun K hK => ?_⟩
      have C := Aside0.mk (QC (hoff 56 (by kernel_rfl)))
      have e23 : a.tmps[23]? = some (.int .u64 a0_3) := by rw [ha]; exact putSel_on (e := (7, 23, .int .u64 a0_3)) 5 rfl rfl (hon 7 (by kernel_rfl)) rfl
      have e25 : a.tmps[25]? = some (.int .u64 a0_2) := by rw [ha]; exact putSel_on (e := (9, 25, .int .u64 a0_2)) 6 rfl rfl (hon 9 (by kernel_rfl)) rfl
      replace ha := Aside0.mk ha
      refine value_ (w1 := w') (v := .bool (decide (a0_3 ≤ a0_2))) (by rfl) rfl ?_ ?_
      · go_simp
        (try simp only [i64_w])
        try rfl
      refine hK.out _ _ ⟨v133, v139, v145, v156, m55_, (by rw [ha.out]; exact putSel_upk 7 hb_ rfl rfl rfl), fun _ => C.out, QA, fun h0_ => absurd ((hoff 56 (by kernel_rfl)).symm.trans h0_) (by decide)⟩
    refine steps_cons ?_ ?_
    · rintro b a w' ⟨v133, v139, v145, v156, m55_, ha, QC, QA, QF⟩ hb_ hon hoff
      refine ⟨_, rfl, fun K hK => ?_⟩
      have C := Aside0.mk (QC (hoff 56 (by kernel_rfl)))
      have e27 : a.tmps[27]? = some (.pointer (some ⟨gb125, 4, none⟩)) := by rw [ha]; exact (putSel_off rfl).trans rfl
      replace ha := Aside0.mk ha
      have BK125 := Aside0.mk C.out.box1
      have hc4_ : w'.cell? ⟨gb125, 4, none⟩ = some (.int .u64 a0_4) := (blk_cell BK125.out 4).trans rfl
      refine value_ (w1 := w') (v := .int .u64 a0_4) (by rfl) rfl ?_ ?_
      · go_simp
        (try simp only [i64_w])
        try rfl
      refine hK.out _ _ ⟨v133, v139, v145, v156, m55_, (by rw [ha.out]; exact putSel_upk 8 hb_ rfl rfl rfl), fun _ => C.out, QA, fun h0_ => absurd ((hoff 56 (by kernel_rfl)).symm.trans h0_) (by decide)⟩
    refine steps_cons ?_ ?_
    · rintro b a w' ⟨v133, v139, v145, v156, m55_, ha, QC, QA, QF⟩ hb_ hon hoff
      refine ⟨_, rfl, fun K hK => ?_⟩
      have C := Aside0.mk (QC (hoff 56 (by kernel_rfl)))
      have e28 : a.tmps[28]? = some (.int .u64 a0_4) := by rw [ha]; exact putSel_on (e := (12, 28, .int .u64 a0_4)) 8 rfl rfl (hon 12 (by kernel_rfl)) rfl
      replace ha := Aside0.mk ha
      refine Kd.R_lit_step (Kd.int .u64) _ 22 ?hg (N := 29) ?hd (xs := ([a0_4] : List Int)) (inner := [.int .u64 a0_4]) (ok := fun _ => True) (okp := fun _ => True) ?hr ?hp (fun _ hk => hk) trivial (Below.refl _ _) (Nat.le_refl _) (by simp) ?_; (case hd => rfl); (case hg => rfl); (case hr => first | (go_simp; done) | (go_simp; rfl)); (case hp => exact (Reps.one (show Kd.M (Kd.int .u64) _ _ _ a0_4 [.int .u64 a0_4] from rfl) (Reps.none _ _)))
      intro v139 w29 ho30 hb hg_ hnew_
      clear hg_ hnew_
      (first | rw [← Ny138.out] at ho30 | (simp only [Int.reduceToNat] at ho30; rw [← Ny138.out] at ho30))
      have C1_ := C.out.grow hb
      refine hK.out _ _ ⟨v133, v139, v145, v156, m55_, (by rw [ha.out]; exact putSel_upk 9 hb_ rfl rfl rfl), fun _ => ⟨C1_.box1, C1_.box2, C1_.below, C1_.s1, fun _ => Kd.R_lower ho30 (below_size C.out.below), C1_.s3, C1_.s4⟩, fun h0_ h1_ => (QA h0_ h1_).grow hb, fun h0_ => absurd ((hoff 56 (by kernel_rfl)).symm.trans h0_) (by decide)⟩
    refine steps_cons ?_ ?_
    · rintro b a w' ⟨v133, v139, v145, v156, m55_, ha, QC, QA, QF⟩ hb_ hon hoff
      refine ⟨_, rfl, fun K hK => ?_⟩
      have C := Aside0.mk (QC (hoff 56 (by kernel_rfl)))
      have e29 : a.tmps[29]? = some (v139) := by rw [ha]; exact putSel_on (e := (13, 29, v139)) 9 rfl rfl (hon 13 (by kernel_rfl)) rfl
      replace ha := Aside0.mk ha
      have HO140 := Aside0.mk (C.out.s2 (hon 13 (by kernel_rfl)))
      obtain ⟨Ao37, co37, eo37⟩ := Kd.R_slice HO140.out
      (first | subst eo37 | (injection eo37 with f1_ f2_ f3_; have f4_ := f1_.symm; have f5_ := f3_.symm; clear f1_ f2_ f3_; subst f4_; subst f5_))
      refine goes_ Tryd.func18 (by kernel_rfl) rfl #[.slice Ao37 y138.length co37] (by rfl) rfl rfl (by first | (simp only [List.map_toArray, List.map_cons, List.map_nil, Act.eval, Array.getD_eq_getD_getElem?, Option.getD_some, e29]; done) | (simp only [List.map_toArray, List.map_cons, List.map_nil, Act.eval, Array.getD_eq_getD_getElem?, Option.getD_some, e29]; rfl)) ?_
      with_reducible refine (bounds_sum.calls k _ _ y138 t141 t142 _ ?side1 ?side2 A6.out).mono ?_
      (case side1 => repeat (first | exact (Kd.R_reads' HO140.out).2.2 | (with_reducible refine Kd.C_alloc ?_ _) | (with_reducible refine Kd.C_drewN ?_ _) | (with_reducible refine Kd.C_drew ?_)))
      (case side2 => exact (Kd.R_reads' HO140.out).2.1)
      rintro e w38 ⟨rfl, hb⟩
      refine ⟨_, rfl, ?_⟩
      refine hK.out _ _ ⟨v133, .slice Ao37 y138.length co37, v145, v156, m55_, (by rw [ha.out]; exact putSel_upk 10 hb_ rfl rfl rfl), fun _ => C.out.grow hb, fun h0_ h1_ => (QA h0_ h1_).grow hb, fun h0_ => absurd ((hoff 56 (by kernel_rfl)).symm.trans h0_) (by decide)⟩
    refine steps_cons ?_ ?_
    · rintro b a w' ⟨v133, v139, v145, v156, m55_, ha, QC, QA, QF⟩ hb_ hon hoff
      refine ⟨_, rfl, fun K hK => ?_⟩
      have C := Aside0.mk (QC (hoff 56 (by kernel_rfl)))
      have e5 : a.tmps[5]? = some (.pointer (some ⟨gb131, 0, none⟩)) := by rw [ha]; exact (putSel_off rfl).trans rfl
      replace ha := Aside0.mk ha
      have BK131 := Aside0.mk C.out.box2
      have hc0_ : w'.cell? ⟨gb131, 0, none⟩ = some (.int .u64 t129) := (blk_cell BK131.out 0).trans rfl
      have hc1_ : w'.cell? ⟨gb131, 1, none⟩ = some (.int .u64 t130) := (blk_cell BK131.out 1).trans rfl
      refine value_ (w1 := w') (v := .agg #[.int .u64 t129, .int .u64 t130]) (by rfl) rfl ?_ ?_
      · go_simp
        (try simp only [i64_w])
        try rfl
      refine hK.out _ _ ⟨v133, v139, v145, v156, m55_, (by rw [ha.out]; exact putSel_upk 11 hb_ rfl rfl rfl), fun _ => C.out, QA, fun h0_ => absurd ((hoff 56 (by kernel_rfl)).symm.trans h0_) (by decide)⟩
    refine steps_cons ?_ ?_
    · rintro b a w' ⟨v133, v139, v145, v156, m55_, ha, QC, QA, QF⟩ hb_ hon hoff
      refine ⟨_, rfl, fun K hK => ?_⟩
      have C := Aside0.mk (QC (hoff 56 (by kernel_rfl)))
      have e30 : a.tmps[30]? = some (.agg #[.int .u64 t141, .int .u64 t142]) := by rw [ha]; exact putSel_on (e := (14, 30, .agg #[.int .u64 t141, .int .u64 t142])) 10 rfl rfl (hon 14 (by kernel_rfl)) rfl
      have e31 : a.tmps[31]? = some (.agg #[.int .u64 t129, .int .u64 t130]) := by rw [ha]; exact putSel_on (e := (15, 31, .agg #[.int .u64 t129, .int .u64 t130])) 11 rfl rfl (hon 15 (by kernel_rfl)) rfl
      replace ha := Aside0.mk ha
      refine goes_ Tryd.func19 (by kernel_rfl) rfl #[.agg #[.int .u64 t141, .int .u64 t142], .agg #[.int .u64 t129, .int .u64 t130]] (by rfl) rfl rfl (by first | (simp only [List.map_toArray, List.map_cons, List.map_nil, Act.eval, Array.getD_eq_getD_getElem?, Option.getD_some, e30, e31]; done) | (simp only [List.map_toArray, List.map_cons, List.map_nil, Act.eval, Array.getD_eq_getD_getElem?, Option.getD_some, e30, e31]; rfl)) ?_
      with_reducible refine (bounds_wide_most.calls t141 t142 t129 t130 t143 _ A7.out).mono ?_
      rintro e w39 ⟨rfl, hb⟩
      refine ⟨_, rfl, ?_⟩
      refine hK.out _ _ ⟨v133, v139, v145, v156, m55_, (by rw [ha.out]; exact putSel_upk 12 hb_ rfl rfl rfl), fun _ => C.out.grow hb, fun h0_ h1_ => (QA h0_ h1_).grow hb, fun h0_ => absurd ((hoff 56 (by kernel_rfl)).symm.trans h0_) (by decide)⟩
    refine steps_cons ?_ ?_
    · rintro b a w' ⟨v133, v139, v145, v156, m55_, ha, QC, QA, QF⟩ hb_ hon hoff
      refine ⟨_, rfl, fun K hK => ?_⟩
      have C := Aside0.mk (QC (hoff 56 (by kernel_rfl)))
      have e33 : a.tmps[33]? = some (.pointer (some ⟨gb125, 5, none⟩)) := by rw [ha]; exact (putSel_off rfl).trans rfl
      replace ha := Aside0.mk ha
      have BK125 := Aside0.mk C.out.box1
      have hc5_ : w'.cell? ⟨gb125, 5, none⟩ = some (.int .u64 a0_5) := (blk_cell BK125.out 5).trans rfl
      refine value_ (w1 := w') (v := .int .u64 a0_5) (by rfl) rfl ?_ ?_
      · go_simp
        (try simp only [i64_w])
        try rfl
      refine hK.out _ _ ⟨v133, v139, v145, v156, m55_, (by rw [ha.out]; exact putSel_upk 13 hb_ rfl rfl rfl), fun _ => C.out, QA, fun h0_ => absurd ((hoff 56 (by kernel_rfl)).symm.trans h0_) (by decide)⟩
    refine steps_cons ?_ ?_
    · rintro b a w' ⟨v133, v139, v145, v156, m55_, ha, QC, QA, QF⟩ hb_ hon hoff
      refine ⟨_, rfl, fun K hK => ?_⟩
      have C := Aside0.mk (QC (hoff 56 (by kernel_rfl)))
      have e35 : a.tmps[35]? = some (.pointer (some ⟨gb125, 1, none⟩)) := by rw [ha]; exact (putSel_off rfl).trans rfl
      replace ha := Aside0.mk ha
      have BK125 := Aside0.mk C.out.box1
      have hc1_ : w'.cell? ⟨gb125, 1, none⟩ = some (.int .u64 a0_1) := (blk_cell BK125.out 1).trans rfl
      refine value_ (w1 := w') (v := .int .u64 a0_1) (by rfl) rfl ?_ ?_
      · go_simp
        (try simp only [i64_w])
        try rfl
      refine hK.out _ _ ⟨v133, v139, v145, v156, m55_, (by rw [ha.out]; exact putSel_upk 14 hb_ rfl rfl rfl), fun _ => C.out, QA, fun h0_ => absurd ((hoff 56 (by kernel_rfl)).symm.trans h0_) (by decide)⟩
    refine steps_cons ?_ ?_
    · rintro b a w' ⟨v133, v139, v145, v156, m55_, ha, QC, QA, QF⟩ hb_ hon hoff
      refine ⟨_, rfl, fun K hK => ?_⟩
      have C := Aside0.mk (QC (hoff 56 (by kernel_rfl)))
      have e34 : a.tmps[34]? = some (.int .u64 a0_5) := by rw [ha]; exact putSel_on (e := (18, 34, .int .u64 a0_5)) 13 rfl rfl (hon 18 (by kernel_rfl)) rfl
      have e36 : a.tmps[36]? = some (.int .u64 a0_1) := by rw [ha]; exact putSel_on (e := (20, 36, .int .u64 a0_1)) 14 rfl rfl (hon 20 (by kernel_rfl)) rfl
      replace ha := Aside0.mk ha
      refine value_ (w1 := w') (v := .bool (decide (a0_5 ≤ a0_1))) (by rfl) rfl ?_ ?_
      · go_simp
        (try simp only [i64_w])
        try rfl
      refine hK.out _ _ ⟨v133, v139, v145, v156, m55_, (by rw [ha.out]; exact putSel_upk 15 hb_ rfl rfl rfl), fun _ => C.out, QA, fun h0_ => absurd ((hoff 56 (by kernel_rfl)).symm.trans h0_) (by decide)⟩
    refine steps_cons ?_ ?_
    · rintro b a w' ⟨v133, v139, v145, v156, m55_, ha, QC, QA, QF⟩ hb_ hon hoff
      refine ⟨_, rfl, fun K hK => ?_⟩
      have C := Aside0.mk (QC (hoff 56 (by kernel_rfl)))
      have e38 : a.tmps[38]? = some (.pointer (some ⟨gb125, 6, none⟩)) := by rw [ha]; exact (putSel_off rfl).trans rfl
      replace ha := Aside0.mk ha
      have BK125 := Aside0.mk C.out.box1
      have hc6_ : w'.cell? ⟨gb125, 6, none⟩ = some (.int .u64 a0_6) := (blk_cell BK125.out 6).trans rfl
      refine value_ (w1 := w') (v := .int .u64 a0_6) (by rfl) rfl ?_ ?_
      · go_simp
        (try simp only [i64_w])
        try rfl
      refine hK.out _ _ ⟨v133, v139, v145, v156, m55_, (by rw [ha.out]; exact putSel_upk 16 hb_ rfl rfl rfl), fun _ => C.out, QA, fun h0_ => absurd ((hoff 56 (by kernel_rfl)).symm.trans h0_) (by decide)⟩
    refine steps_cons ?_ ?_
    · rintro b a w' ⟨v133, v139, v145, v156, m55_, ha, QC, QA, QF⟩ hb_ hon hoff
      refine ⟨_, rfl, fun K hK => ?_⟩
      have C := Aside0.mk (QC (hoff 56 (by kernel_rfl)))
      have e40 : a.tmps[40]? = some (.pointer (some ⟨gb125, 5, none⟩)) := by rw [ha]; exact (putSel_off rfl).trans rfl
      replace ha := Aside0.mk ha
      have BK125 := Aside0.mk C.out.box1
      have hc5_ : w'.cell? ⟨gb125, 5, none⟩ = some (.int .u64 a0_5) := (blk_cell BK125.out 5).trans rfl
      refine value_ (w1 := w') (v := .int .u64 a0_5) (by rfl) rfl ?_ ?_
      · go_simp
        (try simp only [i64_w])
        try rfl
      refine hK.out _ _ ⟨v133, v139, v145, v156, m55_, (by rw [ha.out]; exact putSel_upk 17 hb_ rfl rfl rfl), fun _ => C.out, QA, fun h0_ => absurd ((hoff 56 (by kernel_rfl)).symm.trans h0_) (by decide)⟩
    refine steps_cons ?_ ?_
    · rintro b a w' ⟨v133, v139, v145, v156, m55_, ha, QC, QA, QF⟩ hb_ hon hoff
      refine ⟨_, rfl, fun K hK => ?_⟩
      have C := Aside0.mk (QC (hoff 56 (by kernel_rfl)))
      have e39 : a.tmps[39]? = some (.int .u64 a0_6) := by rw [ha]; exact putSel_on (e := (23, 39, .int .u64 a0_6)) 16 rfl rfl (hon 23 (by kernel_rfl)) rfl
      have e41 : a.tmps[41]? = some (.int .u64 a0_5) := by rw [ha]; exact putSel_on (e := (25, 41, .int .u64 a0_5)) 17 rfl rfl (hon 25 (by kernel_rfl)) rfl
      replace ha := Aside0.mk ha
      refine value_ (w1 := w') (v := .bool (decide (a0_6 ≤ a0_5))) (by rfl) rfl ?_ ?_
      · go_simp
        (try simp only [i64_w])
        try rfl
      refine hK.out _ _ ⟨v133, v139, v145, v156, m55_, (by rw [ha.out]; exact putSel_upk 18 hb_ rfl rfl rfl), fun _ => C.out, QA, fun h0_ => absurd ((hoff 56 (by kernel_rfl)).symm.trans h0_) (by decide)⟩
    refine steps_cons ?_ ?_
    · rintro b a w' ⟨v133, v139, v145, v156, m55_, ha, QC, QA, QF⟩ hb_ hon hoff
      refine ⟨_, rfl, fun K hK => ?_⟩
      have C := Aside0.mk (QC (hoff 56 (by kernel_rfl)))
      have e43 : a.tmps[43]? = some (.pointer (some ⟨gb125, 7, none⟩)) := by rw [ha]; exact (putSel_off rfl).trans rfl
      replace ha := Aside0.mk ha
      have BK125 := Aside0.mk C.out.box1
      have hc7_ : w'.cell? ⟨gb125, 7, none⟩ = some (.int .u64 a0_7) := (blk_cell BK125.out 7).trans rfl
      refine value_ (w1 := w') (v := .int .u64 a0_7) (by rfl) rfl ?_ ?_
      · go_simp
        (try simp only [i64_w])
        try rfl
      refine hK.out _ _ ⟨v133, v139, v145, v156, m55_, (by rw [ha.out]; exact putSel_upk 19 hb_ rfl rfl rfl), fun _ => C.out, QA, fun h0_ => absurd ((hoff 56 (by kernel_rfl)).symm.trans h0_) (by decide)⟩
    refine steps_cons ?_ ?_
    · rintro b a w' ⟨v133, v139, v145, v156, m55_, ha, QC, QA, QF⟩ hb_ hon hoff
      refine ⟨_, rfl, fun K hK => ?_⟩
      have C := Aside0.mk (QC (hoff 56 (by kernel_rfl)))
      have e45 : a.tmps[45]? = some (.pointer (some ⟨gb125, 0, none⟩)) := by rw [ha]; exact (putSel_off rfl).trans rfl
      replace ha := Aside0.mk ha
      have BK125 := Aside0.mk C.out.box1
      have hc0_ : w'.cell? ⟨gb125, 0, none⟩ = some (.int .u64 a0_0) := (blk_cell BK125.out 0).trans rfl
      refine value_ (w1 := w') (v := .int .u64 a0_0) (by rfl) rfl ?_ ?_
      · go_simp
        (try simp only [i64_w])
        try rfl
      refine hK.out _ _ ⟨v133, v139, v145, v156, m55_, (by rw [ha.out]; exact putSel_upk 20 hb_ rfl rfl rfl), fun _ => C.out, QA, fun h0_ => absurd ((hoff 56 (by kernel_rfl)).symm.trans h0_) (by decide)⟩
    refine steps_cons ?_ ?_
    · rintro b a w' ⟨v133, v139, v145, v156, m55_, ha, QC, QA, QF⟩ hb_ hon hoff
      refine ⟨_, rfl, fun K hK => ?_⟩
      have C := Aside0.mk (QC (hoff 56 (by kernel_rfl)))
      have e44 : a.tmps[44]? = some (.int .u64 a0_7) := by rw [ha]; exact putSel_on (e := (28, 44, .int .u64 a0_7)) 19 rfl rfl (hon 28 (by kernel_rfl)) rfl
      have e46 : a.tmps[46]? = some (.int .u64 a0_0) := by rw [ha]; exact putSel_on (e := (30, 46, .int .u64 a0_0)) 20 rfl rfl (hon 30 (by kernel_rfl)) rfl
      replace ha := Aside0.mk ha
      refine value_ (w1 := w') (v := .bool (decide (a0_7 ≤ a0_0))) (by rfl) rfl ?_ ?_
      · go_simp
        (try simp only [i64_w])
        try rfl
      refine hK.out _ _ ⟨v133, v139, v145, v156, m55_, (by rw [ha.out]; exact putSel_upk 21 hb_ rfl rfl rfl), fun _ => C.out, QA, fun h0_ => absurd ((hoff 56 (by kernel_rfl)).symm.trans h0_) (by decide)⟩
    refine steps_cons ?_ ?_
    · rintro b a w' ⟨v133, v139, v145, v156, m55_, ha, QC, QA, QF⟩ hb_ hon hoff
      refine ⟨_, rfl, fun K hK => ?_⟩
      have C := Aside0.mk (QC (hoff 56 (by kernel_rfl)))
      have e48 : a.tmps[48]? = some (.pointer (some ⟨gb125, 8, none⟩)) := by rw [ha]; exact (putSel_off rfl).trans rfl
      replace ha := Aside0.mk ha
      have BK125 := Aside0.mk C.out.box1
      have hc8_ : w'.cell? ⟨gb125, 8, none⟩ = some (.int .u64 a0_8) := (blk_cell BK125.out 8).trans rfl
      refine value_ (w1 := w') (v := .int .u64 a0_8) (by rfl) rfl ?_ ?_
      · go_simp
        (try simp only [i64_w])
        try rfl
      refine hK.out _ _ ⟨v133, v139, v145, v156, m55_, (by rw [ha.out]; exact putSel_upk 22 hb_ rfl rfl rfl), fun _ => C.out, QA, fun h0_ => absurd ((hoff 56 (by kernel_rfl)).symm.trans h0_) (by decide)⟩
    refine steps_cons ?_ ?_
    · rintro b a w' ⟨v133, v139, v145, v156, m55_, ha, QC, QA, QF⟩ hb_ hon hoff
      refine ⟨_, rfl, fun K hK => ?_⟩
      have C := Aside0.mk (QC (hoff 56 (by kernel_rfl)))
      have e49 : a.tmps[49]? = some (.int .u64 a0_8) := by rw [ha]; exact putSel_on (e := (33, 49, .int .u64 a0_8)) 22 rfl rfl (hon 33 (by kernel_rfl)) rfl
      replace ha := Aside0.mk ha
      refine Kd.R_lit_step (Kd.int .u64) _ 22 ?hg (N := 50) ?hd (xs := ([a0_8] : List Int)) (inner := [.int .u64 a0_8]) (ok := fun _ => True) (okp := fun _ => True) ?hr ?hp (fun _ hk => hk) trivial (Below.refl _ _) (Nat.le_refl _) (by simp) ?_; (case hd => rfl); (case hg => rfl); (case hr => first | (go_simp; done) | (go_simp; rfl)); (case hp => exact (Reps.one (show Kd.M (Kd.int .u64) _ _ _ a0_8 [.int .u64 a0_8] from rfl) (Reps.none _ _)))
      intro v145 w29 ho30 hb hg_ hnew_
      clear hg_ hnew_
      (first | rw [← Ny144.out] at ho30 | (simp only [Int.reduceToNat] at ho30; rw [← Ny144.out] at ho30))
      have C1_ := C.out.grow hb
      refine hK.out _ _ ⟨v133, v139, v145, v156, m55_, (by rw [ha.out]; exact putSel_upk 23 hb_ rfl rfl rfl), fun _ => ⟨C1_.box1, C1_.box2, C1_.below, C1_.s1, C1_.s2, fun _ => Kd.R_lower ho30 (below_size C.out.below), C1_.s4⟩, fun h0_ h1_ => (QA h0_ h1_).grow hb, fun h0_ => absurd ((hoff 56 (by kernel_rfl)).symm.trans h0_) (by decide)⟩
    refine steps_cons ?_ ?_
    · rintro b a w' ⟨v133, v139, v145, v156, m55_, ha, QC, QA, QF⟩ hb_ hon hoff
      refine ⟨_, rfl, fun K hK => ?_⟩
      have C := Aside0.mk (QC (hoff 56 (by kernel_rfl)))
      have e50 : a.tmps[50]? = some (v145) := by rw [ha]; exact putSel_on (e := (34, 50, v145)) 23 rfl rfl (hon 34 (by kernel_rfl)) rfl
      replace ha := Aside0.mk ha
      have HO146 := Aside0.mk (C.out.s3 (hon 34 (by kernel_rfl)))
      obtain ⟨Ao42, co42, eo42⟩ := Kd.R_slice HO146.out
      (first | subst eo42 | (injection eo42 with f1_ f2_ f3_; have f4_ := f1_.symm; have f5_ := f3_.symm; clear f1_ f2_ f3_; subst f4_; subst f5_))
      refine goes_ Tryd.func18 (by kernel_rfl) rfl #[.slice Ao42 y144.length co42] (by rfl) rfl rfl (by first | (simp only [List.map_toArray, List.map_cons, List.map_nil, Act.eval, Array.getD_eq_getD_getElem?, Option.getD_some, e50]; done) | (simp only [List.map_toArray, List.map_cons, List.map_nil, Act.eval, Array.getD_eq_getD_getElem?, Option.getD_some, e50]; rfl)) ?_
      with_reducible refine (bounds_sum.calls k _ _ y144 t147 t148 _ ?side1 ?side2 A8.out).mono ?_
      (case side1 => repeat (first | exact (Kd.R_reads' HO146.out).2.2 | (with_reducible refine Kd.C_alloc ?_ _) | (with_reducible refine Kd.C_drewN ?_ _) | (with_reducible refine Kd.C_drew ?_)))
      (case side2 => exact (Kd.R_reads' HO146.out).2.1)
      rintro e w43 ⟨rfl, hb⟩
      refine ⟨_, rfl, ?_⟩
      refine hK.out _ _ ⟨v133, v139, .slice Ao42 y144.length co42, v156, m55_, (by rw [ha.out]; exact putSel_upk 24 hb_ rfl rfl rfl), fun _ => C.out.grow hb, fun h0_ h1_ => (QA h0_ h1_).grow hb, fun h0_ => absurd ((hoff 56 (by kernel_rfl)).symm.trans h0_) (by decide)⟩
    refine steps_cons ?_ ?_
    · rintro b a w' ⟨v133, v139, v145, v156, m55_, ha, QC, QA, QF⟩ hb_ hon hoff
      refine ⟨_, rfl, fun K hK => ?_⟩
      have C := Aside0.mk (QC (hoff 56 (by kernel_rfl)))
      have e5 : a.tmps[5]? = some (.pointer (some ⟨gb131, 0, none⟩)) := by rw [ha]; exact (putSel_off rfl).trans rfl
      replace ha := Aside0.mk ha
      have BK131 := Aside0.mk C.out.box2
      have hc0_ : w'.cell? ⟨gb131, 0, none⟩ = some (.int .u64 t129) := (blk_cell BK131.out 0).trans rfl
      have hc1_ : w'.cell? ⟨gb131, 1, none⟩ = some (.int .u64 t130) := (blk_cell BK131.out 1).trans rfl
      refine value_ (w1 := w') (v := .agg #[.int .u64 t129, .int .u64 t130]) (by rfl) rfl ?_ ?_
      · go_simp
        (try simp only [i64_w])
        try rfl
      refine hK.out _ _ ⟨v133, v139, v145, v156, m55_, (by rw [ha.out]; exact putSel_upk 25 hb_ rfl rfl rfl), fun _ => C.out, QA, fun h0_ => absurd ((hoff 56 (by kernel_rfl)).symm.trans h0_) (by decide)⟩
    refine steps_cons ?_ ?_
    · rintro b a w' ⟨v133, v139, v145, v156, m55_, ha, QC, QA, QF⟩ hb_ hon hoff
      refine ⟨_, rfl, fun K hK => ?_⟩
      have C := Aside0.mk (QC (hoff 56 (by kernel_rfl)))
      have e51 : a.tmps[51]? = some (.agg #[.int .u64 t147, .int .u64 t148]) := by rw [ha]; exact putSel_on (e := (35, 51, .agg #[.int .u64 t147, .int .u64 t148])) 24 rfl rfl (hon 35 (by kernel_rfl)) rfl
      have e52 : a.tmps[52]? = some (.agg #[.int .u64 t129, .int .u64 t130]) := by rw [ha]; exact putSel_on (e := (36, 52, .agg #[.int .u64 t129, .int .u64 t130])) 25 rfl rfl (hon 36 (by kernel_rfl)) rfl
      replace ha := Aside0.mk ha
      refine goes_ Tryd.func19 (by kernel_rfl) rfl #[.agg #[.int .u64 t147, .int .u64 t148], .agg #[.int .u64 t129, .int .u64 t130]] (by rfl) rfl rfl (by first | (simp only [List.map_toArray, List.map_cons, List.map_nil, Act.eval, Array.getD_eq_getD_getElem?, Option.getD_some, e51, e52]; done) | (simp only [List.map_toArray, List.map_cons, List.map_nil, Act.eval, Array.getD_eq_getD_getElem?, Option.getD_some, e51, e52]; rfl)) ?_
      with_reducible refine (bounds_wide_most.calls t147 t148 t129 t130 t149 _ A9.out).mono ?_
      rintro e w44 ⟨rfl, hb⟩
      refine ⟨_, rfl, ?_⟩
      refine hK.out _ _ ⟨v133, v139, v145, v156, m55_, (by rw [ha.out]; exact putSel_upk 26 hb_ rfl rfl rfl), fun _ => C.out.grow hb, fun h0_ h1_ => (QA h0_ h1_).grow hb, fun h0_ => absurd ((hoff 56 (by kernel_rfl)).symm.trans h0_) (by decide)⟩
    refine steps_cons ?_ ?_
    · rintro b a w' ⟨v133, v139, v145, v156, m55_, ha, QC, QA, QF⟩ hb_ hon hoff
      refine ⟨_, rfl, fun K hK => ?_⟩
      have C := Aside0.mk (QC (hoff 56 (by kernel_rfl)))
      have e2 : a.tmps[2]? = some (.pointer (some ⟨gb125, 0, none⟩)) := by rw [ha]; exact (putSel_off rfl).trans rfl
      replace ha := Aside0.mk ha
      have BK125 := Aside0.mk C.out.box1
      have hc0_ : w'.cell? ⟨gb125, 0, none⟩ = some (.int .u64 a0_0) := (blk_cell BK125.out 0).trans rfl
      have hc1_ : w'.cell? ⟨gb125, 1, none⟩ = some (.int .u64 a0_1) := (blk_cell BK125.out 1).trans rfl
      have hc2_ : w'.cell? ⟨gb125, 2, none⟩ = some (.int .u64 a0_2) := (blk_cell BK125.out 2).trans rfl
      have hc3_ : w'.cell? ⟨gb125, 3, none⟩ = some (.int .u64 a0_3) := (blk_cell BK125.out 3).trans rfl
      have hc4_ : w'.cell? ⟨gb125, 4, none⟩ = some (.int .u64 a0_4) := (blk_cell BK125.out 4).trans rfl
      have hc5_ : w'.cell? ⟨gb125, 5, none⟩ = some (.int .u64 a0_5) := (blk_cell BK125.out 5).trans rfl
      have hc6_ : w'.cell? ⟨gb125, 6, none⟩ = some (.int .u64 a0_6) := (blk_cell BK125.out 6).trans rfl
      have hc7_ : w'.cell? ⟨gb125, 7, none⟩ = some (.int .u64 a0_7) := (blk_cell BK125.out 7).trans rfl
      have hc8_ : w'.cell? ⟨gb125, 8, none⟩ = some (.int .u64 a0_8) := (blk_cell BK125.out 8).trans rfl
      have hc9_ : w'.cell? ⟨gb125, 9, none⟩ = some (.int .u64 a0_9) := (blk_cell BK125.out 9).trans rfl
      refine value_ (w1 := w') (v := .agg #[.int .u64 a0_0, .int .u64 a0_1, .int .u64 a0_2, .int .u64 a0_3, .int .u64 a0_4, .int .u64 a0_5, .int .u64 a0_6, .int .u64 a0_7, .int .u64 a0_8, .int .u64 a0_9]) (by rfl) rfl ?_ ?_
      · go_simp
        (try simp only [i64_w])
        try rfl
      refine hK.out _ _ ⟨v133, v139, v145, v156, m55_, (by rw [ha.out]; exact putSel_upk 27 hb_ rfl rfl rfl), fun _ => C.out, QA, fun h0_ => absurd ((hoff 56 (by kernel_rfl)).symm.trans h0_) (by decide)⟩
    refine steps_cons ?_ ?_
    · rintro b a w' ⟨v133, v139, v145, v156, m55_, ha, QC, QA, QF⟩ hb_ hon hoff
      refine ⟨_, rfl, fun K hK => ?_⟩
      have C := Aside0.mk (QC (hoff 56 (by kernel_rfl)))
      have e54 : a.tmps[54]? = some (.agg #[.int .u64 a0_0, .int .u64 a0_1, .int .u64 a0_2, .int .u64 a0_3, .int .u64 a0_4, .int .u64 a0_5, .int .u64 a0_6, .int .u64 a0_7, .int .u64 a0_8, .int .u64 a0_9]) := by rw [ha]; exact putSel_on (e := (38, 54, .agg #[.int .u64 a0_0, .int .u64 a0_1, .int .u64 a0_2, .int .u64 a0_3, .int .u64 a0_4, .int .u64 a0_5, .int .u64 a0_6, .int .u64 a0_7, .int .u64 a0_8, .int .u64 a0_9])) 27 rfl rfl (hon 38 (by kernel_rfl)) rfl
      replace ha := Aside0.mk ha
      refine goes_ Tryd.func20 (by kernel_rfl) rfl #[.agg #[.int .u64 a0_0, .int .u64 a0_1, .int .u64 a0_2, .int .u64 a0_3, .int .u64 a0_4, .int .u64 a0_5, .int .u64 a0_6, .int .u64 a0_7, .int .u64 a0_8, .int .u64 a0_9]] (by rfl) rfl rfl (by first | (simp only [List.map_toArray, List.map_cons, List.map_nil, Act.eval, Array.getD_eq_getD_getElem?, Option.getD_some, e54]; done) | (simp only [List.map_toArray, List.map_cons, List.map_nil, Act.eval, Array.getD_eq_getD_getElem?, Option.getD_some, e54]; rfl)) ?_
      with_reducible refine (bounds_done.calls k a0_0 a0_1 a0_2 a0_3 a0_4 a0_5 a0_6 a0_7 a0_8 a0_9 t150 t151 _ A10.out).mono ?_
      rintro e w45 ⟨rfl, hb⟩
      refine ⟨_, rfl, ?_⟩
      refine hK.out _ _ ⟨v133, v139, v145, v156, m55_, (by rw [ha.out]; exact putSel_upk 28 hb_ rfl rfl rfl), fun _ => C.out.grow hb, fun h0_ h1_ => (QA h0_ h1_).grow hb, fun h0_ => absurd ((hoff 56 (by kernel_rfl)).symm.trans h0_) (by decide)⟩
    refine steps_cons ?_ ?_
    · rintro b a w' ⟨v133, v139, v145, v156, m55_, ha, QC, QA, QF⟩ hb_ hon hoff
      refine ⟨_, rfl, fun K hK => ?_⟩
      have C := Aside0.mk (QC (hoff 56 (by kernel_rfl)))
      have e5 : a.tmps[5]? = some (.pointer (some ⟨gb131, 0, none⟩)) := by rw [ha]; exact (putSel_off rfl).trans rfl
      replace ha := Aside0.mk ha
      have BK131 := Aside0.mk C.out.box2
      have hc0_ : w'.cell? ⟨gb131, 0, none⟩ = some (.int .u64 t129) := (blk_cell BK131.out 0).trans rfl
      have hc1_ : w'.cell? ⟨gb131, 1, none⟩ = some (.int .u64 t130) := (blk_cell BK131.out 1).trans rfl
      refine value_ (w1 := w') (v := .agg #[.int .u64 t129, .int .u64 t130]) (by rfl) rfl ?_ ?_
      · go_simp
        (try simp only [i64_w])
        try rfl
      refine hK.out _ _ ⟨v133, v139, v145, v156, m55_, (by rw [ha.out]; exact putSel_upk 29 hb_ rfl rfl rfl), fun _ => C.out, QA, fun h0_ => absurd ((hoff 56 (by kernel_rfl)).symm.trans h0_) (by decide)⟩
    refine steps_cons ?_ ?_
    · rintro b a w' ⟨v133, v139, v145, v156, m55_, ha, QC, QA, QF⟩ hb_ hon hoff
      refine ⟨_, rfl, fun K hK => ?_⟩
      have C := Aside0.mk (QC (hoff 56 (by kernel_rfl)))
      have e56 : a.tmps[56]? = some (.agg #[.int .u64 t129, .int .u64 t130]) := by rw [ha]; exact putSel_on (e := (40, 56, .agg #[.int .u64 t129, .int .u64 t130])) 29 rfl rfl (hon 40 (by kernel_rfl)) rfl
      replace ha := Aside0.mk ha
      refine goes_ Tryd.func21 (by kernel_rfl) rfl #[.agg #[.int .u64 t129, .int .u64 t130], .int .u64 4] (by rfl) rfl rfl (by first | (simp only [List.map_toArray, List.map_cons, List.map_nil, Act.eval, Array.getD_eq_getD_getElem?, Option.getD_some, e56]; done) | (simp only [List.map_toArray, List.map_cons, List.map_nil, Act.eval, Array.getD_eq_getD_getElem?, Option.getD_some, e56]; rfl)) ?_
      with_reducible refine (bounds_wide_times.calls t129 t130 4 t152 t153 _ A11.out).mono ?_
      rintro e w46 ⟨rfl, hb⟩
      refine ⟨_, rfl, ?_⟩
      refine hK.out _ _ ⟨v133, v139, v145, v156, m55_, (by rw [ha.out]; exact putSel_upk 30 hb_ rfl rfl rfl), fun _ => C.out.grow hb, fun h0_ h1_ => (QA h0_ h1_).grow hb, fun h0_ => absurd ((hoff 56 (by kernel_rfl)).symm.trans h0_) (by decide)⟩
    refine steps_cons ?_ ?_
    · rintro b a w' ⟨v133, v139, v145, v156, m55_, ha, QC, QA, QF⟩ hb_ hon hoff
      refine ⟨_, rfl, fun K hK => ?_⟩
      have C := Aside0.mk (QC (hoff 56 (by kernel_rfl)))
      have e55 : a.tmps[55]? = some (.agg #[.int .u64 t150, .int .u64 t151]) := by rw [ha]; exact putSel_on (e := (39, 55, .agg #[.int .u64 t150, .int .u64 t151])) 28 rfl rfl (hon 39 (by kernel_rfl)) rfl
      have e57 : a.tmps[57]? = some (.agg #[.int .u64 t152, .int .u64 t153]) := by rw [ha]; exact putSel_on (e := (41, 57, .agg #[.int .u64 t152, .int .u64 t153])) 30 rfl rfl (hon 41 (by kernel_rfl)) rfl
      replace ha := Aside0.mk ha
      refine goes_ Tryd.func19 (by kernel_rfl) rfl #[.agg #[.int .u64 t150, .int .u64 t151], .agg #[.int .u64 t152, .int .u64 t153]] (by rfl) rfl rfl (by first | (simp only [List.map_toArray, List.map_cons, List.map_nil, Act.eval, Array.getD_eq_getD_getElem?, Option.getD_some, e55, e57]; done) | (simp only [List.map_toArray, List.map_cons, List.map_nil, Act.eval, Array.getD_eq_getD_getElem?, Option.getD_some, e55, e57]; rfl)) ?_
      with_reducible refine (bounds_wide_most.calls t150 t151 t152 t153 t154 _ A12.out).mono ?_
      rintro e w47 ⟨rfl, hb⟩
      refine ⟨_, rfl, ?_⟩
      refine hK.out _ _ ⟨v133, v139, v145, v156, m55_, (by rw [ha.out]; exact putSel_upk 31 hb_ rfl rfl rfl), fun _ => C.out.grow hb, fun h0_ h1_ => (QA h0_ h1_).grow hb, fun h0_ => absurd ((hoff 56 (by kernel_rfl)).symm.trans h0_) (by decide)⟩
    refine steps_cons ?_ ?_
    · rintro b a w' ⟨v133, v139, v145, v156, m55_, ha, QC, QA, QF⟩ hb_ hon hoff
      refine ⟨_, rfl, fun K hK => ?_⟩
      have C := Aside0.mk (QC (hoff 56 (by kernel_rfl)))
      have e59 : a.tmps[59]? = some (.pointer (some ⟨gb125, 9, none⟩)) := by rw [ha]; exact (putSel_off rfl).trans rfl
      replace ha := Aside0.mk ha
      have BK125 := Aside0.mk C.out.box1
      have hc9_ : w'.cell? ⟨gb125, 9, none⟩ = some (.int .u64 a0_9) := (blk_cell BK125.out 9).trans rfl
      refine value_ (w1 := w') (v := .int .u64 a0_9) (by rfl) rfl ?_ ?_
      · go_simp
        (try simp only [i64_w])
        try rfl
      refine hK.out _ _ ⟨v133, v139, v145, v156, m55_, (by rw [ha.out]; exact putSel_upk 32 hb_ rfl rfl rfl), fun _ => C.out, QA, fun h0_ => absurd ((hoff 56 (by kernel_rfl)).symm.trans h0_) (by decide)⟩
    refine steps_cons ?_ ?_
    · rintro b a w' ⟨v133, v139, v145, v156, m55_, ha, QC, QA, QF⟩ hb_ hon hoff
      refine ⟨_, rfl, fun K hK => ?_⟩
      have C := Aside0.mk (QC (hoff 56 (by kernel_rfl)))
      have e60 : a.tmps[60]? = some (.int .u64 a0_9) := by rw [ha]; exact putSel_on (e := (44, 60, .int .u64 a0_9)) 32 rfl rfl (hon 44 (by kernel_rfl)) rfl
      replace ha := Aside0.mk ha
      refine Kd.R_lit_step (Kd.int .u64) _ 22 ?hg (N := 61) ?hd (xs := ([a0_9] : List Int)) (inner := [.int .u64 a0_9]) (ok := fun _ => True) (okp := fun _ => True) ?hr ?hp (fun _ hk => hk) trivial (Below.refl _ _) (Nat.le_refl _) (by simp) ?_; (case hd => rfl); (case hg => rfl); (case hr => first | (go_simp; done) | (go_simp; rfl)); (case hp => exact (Reps.one (show Kd.M (Kd.int .u64) _ _ _ a0_9 [.int .u64 a0_9] from rfl) (Reps.none _ _)))
      intro v156 w29 ho30 hb hg_ hnew_
      clear hg_ hnew_
      (first | rw [← Ny155.out] at ho30 | (simp only [Int.reduceToNat] at ho30; rw [← Ny155.out] at ho30))
      have C1_ := C.out.grow hb
      refine hK.out _ _ ⟨v133, v139, v145, v156, m55_, (by rw [ha.out]; exact putSel_upk 33 hb_ rfl rfl rfl), fun _ => ⟨C1_.box1, C1_.box2, C1_.below, C1_.s1, C1_.s2, C1_.s3, fun _ => Kd.R_lower ho30 (below_size C.out.below)⟩, fun h0_ h1_ => (QA h0_ h1_).grow hb, fun h0_ => absurd ((hoff 56 (by kernel_rfl)).symm.trans h0_) (by decide)⟩
    refine steps_cons ?_ ?_
    · rintro b a w' ⟨v133, v139, v145, v156, m55_, ha, QC, QA, QF⟩ hb_ hon hoff
      refine ⟨_, rfl, fun K hK => ?_⟩
      have C := Aside0.mk (QC (hoff 56 (by kernel_rfl)))
      have e61 : a.tmps[61]? = some (v156) := by rw [ha]; exact putSel_on (e := (45, 61, v156)) 33 rfl rfl (hon 45 (by kernel_rfl)) rfl
      replace ha := Aside0.mk ha
      have HO157 := Aside0.mk (C.out.s4 (hon 45 (by kernel_rfl)))
      obtain ⟨Ao50, co50, eo50⟩ := Kd.R_slice HO157.out
      (first | subst eo50 | (injection eo50 with f1_ f2_ f3_; have f4_ := f1_.symm; have f5_ := f3_.symm; clear f1_ f2_ f3_; subst f4_; subst f5_))
      refine goes_ Tryd.func18 (by kernel_rfl) rfl #[.slice Ao50 y155.length co50] (by rfl) rfl rfl (by first | (simp only [List.map_toArray, List.map_cons, List.map_nil, Act.eval, Array.getD_eq_getD_getElem?, Option.getD_some, e61]; done) | (simp only [List.map_toArray, List.map_cons, List.map_nil, Act.eval, Array.getD_eq_getD_getElem?, Option.getD_some, e61]; rfl)) ?_
      with_reducible refine (bounds_sum.calls k _ _ y155 t158 t159 _ ?side1 ?side2 A13.out).mono ?_
      (case side1 => repeat (first | exact (Kd.R_reads' HO157.out).2.2 | (with_reducible refine Kd.C_alloc ?_ _) | (with_reducible refine Kd.C_drewN ?_ _) | (with_reducible refine Kd.C_drew ?_)))
      (case side2 => exact (Kd.R_reads' HO157.out).2.1)
      rintro e w51 ⟨rfl, hb⟩
      refine ⟨_, rfl, ?_⟩
      refine hK.out _ _ ⟨v133, v139, v145, .slice Ao50 y155.length co50, m55_, (by rw [ha.out]; exact putSel_upk 34 hb_ rfl rfl rfl), fun _ => C.out.grow hb, fun h0_ h1_ => (QA h0_ h1_).grow hb, fun h0_ => absurd ((hoff 56 (by kernel_rfl)).symm.trans h0_) (by decide)⟩
    refine steps_cons ?_ ?_
    · rintro b a w' ⟨v133, v139, v145, v156, m55_, ha, QC, QA, QF⟩ hb_ hon hoff
      refine ⟨_, rfl, fun K hK => ?_⟩
      have C := Aside0.mk (QC (hoff 56 (by kernel_rfl)))
      have e2 : a.tmps[2]? = some (.pointer (some ⟨gb125, 0, none⟩)) := by rw [ha]; exact (putSel_off rfl).trans rfl
      replace ha := Aside0.mk ha
      have BK125 := Aside0.mk C.out.box1
      have hc0_ : w'.cell? ⟨gb125, 0, none⟩ = some (.int .u64 a0_0) := (blk_cell BK125.out 0).trans rfl
      have hc1_ : w'.cell? ⟨gb125, 1, none⟩ = some (.int .u64 a0_1) := (blk_cell BK125.out 1).trans rfl
      have hc2_ : w'.cell? ⟨gb125, 2, none⟩ = some (.int .u64 a0_2) := (blk_cell BK125.out 2).trans rfl
      have hc3_ : w'.cell? ⟨gb125, 3, none⟩ = some (.int .u64 a0_3) := (blk_cell BK125.out 3).trans rfl
      have hc4_ : w'.cell? ⟨gb125, 4, none⟩ = some (.int .u64 a0_4) := (blk_cell BK125.out 4).trans rfl
      have hc5_ : w'.cell? ⟨gb125, 5, none⟩ = some (.int .u64 a0_5) := (blk_cell BK125.out 5).trans rfl
      have hc6_ : w'.cell? ⟨gb125, 6, none⟩ = some (.int .u64 a0_6) := (blk_cell BK125.out 6).trans rfl
      have hc7_ : w'.cell? ⟨gb125, 7, none⟩ = some (.int .u64 a0_7) := (blk_cell BK125.out 7).trans rfl
      have hc8_ : w'.cell? ⟨gb125, 8, none⟩ = some (.int .u64 a0_8) := (blk_cell BK125.out 8).trans rfl
      have hc9_ : w'.cell? ⟨gb125, 9, none⟩ = some (.int .u64 a0_9) := (blk_cell BK125.out 9).trans rfl
      refine value_ (w1 := w') (v := .agg #[.int .u64 a0_0, .int .u64 a0_1, .int .u64 a0_2, .int .u64 a0_3, .int .u64 a0_4, .int .u64 a0_5, .int .u64 a0_6, .int .u64 a0_7, .int .u64 a0_8, .int .u64 a0_9]) (by rfl) rfl ?_ ?_
      · go_simp
        (try simp only [i64_w])
        try rfl
      refine hK.out _ _ ⟨v133, v139, v145, v156, m55_, (by rw [ha.out]; exact putSel_upk 35 hb_ rfl rfl rfl), fun _ => C.out, QA, fun h0_ => absurd ((hoff 56 (by kernel_rfl)).symm.trans h0_) (by decide)⟩
    refine steps_cons ?_ ?_
    · rintro b a w' ⟨v133, v139, v145, v156, m55_, ha, QC, QA, QF⟩ hb_ hon hoff
      refine ⟨_, rfl, fun K hK => ?_⟩
      have C := Aside0.mk (QC (hoff 56 (by kernel_rfl)))
      have e63 : a.tmps[63]? = some (.agg #[.int .u64 a0_0, .int .u64 a0_1, .int .u64 a0_2, .int .u64 a0_3, .int .u64 a0_4, .int .u64 a0_5, .int .u64 a0_6, .int .u64 a0_7, .int .u64 a0_8, .int .u64 a0_9]) := by rw [ha]; exact putSel_on (e := (47, 63, .agg #[.int .u64 a0_0, .int .u64 a0_1, .int .u64 a0_2, .int .u64 a0_3, .int .u64 a0_4, .int .u64 a0_5, .int .u64 a0_6, .int .u64 a0_7, .int .u64 a0_8, .int .u64 a0_9])) 35 rfl rfl (hon 47 (by kernel_rfl)) rfl
      replace ha := Aside0.mk ha
      refine goes_ Tryd.func20 (by kernel_rfl) rfl #[.agg #[.int .u64 a0_0, .int .u64 a0_1, .int .u64 a0_2, .int .u64 a0_3, .int .u64 a0_4, .int .u64 a0_5, .int .u64 a0_6, .int .u64 a0_7, .int .u64 a0_8, .int .u64 a0_9]] (by rfl) rfl rfl (by first | (simp only [List.map_toArray, List.map_cons, List.map_nil, Act.eval, Array.getD_eq_getD_getElem?, Option.getD_some, e63]; done) | (simp only [List.map_toArray, List.map_cons, List.map_nil, Act.eval, Array.getD_eq_getD_getElem?, Option.getD_some, e63]; rfl)) ?_
      with_reducible refine (bounds_done.calls k a0_0 a0_1 a0_2 a0_3 a0_4 a0_5 a0_6 a0_7 a0_8 a0_9 t160 t161 _ A14.out).mono ?_
      rintro e w52 ⟨rfl, hb⟩
      refine ⟨_, rfl, ?_⟩
      refine hK.out _ _ ⟨v133, v139, v145, v156, m55_, (by rw [ha.out]; exact putSel_upk 36 hb_ rfl rfl rfl), fun _ => C.out.grow hb, fun h0_ h1_ => (QA h0_ h1_).grow hb, fun h0_ => absurd ((hoff 56 (by kernel_rfl)).symm.trans h0_) (by decide)⟩
    refine steps_cons ?_ ?_
    · rintro b a w' ⟨v133, v139, v145, v156, m55_, ha, QC, QA, QF⟩ hb_ hon hoff
      refine ⟨_, rfl, fun K hK => ?_⟩
      have C := Aside0.mk (QC (hoff 56 (by kernel_rfl)))
      have e65 : a.tmps[65]? = some (.int .i64 a1) := by rw [ha]; exact (putSel_off rfl).trans rfl
      replace ha := Aside0.mk ha
      refine value_ (w1 := w') (v := .int .i64 ji15) (by rfl) rfl ?_ ?_
      · go_simp
        (try simp only [i64_w])
        try rfl
      refine hK.out _ _ ⟨v133, v139, v145, v156, m55_, (by rw [ha.out]; exact putSel_upk 37 hb_ rfl rfl rfl), fun _ => C.out, QA, fun h0_ => absurd ((hoff 56 (by kernel_rfl)).symm.trans h0_) (by decide)⟩
    refine steps_cons ?_ ?_
    · rintro b a w' ⟨v133, v139, v145, v156, m55_, ha, QC, QA, QF⟩ hb_ hon hoff
      refine ⟨_, rfl, fun K hK => ?_⟩
      have C := Aside0.mk (QC (hoff 56 (by kernel_rfl)))
      have e66 : a.tmps[66]? = some (.int .i64 ji15) := by rw [ha]; exact putSel_on (e := (50, 66, .int .i64 ji15)) 37 rfl rfl (hon 50 (by kernel_rfl)) rfl
      replace ha := Aside0.mk ha
      refine value_ (w1 := w') (v := .int .u64 (IntKind.u64.wrap (ji15))) (by rfl) rfl ?_ ?_
      · go_simp
        (try simp only [i64_w])
        try rfl
      refine hK.out _ _ ⟨v133, v139, v145, v156, m55_, (by rw [ha.out]; exact putSel_upk 38 hb_ rfl rfl rfl), fun _ => C.out, QA, fun h0_ => absurd ((hoff 56 (by kernel_rfl)).symm.trans h0_) (by decide)⟩
    refine steps_cons ?_ ?_
    · rintro b a w' ⟨v133, v139, v145, v156, m55_, ha, QC, QA, QF⟩ hb_ hon hoff
      refine ⟨_, rfl, fun K hK => ?_⟩
      have C := Aside0.mk (QC (hoff 56 (by kernel_rfl)))
      have e64 : a.tmps[64]? = some (.agg #[.int .u64 t160, .int .u64 t161]) := by rw [ha]; exact putSel_on (e := (48, 64, .agg #[.int .u64 t160, .int .u64 t161])) 36 rfl rfl (hon 48 (by kernel_rfl)) rfl
      have e67 : a.tmps[67]? = some (.int .u64 (IntKind.u64.wrap (ji15))) := by rw [ha]; exact putSel_on (e := (51, 67, .int .u64 (IntKind.u64.wrap (ji15)))) 38 rfl rfl (hon 51 (by kernel_rfl)) rfl
      replace ha := Aside0.mk ha
      refine goes_ Tryd.func21 (by kernel_rfl) rfl #[.agg #[.int .u64 t160, .int .u64 t161], .int .u64 (IntKind.u64.wrap (ji15))] (by rfl) rfl rfl (by first | (simp only [List.map_toArray, List.map_cons, List.map_nil, Act.eval, Array.getD_eq_getD_getElem?, Option.getD_some, e64, e67]; done) | (simp only [List.map_toArray, List.map_cons, List.map_nil, Act.eval, Array.getD_eq_getD_getElem?, Option.getD_some, e64, e67]; rfl)) ?_
      with_reducible refine (bounds_wide_times.calls t160 t161 (IntKind.u64.wrap (ji15)) t162 t163 _ A16.out).mono ?_
      rintro e w53 ⟨rfl, hb⟩
      refine ⟨_, rfl, ?_⟩
      refine hK.out _ _ ⟨v133, v139, v145, v156, m55_, (by rw [ha.out]; exact putSel_upk 39 hb_ rfl rfl rfl), fun _ => C.out.grow hb, fun h0_ h1_ => (QA h0_ h1_).grow hb, fun h0_ => absurd ((hoff 56 (by kernel_rfl)).symm.trans h0_) (by decide)⟩
    refine steps_cons ?_ ?_
    · rintro b a w' ⟨v133, v139, v145, v156, m55_, ha, QC, QA, QF⟩ hb_ hon hoff
      refine ⟨_, rfl, fun K hK => ?_⟩
      have C := Aside0.mk (QC (hoff 56 (by kernel_rfl)))
      have e62 : a.tmps[62]? = some (.agg #[.int .u64 t158, .int .u64 t159]) := by rw [ha]; exact putSel_on (e := (46, 62, .agg #[.int .u64 t158, .int .u64 t159])) 34 rfl rfl (hon 46 (by kernel_rfl)) rfl
      have e68 : a.tmps[68]? = some (.agg #[.int .u64 t162, .int .u64 t163]) := by rw [ha]; exact putSel_on (e := (52, 68, .agg #[.int .u64 t162, .int .u64 t163])) 39 rfl rfl (hon 52 (by kernel_rfl)) rfl
      replace ha := Aside0.mk ha
      refine goes_ Tryd.func19 (by kernel_rfl) rfl #[.agg #[.int .u64 t158, .int .u64 t159], .agg #[.int .u64 t162, .int .u64 t163]] (by rfl) rfl rfl (by first | (simp only [List.map_toArray, List.map_cons, List.map_nil, Act.eval, Array.getD_eq_getD_getElem?, Option.getD_some, e62, e68]; done) | (simp only [List.map_toArray, List.map_cons, List.map_nil, Act.eval, Array.getD_eq_getD_getElem?, Option.getD_some, e62, e68]; rfl)) ?_
      with_reducible refine (bounds_wide_most.calls t158 t159 t162 t163 t164 _ A17.out).mono ?_
      rintro e w54 ⟨rfl, hb⟩
      refine ⟨_, rfl, ?_⟩
      refine hK.out _ _ ⟨v133, v139, v145, v156, m55_, (by rw [ha.out]; exact putSel_upk 40 hb_ rfl rfl rfl), fun _ => C.out.grow hb, fun h0_ h1_ => (QA h0_ h1_).grow hb, fun h0_ => absurd ((hoff 56 (by kernel_rfl)).symm.trans h0_) (by decide)⟩
    refine steps_cons ?_ ?_
    · rintro b a w' ⟨v133, v139, v145, v156, m55_, ha, QC, QA, QF⟩ hb_ hon hoff
      refine ⟨_, rfl, fun K hK => ?_⟩
      have e21 : a.tmps[21]? = some (.bool t137) := by rw [ha]; exact putSel_on (e := (5, 21, .bool t137)) 4 rfl rfl (hon 5 (by kernel_rfl)) rfl
      have e26 : a.tmps[26]? = some (.bool (decide (a0_3 ≤ a0_2))) := by rw [ha]; exact putSel_on (e := (10, 26, .bool (decide (a0_3 ≤ a0_2)))) 7 rfl rfl (hon 10 (by kernel_rfl)) rfl
      have e32 : a.tmps[32]? = some (.bool t143) := by rw [ha]; exact putSel_on (e := (16, 32, .bool t143)) 12 rfl rfl (hon 16 (by kernel_rfl)) rfl
      have e37 : a.tmps[37]? = some (.bool (decide (a0_5 ≤ a0_1))) := by rw [ha]; exact putSel_on (e := (21, 37, .bool (decide (a0_5 ≤ a0_1)))) 15 rfl rfl (hon 21 (by kernel_rfl)) rfl
      have e42 : a.tmps[42]? = some (.bool (decide (a0_6 ≤ a0_5))) := by rw [ha]; exact putSel_on (e := (26, 42, .bool (decide (a0_6 ≤ a0_5)))) 18 rfl rfl (hon 26 (by kernel_rfl)) rfl
      have e47 : a.tmps[47]? = some (.bool (decide (a0_7 ≤ a0_0))) := by rw [ha]; exact putSel_on (e := (31, 47, .bool (decide (a0_7 ≤ a0_0)))) 21 rfl rfl (hon 31 (by kernel_rfl)) rfl
      have e53 : a.tmps[53]? = some (.bool t149) := by rw [ha]; exact putSel_on (e := (37, 53, .bool t149)) 26 rfl rfl (hon 37 (by kernel_rfl)) rfl
      have e58 : a.tmps[58]? = some (.bool t154) := by rw [ha]; exact putSel_on (e := (42, 58, .bool t154)) 31 rfl rfl (hon 42 (by kernel_rfl)) rfl
      have e69 : a.tmps[69]? = some (.bool t164) := by rw [ha]; exact putSel_on (e := (53, 69, .bool t164)) 40 rfl rfl (hon 53 (by kernel_rfl)) rfl
      replace ha := Aside0.mk ha
      refine value_ (w1 := w') (v := .agg #[.bool t137, .bool (decide (a0_3 ≤ a0_2)), .bool t143, .bool (decide (a0_5 ≤ a0_1)), .bool (decide (a0_6 ≤ a0_5)), .bool (decide (a0_7 ≤ a0_0)), .bool t149, .bool t154, .bool t164]) (by rfl) rfl ?_ ?_
      · go_simp
        try rfl
      refine hK.out _ _ ⟨v133, v139, v145, v156, m55_, (by rw [ha.out]; exact putSel_upk 41 hb_ rfl rfl rfl), fun _ => QC (hoff 56 (by kernel_rfl)), QA, fun h0_ => absurd ((hoff 56 (by kernel_rfl)).symm.trans h0_) (by decide)⟩
    refine steps_cons ?_ ?_
    · rintro b a w' ⟨v133, v139, v145, v156, m55_, ha, QC, QA, QF⟩ hb_ hon hoff
      refine ⟨_, rfl, fun K hK => ?_⟩
      have C := Aside0.mk (QC (hoff 56 (by kernel_rfl)))
      replace ha := Aside0.mk ha
      refine box_step ?hg (N := 6) ?hd (cs := #[.bool false, .bool false, .bool false, .bool false, .bool false, .bool false, .bool false, .bool false, .bool false]) (t := 47) ?hr ?_; (case hd => rfl); (case hg => rfl); (case hr => first | (go_simp; done) | (go_simp; rfl))
      intro g47 hg w29 hbox hb
      refine hK.out _ _ ⟨v133, v139, v145, v156, (.pointer (some ⟨g47, 0, none⟩)), (by rw [ha.out]; exact putSel_upk 42 hb_ rfl rfl rfl), fun _ => C.out.grow hb, fun _ _ => ⟨g47, rfl, (by rw [hg]; exact below_size C.out.below), hbox⟩, fun h0_ => absurd ((hoff 56 (by kernel_rfl)).symm.trans h0_) (by decide)⟩
    refine steps_cons ?_ ?_
    · rintro b a w' ⟨v133, v139, v145, v156, m55_, ha, QC, QA, QF⟩ hb_ hon hoff
      refine ⟨_, rfl, fun K hK => ?_⟩
      have C := Aside0.mk (QC hb_)
      obtain ⟨g47, hm55, hlo, hbox⟩ := QA (hon 55 (by kernel_rfl)) hb_
      subst hm55
      have e6 : a.tmps[6]? = some (.pointer (some ⟨g47, 0, none⟩)) := by rw [ha]; exact putSel_on (e := (55, 6, .pointer (some ⟨g47, 0, none⟩))) 42 rfl rfl (hon 55 (by kernel_rfl)) rfl
      have e70 : a.tmps[70]? = some (.agg #[.bool t137, .bool (decide (a0_3 ≤ a0_2)), .bool t143, .bool (decide (a0_5 ≤ a0_1)), .bool (decide (a0_6 ≤ a0_5)), .bool (decide (a0_7 ≤ a0_0)), .bool t149, .bool t154, .bool t164]) := by rw [ha]; exact putSel_on (e := (54, 70, .agg #[.bool t137, .bool (decide (a0_3 ≤ a0_2)), .bool t143, .bool (decide (a0_5 ≤ a0_1)), .bool (decide (a0_6 ≤ a0_5)), .bool (decide (a0_7 ≤ a0_0)), .bool t149, .bool t154, .bool t164])) 41 rfl rfl (hon 54 (by kernel_rfl)) rfl
      replace ha := Aside0.mk ha
      have hs0_ : w'.cell? ⟨g47, 0, none⟩ = some (.bool false) := (blk_cell hbox 0).trans rfl
      have hs1_ : w'.cell? ⟨g47, 1, none⟩ = some (.bool false) := (blk_cell hbox 1).trans rfl
      have hs2_ : w'.cell? ⟨g47, 2, none⟩ = some (.bool false) := (blk_cell hbox 2).trans rfl
      have hs3_ : w'.cell? ⟨g47, 3, none⟩ = some (.bool false) := (blk_cell hbox 3).trans rfl
      have hs4_ : w'.cell? ⟨g47, 4, none⟩ = some (.bool false) := (blk_cell hbox 4).trans rfl
      have hs5_ : w'.cell? ⟨g47, 5, none⟩ = some (.bool false) := (blk_cell hbox 5).trans rfl
      have hs6_ : w'.cell? ⟨g47, 6, none⟩ = some (.bool false) := (blk_cell hbox 6).trans rfl
      have hs7_ : w'.cell? ⟨g47, 7, none⟩ = some (.bool false) := (blk_cell hbox 7).trans rfl
      have hs8_ : w'.cell? ⟨g47, 8, none⟩ = some (.bool false) := (blk_cell hbox 8).trans rfl
      have hf0_ := blk_frozen hbox 0
      have hf1_ := blk_frozen hbox 1
      have hf2_ := blk_frozen hbox 2
      have hf3_ := blk_frozen hbox 3
      have hf4_ := blk_frozen hbox 4
      have hf5_ := blk_frozen hbox 5
      have hf6_ := blk_frozen hbox 6
      have hf7_ := blk_frozen hbox 7
      have hf8_ := blk_frozen hbox 8
      have hbox' := Aside0.mk hbox
      clear hbox
      refine skip_ (w1 := ?_) (by rfl) rfl ?_ ?_
      rotate_left
      · go_simp
        rfl
      refine hK.out _ _ ⟨v133, v139, v145, v156, .pointer (some ⟨g47, 0, none⟩), (by rw [ha.out]; exact putSel_none (v := undef) rfl), fun h1_ => absurd ((up_self b 56).symm.trans h1_) (by decide), fun _ h1_ => absurd ((up_self b 56).symm.trans h1_) (by decide), fun _ => ⟨⟨g47, rfl, hlo, ?_⟩, ?_⟩⟩
      · with_reducible exact set9 hbox'.out _ _ _ _ _ _ _ _ _
      · with_reducible exact below9 C.out.below hlo _ _ _ _ _ _ _ _ _
    exact steps_nil
  rintro b a w57 hall ⟨v133, v139, v145, v156, m55_, ha, QC, QA, QF⟩
  clear BK125 BK131 HB HO128 QC QA
  have hb1_ := hall 1 (by kernel_rfl)
  have hb2_ := hall 2 (by kernel_rfl)
  have hb3_ := hall 3 (by kernel_rfl)
  have hb4_ := hall 4 (by kernel_rfl)
  have hb5_ := hall 5 (by kernel_rfl)
  have hb7_ := hall 7 (by kernel_rfl)
  have hb9_ := hall 9 (by kernel_rfl)
  have hb10_ := hall 10 (by kernel_rfl)
  have hb12_ := hall 12 (by kernel_rfl)
  have hb13_ := hall 13 (by kernel_rfl)
  have hb14_ := hall 14 (by kernel_rfl)
  have hb15_ := hall 15 (by kernel_rfl)
  have hb16_ := hall 16 (by kernel_rfl)
  have hb18_ := hall 18 (by kernel_rfl)
  have hb20_ := hall 20 (by kernel_rfl)
  have hb21_ := hall 21 (by kernel_rfl)
  have hb23_ := hall 23 (by kernel_rfl)
  have hb25_ := hall 25 (by kernel_rfl)
  have hb26_ := hall 26 (by kernel_rfl)
  have hb28_ := hall 28 (by kernel_rfl)
  have hb30_ := hall 30 (by kernel_rfl)
  have hb31_ := hall 31 (by kernel_rfl)
  have hb33_ := hall 33 (by kernel_rfl)
  have hb34_ := hall 34 (by kernel_rfl)
  have hb35_ := hall 35 (by kernel_rfl)
  have hb36_ := hall 36 (by kernel_rfl)
  have hb37_ := hall 37 (by kernel_rfl)
  have hb38_ := hall 38 (by kernel_rfl)
  have hb39_ := hall 39 (by kernel_rfl)
  have hb40_ := hall 40 (by kernel_rfl)
  have hb41_ := hall 41 (by kernel_rfl)
  have hb42_ := hall 42 (by kernel_rfl)
  have hb44_ := hall 44 (by kernel_rfl)
  have hb45_ := hall 45 (by kernel_rfl)
  have hb46_ := hall 46 (by kernel_rfl)
  have hb47_ := hall 47 (by kernel_rfl)
  have hb48_ := hall 48 (by kernel_rfl)
  have hb50_ := hall 50 (by kernel_rfl)
  have hb51_ := hall 51 (by kernel_rfl)
  have hb52_ := hall 52 (by kernel_rfl)
  have hb53_ := hall 53 (by kernel_rfl)
  have hb54_ := hall 54 (by kernel_rfl)
  have hb55_ := hall 55 (by kernel_rfl)
  have hb56_ := hall 56 (by kernel_rfl)
  subst ha
  obtain ⟨⟨g47, hm55, hlo, hbox⟩, HB0⟩ := QF hb56_
  subst hm55
  simp only [putSel, hb1_, hb2_, hb3_, hb4_, hb5_, hb7_, hb9_, hb10_, hb12_, hb13_, hb14_, hb15_, hb16_, hb18_, hb20_, hb21_, hb23_, hb25_, hb26_, hb28_, hb30_, hb31_, hb33_, hb34_, hb35_, hb36_, hb37_, hb38_, hb39_, hb40_, hb41_, hb42_, hb44_, hb45_, hb46_, hb47_, hb48_, hb50_, hb51_, hb52_, hb53_, hb54_, hb55_, hb56_, if_true, Act.put, List.setIfInBounds_toArray, List.set_cons_zero, List.set_cons_succ]
  clear hall hb1_ hb2_ hb3_ hb4_ hb5_ hb7_ hb9_ hb10_ hb12_ hb13_ hb14_ hb15_ hb16_ hb18_ hb20_ hb21_ hb23_ hb25_ hb26_ hb28_ hb30_ hb31_ hb33_ hb34_ hb35_ hb36_ hb37_ hb38_ hb39_ hb40_ hb41_ hb42_ hb44_ hb45_ hb46_ hb47_ hb48_ hb50_ hb51_ hb52_ hb53_ hb54_ hb55_ hb56_ QF
  have hs0_ : w57.cell? ⟨g47, 0, none⟩ = some (.bool t137) := (blk_cell hbox 0).trans rfl
  have hs1_ : w57.cell? ⟨g47, 1, none⟩ = some (.bool (decide (a0_3 ≤ a0_2))) := (blk_cell hbox 1).trans rfl
  have hs2_ : w57.cell? ⟨g47, 2, none⟩ = some (.bool t143) := (blk_cell hbox 2).trans rfl
  have hs3_ : w57.cell? ⟨g47, 3, none⟩ = some (.bool (decide (a0_5 ≤ a0_1))) := (blk_cell hbox 3).trans rfl
  have hs4_ : w57.cell? ⟨g47, 4, none⟩ = some (.bool (decide (a0_6 ≤ a0_5))) := (blk_cell hbox 4).trans rfl
  have hs5_ : w57.cell? ⟨g47, 5, none⟩ = some (.bool (decide (a0_7 ≤ a0_0))) := (blk_cell hbox 5).trans rfl
  have hs6_ : w57.cell? ⟨g47, 6, none⟩ = some (.bool t149) := (blk_cell hbox 6).trans rfl
  have hs7_ : w57.cell? ⟨g47, 7, none⟩ = some (.bool t154) := (blk_cell hbox 7).trans rfl
  have hs8_ : w57.cell? ⟨g47, 8, none⟩ = some (.bool t164) := (blk_cell hbox 8).trans rfl
  clear hbox
  have HB := Aside0.mk HB0
  clear HB0
  try go_wp2
  go_loopg [7, 72] k (fun kq v7 v72 w' => ∃ (x7_1 : List Int) (x72_1 : Int), v72 = .int .i64 x72_1 ∧ Aside0 (bounds_Broken.l0 kq x7_1 y165 x72_1 = some r) ∧ Aside0 (kq ≤ k) ∧ Aside0 (Kd.R (Kd.int .i64) 3 w' w.heap.size (fun _ => True) v7 x7_1) ∧ Aside0 (Below w.heap.size w w'))
  case atStart => exact ⟨(([] : List Int)), (0), rfl, H', ⟨Nat.le_refl _⟩, ⟨by first | exact Kd.R_nil _ _ _ _ _⟩, ⟨HB.out⟩⟩
  case round =>
    clear H' HB
    obtain ⟨x7_1, x72_1, rfl, HA, HK1, HO_7, HB⟩ := hrel
    cases gk with
    | zero => exact absurd HA.out (by simp [bounds_Broken.l0])
    | succ k1 =>
      have H := HA.out
      clear HA
      simp only [bounds_Broken.l0] at H
      by_cases c57 : x72_1 < 9
      · rw [if_pos c57] at H
        by_cases c58 : 0 ≤ x72_1
        · rw [if_pos c58] at H
          have c9 : x72_1 = 0 ∨ x72_1 = 1 ∨ x72_1 = 2 ∨ x72_1 = 3 ∨ x72_1 = 4 ∨ x72_1 = 5 ∨ x72_1 = 6 ∨ x72_1 = 7 ∨ x72_1 = 8 := by omega
          clear c57 c58
          have c59 : x72_1 < (y165.length : Int) := by rw [Ny165.out]; simp only [List.length_cons, List.length_nil]; omega
          rw [if_pos c59] at H
          clear c59
          rcases c9 with rfl | rfl | rfl | rfl | rfl | rfl | rfl | rfl | rfl
          · have hb_ : rdOf false y165 0 = t137 := by rw [Ny165.out]; rfl
            rw [hb_, show wrap64 ((0 : Int) + 1) = 1 from by kernel_rfl] at H
            clear hb_
            by_cases hq_ : t137 = true
            · rw [if_pos hq_] at H
              have hidx : ∀ w_ : World, (Instr.index 47 (.agg #[Value.bool t137, Value.bool (decide (a0_3 ≤ a0_2)), Value.bool t143, Value.bool (decide (a0_5 ≤ a0_1)), Value.bool (decide (a0_6 ≤ a0_5)), Value.bool (decide (a0_7 ≤ a0_0)), Value.bool t149, Value.bool t154, Value.bool t164]) (.int .i64 0)).run Tryd.prog w_ = .ok (.bool true) w_ := fun w_ => (idx47_0 w_ (Value.bool t137) (Value.bool (decide (a0_3 ≤ a0_2))) (Value.bool t143) (Value.bool (decide (a0_5 ≤ a0_1))) (Value.bool (decide (a0_6 ≤ a0_5))) (Value.bool (decide (a0_7 ≤ a0_0))) (Value.bool t149) (Value.bool t154) (Value.bool t164)).trans (by rw [hq_])
              clear hq_
              have H' := Aside0.mk H
              clear H
              go_wp2
              go_roundg k1
              case measure => have := HK1.out; omega
              case rel => exact ⟨x7_1 , (1 : Int), (by first | rfl | (simp; done)), H', ⟨by have := HK1.out; omega⟩, ⟨HO_7.out⟩, ⟨HB.out⟩⟩
            · rw [if_neg hq_] at H
              have hidx : ∀ w_ : World, (Instr.index 47 (.agg #[Value.bool t137, Value.bool (decide (a0_3 ≤ a0_2)), Value.bool t143, Value.bool (decide (a0_5 ≤ a0_1)), Value.bool (decide (a0_6 ≤ a0_5)), Value.bool (decide (a0_7 ≤ a0_0)), Value.bool t149, Value.bool t154, Value.bool t164]) (.int .i64 0)).run Tryd.prog w_ = .ok (.bool false) w_ := fun w_ => (idx47_0 w_ (Value.bool t137) (Value.bool (decide (a0_3 ≤ a0_2))) (Value.bool t143) (Value.bool (decide (a0_5 ≤ a0_1))) (Value.bool (decide (a0_6 ≤ a0_5))) (Value.bool (decide (a0_7 ≤ a0_0))) (Value.bool t149) (Value.bool t154) (Value.bool t164)).trans (by rw [Bool.eq_false_iff.mpr hq_])
              clear hq_
              by_cases c63 : x7_1.length < 17592186044416
              · rw [if_pos c63] at H
                have LMc63 := Aside0.mk c63
                clear c63
                have H' := Aside0.mk H
                clear H
                go_wp2_with (first | ((with_reducible refine gate_builtin (b := .append) (xs := #[.tmp 78, .tmp 81]) rfl ?_); at_builtin; refine Kd.R_append (Kd.int .i64) (w0 := w) w.heap.size rfl (.tmp 78) (.tmp 81) 26 3 (.int .i64 0) 8 rfl Tryd.underlying26 info3 rfl (by decide) (by omega) u7 x7_1 1 [.int .i64 1] (fun _ => True) (fun _ => False) rfl rfl ?aP (fun _ hk => hk.elim) ?aF ?aO ?aB ?aS ?aL ?_; (case aP => exact rfl); (case aB => exact (by repeat (first | (with_reducible first | exact HB.out | apply below_alloc | apply pw_below_drewN | apply below_drew1) | exact HB.out))); (case aF => exact (fun _ _ => trivial)); (case aO => exact (by (with_reducible repeat (first | apply Kd.R_alloc | apply Kd.R_drewN | apply Kd.R_drew)); exact HO_7.out)); (case aS => exact (below_size (by repeat (first | (with_reducible first | exact HB.out | apply below_alloc | apply pw_below_drewN | apply below_drew1) | exact HB.out)))); (case aL => have := LMc63.out; omega); intro v170 w65 ho hb hg hat; have n0_ := Aside0.mk ho; have n1_ := Aside0.mk hb; clear HB; clear HO_7; have HB := n1_; have HO171 := n0_; clear n0_ n1_; clear ho hb hg hat))
                go_roundg k1
                case measure => have := HK1.out; omega
                case rel => exact ⟨x7_1 ++ [1] , (1 : Int), (by first | rfl | (simp; done)), H', ⟨by have := HK1.out; omega⟩, ⟨by (with_reducible repeat (first | apply Kd.R_alloc | apply Kd.R_drewN | apply Kd.R_drew)); exact HO171.out⟩, ⟨by repeat (first | (with_reducible first | exact HB.out | apply below_alloc | apply pw_below_drewN | apply below_drew1) | exact HB.out)⟩⟩
              · rw [if_neg c63] at H
                exact absurd H (by simp)
          · have hb_ : rdOf false y165 1 = (decide (a0_3 ≤ a0_2)) := by rw [Ny165.out]; rfl
            rw [hb_, show wrap64 ((1 : Int) + 1) = 2 from by kernel_rfl] at H
            clear hb_
            by_cases hq_ : (decide (a0_3 ≤ a0_2)) = true
            · rw [if_pos hq_] at H
              have hidx : ∀ w_ : World, (Instr.index 47 (.agg #[Value.bool t137, Value.bool (decide (a0_3 ≤ a0_2)), Value.bool t143, Value.bool (decide (a0_5 ≤ a0_1)), Value.bool (decide (a0_6 ≤ a0_5)), Value.bool (decide (a0_7 ≤ a0_0)), Value.bool t149, Value.bool t154, Value.bool t164]) (.int .i64 1)).run Tryd.prog w_ = .ok (.bool true) w_ := fun w_ => (idx47_1 w_ (Value.bool t137) (Value.bool (decide (a0_3 ≤ a0_2))) (Value.bool t143) (Value.bool (decide (a0_5 ≤ a0_1))) (Value.bool (decide (a0_6 ≤ a0_5))) (Value.bool (decide (a0_7 ≤ a0_0))) (Value.bool t149) (Value.bool t154) (Value.bool t164)).trans (by rw [hq_])
              clear hq_
              have H' := Aside0.mk H
              clear H
              go_wp2
              go_roundg k1
              case measure => have := HK1.out; omega
              case rel => exact ⟨x7_1 , (2 : Int), (by first | rfl | (simp; done)), H', ⟨by have := HK1.out; omega⟩, ⟨HO_7.out⟩, ⟨HB.out⟩⟩
            · rw [if_neg hq_] at H
              have hidx : ∀ w_ : World, (Instr.index 47 (.agg #[Value.bool t137, Value.bool (decide (a0_3 ≤ a0_2)), Value.bool t143, Value.bool (decide (a0_5 ≤ a0_1)), Value.bool (decide (a0_6 ≤ a0_5)), Value.bool (decide (a0_7 ≤ a0_0)), Value.bool t149, Value.bool t154, Value.bool t164]) (.int .i64 1)).run Tryd.prog w_ = .ok (.bool false) w_ := fun w_ => (idx47_1 w_ (Value.bool t137) (Value.bool (decide (a0_3 ≤ a0_2))) (Value.bool t143) (Value.bool (decide (a0_5 ≤ a0_1))) (Value.bool (decide (a0_6 ≤ a0_5))) (Value.bool (decide (a0_7 ≤ a0_0))) (Value.bool t149) (Value.bool t154) (Value.bool t164)).trans (by rw [Bool.eq_false_iff.mpr hq_])
              clear hq_
              by_cases c63 : x7_1.length < 17592186044416
              · rw [if_pos c63] at H
                have LMc63 := Aside0.mk c63
                clear c63
                have H' := Aside0.mk H
                clear H
                go_wp2_with (first | ((with_reducible refine gate_builtin (b := .append) (xs := #[.tmp 78, .tmp 81]) rfl ?_); at_builtin; refine Kd.R_append (Kd.int .i64) (w0 := w) w.heap.size rfl (.tmp 78) (.tmp 81) 26 3 (.int .i64 0) 8 rfl Tryd.underlying26 info3 rfl (by decide) (by omega) u7 x7_1 2 [.int .i64 2] (fun _ => True) (fun _ => False) rfl rfl ?aP (fun _ hk => hk.elim) ?aF ?aO ?aB ?aS ?aL ?_; (case aP => exact rfl); (case aB => exact (by repeat (first | (with_reducible first | exact HB.out | apply below_alloc | apply pw_below_drewN | apply below_drew1) | exact HB.out))); (case aF => exact (fun _ _ => trivial)); (case aO => exact (by (with_reducible repeat (first | apply Kd.R_alloc | apply Kd.R_drewN | apply Kd.R_drew)); exact HO_7.out)); (case aS => exact (below_size (by repeat (first | (with_reducible first | exact HB.out | apply below_alloc | apply pw_below_drewN | apply below_drew1) | exact HB.out)))); (case aL => have := LMc63.out; omega); intro v170 w65 ho hb hg hat; have n0_ := Aside0.mk ho; have n1_ := Aside0.mk hb; clear HB; clear HO_7; have HB := n1_; have HO171 := n0_; clear n0_ n1_; clear ho hb hg hat))
                go_roundg k1
                case measure => have := HK1.out; omega
                case rel => exact ⟨x7_1 ++ [2] , (2 : Int), (by first | rfl | (simp; done)), H', ⟨by have := HK1.out; omega⟩, ⟨by (with_reducible repeat (first | apply Kd.R_alloc | apply Kd.R_drewN | apply Kd.R_drew)); exact HO171.out⟩, ⟨by repeat (first | (with_reducible first | exact HB.out | apply below_alloc | apply pw_below_drewN | apply below_drew1) | exact HB.out)⟩⟩
              · rw [if_neg c63] at H
                exact absurd H (by simp)
          · have hb_ : rdOf false y165 2 = t143 := by rw [Ny165.out]; rfl
            rw [hb_, show wrap64 ((2 : Int) + 1) = 3 from by kernel_rfl] at H
            clear hb_
            by_cases hq_ : t143 = true
            · rw [if_pos hq_] at H
              have hidx : ∀ w_ : World, (Instr.index 47 (.agg #[Value.bool t137, Value.bool (decide (a0_3 ≤ a0_2)), Value.bool t143, Value.bool (decide (a0_5 ≤ a0_1)), Value.bool (decide (a0_6 ≤ a0_5)), Value.bool (decide (a0_7 ≤ a0_0)), Value.bool t149, Value.bool t154, Value.bool t164]) (.int .i64 2)).run Tryd.prog w_ = .ok (.bool true) w_ := fun w_ => (idx47_2 w_ (Value.bool t137) (Value.bool (decide (a0_3 ≤ a0_2))) (Value.bool t143) (Value.bool (decide (a0_5 ≤ a0_1))) (Value.bool (decide (a0_6 ≤ a0_5))) (Value.bool (decide (a0_7 ≤ a0_0))) (Value.bool t149) (Value.bool t154) (Value.bool t164)).trans (by rw [hq_])
              clear hq_
              have H' := Aside0.mk H
              clear H
              go_wp2
              go_roundg k1
              case measure => have := HK1.out; omega
              case rel => exact ⟨x7_1 , (3 : Int), (by first | rfl | (simp; done)), H', ⟨by have := HK1.out; omega⟩, ⟨HO_7.out⟩, ⟨HB.out⟩⟩
            · rw [if_neg hq_] at H
              have hidx : ∀ w_ : World, (Instr.index 47 (.agg #[Value.bool t137, Value.bool (decide (a0_3 ≤ a0_2)), Value.bool t143, Value.bool (decide (a0_5 ≤ a0_1)), Value.bool (decide (a0_6 ≤ a0_5)), Value.bool (decide (a0_7 ≤ a0_0)), Value.bool t149, Value.bool t154, Value.bool t164]) (.int .i64 2)).run Tryd.prog w_ = .ok (.bool false) w_ := fun w_ => (idx47_2 w_ (Value.bool t137) (Value.bool (decide (a0_3 ≤ a0_2))) (Value.bool t143) (Value.bool (decide (a0_5 ≤ a0_1))) (Value.bool (decide (a0_6 ≤ a0_5))) (Value.bool (decide (a0_7 ≤ a0_0))) (Value.bool t149) (Value.bool t154) (Value.bool t164)).trans (by rw [Bool.eq_false_iff.mpr hq_])
              clear hq_
              by_cases c63 : x7_1.length < 17592186044416
              · rw [if_pos c63] at H
                have LMc63 := Aside0.mk c63
                clear c63
                have H' := Aside0.mk H
                clear H
                go_wp2_with (first | ((with_reducible refine gate_builtin (b := .append) (xs := #[.tmp 78, .tmp 81]) rfl ?_); at_builtin; refine Kd.R_append (Kd.int .i64) (w0 := w) w.heap.size rfl (.tmp 78) (.tmp 81) 26 3 (.int .i64 0) 8 rfl Tryd.underlying26 info3 rfl (by decide) (by omega) u7 x7_1 3 [.int .i64 3] (fun _ => True) (fun _ => False) rfl rfl ?aP (fun _ hk => hk.elim) ?aF ?aO ?aB ?aS ?aL ?_; (case aP => exact rfl); (case aB => exact (by repeat (first | (with_reducible first | exact HB.out | apply below_alloc | apply pw_below_drewN | apply below_drew1) | exact HB.out))); (case aF => exact (fun _ _ => trivial)); (case aO => exact (by (with_reducible repeat (first | apply Kd.R_alloc | apply Kd.R_drewN | apply Kd.R_drew)); exact HO_7.out)); (case aS => exact (below_size (by repeat (first | (with_reducible first | exact HB.out | apply below_alloc | apply pw_below_drewN | apply below_drew1) | exact HB.out)))); (case aL => have := LMc63.out; omega); intro v170 w65 ho hb hg hat; have n0_ := Aside0.mk ho; have n1_ := Aside0.mk hb; clear HB; clear HO_7; have HB := n1_; have HO171 := n0_; clear n0_ n1_; clear ho hb hg hat))
                go_roundg k1
                case measure => have := HK1.out; omega
                case rel => exact ⟨x7_1 ++ [3] , (3 : Int), (by first | rfl | (simp; done)), H', ⟨by have := HK1.out; omega⟩, ⟨by (with_reducible repeat (first | apply Kd.R_alloc | apply Kd.R_drewN | apply Kd.R_drew)); exact HO171.out⟩, ⟨by repeat (first | (with_reducible first | exact HB.out | apply below_alloc | apply pw_below_drewN | apply below_drew1) | exact HB.out)⟩⟩
              · rw [if_neg c63] at H
                exact absurd H (by simp)
          · have hb_ : rdOf false y165 3 = (decide (a0_5 ≤ a0_1)) := by rw [Ny165.out]; rfl
            rw [hb_, show wrap64 ((3 : Int) + 1) = 4 from by kernel_rfl] at H
            clear hb_
            by_cases hq_ : (decide (a0_5 ≤ a0_1)) = true
            · rw [if_pos hq_] at H
              have hidx : ∀ w_ : World, (Instr.index 47 (.agg #[Value.bool t137, Value.bool (decide (a0_3 ≤ a0_2)), Value.bool t143, Value.bool (decide (a0_5 ≤ a0_1)), Value.bool (decide (a0_6 ≤ a0_5)), Value.bool (decide (a0_7 ≤ a0_0)), Value.bool t149, Value.bool t154, Value.bool t164]) (.int .i64 3)).run Tryd.prog w_ = .ok (.bool true) w_ := fun w_ => (idx47_3 w_ (Value.bool t137) (Value.bool (decide (a0_3 ≤ a0_2))) (Value.bool t143) (Value.bool (decide (a0_5 ≤ a0_1))) (Value.bool (decide (a0_6 ≤ a0_5))) (Value.bool (decide (a0_7 ≤ a0_0))) (Value.bool t149) (Value.bool t154) (Value.bool t164)).trans (by rw [hq_])
              clear hq_
              have H' := Aside0.mk H
              clear H
              go_wp2
              go_roundg k1
              case measure => have := HK1.out; omega
              case rel => exact ⟨x7_1 , (4 : Int), (by first | rfl | (simp; done)), H', ⟨by have := HK1.out; omega⟩, ⟨HO_7.out⟩, ⟨HB.out⟩⟩
            · rw [if_neg hq_] at H
              have hidx : ∀ w_ : World, (Instr.index 47 (.agg #[Value.bool t137, Value.bool (decide (a0_3 ≤ a0_2)), Value.bool t143, Value.bool (decide (a0_5 ≤ a0_1)), Value.bool (decide (a0_6 ≤ a0_5)), Value.bool (decide (a0_7 ≤ a0_0)), Value.bool t149, Value.bool t154, Value.bool t164]) (.int .i64 3)).run Tryd.prog w_ = .ok (.bool false) w_ := fun w_ => (idx47_3 w_ (Value.bool t137) (Value.bool (decide (a0_3 ≤ a0_2))) (Value.bool t143) (Value.bool (decide (a0_5 ≤ a0_1))) (Value.bool (decide (a0_6 ≤ a0_5))) (Value.bool (decide (a0_7 ≤ a0_0))) (Value.bool t149) (Value.bool t154) (Value.bool t164)).trans (by rw [Bool.eq_false_iff.mpr hq_])
              clear hq_
              by_cases c63 : x7_1.length < 17592186044416
              · rw [if_pos c63] at H
                have LMc63 := Aside0.mk c63
                clear c63
                have H' := Aside0.mk H
                clear H
                go_wp2_with (first | ((with_reducible refine gate_builtin (b := .append) (xs := #[.tmp 78, .tmp 81]) rfl ?_); at_builtin; refine Kd.R_append (Kd.int .i64) (w0 := w) w.heap.size rfl (.tmp 78) (.tmp 81) 26 3 (.int .i64 0) 8 rfl Tryd.underlying26 info3 rfl (by decide) (by omega) u7 x7_1 4 [.int .i64 4] (fun _ => True) (fun _ => False) rfl rfl ?aP (fun _ hk => hk.elim) ?aF ?aO ?aB ?aS ?aL ?_; (case aP => exact rfl); (case aB => exact (by repeat (first | (with_reducible first | exact HB.out | apply below_alloc | apply pw_below_drewN | apply below_drew1) | exact HB.out))); (case aF => exact (fun _ _ => trivial)); (case aO => exact (by (with_reducible repeat (first | apply Kd.R_alloc | apply Kd.R_drewN | apply Kd.R_drew)); exact HO_7.out)); (case aS => exact (below_size (by repeat (first | (with_reducible first | exact HB.out | apply below_alloc | apply pw_below_drewN | apply below_drew1) | exact HB.out)))); (case aL => have := LMc63.out; omega); intro v170 w65 ho hb hg hat; have n0_ := Aside0.mk ho; have n1_ := Aside0.mk hb; clear HB; clear HO_7; have HB := n1_; have HO171 := n0_; clear n0_ n1_; clear ho hb hg hat))
                go_roundg k1
                case measure => have := HK1.out; omega
                case rel => exact ⟨x7_1 ++ [4] , (4 : Int), (by first | rfl | (simp; done)), H', ⟨by have := HK1.out; omega⟩, ⟨by (with_reducible repeat (first | apply Kd.R_alloc | apply Kd.R_drewN | apply Kd.R_drew)); exact HO171.out⟩, ⟨by repeat (first | (with_reducible first | exact HB.out | apply below_alloc | apply pw_below_drewN | apply below_drew1) | exact HB.out)⟩⟩
              · rw [if_neg c63] at H
                exact absurd H (by simp)
          · have hb_ : rdOf false y165 4 = (decide (a0_6 ≤ a0_5)) := by rw [Ny165.out]; rfl
            rw [hb_, show wrap64 ((4 : Int) + 1) = 5 from by kernel_rfl] at H
            clear hb_
            by_cases hq_ : (decide (a0_6 ≤ a0_5)) = true
            · rw [if_pos hq_] at H
              have hidx : ∀ w_ : World, (Instr.index 47 (.agg #[Value.bool t137, Value.bool (decide (a0_3 ≤ a0_2)), Value.bool t143, Value.bool (decide (a0_5 ≤ a0_1)), Value.bool (decide (a0_6 ≤ a0_5)), Value.bool (decide (a0_7 ≤ a0_0)), Value.bool t149, Value.bool t154, Value.bool t164]) (.int .i64 4)).run Tryd.prog w_ = .ok (.bool true) w_ := fun w_ => (idx47_4 w_ (Value.bool t137) (Value.bool (decide (a0_3 ≤ a0_2))) (Value.bool t143) (Value.bool (decide (a0_5 ≤ a0_1))) (Value.bool (decide (a0_6 ≤ a0_5))) (Value.bool (decide (a0_7 ≤ a0_0))) (Value.bool t149) (Value.bool t154) (Value.bool t164)).trans (by rw [hq_])
              clear hq_
              have H' := Aside0.mk H
              clear H
              go_wp2
              go_roundg k1
              case measure => have := HK1.out; omega
              case rel => exact ⟨x7_1 , (5 : Int), (by first | rfl | (simp; done)), H', ⟨by have := HK1.out; omega⟩, ⟨HO_7.out⟩, ⟨HB.out⟩⟩
            · rw [if_neg hq_] at H
              have hidx : ∀ w_ : World, (Instr.index 47 (.agg #[Value.bool t137, Value.bool (decide (a0_3 ≤ a0_2)), Value.bool t143, Value.bool (decide (a0_5 ≤ a0_1)), Value.bool (decide (a0_6 ≤ a0_5)), Value.bool (decide (a0_7 ≤ a0_0)), Value.bool t149, Value.bool t154, Value.bool t164]) (.int .i64 4)).run Tryd.prog w_ = .ok (.bool false) w_ := fun w_ => (idx47_4 w_ (Value.bool t137) (Value.bool (decide (a0_3 ≤ a0_2))) (Value.bool t143) (Value.bool (decide (a0_5 ≤ a0_1))) (Value.bool (decide (a0_6 ≤ a0_5))) (Value.bool (decide (a0_7 ≤ a0_0))) (Value.bool t149) (Value.bool t154) (Value.bool t164)).trans (by rw [Bool.eq_false_iff.mpr hq_])
              clear hq_
              by_cases c63 : x7_1.length < 17592186044416
              · rw [if_pos c63] at H
                have LMc63 := Aside0.mk c63
                clear c63
                have H' := Aside0.mk H
                clear H
                go_wp2_with (first | ((with_reducible refine gate_builtin (b := .append) (xs := #[.tmp 78, .tmp 81]) rfl ?_); at_builtin; refine Kd.R_append (Kd.int .i64) (w0 := w) w.heap.size rfl (.tmp 78) (.tmp 81) 26 3 (.int .i64 0) 8 rfl Tryd.underlying26 info3 rfl (by decide) (by omega) u7 x7_1 5 [.int .i64 5] (fun _ => True) (fun _ => False) rfl rfl ?aP (fun _ hk => hk.elim) ?aF ?aO ?aB ?aS ?aL ?_; (case aP => exact rfl); (case aB => exact (by repeat (first | (with_reducible first | exact HB.out | apply below_alloc | apply pw_below_drewN | apply below_drew1) | exact HB.out))); (case aF => exact (fun _ _ => trivial)); (case aO => exact (by (with_reducible repeat (first | apply Kd.R_alloc | apply Kd.R_drewN | apply Kd.R_drew)); exact HO_7.out)); (case aS => exact (below_size (by repeat (first | (with_reducible first | exact HB.out | apply below_alloc | apply pw_below_drewN | apply below_drew1) | exact HB.out)))); (case aL => have := LMc63.out; omega); intro v170 w65 ho hb hg hat; have n0_ := Aside0.mk ho; have n1_ := Aside0.mk hb; clear HB; clear HO_7; have HB := n1_; have HO171 := n0_; clear n0_ n1_; clear ho hb hg hat))
                go_roundg k1
                case measure => have := HK1.out; omega
                case rel => exact ⟨x7_1 ++ [5] , (5 : Int), (by first | rfl | (simp; done)), H', ⟨by have := HK1.out; omega⟩, ⟨by (with_reducible repeat (first | apply Kd.R_alloc | apply Kd.R_drewN | apply Kd.R_drew)); exact HO171.out⟩, ⟨by repeat (first | (with_reducible first | exact HB.out | apply below_alloc | apply pw_below_drewN | apply below_drew1) | exact HB.out)⟩⟩
              · rw [if_neg c63] at H
                exact absurd H (by simp)
          · have hb_ : rdOf false y165 5 = (decide (a0_7 ≤ a0_0)) := by rw [Ny165.out]; rfl
            rw [hb_, show wrap64 ((5 : Int) + 1) = 6 from by kernel_rfl] at H
            clear hb_
            by_cases hq_ : (decide (a0_7 ≤ a0_0)) = true
            · rw [if_pos hq_] at H
              have hidx : ∀ w_ : World, (Instr.index 47 (.agg #[Value.bool t137, Value.bool (decide (a0_3 ≤ a0_2)), Value.bool t143, Value.bool (decide (a0_5 ≤ a0_1)), Value.bool (decide (a0_6 ≤ a0_5)), Value.bool (decide (a0_7 ≤ a0_0)), Value.bool t149, Value.bool t154, Value.bool t164]) (.int .i64 5)).run Tryd.prog w_ = .ok (.bool true) w_ := fun w_ => (idx47_5 w_ (Value.bool t137) (Value.bool (decide (a0_3 ≤ a0_2))) (Value.bool t143) (Value.bool (decide (a0_5 ≤ a0_1))) (Value.bool (decide (a0_6 ≤ a0_5))) (Value.bool (decide (a0_7 ≤ a0_0))) (Value.bool t149) (Value.bool t154) (Value.bool t164)).trans (by rw [hq_])
              clear hq_
              have H' := Aside0.mk H
              clear H
              go_wp2
              go_roundg k1
              case measure => have := HK1.out; omega
              case rel => exact ⟨x7_1 , (6 : Int), (by first | rfl | (simp; done)), H', ⟨by have := HK1.out; omega⟩, ⟨HO_7.out⟩, ⟨HB.out⟩⟩
            · rw [if_neg hq_] at H
              have hidx : ∀ w_ : World, (Instr.index 47 (.agg #[Value.bool t137, Value.bool (decide (a0_3 ≤ a0_2)), Value.bool t143, Value.bool (decide (a0_5 ≤ a0_1)), Value.bool (decide (a0_6 ≤ a0_5)), Value.bool (decide (a0_7 ≤ a0_0)), Value.bool t149, Value.bool t154, Value.bool t164]) (.int .i64 5)).run Tryd.prog w_ = .ok (.bool false) w_ := fun w_ => (idx47_5 w_ (Value.bool t137) (Value.bool (decide (a0_3 ≤ a0_2))) (Value.bool t143) (Value.bool (decide (a0_5 ≤ a0_1))) (Value.bool (decide (a0_6 ≤ a0_5))) (Value.bool (decide (a0_7 ≤ a0_0))) (Value.bool t149) (Value.bool t154) (Value.bool t164)).trans (by rw [Bool.eq_false_iff.mpr hq_])
              clear hq_
              by_cases c63 : x7_1.length < 17592186044416
              · rw [if_pos c63] at H
                have LMc63 := Aside0.mk c63
                clear c63
                have H' := Aside0.mk H
                clear H
                go_wp2_with (first | ((with_reducible refine gate_builtin (b := .append) (xs := #[.tmp 78, .tmp 81]) rfl ?_); at_builtin; refine Kd.R_append (Kd.int .i64) (w0 := w) w.heap.size rfl (.tmp 78) (.tmp 81) 26 3 (.int .i64 0) 8 rfl Tryd.underlying26 info3 rfl (by decide) (by omega) u7 x7_1 6 [.int .i64 6] (fun _ => True) (fun _ => False) rfl rfl ?aP (fun _ hk => hk.elim) ?aF ?aO ?aB ?aS ?aL ?_; (case aP => exact rfl); (case aB => exact (by repeat (first | (with_reducible first | exact HB.out | apply below_alloc | apply pw_below_drewN | apply below_drew1) | exact HB.out))); (case aF => exact (fun _ _ => trivial)); (case aO => exact (by (with_reducible repeat (first | apply Kd.R_alloc | apply Kd.R_drewN | apply Kd.R_drew)); exact HO_7.out)); (case aS => exact (below_size (by repeat (first | (with_reducible first | exact HB.out | apply below_alloc | apply pw_below_drewN | apply below_drew1) | exact HB.out)))); (case aL => have := LMc63.out; omega); intro v170 w65 ho hb hg hat; have n0_ := Aside0.mk ho; have n1_ := Aside0.mk hb; clear HB; clear HO_7; have HB := n1_; have HO171 := n0_; clear n0_ n1_; clear ho hb hg hat))
                go_roundg k1
                case measure => have := HK1.out; omega
                case rel => exact ⟨x7_1 ++ [6] , (6 : Int), (by first | rfl | (simp; done)), H', ⟨by have := HK1.out; omega⟩, ⟨by (with_reducible repeat (first | apply Kd.R_alloc | apply Kd.R_drewN | apply Kd.R_drew)); exact HO171.out⟩, ⟨by repeat (first | (with_reducible first | exact HB.out | apply below_alloc | apply pw_below_drewN | apply below_drew1) | exact HB.out)⟩⟩
              · rw [if_neg c63] at H
                exact absurd H (by simp)
          · have hb_ : rdOf false y165 6 = t149 := by rw [Ny165.out]; rfl
            rw [hb_, show wrap64 ((6 : Int) + 1) = 7 from by kernel_rfl] at H
            clear hb_
            by_cases hq_ : t149 = true
            · rw [if_pos hq_] at H
              have hidx : ∀ w_ : World, (Instr.index 47 (.agg #[Value.bool t137, Value.bool (decide (a0_3 ≤ a0_2)), Value.bool t143, Value.bool (decide (a0_5 ≤ a0_1)), Value.bool (decide (a0_6 ≤ a0_5)), Value.bool (decide (a0_7 ≤ a0_0)), Value.bool t149, Value.bool t154, Value.bool t164]) (.int .i64 6)).run Tryd.prog w_ = .ok (.bool true) w_ := fun w_ => (idx47_6 w_ (Value.bool t137) (Value.bool (decide (a0_3 ≤ a0_2))) (Value.bool t143) (Value.bool (decide (a0_5 ≤ a0_1))) (Value.bool (decide (a0_6 ≤ a0_5))) (Value.bool (decide (a0_7 ≤ a0_0))) (Value.bool t149) (Value.bool t154) (Value.bool t164)).trans (by rw [hq_])
              clear hq_
              have H' := Aside0.mk H
              clear H
              go_wp2
              go_roundg k1
              case measure => have := HK1.out; omega
              case rel => exact ⟨x7_1 , (7 : Int), (by first | rfl | (simp; done)), H', ⟨by have := HK1.out; omega⟩, ⟨HO_7.out⟩, ⟨HB.out⟩⟩
            · rw [if_neg hq_] at H
              have hidx : ∀ w_ : World, (Instr.index 47 (.agg #[Value.bool t137, Value.bool (decide (a0_3 ≤ a0_2)), Value.bool t143, Value.bool (decide (a0_5 ≤ a0_1)), Value.bool (decide (a0_6 ≤ a0_5)), Value.bool (decide (a0_7 ≤ a0_0)), Value.bool t149, Value.bool t154, Value.bool t164]) (.int .i64 6)).run Tryd.prog w_ = .ok (.bool false) w_ := fun w_ => (idx47_6 w_ (Value.bool t137) (Value.bool (decide (a0_3 ≤ a0_2))) (Value.bool t143) (Value.bool (decide (a0_5 ≤ a0_1))) (Value.bool (decide (a0_6 ≤ a0_5))) (Value.bool (decide (a0_7 ≤ a0_0))) (Value.bool t149) (Value.bool t154) (Value.bool t164)).trans (by rw [Bool.eq_false_iff.mpr hq_])
              clear hq_
              by_cases c63 : x7_1.length < 17592186044416
              · rw [if_pos c63] at H
                have LMc63 := Aside0.mk c63
                clear c63
                have H' := Aside0.mk H
                clear H
                go_wp2_with (first | ((with_reducible refine gate_builtin (b := .append) (xs := #[.tmp 78, .tmp 81]) rfl ?_); at_builtin; refine Kd.R_append (Kd.int .i64) (w0 := w) w.heap.size rfl (.tmp 78) (.tmp 81) 26 3 (.int .i64 0) 8 rfl Tryd.underlying26 info3 rfl (by decide) (by omega) u7 x7_1 7 [.int .i64 7] (fun _ => True) (fun _ => False) rfl rfl ?aP (fun _ hk => hk.elim) ?aF ?aO ?aB ?aS ?aL ?_; (case aP => exact rfl); (case aB => exact (by repeat (first | (with_reducible first | exact HB.out | apply below_alloc | apply pw_below_drewN | apply below_drew1) | exact HB.out))); (case aF => exact (fun _ _ => trivial)); (case aO => exact (by (with_reducible repeat (first | apply Kd.R_alloc | apply Kd.R_drewN | apply Kd.R_drew)); exact HO_7.out)); (case aS => exact (below_size (by repeat (first | (with_reducible first | exact HB.out | apply below_alloc | apply pw_below_drewN | apply below_drew1) | exact HB.out)))); (case aL => have := LMc63.out; omega); intro v170 w65 ho hb hg hat; have n0_ := Aside0.mk ho; have n1_ := Aside0.mk hb; clear HB; clear HO_7; have HB := n1_; have HO171 := n0_; clear n0_ n1_; clear ho hb hg hat))
                go_roundg k1
                case measure => have := HK1.out; omega
                case rel => exact ⟨x7_1 ++ [7] , (7 : Int), (by first | rfl | (simp; done)), H', ⟨by have := HK1.out; omega⟩, ⟨by (with_reducible repeat (first | apply Kd.R_alloc | apply Kd.R_drewN | apply Kd.R_drew)); exact HO171.out⟩, ⟨by repeat (first | (with_reducible first | exact HB.out | apply below_alloc | apply pw_below_drewN | apply below_drew1) | exact HB.out)⟩⟩
              · rw [if_neg c63] at H
                exact absurd H (by simp)
          · have hb_ : rdOf false y165 7 = t154 := by rw [Ny165.out]; rfl
            rw [hb_, show wrap64 ((7 : Int) + 1) = 8 from by kernel_rfl] at H
            clear hb_
            by_cases hq_ : t154 = true
            · rw [if_pos hq_] at H
              have hidx : ∀ w_ : World, (Instr.index 47 (.agg #[Value.bool t137, Value.bool (decide (a0_3 ≤ a0_2)), Value.bool t143, Value.bool (decide (a0_5 ≤ a0_1)), Value.bool (decide (a0_6 ≤ a0_5)), Value.bool (decide (a0_7 ≤ a0_0)), Value.bool t149, Value.bool t154, Value.bool t164]) (.int .i64 7)).run Tryd.prog w_ = .ok (.bool true) w_ := fun w_ => (idx47_7 w_ (Value.bool t137) (Value.bool (decide (a0_3 ≤ a0_2))) (Value.bool t143) (Value.bool (decide (a0_5 ≤ a0_1))) (Value.bool (decide (a0_6 ≤ a0_5))) (Value.bool (decide (a0_7 ≤ a0_0))) (Value.bool t149) (Value.bool t154) (Value.bool t164)).trans (by rw [hq_])
              clear hq_
              have H' := Aside0.mk H
              clear H
              go_wp2
              go_roundg k1
              case measure => have := HK1.out; omega
              case rel => exact ⟨x7_1 , (8 : Int), (by first | rfl | (simp; done)), H', ⟨by have := HK1.out; omega⟩, ⟨HO_7.out⟩, ⟨HB.out⟩⟩
            · rw [if_neg hq_] at H
              have hidx : ∀ w_ : World, (Instr.index 47 (.agg #[Value.bool t137, Value.bool (decide (a0_3 ≤ a0_2)), Value.bool t143, Value.bool (decide (a0_5 ≤ a0_1)), Value.bool (decide (a0_6 ≤ a0_5)), Value.bool (decide (a0_7 ≤ a0_0)), Value.bool t149, Value.bool t154, Value.bool t164]) (.int .i64 7)).run Tryd.prog w_ = .ok (.bool false) w_ := fun w_ => (idx47_7 w_ (Value.bool t137) (Value.bool (decide (a0_3 ≤ a0_2))) (Value.bool t143) (Value.bool (decide (a0_5 ≤ a0_1))) (Value.bool (decide (a0_6 ≤ a0_5))) (Value.bool (decide (a0_7 ≤ a0_0))) (Value.bool t149) (Value.bool t154) (Value.bool t164)).trans (by rw [Bool.eq_false_iff.mpr hq_])
              clear hq_
              by_cases c63 : x7_1.length < 17592186044416
              · rw [if_pos c63] at H
                have LMc63 := Aside0.mk c63
                clear c63
                have H' := Aside0.mk H
                clear H
                go_wp2_with (first | ((with_reducible refine gate_builtin (b := .append) (xs := #[.tmp 78, .tmp 81]) rfl ?_); at_builtin; refine Kd.R_append (Kd.int .i64) (w0 := w) w.heap.size rfl (.tmp 78) (.tmp 81) 26 3 (.int .i64 0) 8 rfl Tryd.underlying26 info3 rfl (by decide) (by omega) u7 x7_1 8 [.int .i64 8] (fun _ => True) (fun _ => False) rfl rfl ?aP (fun _ hk => hk.elim) ?aF ?aO ?aB ?aS ?aL ?_; (case aP => exact rfl); (case aB => exact (by repeat (first | (with_reducible first | exact HB.out | apply below_alloc | apply pw_below_drewN | apply below_drew1) | exact HB.out))); (case aF => exact (fun _ _ => trivial)); (case aO => exact (by (with_reducible repeat (first | apply Kd.R_alloc | apply Kd.R_drewN | apply Kd.R_drew)); exact HO_7.out)); (case aS => exact (below_size (by repeat (first | (with_reducible first | exact HB.out | apply below_alloc | apply pw_below_drewN | apply below_drew1) | exact HB.out)))); (case aL => have := LMc63.out; omega); intro v170 w65 ho hb hg hat; have n0_ := Aside0.mk ho; have n1_ := Aside0.mk hb; clear HB; clear HO_7; have HB := n1_; have HO171 := n0_; clear n0_ n1_; clear ho hb hg hat))
                go_roundg k1
                case measure => have := HK1.out; omega
                case rel => exact ⟨x7_1 ++ [8] , (8 : Int), (by first | rfl | (simp; done)), H', ⟨by have := HK1.out; omega⟩, ⟨by (with_reducible repeat (first | apply Kd.R_alloc | apply Kd.R_drewN | apply Kd.R_drew)); exact HO171.out⟩, ⟨by repeat (first | (with_reducible first | exact HB.out | apply below_alloc | apply pw_below_drewN | apply below_drew1) | exact HB.out)⟩⟩
              · rw [if_neg c63] at H
                exact absurd H (by simp)
          · have hb_ : rdOf false y165 8 = t164 := by rw [Ny165.out]; rfl
            rw [hb_, show wrap64 ((8 : Int) + 1) = 9 from by kernel_rfl] at H
            clear hb_
            by_cases hq_ : t164 = true
            · rw [if_pos hq_] at H
              have hidx : ∀ w_ : World, (Instr.index 47 (.agg #[Value.bool t137, Value.bool (decide (a0_3 ≤ a0_2)), Value.bool t143, Value.bool (decide (a0_5 ≤ a0_1)), Value.bool (decide (a0_6 ≤ a0_5)), Value.bool (decide (a0_7 ≤ a0_0)), Value.bool t149, Value.bool t154, Value.bool t164]) (.int .i64 8)).run Tryd.prog w_ = .ok (.bool true) w_ := fun w_ => (idx47_8 w_ (Value.bool t137) (Value.bool (decide (a0_3 ≤ a0_2))) (Value.bool t143) (Value.bool (decide (a0_5 ≤ a0_1))) (Value.bool (decide (a0_6 ≤ a0_5))) (Value.bool (decide (a0_7 ≤ a0_0))) (Value.bool t149) (Value.bool t154) (Value.bool t164)).trans (by rw [hq_])
              clear hq_
              have H' := Aside0.mk H
              clear H
              go_wp2
              go_roundg k1
              case measure => have := HK1.out; omega
              case rel => exact ⟨x7_1 , (9 : Int), (by first | rfl | (simp; done)), H', ⟨by have := HK1.out; omega⟩, ⟨HO_7.out⟩, ⟨HB.out⟩⟩
            · rw [if_neg hq_] at H
              have hidx : ∀ w_ : World, (Instr.index 47 (.agg #[Value.bool t137, Value.bool (decide (a0_3 ≤ a0_2)), Value.bool t143, Value.bool (decide (a0_5 ≤ a0_1)), Value.bool (decide (a0_6 ≤ a0_5)), Value.bool (decide (a0_7 ≤ a0_0)), Value.bool t149, Value.bool t154, Value.bool t164]) (.int .i64 8)).run Tryd.prog w_ = .ok (.bool false) w_ := fun w_ => (idx47_8 w_ (Value.bool t137) (Value.bool (decide (a0_3 ≤ a0_2))) (Value.bool t143) (Value.bool (decide (a0_5 ≤ a0_1))) (Value.bool (decide (a0_6 ≤ a0_5))) (Value.bool (decide (a0_7 ≤ a0_0))) (Value.bool t149) (Value.bool t154) (Value.bool t164)).trans (by rw [Bool.eq_false_iff.mpr hq_])
              clear hq_
              by_cases c63 : x7_1.length < 17592186044416
              · rw [if_pos c63] at H
                have LMc63 := Aside0.mk c63
                clear c63
                have H' := Aside0.mk H
                clear H
                go_wp2_with (first | ((with_reducible refine gate_builtin (b := .append) (xs := #[.tmp 78, .tmp 81]) rfl ?_); at_builtin; refine Kd.R_append (Kd.int .i64) (w0 := w) w.heap.size rfl (.tmp 78) (.tmp 81) 26 3 (.int .i64 0) 8 rfl Tryd.underlying26 info3 rfl (by decide) (by omega) u7 x7_1 9 [.int .i64 9] (fun _ => True) (fun _ => False) rfl rfl ?aP (fun _ hk => hk.elim) ?aF ?aO ?aB ?aS ?aL ?_; (case aP => exact rfl); (case aB => exact (by repeat (first | (with_reducible first | exact HB.out | apply below_alloc | apply pw_below_drewN | apply below_drew1) | exact HB.out))); (case aF => exact (fun _ _ => trivial)); (case aO => exact (by (with_reducible repeat (first | apply Kd.R_alloc | apply Kd.R_drewN | apply Kd.R_drew)); exact HO_7.out)); (case aS => exact (below_size (by repeat (first | (with_reducible first | exact HB.out | apply below_alloc | apply pw_below_drewN | apply below_drew1) | exact HB.out)))); (case aL => have := LMc63.out; omega); intro v170 w65 ho hb hg hat; have n0_ := Aside0.mk ho; have n1_ := Aside0.mk hb; clear HB; clear HO_7; have HB := n1_; have HO171 := n0_; clear n0_ n1_; clear ho hb hg hat))
                go_roundg k1
                case measure => have := HK1.out; omega
                case rel => exact ⟨x7_1 ++ [9] , (9 : Int), (by first | rfl | (simp; done)), H', ⟨by have := HK1.out; omega⟩, ⟨by (with_reducible repeat (first | apply Kd.R_alloc | apply Kd.R_drewN | apply Kd.R_drew)); exact HO171.out⟩, ⟨by repeat (first | (with_reducible first | exact HB.out | apply below_alloc | apply pw_below_drewN | apply below_drew1) | exact HB.out)⟩⟩
              · rw [if_neg c63] at H
                exact absurd H (by simp)
        · rw [if_neg c58] at H
          exact absurd H (by simp)
      · rw [if_neg c57] at H
        have c57b0 : decide (x72_1 < 9) = false := decide_eq_false c57
        clear c57
        obtain rfl := Option.some.inj H
        go_wp2
        go_ret
        exact ⟨_, rfl, HO_7.out, HB.out⟩

end Go.Proofs.YthjgjfelbagljabDoor.PBoundsTells
