/- The law's own example over chain. -/
import Derived.Test.YthjgjfelbagljaaChainPureC
import Derived.Test.YthjgjfelbagljaaChainLawA
import Derived.Test.YthjgjfelbagljaaNodes
namespace Go.Proofs.Ythjgjfelbagljaa
open Go.RowKit
namespace Chain

def a0 : St := St.new 10 2
def a1 : St := a0.behind 0 5
def a2 : St := a1.behind 0 7
def a3 : St := a2.ahead 0 3
def a4 : St := a3.insert 9 5
theorem w0 : a0.wrong 0 5 = 0 := by decide
theorem w1 : a1.wrong 0 7 = 0 := by decide
theorem w2 : a2.wrong 0 3 = 0 := by decide
theorem w3 : a3.insertErr 9 5 = 0 := by decide
theorem i0 : Inv a0 [[], []] := Inv.new 10 2 (by decide) (by decide)
theorem i1 : Inv a1 [[5], []] := by
  have := i0.behind 0 5 (by decide)
  rw [if_pos (show a0.wrong ((0 : Nat) : Int) 5 = 0 from w0)] at this
  exact this
theorem i2 : Inv a2 [[5, 7], []] := by
  have := i1.behind 0 7 (by decide)
  rw [if_pos (show a1.wrong ((0 : Nat) : Int) 7 = 0 from w1)] at this
  exact this
theorem i3 : Inv a3 [[3, 5, 7], []] := by
  have := i2.ahead 0 3 (by decide)
  rw [if_pos (show a2.wrong ((0 : Nat) : Int) 3 = 0 from w2)] at this
  exact this
theorem free9 : ∀ j : Nat, j < [[3, 5, 7], ([] : List Int)].length → (9 : Int) ∉ [[3, 5, 7], ([] : List Int)].getD j [] := by
  intro j hj
  have h : j = 0 ∨ j = 1 := by simp at hj; omega
  rcases h with rfl | rfl
  · decide
  · decide
theorem i4 : Inv a4 [[3, 5, 9, 7], []] := (i3.insert (l := 0) (by decide) (A := [3]) (B := [7]) (a := 5) (n := 9) rfl (by decide) free9).2

/-- told at chains that stand as lists. -/
theorem told_at {w : World} {b b1 b2 : Nat} {s : St} (i : Int) (m : Nat) (xs : List Int) (hs : At w b b1 b2 s) (hw : Way (s.first i) s.next xs) (hm : (m : Int) ≤ 100000) :
    Calls Try.prog 19 #[.pointer (some ⟨b, 0, none⟩), .int .i64 i, .int .i64 (m : Int)] w fun e w' => ∃ v, e = .returned (.tuple #[v, .bool true]) ∧ w'.ownsRow w.heap.size 21 1 v (xs.take m).length ((xs.take m).map (Value.int .i32)) ∧ Below w.heap.size w w' :=
  told_gen w _ i m xs hm hw.small (fun w1 w0 h1 h0 Bs => All_iter w1 5 (by omega) Bs b b1 b2 s i xs (hs.calm h1) hw w0 h0)
theorem back_at {w : World} {b b1 b2 : Nat} {s : St} (i : Int) (m : Nat) (xs : List Int) (hs : At w b b1 b2 s) (hw : Way (s.last i) s.prev xs) (hm : (m : Int) ≤ 100000) :
    Calls Try.prog 25 #[.pointer (some ⟨b, 0, none⟩), .int .i64 i, .int .i64 (m : Int)] w fun e w' => ∃ v, e = .returned (.tuple #[v, .bool true]) ∧ w'.ownsRow w.heap.size 21 1 v (xs.take m).length ((xs.take m).map (Value.int .i32)) ∧ Below w.heap.size w w' :=
  back_gen w _ i m xs hm hw.small (fun w1 w0 h1 h0 Bs => Back_iter w1 5 (by omega) Bs b b1 b2 s i xs (hs.calm h1) hw w0 h0)

set_option maxRecDepth 100000 in
set_option maxHeartbeats 1000000 in
theorem alive_calls (w : World) : Calls Try.prog 16 #[] w fun e w' => e = .returned (.bool true) ∧ Below w.heap.size w w' := by
  go_enter Try.func16, Try.ntmps16
  go_wp2_with fail
  refine (New_calls w 10 2 (by decide) (by decide) (by decide) (by decide)).mono ?_
  rintro e wa ⟨b, b1, b2, rfl, hs, hk, z0, z1, z2⟩
  have hs0 : At wa b b1 b2 a0 := hs
  have h1 := Behind_calls wa b b1 b2 a0 0 5 hs0 i0.valid (by decide)
  rw [w0] at h1
  have H1 := Lib.hid h1
  clear h1 hs
  go_wp2_with fail
  refine H1.out.mono ?_
  rintro e wb ⟨rfl, hsb, hkb⟩
  have h1 := Behind_calls wb b b1 b2 a1 0 7 hsb i1.valid (by decide)
  rw [w1] at h1
  have H2 := Lib.hid h1
  clear h1
  go_wp2_with fail
  refine H2.out.mono ?_
  rintro e wc ⟨rfl, hsc, hkc⟩
  have h1 := Ahead_calls wc b b1 b2 a2 0 3 hsc i2.valid (by decide)
  rw [w2] at h1
  have H3 := Lib.hid h1
  clear h1
  go_wp2_with fail
  refine H3.out.mono ?_
  rintro e wd ⟨rfl, hsd, hkd⟩
  have h1 := Insert_calls wd b b1 b2 a3 9 5 hsd i3.valid (by decide) (by decide)
  rw [w3] at h1
  have H4 := Lib.hid h1
  clear h1
  go_wp2_with fail
  refine H4.out.mono ?_
  rintro e we ⟨rfl, hse, hke⟩
  go_wp2_with fail
  refine (told_at 0 9 [3, 5, 9, 7] hse (i4.way (l := 0) (by decide)) (by decide)).mono ?_
  rintro e wf ⟨v, rfl, hrow, hbf⟩
  go_wp2_with fail
  have hv : Ints .i32 (wf.alloc (.cells #[.int .i32 3, .int .i32 5, .int .i32 9, .int .i32 7] 21)) v [3, 5, 9, 7] := (Ints.of_owns hrow).calm ((Kept.refl _ _).alloc _)
  refine (Ref04.Nodes_calls _ v _ [3, 5, 9, 7] [3, 5, 9, 7] hv (Ints.lit (xs := [3, 5, 9, 7]) (Blk.new _ _ _)) (by decide) (by decide)).mono ?_
  rintro e wg ⟨rfl, n, rfl⟩
  have hse2 : At ((wf.alloc (.cells #[.int .i32 3, .int .i32 5, .int .i32 9, .int .i32 7] 21)).drewN n) b b1 b2 a4 :=
    ((hse.calm (Kept.of_below hbf _)).calm ((Kept.refl _ _).alloc _)).of_heap rfl
  rw [decide_eq_true rfl]
  go_wp2_with fail
  have L0 : a4.len 0 = 4 := i4.len_eq (l := 0) (by decide)
  have L1 : a4.len 1 = 0 := i4.len_eq (l := 1) (by decide)
  have l0 := Len_calls _ b b1 b2 a4 0 hse2
  have l1 := Len_calls _ b b1 b2 a4 1 hse2
  rw [L0] at l0
  rw [L1] at l1
  have M0 := Lib.hid l0
  have M1 := Lib.hid l1
  clear L0 L1 l0 l1
  refine M0.out.mono ?_
  rintro e wh ⟨rfl, rfl⟩
  go_wp2_with fail
  refine M1.out.mono ?_
  rintro e wh ⟨rfl, rfl⟩
  go_wp2_with fail
  go_ret
  refine ⟨rfl, ?_⟩
  have hF : ∀ k, k < w.heap.size → ¬ Two b1 b2 k := fun k hk h => by unfold Two at h; omega
  have K1 : Calm w wb := hk.step hkb (fun i hi h => hF i hi h)
  have K2 : Calm w wc := K1.step hkc (fun i hi h => hF i hi h)
  have K3 : Calm w wd := K2.step hkd (fun i hi h => hF i hi h)
  have K4 : Calm w we := K3.step hke (fun i hi h => hF i hi h)
  have K5 : Calm w wf := K4.step (Kept.of_below hbf (fun _ => False)) (fun i hi h => h)
  exact ((K5.alloc _).drewN n).below (fun _ _ h => h)
end Chain
end Go.Proofs.Ythjgjfelbagljaa
