/- Walks over chain: New. -/
import Derived.Test.YthjgjfelbagljaaChainD
import Derived.KernelRfl
namespace Go.Proofs.Ythjgjfelbagljaa
open Go.RowKit
namespace Chain

def link0 : Link := ⟨0, 0, 0⟩
def ends0 : Ends := ⟨0, 0, 0⟩
def endsN : Ends := ⟨-1, -1, 0⟩
def St.new (n m : Nat) : St := ⟨List.replicate n link0, List.replicate m endsN⟩

theorem made_flat {α : Type} (f : α → List Value) (x : α) (z : Array Value) (k : Nat) (hk : 0 < k) (hz : z.toList = f x) (hf : ∀ y, (f y).length = k) (n : Nat) : madeCells z (n * k) = flat f (List.replicate n x) := by
  apply Array.ext
  · rw [size_madeCells, flat_size hf, List.length_replicate]
  · intro i h1 h2
    rw [size_madeCells] at h1
    have hzs : z.size = k := by rw [← Array.length_toList, hz, hf]
    have hq : i / k < n := by rw [Nat.div_lt_iff_lt_mul hk]; exact h1
    have hm : i % k < k := Nat.mod_lt _ hk
    have h3 := flat_get hf (List.replicate n x) (i / k) (i % k) (by simpa using hq) hm
    have h4 : i / k * k + i % k = i := by rw [Nat.mul_comm]; exact Nat.div_add_mod i k
    rw [h4, List.getElem_replicate, ← hz, Array.getElem?_toList, Array.getElem?_eq_getElem h2, Array.getElem?_eq_getElem (by omega)] at h3
    have h5 := Option.some.inj h3
    rw [h5]
    simp [madeCells, hzs]
    rw [Array.getElem!_eq_getD, Array.getD_eq_getD_getElem?, Array.getElem?_eq_getElem (by omega)]
    rfl

theorem info92 : (Try.prog.info? 92).map (fun i => (i.zero, i.size, i.bytes)) = some (some (.agg #[.int .i32 0, .int .i32 0, .int .i8 0]), 3, 12) := by kernel_rfl
theorem info86 : (Try.prog.info? 86).map (fun i => (i.zero, i.size, i.bytes)) = some (some (.agg #[.int .i32 0, .int .i32 0, .int .i64 0]), 3, 16) := by kernel_rfl

theorem make_links (n : Int) (h0 : 0 ≤ n) (hn : n ≤ 65536) (w : World) : (Instr.makeSlice 81 (.int .i64 n) (.int .i64 n)).run Try.prog w = .ok (.slice (some ⟨w.heap.size, 0, none⟩) n.toNat n.toNat) (w.alloc (.cells (flat linkV (List.replicate n.toNat link0)) 92)) := by
  obtain ⟨i, hi, hz, hs, hb⟩ := info_parts info92
  have := run_make (P := Try.prog) w 81 92 i _ Try.underlying81 hi hz .i64 .i64 n n h0 (Int.le_refl _) (by rw [hb]; omega) (by omega)
  rw [hs] at this
  rw [this, ← made_flat linkV link0 #[.int .i32 0, .int .i32 0, .int .i8 0] 3 (by omega) rfl linkV_length]
  rfl
theorem make_lists (n : Int) (h0 : 0 ≤ n) (hn : n ≤ 8) (w : World) : (Instr.makeSlice 82 (.int .i64 n) (.int .i64 n)).run Try.prog w = .ok (.slice (some ⟨w.heap.size, 0, none⟩) n.toNat n.toNat) (w.alloc (.cells (flat endsV (List.replicate n.toNat ends0)) 86)) := by
  obtain ⟨i, hi, hz, hs, hb⟩ := info_parts info86
  have := run_make (P := Try.prog) w 82 86 i _ Try.underlying82 hi hz .i64 .i64 n n h0 (Int.le_refl _) (by rw [hb]; omega) (by omega)
  rw [hs] at this
  rw [this, ← made_flat endsV ends0 #[.int .i32 0, .int .i32 0, .int .i64 0] 3 (by omega) rfl endsV_length]
  rfl

theorem made_at {w : World} {b b1 b2 : Nat} {n m : Int} (hb1 : Blk w b1 (flat linkV (List.replicate n.toNat link0))) (hb2 : Blk w b2 (flat endsV (List.replicate m.toNat ends0)))
    (hb : Blk w b #[.slice (some ⟨b1, 0, none⟩) n.toNat n.toNat, .slice (some ⟨b2, 0, none⟩) m.toNat m.toNat]) (n1 : b ≠ b1) (n2 : b ≠ b2) (n3 : b1 ≠ b2) (h1 : n ≤ 65536) (h3 : m ≤ 8) :
    At w b b1 b2 ⟨List.replicate n.toNat link0, List.replicate m.toNat ends0⟩ :=
  { head := by simpa using hb, links := hb1, lists := hb2, ne1 := n1, ne2 := n2, ne3 := n3, nodes := by simp; omega, many := by simp; omega }

theorem fill_list {α : Type} (a b x : α) : ∀ (k M : Nat), k < M → (List.replicate k a ++ List.replicate (M - k) b).set k x = List.replicate k a ++ x :: List.replicate (M - (k + 1)) b := by
  intro k M h
  rw [List.set_append_right _ _ (by simp)]
  simp only [List.length_replicate, Nat.sub_self]
  rw [show M - k = (M - (k + 1)) + 1 by omega, List.replicate_succ, List.set_cons_zero]
theorem fill_step (ls : List Link) (k M : Nat) (h : k < M) :
    (((⟨ls, List.replicate k endsN ++ List.replicate (M - k) ends0⟩ : St).setFirst k (-1)).setLast k (-1)).setMany k 0 = ⟨ls, List.replicate (k + 1) endsN ++ List.replicate (M - (k + 1)) ends0⟩ := by
  have hl : k < (List.replicate k endsN ++ List.replicate (M - k) ends0).length := by simp; omega
  simp only [St.setFirst, St.setLast, St.setMany, St.en, Int.toNat_natCast]
  simp only [getD_set_same _ _ _ hl, List.set_set]
  rw [fill_list _ _ _ _ _ h, List.replicate_succ', List.append_assoc]
  rfl

section
variable (w : World)
set_option maxRecDepth 100000 in
set_option maxHeartbeats 400000 in
theorem New_bad (n m : Int) (h : n < 0 ∨ 65536 < n ∨ m < 1 ∨ 8 < m) :
    Calls Try.prog 17 #[.int .i64 n, .int .i64 m] w fun e w' => e = .returned (.tuple #[.pointer none, .int .i64 1]) ∧ w = w' := by
  by_cases h1 : n < 0
  · go_enter Try.func17, Try.ntmps17
    go_wp2_with fail
    go_ret2
    exact ⟨rfl, rfl⟩
  · by_cases h2 : 65536 < n
    · go_enter Try.func17, Try.ntmps17
      go_wp2_with fail
      go_ret2
      exact ⟨rfl, rfl⟩
    · by_cases h3 : m < 1
      · go_enter Try.func17, Try.ntmps17
        go_wp2_with fail
        go_ret2
        exact ⟨rfl, rfl⟩
      · have h4 : 8 < m := by omega
        go_enter Try.func17, Try.ntmps17
        go_wp2_with fail
        go_ret2
        exact ⟨rfl, rfl⟩
set_option maxRecDepth 100000 in
set_option maxHeartbeats 1000000 in
theorem New_good (n : Int) (M : Nat) (h0 : 0 ≤ n) (h1 : n ≤ 65536) (h2 : 1 ≤ (M : Int)) (h3 : (M : Int) ≤ 8) :
    Calls Try.prog 17 #[.int .i64 n, .int .i64 (M : Int)] w fun e w' => ∃ b b1 b2, e = .returned (.tuple #[.pointer (some ⟨b, 0, none⟩), .int .i64 0]) ∧
      At w' b b1 b2 (St.new n.toNat M) ∧ Calm w w' ∧ w.heap.size ≤ b ∧ w.heap.size ≤ b1 ∧ w.heap.size ≤ b2 := by
  have hm1 := make_links n h0 h1
  have hm2 := make_lists (M : Int) (by omega) h3
  simp only [Int.toNat_natCast] at hm2
  go_enter Try.func17, Try.ntmps17
  go_upto_region 3 with fail
  go_cut [6] (fun c wa => ∃ b b1 b2, c = .pointer (some ⟨b, 0, none⟩) ∧ At wa b b1 b2 ⟨List.replicate n.toNat link0, List.replicate M ends0⟩ ∧ Calm w wa ∧ w.heap.size ≤ b ∧ w.heap.size ≤ b1 ∧ w.heap.size ≤ b2)
  case first =>
    go_region
    all_goals go_wp2_with fail
    all_goals go_meet
    · refine ⟨_, w.heap.size, w.heap.size + 1, rfl, ?_, ?_, by omega, by omega, by omega⟩
      · exact At.of_heap (made_at (((Blk.new _ _ _).alloc _).alloc _) ((Blk.new' (by simp) _ _).alloc _) (Blk.new' (by simp) _ _) (by omega) (by omega) (by omega) h1 h3) rfl
      · refine Kept.drew (Kept.alloc (Kept.alloc (Kept.alloc (Kept.refl _ _) _) _) _)
    · refine ⟨_, w.heap.size + 1, w.heap.size, rfl, ?_, ?_, by omega, by omega, by omega⟩
      · exact At.of_heap (made_at ((Blk.new' (by simp) _ _).alloc _) (((Blk.new _ _ _).alloc _).alloc _) (Blk.new' (by simp) _ _) (by omega) (by omega) (by omega) h1 h3) rfl
      · refine Kept.drew (Kept.alloc (Kept.alloc (Kept.alloc (Kept.refl _ _) _) _) _)
  case rest =>
    obtain ⟨b, b1, b2, rfl, ha, hka, z0, z1, z2⟩ := hcut
    clear hm1 hm2
    have g1 := ha.c1
    simp only [List.length_replicate] at g1
    go_wp2_with fail
    go_loopw [33] (fun i wr => ∃ k : Nat, k ≤ M ∧ i = .int .i64 (k : Int) ∧ At wr b b1 b2 ⟨List.replicate n.toNat link0, List.replicate k endsN ++ List.replicate (M - k) ends0⟩ ∧ Calm w wr) (fun i _ => M - (intOf i).toNat)
    case atStart => exact ⟨0, Nat.zero_le _, rfl, by simpa using ha, hka⟩
    case round =>
      obtain ⟨k, hk, rfl, hr, hkr⟩ := hrel
      clear g1 ha
      have gl : (List.replicate k endsN ++ List.replicate (M - k) ends0).length = M := by simp; omega
      have g1 := hr.c1
      simp only [gl] at g1
      by_cases hlt : k < M
      · have hk1 : (k : Int) < (List.replicate k endsN ++ List.replicate (M - k) ends0).length := by rw [gl]; omega
        have g2 := hr.e0' (i := (k : Int)) (by omega) hk1
        have g3 := hr.e1' (i := (k : Int)) (by omega) hk1
        have g4 := hr.e2' (i := (k : Int)) (by omega) hk1
        have g5 := fun o => hr.lists.frozen o
        rw [Int.toNat_natCast] at g2 g3 g4
        have hM : (M : Int) ≤ 8 := h3
        clear gl
        go_wp2_with fail
        go_roundw
        case rel =>
          refine ⟨k + 1, by omega, by go_num, ?_, ?_⟩
          · rw [← fill_step _ _ _ hlt]
            have L (s' : St) (v i : Int) : (s'.setFirst i v).lists.length = s'.lists.length ∧ (s'.setLast i v).lists.length = s'.lists.length := ⟨(set_lists_length s' i v).2.2.2.1, (set_lists_length s' i v).2.2.2.2.1⟩
            exact ((hr.setFirst (i := (k : Int)) (by omega) hk1 (-1)).setLast (i := (k : Int)) (by omega) (by rw [(L _ _ _).1]; exact hk1) (-1)).setMany (i := (k : Int)) (by omega) (by rw [(L _ _ _).2, (L _ _ _).1]; exact hk1) 0
          · refine Kept.setCell ?_ (fun h => absurd h (by simp; omega)) _
            refine Kept.setCell ?_ (fun h => absurd h (by simp; omega)) _
            refine Kept.setCell ?_ (fun h => absurd h (by simp; omega)) _
            exact hkr
        case measure => simp [intOf]; omega
      · obtain rfl : k = M := by omega
        clear g1
        go_wp2_with fail
        go_ret2
        refine ⟨b, b1, b2, rfl, ?_, hkr, z0, z1, z2⟩
        simpa [St.new] using hr

theorem New_calls (n m : Int) (h0 : 0 ≤ n) (h1 : n ≤ 65536) (h2 : 1 ≤ m) (h3 : m ≤ 8) :
    Calls Try.prog 17 #[.int .i64 n, .int .i64 m] w fun e w' => ∃ b b1 b2, e = .returned (.tuple #[.pointer (some ⟨b, 0, none⟩), .int .i64 0]) ∧
      At w' b b1 b2 (St.new n.toNat m.toNat) ∧ Calm w w' ∧ w.heap.size ≤ b ∧ w.heap.size ≤ b1 ∧ w.heap.size ≤ b2 := by
  obtain ⟨M, rfl⟩ : ∃ M : Nat, m = (M : Int) := ⟨m.toNat, by omega⟩
  exact New_good w n M h0 h1 h2 h3
end
end Chain
end Go.Proofs.Ythjgjfelbagljaa
