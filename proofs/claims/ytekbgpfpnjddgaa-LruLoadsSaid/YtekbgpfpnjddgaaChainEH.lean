/- Walks over chain: New. Walks over chain: the iterators. Walks over chain: walk, as an iterator. Walks over chain: All, Back. -/
import Derived.Test.YtekbgpfpnjddgaaChainRD
import Derived.KernelRfl
import Derived.Test.YtekbgpfpnjddgaaIterAC
import Derived.Shelf.Abstract
namespace Go.Proofs.Ytekbgpfpnjddgaa
open Go.RowKit
namespace Chain

def link0 : Link := ⟨0, 0, 0⟩
def ends0 : Ends := ⟨0, 0, 0⟩
def endsN : Ends := ⟨-1, -1, 0⟩
def St.new (n m : Nat) : St := ⟨List.replicate n link0, List.replicate m endsN⟩

theorem made_flat {α : Type} (f : α → List Value) (x : α) (z : Array Value) (k : Nat) (hk : 0 < k) (hz : z.toList = f x) (hf : ∀ y, (f y).length = k) (n : Nat) : madeCells z (n * k) = flat f (List.replicate n x) := by
  apply Array.ext
  · rw [size_madeCells, flat_size hf, List.length_replicate]
  · intro i h1 h2
    rw [size_madeCells] at h1
    have hzs : z.size = k := by rw [← Array.length_toList, hz, hf]
    have hq : i / k < n := by rw [Nat.div_lt_iff_lt_mul hk]; exact h1
    have hm : i % k < k := Nat.mod_lt _ hk
    have h3 := flat_get hf (List.replicate n x) (i / k) (i % k) (by simpa using hq) hm
    have h4 : i / k * k + i % k = i := by rw [Nat.mul_comm]; exact Nat.div_add_mod i k
    rw [h4, List.getElem_replicate, ← hz, Array.getElem?_toList, Array.getElem?_eq_getElem h2, Array.getElem?_eq_getElem (by omega)] at h3
    have h5 := Option.some.inj h3
    rw [h5]
    simp [madeCells, hzs]
    rw [Array.getElem!_eq_getD, Array.getD_eq_getD_getElem?, Array.getElem?_eq_getElem (by omega)]
    rfl

theorem info92 : (Try.prog.info? 148).map (fun i => (i.zero, i.size, i.bytes)) = some (some (.agg #[.int .i32 0, .int .i32 0, .int .i8 0]), 3, 12) := by kernel_rfl
theorem info86 : (Try.prog.info? 119).map (fun i => (i.zero, i.size, i.bytes)) = some (some (.agg #[.int .i32 0, .int .i32 0, .int .i64 0]), 3, 16) := by kernel_rfl

theorem make_links (n : Int) (h0 : 0 ≤ n) (hn : n ≤ 65536) (w : World) : (Instr.makeSlice 114 (.int .i64 n) (.int .i64 n)).run Try.prog w = .ok (.slice (some ⟨w.heap.size, 0, none⟩) n.toNat n.toNat) (w.alloc (.cells (flat linkV (List.replicate n.toNat link0)) 148)) := by
  obtain ⟨i, hi, hz, hs, hb⟩ := info_parts info92
  have := run_make (P := Try.prog) w 114 148 i _ Try.underlying114 hi hz .i64 .i64 n n h0 (Int.le_refl _) (by rw [hb]; omega) (by omega)
  rw [hs] at this
  rw [this, ← made_flat linkV link0 #[.int .i32 0, .int .i32 0, .int .i8 0] 3 (by omega) rfl linkV_length]
  rfl
theorem make_lists (n : Int) (h0 : 0 ≤ n) (hn : n ≤ 8) (w : World) : (Instr.makeSlice 115 (.int .i64 n) (.int .i64 n)).run Try.prog w = .ok (.slice (some ⟨w.heap.size, 0, none⟩) n.toNat n.toNat) (w.alloc (.cells (flat endsV (List.replicate n.toNat ends0)) 119)) := by
  obtain ⟨i, hi, hz, hs, hb⟩ := info_parts info86
  have := run_make (P := Try.prog) w 115 119 i _ Try.underlying115 hi hz .i64 .i64 n n h0 (Int.le_refl _) (by rw [hb]; omega) (by omega)
  rw [hs] at this
  rw [this, ← made_flat endsV ends0 #[.int .i32 0, .int .i32 0, .int .i64 0] 3 (by omega) rfl endsV_length]
  rfl

theorem made_at {w : World} {b b1 b2 : Nat} {n m : Int} (hb1 : Blk w b1 (flat linkV (List.replicate n.toNat link0))) (hb2 : Blk w b2 (flat endsV (List.replicate m.toNat ends0)))
    (hb : Blk w b #[.slice (some ⟨b1, 0, none⟩) n.toNat n.toNat, .slice (some ⟨b2, 0, none⟩) m.toNat m.toNat]) (n1 : b ≠ b1) (n2 : b ≠ b2) (n3 : b1 ≠ b2) (h1 : n ≤ 65536) (h3 : m ≤ 8) :
    At w b b1 b2 ⟨List.replicate n.toNat link0, List.replicate m.toNat ends0⟩ :=
  { head := by simpa using hb, links := hb1, lists := hb2, ne1 := n1, ne2 := n2, ne3 := n3, nodes := by simp; omega, many := by simp; omega }

theorem fill_list {α : Type} (a b x : α) : ∀ (k M : Nat), k < M → (List.replicate k a ++ List.replicate (M - k) b).set k x = List.replicate k a ++ x :: List.replicate (M - (k + 1)) b := by
  intro k M h
  rw [List.set_append_right _ _ (by simp)]
  simp only [List.length_replicate, Nat.sub_self]
  rw [show M - k = (M - (k + 1)) + 1 by omega, List.replicate_succ, List.set_cons_zero]
theorem fill_step (ls : List Link) (k M : Nat) (h : k < M) :
    (((⟨ls, List.replicate k endsN ++ List.replicate (M - k) ends0⟩ : St).setFirst k (-1)).setLast k (-1)).setMany k 0 = ⟨ls, List.replicate (k + 1) endsN ++ List.replicate (M - (k + 1)) ends0⟩ := by
  have hl : k < (List.replicate k endsN ++ List.replicate (M - k) ends0).length := by simp; omega
  simp only [St.setFirst, St.setLast, St.setMany, St.en, Int.toNat_natCast]
  simp only [getD_set_same _ _ _ hl, List.set_set]
  rw [fill_list _ _ _ _ _ h, List.replicate_succ', List.append_assoc]
  rfl

section
variable (w : World)
set_option maxRecDepth 100000 in
set_option maxHeartbeats 400000 in
theorem New_bad (n m : Int) (h : n < 0 ∨ 65536 < n ∨ m < 1 ∨ 8 < m) :
    Calls Try.prog 31 #[.int .i64 n, .int .i64 m] w fun e w' => e = .returned (.tuple #[.pointer none, .int .i64 1]) ∧ w = w' := by
  by_cases h1 : n < 0
  · go_enter Try.func31, Try.ntmps31
    go_wp2_with fail
    go_ret2
    exact ⟨rfl, rfl⟩
  · by_cases h2 : 65536 < n
    · go_enter Try.func31, Try.ntmps31
      go_wp2_with fail
      go_ret2
      exact ⟨rfl, rfl⟩
    · by_cases h3 : m < 1
      · go_enter Try.func31, Try.ntmps31
        go_wp2_with fail
        go_ret2
        exact ⟨rfl, rfl⟩
      · have h4 : 8 < m := by omega
        go_enter Try.func31, Try.ntmps31
        go_wp2_with fail
        go_ret2
        exact ⟨rfl, rfl⟩
set_option maxRecDepth 100000 in
set_option maxHeartbeats 1000000 in
theorem New_good (n : Int) (M : Nat) (h0 : 0 ≤ n) (h1 : n ≤ 65536) (h2 : 1 ≤ (M : Int)) (h3 : (M : Int) ≤ 8) :
    Calls Try.prog 31 #[.int .i64 n, .int .i64 (M : Int)] w fun e w' => ∃ b b1 b2, e = .returned (.tuple #[.pointer (some ⟨b, 0, none⟩), .int .i64 0]) ∧
      At w' b b1 b2 (St.new n.toNat M) ∧ Calm w w' ∧ w.heap.size ≤ b ∧ w.heap.size ≤ b1 ∧ w.heap.size ≤ b2 := by
  have hm1 := make_links n h0 h1
  have hm2 := make_lists (M : Int) (by omega) h3
  simp only [Int.toNat_natCast] at hm2
  go_enter Try.func31, Try.ntmps31
  go_upto_region 3 with fail
  go_cut [6] (fun c wa => ∃ b b1 b2, c = .pointer (some ⟨b, 0, none⟩) ∧ At wa b b1 b2 ⟨List.replicate n.toNat link0, List.replicate M ends0⟩ ∧ Calm w wa ∧ w.heap.size ≤ b ∧ w.heap.size ≤ b1 ∧ w.heap.size ≤ b2)
  case first =>
    go_region
    all_goals go_wp2_with fail
    all_goals go_meet
    · refine ⟨_, w.heap.size, w.heap.size + 1, rfl, ?_, ?_, by omega, by omega, by omega⟩
      · exact At.of_heap (made_at (((Blk.new _ _ _).alloc _).alloc _) ((Blk.new' (by simp) _ _).alloc _) (Blk.new' (by simp) _ _) (by omega) (by omega) (by omega) h1 h3) rfl
      · refine Kept.drew (Kept.alloc (Kept.alloc (Kept.alloc (Kept.refl _ _) _) _) _)
    · refine ⟨_, w.heap.size + 1, w.heap.size, rfl, ?_, ?_, by omega, by omega, by omega⟩
      · exact At.of_heap (made_at ((Blk.new' (by simp) _ _).alloc _) (((Blk.new _ _ _).alloc _).alloc _) (Blk.new' (by simp) _ _) (by omega) (by omega) (by omega) h1 h3) rfl
      · refine Kept.drew (Kept.alloc (Kept.alloc (Kept.alloc (Kept.refl _ _) _) _) _)
  case rest =>
    obtain ⟨b, b1, b2, rfl, ha, hka, z0, z1, z2⟩ := hcut
    clear hm1 hm2
    have g1 := ha.c1
    simp only [List.length_replicate] at g1
    go_wp2_with fail
    go_loopw [33] (fun i wr => ∃ k : Nat, k ≤ M ∧ i = .int .i64 (k : Int) ∧ At wr b b1 b2 ⟨List.replicate n.toNat link0, List.replicate k endsN ++ List.replicate (M - k) ends0⟩ ∧ Calm w wr) (fun i _ => M - (intOf i).toNat)
    case atStart => exact ⟨0, Nat.zero_le _, rfl, by simpa using ha, hka⟩
    case round =>
      obtain ⟨k, hk, rfl, hr, hkr⟩ := hrel
      clear g1 ha
      have gl : (List.replicate k endsN ++ List.replicate (M - k) ends0).length = M := by simp; omega
      have g1 := hr.c1
      simp only [gl] at g1
      by_cases hlt : k < M
      · have hk1 : (k : Int) < (List.replicate k endsN ++ List.replicate (M - k) ends0).length := by rw [gl]; omega
        have g2 := hr.e0' (i := (k : Int)) (by omega) hk1
        have g3 := hr.e1' (i := (k : Int)) (by omega) hk1
        have g4 := hr.e2' (i := (k : Int)) (by omega) hk1
        have g5 := fun o => hr.lists.frozen o
        rw [Int.toNat_natCast] at g2 g3 g4
        have hM : (M : Int) ≤ 8 := h3
        clear gl
        go_wp2_with fail
        go_roundw
        case rel =>
          refine ⟨k + 1, by omega, by go_num, ?_, ?_⟩
          · rw [← fill_step _ _ _ hlt]
            have L (s' : St) (v i : Int) : (s'.setFirst i v).lists.length = s'.lists.length ∧ (s'.setLast i v).lists.length = s'.lists.length := ⟨(set_lists_length s' i v).2.2.2.1, (set_lists_length s' i v).2.2.2.2.1⟩
            exact ((hr.setFirst (i := (k : Int)) (by omega) hk1 (-1)).setLast (i := (k : Int)) (by omega) (by rw [(L _ _ _).1]; exact hk1) (-1)).setMany (i := (k : Int)) (by omega) (by rw [(L _ _ _).2, (L _ _ _).1]; exact hk1) 0
          · refine Kept.setCell ?_ (fun h => absurd h (by simp; omega)) _
            refine Kept.setCell ?_ (fun h => absurd h (by simp; omega)) _
            refine Kept.setCell ?_ (fun h => absurd h (by simp; omega)) _
            exact hkr
        case measure => simp [intOf]; omega
      · obtain rfl : k = M := by omega
        clear g1
        go_wp2_with fail
        go_ret2
        refine ⟨b, b1, b2, rfl, ?_, hkr, z0, z1, z2⟩
        simpa [St.new] using hr

theorem New_calls (n m : Int) (h0 : 0 ≤ n) (h1 : n ≤ 65536) (h2 : 1 ≤ m) (h3 : m ≤ 8) :
    Calls Try.prog 31 #[.int .i64 n, .int .i64 m] w fun e w' => ∃ b b1 b2, e = .returned (.tuple #[.pointer (some ⟨b, 0, none⟩), .int .i64 0]) ∧
      At w' b b1 b2 (St.new n.toNat m.toNat) ∧ Calm w w' ∧ w.heap.size ≤ b ∧ w.heap.size ≤ b1 ∧ w.heap.size ≤ b2 := by
  obtain ⟨M, rfl⟩ : ∃ M : Nat, m = (M : Int) := ⟨m.toNat, by omega⟩
  exact New_good w n M h0 h1 h2 h3
end
end Chain
end Go.Proofs.Ytekbgpfpnjddgaa
namespace Go.Proofs.Ytekbgpfpnjddgaa
open Go.RowKit Go.Shelf
attribute [local go_sem] Oper.semAt_some
namespace Chain

def nth (xs : List Int) (i : Nat) : Int × Bool := if i < xs.length then (xs.getD i 0, true) else (0, false)
theorem nth_lt {xs : List Int} {i : Nat} (h : i < xs.length) : nth xs i = (xs.getD i 0, true) := if_pos h
theorem nth_ge {xs : List Int} {i : Nat} (h : xs.length ≤ i) : nth xs i = (0, false) := if_neg (by omega)

def leftOf (xs : List Int) (a b : Value) : Nat := match b with | .bool true => xs.length - xs.idxOf (intOf a) | _ => 0
theorem leftOf_true (xs : List Int) (x : Int) : leftOf xs (.int .i32 x) (.bool true) = xs.length - xs.idxOf x := rfl
theorem leftOf_false (xs : List Int) (a : Value) : leftOf xs a (.bool false) = 0 := rfl
theorem idxOf_nth {xs : List Int} (hnd : xs.Nodup) {k : Nat} (hk : k < xs.length) : xs.idxOf (xs.getD k 0) = k := by
  rw [List.getD_eq_getElem?_getD, List.getElem?_eq_getElem hk]
  exact hnd.idxOf_getElem k hk
theorem leftOf_less {xs : List Int} (hnd : xs.Nodup) {k : Nat} (hk : k < xs.length) : leftOf xs (.int .i32 (nth xs (k + 1)).1) (.bool (nth xs (k + 1)).2) < leftOf xs (.int .i32 (xs.getD k 0)) (.bool true) := by
  rw [leftOf_true, idxOf_nth hnd hk]
  by_cases h : k + 1 < xs.length
  · rw [nth_lt h, leftOf_true, idxOf_nth hnd h]; omega
  · rw [nth_ge (by omega), leftOf_false]; omega
theorem take_snoc' {xs : List Int} {k : Nat} (hk : k < xs.length) : xs.take k ++ [xs.getD k 0] = xs.take (k + 1) := by
  rw [List.take_succ_eq_append_getElem hk, List.getD_eq_getElem?_getD, List.getElem?_eq_getElem hk]; rfl

/-- What the two functions in the boxes p1 and p2 tell, as long as R holds. -/
structure Leads (R : World → Prop) (p1 p2 : Nat) (ff fo : Nat) (fa fc oa oc : Array Value) (xs : List Int) : Prop where
  box1 : ∀ W, R W → W.cell? ⟨p1, 0, none⟩ = some (.func (.func ff) fa fc)
  box2 : ∀ W, R W → W.cell? ⟨p2, 0, none⟩ = some (.func (.func fo) oa oc)
  from_ : ∀ W, R W → Calls Try.prog ff (fa ++ fc) W fun e w' => e = .returned (.tuple #[.int .i32 (nth xs 0).1, .bool (nth xs 0).2]) ∧ W = w'
  on_ : ∀ W i, R W → i < xs.length → Calls Try.prog fo (oa ++ #[.int .i32 (xs.getD i 0)] ++ oc) W fun e w' => e = .returned (.tuple #[.int .i32 (nth xs (i + 1)).1, .bool (nth xs (i + 1)).2]) ∧ W = w'
  enters1 : ∀ args w, (callFunc ff args).run Try.prog w = .ok (.enter ff args) w
  enters2 : ∀ args w, (callFunc fo args).run Try.prog w = .ok (.enter fo args) w

set_option maxRecDepth 100000 in
set_option maxHeartbeats 1000000 in
theorem steps_in (n : Nat) (hn : 1 ≤ n) (R : World → Prop) (p1 p2 ff fo : Nat) (fa fc oa oc : Array Value) (xs : List Int) (hnd : xs.Nodup) (hL : Leads R p1 p2 ff fo fa fc oa oc xs)
    (Bs : List Nat) (Kp : World → World → Prop) (hKR : ∀ W W', R W → Kp W W' → R W') (l : Nat) (J Jx : List Int → World → Prop) (N0 : Nat)
    (hY : ∀ pre x W1, J pre W1 → pre.length < xs.length → N0 ≤ W1.heap.size → (pre ++ [x]) <+: xs → YieldAt Fence.wide (n - 1) Try.prog l #[.int .i32 x] W1 fun e W' =>
      (e = .returned (.bool true) ∧ J (pre ++ [x]) W' ∧ Yours Bs N0 W1 W' ∧ Kp W1 W') ∨ (e = .returned (.bool false) ∧ Jx (pre ++ [x]) W' ∧ Yours Bs N0 W1 W'))
    (W : World) (hR : R W) (hW : N0 ≤ W.heap.size) (h0 : J [] W) :
    CallsIn Fence.wide n Try.prog 91 #[.func (.yield l) #[] #[], .pointer (some ⟨p1, 0, none⟩), .pointer (some ⟨p2, 0, none⟩)] W fun e W' => (∃ v, e = .returned v) ∧ ((∃ ys, ys = xs ∧ J ys W') ∨ (∃ pre, pre <+: xs ∧ Jx pre W')) := by
  have hb1 := hL.box1 W hR
  have hb2 := hL.box2 W hR
  have hE1 := hL.enters1
  refine callsIn_of_wp Try.func91 rfl trivial ?_ rfl
  simp only [Try.ntmps91, List.size_toArray, List.length_cons, List.length_nil, Nat.reduceAdd, Nat.reduceSub, Array.replicate_succ, Array.replicate_zero, List.push_toArray, List.append_toArray, List.nil_append, List.cons_append]
  have hf := hL.from_ W hR
  have Hf := Lib.hid hf
  clear hf
  gi_wp2_with fail
  refine ⟨trivial, (callsIn_wide.2 Hf.out).mono ?_⟩
  rintro e w' ⟨rfl, rfl⟩
  gi_wp2_with fail
  clear hb1 hb2
  gi_loopw [4, 5] (fun a b wr => ∃ k x t, nth xs k = (x, t) ∧ a = .int .i32 x ∧ b = .bool t ∧ k ≤ xs.length ∧ R wr ∧ J (xs.take k) wr ∧ N0 ≤ wr.heap.size)
    (fun a b _ => leftOf xs a b)
  case atStart => exact ⟨0, _, _, rfl, rfl, rfl, Nat.zero_le _, hR, h0, hW⟩
  case round =>
    obtain ⟨k, x, t, hxt, rfl, rfl, hk, hRr, hJ, hN⟩ := hrel
    by_cases hlt : k < xs.length
    · have hb2 := hL.box2 wr hRr
      have hE2 := hL.enters2
      obtain ⟨fn, tmps, assign, body, hy, hYr⟩ := hY (xs.take k) (xs.getD k 0) wr hJ (by simp; omega) hN (by rw [take_snoc' hlt]; exact List.take_prefix _ _)
      rw [nth_lt hlt] at hxt
      obtain ⟨rfl, rfl⟩ := Prod.mk.inj hxt
      clear hxt
      generalize hx : xs.getD k 0 = x at hy hYr ⊢
      have Hx := Lib.hid hx
      clear hx
      have HY := Lib.hid hYr
      clear hYr
      gi_wp2_with fail
      refine HY.out.mono ?_
      rintro e W' (⟨rfl, hJ', hy', hk'⟩ | ⟨rfl, hJx', _⟩)
      · have hR' := hKR wr W' hRr hk'
        have hb3 := hL.box2 W' hR'
        have hon := hL.on_ W' k hR' hlt
        rw [Hx.out] at hon
        have Hon := Lib.hid hon
        clear hon hb2
        gi_wp2_with fail
        refine ⟨trivial, (callsIn_wide.2 Hon.out).mono ?_⟩
        rintro e w2 ⟨rfl, rfl⟩
        gi_wp2_with fail
        go_roundw
        case rel => exact ⟨k + 1, _, _, rfl, rfl, rfl, by omega, hR', by rw [← take_snoc' hlt, Hx.out]; exact hJ', Nat.le_trans hN hy'.size⟩
        case measure => rw [← Hx.out]; exact leftOf_less hnd hlt
      · gi_wp2_with fail
        go_end0
        exact ⟨⟨_, rfl⟩, .inr ⟨_, ⟨xs.drop (k + 1), by rw [← Hx.out, take_snoc' hlt, List.take_append_drop]⟩, hJx'⟩⟩
    · rw [nth_ge (by omega)] at hxt
      obtain ⟨rfl, rfl⟩ := Prod.mk.inj hxt
      clear hxt
      gi_wp2_with fail
      refine ⟨fun _ h => (by cases h), ?_⟩
      gi_wp2_with fail
      go_end0
      exact ⟨⟨_, rfl⟩, .inl ⟨_, List.take_of_length_le (by omega), hJ⟩⟩
end Chain
end Go.Proofs.Ytekbgpfpnjddgaa
namespace Go.Proofs.Ytekbgpfpnjddgaa
open Go.RowKit Go.Shelf
attribute [local go_sem] Oper.semAt_some
namespace Chain

theorem info21 : (Try.prog.info? 21).map (fun i => (i.zero, i.size, i.bytes)) = some (some (.int .i32 0), 1, 4) := by kernel_rfl

set_option maxHeartbeats 400000 in
theorem steps_calls (ff fo : Fn) (fa fc oa oc : Array Value) (w : World) :
    Calls Try.prog 82 #[.func ff fa fc, .func fo oa oc] w fun e w' => e = .returned (.func (.func 91) #[] #[.pointer (some ⟨w.heap.size, 0, none⟩), .pointer (some ⟨w.heap.size + 1, 0, none⟩)]) ∧ w' = (w.alloc (.cells #[.func ff fa fc] 122)).alloc (.cells #[.func fo oa oc] 123) := by
  go_enter Try.func82, Try.ntmps82
  go_wp2_with fail
  go_ret
  exact ⟨rfl, rfl⟩

/-- What the range over steps keeps: all but the box of 'all', and what is new. -/
def But (p : Nat) (k : Nat) : Prop := k = p ∨ p + 3 ≤ k

set_option maxRecDepth 100000 in
set_option maxHeartbeats 1000000 in
theorem walk_iter (n : Nat) (hn : 3 ≤ n) (R : World → Prop) (p1 p2 ff fo : Nat) (fa fc oa oc : Array Value) (xs : List Int) (hnd : xs.Nodup) (hlen : xs.length ≤ 65536) (hL : Leads R p1 p2 ff fo fa fc oa oc xs)
    (Bs : List Nat) (w : World) (hRb : ∀ W, Below w.heap.size w W → R W) :
    Iter Fence.wide n Try.prog 81 #[.pointer (some ⟨p1, 0, none⟩), .pointer (some ⟨p2, 0, none⟩)] (fun x : Int => #[Value.int .i32 x]) (fun _ _ => True) (fun ys => ys = xs) (fun pre => pre <+: xs) xs.length Bs w := by
  intro l J Jx W hW hBs hsn hJ hJx hY h0
  have h1 : 1 ≤ n := by omega
  have hRall : ∀ W', Below W.heap.size W W' → R W' := fun W' h => hRb W' (hW.trans (h.mono hW.size))
  have HR := Lib.hid hRall
  have hb1 := hL.box1 _ (hRall _ ((Below.refl _ W).alloc (Nat.le_refl _) (.cells #[.slice none 0 0] 152)))
  have hb2 := hL.box2 _ (hRall _ ((Below.refl _ W).alloc (Nat.le_refl _) (.cells #[.slice none 0 0] 152)))
  obtain ⟨i0, hi, hz0, hz1, hz2⟩ := info_parts info21
  have HI := Lib.hid hi; have HZ0 := Lib.hid hz0; have HZ1 := Lib.hid hz1; have HZ2 := Lib.hid hz2
  clear hi hz0 hz1 hz2 hRall
  refine callsIn_of_wp_marks Try.func81 rfl trivial ?_ rfl
  simp only [Try.ntmps81, List.size_toArray, List.length_cons, List.length_nil, Nat.reduceAdd, Nat.reduceSub, Array.replicate_succ, Array.replicate_zero, List.push_toArray, List.append_toArray, List.nil_append, List.cons_append]
  gi_wp2_with (refine ⟨trivial, ?_⟩; gi_at_call 82; refine (callsIn_wide.2 (steps_calls _ _ _ _ _ _ _)).mono ?_; rintro e w' ⟨rfl, rfl⟩)
  obtain ⟨Wb, hWb⟩ : ∃ Wb, ((W.alloc (.cells #[.slice none 0 0] 152)).alloc (.cells #[.func (.func ff) fa fc] 122)).alloc (.cells #[.func (.func fo) oa oc] 123) = Wb := ⟨_, rfl⟩
  have hWbS : Wb.heap.size = W.heap.size + 3 := by rw [← hWb]; simp
  have hWbB : Below W.heap.size W Wb := by rw [← hWb]; exact (((Below.refl _ W).alloc (Nat.le_refl _) _).alloc (by simp) _).alloc (by simp; omega) _
  have hbox : Boxed Wb W.heap.size 152 (.slice none 0 0) := by rw [← hWb]; exact ((Boxed.new W _ _).alloc _).alloc _
  have hq1 : Boxed Wb (W.heap.size + 1) 122 (.func (.func ff) fa fc) := by
    rw [← hWb]
    have := Boxed.new (W.alloc (.cells #[.slice none 0 0] 152)) 122 (.func (.func ff) fa fc)
    rw [World.size_alloc] at this
    exact this.alloc _
  have hq2 : Boxed Wb (W.heap.size + 2) 123 (.func (.func fo) oa oc) := by
    rw [← hWb]
    have := Boxed.new ((W.alloc (.cells #[.slice none 0 0] 152)).alloc (.cells #[.func (.func ff) fa fc] 122)) 123 (.func (.func fo) oa oc)
    rw [World.size_alloc, World.size_alloc] at this
    exact this
  rw [hWb]
  clear hWb hb1 hb2
  have hq2' : Boxed Wb (W.heap.size + 1 + 1) 123 (.func (.func fo) oa oc) := hq2
  -- what the inner range keeps
  have hRin : ∀ A, Kept (But W.heap.size) Wb A → R A := fun A hA => HR.out A ⟨hA.os.trans hWbB.os, hA.tape.trans hWbB.tape, hA.output.trans hWbB.output, Nat.le_trans hWbB.size hA.size, fun k hk =>
    (hA.block k (by omega) (by unfold But; omega)).trans (hWbB.block k hk)⟩
  have hLin : Leads (fun A => Kept (But W.heap.size) Wb A) (W.heap.size + 1) (W.heap.size + 1 + 1) ff fo fa fc oa oc xs :=
    { box1 := fun A hA => (World.cell?_of_block (hA.block (W.heap.size + 1) (by omega) (by unfold But; omega))).trans hq1.cell
      box2 := fun A hA => (World.cell?_of_block (hA.block (W.heap.size + 1 + 1) (by omega) (by unfold But; omega))).trans hq2'.cell
      from_ := fun A hA => hL.from_ A (hRin A hA)
      on_ := fun A i hA hi => hL.on_ A i (hRin A hA) hi
      enters1 := hL.enters1
      enters2 := hL.enters2 }
  have hin : Iter Fence.wide (n - 1) Try.prog 91 #[.pointer (some ⟨W.heap.size + 1, 0, none⟩), .pointer (some ⟨W.heap.size + 1 + 1, 0, none⟩)] (fun x : Int => #[Value.int .i32 x]) (fun A B => Kept (But W.heap.size) A B) (fun ys => ys = xs) (fun pre => pre <+: xs) xs.length [W.heap.size] Wb :=
    fun l' J' Jx' A hA _ _ _ _ hY' h0' => steps_in (n - 1) (by omega) _ _ _ ff fo fa fc oa oc xs hnd hLin [W.heap.size] _ (fun X Y hX hXY => hX.trans hXY) l' J' Jx' A.heap.size hY' A
      (Kept.of_below hA _) (Nat.le_refl _) h0'
  refine rangeFunc_law rfl h1 (gf := 91) (lb := #[.pointer (some ⟨W.heap.size + 1, 0, none⟩), .pointer (some ⟨W.heap.size + 1 + 1, 0, none⟩)]) rfl trivial (enters_of Try.func91 (by kernel_rfl) rfl)
    hin (fun h k => h.trans k) ?kb (Below.refl _ _) (by simp; omega) ?snug (fun _ => rfl)
    (fun pre A => (∃ v, Boxed A W.heap.size 152 v ∧ A.ownsRow (W.heap.size + 3) 21 1 v pre.length (pre.map (Value.int .i32)) ∧ True) ∧ (Below W.heap.size W A ∧ W.heap.size + 3 ≤ A.heap.size))
    (fun _ _ _ => False)
    ?abI (fun _ _ _ _ h _ => h) ⟨⟨_, hbox, World.ownsRow_nil _ _ _ _, trivial⟩, hWbB, by omega⟩
    (fun x a' _ => a' = { tmps := #[Value.func (Fn.yield l) #[] #[], Value.pointer (some ⟨p1, 0, none⟩), Value.pointer (some ⟨p2, 0, none⟩), undef, Value.pointer (some ⟨W.heap.size, 0, none⟩), .int .i32 x, undef, undef, Value.func (Fn.func ff) fa fc,
          Value.func (Fn.func fo) oa oc, Value.func (Fn.func 91) #[] #[Value.pointer (some ⟨W.heap.size + 1, 0, none⟩), Value.pointer (some ⟨W.heap.size + 1 + 1, 0, none⟩)],
          .int .i32 x, undef, undef, undef, undef, undef, undef, undef, undef, undef, undef, undef, undef, undef, undef, undef], defers := [] })
    (fun _ _ _ _ _ h _ => h) ?assign ?body ?done ?stop
  case kb =>
    intro A l' o o' hl ho _ _
    exact ⟨rfl, rfl, rfl, by simp, fun k hk hF => World.putObj_heap_other (fun e => hF (by unfold But; omega))⟩
  case snug =>
    intro B hB o v g hc hv
    obtain rfl : B = W.heap.size := by simpa using hB
    exfalso
    cases o with
    | zero => rw [hbox.cell] at hc; cases hc; cases hv
    | succ o =>
      unfold World.cell? at hc
      rw [show Wb.heap[W.heap.size]? = _ from hbox] at hc
      simp at hc
  case abI => exact (abiding_holds _ _ _ _ _ _ _ _ (by simp) (by omega)).and ((abiding_below (by omega) (Nat.le_refl _)).and abiding_size)
  case assign =>
    intro l' pre x A K hI hs hK
    gi_wp2
    exact hK _ _ (Yours.refl _ _ _) (Kept.refl _ _) hI rfl
  case body =>
    rintro l' pre x a' A hl' hrec ⟨⟨v, hv, hrow, _⟩, hB, hS⟩ rfl hlt _
    have hc := hv.cell
    have hf := hv.frozen
    have hlen' : pre.length + 1 ≤ 65536 := by omega
    have Hlt := Lib.hid hlt
    clear hlt hrec hl' hlen
    gi_wp2_with (gi_at_builtin; refine wpListIn_append_own_at _ rfl _ _ 152 rfl (W.heap.size + 3) 21 i0 (.int .i32 0) 1 4 Try.underlying152 HI.out HZ0.out HZ1.out HZ2.out rfl (by decide) _ _ _ rfl (hrow.alloc _) ⟨A.heap.size, 0, none⟩ 1 1 [.int .i32 x] rfl rfl (cell_one_new _ _ _) (by simp [Value.oneCell']) (by unfold maxLen; omega) (by omega) (by simp; omega) ?_; intro v' w1 hown' hgrow _ hat; obtain ⟨g', cap', rfl⟩ := ownsRow_succ hown'; obtain ⟨hv1, hv2, hr2, hb2⟩ := boxed_appended (n := W.heap.size) hv (by decide) hrow (by omega) (by omega) (by omega) hown' hgrow; have hc1 := hv1.cell; have hf1 := hv1.frozen)
    refine ⟨?_, ?_, ⟨_, hv2, by rw [List.length_append, List.map_append]; exact hr2, trivial⟩, hB.trans hb2, by have := hb2.size; omega⟩
    · exact Yours.appended hv (by decide) hrow (by simp) (by omega) hown' hgrow hat (by simp only [List.mem_singleton]; rintro B' rfl; exact ⟨by omega, by omega, hv.not_row (by decide) hrow⟩)
    · exact Kept.appended hrow hgrow (.inl rfl) (fun j hj => .inr hj)
  case done =>
    rintro D ys A hD rfl ⟨⟨v, hv, hrow, _⟩, hB, hS⟩ hK
    have hJ0 : J [] A := hJ _ _ _ h0 (mine_of_below hB (Nat.le_refl _))
    have hno : ∀ g, W.heap.size ≤ g → ¬ Own Bs A g := by
      rintro g hg ⟨⟨B, hb, o, u, hc, hu⟩, _⟩
      have hBW := hBs B hb
      rw [hB.cell (p := ⟨B, o, none⟩) hBW] at hc
      have := hsn B hb o u g hc hu
      omega
    have hc := hv.cell
    have hlen2 : (ys.length : Int) ≤ 65536 := by omega
    have hDo : ∀ X, X.heap[D]? = some (.deferred (some [])) → ¬ Own Bs X D := fun X h => not_own h rfl
    rcases hrow.2 with ⟨rfl, h2⟩ | ⟨g, cap, cur, rfl, hbg, hgb, hnc, hcm, hcs, htake⟩
    · obtain rfl : ys = [] := List.eq_nil_of_length_eq_zero h2
      clear hrow
      gi_wp2_with fail
      gi_loopw [18] (fun i wr => i = .int .i64 0 ∧ wr = A) (fun _ _ => 0)
      case atStart => exact ⟨rfl, rfl⟩
      case round =>
        obtain ⟨rfl, rfl⟩ := hrel
        gi_wp2_with fail
        refine ⟨by simp, .inl ⟨_, _, rfl, run_takeDeferred hK, ?_⟩⟩
        exact ⟨_, results_none rfl _ _ _, ⟨_, rfl⟩, .inl ⟨_, rfl, hJ _ _ _ hJ0 (Mine.putObj _ hK rfl (by omega))⟩⟩
    · have hcells : ∀ k : Nat, k < ys.length → cur[k]? = some (.int .i32 (ys.getD k 0)) := fun k hk => by
        rw [← Array.getElem?_toList, ← List.getElem?_take_of_lt (j := ys.length * 1) (by omega), htake, List.getElem?_map, List.getElem?_eq_getElem hk, List.getD_eq_getElem?_getD, List.getElem?_eq_getElem hk]
        rfl
      have HC := Lib.hid hcells
      have HB := Lib.hid hBs
      clear hrow hcells htake
      have hg0 := hno g (by omega)
      gi_wp2_with fail
      gi_loopw [18] (fun i wr => ∃ k : Nat, k ≤ ys.length ∧ i = .int .i64 (k : Int) ∧ J (ys.take k) wr ∧ wr.heap[g]? = some (.cells cur 21 (0, 0)) ∧ ¬ Own Bs wr g ∧ W.heap.size ≤ wr.heap.size ∧ wr.heap[D]? = some (.deferred (some [])))
        (fun i _ => ys.length - (intOf i).toNat)
      case atStart => exact ⟨0, Nat.zero_le _, rfl, hJ0, hgb, hg0, by omega, hK⟩
      case round =>
        obtain ⟨k, hk, rfl, hJk, hgk, hok, hsk, hDk⟩ := hrel
        by_cases hlt : k < ys.length
        · have hcell : wr.cell? ⟨g, k, none⟩ = some (.int .i32 (ys.getD k 0)) := by
            simp only [World.cell?, hgk]
            exact HC.out k hlt
          obtain ⟨fn, tmps, assign, body, hy, hYr⟩ := hY (ys.take k) (ys.getD k 0) wr hJk (by simp; omega) hsk (by rw [take_snoc' hlt]; exact List.take_prefix _ _)
          have HY := Lib.hid hYr
          have Htk := Lib.hid (take_snoc' hlt)
          clear hYr
          generalize ys.getD k 0 = x at hcell hy HY Htk
          gi_wp2_with fail
          refine HY.out.mono ?_
          rintro e W' (⟨rfl, hJ', hy', _⟩ | ⟨rfl, hJx', hy'⟩)
          · gi_wp2_with fail
            go_roundw
            case rel =>
              have hglt := (Array.getElem?_eq_some_iff.1 hgk).1
              refine ⟨k + 1, by omega, by go_num, by rw [← Htk.out]; exact hJ', (hy'.kept g (by omega) hglt hok).trans hgk, fun h => ?_, Nat.le_trans hsk hy'.size, (hy'.kept D (by omega) (Array.getElem?_eq_some_iff.1 hDk).1 (hDo _ hDk)).trans hDk⟩
              rcases hy'.own g h with h | h | h
              · exact hok h
              · omega
              · omega
            case measure => simp [intOf]; omega
          · have hDk' := (hy'.kept D (by omega) (Array.getElem?_eq_some_iff.1 hDk).1 (hDo _ hDk)).trans hDk
            gi_wp2_with fail
            refine ⟨by simp, .inl ⟨_, _, rfl, run_takeDeferred hDk', ?_⟩⟩
            exact ⟨_, results_none rfl _ _ _, ⟨_, rfl⟩, .inr ⟨_, ⟨ys.drop (k + 1), by rw [Htk.out, List.take_append_drop]⟩, hJx _ _ _ hJx' (Mine.putObj _ hDk' rfl (by omega))⟩⟩
        · obtain rfl : k = ys.length := by omega
          gi_wp2_with fail
          refine ⟨by simp, .inl ⟨_, _, rfl, run_takeDeferred hDk, ?_⟩⟩
          exact ⟨_, results_none rfl _ _ _, ⟨_, rfl⟩, .inl ⟨_, rfl, hJ _ _ _ (by rw [List.take_length] at hJk; exact hJk) (Mine.putObj _ hDk rfl (by omega))⟩⟩
  case stop =>
    rintro D c pre A _ _ h _
    exact h.elim
end Chain
end Go.Proofs.Ytekbgpfpnjddgaa
namespace Go.Proofs.Ytekbgpfpnjddgaa
open Go.RowKit Go.Shelf
attribute [local go_sem] Oper.semAt_some
namespace Chain

set_option maxHeartbeats 400000 in
theorem walk_calls (c : Value) (ff fo : Fn) (fa fc oa oc : Array Value) (w : World) :
    Calls Try.prog 57 #[c, .func ff fa fc, .func fo oa oc] w fun e w' => e = .returned (.func (.func 81) #[] #[.pointer (some ⟨w.heap.size, 0, none⟩), .pointer (some ⟨w.heap.size + 1, 0, none⟩)]) ∧ w' = (w.alloc (.cells #[.func ff fa fc] 122)).alloc (.cells #[.func fo oa oc] 123) := by
  go_enter Try.func57, Try.ntmps57
  go_wp2_with fail
  go_ret
  exact ⟨rfl, rfl⟩

/-- A way that begins at first and goes on by next. -/
structure Way (first : Int × Bool) (next : Int → Int × Bool) (xs : List Int) : Prop where
  start : first = nth xs 0
  go : ∀ k, k < xs.length → next (xs.getD k 0) = nth xs (k + 1)
  nodup : xs.Nodup
  small : xs.length ≤ 65536
  node : ∀ x ∈ xs, x < 2147483648
theorem getD_mem {xs : List Int} {k : Nat} (h : k < xs.length) : xs.getD k 0 ∈ xs := by
  rw [List.getD_eq_getElem?_getD, List.getElem?_eq_getElem h]; exact List.getElem_mem h
theorem Way.nil {next : Int → Int × Bool} : Way (0, false) next [] := ⟨rfl, fun _ h => absurd h (Nat.not_lt_zero _), List.nodup_nil, Nat.zero_le _, fun _ h => absurd h List.not_mem_nil⟩

/-- The four blocks that All lays. -/
def world4 (w : World) (c : Option Addr) (i : Int) (fn1 fn2 : Nat) : World :=
  (((w.alloc (.cells #[.pointer c] 70)).alloc (.cells #[.int .i64 i] 3)).alloc (.cells #[.func (.func fn1) #[] #[.pointer (some ⟨w.heap.size, 0, none⟩), .pointer (some ⟨w.heap.size + 1, 0, none⟩)]] 122)).alloc (.cells #[.func (.func fn2) #[.pointer c] #[]] 123)
theorem world4_size (w : World) (c : Option Addr) (i : Int) (fn1 fn2 : Nat) : (world4 w c i fn1 fn2).heap.size = w.heap.size + 4 := by simp [world4]
theorem world4_calm (w : World) (c : Option Addr) (i : Int) (fn1 fn2 : Nat) : Calm w (world4 w c i fn1 fn2) := (((Kept.refl _ _).alloc _).alloc _).alloc _ |>.alloc _
theorem world4_boxes (w : World) (c : Option Addr) (i : Int) (fn1 fn2 : Nat) :
    Blk (world4 w c i fn1 fn2) w.heap.size #[.pointer c] ∧ Blk (world4 w c i fn1 fn2) (w.heap.size + 1) #[.int .i64 i] ∧
    Blk (world4 w c i fn1 fn2) (w.heap.size + 2) #[.func (.func fn1) #[] #[.pointer (some ⟨w.heap.size, 0, none⟩), .pointer (some ⟨w.heap.size + 1, 0, none⟩)]] ∧
    Blk (world4 w c i fn1 fn2) (w.heap.size + 3) #[.func (.func fn2) #[.pointer c] #[]] := by
  refine ⟨(((Blk.new w _ _).alloc _).alloc _).alloc _, ((Blk.new' (by simp) _ _).alloc _).alloc _, (Blk.new' (by simp) _ _).alloc _, Blk.new' (by simp) _ _⟩

section
variable (w : World)
set_option maxHeartbeats 400000 in
theorem All_calls (c : Option Addr) (i : Int) :
    Calls Try.prog 32 #[.pointer c, .int .i64 i] w fun e w' => e = .returned (.func (.func 81) #[] #[.pointer (some ⟨w.heap.size + 2, 0, none⟩), .pointer (some ⟨w.heap.size + 3, 0, none⟩)]) ∧
      w' = world4 w c i 58 60 := by
  unfold world4
  go_enter Try.func32, Try.ntmps32
  go_wp2_with (go_at_call 57; refine (walk_calls _ _ _ _ _ _ _ _).mono ?_; rintro e w' ⟨rfl, rfl⟩)
  go_ret
  exact ⟨rfl, rfl⟩

set_option maxHeartbeats 400000 in
/-- The first function: the list's First node. -/
theorem All1_calls (c : Option Addr) (i : Int) (p q : Nat) (r : Int × Bool) (hp : w.cell? ⟨p, 0, none⟩ = some (.pointer c)) (hq : w.cell? ⟨q, 0, none⟩ = some (.int .i64 i))
    (hf : Calls Try.prog 59 #[.pointer c, .int .i64 i] w fun e w' => e = .returned (.tuple #[.int .i32 r.1, .bool r.2]) ∧ w = w') :
    Calls Try.prog 58 #[.pointer (some ⟨p, 0, none⟩), .pointer (some ⟨q, 0, none⟩)] w fun e w' => e = .returned (.tuple #[.int .i32 r.1, .bool r.2]) ∧ w = w' := by
  have Hf := Lib.hid hf
  clear hf
  go_enter Try.func58, Try.ntmps58
  go_wp2_with (go_at_call 59; refine Hf.out.mono ?_; rintro e w' ⟨rfl, rfl⟩)
  go_ret2
  exact ⟨rfl, rfl⟩

/-- The value of All yields the list's nodes, as they stand where the range over it begins. -/
theorem All_iter (n : Nat) (hn : 3 ≤ n) (Bs : List Nat) (b b1 b2 : Nat) (s : St) (i : Int) (xs : List Int) (hs : At w b b1 b2 s) (hw : Way (s.first i) s.next xs) (w0 : World)
    (h0 : Calm (world4 w (some ⟨b, 0, none⟩) i 58 60) w0) :
    Iter Fence.wide n Try.prog 81 #[.pointer (some ⟨w.heap.size + 2, 0, none⟩), .pointer (some ⟨w.heap.size + 3, 0, none⟩)] (fun x : Int => #[Value.int .i32 x]) (fun _ _ => True) (fun ys => ys = xs) (fun pre => pre <+: xs) xs.length Bs w0 := by
  obtain ⟨k1, k2, k3, k4⟩ := world4_boxes w (some ⟨b, 0, none⟩) i 58 60
  have hs4 := hs.calm ((world4_calm w (some ⟨b, 0, none⟩) i 58 60).trans h0)
  refine walk_iter n hn (fun W => At W b b1 b2 s ∧ Blk W w.heap.size #[.pointer (some ⟨b, 0, none⟩)] ∧ Blk W (w.heap.size + 1) #[.int .i64 i] ∧
      Blk W (w.heap.size + 2) #[.func (.func 58) #[] #[.pointer (some ⟨w.heap.size, 0, none⟩), .pointer (some ⟨w.heap.size + 1, 0, none⟩)]] ∧ Blk W (w.heap.size + 3) #[.func (.func 60) #[.pointer (some ⟨b, 0, none⟩)] #[]])
    _ _ _ _ _ _ _ _ xs hw.nodup hw.small
    { box1 := fun W h => (h.2.2.2.1.cell 0).trans rfl
      box2 := fun W h => (h.2.2.2.2.cell 0).trans rfl
      from_ := fun W h => ?from_
      on_ := fun W k h hk => ?on_
      enters1 := enters_of Try.func58 (by kernel_rfl) rfl
      enters2 := enters_of Try.func60 (by kernel_rfl) rfl } Bs w0
    (fun W hW => ?_)
  case from_ =>
    exact All1_calls W (some ⟨b, 0, none⟩) i w.heap.size (w.heap.size + 1) (nth xs 0) ((h.2.1.cell 0).trans rfl) ((h.2.2.1.cell 0).trans rfl) (hw.start ▸ First_calls W b b1 b2 s i h.1)
  case on_ =>
    have := Next_calls W b b1 b2 s (xs.getD k 0) h.1 (hw.node _ (getD_mem hk))
    rw [hw.go k hk] at this
    exact this
  · have hc : Calm w0 W := Kept.of_below hW _
    exact ⟨hs4.calm hc, (k1.calm h0).calm hc, (k2.calm h0).calm hc, (k3.calm h0).calm hc, (k4.calm h0).calm hc⟩

/-- Nil chains: nothing. -/
theorem All_iter_nil (n : Nat) (hn : 3 ≤ n) (Bs : List Nat) (i : Int) (w0 : World)
    (h0 : Calm (world4 w none i 58 60) w0) :
    Iter Fence.wide n Try.prog 81 #[.pointer (some ⟨w.heap.size + 2, 0, none⟩), .pointer (some ⟨w.heap.size + 3, 0, none⟩)] (fun x : Int => #[Value.int .i32 x]) (fun _ _ => True) (fun ys => ys = []) (fun pre => pre <+: []) 0 Bs w0 := by
  obtain ⟨k1, k2, k3, k4⟩ := world4_boxes w none i 58 60
  refine walk_iter n hn (fun W => Blk W w.heap.size #[.pointer none] ∧ Blk W (w.heap.size + 1) #[.int .i64 i] ∧
      Blk W (w.heap.size + 2) #[.func (.func 58) #[] #[.pointer (some ⟨w.heap.size, 0, none⟩), .pointer (some ⟨w.heap.size + 1, 0, none⟩)]] ∧ Blk W (w.heap.size + 3) #[.func (.func 60) #[.pointer none] #[]])
    _ _ _ _ _ _ _ _ [] List.nodup_nil (by simp)
    { box1 := fun W h => (h.2.2.1.cell 0).trans rfl
      box2 := fun W h => (h.2.2.2.cell 0).trans rfl
      from_ := fun W h => ?from_
      on_ := fun W k h hk => absurd hk (Nat.not_lt_zero _)
      enters1 := enters_of Try.func58 (by kernel_rfl) rfl
      enters2 := enters_of Try.func60 (by kernel_rfl) rfl } Bs w0
    (fun W hW => ?_)
  case from_ =>
    exact All1_calls W none i w.heap.size (w.heap.size + 1) (0, false) ((h.1.cell 0).trans rfl) ((h.2.1.cell 0).trans rfl) (First_nil W i)
  · have hc : Calm w0 W := Kept.of_below hW _
    exact ⟨(k1.calm h0).calm hc, (k2.calm h0).calm hc, (k3.calm h0).calm hc, (k4.calm h0).calm hc⟩
end

section
variable (w : World)
end
end Chain
end Go.Proofs.Ytekbgpfpnjddgaa
