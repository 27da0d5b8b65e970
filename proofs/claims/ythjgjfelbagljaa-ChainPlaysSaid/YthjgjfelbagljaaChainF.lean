/- Walks over chain: the iterators. -/
import Derived.Test.YthjgjfelbagljaaIter
import Derived.Test.YthjgjfelbagljaaChainE
import Derived.Shelf.Abstract
namespace Go.Proofs.Ythjgjfelbagljaa
open Go.RowKit Go.Shelf
attribute [local go_sem] Oper.semAt_some
namespace Chain

def nth (xs : List Int) (i : Nat) : Int × Bool := if i < xs.length then (xs.getD i 0, true) else (0, false)
theorem nth_lt {xs : List Int} {i : Nat} (h : i < xs.length) : nth xs i = (xs.getD i 0, true) := if_pos h
theorem nth_ge {xs : List Int} {i : Nat} (h : xs.length ≤ i) : nth xs i = (0, false) := if_neg (by omega)

def leftOf (xs : List Int) (a b : Value) : Nat := match b with | .bool true => xs.length - xs.idxOf (intOf a) | _ => 0
theorem leftOf_true (xs : List Int) (x : Int) : leftOf xs (.int .i32 x) (.bool true) = xs.length - xs.idxOf x := rfl
theorem leftOf_false (xs : List Int) (a : Value) : leftOf xs a (.bool false) = 0 := rfl
theorem idxOf_nth {xs : List Int} (hnd : xs.Nodup) {k : Nat} (hk : k < xs.length) : xs.idxOf (xs.getD k 0) = k := by
  rw [List.getD_eq_getElem?_getD, List.getElem?_eq_getElem hk]
  exact hnd.idxOf_getElem k hk
theorem leftOf_less {xs : List Int} (hnd : xs.Nodup) {k : Nat} (hk : k < xs.length) : leftOf xs (.int .i32 (nth xs (k + 1)).1) (.bool (nth xs (k + 1)).2) < leftOf xs (.int .i32 (xs.getD k 0)) (.bool true) := by
  rw [leftOf_true, idxOf_nth hnd hk]
  by_cases h : k + 1 < xs.length
  · rw [nth_lt h, leftOf_true, idxOf_nth hnd h]; omega
  · rw [nth_ge (by omega), leftOf_false]; omega
theorem take_snoc' {xs : List Int} {k : Nat} (hk : k < xs.length) : xs.take k ++ [xs.getD k 0] = xs.take (k + 1) := by
  rw [List.take_succ_eq_append_getElem hk, List.getD_eq_getElem?_getD, List.getElem?_eq_getElem hk]; rfl

/-- What the two functions in the boxes p1 and p2 tell, as long as R holds. -/
structure Leads (R : World → Prop) (p1 p2 : Nat) (ff fo : Nat) (fa fc oa oc : Array Value) (xs : List Int) : Prop where
  box1 : ∀ W, R W → W.cell? ⟨p1, 0, none⟩ = some (.func (.func ff) fa fc)
  box2 : ∀ W, R W → W.cell? ⟨p2, 0, none⟩ = some (.func (.func fo) oa oc)
  from_ : ∀ W, R W → Calls Try.prog ff (fa ++ fc) W fun e w' => e = .returned (.tuple #[.int .i32 (nth xs 0).1, .bool (nth xs 0).2]) ∧ W = w'
  on_ : ∀ W i, R W → i < xs.length → Calls Try.prog fo (oa ++ #[.int .i32 (xs.getD i 0)] ++ oc) W fun e w' => e = .returned (.tuple #[.int .i32 (nth xs (i + 1)).1, .bool (nth xs (i + 1)).2]) ∧ W = w'
  enters1 : ∀ args w, (callFunc ff args).run Try.prog w = .ok (.enter ff args) w
  enters2 : ∀ args w, (callFunc fo args).run Try.prog w = .ok (.enter fo args) w

set_option maxRecDepth 100000 in
set_option maxHeartbeats 1000000 in
theorem steps_in (n : Nat) (hn : 1 ≤ n) (R : World → Prop) (p1 p2 ff fo : Nat) (fa fc oa oc : Array Value) (xs : List Int) (hnd : xs.Nodup) (hL : Leads R p1 p2 ff fo fa fc oa oc xs)
    (Bs : List Nat) (Kp : World → World → Prop) (hKR : ∀ W W', R W → Kp W W' → R W') (l : Nat) (J Jx : List Int → World → Prop) (N0 : Nat)
    (hY : ∀ pre x W1, J pre W1 → pre.length < xs.length → N0 ≤ W1.heap.size → (pre ++ [x]) <+: xs → YieldAt Fence.wide (n - 1) Try.prog l #[.int .i32 x] W1 fun e W' =>
      (e = .returned (.bool true) ∧ J (pre ++ [x]) W' ∧ Yours Bs N0 W1 W' ∧ Kp W1 W') ∨ (e = .returned (.bool false) ∧ Jx (pre ++ [x]) W' ∧ Yours Bs N0 W1 W'))
    (W : World) (hR : R W) (hW : N0 ≤ W.heap.size) (h0 : J [] W) :
    CallsIn Fence.wide n Try.prog 62 #[.func (.yield l) #[] #[], .pointer (some ⟨p1, 0, none⟩), .pointer (some ⟨p2, 0, none⟩)] W fun e W' => (∃ v, e = .returned v) ∧ ((∃ ys, ys = xs ∧ J ys W') ∨ (∃ pre, pre <+: xs ∧ Jx pre W')) := by
  have hb1 := hL.box1 W hR
  have hb2 := hL.box2 W hR
  have hE1 := hL.enters1
  refine callsIn_of_wp Try.func62 rfl trivial ?_ rfl
  simp only [Try.ntmps62, List.size_toArray, List.length_cons, List.length_nil, Nat.reduceAdd, Nat.reduceSub, Array.replicate_succ, Array.replicate_zero, List.push_toArray, List.append_toArray, List.nil_append, List.cons_append]
  have hf := hL.from_ W hR
  have Hf := Lib.hid hf
  clear hf
  gi_wp2_with fail
  refine ⟨trivial, (callsIn_wide.2 Hf.out).mono ?_⟩
  rintro e w' ⟨rfl, rfl⟩
  gi_wp2_with fail
  clear hb1 hb2
  gi_loopw [4, 5] (fun a b wr => ∃ k x t, nth xs k = (x, t) ∧ a = .int .i32 x ∧ b = .bool t ∧ k ≤ xs.length ∧ R wr ∧ J (xs.take k) wr ∧ N0 ≤ wr.heap.size)
    (fun a b _ => leftOf xs a b)
  case atStart => exact ⟨0, _, _, rfl, rfl, rfl, Nat.zero_le _, hR, h0, hW⟩
  case round =>
    obtain ⟨k, x, t, hxt, rfl, rfl, hk, hRr, hJ, hN⟩ := hrel
    by_cases hlt : k < xs.length
    · have hb2 := hL.box2 wr hRr
      have hE2 := hL.enters2
      obtain ⟨fn, tmps, assign, body, hy, hYr⟩ := hY (xs.take k) (xs.getD k 0) wr hJ (by simp; omega) hN (by rw [take_snoc' hlt]; exact List.take_prefix _ _)
      rw [nth_lt hlt] at hxt
      obtain ⟨rfl, rfl⟩ := Prod.mk.inj hxt
      clear hxt
      generalize hx : xs.getD k 0 = x at hy hYr ⊢
      have Hx := Lib.hid hx
      clear hx
      have HY := Lib.hid hYr
      clear hYr
      gi_wp2_with fail
      refine HY.out.mono ?_
      rintro e W' (⟨rfl, hJ', hy', hk'⟩ | ⟨rfl, hJx', _⟩)
      · have hR' := hKR wr W' hRr hk'
        have hb3 := hL.box2 W' hR'
        have hon := hL.on_ W' k hR' hlt
        rw [Hx.out] at hon
        have Hon := Lib.hid hon
        clear hon hb2
        gi_wp2_with fail
        refine ⟨trivial, (callsIn_wide.2 Hon.out).mono ?_⟩
        rintro e w2 ⟨rfl, rfl⟩
        gi_wp2_with fail
        go_roundw
        case rel => exact ⟨k + 1, _, _, rfl, rfl, rfl, by omega, hR', by rw [← take_snoc' hlt, Hx.out]; exact hJ', Nat.le_trans hN hy'.size⟩
        case measure => rw [← Hx.out]; exact leftOf_less hnd hlt
      · gi_wp2_with fail
        go_end0
        exact ⟨⟨_, rfl⟩, .inr ⟨_, ⟨xs.drop (k + 1), by rw [← Hx.out, take_snoc' hlt, List.take_append_drop]⟩, hJx'⟩⟩
    · rw [nth_ge (by omega)] at hxt
      obtain ⟨rfl, rfl⟩ := Prod.mk.inj hxt
      clear hxt
      gi_wp2_with fail
      refine ⟨fun _ h => (by cases h), ?_⟩
      gi_wp2_with fail
      go_end0
      exact ⟨⟨_, rfl⟩, .inl ⟨_, List.take_of_length_le (by omega), hJ⟩⟩
end Chain
end Go.Proofs.Ythjgjfelbagljaa
