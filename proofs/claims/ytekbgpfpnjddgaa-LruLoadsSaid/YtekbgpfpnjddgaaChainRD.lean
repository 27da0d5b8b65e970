/- Chains as the memory has them. Walks over chain: the functions that only look. Walks over chain: the functions that turn it. Walks over chain: Ahead, Behind, Insert, Remove. Walks over chain: Remove. -/
import Derived.Test.YtekbgpfpnjddgaaMem
import Derived.Test.YtekbgpfpnjddgaaProg
import Derived.Deep.DeepCutAuto
import Derived.Deep.CutBlock
import Derived.StillTailTactics
namespace Go.Proofs.Ytekbgpfpnjddgaa
open Go.RowKit

namespace Chain
structure Link where
  prev : Int
  next : Int
  list : Int
  deriving Inhabited, DecidableEq
structure Ends where
  first : Int
  last : Int
  many : Int
  deriving Inhabited, DecidableEq
structure St where
  links : List Link
  lists : List Ends
  deriving DecidableEq

/-- A node's link; a list's ends. -/
def St.lk (s : St) (i : Int) : Link := s.links.getD i.toNat default
def St.en (s : St) (i : Int) : Ends := s.lists.getD i.toNat default

def linkV (x : Link) : List Value := [.int .i32 x.prev, .int .i32 x.next, .int .i8 x.list]
def endsV (x : Ends) : List Value := [.int .i32 x.first, .int .i32 x.last, .int .i64 x.many]
theorem linkV_length (x : Link) : (linkV x).length = 3 := rfl
theorem endsV_length (x : Ends) : (endsV x).length = 3 := rfl

/-- The chains at block b stand as s, in the blocks b1 and b2. -/
structure At (w : World) (b b1 b2 : Nat) (s : St) : Prop where
  head : Blk w b #[.slice (some ⟨b1, 0, none⟩) s.links.length s.links.length, .slice (some ⟨b2, 0, none⟩) s.lists.length s.lists.length]
  links : Blk w b1 (flat linkV s.links)
  lists : Blk w b2 (flat endsV s.lists)
  ne1 : b ≠ b1
  ne2 : b ≠ b2
  ne3 : b1 ≠ b2
  nodes : s.links.length ≤ 65536
  many : s.lists.length ≤ 8

theorem At.kept {F : Nat → Prop} {w w' : World} {b b1 b2 : Nat} {s : St} (h : At w b b1 b2 s) (hk : Kept F w w') (h0 : ¬ F b) (h1 : ¬ F b1) (h2 : ¬ F b2) : At w' b b1 b2 s :=
  { h with head := h.head.kept hk h0, links := h.links.kept hk h1, lists := h.lists.kept hk h2 }
theorem At.of_heap {w w' : World} {b b1 b2 : Nat} {s : St} (h : At w b b1 b2 s) (e : w'.heap = w.heap) : At w' b b1 b2 s :=
  { h with head := h.head.of_eq (by rw [e]), links := h.links.of_eq (by rw [e]), lists := h.lists.of_eq (by rw [e]) }
theorem At.calm {w w' : World} {b b1 b2 : Nat} {s : St} (h : At w b b1 b2 s) (hk : Calm w w') : At w' b b1 b2 s := h.kept hk id id id

section
variable {w : World} {b b1 b2 : Nat} {s : St}
theorem At.c0 (h : At w b b1 b2 s) : w.cell? ⟨b, 0, none⟩ = some (.slice (some ⟨b1, 0, none⟩) s.links.length s.links.length) := (h.head.cell 0).trans rfl
theorem At.c1 (h : At w b b1 b2 s) : w.cell? ⟨b, 1, none⟩ = some (.slice (some ⟨b2, 0, none⟩) s.lists.length s.lists.length) := (h.head.cell 1).trans rfl
theorem At.l0 (h : At w b b1 b2 s) {i : Nat} (hi : i < s.links.length) : w.cell? ⟨b1, i * 3, none⟩ = some (.int .i32 s.links[i].prev) := (h.links.cell _).trans ((flat_get0 linkV_length _ i hi (by omega)).trans rfl)
theorem At.l1 (h : At w b b1 b2 s) {i : Nat} (hi : i < s.links.length) : w.cell? ⟨b1, i * 3 + 1, none⟩ = some (.int .i32 s.links[i].next) := (h.links.cell _).trans ((flat_get linkV_length _ i 1 hi (by omega)).trans rfl)
theorem At.l2 (h : At w b b1 b2 s) {i : Nat} (hi : i < s.links.length) : w.cell? ⟨b1, i * 3 + 2, none⟩ = some (.int .i8 s.links[i].list) := (h.links.cell _).trans ((flat_get linkV_length _ i 2 hi (by omega)).trans rfl)
theorem At.e0 (h : At w b b1 b2 s) {i : Nat} (hi : i < s.lists.length) : w.cell? ⟨b2, i * 3, none⟩ = some (.int .i32 s.lists[i].first) := (h.lists.cell _).trans ((flat_get0 endsV_length _ i hi (by omega)).trans rfl)
theorem At.e1 (h : At w b b1 b2 s) {i : Nat} (hi : i < s.lists.length) : w.cell? ⟨b2, i * 3 + 1, none⟩ = some (.int .i32 s.lists[i].last) := (h.lists.cell _).trans ((flat_get endsV_length _ i 1 hi (by omega)).trans rfl)
theorem At.e2 (h : At w b b1 b2 s) {i : Nat} (hi : i < s.lists.length) : w.cell? ⟨b2, i * 3 + 2, none⟩ = some (.int .i64 s.lists[i].many) := (h.lists.cell _).trans ((flat_get endsV_length _ i 2 hi (by omega)).trans rfl)
theorem At.l0' (h : At w b b1 b2 s) {i : Int} (h0 : 0 ≤ i) (hi : i < s.links.length) : w.cell? ⟨b1, i.toNat * 3, none⟩ = some (.int .i32 (s.lk i).prev) := by rw [h.l0 (by omega)]; unfold St.lk; rw [List.getD_eq_getElem?_getD, List.getElem?_eq_getElem (by omega)]; rfl
theorem At.l1' (h : At w b b1 b2 s) {i : Int} (h0 : 0 ≤ i) (hi : i < s.links.length) : w.cell? ⟨b1, i.toNat * 3 + 1, none⟩ = some (.int .i32 (s.lk i).next) := by rw [h.l1 (by omega)]; unfold St.lk; rw [List.getD_eq_getElem?_getD, List.getElem?_eq_getElem (by omega)]; rfl
theorem At.l2' (h : At w b b1 b2 s) {i : Int} (h0 : 0 ≤ i) (hi : i < s.links.length) : w.cell? ⟨b1, i.toNat * 3 + 2, none⟩ = some (.int .i8 (s.lk i).list) := by rw [h.l2 (by omega)]; unfold St.lk; rw [List.getD_eq_getElem?_getD, List.getElem?_eq_getElem (by omega)]; rfl
theorem At.e0' (h : At w b b1 b2 s) {i : Int} (h0 : 0 ≤ i) (hi : i < s.lists.length) : w.cell? ⟨b2, i.toNat * 3, none⟩ = some (.int .i32 (s.en i).first) := by rw [h.e0 (by omega)]; unfold St.en; rw [List.getD_eq_getElem?_getD, List.getElem?_eq_getElem (by omega)]; rfl
theorem At.e1' (h : At w b b1 b2 s) {i : Int} (h0 : 0 ≤ i) (hi : i < s.lists.length) : w.cell? ⟨b2, i.toNat * 3 + 1, none⟩ = some (.int .i32 (s.en i).last) := by rw [h.e1 (by omega)]; unfold St.en; rw [List.getD_eq_getElem?_getD, List.getElem?_eq_getElem (by omega)]; rfl
theorem At.e2' (h : At w b b1 b2 s) {i : Int} (h0 : 0 ≤ i) (hi : i < s.lists.length) : w.cell? ⟨b2, i.toNat * 3 + 2, none⟩ = some (.int .i64 (s.en i).many) := by rw [h.e2 (by omega)]; unfold St.en; rw [List.getD_eq_getElem?_getD, List.getElem?_eq_getElem (by omega)]; rfl
end
/-! What a store makes of the state. -/
def St.setPrev (s : St) (i : Int) (v : Int) : St := { s with links := s.links.set i.toNat { s.lk i with prev := v } }
def St.setNext (s : St) (i : Int) (v : Int) : St := { s with links := s.links.set i.toNat { s.lk i with next := v } }
def St.setMark (s : St) (i : Int) (v : Int) : St := { s with links := s.links.set i.toNat { s.lk i with list := v } }
def St.setFirst (s : St) (i : Int) (v : Int) : St := { s with lists := s.lists.set i.toNat { s.en i with first := v } }
def St.setLast (s : St) (i : Int) (v : Int) : St := { s with lists := s.lists.set i.toNat { s.en i with last := v } }
def St.setMany (s : St) (i : Int) (v : Int) : St := { s with lists := s.lists.set i.toNat { s.en i with many := v } }
theorem getD_lt {α : Type} [Inhabited α] {l : List α} {i : Int} (h0 : 0 ≤ i) (hi : i < l.length) : ∃ h : i.toNat < l.length, l.getD i.toNat default = l[i.toNat]'h := by
  have h : i.toNat < l.length := by omega
  exact ⟨h, by rw [List.getD_eq_getElem?_getD, List.getElem?_eq_getElem h]; rfl⟩
theorem At.setPrev {w : World} {b b1 b2 : Nat} {s : St} (h : At w b b1 b2 s) {i : Int} (h0 : 0 ≤ i) (hi : i < s.links.length) (v : Int) : At (w.setCell ⟨b1, i.toNat * 3, none⟩ (.int .i32 v)) b b1 b2 (s.setPrev i v) := by
  obtain ⟨hl, he⟩ := getD_lt h0 hi
  refine { h with head := ?_, links := ?_, lists := ?_, nodes := ?_, many := ?_ }
  · have := h.head.other (a := ⟨b1, i.toNat * 3, none⟩) h.ne1 (.int .i32 v)
    simpa [St.setPrev] using this
  · have := h.links.set (i.toNat * 3) (.int .i32 v)
    rw [show i.toNat * 3 = i.toNat * 3 + 0 from rfl, flat_set linkV_length s.links i.toNat 0 _ { s.lk i with prev := v } hl (by omega) (by unfold St.lk; rw [he]; rfl)] at this
    exact this
  · exact h.lists.other (a := ⟨b1, i.toNat * 3, none⟩) (Ne.symm h.ne3) _
  · simpa [St.setPrev] using h.nodes
  · simpa [St.setPrev] using h.many
theorem At.setNext {w : World} {b b1 b2 : Nat} {s : St} (h : At w b b1 b2 s) {i : Int} (h0 : 0 ≤ i) (hi : i < s.links.length) (v : Int) : At (w.setCell ⟨b1, i.toNat * 3 + 1, none⟩ (.int .i32 v)) b b1 b2 (s.setNext i v) := by
  obtain ⟨hl, he⟩ := getD_lt h0 hi
  refine { h with head := ?_, links := ?_, lists := ?_, nodes := ?_, many := ?_ }
  · have := h.head.other (a := ⟨b1, i.toNat * 3 + 1, none⟩) h.ne1 (.int .i32 v)
    simpa [St.setNext] using this
  · have := h.links.set (i.toNat * 3 + 1) (.int .i32 v)
    rw [show i.toNat * 3 + 1 = i.toNat * 3 + 1 from rfl, flat_set linkV_length s.links i.toNat 1 _ { s.lk i with next := v } hl (by omega) (by unfold St.lk; rw [he]; rfl)] at this
    exact this
  · exact h.lists.other (a := ⟨b1, i.toNat * 3 + 1, none⟩) (Ne.symm h.ne3) _
  · simpa [St.setNext] using h.nodes
  · simpa [St.setNext] using h.many
theorem At.setMark {w : World} {b b1 b2 : Nat} {s : St} (h : At w b b1 b2 s) {i : Int} (h0 : 0 ≤ i) (hi : i < s.links.length) (v : Int) : At (w.setCell ⟨b1, i.toNat * 3 + 2, none⟩ (.int .i8 v)) b b1 b2 (s.setMark i v) := by
  obtain ⟨hl, he⟩ := getD_lt h0 hi
  refine { h with head := ?_, links := ?_, lists := ?_, nodes := ?_, many := ?_ }
  · have := h.head.other (a := ⟨b1, i.toNat * 3 + 2, none⟩) h.ne1 (.int .i8 v)
    simpa [St.setMark] using this
  · have := h.links.set (i.toNat * 3 + 2) (.int .i8 v)
    rw [show i.toNat * 3 + 2 = i.toNat * 3 + 2 from rfl, flat_set linkV_length s.links i.toNat 2 _ { s.lk i with list := v } hl (by omega) (by unfold St.lk; rw [he]; rfl)] at this
    exact this
  · exact h.lists.other (a := ⟨b1, i.toNat * 3 + 2, none⟩) (Ne.symm h.ne3) _
  · simpa [St.setMark] using h.nodes
  · simpa [St.setMark] using h.many
theorem At.setFirst {w : World} {b b1 b2 : Nat} {s : St} (h : At w b b1 b2 s) {i : Int} (h0 : 0 ≤ i) (hi : i < s.lists.length) (v : Int) : At (w.setCell ⟨b2, i.toNat * 3, none⟩ (.int .i32 v)) b b1 b2 (s.setFirst i v) := by
  obtain ⟨hl, he⟩ := getD_lt h0 hi
  refine { h with head := ?_, links := ?_, lists := ?_, nodes := ?_, many := ?_ }
  · have := h.head.other (a := ⟨b2, i.toNat * 3, none⟩) h.ne2 (.int .i32 v)
    simpa [St.setFirst] using this
  · exact h.links.other (a := ⟨b2, i.toNat * 3, none⟩) h.ne3 _
  · have := h.lists.set (i.toNat * 3) (.int .i32 v)
    rw [show i.toNat * 3 = i.toNat * 3 + 0 from rfl, flat_set endsV_length s.lists i.toNat 0 _ { s.en i with first := v } hl (by omega) (by unfold St.en; rw [he]; rfl)] at this
    exact this
  · simpa [St.setFirst] using h.nodes
  · simpa [St.setFirst] using h.many
theorem At.setLast {w : World} {b b1 b2 : Nat} {s : St} (h : At w b b1 b2 s) {i : Int} (h0 : 0 ≤ i) (hi : i < s.lists.length) (v : Int) : At (w.setCell ⟨b2, i.toNat * 3 + 1, none⟩ (.int .i32 v)) b b1 b2 (s.setLast i v) := by
  obtain ⟨hl, he⟩ := getD_lt h0 hi
  refine { h with head := ?_, links := ?_, lists := ?_, nodes := ?_, many := ?_ }
  · have := h.head.other (a := ⟨b2, i.toNat * 3 + 1, none⟩) h.ne2 (.int .i32 v)
    simpa [St.setLast] using this
  · exact h.links.other (a := ⟨b2, i.toNat * 3 + 1, none⟩) h.ne3 _
  · have := h.lists.set (i.toNat * 3 + 1) (.int .i32 v)
    rw [show i.toNat * 3 + 1 = i.toNat * 3 + 1 from rfl, flat_set endsV_length s.lists i.toNat 1 _ { s.en i with last := v } hl (by omega) (by unfold St.en; rw [he]; rfl)] at this
    exact this
  · simpa [St.setLast] using h.nodes
  · simpa [St.setLast] using h.many
theorem At.setMany {w : World} {b b1 b2 : Nat} {s : St} (h : At w b b1 b2 s) {i : Int} (h0 : 0 ≤ i) (hi : i < s.lists.length) (v : Int) : At (w.setCell ⟨b2, i.toNat * 3 + 2, none⟩ (.int .i64 v)) b b1 b2 (s.setMany i v) := by
  obtain ⟨hl, he⟩ := getD_lt h0 hi
  refine { h with head := ?_, links := ?_, lists := ?_, nodes := ?_, many := ?_ }
  · have := h.head.other (a := ⟨b2, i.toNat * 3 + 2, none⟩) h.ne2 (.int .i64 v)
    simpa [St.setMany] using this
  · exact h.links.other (a := ⟨b2, i.toNat * 3 + 2, none⟩) h.ne3 _
  · have := h.lists.set (i.toNat * 3 + 2) (.int .i64 v)
    rw [show i.toNat * 3 + 2 = i.toNat * 3 + 2 from rfl, flat_set endsV_length s.lists i.toNat 2 _ { s.en i with many := v } hl (by omega) (by unfold St.en; rw [he]; rfl)] at this
    exact this
  · simpa [St.setMany] using h.nodes
  · simpa [St.setMany] using h.many
end Chain
end Go.Proofs.Ytekbgpfpnjddgaa
namespace Go.Proofs.Ytekbgpfpnjddgaa
open Go.RowKit
namespace Chain

def told (n : Int) : Int × Bool := if n = -1 then (0, false) else (n, true)
theorem ret_pair {a a' : Int} {b b' : Bool} (ha : a = a') (hb : b = b') : Ending.returned (.tuple #[.int .i32 a, .bool b]) = Ending.returned (.tuple #[.int .i32 a', .bool b']) := by rw [ha, hb]

set_option maxHeartbeats 400000 in
theorem told_calls (n : Int) (w : World) :
    Calls Try.prog 84 #[.int .i32 n] w fun e w' => e = .returned (.tuple #[.int .i32 (told n).1, .bool (told n).2]) ∧ w = w' := by
  by_cases hn : n = -1
  · subst hn
    go_enter Try.func84, Try.ntmps84
    go_wp2
    go_ret2
    exact ⟨rfl, rfl⟩
  · have e1 : told n = (n, false || true) := if_neg hn
    have hn' : (n == -1) = false := by simpa using hn
    rw [e1]
    clear e1 hn
    go_enter Try.func84, Try.ntmps84
    go_wp2
    go_ret2
    exact ⟨rfl, rfl⟩

/-! list: the address of a list's ends. -/
section
variable (w : World) (b b1 b2 : Nat) (s : St)
set_option maxHeartbeats 400000 in
theorem list_in (i : Int) (hs : At w b b1 b2 s) (h0 : 0 ≤ i) (hi : i < s.lists.length) :
    Calls Try.prog 83 #[.pointer (some ⟨b, 0, none⟩), .int .i64 i] w fun e w' => e = .returned (.pointer (some ⟨b2, i.toNat * 3, none⟩)) ∧ w = w' := by
  have h1 := hs.c1
  go_enter Try.func83, Try.ntmps83
  go_wp2
  go_ret
  exact ⟨rfl, rfl⟩
set_option maxHeartbeats 400000 in
theorem list_out (i : Int) (hs : At w b b1 b2 s) (hi : i < 0 ∨ (s.lists.length : Int) ≤ i) :
    Calls Try.prog 83 #[.pointer (some ⟨b, 0, none⟩), .int .i64 i] w fun e w' => e = .returned (.pointer none) ∧ w = w' := by
  have h1 := hs.c1
  go_enter Try.func83, Try.ntmps83
  go_wp2
  all_goals (go_ret; exact ⟨rfl, rfl⟩)
set_option maxHeartbeats 400000 in
theorem list_nil (i : Int) :
    Calls Try.prog 83 #[.pointer none, .int .i64 i] w fun e w' => e = .returned (.pointer none) ∧ w = w' := by
  go_enter Try.func83, Try.ntmps83
  go_wp2
  all_goals (go_ret; exact ⟨rfl, rfl⟩)
set_option maxHeartbeats 400000 in
theorem node_in (i : Int) (hs : At w b b1 b2 s) (h0 : 0 ≤ i) (hi : i < s.links.length) :
    Calls Try.prog 78 #[.pointer (some ⟨b, 0, none⟩), .int .i32 i] w fun e w' => e = .returned (.pointer (some ⟨b1, i.toNat * 3, none⟩)) ∧ w = w' := by
  have h1 := hs.c0
  have h3 : i ≤ 65535 := by have h2 := hs.nodes; omega
  go_enter Try.func78, Try.ntmps78
  go_wp2
  go_ret
  exact ⟨rfl, rfl⟩
set_option maxRecDepth 100000 in
set_option maxHeartbeats 400000 in
theorem node_out (i : Int) (hs : At w b b1 b2 s) (hi : i < 0 ∨ (s.links.length : Int) ≤ i) (hw : i < 2147483648) :
    Calls Try.prog 78 #[.pointer (some ⟨b, 0, none⟩), .int .i32 i] w fun e w' => e = .returned (.pointer none) ∧ w = w' := by
  have h1 := hs.c0
  go_enter Try.func78, Try.ntmps78
  go_wp2
  all_goals (go_ret; exact ⟨rfl, rfl⟩)
set_option maxHeartbeats 400000 in
theorem node_nil (i : Int) :
    Calls Try.prog 78 #[.pointer none, .int .i32 i] w fun e w' => e = .returned (.pointer none) ∧ w = w' := by
  go_enter Try.func78, Try.ntmps78
  go_wp2
  all_goals (go_ret; exact ⟨rfl, rfl⟩)
end

/-! First, Last, Next, Prev, List, Len. -/
/-- A node stands in a list. -/
def St.stands (s : St) (n : Int) : Prop := 0 ≤ n ∧ n < s.links.length ∧ 0 < (s.lk n).list
instance (s : St) (n : Int) : Decidable (s.stands n) := by unfold St.stands; infer_instance
def St.hasList (s : St) (i : Int) : Prop := 0 ≤ i ∧ i < s.lists.length
instance (s : St) (i : Int) : Decidable (s.hasList i) := by unfold St.hasList; infer_instance
def St.first (s : St) (i : Int) : Int × Bool := if s.hasList i then told (s.en i).first else (0, false)
def St.last (s : St) (i : Int) : Int × Bool := if s.hasList i then told (s.en i).last else (0, false)
def St.len (s : St) (i : Int) : Int := if s.hasList i then (s.en i).many else 0
def St.next (s : St) (n : Int) : Int × Bool := if s.stands n then told (s.lk n).next else (0, false)
def St.prev (s : St) (n : Int) : Int × Bool := if s.stands n then told (s.lk n).prev else (0, false)
def St.list (s : St) (n : Int) : Int × Bool := if s.stands n then ((s.lk n).list - 1, true) else (0, false)
theorem hasList_not {s : St} {i : Int} (h : ¬ s.hasList i) : i < 0 ∨ (s.lists.length : Int) ≤ i := by unfold St.hasList at h; omega

section
variable (w : World) (b b1 b2 : Nat) (s : St)
set_option maxHeartbeats 400000 in
theorem First_calls (i : Int) (hs : At w b b1 b2 s) :
    Calls Try.prog 59 #[.pointer (some ⟨b, 0, none⟩), .int .i64 i] w fun e w' => e = .returned (.tuple #[.int .i32 (s.first i).1, .bool (s.first i).2]) ∧ w = w' := by
  by_cases hl : s.hasList i
  · have e1 : s.first i = told (s.en i).first := if_pos hl
    rw [e1]
    clear e1
    have h2 := hs.e0' hl.1 hl.2
    obtain ⟨h0, hi⟩ := hl
    go_enter Try.func59, Try.ntmps59
    go_wp2_with (first | (go_at_call 83; refine (list_in _ b b1 b2 s i hs h0 hi).mono ?_; rintro e w' ⟨rfl, rfl⟩) | (go_at_call 84; refine (told_calls _ _).mono ?_; rintro e w' ⟨rfl, rfl⟩))
    go_ret2
    exact ⟨rfl, rfl⟩
  · have e1 : s.first i = (0, false) := if_neg hl
    rw [e1]
    clear e1
    go_enter Try.func59, Try.ntmps59
    go_wp2_with (go_at_call 83; refine (list_out _ b b1 b2 s i hs (hasList_not hl)).mono ?_; rintro e w' ⟨rfl, rfl⟩)
    go_ret2
    exact ⟨rfl, rfl⟩
set_option maxHeartbeats 400000 in
theorem First_nil (i : Int) :
    Calls Try.prog 59 #[.pointer none, .int .i64 i] w fun e w' => e = .returned (.tuple #[.int .i32 0, .bool false]) ∧ w = w' := by
  go_enter Try.func59, Try.ntmps59
  go_wp2_with (go_at_call 83; refine (list_nil _ i).mono ?_; rintro e w' ⟨rfl, rfl⟩)
  go_ret2
  exact ⟨rfl, rfl⟩
set_option maxHeartbeats 400000 in
theorem Last_calls (i : Int) (hs : At w b b1 b2 s) :
    Calls Try.prog 76 #[.pointer (some ⟨b, 0, none⟩), .int .i64 i] w fun e w' => e = .returned (.tuple #[.int .i32 (s.last i).1, .bool (s.last i).2]) ∧ w = w' := by
  by_cases hl : s.hasList i
  · have e1 : s.last i = told (s.en i).last := if_pos hl
    rw [e1]
    clear e1
    have h2 := hs.e1' hl.1 hl.2
    obtain ⟨h0, hi⟩ := hl
    go_enter Try.func76, Try.ntmps76
    go_wp2_with (first | (go_at_call 83; refine (list_in _ b b1 b2 s i hs h0 hi).mono ?_; rintro e w' ⟨rfl, rfl⟩) | (go_at_call 84; refine (told_calls _ _).mono ?_; rintro e w' ⟨rfl, rfl⟩))
    go_ret2
    exact ⟨rfl, rfl⟩
  · have e1 : s.last i = (0, false) := if_neg hl
    rw [e1]
    clear e1
    go_enter Try.func76, Try.ntmps76
    go_wp2_with (go_at_call 83; refine (list_out _ b b1 b2 s i hs (hasList_not hl)).mono ?_; rintro e w' ⟨rfl, rfl⟩)
    go_ret2
    exact ⟨rfl, rfl⟩
set_option maxHeartbeats 400000 in
theorem Last_nil (i : Int) :
    Calls Try.prog 76 #[.pointer none, .int .i64 i] w fun e w' => e = .returned (.tuple #[.int .i32 0, .bool false]) ∧ w = w' := by
  go_enter Try.func76, Try.ntmps76
  go_wp2_with (go_at_call 83; refine (list_nil _ i).mono ?_; rintro e w' ⟨rfl, rfl⟩)
  go_ret2
  exact ⟨rfl, rfl⟩
set_option maxRecDepth 100000 in
set_option maxHeartbeats 400000 in
theorem Next_calls (n : Int) (hs : At w b b1 b2 s) (hw : n < 2147483648) :
    Calls Try.prog 60 #[.pointer (some ⟨b, 0, none⟩), .int .i32 n] w fun e w' => e = .returned (.tuple #[.int .i32 (s.next n).1, .bool (s.next n).2]) ∧ w = w' := by
  by_cases hl : s.stands n
  · have e1 : s.next n = told (s.lk n).next := if_pos hl
    rw [e1]
    clear e1
    have h1 := hs.l2' hl.1 hl.2.1
    have h2 := hs.l1' hl.1 hl.2.1
    obtain ⟨h0, hi, h3⟩ := hl
    go_enter Try.func60, Try.ntmps60
    go_wp2_with (first | (go_at_call 78; refine (node_in _ b b1 b2 s n hs h0 hi).mono ?_; rintro e w' ⟨rfl, rfl⟩) | (go_at_call 84; refine (told_calls _ _).mono ?_; rintro e w' ⟨rfl, rfl⟩))
    go_ret2
    exact ⟨rfl, rfl⟩
  · have e1 : s.next n = (0, false) := if_neg hl
    rw [e1]
    clear e1
    by_cases h : 0 ≤ n ∧ n < s.links.length
    · obtain ⟨h0, hi⟩ := h
      have h1 := hs.l2' h0 hi
      have h3 : (s.lk n).list ≤ 0 := Int.not_lt.1 (fun h => hl ⟨h0, hi, h⟩)
      go_enter Try.func60, Try.ntmps60
      go_wp2_with (go_at_call 78; refine (node_in _ b b1 b2 s n hs h0 hi).mono ?_; rintro e w' ⟨rfl, rfl⟩)
      go_ret2
      exact ⟨rfl, rfl⟩
    · have h4 : n < 0 ∨ (s.links.length : Int) ≤ n := by omega
      go_enter Try.func60, Try.ntmps60
      go_wp2_with (go_at_call 78; refine (node_out _ b b1 b2 s n hs h4 hw).mono ?_; rintro e w' ⟨rfl, rfl⟩)
      go_ret2
      exact ⟨rfl, rfl⟩
set_option maxHeartbeats 400000 in
theorem Next_nil (n : Int) :
    Calls Try.prog 60 #[.pointer none, .int .i32 n] w fun e w' => e = .returned (.tuple #[.int .i32 0, .bool false]) ∧ w = w' := by
  go_enter Try.func60, Try.ntmps60
  go_wp2_with (go_at_call 78; refine (node_nil _ n).mono ?_; rintro e w' ⟨rfl, rfl⟩)
  go_ret2
  exact ⟨rfl, rfl⟩
end
end Chain
end Go.Proofs.Ytekbgpfpnjddgaa
namespace Go.Proofs.Ytekbgpfpnjddgaa
open Go.RowKit
namespace Chain

def St.laid (s : St) (l p n x : Int) : St := ((s.setPrev n p).setNext n x).setMark n (l + 1)
def St.linkP (s : St) (l p n : Int) : St := if p = -1 then s.setFirst l n else s.setNext p n
def St.linkX (s : St) (l n x : Int) : St := if x = -1 then s.setLast l n else s.setPrev x n
def St.more (s : St) (l d : Int) : St := s.setMany l ((s.en l).many + d)
def St.join (s : St) (l p n x : Int) : St := (((s.laid l p n x).linkP l p n).linkX l n x).more l 1
theorem set_links_length (s : St) (i v : Int) : (s.setPrev i v).links.length = s.links.length ∧ (s.setNext i v).links.length = s.links.length ∧ (s.setMark i v).links.length = s.links.length ∧ (s.setFirst i v).links.length = s.links.length ∧ (s.setLast i v).links.length = s.links.length ∧ (s.setMany i v).links.length = s.links.length := by
  simp [St.setPrev, St.setNext, St.setMark, St.setFirst, St.setLast, St.setMany]
theorem set_lists_length (s : St) (i v : Int) : (s.setPrev i v).lists.length = s.lists.length ∧ (s.setNext i v).lists.length = s.lists.length ∧ (s.setMark i v).lists.length = s.lists.length ∧ (s.setFirst i v).lists.length = s.lists.length ∧ (s.setLast i v).lists.length = s.lists.length ∧ (s.setMany i v).lists.length = s.lists.length := by
  simp [St.setPrev, St.setNext, St.setMark, St.setFirst, St.setLast, St.setMany]
theorem laid_len (s : St) (l p n x : Int) : (s.laid l p n x).links.length = s.links.length ∧ (s.laid l p n x).lists = s.lists := by
  simp [St.laid, St.setPrev, St.setNext, St.setMark]
theorem linkP_len (s : St) (l p n : Int) : (s.linkP l p n).links.length = s.links.length ∧ (s.linkP l p n).lists.length = s.lists.length := by
  unfold St.linkP; split <;> simp [St.setFirst, St.setNext]
theorem linkX_len (s : St) (l n x : Int) : (s.linkX l n x).links.length = s.links.length ∧ (s.linkX l n x).lists.length = s.lists.length := by
  unfold St.linkX; split <;> simp [St.setLast, St.setPrev]
theorem getD_set_same {α : Type} [Inhabited α] (l : List α) (k : Nat) (x : α) (h : k < l.length) : (l.set k x).getD k default = x := by
  simp [List.getD_eq_getElem?_getD, h]
theorem getD_set_ne {α : Type} [Inhabited α] (l : List α) (k j : Nat) (x : α) (h : k ≠ j) : (l.set k x).getD j default = l.getD j default := by
  simp [List.getD_eq_getElem?_getD, List.getElem?_set_ne h]
/-- A store into one field of one record leaves each other field of each record. -/
theorem linkP_many (s : St) (l p n j : Int) : ((s.linkP l p n).en j).many = (s.en j).many := by
  unfold St.linkP St.setFirst St.setNext St.en
  split
  · by_cases h : l.toNat = j.toNat
    · rw [h]
      by_cases hl : j.toNat < s.lists.length
      · rw [getD_set_same _ _ _ hl]
      · rw [List.set_eq_of_length_le (by omega)]
    · rw [getD_set_ne _ _ _ _ h]
  · rfl
theorem linkX_many (s : St) (l n x j : Int) : ((s.linkX l n x).en j).many = (s.en j).many := by
  unfold St.linkX St.setLast St.setPrev St.en
  split
  · by_cases h : l.toNat = j.toNat
    · rw [h]
      by_cases hl : j.toNat < s.lists.length
      · rw [getD_set_same _ _ _ hl]
      · rw [List.set_eq_of_length_le (by omega)]
    · rw [getD_set_ne _ _ _ _ h]
  · rfl

/-- b1 and b2 alone. -/
def Two (b1 b2 : Nat) (k : Nat) : Prop := k = b1 ∨ k = b2

section
variable (w : World) (b b1 b2 : Nat) (s : St)
set_option maxRecDepth 100000 in
set_option maxHeartbeats 400000 in
theorem join_calls (l p n x : Int) (hs : At w b b1 b2 s) (hl : s.hasList l) (hn0 : 0 ≤ n) (hn : n < s.links.length)
    (hp : p = -1 ∨ (0 ≤ p ∧ p < s.links.length)) (hx : x = -1 ∨ (0 ≤ x ∧ x < s.links.length)) (hm0 : 0 ≤ (s.en l).many) (hm : (s.en l).many ≤ 65536) :
    Calls Try.prog 71 #[.pointer (some ⟨b, 0, none⟩), .int .i64 l, .int .i32 p, .int .i32 n, .int .i32 x] w fun e w' =>
      e = .returned (.tuple #[]) ∧ At w' b b1 b2 (s.join l p n x) ∧ Kept (Two b1 b2) w w' := by
  have g0 := hs.c0
  have g1 := hs.c1
  have g2 := hs.l0' hn0 hn
  have g3 := hs.l1' hn0 hn
  have g4 := hs.l2' hn0 hn
  have g5 := fun o => hs.links.frozen o
  have g6 : s.lists.length ≤ 8 := hs.many
  obtain ⟨hl0, hl1⟩ := hl
  have hl8 : l < 8 := by omega
  go_enter Try.func71, Try.ntmps71
  go_upto_region 1 with fail
  go_cut [] (fun wa => At wa b b1 b2 (s.laid l p n x) ∧ Kept (Two b1 b2) w wa)
  case first =>
    go_wp2_with fail
    go_meet
    refine ⟨?_, ?_⟩
    · exact ((hs.setPrev hn0 hn p).setNext hn0 (by simpa [St.setPrev] using hn) x).setMark hn0 (by simpa [St.setPrev, St.setNext] using hn) (l + 1)
    · refine Kept.setCell ?_ (fun _ => Or.inl rfl) _
      refine Kept.setCell ?_ (fun _ => Or.inl rfl) _
      refine Kept.setCell ?_ (fun _ => Or.inl rfl) _
      exact Kept.refl _ _
  case rest =>
    obtain ⟨ha, hka⟩ := hcut
    clear g0 g1 g2 g3 g4 g5
    have e2 := Lib.hid (show s.join l p n x = (((s.laid l p n x).linkP l p n).linkX l n x).more l 1 from rfl)
    have E1 := (laid_len s l p n x).1
    have E2 := (laid_len s l p n x).2
    generalize s.laid l p n x = s1 at ha e2 E1 E2
    have F1 : (s1.links.length : Int) ≤ s.links.length := by omega
    have F2 : (s.links.length : Int) ≤ s1.links.length := by omega
    have F3 : l < (s1.lists.length : Int) := by rw [E2]; exact hl1
    have F4 := Lib.hid (show (s1.en l).many = (s.en l).many by unfold St.en; rw [E2])
    clear E1 E2
    go_upto_if 30 with fail
    go_cut [] (fun wa => At wa b b1 b2 (s1.linkP l p n) ∧ Kept (Two b1 b2) w wa)
    case first =>
      have g0 := ha.c0
      have g5 := fun o => ha.links.frozen o
      have g6 := fun o => ha.lists.frozen o
      by_cases hp1 : p = -1
      · have g7 := ha.e0' hl0 F3
        subst hp1
        go_wp2_with fail
        go_meet
        refine ⟨?_, ?_⟩
        · exact ha.setFirst hl0 F3 n
        · refine Kept.setCell ?_ (fun _ => Or.inr rfl) _
          exact hka
      · obtain ⟨hp0, hp2⟩ := hp.resolve_left hp1
        have hp3 : p < s1.links.length := by omega
        have g7 := ha.l1' hp0 hp3
        have g8 : (p == -1) = false := by simpa using hp1
        have e3 := Lib.hid (show s1.linkP l p n = s1.setNext p n from if_neg hp1)
        clear hp1 hp
        go_wp2_with fail
        go_meet
        refine ⟨?_, ?_⟩
        · rw [e3.out]; exact ha.setNext hp0 hp3 n
        · refine Kept.setCell ?_ (fun _ => Or.inl rfl) _
          exact hka
    case rest =>
      obtain ⟨hb, hkb⟩ := hcut
      clear hka ha
      have E1 := (linkP_len s1 l p n).1
      have E2 := (linkP_len s1 l p n).2
      have E3 := linkP_many s1 l p n l
      generalize s1.linkP l p n = s2 at hb e2 E1 E2 E3
      have G1 : (s2.links.length : Int) ≤ s.links.length := by omega
      have G2 : (s.links.length : Int) ≤ s2.links.length := by omega
      have G3 : l < (s2.lists.length : Int) := by rw [E2]; exact F3
      have G4 := Lib.hid (show (s2.en l).many = (s.en l).many by rw [E3]; exact F4.out)
      clear E1 E2 E3 F1 F2 F3 F4
      go_upto_if 44 with fail
      go_cut [] (fun wa => At wa b b1 b2 (s2.linkX l n x) ∧ Kept (Two b1 b2) w wa)
      case first =>
        have g0 := hb.c0
        have g5 := fun o => hb.links.frozen o
        have g6 := fun o => hb.lists.frozen o
        by_cases hx1 : x = -1
        · have g7 := hb.e1' hl0 G3
          subst hx1
          go_wp2_with fail
          go_meet
          refine ⟨?_, ?_⟩
          · exact hb.setLast hl0 G3 n
          · refine Kept.setCell ?_ (fun _ => Or.inr rfl) _
            exact hkb
        · obtain ⟨hx0, hx2⟩ := hx.resolve_left hx1
          have hx3 : x < s2.links.length := by omega
          have g7 := hb.l0' hx0 hx3
          have g8 : (x == -1) = false := by simpa using hx1
          have e3 := Lib.hid (show s2.linkX l n x = s2.setPrev x n from if_neg hx1)
          clear hx1 hx
          go_wp2_with fail
          go_meet
          refine ⟨?_, ?_⟩
          · rw [e3.out]; exact hb.setPrev hx0 hx3 n
          · refine Kept.setCell ?_ (fun _ => Or.inl rfl) _
            exact hkb
      case rest =>
        obtain ⟨hd, hkd⟩ := hcut
        clear hkb hb
        have E2 := (linkX_len s2 l n x).2
        have E3 := linkX_many s2 l n x l
        generalize s2.linkX l n x = s3 at hd e2 E2 E3
        have H3 : l < (s3.lists.length : Int) := by rw [E2]; exact G3
        have H4 : (s3.en l).many = (s.en l).many := by rw [E3]; exact G4.out
        have H5 : 0 ≤ (s3.en l).many := by omega
        have H6 : (s3.en l).many ≤ 65536 := by omega
        clear E2 E3 G3 G4 H4 hm0 hm
        have g6 := fun o => hd.lists.frozen o
        have g7 := hd.e2' hl0 H3
        go_wp2_with fail
        go_end0
        refine ⟨rfl, ?_, ?_⟩
        · rw [e2.out]; exact hd.setMany hl0 H3 _
        · refine Kept.setCell ?_ (fun _ => Or.inr rfl) _
          exact hkd
end

/-! wrong, Ahead, Behind, Insert. -/
def St.hasNode (s : St) (n : Int) : Prop := 0 ≤ n ∧ n < s.links.length
instance (s : St) (n : Int) : Decidable (s.hasNode n) := by unfold St.hasNode; infer_instance
theorem hasNode_not {s : St} {i : Int} (h : ¬ s.hasNode i) : i < 0 ∨ (s.links.length : Int) ≤ i := by unfold St.hasNode at h; omega
def St.wrong (s : St) (l n : Int) : Int := if s.hasList l ∧ s.hasNode n then (if 0 < (s.lk n).list then 8 else 0) else 1

section
variable (w : World) (b b1 b2 : Nat) (s : St)
set_option maxRecDepth 100000 in
set_option maxHeartbeats 400000 in
theorem wrong_calls (l n : Int) (hs : At w b b1 b2 s) (hw : n < 2147483648) :
    Calls Try.prog 70 #[.pointer (some ⟨b, 0, none⟩), .int .i64 l, .int .i32 n] w fun e w' => e = .returned (.int .i64 (s.wrong l n)) ∧ w = w' := by
  by_cases hn : s.hasNode n
  · have h1 := hs.l2' hn.1 hn.2
    by_cases hl : s.hasList l
    · by_cases h3 : 0 < (s.lk n).list
      · have e1 : s.wrong l n = 8 := by unfold St.wrong; rw [if_pos ⟨hl, hn⟩, if_pos h3]
        rw [e1]
        clear e1
        go_enter Try.func70, Try.ntmps70
        go_wp2_with (first | (go_at_call 78; refine (node_in _ b b1 b2 s n hs hn.1 hn.2).mono ?_; rintro e w' ⟨rfl, rfl⟩) | (go_at_call 83; refine (list_in _ b b1 b2 s l hs hl.1 hl.2).mono ?_; rintro e w' ⟨rfl, rfl⟩))
        go_ret
        exact ⟨rfl, rfl⟩
      · have e1 : s.wrong l n = 0 := by unfold St.wrong; rw [if_pos ⟨hl, hn⟩, if_neg h3]
        rw [e1]
        have h4 : (s.lk n).list ≤ 0 := by omega
        clear e1 h3
        go_enter Try.func70, Try.ntmps70
        go_wp2_with (first | (go_at_call 78; refine (node_in _ b b1 b2 s n hs hn.1 hn.2).mono ?_; rintro e w' ⟨rfl, rfl⟩) | (go_at_call 83; refine (list_in _ b b1 b2 s l hs hl.1 hl.2).mono ?_; rintro e w' ⟨rfl, rfl⟩))
        go_ret
        exact ⟨rfl, rfl⟩
    · have e1 : s.wrong l n = 1 := by unfold St.wrong; rw [if_neg (fun h => hl h.1)]
      rw [e1]
      clear e1
      go_enter Try.func70, Try.ntmps70
      go_wp2_with (first | (go_at_call 78; refine (node_in _ b b1 b2 s n hs hn.1 hn.2).mono ?_; rintro e w' ⟨rfl, rfl⟩) | (go_at_call 83; refine (list_out _ b b1 b2 s l hs (hasList_not hl)).mono ?_; rintro e w' ⟨rfl, rfl⟩))
      go_ret
      exact ⟨rfl, rfl⟩
  · have e1 : s.wrong l n = 1 := by unfold St.wrong; rw [if_neg (fun h => hn h.2)]
    rw [e1]
    clear e1
    by_cases hl : s.hasList l
    · go_enter Try.func70, Try.ntmps70
      go_wp2_with (first | (go_at_call 78; refine (node_out _ b b1 b2 s n hs (hasNode_not hn) hw).mono ?_; rintro e w' ⟨rfl, rfl⟩) | (go_at_call 83; refine (list_in _ b b1 b2 s l hs hl.1 hl.2).mono ?_; rintro e w' ⟨rfl, rfl⟩))
      go_ret
      exact ⟨rfl, rfl⟩
    · go_enter Try.func70, Try.ntmps70
      go_wp2_with (first | (go_at_call 78; refine (node_out _ b b1 b2 s n hs (hasNode_not hn) hw).mono ?_; rintro e w' ⟨rfl, rfl⟩) | (go_at_call 83; refine (list_out _ b b1 b2 s l hs (hasList_not hl)).mono ?_; rintro e w' ⟨rfl, rfl⟩))
      go_ret
      exact ⟨rfl, rfl⟩
set_option maxHeartbeats 400000 in
theorem wrong_nil (l n : Int) :
    Calls Try.prog 70 #[.pointer none, .int .i64 l, .int .i32 n] w fun e w' => e = .returned (.int .i64 9) ∧ w = w' := by
  go_enter Try.func70, Try.ntmps70
  go_wp2_with (go_at_call 78; refine (node_nil _ n).mono ?_; rintro e w' ⟨rfl, rfl⟩)
  go_ret
  exact ⟨rfl, rfl⟩
end
end Chain
end Go.Proofs.Ytekbgpfpnjddgaa
namespace Go.Proofs.Ytekbgpfpnjddgaa
open Go.RowKit
namespace Chain

/-- What the walks need of a state. -/
structure Valid (s : St) : Prop where
  ends : ∀ l, s.hasList l → ((s.en l).first = -1 ∨ s.hasNode (s.en l).first) ∧ ((s.en l).last = -1 ∨ s.hasNode (s.en l).last) ∧ 0 ≤ (s.en l).many ∧ (s.en l).many ≤ 65536
  link : ∀ n, s.stands n → ((s.lk n).prev = -1 ∨ (s.hasNode (s.lk n).prev ∧ (s.lk n).prev ≠ n)) ∧ ((s.lk n).next = -1 ∨ (s.hasNode (s.lk n).next ∧ (s.lk n).next ≠ n)) ∧ s.hasList ((s.lk n).list - 1)
  mark : ∀ n, 0 ≤ (s.lk n).list ∧ (s.lk n).list ≤ 8

def St.ahead (s : St) (l n : Int) : St := if s.wrong l n = 0 then s.join l (-1) n (s.en l).first else s
def St.behind (s : St) (l n : Int) : St := if s.wrong l n = 0 then s.join l (s.en l).last n (-1) else s
def St.insertErr (s : St) (n a : Int) : Int := if s.hasNode n ∧ s.hasNode a then (if 0 < (s.lk n).list then 8 else if (s.lk a).list = 0 then 5 else 0) else 1
def St.insert (s : St) (n a : Int) : St := if s.insertErr n a = 0 then s.join ((s.lk a).list - 1) a n (s.lk a).next else s
theorem wrong_zero {s : St} {l n : Int} (h : s.wrong l n = 0) : s.hasList l ∧ s.hasNode n := by
  unfold St.wrong at h
  by_cases h1 : s.hasList l ∧ s.hasNode n
  · exact h1
  · rw [if_neg h1] at h; cases h

section
variable (w : World) (b b1 b2 : Nat) (s : St)
set_option maxRecDepth 100000 in
set_option maxHeartbeats 400000 in
theorem Ahead_calls (l n : Int) (hs : At w b b1 b2 s) (hv : Valid s) (hw : n < 2147483648) :
    Calls Try.prog 49 #[.pointer (some ⟨b, 0, none⟩), .int .i64 l, .int .i32 n] w fun e w' =>
      e = .returned (.int .i64 (s.wrong l n)) ∧ At w' b b1 b2 (s.ahead l n) ∧ Kept (Two b1 b2) w w' := by
  have hc := wrong_calls w b b1 b2 s l n hs hw
  by_cases h0 : s.wrong l n = 0
  · have e1 := Lib.hid (show s.ahead l n = s.join l (-1) n (s.en l).first from if_pos h0)
    obtain ⟨hl, hn⟩ := wrong_zero h0
    obtain ⟨v1, v2, v3, v4⟩ := hv.ends l hl
    have hj := join_calls w b b1 b2 s l (-1) n (s.en l).first hs hl hn.1 hn.2 (.inl rfl) v1 v3 v4
    rw [h0] at hc ⊢
    have Hc := Lib.hid hc
    have Hj := Lib.hid hj
    have g0 := hs.c1
    have g1 := hs.e0' hl.1 hl.2
    obtain ⟨hl0, hl1⟩ := hl
    clear hc hj h0 v1 v2 v3 v4
    go_enter Try.func49, Try.ntmps49
    go_wp2_with (first | (go_at_call 70; refine Hc.out.mono ?_; rintro e w' ⟨rfl, rfl⟩) | (go_at_call 71; refine Hj.out.mono ?_; rintro e w' ⟨rfl, hat, hkept⟩))
    go_ret
    exact ⟨rfl, by rw [e1.out]; exact hat, hkept⟩
  · have e1 := Lib.hid (show s.ahead l n = s from if_neg h0)
    have h1 : (s.wrong l n == 0) = false := by simpa using h0
    have h2 : (s.wrong l n != 0) = true := by simpa using h0
    have Hc := Lib.hid hc
    clear hc h0
    go_enter Try.func49, Try.ntmps49
    go_wp2_with (go_at_call 70; refine Hc.out.mono ?_; rintro e w' ⟨rfl, rfl⟩)
    go_ret
    exact ⟨rfl, by rw [e1.out]; exact hs, Kept.refl _ _⟩
set_option maxRecDepth 100000 in
set_option maxHeartbeats 400000 in
theorem Behind_calls (l n : Int) (hs : At w b b1 b2 s) (hv : Valid s) (hw : n < 2147483648) :
    Calls Try.prog 38 #[.pointer (some ⟨b, 0, none⟩), .int .i64 l, .int .i32 n] w fun e w' =>
      e = .returned (.int .i64 (s.wrong l n)) ∧ At w' b b1 b2 (s.behind l n) ∧ Kept (Two b1 b2) w w' := by
  have hc := wrong_calls w b b1 b2 s l n hs hw
  by_cases h0 : s.wrong l n = 0
  · have e1 := Lib.hid (show s.behind l n = s.join l (s.en l).last n (-1) from if_pos h0)
    obtain ⟨hl, hn⟩ := wrong_zero h0
    obtain ⟨v1, v2, v3, v4⟩ := hv.ends l hl
    have hj := join_calls w b b1 b2 s l (s.en l).last n (-1) hs hl hn.1 hn.2 v2 (.inl rfl) v3 v4
    rw [h0] at hc ⊢
    have Hc := Lib.hid hc
    have Hj := Lib.hid hj
    have g0 := hs.c1
    have g1 := hs.e1' hl.1 hl.2
    obtain ⟨hl0, hl1⟩ := hl
    clear hc hj h0 v1 v2 v3 v4
    go_enter Try.func38, Try.ntmps38
    go_wp2_with (first | (go_at_call 70; refine Hc.out.mono ?_; rintro e w' ⟨rfl, rfl⟩) | (go_at_call 71; refine Hj.out.mono ?_; rintro e w' ⟨rfl, hat, hkept⟩))
    go_ret
    exact ⟨rfl, by rw [e1.out]; exact hat, hkept⟩
  · have e1 := Lib.hid (show s.behind l n = s from if_neg h0)
    have h1 : (s.wrong l n == 0) = false := by simpa using h0
    have h2 : (s.wrong l n != 0) = true := by simpa using h0
    have Hc := Lib.hid hc
    clear hc h0
    go_enter Try.func38, Try.ntmps38
    go_wp2_with (go_at_call 70; refine Hc.out.mono ?_; rintro e w' ⟨rfl, rfl⟩)
    go_ret
    exact ⟨rfl, by rw [e1.out]; exact hs, Kept.refl _ _⟩
set_option maxHeartbeats 400000 in
theorem Ahead_nil (l n : Int) :
    Calls Try.prog 49 #[.pointer none, .int .i64 l, .int .i32 n] w fun e w' => e = .returned (.int .i64 9) ∧ w = w' := by
  go_enter Try.func49, Try.ntmps49
  go_wp2_with (go_at_call 70; refine (wrong_nil _ l n).mono ?_; rintro e w' ⟨rfl, rfl⟩)
  go_ret
  exact ⟨rfl, rfl⟩
set_option maxHeartbeats 400000 in
theorem Behind_nil (l n : Int) :
    Calls Try.prog 38 #[.pointer none, .int .i64 l, .int .i32 n] w fun e w' => e = .returned (.int .i64 9) ∧ w = w' := by
  go_enter Try.func38, Try.ntmps38
  go_wp2_with (go_at_call 70; refine (wrong_nil _ l n).mono ?_; rintro e w' ⟨rfl, rfl⟩)
  go_ret
  exact ⟨rfl, rfl⟩
set_option maxHeartbeats 400000 in
theorem Remove_nil (n : Int) :
    Calls Try.prog 51 #[.pointer none, .int .i32 n] w fun e w' => e = .returned (.bool false) ∧ w = w' := by
  go_enter Try.func51, Try.ntmps51
  go_wp2_with (go_at_call 78; refine (node_nil _ n).mono ?_; rintro e w' ⟨rfl, rfl⟩)
  go_ret
  exact ⟨rfl, rfl⟩

/-! Insert, case by case. -/
end
end Chain
end Go.Proofs.Ytekbgpfpnjddgaa
namespace Go.Proofs.Ytekbgpfpnjddgaa
open Go.RowKit
namespace Chain

def St.clear (s : St) (n : Int) : St := ((s.setPrev n 0).setNext n 0).setMark n 0
def St.unlink (s : St) (n : Int) : St :=
  (((s.linkP ((s.lk n).list - 1) (s.lk n).prev (s.lk n).next).linkX ((s.lk n).list - 1) (s.lk n).prev (s.lk n).next).more ((s.lk n).list - 1) (-1)).clear n
def St.remove (s : St) (n : Int) : St := if s.stands n then s.unlink n else s

theorem linkP_lk (s : St) (l p v n : Int) (hn : 0 ≤ n) (hp : p = -1 ∨ (0 ≤ p ∧ p ≠ n)) : (s.linkP l p v).lk n = s.lk n := by
  unfold St.linkP
  by_cases h : p = -1
  · rw [if_pos h]; rfl
  · rw [if_neg h]
    unfold St.setNext St.lk
    rw [getD_set_ne]
    omega

section
variable (w : World) (b b1 b2 : Nat) (s : St)
set_option maxRecDepth 100000 in
set_option maxHeartbeats 400000 in
theorem Remove_none (n : Int) (hs : At w b b1 b2 s) (hv : Valid s) (hw : n < 2147483648) (h : ¬ s.stands n) :
    Calls Try.prog 51 #[.pointer (some ⟨b, 0, none⟩), .int .i32 n] w fun e w' => e = .returned (.bool false) ∧ w = w' := by
  by_cases hn : s.hasNode n
  · have hm := hv.mark n
    have e1 : (s.lk n).list = 0 := by
      have : ¬ 0 < (s.lk n).list := fun h' => h ⟨hn.1, hn.2, h'⟩
      omega
    have g1 := hs.l2' hn.1 hn.2
    rw [e1] at g1
    clear e1 hm
    go_enter Try.func51, Try.ntmps51
    go_wp2_with (go_at_call 78; refine (node_in w b b1 b2 s n hs hn.1 hn.2).mono ?_; rintro e w' ⟨rfl, rfl⟩)
    go_ret
    exact ⟨rfl, rfl⟩
  · go_enter Try.func51, Try.ntmps51
    go_wp2_with (go_at_call 78; refine (node_out w b b1 b2 s n hs (hasNode_not hn) hw).mono ?_; rintro e w' ⟨rfl, rfl⟩)
    go_ret
    exact ⟨rfl, rfl⟩

set_option maxRecDepth 100000 in
set_option maxHeartbeats 1000000 in
theorem Remove_good (n l p x : Int) (hs : At w b b1 b2 s) (hn0 : 0 ≤ n) (hn : n < s.links.length) (hL : (s.lk n).list = l + 1) (hP : (s.lk n).prev = p) (hX : (s.lk n).next = x) (hl : s.hasList l)
    (hp : p = -1 ∨ (0 ≤ p ∧ p < s.links.length ∧ p ≠ n)) (hx : x = -1 ∨ (0 ≤ x ∧ x < s.links.length))
    (hm0 : 1 ≤ (s.en l).many) (hm : (s.en l).many ≤ 65536) :
    Calls Try.prog 51 #[.pointer (some ⟨b, 0, none⟩), .int .i32 n] w fun e w' =>
      e = .returned (.bool true) ∧ At w' b b1 b2 ((((s.linkP l p x).linkX l p x).more l (-1)).clear n) ∧ Kept (Two b1 b2) w w' := by
  have g0 := hs.l2' hn0 hn
  have g1 := hs.c1
  rw [hL] at g0
  obtain ⟨hl0, hl1⟩ := hl
  have hl7 : l ≤ 7 := by have := hs.many; omega
  have g4 : ((l + 1 : Int) == 0) = false := by simpa using (by omega : ¬ (l + 1 = 0))
  have HL := Lib.hid hL
  have HP := Lib.hid hP
  have HX := Lib.hid hX
  clear hL hP hX
  go_enter Try.func51, Try.ntmps51
  go_upto_region 4 with (go_at_call 78; refine (node_in w b b1 b2 s n hs hn0 hn).mono ?_; rintro e w' ⟨rfl, rfl⟩)
  go_cut [6] (fun l6 wa => l6 = .pointer (some ⟨b2, l.toNat * 3, none⟩) ∧ At wa b b1 b2 s ∧ Kept (Two b1 b2) w wa)
  case first =>
    go_quiet (fail)
    go_wp2_with fail
    go_meet
    refine ⟨rfl, hs.of_heap rfl, ?_⟩
    exact (Kept.refl _ _).of_heap rfl rfl rfl rfl
  case rest =>
    obtain ⟨rfl, ha, hka⟩ := hcut
    clear g0 g1
    have g0 := ha.l0' hn0 hn
    rw [HP.out] at g0
    go_upto_if 33 with (fail)
    go_cut [] (fun wa => At wa b b1 b2 (s.linkP l p x) ∧ Kept (Two b1 b2) w wa)
    case first =>
      have g1 := ha.l1' hn0 hn
      rw [HX.out] at g1
      have g2 := ha.c0
      have g5 := fun o => ha.links.frozen o
      have g6 := fun o => ha.lists.frozen o
      by_cases hp1 : p = -1
      · have g7 := ha.e0' hl0 hl1
        subst hp1
        go_wp2_with fail
        go_meet
        refine ⟨?_, ?_⟩
        · exact ha.setFirst hl0 hl1 x
        · refine Kept.setCell ?_ (fun _ => Or.inr rfl) _
          exact hka
      · obtain ⟨hp0, hp2, hp3⟩ := hp.resolve_left hp1
        have g7 := ha.l1' hp0 hp2
        have g8 : (p == -1) = false := by simpa using hp1
        have e3 := Lib.hid (show s.linkP l p x = s.setNext p x from if_neg hp1)
        clear hp1 hp hp3
        go_wp2_with fail
        go_region
        all_goals go_wp2_with fail
        all_goals go_meet
        all_goals refine ⟨?_, ?_⟩
        · rw [e3.out]; exact (ha.setNext hp0 hp2 x).of_heap rfl
        · refine Kept.drew ?_
          refine Kept.setCell ?_ (fun _ => Or.inl rfl) _
          exact hka
    case rest =>
      obtain ⟨hb, hkb⟩ := hcut
      have E4 := linkP_lk s l p x n hn0 (hp.imp id (fun h => ⟨h.1, h.2.2⟩))
      have E1 := (linkP_len s l p x).1
      have E2 := (linkP_len s l p x).2
      have E3 := linkP_many s l p x l
      clear hka ha g0
      generalize he2 : s.linkP l p x = s2 at hb E1 E2 E3 E4
      have He2 := Lib.hid he2
      clear he2
      have G1 : (s2.links.length : Int) ≤ s.links.length := by omega
      have G2 : (s.links.length : Int) ≤ s2.links.length := by omega
      have G3 : l < (s2.lists.length : Int) := by rw [E2]; exact hl1
      have G4 := Lib.hid E3
      have G5 := Lib.hid E4
      have hn2 : n < (s2.links.length : Int) := by omega
      have g0 := hb.l1' hn0 hn2
      rw [E4, HX.out] at g0
      clear E1 E2 E3 E4
      go_upto_if 59 with (fail)
      go_cut [] (fun wa => At wa b b1 b2 (s2.linkX l p x) ∧ Kept (Two b1 b2) w wa)
      case first =>
        have g1 := hb.l0' hn0 hn2
        rw [G5.out, HP.out] at g1
        have g2 := hb.c0
        have g5 := fun o => hb.links.frozen o
        have g6 := fun o => hb.lists.frozen o
        by_cases hx1 : x = -1
        · have g7 := hb.e1' hl0 G3
          subst hx1
          go_wp2_with fail
          go_meet
          refine ⟨?_, ?_⟩
          · exact hb.setLast hl0 G3 p
          · refine Kept.setCell ?_ (fun _ => Or.inr rfl) _
            exact hkb
        · obtain ⟨hx0, hx2⟩ := hx.resolve_left hx1
          have hx3 : x < s2.links.length := by omega
          have g7 := hb.l0' hx0 hx3
          have g8 : (x == -1) = false := by simpa using hx1
          have e3 := Lib.hid (show s2.linkX l p x = s2.setPrev x p from if_neg hx1)
          clear hx1 hx
          go_wp2_with fail
          go_region
          all_goals go_wp2_with fail
          all_goals go_meet
          all_goals refine ⟨?_, ?_⟩
          · rw [e3.out]; exact (hb.setPrev hx0 hx3 p).of_heap rfl
          · refine Kept.drew ?_
            refine Kept.setCell ?_ (fun _ => Or.inl rfl) _
            exact hkb
      case rest =>
        obtain ⟨hd, hkd⟩ := hcut
        clear hkb hb g0
        have E1 := (linkX_len s2 l p x).1
        have E2 := (linkX_len s2 l p x).2
        have E3 := linkX_many s2 l p x l
        generalize he3 : s2.linkX l p x = s3 at hd E1 E2 E3
        have He3 := Lib.hid he3
        clear he3
        have H3 : l < (s3.lists.length : Int) := by rw [E2]; exact G3
        have H7 : n < (s3.links.length : Int) := by rw [E1]; exact hn2
        have H4 : (s3.en l).many = (s.en l).many := by rw [E3]; exact G4.out
        have H5 : 1 ≤ (s3.en l).many := by omega
        have H6 : (s3.en l).many ≤ 65536 := by omega
        clear E1 E2 E3 G1 G2 G3 G4 H4 hm0 hm hn2
        have g5 := fun o => hd.links.frozen o
        have g6 := fun o => hd.lists.frozen o
        have g7 := hd.e2' hl0 H3
        have g8 := hd.l0' hn0 H7
        have g9 := hd.l1' hn0 H7
        have ga := hd.l2' hn0 H7
        have ne := hd.ne3
        have ne' : b2 ≠ b1 := Ne.symm ne
        go_wp2_with fail
        go_ret
        refine ⟨rfl, ?_, ?_⟩
        · rw [He2.out, He3.out]
          have h1 := hd.setMany hl0 H3 ((s3.en l).many + -1)
          have L1 : n < ((s3.setMany l ((s3.en l).many + -1)).links.length : Int) := by rw [(set_links_length s3 l _).2.2.2.2.2]; exact H7
          have h2 := h1.setPrev hn0 L1 0
          have L2 : n < (((s3.setMany l ((s3.en l).many + -1)).setPrev n 0).links.length : Int) := by rw [(set_links_length _ _ _).1]; exact L1
          have h3 := h2.setNext hn0 L2 0
          have L3 : n < ((((s3.setMany l ((s3.en l).many + -1)).setPrev n 0).setNext n 0).links.length : Int) := by rw [(set_links_length _ _ _).2.1]; exact L2
          exact h3.setMark hn0 L3 0
        · refine Kept.setCell ?_ (fun _ => Or.inl rfl) _
          refine Kept.setCell ?_ (fun _ => Or.inl rfl) _
          refine Kept.setCell ?_ (fun _ => Or.inl rfl) _
          refine Kept.setCell ?_ (fun _ => Or.inr rfl) _
          exact hkd

theorem Remove_calls (n : Int) (hs : At w b b1 b2 s) (hv : Valid s) (hw : n < 2147483648) (hmany : ∀ l, s.hasList l → s.stands n → (s.lk n).list = l + 1 → 1 ≤ (s.en l).many) :
    Calls Try.prog 51 #[.pointer (some ⟨b, 0, none⟩), .int .i32 n] w fun e w' =>
      e = .returned (.bool (decide (s.stands n))) ∧ At w' b b1 b2 (s.remove n) ∧ Kept (Two b1 b2) w w' := by
  unfold St.remove
  by_cases h : s.stands n
  · obtain ⟨v1, v2, v3⟩ := hv.link n h
    obtain ⟨u1, u2, u3, u4⟩ := hv.ends _ v3
    rw [if_pos h, decide_eq_true h]
    exact Remove_good w b b1 b2 s n ((s.lk n).list - 1) _ _ hs h.1 h.2.1 (by omega) rfl rfl v3 (v1.imp id (fun h => ⟨h.1.1, h.1.2, h.2⟩)) (v2.imp id (fun h => h.1)) (hmany _ v3 h (by omega)) u4
  · rw [if_neg h, decide_eq_false h]
    exact (Remove_none w b b1 b2 s n hs hv hw h).mono fun e w' ⟨he, hw⟩ => ⟨he, by subst hw; exact hs, by subst hw; exact Kept.refl _ _⟩
end
end Chain
end Go.Proofs.Ytekbgpfpnjddgaa
