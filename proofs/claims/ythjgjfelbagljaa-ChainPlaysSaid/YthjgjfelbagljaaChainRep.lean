/- Chains as the memory has them. -/
import Derived.Test.YthjgjfelbagljaaMem
namespace Go.Proofs.Ythjgjfelbagljaa
open Go.RowKit

namespace Chain
structure Link where
  prev : Int
  next : Int
  list : Int
  deriving Inhabited, DecidableEq
structure Ends where
  first : Int
  last : Int
  many : Int
  deriving Inhabited, DecidableEq
structure St where
  links : List Link
  lists : List Ends
  deriving DecidableEq

/-- A node's link; a list's ends. -/
def St.lk (s : St) (i : Int) : Link := s.links.getD i.toNat default
def St.en (s : St) (i : Int) : Ends := s.lists.getD i.toNat default

def linkV (x : Link) : List Value := [.int .i32 x.prev, .int .i32 x.next, .int .i8 x.list]
def endsV (x : Ends) : List Value := [.int .i32 x.first, .int .i32 x.last, .int .i64 x.many]
theorem linkV_length (x : Link) : (linkV x).length = 3 := rfl
theorem endsV_length (x : Ends) : (endsV x).length = 3 := rfl

/-- The chains at block b stand as s, in the blocks b1 and b2. -/
structure At (w : World) (b b1 b2 : Nat) (s : St) : Prop where
  head : Blk w b #[.slice (some ⟨b1, 0, none⟩) s.links.length s.links.length, .slice (some ⟨b2, 0, none⟩) s.lists.length s.lists.length]
  links : Blk w b1 (flat linkV s.links)
  lists : Blk w b2 (flat endsV s.lists)
  ne1 : b ≠ b1
  ne2 : b ≠ b2
  ne3 : b1 ≠ b2
  nodes : s.links.length ≤ 65536
  many : s.lists.length ≤ 8

theorem At.kept {F : Nat → Prop} {w w' : World} {b b1 b2 : Nat} {s : St} (h : At w b b1 b2 s) (hk : Kept F w w') (h0 : ¬ F b) (h1 : ¬ F b1) (h2 : ¬ F b2) : At w' b b1 b2 s :=
  { h with head := h.head.kept hk h0, links := h.links.kept hk h1, lists := h.lists.kept hk h2 }
theorem At.of_heap {w w' : World} {b b1 b2 : Nat} {s : St} (h : At w b b1 b2 s) (e : w'.heap = w.heap) : At w' b b1 b2 s :=
  { h with head := h.head.of_eq (by rw [e]), links := h.links.of_eq (by rw [e]), lists := h.lists.of_eq (by rw [e]) }
theorem At.calm {w w' : World} {b b1 b2 : Nat} {s : St} (h : At w b b1 b2 s) (hk : Calm w w') : At w' b b1 b2 s := h.kept hk id id id

section
variable {w : World} {b b1 b2 : Nat} {s : St}
theorem At.c0 (h : At w b b1 b2 s) : w.cell? ⟨b, 0, none⟩ = some (.slice (some ⟨b1, 0, none⟩) s.links.length s.links.length) := (h.head.cell 0).trans rfl
theorem At.c1 (h : At w b b1 b2 s) : w.cell? ⟨b, 1, none⟩ = some (.slice (some ⟨b2, 0, none⟩) s.lists.length s.lists.length) := (h.head.cell 1).trans rfl
theorem At.l0 (h : At w b b1 b2 s) {i : Nat} (hi : i < s.links.length) : w.cell? ⟨b1, i * 3, none⟩ = some (.int .i32 s.links[i].prev) := (h.links.cell _).trans ((flat_get0 linkV_length _ i hi (by omega)).trans rfl)
theorem At.l1 (h : At w b b1 b2 s) {i : Nat} (hi : i < s.links.length) : w.cell? ⟨b1, i * 3 + 1, none⟩ = some (.int .i32 s.links[i].next) := (h.links.cell _).trans ((flat_get linkV_length _ i 1 hi (by omega)).trans rfl)
theorem At.l2 (h : At w b b1 b2 s) {i : Nat} (hi : i < s.links.length) : w.cell? ⟨b1, i * 3 + 2, none⟩ = some (.int .i8 s.links[i].list) := (h.links.cell _).trans ((flat_get linkV_length _ i 2 hi (by omega)).trans rfl)
theorem At.e0 (h : At w b b1 b2 s) {i : Nat} (hi : i < s.lists.length) : w.cell? ⟨b2, i * 3, none⟩ = some (.int .i32 s.lists[i].first) := (h.lists.cell _).trans ((flat_get0 endsV_length _ i hi (by omega)).trans rfl)
theorem At.e1 (h : At w b b1 b2 s) {i : Nat} (hi : i < s.lists.length) : w.cell? ⟨b2, i * 3 + 1, none⟩ = some (.int .i32 s.lists[i].last) := (h.lists.cell _).trans ((flat_get endsV_length _ i 1 hi (by omega)).trans rfl)
theorem At.e2 (h : At w b b1 b2 s) {i : Nat} (hi : i < s.lists.length) : w.cell? ⟨b2, i * 3 + 2, none⟩ = some (.int .i64 s.lists[i].many) := (h.lists.cell _).trans ((flat_get endsV_length _ i 2 hi (by omega)).trans rfl)
theorem At.l0' (h : At w b b1 b2 s) {i : Int} (h0 : 0 ≤ i) (hi : i < s.links.length) : w.cell? ⟨b1, i.toNat * 3, none⟩ = some (.int .i32 (s.lk i).prev) := by rw [h.l0 (by omega)]; unfold St.lk; rw [List.getD_eq_getElem?_getD, List.getElem?_eq_getElem (by omega)]; rfl
theorem At.l1' (h : At w b b1 b2 s) {i : Int} (h0 : 0 ≤ i) (hi : i < s.links.length) : w.cell? ⟨b1, i.toNat * 3 + 1, none⟩ = some (.int .i32 (s.lk i).next) := by rw [h.l1 (by omega)]; unfold St.lk; rw [List.getD_eq_getElem?_getD, List.getElem?_eq_getElem (by omega)]; rfl
theorem At.l2' (h : At w b b1 b2 s) {i : Int} (h0 : 0 ≤ i) (hi : i < s.links.length) : w.cell? ⟨b1, i.toNat * 3 + 2, none⟩ = some (.int .i8 (s.lk i).list) := by rw [h.l2 (by omega)]; unfold St.lk; rw [List.getD_eq_getElem?_getD, List.getElem?_eq_getElem (by omega)]; rfl
theorem At.e0' (h : At w b b1 b2 s) {i : Int} (h0 : 0 ≤ i) (hi : i < s.lists.length) : w.cell? ⟨b2, i.toNat * 3, none⟩ = some (.int .i32 (s.en i).first) := by rw [h.e0 (by omega)]; unfold St.en; rw [List.getD_eq_getElem?_getD, List.getElem?_eq_getElem (by omega)]; rfl
theorem At.e1' (h : At w b b1 b2 s) {i : Int} (h0 : 0 ≤ i) (hi : i < s.lists.length) : w.cell? ⟨b2, i.toNat * 3 + 1, none⟩ = some (.int .i32 (s.en i).last) := by rw [h.e1 (by omega)]; unfold St.en; rw [List.getD_eq_getElem?_getD, List.getElem?_eq_getElem (by omega)]; rfl
theorem At.e2' (h : At w b b1 b2 s) {i : Int} (h0 : 0 ≤ i) (hi : i < s.lists.length) : w.cell? ⟨b2, i.toNat * 3 + 2, none⟩ = some (.int .i64 (s.en i).many) := by rw [h.e2 (by omega)]; unfold St.en; rw [List.getD_eq_getElem?_getD, List.getElem?_eq_getElem (by omega)]; rfl
end
/-! What a store makes of the state. -/
def St.setPrev (s : St) (i : Int) (v : Int) : St := { s with links := s.links.set i.toNat { s.lk i with prev := v } }
def St.setNext (s : St) (i : Int) (v : Int) : St := { s with links := s.links.set i.toNat { s.lk i with next := v } }
def St.setMark (s : St) (i : Int) (v : Int) : St := { s with links := s.links.set i.toNat { s.lk i with list := v } }
def St.setFirst (s : St) (i : Int) (v : Int) : St := { s with lists := s.lists.set i.toNat { s.en i with first := v } }
def St.setLast (s : St) (i : Int) (v : Int) : St := { s with lists := s.lists.set i.toNat { s.en i with last := v } }
def St.setMany (s : St) (i : Int) (v : Int) : St := { s with lists := s.lists.set i.toNat { s.en i with many := v } }
theorem getD_lt {α : Type} [Inhabited α] {l : List α} {i : Int} (h0 : 0 ≤ i) (hi : i < l.length) : ∃ h : i.toNat < l.length, l.getD i.toNat default = l[i.toNat]'h := by
  have h : i.toNat < l.length := by omega
  exact ⟨h, by rw [List.getD_eq_getElem?_getD, List.getElem?_eq_getElem h]; rfl⟩
theorem At.setPrev {w : World} {b b1 b2 : Nat} {s : St} (h : At w b b1 b2 s) {i : Int} (h0 : 0 ≤ i) (hi : i < s.links.length) (v : Int) : At (w.setCell ⟨b1, i.toNat * 3, none⟩ (.int .i32 v)) b b1 b2 (s.setPrev i v) := by
  obtain ⟨hl, he⟩ := getD_lt h0 hi
  refine { h with head := ?_, links := ?_, lists := ?_, nodes := ?_, many := ?_ }
  · have := h.head.other (a := ⟨b1, i.toNat * 3, none⟩) h.ne1 (.int .i32 v)
    simpa [St.setPrev] using this
  · have := h.links.set (i.toNat * 3) (.int .i32 v)
    rw [show i.toNat * 3 = i.toNat * 3 + 0 from rfl, flat_set linkV_length s.links i.toNat 0 _ { s.lk i with prev := v } hl (by omega) (by unfold St.lk; rw [he]; rfl)] at this
    exact this
  · exact h.lists.other (a := ⟨b1, i.toNat * 3, none⟩) (Ne.symm h.ne3) _
  · simpa [St.setPrev] using h.nodes
  · simpa [St.setPrev] using h.many
theorem At.setNext {w : World} {b b1 b2 : Nat} {s : St} (h : At w b b1 b2 s) {i : Int} (h0 : 0 ≤ i) (hi : i < s.links.length) (v : Int) : At (w.setCell ⟨b1, i.toNat * 3 + 1, none⟩ (.int .i32 v)) b b1 b2 (s.setNext i v) := by
  obtain ⟨hl, he⟩ := getD_lt h0 hi
  refine { h with head := ?_, links := ?_, lists := ?_, nodes := ?_, many := ?_ }
  · have := h.head.other (a := ⟨b1, i.toNat * 3 + 1, none⟩) h.ne1 (.int .i32 v)
    simpa [St.setNext] using this
  · have := h.links.set (i.toNat * 3 + 1) (.int .i32 v)
    rw [show i.toNat * 3 + 1 = i.toNat * 3 + 1 from rfl, flat_set linkV_length s.links i.toNat 1 _ { s.lk i with next := v } hl (by omega) (by unfold St.lk; rw [he]; rfl)] at this
    exact this
  · exact h.lists.other (a := ⟨b1, i.toNat * 3 + 1, none⟩) (Ne.symm h.ne3) _
  · simpa [St.setNext] using h.nodes
  · simpa [St.setNext] using h.many
theorem At.setMark {w : World} {b b1 b2 : Nat} {s : St} (h : At w b b1 b2 s) {i : Int} (h0 : 0 ≤ i) (hi : i < s.links.length) (v : Int) : At (w.setCell ⟨b1, i.toNat * 3 + 2, none⟩ (.int .i8 v)) b b1 b2 (s.setMark i v) := by
  obtain ⟨hl, he⟩ := getD_lt h0 hi
  refine { h with head := ?_, links := ?_, lists := ?_, nodes := ?_, many := ?_ }
  · have := h.head.other (a := ⟨b1, i.toNat * 3 + 2, none⟩) h.ne1 (.int .i8 v)
    simpa [St.setMark] using this
  · have := h.links.set (i.toNat * 3 + 2) (.int .i8 v)
    rw [show i.toNat * 3 + 2 = i.toNat * 3 + 2 from rfl, flat_set linkV_length s.links i.toNat 2 _ { s.lk i with list := v } hl (by omega) (by unfold St.lk; rw [he]; rfl)] at this
    exact this
  · exact h.lists.other (a := ⟨b1, i.toNat * 3 + 2, none⟩) (Ne.symm h.ne3) _
  · simpa [St.setMark] using h.nodes
  · simpa [St.setMark] using h.many
theorem At.setFirst {w : World} {b b1 b2 : Nat} {s : St} (h : At w b b1 b2 s) {i : Int} (h0 : 0 ≤ i) (hi : i < s.lists.length) (v : Int) : At (w.setCell ⟨b2, i.toNat * 3, none⟩ (.int .i32 v)) b b1 b2 (s.setFirst i v) := by
  obtain ⟨hl, he⟩ := getD_lt h0 hi
  refine { h with head := ?_, links := ?_, lists := ?_, nodes := ?_, many := ?_ }
  · have := h.head.other (a := ⟨b2, i.toNat * 3, none⟩) h.ne2 (.int .i32 v)
    simpa [St.setFirst] using this
  · exact h.links.other (a := ⟨b2, i.toNat * 3, none⟩) h.ne3 _
  · have := h.lists.set (i.toNat * 3) (.int .i32 v)
    rw [show i.toNat * 3 = i.toNat * 3 + 0 from rfl, flat_set endsV_length s.lists i.toNat 0 _ { s.en i with first := v } hl (by omega) (by unfold St.en; rw [he]; rfl)] at this
    exact this
  · simpa [St.setFirst] using h.nodes
  · simpa [St.setFirst] using h.many
theorem At.setLast {w : World} {b b1 b2 : Nat} {s : St} (h : At w b b1 b2 s) {i : Int} (h0 : 0 ≤ i) (hi : i < s.lists.length) (v : Int) : At (w.setCell ⟨b2, i.toNat * 3 + 1, none⟩ (.int .i32 v)) b b1 b2 (s.setLast i v) := by
  obtain ⟨hl, he⟩ := getD_lt h0 hi
  refine { h with head := ?_, links := ?_, lists := ?_, nodes := ?_, many := ?_ }
  · have := h.head.other (a := ⟨b2, i.toNat * 3 + 1, none⟩) h.ne2 (.int .i32 v)
    simpa [St.setLast] using this
  · exact h.links.other (a := ⟨b2, i.toNat * 3 + 1, none⟩) h.ne3 _
  · have := h.lists.set (i.toNat * 3 + 1) (.int .i32 v)
    rw [show i.toNat * 3 + 1 = i.toNat * 3 + 1 from rfl, flat_set endsV_length s.lists i.toNat 1 _ { s.en i with last := v } hl (by omega) (by unfold St.en; rw [he]; rfl)] at this
    exact this
  · simpa [St.setLast] using h.nodes
  · simpa [St.setLast] using h.many
theorem At.setMany {w : World} {b b1 b2 : Nat} {s : St} (h : At w b b1 b2 s) {i : Int} (h0 : 0 ≤ i) (hi : i < s.lists.length) (v : Int) : At (w.setCell ⟨b2, i.toNat * 3 + 2, none⟩ (.int .i64 v)) b b1 b2 (s.setMany i v) := by
  obtain ⟨hl, he⟩ := getD_lt h0 hi
  refine { h with head := ?_, links := ?_, lists := ?_, nodes := ?_, many := ?_ }
  · have := h.head.other (a := ⟨b2, i.toNat * 3 + 2, none⟩) h.ne2 (.int .i64 v)
    simpa [St.setMany] using this
  · exact h.links.other (a := ⟨b2, i.toNat * 3 + 2, none⟩) h.ne3 _
  · have := h.lists.set (i.toNat * 3 + 2) (.int .i64 v)
    rw [show i.toNat * 3 + 2 = i.toNat * 3 + 2 from rfl, flat_set endsV_length s.lists i.toNat 2 _ { s.en i with many := v } hl (by omega) (by unfold St.en; rw [he]; rfl)] at this
    exact this
  · simpa [St.setMany] using h.nodes
  · simpa [St.setMany] using h.many
end Chain
end Go.Proofs.Ythjgjfelbagljaa
