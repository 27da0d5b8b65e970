/- The ways through a list; what the calls tell of the lists. -/
import Derived.Test.YthjgjfelbagljaaChainPureB
namespace Go.Proofs.Ythjgjfelbagljaa
namespace Chain

theorem split_at {L : List Int} {k : Nat} (hk : k < L.length) : L = L.take k ++ L.getD k 0 :: L.drop (k + 1) := by
  have h1 : L.getD k 0 = L[k] := by rw [List.getD_eq_getElem?_getD, List.getElem?_eq_getElem hk]; rfl
  rw [h1, List.getElem_cons_drop, List.take_append_drop]
theorem told_head {L : List Int} (h : ∀ x ∈ L, 0 ≤ x) : told (L.headD (-1)) = nth L 0 := by
  cases L with
  | nil => rfl
  | cons x r =>
    have := h x List.mem_cons_self
    have h1 : ¬ x = -1 := by omega
    show told x = _
    unfold told
    rw [if_neg h1, nth_lt (by simp)]
    rfl
theorem headD_drop {L : List Int} {k : Nat} : nth (L.drop k) 0 = nth L k := by
  by_cases h : k < L.length
  · rw [nth_lt (by simp; omega), nth_lt h]
    simp [List.getD_eq_getElem?_getD]
  · rw [nth_ge (by simp; omega), nth_ge (by omega)]

section
variable {s : St} {ls : List (List Int)} (h : Inv s ls) {l : Nat} (hl : l < ls.length)
include h hl
theorem Inv.hasList : s.hasList (l : Int) := ⟨by omega, by rw [h.len]; omega⟩
theorem Inv.pos : ∀ x ∈ ls.getD l [], 0 ≤ x := fun x hx => (h.node l hl x hx).1
theorem Inv.first_eq : s.first l = nth (ls.getD l []) 0 := by
  unfold St.first
  rw [if_pos (h.hasList hl), h.ends l hl]
  exact told_head (h.pos hl)
theorem Inv.len_eq : s.len l = (ls.getD l []).length := by
  unfold St.len
  rw [if_pos (h.hasList hl), h.ends l hl]
theorem Inv.last_eq : s.last l = nth (ls.getD l []).reverse 0 := by
  unfold St.last
  rw [if_pos (h.hasList hl), h.ends l hl]
  have e : (ls.getD l []).getLastD (-1) = (ls.getD l []).reverse.headD (-1) := by
    cases hL : (ls.getD l []).reverse with
    | nil => rw [List.reverse_eq_nil_iff] at hL; rw [hL]; rfl
    | cons x r =>
      have : ls.getD l [] = r.reverse ++ [x] := by rw [← List.reverse_reverse (ls.getD l []), hL]; simp
      rw [this, getLastD_app]; rfl
  show told ((ls.getD l []).getLastD (-1)) = _
  rw [e]
  exact told_head (fun x hx => h.pos hl x (List.mem_reverse.1 hx))
theorem Inv.stands_mem {n : Int} (hm : n ∈ ls.getD l []) : s.stands n := (h.stands_iff n).2 ⟨l, hl, hm⟩
theorem Inv.next_eq {A B : List Int} {n : Int} (hAB : ls.getD l [] = A ++ n :: B) : s.next n = nth B 0 := by
  unfold St.next
  rw [if_pos (h.stands_mem hl (by rw [hAB]; simp)), h.lk_at hl hAB]
  exact told_head (fun x hx => h.pos hl x (by rw [hAB]; simp [hx]))
theorem Inv.prev_eq {A B : List Int} {n : Int} (hAB : ls.getD l [] = A ++ n :: B) : s.prev n = nth A.reverse 0 := by
  unfold St.prev
  rw [if_pos (h.stands_mem hl (by rw [hAB]; simp)), h.lk_at hl hAB]
  have e : A.getLastD (-1) = A.reverse.headD (-1) := by
    cases hL : A.reverse with
    | nil => rw [List.reverse_eq_nil_iff] at hL; rw [hL]; rfl
    | cons x r =>
      have : A = r.reverse ++ [x] := by rw [← List.reverse_reverse A, hL]; simp
      rw [this, getLastD_app]; rfl
  show told (A.getLastD (-1)) = _
  rw [e]
  exact told_head (fun x hx => h.pos hl x (by rw [hAB]; simp at hx; simp [hx]))
theorem Inv.list_eq {A B : List Int} {n : Int} (hAB : ls.getD l [] = A ++ n :: B) : s.list n = ((l : Int), true) := by
  unfold St.list
  rw [if_pos (h.stands_mem hl (by rw [hAB]; simp)), h.lk_at hl hAB]
  simp
theorem Inv.small : (ls.getD l []).length ≤ 65536 := by
  have := nodup_nodes (h.nodup l hl) (h.node l hl)
  have := h.nodes
  omega
theorem Inv.node_lt : ∀ x ∈ ls.getD l [], x < 2147483648 := fun x hx => by
  have h1 := (h.node l hl x hx).2
  have h2 := h.nodes
  omega
theorem Inv.way : Way (s.first l) s.next (ls.getD l []) := by
  refine ⟨h.first_eq hl, fun k hk => ?_, h.nodup l hl, h.small hl, h.node_lt hl⟩
  rw [h.next_eq hl (split_at hk), headD_drop]
theorem Inv.way_back : Way (s.last l) s.prev (ls.getD l []).reverse := by
  refine ⟨h.last_eq hl, fun k hk => ?_, by rw [List.Nodup, List.pairwise_reverse]; exact (h.nodup l hl).imp (fun h => Ne.symm h), by rw [List.length_reverse]; exact h.small hl, fun x hx => h.node_lt hl x (List.mem_reverse.1 hx)⟩
  have hL : ls.getD l [] = ((ls.getD l []).reverse.drop (k + 1)).reverse ++ (ls.getD l []).reverse.getD k 0 :: ((ls.getD l []).reverse.take k).reverse := by
    have := split_at hk
    have h2 : ls.getD l [] = ((ls.getD l []).reverse.take k ++ (ls.getD l []).reverse.getD k 0 :: (ls.getD l []).reverse.drop (k + 1)).reverse := by rw [← this, List.reverse_reverse]
    refine h2.trans ?_
    simp
  rw [h.prev_eq hl hL, List.reverse_reverse, headD_drop]
end
theorem first_out {s : St} {i : Int} (h : ¬ s.hasList i) : s.first i = (0, false) := if_neg h
theorem last_out {s : St} {i : Int} (h : ¬ s.hasList i) : s.last i = (0, false) := if_neg h

/-! What the turning calls leave. -/
theorem Inv.wrong_eq {s : St} {ls : List (List Int)} (h : Inv s ls) (l n : Int) : s.wrong l n = if s.hasList l ∧ s.hasNode n then (if ∃ j : Nat, j < ls.length ∧ n ∈ ls.getD j [] then 8 else 0) else 1 := by
  unfold St.wrong
  by_cases hc : s.hasList l ∧ s.hasNode n
  · rw [if_pos hc, if_pos hc]
    have e : 0 < (s.lk n).list ↔ ∃ j : Nat, j < ls.length ∧ n ∈ ls.getD j [] := by
      rw [← h.stands_iff]
      exact ⟨fun h' => ⟨hc.2.1, hc.2.2, h'⟩, fun h' => h'.2.2⟩
    by_cases h2 : 0 < (s.lk n).list
    · rw [if_pos h2, if_pos (e.1 h2)]
    · rw [if_neg h2, if_neg (fun h' => h2 (e.2 h'))]
  · rw [if_neg hc, if_neg hc]
theorem Inv.wrong_free {s : St} {ls : List (List Int)} (h : Inv s ls) {l n : Int} (h0 : s.wrong l n = 0) : ∀ j : Nat, j < ls.length → n ∉ ls.getD j [] := by
  intro j hj hm
  have hs := (h.stands_iff n).2 ⟨j, hj, hm⟩
  unfold St.wrong at h0
  rw [if_pos (wrong_zero h0), if_pos hs.2.2] at h0
  cases h0
theorem Inv.ahead {s : St} {ls : List (List Int)} (h : Inv s ls) (l : Nat) (n : Int) (hl : l < ls.length) : Inv (s.ahead l n) (if s.wrong l n = 0 then ls.set l (n :: ls.getD l []) else ls) := by
  unfold St.ahead
  by_cases h0 : s.wrong l n = 0
  · rw [if_pos h0, if_pos h0, h.ends l hl]
    exact h.join hl (A := []) (B := ls.getD l []) rfl (wrong_zero h0).2 (h.wrong_free h0)
  · rw [if_neg h0, if_neg h0]; exact h
theorem Inv.behind {s : St} {ls : List (List Int)} (h : Inv s ls) (l : Nat) (n : Int) (hl : l < ls.length) : Inv (s.behind l n) (if s.wrong l n = 0 then ls.set l (ls.getD l [] ++ [n]) else ls) := by
  unfold St.behind
  by_cases h0 : s.wrong l n = 0
  · rw [if_pos h0, if_pos h0, h.ends l hl]
    exact h.join hl (A := ls.getD l []) (B := []) (by simp) (wrong_zero h0).2 (h.wrong_free h0)
  · rw [if_neg h0, if_neg h0]; exact h
theorem Inv.insert {s : St} {ls : List (List Int)} (h : Inv s ls) {l : Nat} (hl : l < ls.length) {A B : List Int} {a n : Int} (hAB : ls.getD l [] = A ++ a :: B) (hn : s.hasNode n) (hno : ∀ j : Nat, j < ls.length → n ∉ ls.getD j []) :
    s.insertErr n a = 0 ∧ Inv (s.insert n a) (ls.set l (A ++ a :: n :: B)) := by
  have hst := h.stands_mem hl (n := a) (by rw [hAB]; simp)
  have hn0 : ¬ 0 < (s.lk n).list := fun h' => by
    obtain ⟨j, hj, hm⟩ := (h.stands_iff n).1 ⟨hn.1, hn.2, h'⟩
    exact hno j hj hm
  have ha0 : ¬ (s.lk a).list = 0 := by have := hst.2.2; omega
  have he : s.insertErr n a = 0 := by unfold St.insertErr; rw [if_pos ⟨hn, hst.1, hst.2.1⟩, if_neg hn0, if_neg ha0]
  refine ⟨he, ?_⟩
  unfold St.insert
  rw [if_pos he, h.lk_at hl hAB]
  have e1 : (A ++ [a]).getLastD (-1) = a := by rw [getLastD_app]; rfl
  have := h.join hl (A := A ++ [a]) (B := B) (by rw [hAB]; simp) hn hno
  rw [e1] at this
  simpa using this
theorem Inv.remove {s : St} {ls : List (List Int)} (h : Inv s ls) {l : Nat} (hl : l < ls.length) {A B : List Int} {n : Int} (hAB : ls.getD l [] = A ++ n :: B) : Inv (s.remove n) (ls.set l (A ++ B)) := by
  unfold St.remove
  rw [if_pos (h.stands_mem hl (by rw [hAB]; simp))]
  exact h.unlink hl hAB
theorem Inv.many_pos {s : St} {ls : List (List Int)} (h : Inv s ls) (n : Int) : ∀ l, s.hasList l → s.stands n → (s.lk n).list = l + 1 → 1 ≤ (s.en l).many := by
  intro l hl hs he
  obtain ⟨j, hj, hm⟩ := (h.stands_iff n).1 hs
  obtain ⟨A, B, hAB⟩ := List.append_of_mem hm
  rw [h.lk_at hj hAB] at he
  obtain rfl : l = (j : Int) := by simpa using he.symm
  rw [h.ends j hj, hAB]
  simp
  omega
end Chain
end Go.Proofs.Ythjgjfelbagljaa
