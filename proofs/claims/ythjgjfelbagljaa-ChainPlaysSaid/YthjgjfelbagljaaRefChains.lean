/- hutchref04 over lists: what the printed functions answer. hutchref04's turning functions beside the chain's states. -/
import Derived.Test.YthjgjfelbagljaaPChainPlaysx2
import Derived.Test.YthjgjfelbagljaaPChainPlaysx3
import Derived.Test.YthjgjfelbagljaaPChainRem
import Derived.Test.YthjgjfelbagljaaJoined
import Derived.Test.YthjgjfelbagljaaChainAlive
import Derived.Test.YthjgjfelbagljaaChainLeaves
namespace Go.Proofs.Ythjgjfelbagljaa
open Go.RowKit Go.Proofs.YthjgjfelbagljaaW.PrintWords Go.Proofs.YthjgjfelbagljaaW.PrintLast Go.Proofs.YthjgjfelbagljaaW.PrintMore Go.Proofs.Ythjgjfelbagljaa.PChainPlays
namespace Ref04

abbrev El := S98
/-- The lists as the reference has them. -/
def rows (ls : List (List Int)) : List El := ls.map (fun l => (⟨l⟩ : El))
theorem rows_length (ls : List (List Int)) : (rows ls).length = ls.length := List.length_map _
theorem rows_get (ls : List (List Int)) (i : Nat) : (rd_T98 (rows ls) (i : Int)).f0 = ls.getD i [] := by
  unfold rd_T98 rows
  rw [Int.toNat_natCast, List.getD_eq_getElem?_getD, List.getD_eq_getElem?_getD, List.getElem?_map]
  cases ls[i]? <;> rfl
theorem rd_nat (l : List Int) (k : Nat) : rd l (k : Int) = l.getD k 0 := by unfold rd; rw [Int.toNat_natCast]
theorem wrap_succ (k : Nat) (h : (k : Int) ≤ 1000000) : wrap64 ((k : Int) + 1) = ((k + 1 : Nat) : Int) := by unfold wrap64; omega

section
variable (ls : List (List Int)) (n nodes : Int) (r : Int × Int)
set_option maxRecDepth 100000 in
theorem l1_skip {i : Nat} (hi : i < ls.length) (hi8 : (i : Int) ≤ 1000) (h : ∃ K, hutchref04_Place.l0 K n ((i + 1 : Nat) : Int) nodes (rows ls) = some r) : ∀ (d p : Nat), (ls.getD i []).length - p = d → (p : Int) ≤ 1000 → ((ls.getD i []).length : Int) ≤ 1000 → n ∉ (ls.getD i []).drop p →
    ∃ K, hutchref04_Place.l1 K n (i : Int) (p : Int) nodes (rows ls) = some r := by
  intro d
  induction d with
  | zero =>
    intro p hd hp hl hn
    obtain ⟨K, hK⟩ := h
    refine ⟨K + 1, ?_⟩
    rw [hutchref04_Place.l1, if_pos (by omega), if_pos (by rw [rows_length]; omega), rows_get, if_neg (by omega), wrap_succ i (by omega)]
    exact hK
  | succ d ih =>
    intro p hd hp hl hn
    have hpl : p < (ls.getD i []).length := by omega
    rw [List.drop_eq_getElem_cons hpl] at hn
    obtain ⟨K, hK⟩ := ih (p + 1) (by omega) (by omega) hl (fun h => hn (List.mem_cons_of_mem _ h))
    refine ⟨K + 1, ?_⟩
    rw [hutchref04_Place.l1, if_pos (by omega), if_pos (by rw [rows_length]; omega), rows_get, if_pos (by omega), if_pos (by omega), rd_nat, if_neg, wrap_succ p (by omega)]
    · exact hK
    · rw [List.getD_eq_getElem?_getD, List.getElem?_eq_getElem hpl]
      intro e
      exact hn (by rw [← e]; exact List.mem_cons_self)
set_option maxRecDepth 100000 in
theorem l1_hit {i : Nat} (hi : i < ls.length) (hi8 : (i : Int) ≤ 1000) {A B : List Int} (hAB : ls.getD i [] = A ++ n :: B) (hA : n ∉ A) (hl : ((ls.getD i []).length : Int) ≤ 1000) : ∀ (d p : Nat), A.length - p = d → p ≤ A.length →
    ∃ K, hutchref04_Place.l1 K n (i : Int) (p : Int) nodes (rows ls) = some ((i : Int), (A.length : Int)) := by
  have hlen : (ls.getD i []).length = A.length + 1 + B.length := by rw [hAB]; simp; omega
  intro d
  induction d with
  | zero =>
    intro p hd hp
    obtain rfl : p = A.length := by omega
    refine ⟨1, ?_⟩
    rw [hutchref04_Place.l1, if_pos (by omega), if_pos (by rw [rows_length]; omega), rows_get, if_pos (by omega), if_pos (by omega), rd_nat, if_pos]
    rw [hAB, List.getD_eq_getElem?_getD, List.getElem?_append_right (Nat.le_refl _), Nat.sub_self]
    rfl
  | succ d ih =>
    intro p hd hp
    have hpA : p < A.length := by omega
    obtain ⟨K, hK⟩ := ih (p + 1) (by omega) (by omega)
    refine ⟨K + 1, ?_⟩
    rw [hutchref04_Place.l1, if_pos (by omega), if_pos (by rw [rows_length]; omega), rows_get, if_pos (by omega), if_pos (by omega), rd_nat, if_neg, wrap_succ p (by omega)]
    · exact hK
    · rw [hAB, List.getD_eq_getElem?_getD, List.getElem?_append_left hpA, List.getElem?_eq_getElem hpA]
      intro e
      exact hA (by rw [← e]; exact List.getElem_mem hpA)
theorem l0_none (h8 : (ls.length : Int) ≤ 8) (hlen : ∀ i, i < ls.length → ((ls.getD i []).length : Int) ≤ 1000) (hn : ∀ i, i < ls.length → n ∉ ls.getD i []) : ∀ (d i : Nat), ls.length - i = d → i ≤ ls.length →
    ∃ K, hutchref04_Place.l0 K n (i : Int) nodes (rows ls) = some (-1, -1) := by
  intro d
  induction d with
  | zero =>
    intro i hd hi
    exact ⟨1, by rw [hutchref04_Place.l0, if_neg (by rw [rows_length]; omega)]⟩
  | succ d ih =>
    intro i hd hi
    have hil : i < ls.length := by omega
    obtain ⟨K, hK⟩ := l1_skip ls n nodes (-1, -1) hil (by omega) (ih (i + 1) (by omega) (by omega)) _ 0 rfl (by decide) (hlen i hil) (hn i hil)
    exact ⟨K + 1, by rw [hutchref04_Place.l0, if_pos (by rw [rows_length]; omega)]; exact hK⟩
theorem l0_some (h8 : (ls.length : Int) ≤ 8) (hlen : ∀ i, i < ls.length → ((ls.getD i []).length : Int) ≤ 1000) {j : Nat} (hj : j < ls.length) {A B : List Int} (hAB : ls.getD j [] = A ++ n :: B) (hA : n ∉ A) (hn : ∀ i, i < j → n ∉ ls.getD i []) : ∀ (d i : Nat), j - i = d → i ≤ j →
    ∃ K, hutchref04_Place.l0 K n (i : Int) nodes (rows ls) = some ((j : Int), (A.length : Int)) := by
  intro d
  induction d with
  | zero =>
    intro i hd hi
    obtain rfl : i = j := by omega
    obtain ⟨K, hK⟩ := l1_hit ls n nodes hj (by omega) hAB hA (hlen i hj) _ 0 rfl (Nat.zero_le _)
    exact ⟨K + 1, by rw [hutchref04_Place.l0, if_pos (by rw [rows_length]; omega)]; exact hK⟩
  | succ d ih =>
    intro i hd hi
    have hil : i < ls.length := by omega
    obtain ⟨K, hK⟩ := l1_skip ls n nodes ((j : Int), (A.length : Int)) hil (by omega) (ih (i + 1) (by omega) (by omega)) _ 0 rfl (by decide) (hlen i hil) (hn i (by omega))
    exact ⟨K + 1, by rw [hutchref04_Place.l0, if_pos (by rw [rows_length]; omega)]; exact hK⟩
end
/-- So few, so short. -/
structure Few (ls : List (List Int)) : Prop where
  many : (ls.length : Int) ≤ 8
  len : ∀ i, i < ls.length → ((ls.getD i []).length : Int) ≤ 1000
theorem place_none {ls : List (List Int)} (h : Few ls) (n nodes : Int) (hn : ∀ i, i < ls.length → n ∉ ls.getD i []) : ∃ K, hutchref04_Place.f K nodes (rows ls) n = some (-1, -1) :=
  l0_none ls n nodes h.many h.len hn _ 0 rfl (Nat.zero_le _)
theorem place_some {ls : List (List Int)} (h : Few ls) (n nodes : Int) {j : Nat} (hj : j < ls.length) {A B : List Int} (hAB : ls.getD j [] = A ++ n :: B) (hA : n ∉ A) (hn : ∀ i, i < j → n ∉ ls.getD i []) : ∃ K, hutchref04_Place.f K nodes (rows ls) n = some ((j : Int), (A.length : Int)) :=
  l0_some ls n nodes h.many h.len hj hAB hA hn _ 0 rfl (Nat.zero_le _)
end Ref04
end Go.Proofs.Ythjgjfelbagljaa
namespace Go.Proofs.Ythjgjfelbagljaa
open Go.RowKit Go.Proofs.YthjgjfelbagljaaW.PrintWords Go.Proofs.YthjgjfelbagljaaW.PrintLast Go.Proofs.YthjgjfelbagljaaW.PrintMore Go.Proofs.Ythjgjfelbagljaa.PChainPlays
namespace Ref04
open Chain (Inv St)

theorem place_le {nodes n : Int} {ls : List El} {r : Int × Int} : ∀ {K K' : Nat}, K ≤ K' → hutchref04_Place.f K nodes ls n = some r → hutchref04_Place.f K' nodes ls n = some r := by
  intro K K' h
  obtain ⟨d, rfl⟩ : ∃ d, K' = K + d := ⟨K' - K, by omega⟩
  induction d with
  | zero => exact id
  | succ d ih => exact fun h' => hutchref04_Place.mono _ _ _ _ _ (ih (by omega) h')
theorem joined_f (a b : List Int) (h : (a.length : Int) + b.length ≤ 1000000) : hutchref04_Joined.f a b = some (a ++ b) := by
  unfold hutchref04_Joined.f
  simp only [Option.bind_some, List.nil_append, List.length_nil, Nat.zero_add]
  rw [if_pos (by omega), if_pos (by omega)]
theorem with_f (nodes : Int) (ls : List (List Int)) (i : Nat) (hi : i < ls.length) (h8 : (ls.length : Int) ≤ 8) (l : List Int) : hutchref04_with.f nodes (rows ls) (i : Int) l = some (nodes, rows (ls.set i l)) := by
  unfold hutchref04_with.f
  simp only [Option.bind_some, List.nil_append, List.length_nil, Nat.zero_add]
  rw [if_pos (by rw [rows_length]; omega), if_pos (by omega), if_pos (by rw [rows_length]; omega)]
  unfold rows
  rw [Int.toNat_natCast, List.map_set]
theorem node_f (nodes n : Int) (ls : List El) (h : -2147483648 ≤ n ∧ n < 2147483648) : hutchref04_node.f nodes ls n = some (decide (0 ≤ n ∧ n < nodes)) := by
  unfold hutchref04_node.f
  by_cases h0 : 0 ≤ n
  · rw [if_pos h0, show wrap64 n = n by unfold wrap64; omega]
    simp [h0]
  · rw [if_neg h0]
    simp [h0]

/-- Where a node stands. -/
theorem place_in {s : St} {ls : List (List Int)} (h : Inv s ls) (hf : Few ls) (nodes : Int) {n : Int} {j : Nat} (hj : j < ls.length) (hm : n ∈ ls.getD j []) :
    ∃ A B K, ls.getD j [] = A ++ n :: B ∧ hutchref04_Place.f K nodes (rows ls) n = some ((j : Int), (A.length : Int)) := by
  obtain ⟨A, B, hAB⟩ := List.append_of_mem hm
  have hnd := h.nodup j hj
  rw [hAB, List.nodup_append] at hnd
  obtain ⟨K, hK⟩ := place_some hf n nodes hj hAB (fun hA => hnd.2.2 n hA n List.mem_cons_self rfl) (fun i hi hmi => h.apart i j (by omega) hj (by omega) n hmi hm)
  exact ⟨A, B, K, hAB, hK⟩

/-- One node more, at most, in one list. -/
structure Step (ls ls' : List (List Int)) : Prop where
  len : ls'.length = ls.length
  more : ∀ i, i < ls.length → (ls'.getD i []).length ≤ (ls.getD i []).length + 1
theorem Step.refl (ls : List (List Int)) : Step ls ls := ⟨rfl, fun _ _ => Nat.le_succ _⟩
theorem Step.set {ls : List (List Int)} {j : Nat} {l : List Int} (h : l.length ≤ (ls.getD j []).length + 1) : Step ls (ls.set j l) := by
  refine ⟨List.length_set, fun i hi => ?_⟩
  by_cases e : j = i
  · subst e
    rw [List.getD_eq_getElem?_getD, List.getElem?_set_self hi]
    exact h
  · rw [List.getD_eq_getElem?_getD, List.getElem?_set_ne e, ← List.getD_eq_getElem?_getD]
    exact Nat.le_succ _

set_option maxRecDepth 100000 in
theorem put_spec {s : St} {ls : List (List Int)} (h : Inv s ls) (hf : Few ls) (l n : Int) (hw : -2147483648 ≤ n ∧ n < 2147483648) (bh : Bool) :
    ∃ K ls', hutchref04_Put.f K (s.links.length : Int) (rows ls) l n bh = some ((s.links.length : Int), rows ls', s.wrong l n) ∧ Inv (if bh then s.behind l n else s.ahead l n) ls' ∧ Step ls ls' := by
  have hno : ∀ l', s.wrong l' n ≠ 0 → s.behind l' n = s ∧ s.ahead l' n = s := fun l' h' => ⟨if_neg h', if_neg h'⟩
  by_cases hl : s.hasList l
  · obtain ⟨i, rfl⟩ : ∃ i : Nat, l = (i : Int) := ⟨l.toNat, by have := hl.1; omega⟩
    have hil : i < ls.length := by have := hl.2; have := h.len; omega
    by_cases hn : s.hasNode n
    · have hd : decide (0 ≤ n ∧ n < (s.links.length : Int)) = true := decide_eq_true hn
      by_cases hin : ∃ j : Nat, j < ls.length ∧ n ∈ ls.getD j []
      · have hwr : s.wrong (i : Int) n = 8 := by rw [h.wrong_eq, if_pos ⟨hl, hn⟩, if_pos hin]
        obtain ⟨j, hj, hm⟩ := hin
        obtain ⟨A, B, K, hAB, hK⟩ := place_in h hf (s.links.length : Int) hj hm
        refine ⟨K + 1, ls, ?_, ?_, Step.refl _⟩
        · unfold hutchref04_Put.f
          rw [if_neg (by omega), if_neg (by rw [rows_length]; omega), node_f _ _ _ hw, hd]
          show hutchref04_Put.j0 (K + 1) _ _ _ false _ _ = _
          rw [hutchref04_Put.j0, if_neg (by decide), hK]
          rw [Option.bind_some]
          dsimp only
          rw [if_pos (by omega), hwr]
        · have := hno i (by rw [hwr]; decide)
          cases bh <;> simp [this, h]
      · have hwr : s.wrong (i : Int) n = 0 := by rw [h.wrong_eq, if_pos ⟨hl, hn⟩, if_neg hin]
        obtain ⟨K, hK⟩ := place_none hf n (s.links.length : Int) (fun j hj hm => hin ⟨j, hj, hm⟩)
        have hlen := hf.len i hil
        have hb := h.behind i n hil
        have ha := h.ahead i n hil
        rw [if_pos hwr] at hb ha
        cases bh
        · refine ⟨K + 1, _, ?_, ha, Step.set (by simp)⟩
          unfold hutchref04_Put.f
          rw [if_neg (by omega), if_neg (by rw [rows_length]; omega), node_f _ _ _ hw, hd]
          show hutchref04_Put.j0 (K + 1) _ _ _ false _ _ = _
          rw [hutchref04_Put.j0, if_neg (by decide), hK]
          rw [Option.bind_some]
          dsimp only
          rw [if_neg (by decide), if_pos (by omega), if_pos (by rw [rows_length]; omega), if_neg (by decide), rows_get, joined_f _ _ (by rw [List.length_singleton]; omega)]
          rw [Option.bind_some, with_f _ _ _ hil hf.many, hwr]
          rfl
        · refine ⟨K + 1, _, ?_, hb, Step.set (by simp)⟩
          unfold hutchref04_Put.f
          rw [if_neg (by omega), if_neg (by rw [rows_length]; omega), node_f _ _ _ hw, hd]
          show hutchref04_Put.j0 (K + 1) _ _ _ false _ _ = _
          rw [hutchref04_Put.j0, if_neg (by decide), hK]
          rw [Option.bind_some]
          dsimp only
          rw [if_neg (by decide), if_pos (by omega), if_pos (by rw [rows_length]; omega), if_pos rfl, rows_get, joined_f _ _ (by rw [List.length_singleton]; omega)]
          rw [Option.bind_some, with_f _ _ _ hil hf.many, hwr]
          rfl
    · have hwr : s.wrong (i : Int) n = 1 := by rw [h.wrong_eq, if_neg (fun h' => hn h'.2)]
      have hd : decide (0 ≤ n ∧ n < (s.links.length : Int)) = false := decide_eq_false hn
      refine ⟨1, ls, ?_, ?_, Step.refl _⟩
      · unfold hutchref04_Put.f
        rw [if_neg (by omega), if_neg (by rw [rows_length]; omega), node_f _ _ _ hw, hd, hwr]
        rfl
      · have := hno i (by rw [hwr]; decide)
        cases bh <;> simp [this, h]
  · have hwr : s.wrong l n = 1 := by rw [h.wrong_eq, if_neg (fun h' => hl h'.1)]
    refine ⟨1, ls, ?_, ?_, Step.refl _⟩
    · unfold hutchref04_Put.f
      rw [hwr]
      by_cases h0 : l < 0
      · rw [if_pos h0]; rfl
      · rw [if_neg h0, if_pos (by rw [rows_length]; unfold St.hasList at hl; have := h.len; omega)]; rfl
    · have := hno l (by rw [hwr]; decide)
      cases bh <;> simp [this, h]

theorem place_free {s : St} {ls : List (List Int)} (_ : Inv s ls) (hf : Few ls) (nodes n : Int) (hin : ¬ ∃ j : Nat, j < ls.length ∧ n ∈ ls.getD j []) : ∃ K, hutchref04_Place.f K nodes (rows ls) n = some (-1, -1) :=
  place_none hf n nodes (fun j hj hm => hin ⟨j, hj, hm⟩)
theorem mark_pos {s : St} {ls : List (List Int)} (h : Inv s ls) {n : Int} (hn : s.hasNode n) : 0 < (s.lk n).list ↔ ∃ j : Nat, j < ls.length ∧ n ∈ ls.getD j [] := by
  rw [← h.stands_iff]
  exact ⟨fun h' => ⟨hn.1, hn.2, h'⟩, fun h' => h'.2.2⟩
theorem mark_zero {s : St} {ls : List (List Int)} (h : Inv s ls) {n : Int} (hn : s.hasNode n) (hin : ¬ ∃ j : Nat, j < ls.length ∧ n ∈ ls.getD j []) : (s.lk n).list = 0 :=
  h.free n hn.1 (fun l hl hm => hin ⟨l, hl, hm⟩)

set_option maxRecDepth 100000 in
theorem insert_spec {s : St} {ls : List (List Int)} (h : Inv s ls) (hf : Few ls) (n a : Int) (hw : -2147483648 ≤ n ∧ n < 2147483648) (hwa : -2147483648 ≤ a ∧ a < 2147483648) :
    ∃ K ls', hutchref04_Insert.f K (s.links.length : Int) (rows ls) n a = some ((s.links.length : Int), rows ls', s.insertErr n a) ∧ Inv (s.insert n a) ls' ∧ Step ls ls' := by
  have hno : s.insertErr n a ≠ 0 → s.insert n a = s := fun h' => if_neg h'
  by_cases hn : s.hasNode n
  · have hd : decide (0 ≤ n ∧ n < (s.links.length : Int)) = true := decide_eq_true hn
    by_cases ha : s.hasNode a
    · have hda : decide (0 ≤ a ∧ a < (s.links.length : Int)) = true := decide_eq_true ha
      have start : ∀ K, hutchref04_Insert.f K (s.links.length : Int) (rows ls) n a = hutchref04_Insert.j0 K n a false (s.links.length : Int) (rows ls) := by
        intro K
        unfold hutchref04_Insert.f
        rw [node_f _ _ _ hw, hd, Option.bind_some]
        simp only [Bool.not_true, node_f _ _ _ hwa, hda, Option.bind_some]
        rfl
      by_cases hin : ∃ j : Nat, j < ls.length ∧ n ∈ ls.getD j []
      · have hwr : s.insertErr n a = 8 := by
          unfold St.insertErr
          rw [if_pos ⟨hn, ha⟩, if_pos ((mark_pos h hn).2 hin)]
        obtain ⟨j, hj, hm⟩ := hin
        obtain ⟨A, B, K, hAB, hK⟩ := place_in h hf (s.links.length : Int) hj hm
        refine ⟨K + 1, ls, ?_, ?_, Step.refl _⟩
        · rw [start, hutchref04_Insert.j0, if_neg (by decide), hK, Option.bind_some]
          dsimp only
          rw [if_pos (by omega), hwr]
        · rw [hno (by rw [hwr]; decide)]; exact h
      · have hz : ¬ 0 < (s.lk n).list := fun h' => hin ((mark_pos h hn).1 h')
        obtain ⟨K, hK⟩ := place_free h hf (s.links.length : Int) n hin
        by_cases hina : ∃ j : Nat, j < ls.length ∧ a ∈ ls.getD j []
        · obtain ⟨j, hj, hm⟩ := hina
          obtain ⟨A, B, K2, hAB, hK2⟩ := place_in h hf (s.links.length : Int) hj hm
          obtain ⟨hwr, hinv⟩ := h.insert hj hAB hn (fun j' hj' hm' => hin ⟨j', hj', hm'⟩)
          have hlen := hf.len j hj
          have hlA : (ls.getD j []).length = A.length + 1 + B.length := by rw [hAB]; simp; omega
          have e1 : wrap64 ((A.length : Int) + 1) = ((A.length + 1 : Nat) : Int) := wrap_succ _ (by omega)
          have e2 : (ls.getD j []).take (A.length + 1) = A ++ [a] := by rw [hAB, List.take_length_add_append]; rfl
          have e3 : (ls.getD j []).drop (A.length + 1) = B := by rw [hAB, List.drop_length_add_append]; rfl
          refine ⟨K + K2 + 1, ls.set j (A ++ a :: n :: B), ?_, hinv, Step.set (by rw [hlA]; simp; omega)⟩
          rw [start, hutchref04_Insert.j0, if_neg (by decide), place_le (by omega) hK, Option.bind_some]
          dsimp only
          rw [if_neg (by decide), place_le (by omega) hK2, Option.bind_some]
          dsimp only
          rw [if_neg (by omega), if_pos (by omega), if_pos (by rw [rows_length]; omega), e1, if_pos (by omega), rows_get, if_pos (by omega), Int.toNat_natCast, e2,
            joined_f _ _ (by rw [List.length_append, List.length_singleton, List.length_singleton]; omega), Option.bind_some, e3,
            joined_f _ _ (by rw [List.length_append, List.length_append, List.length_singleton, List.length_singleton]; omega), Option.bind_some, with_f _ _ _ hj hf.many, hwr, Option.bind_some]
          simp
        · have hwr : s.insertErr n a = 5 := by
            unfold St.insertErr
            rw [if_pos ⟨hn, ha⟩, if_neg hz, if_pos (mark_zero h ha hina)]
          obtain ⟨K2, hK2⟩ := place_free h hf (s.links.length : Int) a hina
          refine ⟨K + K2 + 1, ls, ?_, ?_, Step.refl _⟩
          · rw [start, hutchref04_Insert.j0, if_neg (by decide), place_le (by omega) hK, Option.bind_some]
            dsimp only
            rw [if_neg (by decide), place_le (by omega) hK2, Option.bind_some]
            dsimp only
            rw [if_pos (by decide), hwr]
          · rw [hno (by rw [hwr]; decide)]; exact h
    · have hwr : s.insertErr n a = 1 := by unfold St.insertErr; rw [if_neg (fun h' => ha h'.2)]
      have hda : decide (0 ≤ a ∧ a < (s.links.length : Int)) = false := decide_eq_false ha
      refine ⟨1, ls, ?_, ?_, Step.refl _⟩
      · unfold hutchref04_Insert.f
        rw [node_f _ _ _ hw, hd, Option.bind_some]
        simp only [Bool.not_true, node_f _ _ _ hwa, hda, Option.bind_some, hwr]
        rfl
      · rw [hno (by rw [hwr]; decide)]; exact h
  · have hwr : s.insertErr n a = 1 := by unfold St.insertErr; rw [if_neg (fun h' => hn h'.1)]
    have hd : decide (0 ≤ n ∧ n < (s.links.length : Int)) = false := decide_eq_false hn
    refine ⟨1, ls, ?_, ?_, Step.refl _⟩
    · unfold hutchref04_Insert.f
      rw [node_f _ _ _ hw, hd, Option.bind_some, hwr]
      rfl
    · rw [hno (by rw [hwr]; decide)]; exact h

set_option maxRecDepth 100000 in
theorem remove_spec {s : St} {ls : List (List Int)} (h : Inv s ls) (hf : Few ls) (n : Int) :
    ∃ K ls', hutchref04_Remove.f K (s.links.length : Int) (rows ls) n = some ((s.links.length : Int), rows ls', decide (s.stands n)) ∧ Inv (s.remove n) ls' ∧ Step ls ls' := by
  by_cases hin : ∃ j : Nat, j < ls.length ∧ n ∈ ls.getD j []
  · have hst : s.stands n := (h.stands_iff n).2 hin
    obtain ⟨j, hj, hm⟩ := hin
    obtain ⟨A, B, K, hAB, hK⟩ := place_in h hf (s.links.length : Int) hj hm
    have hinv := h.remove hj hAB
    have hlen := hf.len j hj
    have hlA : (ls.getD j []).length = A.length + 1 + B.length := by rw [hAB]; simp; omega
    have e1 : wrap64 ((A.length : Int) + 1) = ((A.length + 1 : Nat) : Int) := wrap_succ _ (by omega)
    have e2 : (ls.getD j []).take A.length = A := by rw [hAB, List.take_left]
    have e3 : (ls.getD j []).drop (A.length + 1) = B := by rw [hAB, List.drop_length_add_append]; rfl
    refine ⟨K, ls.set j (A ++ B), ?_, hinv, Step.set (by rw [hlA]; simp; omega)⟩
    unfold hutchref04_Remove.f
    rw [hK, Option.bind_some]
    dsimp only
    rw [if_neg (by omega), if_pos (by omega), if_pos (by rw [rows_length]; omega), if_pos (by omega), rows_get, if_pos (by omega), e1, if_pos (by omega), if_pos (by omega), Int.toNat_natCast, Int.toNat_natCast, e2, e3,
      joined_f _ _ (by omega), Option.bind_some, with_f _ _ _ hj hf.many, Option.bind_some, decide_eq_true hst]
  · have hst : ¬ s.stands n := fun h' => hin ((h.stands_iff n).1 h')
    obtain ⟨K, hK⟩ := place_free h hf (s.links.length : Int) n hin
    refine ⟨K, ls, ?_, ?_, Step.refl _⟩
    · unfold hutchref04_Remove.f
      rw [hK, Option.bind_some]
      dsimp only
      rw [if_pos (by decide), decide_eq_false hst]
    · rw [show s.remove n = s from if_neg hst]; exact h
end Ref04
end Go.Proofs.Ythjgjfelbagljaa
