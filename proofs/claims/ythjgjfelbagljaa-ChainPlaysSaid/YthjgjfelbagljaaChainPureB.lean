/- The linked nodes stand as lists: what is removed; what the walks need; the ways through a list. -/
import Derived.Test.YthjgjfelbagljaaChainPure
import Derived.Test.YthjgjfelbagljaaChainH
namespace Go.Proofs.Ythjgjfelbagljaa
namespace Chain

theorem clear_len (s : St) (n : Int) : (s.clear n).links.length = s.links.length ∧ (s.clear n).lists = s.lists := by
  simp [St.clear, St.setPrev, St.setNext, St.setMark]
theorem lk_clear (s : St) (n y : Int) (hn : s.hasNode n) (hy : 0 ≤ y) : (s.clear n).lk y = if y = n then ⟨0, 0, 0⟩ else s.lk y := by
  have h1 := (hasNode_iff s (s.setPrev n 0) (set_links_length s n 0).1 n).2 hn
  have h2 := (hasNode_iff (s.setPrev n 0) ((s.setPrev n 0).setNext n 0) (set_links_length _ n 0).2.1 n).2 h1
  unfold St.clear
  rw [lk_setMark _ _ _ _ h2 hy, lk_setNext _ _ _ _ h1 hn.1, lk_setNext _ _ _ _ h1 hy, lk_setPrev _ _ _ _ hn hn.1, lk_setPrev _ _ _ _ hn hy]
  by_cases h : y = n
  · subst h; simp
  · simp [h]

/-- What unlink leaves. -/
theorem unlink_len (s : St) (n : Int) : (s.unlink n).links.length = s.links.length ∧ (s.unlink n).lists.length = s.lists.length := by
  unfold St.unlink
  rw [(clear_len _ _).1, (clear_len _ _).2, (more_len _ _ _).1, (more_len _ _ _).2, (linkX_len _ _ _ _).1, (linkX_len _ _ _ _).2, (linkP_len _ _ _ _).1, (linkP_len _ _ _ _).2]
  exact ⟨rfl, rfl⟩
theorem lk_unlink (s : St) (l p n x y : Int) (hk : s.lk n = ⟨p, x, l + 1⟩) (hn : s.hasNode n) (hp : p = -1 ∨ s.hasNode p) (hx : x = -1 ∨ s.hasNode x) (hpx : p = -1 ∨ p ≠ x) (hy : 0 ≤ y) :
    (s.unlink n).lk y = if y = n then ⟨0, 0, 0⟩ else if y = p then { s.lk p with next := x } else if y = x then { s.lk x with prev := p } else s.lk y := by
  unfold St.unlink
  rw [hk]
  simp only [Int.add_sub_cancel]
  have hx1 := hx.imp id (fun h => (hasNode_iff s (s.linkP l p x) (linkP_len _ _ _ _).1 x).2 h)
  have hn1 := (hasNode_iff s (((s.linkP l p x).linkX l p x).more l (-1)) (by rw [(more_len _ _ _).1, (linkX_len _ _ _ _).1, (linkP_len _ _ _ _).1]) n).2 hn
  rw [lk_clear _ _ _ hn1 hy, lk_more, lk_linkX _ _ _ _ _ hx1 hy]
  by_cases h0 : y = n
  · rw [if_pos h0, if_pos h0]
  · rw [if_neg h0, if_neg h0]
    by_cases h1 : y = x
    · subst h1
      rw [if_pos rfl, lk_linkP _ _ _ _ _ hp hy, if_neg (by rcases hpx with h | h <;> omega), if_neg (by rcases hpx with h | h <;> omega), if_pos rfl]
    · rw [if_neg h1, lk_linkP _ _ _ _ _ hp hy]
      by_cases h2 : y = p
      · subst h2; rw [if_pos rfl, if_pos rfl]
      · rw [if_neg h2, if_neg h2, if_neg h1]
theorem en_unlink (s : St) (l p n x j : Int) (hk : s.lk n = ⟨p, x, l + 1⟩) (hl : s.hasList l) (hj : 0 ≤ j) :
    (s.unlink n).en j = if j = l then ⟨if p = -1 then x else (s.en l).first, if x = -1 then p else (s.en l).last, (s.en l).many + -1⟩ else s.en j := by
  unfold St.unlink
  rw [hk]
  simp only [Int.add_sub_cancel]
  have hl1 := (hasList_iff s (s.linkP l p x) (linkP_len _ _ _ _).2 l).2 hl
  have hl2 := (hasList_iff _ ((s.linkP l p x).linkX l p x) (linkX_len _ _ _ _).2 l).2 hl1
  have e : ∀ (t : St) (m i : Int), (t.clear m).en i = t.en i := fun t m i => rfl
  rw [e, en_more _ _ _ _ hl2 hj, en_linkX _ _ _ _ _ hl1 hl.1, en_linkX _ _ _ _ _ hl1 hj, en_linkP _ _ _ _ _ hl hl.1, en_linkP _ _ _ _ _ hl hj]
  by_cases h : j = l
  · subst h
    by_cases h1 : p = -1 <;> by_cases h2 : x = -1 <;> simp [h1, h2]
  · simp [h]

/-- How a node of a list stands. -/
theorem Inv.lk_at {s : St} {ls : List (List Int)} (h : Inv s ls) {l : Nat} (hl : l < ls.length) {A B : List Int} {n : Int} (hAB : ls.getD l [] = A ++ n :: B) : s.lk n = ⟨A.getLastD (-1), B.headD (-1), (l : Int) + 1⟩ := by
  have hs := h.seg l hl
  rw [hAB, seg_append] at hs
  exact hs.2.1

theorem Inv.unlink {s : St} {ls : List (List Int)} (h : Inv s ls) {l : Nat} (hl : l < ls.length) {A B : List Int} {n : Int} (hAB : ls.getD l [] = A ++ n :: B) : Inv (s.unlink n) (ls.set l (A ++ B)) := by
  have hL : s.hasList (l : Int) := ⟨by omega, by rw [h.len]; omega⟩
  have hnd := h.nodup l hl
  rw [hAB] at hnd
  have hndA := (List.nodup_append.1 hnd).1
  have hndB := (List.nodup_cons.1 (List.nodup_append.1 hnd).2.1)
  have hdisj := (List.nodup_append.1 hnd).2.2
  have hn : s.hasNode n := h.node l hl n (by rw [hAB]; simp)
  have memA : ∀ x ∈ A, s.hasNode x ∧ x ≠ n := fun x hx => ⟨h.node l hl x (by rw [hAB]; exact List.mem_append_left _ hx), fun e => hdisj x hx n List.mem_cons_self e⟩
  have memB : ∀ x ∈ B, s.hasNode x ∧ x ≠ n := fun x hx => ⟨h.node l hl x (by rw [hAB]; exact List.mem_append_right _ (List.mem_cons_of_mem _ hx)), fun e => hndB.1 (e ▸ hx)⟩
  have hdis : ∀ x ∈ A, x ∉ B := fun x hx hb => hdisj x hx x (List.mem_cons_of_mem _ hb) rfl
  have hp : A.getLastD (-1) = -1 ∨ s.hasNode (A.getLastD (-1)) := getLastD_mem.imp id (fun hm => (memA _ hm).1)
  have hx : B.headD (-1) = -1 ∨ s.hasNode (B.headD (-1)) := headD_mem'.imp id (fun hm => (memB _ hm).1)
  have hpx : A.getLastD (-1) = -1 ∨ A.getLastD (-1) ≠ B.headD (-1) := by
    rcases getLastD_mem (L := A) (x := -1) with hm | hm
    · exact .inl hm
    · right
      intro e
      rcases headD_mem' (L := B) (x := -1) with hb | hb
      · rw [e, hb] at hm; have := (memA _ hm).1.1; omega
      · rw [e] at hm; exact hdis _ hm hb
  have hk := h.lk_at hl hAB
  have hlk : ∀ y : Int, 0 ≤ y → _ := fun y hy => lk_unlink s l (A.getLastD (-1)) n (B.headD (-1)) y hk hn hp hx hpx hy
  have hlen := unlink_len s n
  have hen : ∀ j : Int, 0 ≤ j → _ := fun j hj => en_unlink s l (A.getLastD (-1)) n (B.headD (-1)) j hk hL hj
  generalize s.unlink n = s' at hlk hlen hen
  have hsz : (ls.set l (A ++ B)).length = ls.length := List.length_set
  refine ⟨by rw [hlen.2, hsz, h.len], ?_, ?_, ?_, ?_, ?_, ?_, by rw [hsz]; exact h.many, by rw [hlen.1]; exact h.nodes⟩
  · intro j hj
    rw [hsz] at hj
    rw [getD_set_eq _ _ _ _ hl, hen j (by omega)]
    by_cases e : j = l
    · subst e
      rw [if_pos rfl, if_pos rfl, h.ends j hj, hAB]
      have e1 : (if A.getLastD (-1) = -1 then B.headD (-1) else (A ++ n :: B).headD (-1)) = (A ++ B).headD (-1) := by
        cases A with
        | nil => exact if_pos rfl
        | cons a A' =>
          rw [if_neg]
          · rfl
          · intro e
            rcases getLastD_mem (L := a :: A') (x := -1) with hm | hm
            · rw [getLastD_cons'] at e
              rcases getLastD_mem (L := A') (x := a) with h2 | h2
              · rw [h2] at e; have := (memA a List.mem_cons_self).1.1; omega
              · rw [e] at h2; have := (memA _ (List.mem_cons_of_mem _ h2)).1.1; omega
            · rw [e] at hm; have := (memA _ hm).1.1; omega
      have e2 : (if B.headD (-1) = -1 then A.getLastD (-1) else (A ++ n :: B).getLastD (-1)) = (A ++ B).getLastD (-1) := by
        cases B with
        | nil => rw [List.append_nil]; exact if_pos rfl
        | cons b B' =>
          rw [if_neg, getLastD_app, getLastD_app, getLastD_cons']
          have := (memB b List.mem_cons_self).1.1
          show b ≠ -1
          omega
      simp only [e1, e2, List.length_append, List.length_cons]
      congr 1
      omega
    · rw [if_neg (by omega), if_neg e, h.ends j hj]
  · intro j hj
    rw [hsz] at hj
    rw [getD_set_eq _ _ _ _ hl]
    by_cases e : j = l
    · subst e
      rw [if_pos rfl]
      have hs := h.seg j hj
      rw [hAB, seg_append] at hs
      obtain ⟨hsA, _, hsB⟩ := hs
      rw [seg_append]
      refine ⟨?_, ?_⟩
      · rcases List.eq_nil_or_concat A with rfl | ⟨A', a, rfl⟩
        · trivial
        · rw [List.concat_eq_append] at *
          rw [seg_append] at hsA ⊢
          have ha := memA a (by simp)
          have hla : (A' ++ [a]).getLastD (-1) = a := by rw [getLastD_app]; rfl
          rw [hla] at hlk hpx
          refine ⟨seg_congr (fun y hy => ?_) hsA.1, ?_, trivial⟩
          · have hyA := memA y (List.mem_append_left _ hy)
            have hya : y ≠ a := fun e => (List.nodup_append.1 hndA).2.2 y hy a (by simp) e
            rw [hlk y hyA.1.1, if_neg hyA.2, if_neg hya, if_neg]
            intro e'
            rcases headD_mem' (L := B) (x := -1) with hb | hb
            · rw [hb] at e'; have := hyA.1.1; omega
            · rw [← e'] at hb; exact hdis y (List.mem_append_left _ hy) hb
          · rw [hlk a ha.1.1, if_neg ha.2, if_pos rfl, hsA.2.1]
            rfl
      · cases B with
        | nil => trivial
        | cons b B' =>
          have hb := memB b List.mem_cons_self
          refine ⟨?_, seg_congr (fun y hy => ?_) hsB.2⟩
          · rw [hlk b hb.1.1, if_neg hb.2]
            have hbp : b ≠ A.getLastD (-1) := by
              intro e
              rcases getLastD_mem (L := A) (x := -1) with hm | hm
              · rw [hm] at e; have := hb.1.1; omega
              · rw [← e] at hm; exact hdis b hm List.mem_cons_self
            rw [if_neg hbp]
            refine (if_pos rfl).trans ?_
            show ({ s.lk b with prev := A.getLastD (-1) } : Link) = _
            rw [hsB.1]
          · have hyB := memB y (List.mem_cons_of_mem _ hy)
            have hyb : y ≠ b := fun e => (List.nodup_cons.1 hndB.2).1 (e ▸ hy)
            rw [hlk y hyB.1.1, if_neg hyB.2, if_neg]
            · exact if_neg hyb
            intro e
            rcases getLastD_mem (L := A) (x := -1) with hm | hm
            · rw [hm] at e; have := hyB.1.1; omega
            · rw [← e] at hm; exact hdis y hm (List.mem_cons_of_mem _ hy)
    · rw [if_neg e]
      refine seg_congr (fun y hy => ?_) (h.seg j hj)
      have hyn := h.node j hj y hy
      have hyl : y ∉ ls.getD l [] := h.apart j l hj hl e y hy
      rw [hAB, List.mem_append, List.mem_cons, not_or, not_or] at hyl
      rw [hlk y hyn.1, if_neg hyl.2.1, if_neg, if_neg]
      · intro e'
        rcases headD_mem' (L := B) (x := -1) with hb | hb
        · rw [hb] at e'; have := hyn.1; omega
        · rw [← e'] at hb; exact hyl.2.2 hb
      · intro e'
        rcases getLastD_mem (L := A) (x := -1) with hb | hb
        · rw [hb] at e'; have := hyn.1; omega
        · rw [← e'] at hb; exact hyl.1 hb
  · intro j hj y hy
    rw [hsz] at hj
    rw [getD_set_eq _ _ _ _ hl] at hy
    rw [hasNode_iff s s' hlen.1]
    by_cases e : j = l
    · rw [if_pos e] at hy
      rcases List.mem_append.1 hy with hy | hy
      · exact (memA y hy).1
      · exact (memB y hy).1
    · rw [if_neg e] at hy; exact h.node j hj y hy
  · intro y hy hfree
    by_cases hyn : y = n
    · rw [hlk y hy, if_pos hyn]
    have hyAB : y ∉ A ++ B := fun hm => hfree l (by rw [hsz]; exact hl) (by rw [getD_set_eq _ _ _ _ hl, if_pos rfl]; exact hm)
    have hold : ∀ j : Nat, j < ls.length → y ∉ ls.getD j [] := fun j hj hm => by
      by_cases e : j = l
      · subst e; rw [hAB] at hm; simp at hm hyAB; rcases hm with hm | hm | hm
        · exact hyAB.1 hm
        · exact hyn hm
        · exact hyAB.2 hm
      · exact hfree j (by rw [hsz]; exact hj) (by rw [getD_set_eq _ _ _ _ hl, if_neg e]; exact hm)
    rw [List.mem_append, not_or] at hyAB
    rw [hlk y hy, if_neg hyn, if_neg, if_neg]
    · exact h.free y hy hold
    · intro e'
      rcases headD_mem' (L := B) (x := -1) with hb | hb
      · rw [hb] at e'; omega
      · rw [← e'] at hb; exact hyAB.2 hb
    · intro e'
      rcases getLastD_mem (L := A) (x := -1) with hb | hb
      · rw [hb] at e'; omega
      · rw [← e'] at hb; exact hyAB.1 hb
  · intro j hj
    rw [hsz] at hj
    rw [getD_set_eq _ _ _ _ hl]
    by_cases e : j = l
    · rw [if_pos e]
      rw [List.nodup_append]
      exact ⟨hndA, hndB.2, fun x hx y hy => hdisj x hx y (List.mem_cons_of_mem _ hy)⟩
    · rw [if_neg e]; exact h.nodup j hj
  · intro j j' hj hj' hjj y hy
    rw [hsz] at hj hj'
    rw [getD_set_eq _ _ _ _ hl] at hy ⊢
    have sub : ∀ z, z ∈ A ++ B → z ∈ ls.getD l [] := fun z hz => by rw [hAB]; simp at hz ⊢; rcases hz with hz | hz <;> simp [hz]
    by_cases e : j = l
    · rw [if_pos e] at hy
      rw [if_neg (by omega)]
      exact h.apart l j' hl hj' (by omega) y (sub y hy)
    · rw [if_neg e] at hy
      by_cases e' : j' = l
      · rw [if_pos e']
        exact fun hm => h.apart j l hj hl e y hy (sub y hm)
      · rw [if_neg e']; exact h.apart j j' hj hj' hjj y hy

/-! New chains; what the walks need. -/
theorem Inv.new (n m : Nat) (hn : n ≤ 65536) (hm : m ≤ 8) : Inv (St.new n m) (List.replicate m []) := by
  have hg : ∀ l : Nat, (List.replicate m ([] : List Int)).getD l [] = [] := fun l => by
    rw [List.getD_eq_getElem?_getD, List.getElem?_replicate]; split <;> rfl
  have hlk : ∀ y : Int, (St.new n m).lk y = ⟨0, 0, 0⟩ := fun y => by
    simp only [St.new, St.lk]; rw [List.getD_eq_getElem?_getD, List.getElem?_replicate]; split <;> rfl
  refine ⟨by simp [St.new], ?_, ?_, ?_, ?_, ?_, ?_, by simpa using hm, by simpa [St.new] using hn⟩
  · intro l hl
    rw [hg]
    simp only [St.new, St.en]
    rw [List.getD_eq_getElem?_getD, List.getElem?_replicate, if_pos (by simpa using hl)]
    rfl
  · intro l hl; rw [hg]; trivial
  · intro l hl x hx; rw [hg] at hx; cases hx
  · intro y _ _; rw [hlk]
  · intro l hl; rw [hg]; exact List.nodup_nil
  · intro l l' _ _ _ x hx; rw [hg] at hx; cases hx

theorem Inv.cases_node {s : St} {ls : List (List Int)} (h : Inv s ls) (n : Int) (hn : 0 ≤ n) : (s.lk n).list = 0 ∨ ∃ (l : Nat) (A B : List Int), l < ls.length ∧ ls.getD l [] = A ++ n :: B := by
  by_cases hf : ∀ l : Nat, l < ls.length → n ∉ ls.getD l []
  · exact .inl (h.free n hn hf)
  · right
    have : ∃ l : Nat, l < ls.length ∧ n ∈ ls.getD l [] := by
      apply Classical.byContradiction
      intro hc
      exact hf (fun l hl hm => hc ⟨l, hl, hm⟩)
    obtain ⟨l, hl, hm⟩ := this
    obtain ⟨A, B, hAB⟩ := List.append_of_mem hm
    exact ⟨l, A, B, hl, hAB⟩
theorem Inv.stands_iff {s : St} {ls : List (List Int)} (h : Inv s ls) (n : Int) : s.stands n ↔ ∃ l : Nat, l < ls.length ∧ n ∈ ls.getD l [] := by
  constructor
  · intro hs
    rcases h.cases_node n hs.1 with h0 | ⟨l, A, B, hl, hAB⟩
    · have := hs.2.2; omega
    · exact ⟨l, hl, by rw [hAB]; simp⟩
  · rintro ⟨l, hl, hm⟩
    obtain ⟨A, B, hAB⟩ := List.append_of_mem hm
    have hn := h.node l hl n hm
    refine ⟨hn.1, hn.2, ?_⟩
    rw [h.lk_at hl hAB]
    show 0 < (l : Int) + 1
    omega
theorem nodup_small : ∀ (N : Nat) (L : List Nat), L.Nodup → (∀ x ∈ L, x < N) → L.length ≤ N
  | 0, L, _, h => by cases L with | nil => simp | cons a r => exact absurd (h a List.mem_cons_self) (Nat.not_lt_zero _)
  | N + 1, L, hnd, h => by
    by_cases hm : N ∈ L
    · have h1 := List.length_erase_of_mem hm
      have h2 := nodup_small N (L.erase N) (hnd.erase N) (fun x hx => by
        have hx' := (hnd.mem_erase_iff).1 hx
        have := h x hx'.2
        have := hx'.1
        omega)
      omega
    · have := nodup_small N L hnd (fun x hx => by
        have h1 := h x hx
        have h2 : x ≠ N := fun e => hm (e ▸ hx)
        omega)
      omega
theorem nodup_nodes {N : Nat} {L : List Int} (hnd : L.Nodup) (h : ∀ x ∈ L, 0 ≤ x ∧ x < (N : Int)) : L.length ≤ N := by
  have := nodup_small N (L.map Int.toNat) (by
    rw [List.Nodup, List.pairwise_map]
    exact List.Pairwise.imp_of_mem (fun {a b} ha hb hab => by have := h a ha; have := h b hb; omega) hnd) (fun x hx => by
    obtain ⟨y, hy, rfl⟩ := List.mem_map.1 hx
    have := h y hy
    omega)
  simpa using this
theorem Inv.valid {s : St} {ls : List (List Int)} (h : Inv s ls) : Valid s := by
  refine ⟨?_, ?_, ?_⟩
  · intro l hl
    obtain ⟨L, rfl⟩ := Int.eq_ofNat_of_zero_le hl.1
    have hL : L < ls.length := by have := hl.2; rw [h.len] at this; omega
    rw [h.ends L hL]
    refine ⟨?_, ?_, by simp, ?_⟩
    · exact headD_mem'.imp id (fun hm => h.node L hL _ hm)
    · exact getLastD_mem.imp id (fun hm => h.node L hL _ hm)
    · have := nodup_nodes (h.nodup L hL) (h.node L hL)
      have := h.nodes
      show ((ls.getD L []).length : Int) ≤ 65536
      omega
  · intro n hn
    obtain ⟨l, hl, hm⟩ := (h.stands_iff n).1 hn
    obtain ⟨A, B, hAB⟩ := List.append_of_mem hm
    rw [h.lk_at hl hAB]
    have hnd := h.nodup l hl
    rw [hAB] at hnd
    have hndB := (List.nodup_cons.1 (List.nodup_append.1 hnd).2.1)
    have hdisj := (List.nodup_append.1 hnd).2.2
    refine ⟨getLastD_mem.imp id (fun hm => ⟨h.node l hl _ (by rw [hAB]; exact List.mem_append_left _ hm), fun e => hdisj _ hm n List.mem_cons_self e⟩),
      headD_mem'.imp id (fun hm => ⟨h.node l hl _ (by rw [hAB]; exact List.mem_append_right _ (List.mem_cons_of_mem _ hm)), fun e => hndB.1 (by rw [← e]; exact hm)⟩), ?_⟩
    show s.hasList ((l : Int) + 1 - 1)
    exact ⟨by omega, by rw [h.len]; omega⟩
  · intro n
    have e : s.lk n = s.lk (n.toNat : Int) := lk_of_toNat s (Int.toNat_natCast _).symm
    rw [e]
    rcases h.cases_node (n.toNat : Int) (by omega) with h0 | ⟨l, A, B, hl, hAB⟩
    · rw [h0]; omega
    · rw [h.lk_at hl hAB]
      have := h.many
      show 0 ≤ (l : Int) + 1 ∧ (l : Int) + 1 ≤ 8
      omega
end Chain
end Go.Proofs.Ythjgjfelbagljaa
