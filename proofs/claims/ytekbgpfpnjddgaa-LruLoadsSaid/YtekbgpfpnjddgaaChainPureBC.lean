/- The linked nodes stand as lists: what is removed; what the walks need; the ways through a list. The ways through a list; what the calls tell of the lists. -/
import Derived.Test.YtekbgpfpnjddgaaChainPure
import Derived.Test.YtekbgpfpnjddgaaChainEH
namespace Go.Proofs.Ytekbgpfpnjddgaa
namespace Chain

theorem clear_len (s : St) (n : Int) : (s.clear n).links.length = s.links.length ∧ (s.clear n).lists = s.lists := by
  simp [St.clear, St.setPrev, St.setNext, St.setMark]
theorem lk_clear (s : St) (n y : Int) (hn : s.hasNode n) (hy : 0 ≤ y) : (s.clear n).lk y = if y = n then ⟨0, 0, 0⟩ else s.lk y := by
  have h1 := (hasNode_iff s (s.setPrev n 0) (set_links_length s n 0).1 n).2 hn
  have h2 := (hasNode_iff (s.setPrev n 0) ((s.setPrev n 0).setNext n 0) (set_links_length _ n 0).2.1 n).2 h1
  unfold St.clear
  rw [lk_setMark _ _ _ _ h2 hy, lk_setNext _ _ _ _ h1 hn.1, lk_setNext _ _ _ _ h1 hy, lk_setPrev _ _ _ _ hn hn.1, lk_setPrev _ _ _ _ hn hy]
  by_cases h : y = n
  · subst h; simp
  · simp [h]

/-- What unlink leaves. -/
theorem unlink_len (s : St) (n : Int) : (s.unlink n).links.length = s.links.length ∧ (s.unlink n).lists.length = s.lists.length := by
  unfold St.unlink
  rw [(clear_len _ _).1, (clear_len _ _).2, (more_len _ _ _).1, (more_len _ _ _).2, (linkX_len _ _ _ _).1, (linkX_len _ _ _ _).2, (linkP_len _ _ _ _).1, (linkP_len _ _ _ _).2]
  exact ⟨rfl, rfl⟩
theorem lk_unlink (s : St) (l p n x y : Int) (hk : s.lk n = ⟨p, x, l + 1⟩) (hn : s.hasNode n) (hp : p = -1 ∨ s.hasNode p) (hx : x = -1 ∨ s.hasNode x) (hpx : p = -1 ∨ p ≠ x) (hy : 0 ≤ y) :
    (s.unlink n).lk y = if y = n then ⟨0, 0, 0⟩ else if y = p then { s.lk p with next := x } else if y = x then { s.lk x with prev := p } else s.lk y := by
  unfold St.unlink
  rw [hk]
  simp only [Int.add_sub_cancel]
  have hx1 := hx.imp id (fun h => (hasNode_iff s (s.linkP l p x) (linkP_len _ _ _ _).1 x).2 h)
  have hn1 := (hasNode_iff s (((s.linkP l p x).linkX l p x).more l (-1)) (by rw [(more_len _ _ _).1, (linkX_len _ _ _ _).1, (linkP_len _ _ _ _).1]) n).2 hn
  rw [lk_clear _ _ _ hn1 hy, lk_more, lk_linkX _ _ _ _ _ hx1 hy]
  by_cases h0 : y = n
  · rw [if_pos h0, if_pos h0]
  · rw [if_neg h0, if_neg h0]
    by_cases h1 : y = x
    · subst h1
      rw [if_pos rfl, lk_linkP _ _ _ _ _ hp hy, if_neg (by rcases hpx with h | h <;> omega), if_neg (by rcases hpx with h | h <;> omega), if_pos rfl]
    · rw [if_neg h1, lk_linkP _ _ _ _ _ hp hy]
      by_cases h2 : y = p
      · subst h2; rw [if_pos rfl, if_pos rfl]
      · rw [if_neg h2, if_neg h2, if_neg h1]
theorem en_unlink (s : St) (l p n x j : Int) (hk : s.lk n = ⟨p, x, l + 1⟩) (hl : s.hasList l) (hj : 0 ≤ j) :
    (s.unlink n).en j = if j = l then ⟨if p = -1 then x else (s.en l).first, if x = -1 then p else (s.en l).last, (s.en l).many + -1⟩ else s.en j := by
  unfold St.unlink
  rw [hk]
  simp only [Int.add_sub_cancel]
  have hl1 := (hasList_iff s (s.linkP l p x) (linkP_len _ _ _ _).2 l).2 hl
  have hl2 := (hasList_iff _ ((s.linkP l p x).linkX l p x) (linkX_len _ _ _ _).2 l).2 hl1
  have e : ∀ (t : St) (m i : Int), (t.clear m).en i = t.en i := fun t m i => rfl
  rw [e, en_more _ _ _ _ hl2 hj, en_linkX _ _ _ _ _ hl1 hl.1, en_linkX _ _ _ _ _ hl1 hj, en_linkP _ _ _ _ _ hl hl.1, en_linkP _ _ _ _ _ hl hj]
  by_cases h : j = l
  · subst h
    by_cases h1 : p = -1 <;> by_cases h2 : x = -1 <;> simp [h1, h2]
  · simp [h]

/-- How a node of a list stands. -/
theorem Inv.lk_at {s : St} {ls : List (List Int)} (h : Inv s ls) {l : Nat} (hl : l < ls.length) {A B : List Int} {n : Int} (hAB : ls.getD l [] = A ++ n :: B) : s.lk n = ⟨A.getLastD (-1), B.headD (-1), (l : Int) + 1⟩ := by
  have hs := h.seg l hl
  rw [hAB, seg_append] at hs
  exact hs.2.1

theorem Inv.unlink {s : St} {ls : List (List Int)} (h : Inv s ls) {l : Nat} (hl : l < ls.length) {A B : List Int} {n : Int} (hAB : ls.getD l [] = A ++ n :: B) : Inv (s.unlink n) (ls.set l (A ++ B)) := by
  have hL : s.hasList (l : Int) := ⟨by omega, by rw [h.len]; omega⟩
  have hnd := h.nodup l hl
  rw [hAB] at hnd
  have hndA := (List.nodup_append.1 hnd).1
  have hndB := (List.nodup_cons.1 (List.nodup_append.1 hnd).2.1)
  have hdisj := (List.nodup_append.1 hnd).2.2
  have hn : s.hasNode n := h.node l hl n (by rw [hAB]; simp)
  have memA : ∀ x ∈ A, s.hasNode x ∧ x ≠ n := fun x hx => ⟨h.node l hl x (by rw [hAB]; exact List.mem_append_left _ hx), fun e => hdisj x hx n List.mem_cons_self e⟩
  have memB : ∀ x ∈ B, s.hasNode x ∧ x ≠ n := fun x hx => ⟨h.node l hl x (by rw [hAB]; exact List.mem_append_right _ (List.mem_cons_of_mem _ hx)), fun e => hndB.1 (e ▸ hx)⟩
  have hdis : ∀ x ∈ A, x ∉ B := fun x hx hb => hdisj x hx x (List.mem_cons_of_mem _ hb) rfl
  have hp : A.getLastD (-1) = -1 ∨ s.hasNode (A.getLastD (-1)) := getLastD_mem.imp id (fun hm => (memA _ hm).1)
  have hx : B.headD (-1) = -1 ∨ s.hasNode (B.headD (-1)) := headD_mem'.imp id (fun hm => (memB _ hm).1)
  have hpx : A.getLastD (-1) = -1 ∨ A.getLastD (-1) ≠ B.headD (-1) := by
    rcases getLastD_mem (L := A) (x := -1) with hm | hm
    · exact .inl hm
    · right
      intro e
      rcases headD_mem' (L := B) (x := -1) with hb | hb
      · rw [e, hb] at hm; have := (memA _ hm).1.1; omega
      · rw [e] at hm; exact hdis _ hm hb
  have hk := h.lk_at hl hAB
  have hlk : ∀ y : Int, 0 ≤ y → _ := fun y hy => lk_unlink s l (A.getLastD (-1)) n (B.headD (-1)) y hk hn hp hx hpx hy
  have hlen := unlink_len s n
  have hen : ∀ j : Int, 0 ≤ j → _ := fun j hj => en_unlink s l (A.getLastD (-1)) n (B.headD (-1)) j hk hL hj
  generalize s.unlink n = s' at hlk hlen hen
  have hsz : (ls.set l (A ++ B)).length = ls.length := List.length_set
  refine ⟨by rw [hlen.2, hsz, h.len], ?_, ?_, ?_, ?_, ?_, ?_, by rw [hsz]; exact h.many, by rw [hlen.1]; exact h.nodes⟩
  · intro j hj
    rw [hsz] at hj
    rw [getD_set_eq _ _ _ _ hl, hen j (by omega)]
    by_cases e : j = l
    · subst e
      rw [if_pos rfl, if_pos rfl, h.ends j hj, hAB]
      have e1 : (if A.getLastD (-1) = -1 then B.headD (-1) else (A ++ n :: B).headD (-1)) = (A ++ B).headD (-1) := by
        cases A with
        | nil => exact if_pos rfl
        | cons a A' =>
          rw [if_neg]
          · rfl
          · intro e
            rcases getLastD_mem (L := a :: A') (x := -1) with hm | hm
            · rw [getLastD_cons'] at e
              rcases getLastD_mem (L := A') (x := a) with h2 | h2
              · rw [h2] at e; have := (memA a List.mem_cons_self).1.1; omega
              · rw [e] at h2; have := (memA _ (List.mem_cons_of_mem _ h2)).1.1; omega
            · rw [e] at hm; have := (memA _ hm).1.1; omega
      have e2 : (if B.headD (-1) = -1 then A.getLastD (-1) else (A ++ n :: B).getLastD (-1)) = (A ++ B).getLastD (-1) := by
        cases B with
        | nil => rw [List.append_nil]; exact if_pos rfl
        | cons b B' =>
          rw [if_neg, getLastD_app, getLastD_app, getLastD_cons']
          have := (memB b List.mem_cons_self).1.1
          show b ≠ -1
          omega
      simp only [e1, e2, List.length_append, List.length_cons]
      congr 1
      omega
    · rw [if_neg (by omega), if_neg e, h.ends j hj]
  · intro j hj
    rw [hsz] at hj
    rw [getD_set_eq _ _ _ _ hl]
    by_cases e : j = l
    · subst e
      rw [if_pos rfl]
      have hs := h.seg j hj
      rw [hAB, seg_append] at hs
      obtain ⟨hsA, _, hsB⟩ := hs
      rw [seg_append]
      refine ⟨?_, ?_⟩
      · rcases List.eq_nil_or_concat A with rfl | ⟨A', a, rfl⟩
        · trivial
        · rw [List.concat_eq_append] at *
          rw [seg_append] at hsA ⊢
          have ha := memA a (by simp)
          have hla : (A' ++ [a]).getLastD (-1) = a := by rw [getLastD_app]; rfl
          rw [hla] at hlk hpx
          refine ⟨seg_congr (fun y hy => ?_) hsA.1, ?_, trivial⟩
          · have hyA := memA y (List.mem_append_left _ hy)
            have hya : y ≠ a := fun e => (List.nodup_append.1 hndA).2.2 y hy a (by simp) e
            rw [hlk y hyA.1.1, if_neg hyA.2, if_neg hya, if_neg]
            intro e'
            rcases headD_mem' (L := B) (x := -1) with hb | hb
            · rw [hb] at e'; have := hyA.1.1; omega
            · rw [← e'] at hb; exact hdis y (List.mem_append_left _ hy) hb
          · rw [hlk a ha.1.1, if_neg ha.2, if_pos rfl, hsA.2.1]
            rfl
      · cases B with
        | nil => trivial
        | cons b B' =>
          have hb := memB b List.mem_cons_self
          refine ⟨?_, seg_congr (fun y hy => ?_) hsB.2⟩
          · rw [hlk b hb.1.1, if_neg hb.2]
            have hbp : b ≠ A.getLastD (-1) := by
              intro e
              rcases getLastD_mem (L := A) (x := -1) with hm | hm
              · rw [hm] at e; have := hb.1.1; omega
              · rw [← e] at hm; exact hdis b hm List.mem_cons_self
            rw [if_neg hbp]
            refine (if_pos rfl).trans ?_
            show ({ s.lk b with prev := A.getLastD (-1) } : Link) = _
            rw [hsB.1]
          · have hyB := memB y (List.mem_cons_of_mem _ hy)
            have hyb : y ≠ b := fun e => (List.nodup_cons.1 hndB.2).1 (e ▸ hy)
            rw [hlk y hyB.1.1, if_neg hyB.2, if_neg]
            · exact if_neg hyb
            intro e
            rcases getLastD_mem (L := A) (x := -1) with hm | hm
            · rw [hm] at e; have := hyB.1.1; omega
            · rw [← e] at hm; exact hdis y hm (List.mem_cons_of_mem _ hy)
    · rw [if_neg e]
      refine seg_congr (fun y hy => ?_) (h.seg j hj)
      have hyn := h.node j hj y hy
      have hyl : y ∉ ls.getD l [] := h.apart j l hj hl e y hy
      rw [hAB, List.mem_append, List.mem_cons, not_or, not_or] at hyl
      rw [hlk y hyn.1, if_neg hyl.2.1, if_neg, if_neg]
      · intro e'
        rcases headD_mem' (L := B) (x := -1) with hb | hb
        · rw [hb] at e'; have := hyn.1; omega
        · rw [← e'] at hb; exact hyl.2.2 hb
      · intro e'
        rcases getLastD_mem (L := A) (x := -1) with hb | hb
        · rw [hb] at e'; have := hyn.1; omega
        · rw [← e'] at hb; exact hyl.1 hb
  · intro j hj y hy
    rw [hsz] at hj
    rw [getD_set_eq _ _ _ _ hl] at hy
    rw [hasNode_iff s s' hlen.1]
    by_cases e : j = l
    · rw [if_pos e] at hy
      rcases List.mem_append.1 hy with hy | hy
      · exact (memA y hy).1
      · exact (memB y hy).1
    · rw [if_neg e] at hy; exact h.node j hj y hy
  · intro y hy hfree
    by_cases hyn : y = n
    · rw [hlk y hy, if_pos hyn]
    have hyAB : y ∉ A ++ B := fun hm => hfree l (by rw [hsz]; exact hl) (by rw [getD_set_eq _ _ _ _ hl, if_pos rfl]; exact hm)
    have hold : ∀ j : Nat, j < ls.length → y ∉ ls.getD j [] := fun j hj hm => by
      by_cases e : j = l
      · subst e; rw [hAB] at hm; simp at hm hyAB; rcases hm with hm | hm | hm
        · exact hyAB.1 hm
        · exact hyn hm
        · exact hyAB.2 hm
      · exact hfree j (by rw [hsz]; exact hj) (by rw [getD_set_eq _ _ _ _ hl, if_neg e]; exact hm)
    rw [List.mem_append, not_or] at hyAB
    rw [hlk y hy, if_neg hyn, if_neg, if_neg]
    · exact h.free y hy hold
    · intro e'
      rcases headD_mem' (L := B) (x := -1) with hb | hb
      · rw [hb] at e'; omega
      · rw [← e'] at hb; exact hyAB.2 hb
    · intro e'
      rcases getLastD_mem (L := A) (x := -1) with hb | hb
      · rw [hb] at e'; omega
      · rw [← e'] at hb; exact hyAB.1 hb
  · intro j hj
    rw [hsz] at hj
    rw [getD_set_eq _ _ _ _ hl]
    by_cases e : j = l
    · rw [if_pos e]
      rw [List.nodup_append]
      exact ⟨hndA, hndB.2, fun x hx y hy => hdisj x hx y (List.mem_cons_of_mem _ hy)⟩
    · rw [if_neg e]; exact h.nodup j hj
  · intro j j' hj hj' hjj y hy
    rw [hsz] at hj hj'
    rw [getD_set_eq _ _ _ _ hl] at hy ⊢
    have sub : ∀ z, z ∈ A ++ B → z ∈ ls.getD l [] := fun z hz => by rw [hAB]; simp at hz ⊢; rcases hz with hz | hz <;> simp [hz]
    by_cases e : j = l
    · rw [if_pos e] at hy
      rw [if_neg (by omega)]
      exact h.apart l j' hl hj' (by omega) y (sub y hy)
    · rw [if_neg e] at hy
      by_cases e' : j' = l
      · rw [if_pos e']
        exact fun hm => h.apart j l hj hl e y hy (sub y hm)
      · rw [if_neg e']; exact h.apart j j' hj hj' hjj y hy

/-! New chains; what the walks need. -/
theorem Inv.new (n m : Nat) (hn : n ≤ 65536) (hm : m ≤ 8) : Inv (St.new n m) (List.replicate m []) := by
  have hg : ∀ l : Nat, (List.replicate m ([] : List Int)).getD l [] = [] := fun l => by
    rw [List.getD_eq_getElem?_getD, List.getElem?_replicate]; split <;> rfl
  have hlk : ∀ y : Int, (St.new n m).lk y = ⟨0, 0, 0⟩ := fun y => by
    simp only [St.new, St.lk]; rw [List.getD_eq_getElem?_getD, List.getElem?_replicate]; split <;> rfl
  refine ⟨by simp [St.new], ?_, ?_, ?_, ?_, ?_, ?_, by simpa using hm, by simpa [St.new] using hn⟩
  · intro l hl
    rw [hg]
    simp only [St.new, St.en]
    rw [List.getD_eq_getElem?_getD, List.getElem?_replicate, if_pos (by simpa using hl)]
    rfl
  · intro l hl; rw [hg]; trivial
  · intro l hl x hx; rw [hg] at hx; cases hx
  · intro y _ _; rw [hlk]
  · intro l hl; rw [hg]; exact List.nodup_nil
  · intro l l' _ _ _ x hx; rw [hg] at hx; cases hx

theorem Inv.cases_node {s : St} {ls : List (List Int)} (h : Inv s ls) (n : Int) (hn : 0 ≤ n) : (s.lk n).list = 0 ∨ ∃ (l : Nat) (A B : List Int), l < ls.length ∧ ls.getD l [] = A ++ n :: B := by
  by_cases hf : ∀ l : Nat, l < ls.length → n ∉ ls.getD l []
  · exact .inl (h.free n hn hf)
  · right
    have : ∃ l : Nat, l < ls.length ∧ n ∈ ls.getD l [] := by
      apply Classical.byContradiction
      intro hc
      exact hf (fun l hl hm => hc ⟨l, hl, hm⟩)
    obtain ⟨l, hl, hm⟩ := this
    obtain ⟨A, B, hAB⟩ := List.append_of_mem hm
    exact ⟨l, A, B, hl, hAB⟩
theorem Inv.stands_iff {s : St} {ls : List (List Int)} (h : Inv s ls) (n : Int) : s.stands n ↔ ∃ l : Nat, l < ls.length ∧ n ∈ ls.getD l [] := by
  constructor
  · intro hs
    rcases h.cases_node n hs.1 with h0 | ⟨l, A, B, hl, hAB⟩
    · have := hs.2.2; omega
    · exact ⟨l, hl, by rw [hAB]; simp⟩
  · rintro ⟨l, hl, hm⟩
    obtain ⟨A, B, hAB⟩ := List.append_of_mem hm
    have hn := h.node l hl n hm
    refine ⟨hn.1, hn.2, ?_⟩
    rw [h.lk_at hl hAB]
    show 0 < (l : Int) + 1
    omega
theorem nodup_small : ∀ (N : Nat) (L : List Nat), L.Nodup → (∀ x ∈ L, x < N) → L.length ≤ N
  | 0, L, _, h => by cases L with | nil => simp | cons a r => exact absurd (h a List.mem_cons_self) (Nat.not_lt_zero _)
  | N + 1, L, hnd, h => by
    by_cases hm : N ∈ L
    · have h1 := List.length_erase_of_mem hm
      have h2 := nodup_small N (L.erase N) (hnd.erase N) (fun x hx => by
        have hx' := (hnd.mem_erase_iff).1 hx
        have := h x hx'.2
        have := hx'.1
        omega)
      omega
    · have := nodup_small N L hnd (fun x hx => by
        have h1 := h x hx
        have h2 : x ≠ N := fun e => hm (e ▸ hx)
        omega)
      omega
theorem nodup_nodes {N : Nat} {L : List Int} (hnd : L.Nodup) (h : ∀ x ∈ L, 0 ≤ x ∧ x < (N : Int)) : L.length ≤ N := by
  have := nodup_small N (L.map Int.toNat) (by
    rw [List.Nodup, List.pairwise_map]
    exact List.Pairwise.imp_of_mem (fun {a b} ha hb hab => by have := h a ha; have := h b hb; omega) hnd) (fun x hx => by
    obtain ⟨y, hy, rfl⟩ := List.mem_map.1 hx
    have := h y hy
    omega)
  simpa using this
theorem Inv.valid {s : St} {ls : List (List Int)} (h : Inv s ls) : Valid s := by
  refine ⟨?_, ?_, ?_⟩
  · intro l hl
    obtain ⟨L, rfl⟩ := Int.eq_ofNat_of_zero_le hl.1
    have hL : L < ls.length := by have := hl.2; rw [h.len] at this; omega
    rw [h.ends L hL]
    refine ⟨?_, ?_, by simp, ?_⟩
    · exact headD_mem'.imp id (fun hm => h.node L hL _ hm)
    · exact getLastD_mem.imp id (fun hm => h.node L hL _ hm)
    · have := nodup_nodes (h.nodup L hL) (h.node L hL)
      have := h.nodes
      show ((ls.getD L []).length : Int) ≤ 65536
      omega
  · intro n hn
    obtain ⟨l, hl, hm⟩ := (h.stands_iff n).1 hn
    obtain ⟨A, B, hAB⟩ := List.append_of_mem hm
    rw [h.lk_at hl hAB]
    have hnd := h.nodup l hl
    rw [hAB] at hnd
    have hndB := (List.nodup_cons.1 (List.nodup_append.1 hnd).2.1)
    have hdisj := (List.nodup_append.1 hnd).2.2
    refine ⟨getLastD_mem.imp id (fun hm => ⟨h.node l hl _ (by rw [hAB]; exact List.mem_append_left _ hm), fun e => hdisj _ hm n List.mem_cons_self e⟩),
      headD_mem'.imp id (fun hm => ⟨h.node l hl _ (by rw [hAB]; exact List.mem_append_right _ (List.mem_cons_of_mem _ hm)), fun e => hndB.1 (by rw [← e]; exact hm)⟩), ?_⟩
    show s.hasList ((l : Int) + 1 - 1)
    exact ⟨by omega, by rw [h.len]; omega⟩
  · intro n
    have e : s.lk n = s.lk (n.toNat : Int) := lk_of_toNat s (Int.toNat_natCast _).symm
    rw [e]
    rcases h.cases_node (n.toNat : Int) (by omega) with h0 | ⟨l, A, B, hl, hAB⟩
    · rw [h0]; omega
    · rw [h.lk_at hl hAB]
      have := h.many
      show 0 ≤ (l : Int) + 1 ∧ (l : Int) + 1 ≤ 8
      omega
end Chain
end Go.Proofs.Ytekbgpfpnjddgaa
namespace Go.Proofs.Ytekbgpfpnjddgaa
namespace Chain

theorem split_at {L : List Int} {k : Nat} (hk : k < L.length) : L = L.take k ++ L.getD k 0 :: L.drop (k + 1) := by
  have h1 : L.getD k 0 = L[k] := by rw [List.getD_eq_getElem?_getD, List.getElem?_eq_getElem hk]; rfl
  rw [h1, List.getElem_cons_drop, List.take_append_drop]
theorem told_head {L : List Int} (h : ∀ x ∈ L, 0 ≤ x) : told (L.headD (-1)) = nth L 0 := by
  cases L with
  | nil => rfl
  | cons x r =>
    have := h x List.mem_cons_self
    have h1 : ¬ x = -1 := by omega
    show told x = _
    unfold told
    rw [if_neg h1, nth_lt (by simp)]
    rfl
theorem headD_drop {L : List Int} {k : Nat} : nth (L.drop k) 0 = nth L k := by
  by_cases h : k < L.length
  · rw [nth_lt (by simp; omega), nth_lt h]
    simp [List.getD_eq_getElem?_getD]
  · rw [nth_ge (by simp; omega), nth_ge (by omega)]

section
variable {s : St} {ls : List (List Int)} (h : Inv s ls) {l : Nat} (hl : l < ls.length)
include h hl
theorem Inv.hasList : s.hasList (l : Int) := ⟨by omega, by rw [h.len]; omega⟩
theorem Inv.pos : ∀ x ∈ ls.getD l [], 0 ≤ x := fun x hx => (h.node l hl x hx).1
theorem Inv.first_eq : s.first l = nth (ls.getD l []) 0 := by
  unfold St.first
  rw [if_pos (h.hasList hl), h.ends l hl]
  exact told_head (h.pos hl)
theorem Inv.len_eq : s.len l = (ls.getD l []).length := by
  unfold St.len
  rw [if_pos (h.hasList hl), h.ends l hl]
theorem Inv.last_eq : s.last l = nth (ls.getD l []).reverse 0 := by
  unfold St.last
  rw [if_pos (h.hasList hl), h.ends l hl]
  have e : (ls.getD l []).getLastD (-1) = (ls.getD l []).reverse.headD (-1) := by
    cases hL : (ls.getD l []).reverse with
    | nil => rw [List.reverse_eq_nil_iff] at hL; rw [hL]; rfl
    | cons x r =>
      have : ls.getD l [] = r.reverse ++ [x] := by rw [← List.reverse_reverse (ls.getD l []), hL]; simp
      rw [this, getLastD_app]; rfl
  show told ((ls.getD l []).getLastD (-1)) = _
  rw [e]
  exact told_head (fun x hx => h.pos hl x (List.mem_reverse.1 hx))
theorem Inv.stands_mem {n : Int} (hm : n ∈ ls.getD l []) : s.stands n := (h.stands_iff n).2 ⟨l, hl, hm⟩
theorem Inv.next_eq {A B : List Int} {n : Int} (hAB : ls.getD l [] = A ++ n :: B) : s.next n = nth B 0 := by
  unfold St.next
  rw [if_pos (h.stands_mem hl (by rw [hAB]; simp)), h.lk_at hl hAB]
  exact told_head (fun x hx => h.pos hl x (by rw [hAB]; simp [hx]))
theorem Inv.prev_eq {A B : List Int} {n : Int} (hAB : ls.getD l [] = A ++ n :: B) : s.prev n = nth A.reverse 0 := by
  unfold St.prev
  rw [if_pos (h.stands_mem hl (by rw [hAB]; simp)), h.lk_at hl hAB]
  have e : A.getLastD (-1) = A.reverse.headD (-1) := by
    cases hL : A.reverse with
    | nil => rw [List.reverse_eq_nil_iff] at hL; rw [hL]; rfl
    | cons x r =>
      have : A = r.reverse ++ [x] := by rw [← List.reverse_reverse A, hL]; simp
      rw [this, getLastD_app]; rfl
  show told (A.getLastD (-1)) = _
  rw [e]
  exact told_head (fun x hx => h.pos hl x (by rw [hAB]; simp at hx; simp [hx]))
theorem Inv.list_eq {A B : List Int} {n : Int} (hAB : ls.getD l [] = A ++ n :: B) : s.list n = ((l : Int), true) := by
  unfold St.list
  rw [if_pos (h.stands_mem hl (by rw [hAB]; simp)), h.lk_at hl hAB]
  simp
theorem Inv.small : (ls.getD l []).length ≤ 65536 := by
  have := nodup_nodes (h.nodup l hl) (h.node l hl)
  have := h.nodes
  omega
theorem Inv.node_lt : ∀ x ∈ ls.getD l [], x < 2147483648 := fun x hx => by
  have h1 := (h.node l hl x hx).2
  have h2 := h.nodes
  omega
theorem Inv.way : Way (s.first l) s.next (ls.getD l []) := by
  refine ⟨h.first_eq hl, fun k hk => ?_, h.nodup l hl, h.small hl, h.node_lt hl⟩
  rw [h.next_eq hl (split_at hk), headD_drop]
theorem Inv.way_back : Way (s.last l) s.prev (ls.getD l []).reverse := by
  refine ⟨h.last_eq hl, fun k hk => ?_, by rw [List.Nodup, List.pairwise_reverse]; exact (h.nodup l hl).imp (fun h => Ne.symm h), by rw [List.length_reverse]; exact h.small hl, fun x hx => h.node_lt hl x (List.mem_reverse.1 hx)⟩
  have hL : ls.getD l [] = ((ls.getD l []).reverse.drop (k + 1)).reverse ++ (ls.getD l []).reverse.getD k 0 :: ((ls.getD l []).reverse.take k).reverse := by
    have := split_at hk
    have h2 : ls.getD l [] = ((ls.getD l []).reverse.take k ++ (ls.getD l []).reverse.getD k 0 :: (ls.getD l []).reverse.drop (k + 1)).reverse := by rw [← this, List.reverse_reverse]
    refine h2.trans ?_
    simp
  rw [h.prev_eq hl hL, List.reverse_reverse, headD_drop]
end
theorem first_out {s : St} {i : Int} (h : ¬ s.hasList i) : s.first i = (0, false) := if_neg h
theorem last_out {s : St} {i : Int} (h : ¬ s.hasList i) : s.last i = (0, false) := if_neg h

/-! What the turning calls leave. -/
theorem Inv.wrong_eq {s : St} {ls : List (List Int)} (h : Inv s ls) (l n : Int) : s.wrong l n = if s.hasList l ∧ s.hasNode n then (if ∃ j : Nat, j < ls.length ∧ n ∈ ls.getD j [] then 8 else 0) else 1 := by
  unfold St.wrong
  by_cases hc : s.hasList l ∧ s.hasNode n
  · rw [if_pos hc, if_pos hc]
    have e : 0 < (s.lk n).list ↔ ∃ j : Nat, j < ls.length ∧ n ∈ ls.getD j [] := by
      rw [← h.stands_iff]
      exact ⟨fun h' => ⟨hc.2.1, hc.2.2, h'⟩, fun h' => h'.2.2⟩
    by_cases h2 : 0 < (s.lk n).list
    · rw [if_pos h2, if_pos (e.1 h2)]
    · rw [if_neg h2, if_neg (fun h' => h2 (e.2 h'))]
  · rw [if_neg hc, if_neg hc]
theorem Inv.wrong_free {s : St} {ls : List (List Int)} (h : Inv s ls) {l n : Int} (h0 : s.wrong l n = 0) : ∀ j : Nat, j < ls.length → n ∉ ls.getD j [] := by
  intro j hj hm
  have hs := (h.stands_iff n).2 ⟨j, hj, hm⟩
  unfold St.wrong at h0
  rw [if_pos (wrong_zero h0), if_pos hs.2.2] at h0
  cases h0
theorem Inv.ahead {s : St} {ls : List (List Int)} (h : Inv s ls) (l : Nat) (n : Int) (hl : l < ls.length) : Inv (s.ahead l n) (if s.wrong l n = 0 then ls.set l (n :: ls.getD l []) else ls) := by
  unfold St.ahead
  by_cases h0 : s.wrong l n = 0
  · rw [if_pos h0, if_pos h0, h.ends l hl]
    exact h.join hl (A := []) (B := ls.getD l []) rfl (wrong_zero h0).2 (h.wrong_free h0)
  · rw [if_neg h0, if_neg h0]; exact h
theorem Inv.behind {s : St} {ls : List (List Int)} (h : Inv s ls) (l : Nat) (n : Int) (hl : l < ls.length) : Inv (s.behind l n) (if s.wrong l n = 0 then ls.set l (ls.getD l [] ++ [n]) else ls) := by
  unfold St.behind
  by_cases h0 : s.wrong l n = 0
  · rw [if_pos h0, if_pos h0, h.ends l hl]
    exact h.join hl (A := ls.getD l []) (B := []) (by simp) (wrong_zero h0).2 (h.wrong_free h0)
  · rw [if_neg h0, if_neg h0]; exact h
theorem Inv.insert {s : St} {ls : List (List Int)} (h : Inv s ls) {l : Nat} (hl : l < ls.length) {A B : List Int} {a n : Int} (hAB : ls.getD l [] = A ++ a :: B) (hn : s.hasNode n) (hno : ∀ j : Nat, j < ls.length → n ∉ ls.getD j []) :
    s.insertErr n a = 0 ∧ Inv (s.insert n a) (ls.set l (A ++ a :: n :: B)) := by
  have hst := h.stands_mem hl (n := a) (by rw [hAB]; simp)
  have hn0 : ¬ 0 < (s.lk n).list := fun h' => by
    obtain ⟨j, hj, hm⟩ := (h.stands_iff n).1 ⟨hn.1, hn.2, h'⟩
    exact hno j hj hm
  have ha0 : ¬ (s.lk a).list = 0 := by have := hst.2.2; omega
  have he : s.insertErr n a = 0 := by unfold St.insertErr; rw [if_pos ⟨hn, hst.1, hst.2.1⟩, if_neg hn0, if_neg ha0]
  refine ⟨he, ?_⟩
  unfold St.insert
  rw [if_pos he, h.lk_at hl hAB]
  have e1 : (A ++ [a]).getLastD (-1) = a := by rw [getLastD_app]; rfl
  have := h.join hl (A := A ++ [a]) (B := B) (by rw [hAB]; simp) hn hno
  rw [e1] at this
  simpa using this
theorem Inv.remove {s : St} {ls : List (List Int)} (h : Inv s ls) {l : Nat} (hl : l < ls.length) {A B : List Int} {n : Int} (hAB : ls.getD l [] = A ++ n :: B) : Inv (s.remove n) (ls.set l (A ++ B)) := by
  unfold St.remove
  rw [if_pos (h.stands_mem hl (by rw [hAB]; simp))]
  exact h.unlink hl hAB
theorem Inv.many_pos {s : St} {ls : List (List Int)} (h : Inv s ls) (n : Int) : ∀ l, s.hasList l → s.stands n → (s.lk n).list = l + 1 → 1 ≤ (s.en l).many := by
  intro l hl hs he
  obtain ⟨j, hj, hm⟩ := (h.stands_iff n).1 hs
  obtain ⟨A, B, hAB⟩ := List.append_of_mem hm
  rw [h.lk_at hj hAB] at he
  obtain rfl : l = (j : Int) := by simpa using he.symm
  rw [h.ends j hj, hAB]
  simp
  omega
end Chain
end Go.Proofs.Ytekbgpfpnjddgaa
