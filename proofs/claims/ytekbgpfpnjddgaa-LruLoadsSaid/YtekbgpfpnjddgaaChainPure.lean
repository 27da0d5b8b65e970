/- The linked nodes stand as lists: plain, no memory. -/
import Derived.Test.YtekbgpfpnjddgaaChainRD
namespace Go.Proofs.Ytekbgpfpnjddgaa
namespace Chain

/-! Reading behind a store. -/
section
variable (s : St) (i v j : Int)
theorem lk_of_toNat (s : St) {i j : Int} (h : i.toNat = j.toNat) : s.lk i = s.lk j := by unfold St.lk; rw [h]
theorem lk_setPrev (hi : s.hasNode i) (hj : 0 ≤ j) : (s.setPrev i v).lk j = if j = i then { s.lk i with prev := v } else s.lk j := by
  unfold St.setPrev
  by_cases h : j = i
  · subst h; rw [if_pos rfl]; simp only [St.lk]; rw [getD_set_same _ _ _ (by have := hi.2; omega)]
  · rw [if_neg h]; simp only [St.lk]; rw [getD_set_ne _ _ _ _ (by have := hi.1; omega)]
theorem lk_setNext (hi : s.hasNode i) (hj : 0 ≤ j) : (s.setNext i v).lk j = if j = i then { s.lk i with next := v } else s.lk j := by
  unfold St.setNext
  by_cases h : j = i
  · subst h; rw [if_pos rfl]; simp only [St.lk]; rw [getD_set_same _ _ _ (by have := hi.2; omega)]
  · rw [if_neg h]; simp only [St.lk]; rw [getD_set_ne _ _ _ _ (by have := hi.1; omega)]
theorem lk_setMark (hi : s.hasNode i) (hj : 0 ≤ j) : (s.setMark i v).lk j = if j = i then { s.lk i with list := v } else s.lk j := by
  unfold St.setMark
  by_cases h : j = i
  · subst h; rw [if_pos rfl]; simp only [St.lk]; rw [getD_set_same _ _ _ (by have := hi.2; omega)]
  · rw [if_neg h]; simp only [St.lk]; rw [getD_set_ne _ _ _ _ (by have := hi.1; omega)]
theorem lk_setFirst : (s.setFirst i v).lk j = s.lk j := rfl
theorem lk_setLast : (s.setLast i v).lk j = s.lk j := rfl
theorem lk_setMany : (s.setMany i v).lk j = s.lk j := rfl
theorem en_setFirst (hi : s.hasList i) (hj : 0 ≤ j) : (s.setFirst i v).en j = if j = i then { s.en i with first := v } else s.en j := by
  unfold St.setFirst
  by_cases h : j = i
  · subst h; rw [if_pos rfl]; simp only [St.en]; rw [getD_set_same _ _ _ (by have := hi.2; omega)]
  · rw [if_neg h]; simp only [St.en]; rw [getD_set_ne _ _ _ _ (by have := hi.1; omega)]
theorem en_setLast (hi : s.hasList i) (hj : 0 ≤ j) : (s.setLast i v).en j = if j = i then { s.en i with last := v } else s.en j := by
  unfold St.setLast
  by_cases h : j = i
  · subst h; rw [if_pos rfl]; simp only [St.en]; rw [getD_set_same _ _ _ (by have := hi.2; omega)]
  · rw [if_neg h]; simp only [St.en]; rw [getD_set_ne _ _ _ _ (by have := hi.1; omega)]
theorem en_setMany (hi : s.hasList i) (hj : 0 ≤ j) : (s.setMany i v).en j = if j = i then { s.en i with many := v } else s.en j := by
  unfold St.setMany
  by_cases h : j = i
  · subst h; rw [if_pos rfl]; simp only [St.en]; rw [getD_set_same _ _ _ (by have := hi.2; omega)]
  · rw [if_neg h]; simp only [St.en]; rw [getD_set_ne _ _ _ _ (by have := hi.1; omega)]
theorem en_setPrev : (s.setPrev i v).en j = s.en j := rfl
theorem en_setNext : (s.setNext i v).en j = s.en j := rfl
theorem en_setMark : (s.setMark i v).en j = s.en j := rfl
theorem hasNode_iff (s s' : St) (h : s'.links.length = s.links.length) (n : Int) : s'.hasNode n ↔ s.hasNode n := by unfold St.hasNode; rw [h]
theorem hasList_iff (s s' : St) (h : s'.lists.length = s.lists.length) (n : Int) : s'.hasList n ↔ s.hasList n := by unfold St.hasList; rw [h]
end

theorem lk_laid (s : St) (l p n x y : Int) (hn : s.hasNode n) (hy : 0 ≤ y) : (s.laid l p n x).lk y = if y = n then ⟨p, x, l + 1⟩ else s.lk y := by
  have h1 := (hasNode_iff s (s.setPrev n p) (set_links_length s n p).1 n).2 hn
  have h2 := (hasNode_iff (s.setPrev n p) ((s.setPrev n p).setNext n x) (set_links_length _ n x).2.1 n).2 h1
  unfold St.laid
  rw [lk_setMark _ _ _ _ h2 hy, lk_setNext _ _ _ _ h1 hn.1, lk_setNext _ _ _ _ h1 hy, lk_setPrev _ _ _ _ hn hn.1, lk_setPrev _ _ _ _ hn hy]
  by_cases h : y = n
  · subst h; simp
  · simp [h]
theorem en_laid (s : St) (l p n x j : Int) : (s.laid l p n x).en j = s.en j := rfl
theorem lk_linkP (s : St) (l p n y : Int) (hp : p = -1 ∨ s.hasNode p) (hy : 0 ≤ y) : (s.linkP l p n).lk y = if y = p then { s.lk p with next := n } else s.lk y := by
  unfold St.linkP
  rcases hp with rfl | hp
  · rw [if_pos rfl, if_neg (by omega)]; rfl
  · rw [if_neg (by have := hp.1; omega), lk_setNext _ _ _ _ hp hy]
theorem lk_linkX (s : St) (l n x y : Int) (hx : x = -1 ∨ s.hasNode x) (hy : 0 ≤ y) : (s.linkX l n x).lk y = if y = x then { s.lk x with prev := n } else s.lk y := by
  unfold St.linkX
  rcases hx with rfl | hx
  · rw [if_pos rfl, if_neg (by omega)]; rfl
  · rw [if_neg (by have := hx.1; omega), lk_setPrev _ _ _ _ hx hy]
theorem en_linkP (s : St) (l p n j : Int) (hl : s.hasList l) (hj : 0 ≤ j) : (s.linkP l p n).en j = if j = l ∧ p = -1 then { s.en l with first := n } else s.en j := by
  unfold St.linkP
  by_cases h : p = -1
  · rw [if_pos h, en_setFirst _ _ _ _ hl hj]; simp [h]
  · rw [if_neg h]; simp [h]; rfl
theorem en_linkX (s : St) (l n x j : Int) (hl : s.hasList l) (hj : 0 ≤ j) : (s.linkX l n x).en j = if j = l ∧ x = -1 then { s.en l with last := n } else s.en j := by
  unfold St.linkX
  by_cases h : x = -1
  · rw [if_pos h, en_setLast _ _ _ _ hl hj]; simp [h]
  · rw [if_neg h]; simp [h]; rfl
theorem lk_more (s : St) (l d y : Int) : (s.more l d).lk y = s.lk y := rfl
theorem en_more (s : St) (l d j : Int) (hl : s.hasList l) (hj : 0 ≤ j) : (s.more l d).en j = if j = l then { s.en l with many := (s.en l).many + d } else s.en j := by
  unfold St.more; exact en_setMany _ _ _ _ hl hj
theorem more_len (s : St) (l d : Int) : (s.more l d).links.length = s.links.length ∧ (s.more l d).lists.length = s.lists.length := by
  unfold St.more; exact ⟨(set_links_length _ _ _).2.2.2.2.2, (set_lists_length _ _ _).2.2.2.2.2⟩

theorem join_len (s : St) (l p n x : Int) : (s.join l p n x).links.length = s.links.length ∧ (s.join l p n x).lists.length = s.lists.length := by
  unfold St.join
  rw [(more_len _ _ _).1, (more_len _ _ _).2, (linkX_len _ _ _ _).1, (linkX_len _ _ _ _).2, (linkP_len _ _ _ _).1, (linkP_len _ _ _ _).2, (laid_len s l p n x).1, (laid_len s l p n x).2]
  exact ⟨rfl, rfl⟩
theorem lk_join (s : St) (l p n x y : Int) (hn : s.hasNode n) (hp : p = -1 ∨ s.hasNode p) (hx : x = -1 ∨ s.hasNode x) (hpn : p ≠ n) (hxn : x ≠ n) (hpx : p = -1 ∨ p ≠ x) (hy : 0 ≤ y) :
    (s.join l p n x).lk y = if y = n then ⟨p, x, l + 1⟩ else if y = p then { s.lk p with next := n } else if y = x then { s.lk x with prev := n } else s.lk y := by
  have L1 := (laid_len s l p n x).1
  have hp1 := hp.imp id (fun h => (hasNode_iff s (s.laid l p n x) L1 p).2 h)
  have hx1 := hx.imp id (fun h => (hasNode_iff s (s.laid l p n x) L1 x).2 h)
  have hx2 := hx1.imp id (fun h => (hasNode_iff (s.laid l p n x) ((s.laid l p n x).linkP l p n) (linkP_len _ _ _ _).1 x).2 h)
  unfold St.join
  rw [lk_more, lk_linkX _ _ _ _ _ hx2 hy]
  by_cases h1 : y = x
  · subst h1
    rw [if_pos rfl, if_neg hxn]
    rw [lk_linkP _ _ _ _ _ hp1 hy, if_neg (by rcases hpx with h | h <;> omega), lk_laid _ _ _ _ _ _ hn hy, if_neg hxn, if_neg (by rcases hpx with h | h <;> omega), if_pos rfl]
  · rw [if_neg h1, lk_linkP _ _ _ _ _ hp1 hy]
    by_cases h2 : y = p
    · subst h2
      rw [if_pos rfl, lk_laid _ _ _ _ _ _ hn hy]
      simp [hpn]
    · rw [if_neg h2, lk_laid _ _ _ _ _ _ hn hy, if_neg h2, if_neg h1]
theorem en_join (s : St) (l p n x j : Int) (hl : s.hasList l) (hj : 0 ≤ j) :
    (s.join l p n x).en j = if j = l then ⟨if p = -1 then n else (s.en l).first, if x = -1 then n else (s.en l).last, (s.en l).many + 1⟩ else s.en j := by
  have L1 := (laid_len s l p n x).2
  have hl1 : (s.laid l p n x).hasList l := (hasList_iff s (s.laid l p n x) (by rw [L1]) l).2 hl
  have hl2 := (hasList_iff _ ((s.laid l p n x).linkP l p n) (linkP_len _ _ _ _).2 l).2 hl1
  have hl3 := (hasList_iff _ (((s.laid l p n x).linkP l p n).linkX l n x) (linkX_len _ _ _ _).2 l).2 hl2
  unfold St.join
  rw [en_more _ _ _ _ hl3 hj, en_linkX _ _ _ _ _ hl2 hl.1, en_linkX _ _ _ _ _ hl2 hj, en_linkP _ _ _ _ _ hl1 hl.1, en_linkP _ _ _ _ _ hl1 hj]
  simp only [en_laid]
  by_cases h : j = l
  · subst h
    by_cases h1 : p = -1 <;> by_cases h2 : x = -1 <;> simp [h1, h2]
  · simp [h]

/-! The lists that the nodes make. -/
def Seg (f : Int → Link) (m : Int) : Int → List Int → Int → Prop
  | _, [], _ => True
  | p, y :: r, x => f y = ⟨p, r.headD x, m⟩ ∧ Seg f m y r x

theorem seg_append {f : Int → Link} {m x : Int} {B : List Int} : ∀ {A : List Int} {p : Int}, Seg f m p (A ++ B) x ↔ Seg f m p A (B.headD x) ∧ Seg f m (A.getLastD p) B x
  | [], p => by simp [Seg]
  | y :: r, p => by
    simp only [List.cons_append, Seg]
    rw [seg_append (A := r) (p := y)]
    have h1 : (r ++ B).headD x = r.headD (B.headD x) := by cases r <;> rfl
    have h2 : (y :: r).getLastD p = r.getLastD y := by cases r <;> rfl
    rw [h1, h2]
    exact ⟨fun ⟨a, b, c⟩ => ⟨⟨a, b⟩, c⟩, fun ⟨⟨a, b⟩, c⟩ => ⟨a, b, c⟩⟩
theorem seg_congr {f g : Int → Link} {m x : Int} : ∀ {L : List Int} {p : Int}, (∀ y ∈ L, g y = f y) → Seg f m p L x → Seg g m p L x
  | [], _, _, _ => trivial
  | y :: _, _, h, hs => ⟨(h y List.mem_cons_self).trans hs.1, seg_congr (fun z hz => h z (List.mem_cons_of_mem _ hz)) hs.2⟩

structure Inv (s : St) (ls : List (List Int)) : Prop where
  len : s.lists.length = ls.length
  ends : ∀ l : Nat, l < ls.length → s.en l = ⟨(ls.getD l []).headD (-1), (ls.getD l []).getLastD (-1), (ls.getD l []).length⟩
  seg : ∀ l : Nat, l < ls.length → Seg s.lk ((l : Int) + 1) (-1) (ls.getD l []) (-1)
  node : ∀ l : Nat, l < ls.length → ∀ x ∈ ls.getD l [], s.hasNode x
  free : ∀ n : Int, 0 ≤ n → (∀ l : Nat, l < ls.length → n ∉ ls.getD l []) → (s.lk n).list = 0
  nodup : ∀ l : Nat, l < ls.length → (ls.getD l []).Nodup
  apart : ∀ l l' : Nat, l < ls.length → l' < ls.length → l ≠ l' → ∀ x ∈ ls.getD l [], x ∉ ls.getD l' []
  many : ls.length ≤ 8
  nodes : s.links.length ≤ 65536

theorem headD_mem {L : List Int} {x : Int} (h : L.headD x ≠ x) : L.headD x ∈ L := by
  cases L with
  | nil => exact absurd rfl h
  | cons y r => exact List.mem_cons_self
theorem getLastD_cons' (y x : Int) (r : List Int) : (y :: r).getLastD x = r.getLastD y := by cases r <;> rfl
theorem getLastD_mem : ∀ {L : List Int} {x : Int}, L.getLastD x = x ∨ L.getLastD x ∈ L
  | [], _ => .inl rfl
  | y :: r, x => by
    rw [getLastD_cons']
    rcases getLastD_mem (L := r) (x := y) with h | h
    · rw [h]; exact .inr List.mem_cons_self
    · exact .inr (List.mem_cons_of_mem _ h)
theorem getLastD_app (y : Int) (r : List Int) : ∀ (A : List Int) (p : Int), (A ++ y :: r).getLastD p = r.getLastD y
  | [], p => getLastD_cons' y p r
  | a :: A, p => by rw [List.cons_append, getLastD_cons', getLastD_app y r A a]
theorem headD_mem' {L : List Int} {x : Int} : L.headD x = x ∨ L.headD x ∈ L := by
  cases L with
  | nil => exact .inl rfl
  | cons y r => exact .inr List.mem_cons_self
theorem getD_set_eq (ls : List (List Int)) (l j : Nat) (L : List Int) (hl : l < ls.length) : (ls.set l L).getD j [] = if j = l then L else ls.getD j [] := by
  by_cases h : j = l
  · subst h; simp [List.getD_eq_getElem?_getD, hl]
  · rw [if_neg h]; simp [List.getD_eq_getElem?_getD, List.getElem?_set_ne (Ne.symm h)]

/-- A node that stands in no list is laid into one. -/
theorem Inv.join {s : St} {ls : List (List Int)} (h : Inv s ls) {l : Nat} (hl : l < ls.length) {A B : List Int} (hAB : ls.getD l [] = A ++ B) {n : Int} (hn : s.hasNode n) (hno : ∀ l' : Nat, l' < ls.length → n ∉ ls.getD l' []) :
    Inv (s.join l (A.getLastD (-1)) n (B.headD (-1))) (ls.set l (A ++ n :: B)) := by
  have hL : s.hasList (l : Int) := ⟨by omega, by rw [h.len]; omega⟩
  have memA : ∀ x ∈ A, s.hasNode x ∧ x ≠ n := fun x hx => ⟨h.node l hl x (by rw [hAB]; exact List.mem_append_left _ hx), fun e => hno l hl (by rw [hAB, ← e]; exact List.mem_append_left _ hx)⟩
  have memB : ∀ x ∈ B, s.hasNode x ∧ x ≠ n := fun x hx => ⟨h.node l hl x (by rw [hAB]; exact List.mem_append_right _ hx), fun e => hno l hl (by rw [hAB, ← e]; exact List.mem_append_right _ hx)⟩
  have hnd := h.nodup l hl
  rw [hAB] at hnd
  have hdis : ∀ x ∈ A, x ∉ B := fun x hx hb => (List.nodup_append.1 hnd).2.2 x hx x hb rfl
  have hp : A.getLastD (-1) = -1 ∨ s.hasNode (A.getLastD (-1)) := getLastD_mem.imp id (fun hm => (memA _ hm).1)
  have hx : B.headD (-1) = -1 ∨ s.hasNode (B.headD (-1)) := headD_mem'.imp id (fun hm => (memB _ hm).1)
  have hpn : A.getLastD (-1) ≠ n := by
    rcases getLastD_mem (L := A) (x := -1) with hm | hm
    · rw [hm]; have := hn.1; omega
    · exact (memA _ hm).2
  have hxn : B.headD (-1) ≠ n := by
    rcases headD_mem' (L := B) (x := -1) with hm | hm
    · rw [hm]; have := hn.1; omega
    · exact (memB _ hm).2
  have hpx : A.getLastD (-1) = -1 ∨ A.getLastD (-1) ≠ B.headD (-1) := by
    rcases getLastD_mem (L := A) (x := -1) with hm | hm
    · exact .inl hm
    · right
      intro e
      rcases headD_mem' (L := B) (x := -1) with hb | hb
      · rw [e, hb] at hm; have := (memA _ hm).1.1; omega
      · rw [e] at hm; exact hdis _ hm hb
  have hlk : ∀ y : Int, 0 ≤ y → _ := fun y hy => lk_join s l (A.getLastD (-1)) n (B.headD (-1)) y hn hp hx hpn hxn hpx hy
  have hlen := join_len s l (A.getLastD (-1)) n (B.headD (-1))
  have hen : ∀ j : Int, 0 ≤ j → _ := fun j hj => en_join s l (A.getLastD (-1)) n (B.headD (-1)) j hL hj
  generalize s.join l (A.getLastD (-1)) n (B.headD (-1)) = s' at hlk hlen hen
  have hsz : (ls.set l (A ++ n :: B)).length = ls.length := List.length_set
  refine ⟨by rw [hlen.2, hsz, h.len], ?_, ?_, ?_, ?_, ?_, ?_, by rw [hsz]; exact h.many, by rw [hlen.1]; exact h.nodes⟩
  · intro j hj
    rw [hsz] at hj
    rw [getD_set_eq _ _ _ _ hl, hen j (by omega)]
    by_cases e : j = l
    · subst e
      rw [if_pos rfl, if_pos rfl, h.ends j hj, hAB]
      have e1 : (if A.getLastD (-1) = -1 then n else (A ++ B).headD (-1)) = (A ++ n :: B).headD (-1) := by
        cases A with
        | nil => exact if_pos rfl
        | cons a A' =>
          rw [if_neg]
          · rfl
          · intro e
            rcases getLastD_mem (L := a :: A') (x := -1) with hm | hm
            · rw [getLastD_cons'] at e
              rcases getLastD_mem (L := A') (x := a) with h2 | h2
              · rw [h2] at e; have := (memA a List.mem_cons_self).1.1; omega
              · rw [e] at h2; have := (memA _ (List.mem_cons_of_mem _ h2)).1.1; omega
            · rw [e] at hm; have := (memA _ hm).1.1; omega
      have e2 : (if B.headD (-1) = -1 then n else (A ++ B).getLastD (-1)) = (A ++ n :: B).getLastD (-1) := by
        rw [getLastD_app]
        cases B with
        | nil => exact if_pos rfl
        | cons b B' =>
          rw [if_neg, getLastD_app, getLastD_cons']
          have := (memB b List.mem_cons_self).1.1
          show b ≠ -1
          omega
      simp only [e1, e2, List.length_append, List.length_cons]
      congr 1
    · rw [if_neg (by omega), if_neg e, h.ends j hj]
  · intro j hj
    rw [hsz] at hj
    rw [getD_set_eq _ _ _ _ hl]
    by_cases e : j = l
    · subst e
      rw [if_pos rfl]
      have hs := h.seg j hj
      rw [hAB, seg_append] at hs
      obtain ⟨hsA, hsB⟩ := hs
      rw [seg_append]
      refine ⟨?_, ?_, ?_⟩
      · rcases List.eq_nil_or_concat A with rfl | ⟨A', a, rfl⟩
        · trivial
        · rw [List.concat_eq_append] at *
          rw [seg_append] at hsA ⊢
          have ha := memA a (by simp)
          have hla : (A' ++ [a]).getLastD (-1) = a := by rw [getLastD_app]; rfl
          rw [hla] at hlk hpx
          refine ⟨seg_congr (fun y hy => ?_) hsA.1, ?_, trivial⟩
          · have hyA := memA y (List.mem_append_left _ hy)
            have hya : y ≠ a := fun e => (List.nodup_append.1 (List.nodup_append.1 hnd).1).2.2 y hy a (by simp) e
            rw [hlk y hyA.1.1, if_neg hyA.2, if_neg hya, if_neg]
            intro e'
            rcases headD_mem' (L := B) (x := -1) with hb | hb
            · rw [hb] at e'; have := hyA.1.1; omega
            · rw [← e'] at hb; exact hdis y (List.mem_append_left _ hy) hb
          · rw [hlk a ha.1.1, if_neg ha.2, if_pos rfl, hsA.2.1]
            rfl
      · rw [hlk n hn.1, if_pos rfl]
      · cases B with
        | nil => trivial
        | cons b B' =>
          have hb := memB b List.mem_cons_self
          refine ⟨?_, seg_congr (fun y hy => ?_) hsB.2⟩
          · rw [hlk b hb.1.1, if_neg hb.2]
            have hbp : b ≠ A.getLastD (-1) := by
              intro e
              rcases getLastD_mem (L := A) (x := -1) with hm | hm
              · rw [hm] at e; have := hb.1.1; omega
              · rw [← e] at hm; exact hdis b hm List.mem_cons_self
            rw [if_neg hbp]
            refine (if_pos rfl).trans ?_
            show ({ s.lk b with prev := n } : Link) = _
            rw [hsB.1]
          · have hyB := memB y (List.mem_cons_of_mem _ hy)
            have hyb : y ≠ b := fun e => (List.nodup_cons.1 (List.nodup_append.1 hnd).2.1).1 (e ▸ hy)
            rw [hlk y hyB.1.1, if_neg hyB.2, if_neg]
            · exact if_neg hyb
            intro e
            rcases getLastD_mem (L := A) (x := -1) with hm | hm
            · rw [hm] at e; have := hyB.1.1; omega
            · rw [← e] at hm; exact hdis y hm (List.mem_cons_of_mem _ hy)
    · rw [if_neg e]
      refine seg_congr (fun y hy => ?_) (h.seg j hj)
      have hyn := h.node j hj y hy
      have hyl : y ∉ ls.getD l [] := h.apart j l hj hl e y hy
      rw [hAB, List.mem_append, not_or] at hyl
      rw [hlk y hyn.1, if_neg (fun e' : y = n => hno j hj (e' ▸ hy)), if_neg, if_neg]
      · intro e'
        rcases headD_mem' (L := B) (x := -1) with hb | hb
        · rw [hb] at e'; have := hyn.1; omega
        · rw [← e'] at hb; exact hyl.2 hb
      · intro e'
        rcases getLastD_mem (L := A) (x := -1) with hb | hb
        · rw [hb] at e'; have := hyn.1; omega
        · rw [← e'] at hb; exact hyl.1 hb
  · intro j hj y hy
    rw [hsz] at hj
    rw [getD_set_eq _ _ _ _ hl] at hy
    rw [hasNode_iff s s' hlen.1]
    by_cases e : j = l
    · rw [if_pos e] at hy
      rcases List.mem_append.1 hy with hy | hy
      · exact (memA y hy).1
      · rcases List.mem_cons.1 hy with rfl | hy
        · exact hn
        · exact (memB y hy).1
    · rw [if_neg e] at hy; exact h.node j hj y hy
  · intro y hy hfree
    have hyn : y ≠ n := fun e => hfree l (by rw [hsz]; exact hl) (by rw [getD_set_eq _ _ _ _ hl, if_pos rfl, e]; simp)
    have hyAB : y ∉ A ++ B := fun hm => hfree l (by rw [hsz]; exact hl) (by rw [getD_set_eq _ _ _ _ hl, if_pos rfl]; simp at hm ⊢; rcases hm with hm | hm <;> simp [hm])
    have hold : ∀ j : Nat, j < ls.length → y ∉ ls.getD j [] := fun j hj hm => by
      by_cases e : j = l
      · subst e; rw [hAB] at hm; exact hyAB hm
      · exact hfree j (by rw [hsz]; exact hj) (by rw [getD_set_eq _ _ _ _ hl, if_neg e]; exact hm)
    rw [List.mem_append, not_or] at hyAB
    rw [hlk y hy, if_neg hyn, if_neg, if_neg]
    · exact h.free y hy hold
    · intro e'
      rcases headD_mem' (L := B) (x := -1) with hb | hb
      · rw [hb] at e'; omega
      · rw [← e'] at hb; exact hyAB.2 hb
    · intro e'
      rcases getLastD_mem (L := A) (x := -1) with hb | hb
      · rw [hb] at e'; omega
      · rw [← e'] at hb; exact hyAB.1 hb
  · intro j hj
    rw [hsz] at hj
    rw [getD_set_eq _ _ _ _ hl]
    by_cases e : j = l
    · rw [if_pos e]
      rw [List.nodup_append] at hnd ⊢
      refine ⟨hnd.1, List.nodup_cons.2 ⟨fun hm => (memB n hm).2 rfl, hnd.2.1⟩, fun x hx y hy => ?_⟩
      rcases List.mem_cons.1 hy with rfl | hy
      · exact (memA x hx).2
      · exact hnd.2.2 x hx y hy
    · rw [if_neg e]; exact h.nodup j hj
  · intro j j' hj hj' hjj y hy
    rw [hsz] at hj hj'
    rw [getD_set_eq _ _ _ _ hl] at hy ⊢
    by_cases e : j = l
    · rw [if_pos e] at hy
      rw [if_neg (by omega)]
      rcases List.mem_append.1 hy with hy | hy
      · exact h.apart l j' hl hj' (by omega) y (by rw [hAB]; exact List.mem_append_left _ hy)
      · rcases List.mem_cons.1 hy with rfl | hy
        · exact hno j' hj'
        · exact h.apart l j' hl hj' (by omega) y (by rw [hAB]; exact List.mem_append_right _ hy)
    · rw [if_neg e] at hy
      by_cases e' : j' = l
      · rw [if_pos e']
        intro hm
        rcases List.mem_append.1 hm with hm | hm
        · exact h.apart j l hj hl e y hy (by rw [hAB]; exact List.mem_append_left _ hm)
        · rcases List.mem_cons.1 hm with rfl | hm
          · exact hno j hj hy
          · exact h.apart j l hj hl e y hy (by rw [hAB]; exact List.mem_append_right _ hm)
      · rw [if_neg e']; exact h.apart j j' hj hj' hjj y hy
end Chain
end Go.Proofs.Ytekbgpfpnjddgaa
