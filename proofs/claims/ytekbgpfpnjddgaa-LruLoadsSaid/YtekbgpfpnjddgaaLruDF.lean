/- Walks over lru: spill. Walks over lru: Admit, Drop, Resize, Len, Nodes, Moves. Walks over lru: fits, New, Len, Nodes, Moves, Drop, Resize. -/
import Derived.Test.YtekbgpfpnjddgaaLruAC
import Derived.Deep.AppendLies
namespace Go.Proofs.Ytekbgpfpnjddgaa
open Go.RowKit
namespace Lru
theorem kept_of_grown {w w' : World} {row : Option Nat} (h : w.grownBy w' row) : Kept (fun k => row = some k) w w' := ⟨h.os, h.tape, h.output, h.size, fun k hk hF => h.block k hk (fun q => hF q.symm)⟩
theorem ownsRow_kept {F : Nat → Prop} {w w' : World} {base : Nat} {t : TypeId} {size : Nat} {v : Value} {k : Nat} {xs : List Value} (h : w.ownsRow base t size v k xs) (hk : Kept F w w') (hF : ∀ g, v.ownBlock = some g → ¬ F g) : w'.ownsRow base t size v k xs :=
  SlabU.ownsRow_of_block h (fun g hg => hk.block g (by
    rcases h.2 with ⟨q, _⟩ | ⟨g', cap, cur, hv, _, hh, _⟩
    · rw [q] at hg; cases hg
    · rw [hv] at hg
      injection hg with hg
      have hg : g' = g := hg
      rw [← hg]
      exact (Array.getElem?_eq_some_iff.1 hh).1) (hF g hg))
theorem u64_idem' (x y : Int) : IntKind.u64.wrap (IntKind.u64.wrap x + y) = IntKind.u64.wrap (x + y) := Look.u64_idem x y
theorem infoU64 : (Try.prog.info? 31).map (fun i => (i.zero, i.size, i.bytes)) = some (some (.int .u64 0), 1, 8) := by kernel_rfl
def evicts : Nat → Cnt → Cnt
  | 0, n => n
  | k + 1, n => evict (evicts k n)
/-- What is evicted, in order: the last ones go first. -/
def spilled (ps : List (Int × Int)) (most : Nat) : List Int := ((ps.drop most).reverse).map Prod.snd
section
variable {w : World} {e pb ob ib : Nat} {F Fp Fo Fi : Nat → Prop} {c : Conf} {n : Cnt} {ps : List (Int × Int)} {τ : Int → Int} {m : Int}
/-- The parts, and a slice of the caller's own that lies apart. -/
structure Spill (w0 wr : World) (e : Nat) (F : Nat → Prop) (c : Conf) (n : Cnt) (ps : List (Int × Int)) (m : Int) (most k : Nat) (v : Value) : Prop where
  hk : k ≤ ps.length - most
  row : wr.ownsRow w0.heap.size 31 1 v k ((((ps.drop (ps.length - k)).reverse).map Prod.snd).map (Value.int .u64))
  is : ∃ (F' : Nat → Prop) (j : Nat), j ≤ 4 * k ∧ (∀ q, F' q → F q ∨ w0.heap.size ≤ q) ∧ (∀ q, F' q → q < wr.heap.size) ∧ (∀ g, v.ownBlock = some g → ¬ F' g) ∧ Is wr e F' c (evicts k n) (ps.take (ps.length - k)) (IntKind.u64.wrap (m + j))
  kept : Kept F w0 wr
theorem Is.len_calls (h : Is w e F c n ps m) : ∃ pb : Nat, w.cell? ⟨e, 4, none⟩ = some (.pointer (some ⟨pb, 0, none⟩)) ∧ Calls Try.prog 53 #[.pointer (some ⟨pb, 0, none⟩)] w fun e' w' => e' = .returned (.int .i64 ps.length) ∧ w' = w := by
  obtain ⟨pb, ob, ib, Fp, Fo, Fi, τ, hb, hp, _⟩ := h
  exact ⟨pb, (cell_ptrs hb).1, SlabU.Len_has hp.sl⟩
theorem Is.last_calls (h : Is w e F c n ps m) {A : List (Int × Int)} {x key : Int} (hps : ps = A ++ [(x, key)]) : ∃ ob : Nat, w.cell? ⟨e, 5, none⟩ = some (.pointer (some ⟨ob, 0, none⟩)) ∧ Calls Try.prog 76 #[.pointer (some ⟨ob, 0, none⟩), .int .i64 0] w fun e' w' => e' = .returned (.tuple #[.int .i32 x, .bool true]) ∧ w = w' := by
  obtain ⟨pb, ob, ib, Fp, Fo, Fi, τ, hb, hp, _⟩ := h
  refine ⟨ob, (cell_ptrs hb).2.1, ?_⟩
  have := Chain.Last_has hp.ch (l := 0) Nat.zero_lt_one
  rw [show Chain.nth ([ps.map Prod.fst].getD 0 []).reverse 0 = (x, true) by rw [hps]; simp [Chain.nth]] at this
  exact this
theorem Is.cnt5 (h : Is w e F c n ps m) : w.cell? ⟨e, 12, none⟩ = some (.int .u64 n.n5) ∧ (∀ o, w.frozen? ⟨e, o, none⟩ = false) ∧ Is (w.setCell ⟨e, 12, none⟩ (.int .u64 (IntKind.u64.wrap (n.n5 + 1)))) e F c (evict n) ps m := by
  obtain ⟨pb, ob, ib, Fp, Fo, Fi, τ, hb, hp, ha, h0, h1, h2, h3⟩ := h
  have hk : Kept (fun k => k = e) w (w.setCell ⟨e, 12, none⟩ (.int .u64 (IntKind.u64.wrap (n.n5 + 1)))) := Kept.setCell (p := ⟨e, 12, none⟩) (F := fun k => k = e) (Kept.refl _ _) (fun _ => rfl) _
  refine ⟨(hb.cell 12).trans rfl, fun o => hb.frozen o, pb, ob, ib, Fp, Fo, Fi, τ, hb.set 12 _, hp.kept hk ?_ ?_ ?_, ha.size hk.size, h0, h1, h2, h3⟩
  · exact fun k q z => ha.ep (by rw [← z]; exact q)
  · exact fun k q z => ha.eo (by rw [← z]; exact q)
  · exact fun k q z => ha.ei (by rw [← z]; exact q)
def sliceLen : Value → Nat
  | .slice _ n _ => n
  | _ => 0
theorem ownsRow_len {w : World} {base : Nat} {t : TypeId} {size : Nat} {v : Value} {k : Nat} {xs : List Value} (h : w.ownsRow base t size v k xs) : sliceLen v = k := by
  rcases h.2 with ⟨q, z⟩ | ⟨g', cap, cur, hv, _⟩
  · rw [q, z]; rfl
  · rw [hv]; rfl
theorem alloc_last (w : World) (cs : Array Value) (t : TypeId) : (w.alloc (.cells cs t)).heap[w.heap.size]? = some (.cells cs t (0, 0)) := by
  show (w.heap.push _)[w.heap.size]? = _
  simp
theorem ownsRow_lt {w : World} {base : Nat} {t : TypeId} {size : Nat} {v : Value} {k : Nat} {xs : List Value} (h : w.ownsRow base t size v k xs) {g : Nat} (hg : v.ownBlock = some g) : g < w.heap.size ∧ base ≤ g := by
  rcases h.2 with ⟨q, _⟩ | ⟨g', cap, cur, hv, hb, hh, _⟩
  · rw [q] at hg; cases hg
  · rw [hv] at hg
    injection hg with hg
    have hg : g' = g := hg
    rw [← hg]
    exact ⟨(Array.getElem?_eq_some_iff.1 hh).1, hb⟩
theorem Is.self (h : Is w e F c n ps m) : F e := by obtain ⟨_, _, _, _, _, _, _, _, _, _, h0, _⟩ := h; exact h0
theorem take_last {α : Type} (l : List α) (k : Nat) (hk : 0 < k) (hl : k ≤ l.length) : ∃ x, l.take k = l.take (k - 1) ++ [x] ∧ l.drop (k - 1) = x :: l.drop k := by
  refine ⟨l[k - 1]'(by omega), ?_, ?_⟩
  · have := List.take_succ_eq_append_getElem (l := l) (i := k - 1) (by omega)
    rw [show k - 1 + 1 = k by omega] at this
    exact this
  · rw [List.drop_eq_getElem_cons (by omega), show k - 1 + 1 = k by omega]
set_option maxRecDepth 100000 in
set_option maxHeartbeats 1000000 in
theorem spill_calls (h : Is w e F c n ps m) (most : Nat) (hmost : most ≤ 1000) :
    Calls Try.prog 48 #[.pointer (some ⟨e, 0, none⟩), .int .i64 most] w fun e' w' => ∃ v, e' = .returned v ∧ Spill w w' e F c n ps m most (ps.length - most) v := by
  have hfew := h.few
  have hlt := h.lt
  have H := Lib.hid h
  clear h
  go_enter Try.func48, Try.ntmps48
  go_upto_region 2 with fail
  go_loopw [5] (fun v5 wr => ∃ k : Nat, Spill w wr e F c n ps m most k v5) (fun v5 wr => ps.length - sliceLen v5)
  case atStart =>
    refine ⟨0, Nat.zero_le _, ?_, ⟨fun q => F q ∧ q < w.heap.size, 0, Nat.le_refl _, fun q z => .inl z.1, fun q z => z.2, (fun g z => by cases z), ?_⟩, Kept.refl _ _⟩
    · rw [Nat.sub_zero, List.drop_length]
      exact World.ownsRow_nil _ _ _ _
    · have hm := H.out.mv
      rw [Nat.sub_zero, List.take_length]
      have e1 : IntKind.u64.wrap (m + (0 : Nat)) = m := by rw [IntKind.wrap_u64]; omega
      rw [e1]
      exact H.out.trim
  case round =>
    obtain ⟨k, hs⟩ := hrel
    have hk := hs.hk
    obtain ⟨F', j, hj, hF1, hF2, hF3, hI⟩ := hs.is
    obtain ⟨pb, k4, hlen⟩ := hI.len_calls
    have hlk : (ps.take (ps.length - k)).length = ps.length - k := by rw [List.length_take]; omega
    rw [hlk] at hlen
    have HL := Lib.hid hlen
    have HS := Lib.hid hs
    have HI := Lib.hid hI
    have HF1 := Lib.hid hF1
    have HF2 := Lib.hid hF2
    have HF3 := Lib.hid hF3
    have HLK := Lib.hid hlk
    clear hlen hs hI hF1 hF2 hF3 hlk
    by_cases hd : ps.length - k ≤ most
    · have hd1 : decide ((most : Nat) < ps.length - k) = false := decide_eq_false (by omega)
      go_wp2_with (go_at_call 53; refine HL.out.mono ?_; rintro e' w' ⟨rfl, rfl⟩)
      go_ret
      have ek : k = ps.length - most := by omega
      subst ek
      exact ⟨_, rfl, HS.out⟩
    · have hd1 : decide ((most : Nat) < ps.length - k) = true := decide_eq_true (by omega)
      obtain ⟨⟨x, key⟩, hx1, hx2⟩ := take_last ps (ps.length - k) (by omega) (by omega)
      obtain ⟨ob, k5, hlast⟩ := HI.out.last_calls hx1
      have HLA := Lib.hid hlast
      have HX1 := Lib.hid hx1
      have HX2 := Lib.hid hx2
      have HD := Lib.hid hd
      have HLV := Lib.hid (leave_calls HI.out (A := ps.take (ps.length - k - 1)) (B := []) hx1)
      clear hlast hx1 hx2 hd
      obtain ⟨i0, hi, hz0, hz1, hz2⟩ := info_parts infoU64
      have hb1 : k + 1 ≤ maxLen := by unfold maxLen; omega
      have hb2 : (k + 1) * 8 ≤ 140737488355328 := by omega
      go_upto_region 4 with (first | (go_at_call 53; refine HL.out.mono ?_; rintro e' w' ⟨rfl, rfl⟩) | (go_at_call 76; refine HLA.out.mono ?_; rintro e' w' ⟨rfl, rfl⟩))
      go_upto_region 5 with (first | (go_at_call 52; refine HLV.out.mono ?_; rintro e' w2 ⟨rfl, j2, hj2, F2, hF2a, hI2, hk2⟩; have I2 := Lib.hid hI2; have K2 := Lib.hid hk2; have F2a := Lib.hid hF2a; have R2 := Lib.hid (ownsRow_kept HS.out.row hk2 HF3.out); clear hI2 hk2 hF2a) | (at_builtin; refine wpList_append_lies _ rfl (.tmp 23) (.tmp 27) 22 rfl w.heap.size 31 i0 (.int .u64 0) 1 8 Try.underlying22 hi hz0 hz1 hz2 rfl (by decide) _ _ _ rfl (R2.out.alloc _) ⟨w2.heap.size, 0, none⟩ 1 1 [.int .u64 key] rfl rfl (World.news_of_block (cs := #[.int .u64 key]) (alloc_last _ _ _)) (by intro u hu; simp at hu; subst hu; rfl) (by decide) hb1 hb2 (by have := HS.out.kept.size; have := K2.out.size; simp; omega) _ rfl ?_; intro g cap w3 hown hgrow hat hlt3; have OWN := Lib.hid hown; have GR := Lib.hid hgrow; have AT := Lib.hid hat; clear hown hgrow hat))
      have hold : ∀ q, u5.ownBlock = some q → ¬ F2 q ∧ q < w'.heap.size := fun q z => by
        have h1 := ownsRow_lt HS.out.row z
        exact ⟨fun y => (F2a.out q y).elim (HF3.out q z) (fun y => by omega), h1.1⟩
      have hs12 := K2.out.size
      have I2t := (I2.out.trim).calm (Kept.alloc (Kept.refl _ _) (.cells #[.int .u64 key] 31))
      have KG := kept_of_grown GR.out
      have I3 := Lib.hid (I2t.kept KG (fun q z y => (hold q y).1 z.1))
      have hng : ¬ (F2 g ∧ g < w2.heap.size) := by
        rintro ⟨z1, z2⟩
        rcases AT.out with y | y
        · exact (hold g y).1 z1
        · simp at y; omega
      have HNG := Lib.hid hng
      have KK2 := HS.out.kept.step K2.out (fun q hq z => (HF1.out q z).resolve_right (by omega))
      have KK3 := (KK2.alloc (.cells #[.int .u64 key] 31)).step KG (fun q hq z => by have := (ownsRow_lt HS.out.row z).2; omega)
      have KK4 := Lib.hid (Kept.setCell (p := ⟨e, 12, none⟩) KK3 (fun _ => H.out.self) (.int .u64 (IntKind.u64.wrap ((evicts k n).n5 + 1))))
      obtain ⟨k12, hz, hI4⟩ := I3.out.cnt5
      have I4 := Lib.hid hI4
      have hge : g ≠ e := fun q => hng (by rw [q]; exact I3.out.self)
      have hrg : ∀ q, (Value.slice (some ⟨g, 0, none⟩) (k + 1) cap).ownBlock = some q → ¬ q = e := by
        intro q z y
        have z : g = q := by injection z
        exact hge (by rw [z]; exact y)
      have R4 := Lib.hid (ownsRow_kept OWN.out (Kept.setCell (p := ⟨e, 12, none⟩) (F := fun k => k = e) (Kept.refl _ _) (fun _ => rfl) (.int .u64 (IntKind.u64.wrap ((evicts k n).n5 + 1)))) hrg)
      have hw23 : w2.heap.size ≤ w3.heap.size := by have := KG.size; simp at this; omega
      clear hold I2t KG hng KK2 KK3 hI4 hrg
      go_wp2_with fail
      go_roundw
      case rel =>
        refine ⟨k + 1, by have := HD.out; omega, ?_, ⟨fun q => F2 q ∧ q < w2.heap.size, j + j2, by omega, ?_, ?_, ?_, ?_⟩, KK4.out⟩
        · have e1 : (((ps.drop (ps.length - (k + 1))).reverse).map Prod.snd).map (Value.int .u64) = (((ps.drop (ps.length - k)).reverse).map Prod.snd).map (Value.int .u64) ++ [.int .u64 key] := by
            rw [show ps.length - (k + 1) = ps.length - k - 1 by omega, HX2.out]
            simp
          rw [e1]
          exact R4.out
        · exact fun q z => (F2a.out q z.1).elim (fun y => (HF1.out q y)) (fun y => .inr (by have := HS.out.kept.size; omega))
        · intro q z
          have := z.2
          show q < (w3.setCell _ _).heap.size
          simp
          omega
        · intro q z
          have z : g = q := by injection z
          rw [← z]; exact HNG.out
        · have := I4.out
          rw [List.append_nil, show ps.length - k - 1 = ps.length - (k + 1) by omega, u64_idem', show (m + (j : Int) + (j2 : Int)) = m + ((j + j2 : Nat) : Int) by omega] at this
          exact this
      case measure =>
        have := ownsRow_len HS.out.row
        rw [this]
        show ps.length - (k + 1) < ps.length - k
        have := HD.out
        omega
end
end Lru
end Go.Proofs.Ytekbgpfpnjddgaa
namespace Go.Proofs.Ytekbgpfpnjddgaa
open Go.RowKit
namespace Lru
section
variable {w : World} {e pb ob ib : Nat} {F Fp Fo Fi : Nat → Prop} {c : Conf} {n : Cnt} {ps : List (Int × Int)} {τ : Int → Int} {m : Int}
theorem Is.cnt1 (h : Is w e F c n ps m) : w.cell? ⟨e, 8, none⟩ = some (.int .u64 n.n1) ∧ (∀ o, w.frozen? ⟨e, o, none⟩ = false) ∧ Is (w.setCell ⟨e, 8, none⟩ (.int .u64 (IntKind.u64.wrap (n.n1 + 1)))) e F c (miss n) ps m := by
  obtain ⟨pb, ob, ib, Fp, Fo, Fi, τ, hb, hp, ha, h0, h1, h2, h3⟩ := h
  have hk : Kept (fun k => k = e) w (w.setCell ⟨e, 8, none⟩ (.int .u64 (IntKind.u64.wrap (n.n1 + 1)))) := Kept.setCell (p := ⟨e, 8, none⟩) (F := fun k => k = e) (Kept.refl _ _) (fun _ => rfl) _
  refine ⟨(hb.cell 8).trans rfl, fun o => hb.frozen o, pb, ob, ib, Fp, Fo, Fi, τ, hb.set 8 _, hp.kept hk ?_ ?_ ?_, ha.size hk.size, h0, h1, h2, h3⟩
  · exact fun k q z => ha.ep (by rw [← z]; exact q)
  · exact fun k q z => ha.eo (by rw [← z]; exact q)
  · exact fun k q z => ha.ei (by rw [← z]; exact q)
theorem Is.cap (h : Is w e F c n ps m) : w.cell? ⟨e, 1, none⟩ = some (.int .i64 c.cap) := by obtain ⟨_, _, _, _, _, _, _, hb, _⟩ := h; exact (hb.cell 1).trans rfl
set_option maxRecDepth 100000 in
theorem Admit_no (h : Is w e F c n ps m) {key : Int} (hk : keeps ps key = true) :
    Calls Try.prog 20 #[.pointer (some ⟨e, 0, none⟩), .int .u64 key] w fun e' w' => e' = .returned (.tuple #[.slice none 0 0, .bool false]) ∧ w' = w := by
  have HK := Kind_calls h key
  rw [if_pos hk] at HK
  replace HK := Lib.hid HK
  clear hk h
  go_enter Try.func20, Try.ntmps20
  go_wp2_with (go_at_call 13; refine HK.out.mono ?_; rintro e' w' ⟨rfl, rfl⟩)
  go_ret2
  exact ⟨rfl, rfl⟩
/-- What Admit leaves, of a key that was not kept. -/
structure Admitted (w0 w' : World) (e : Nat) (F : Nat → Prop) (c : Conf) (n : Cnt) (ps : List (Int × Int)) (m : Int) (key : Int) (most : Nat) (v : Value) : Prop where
  row : w'.ownsRow w0.heap.size 31 1 v (ps.length - most) ((spilled ps most).map (Value.int .u64))
  is : ∃ (F' : Nat → Prop) (j : Nat) (p : Int), j ≤ 4 * (ps.length - most) + 4 ∧ (∀ q, F' q → F q ∨ w0.heap.size ≤ q) ∧ (∀ q, F' q → q < w'.heap.size) ∧ (∀ g, v.ownBlock = some g → ¬ F' g) ∧ Is w' e F' c (evicts (ps.length - most) (miss n)) ((p, key) :: ps.take most) (IntKind.u64.wrap (m + j))
  kept : Kept F w0 w'
theorem drop_min {α : Type} (l : List α) (k : Nat) : l.drop (l.length - (l.length - k)) = l.drop k ∧ l.take (l.length - (l.length - k)) = l.take k := by
  rcases Nat.le_total k l.length with h | h
  · rw [show l.length - (l.length - k) = k by omega]; exact ⟨rfl, rfl⟩
  · rw [show l.length - (l.length - k) = l.length by omega]
    rw [List.drop_length, List.take_length, List.drop_eq_nil_of_le h, List.take_of_length_le h]
    exact ⟨rfl, rfl⟩
theorem keeps_take {k : Nat} {key : Int} (h : keeps ps key = false) : keeps (ps.take k) key = false := by
  rw [Bool.eq_false_iff] at h ⊢
  intro q
  apply h
  simp only [keeps, List.any_eq_true] at q ⊢
  obtain ⟨x, hx, e⟩ := q
  exact ⟨x, List.mem_of_mem_take hx, e⟩
set_option maxRecDepth 100000 in
set_option maxHeartbeats 1000000 in
theorem Admit_yes (h : Is w e F c n ps m) {key : Int} (hk : keeps ps key = false) (most : Nat) (hc : c.cap = (most : Int) + 1) (hm : most < 256) :
    Calls Try.prog 20 #[.pointer (some ⟨e, 0, none⟩), .int .u64 key] w fun e' w' => ∃ v, e' = .returned (.tuple #[v, .bool true]) ∧ Admitted w w' e F c n ps m key most v := by
  have HK := Kind_calls h key
  rw [if_neg (by rw [hk]; exact Bool.false_ne_true)] at HK
  replace HK := Lib.hid HK
  obtain ⟨k8, hz, hI1⟩ := h.cnt1
  have K1 : Hid (Kept F w _) := Lib.hid (Kept.setCell (p := ⟨e, 8, none⟩) (Kept.refl F w) (fun _ => h.self) (.int .u64 (IntKind.u64.wrap (n.n1 + 1))))
  have I1 := Lib.hid hI1
  have hlt := h.lt
  have hfew := h.few
  have HKK := Lib.hid hk
  have HC := Lib.hid hc
  clear hI1 h hk hc
  go_enter Try.func20, Try.ntmps20
  go_upto_region 4 with (go_at_call 13; refine HK.out.mono ?_; rintro e' w' ⟨rfl, rfl⟩)
  have hsz1 : w'.heap.size = (w'.setCell ⟨e, 8, none⟩ (.int .u64 (IntKind.u64.wrap (n.n1 + 1)))).heap.size := by simp
  clear k8 hz HK
  generalize w'.setCell ⟨e, 8, none⟩ (.int .u64 (IntKind.u64.wrap (n.n1 + 1))) = w1 at I1 K1 hsz1 ⊢
  have k1 := I1.out.cap
  rw [HC.out] at k1
  have HSP := Lib.hid (spill_calls I1.out most (by omega))
  go_upto_region 5 with (go_at_call 48; refine HSP.out.mono ?_; rintro e' w2 ⟨v, rfl, hsp⟩)
  clear HSP k1
  obtain ⟨F', j, hj, hF1, hF2, hF3, hI2⟩ := hsp.is
  rw [(drop_min ps most).2] at hI2
  have hrow := hsp.row
  rw [(drop_min ps most).1] at hrow
  have ROW := Lib.hid hrow
  have KSP := Lib.hid hsp.kept
  obtain ⟨pb, ob, ib, Fp, Fo, Fi, τ, hb2, hp2, ha2, z0, z1, z2, z3⟩ := hI2
  have hlen : (ps.take most).length < 256 := by rw [List.length_take]; omega
  have B2 := Lib.hid hb2
  have P2 := Lib.hid hp2
  have A2 := Lib.hid ha2
  have HF : Hid ((∀ q, F' q → F q ∨ w1.heap.size ≤ q) ∧ (∀ q, F' q → q < w2.heap.size) ∧ (∀ g, v.ownBlock = some g → ¬ F' g)) := Lib.hid ⟨hF1, hF2, hF3⟩
  have Z := Lib.hid (show F' e ∧ (∀ k, Fp k → F' k) ∧ (∀ k, Fo k → F' k) ∧ (∀ k, Fi k → F' k) from ⟨z0, z1, z2, z3⟩)
  clear hsp hF1 hF2 hF3 hrow hb2 hp2 ha2 z0 z1 z2 z3
  have k4 := (cell_ptrs B2.out).1
  go_upto_region 6 with (go_at_call 36; refine (SlabU.Alloc_has P2.out.sl hlen key).mono ?_; rintro e' w3 ⟨p, t, rfl, hno, hsl, hk3⟩)
  have SL3 := Lib.hid hsl.trim
  have K3 := Lib.hid hk3
  have HNO := Lib.hid hno
  have B3 := Lib.hid (B2.out.kept hk3 A2.out.ep)
  have CH3 := Lib.hid (P2.out.ch.kept hk3 (fun k q z => A2.out.po k z q))
  have LK3 := Lib.hid (P2.out.lk.kept hk3 (fun k q z => A2.out.pi k z q))
  have A3 := Lib.hid (A2.out.growP hk3.size)
  have R3 := Lib.hid (ownsRow_kept ROW.out hk3 (fun g q z => HF.out.2.2 g q (Z.out.2.1 g z)))
  have hs23 : w2.heap.size ≤ w3.heap.size := hk3.size
  clear hsl hno hk3 k4
  have C4 : Calm w3 _ := Kept.alloc (Kept.refl _ w3) (.cells #[.int .i32 p, .int .u32 t] 82)
  have HX4 := Lib.hid (Blk.new w3 #[.int .i32 p, .int .u32 t] 82)
  have CC4 := Lib.hid C4
  have hs34 : (w3.alloc (.cells #[.int .i32 p, .int .u32 t] 82)).heap.size = w3.heap.size + 1 := by simp
  clear C4
  generalize w3.alloc (.cells #[.int .i32 p, .int .u32 t] 82) = w4 at CC4 HX4 hs34 ⊢
  generalize hHe : w3.heap.size = H at HX4
  have k6 := (cell_ptrs (B3.out.calm CC4.out)).2.2
  have x0 := HX4.out.cell 0
  simp at x0
  go_still_tail 7, (by kernel_rfl)
  change wpList _ _ _ _ _ w4.drew
  have CC5 := Lib.hid CC4.out.drew
  have HX5 := Lib.hid HX4.out.drew
  have hs45 : w4.drew.heap.size = w4.heap.size := rfl
  clear k6 x0 CC4 HX4
  generalize w4.drew = w5 at CC5 HX5 hs45 ⊢
  have hll : ((ps.take most).map Prod.swap).length < 100000 := by rw [List.length_map]; omega
  have LK5 := Lib.hid (LK3.out.calm CC5.out)
  go_upto_region 7 with (go_at_call 37; refine (Look.Put_has LK5.out key p hll).mono ?_; rintro e' w6 ⟨rfl, j2, hj2, hlk, hk6⟩)
  have LK6 := Lib.hid hlk.trim
  have K6 := Lib.hid hk6
  have A5 := Lib.hid (A3.out.size (w' := w5) CC5.out.size)
  have hHn : ∀ G : Nat → Prop, (∀ k, G k → k < w3.heap.size) → ¬ G H := fun G hG q => by have := hG H q; omega
  have SL6 := Lib.hid ((SL3.out.calm CC5.out).kept hk6 (fun k q => A3.out.pi k ⟨q.1, q.2⟩))
  have CH6 := Lib.hid ((CH3.out.calm CC5.out).kept hk6 A2.out.oi)
  have B6 := Lib.hid ((B3.out.calm CC5.out).kept hk6 A2.out.ei)
  have HX6 := Lib.hid (HX5.out.kept hk6 (hHn _ A3.out.li))
  have R6 := Lib.hid (ownsRow_kept (ownsRow_kept R3.out CC5.out (fun _ _ q => q)) hk6 (fun g q z => HF.out.2.2 g q (Z.out.2.2.2 g z)))
  have A6 := Lib.hid (A5.out.growI hk6.size)
  have hs56 : w5.heap.size ≤ w6.heap.size := hk6.size
  clear hlk hk6 SL3 CH3 B3 R3 LK3 HX5
  have k5 := (cell_ptrs B6.out).2.1
  have x0 := HX6.out.cell 0
  simp at x0
  go_still_tail 6, (by kernel_rfl)
  change wpList _ _ _ _ _ w6.drew
  have CD : Calm w6 w6.drew := Kept.drew (Kept.refl _ _)
  have SL7 := Lib.hid (SL6.out.calm CD)
  have CH7 := Lib.hid (CH6.out.calm CD)
  have LK7 := Lib.hid (LK6.out.calm CD)
  have B7 := Lib.hid (B6.out.calm CD)
  have R7 := Lib.hid (ownsRow_kept R6.out CD (fun _ _ q => q))
  have hs67 : w6.drew.heap.size = w6.heap.size := rfl
  have K7 := Lib.hid ((KSP.out.step K3.out (fun k hk q => (HF.out.1 k (Z.out.2.1 k q)).resolve_right (by omega))).trans (CC5.out.mono (fun _ _ q => q.elim)) |>.step K6.out (fun k hk q => (HF.out.1 k (Z.out.2.2.2 k q)).resolve_right (by omega)) |>.drew)
  clear k5 x0 CD SL6 CH6 LK6 B6 R6 HX6 CC5
  have k5 := (cell_ptrs B7.out).2.1
  generalize w6.drew = w7 at SL7 CH7 LK7 B7 R7 K7 hs67 k5 ⊢
  have hpp : 0 ≤ p ∧ p < ((256 : Nat) : Int) := SL7.out.pos p key (List.mem_cons_self ..)
  have HPP := Lib.hid hpp
  have HN : Hid (∀ i : Nat, i < [(ps.take most).map Prod.fst].length → p ∉ [(ps.take most).map Prod.fst].getD i []) := by
    refine Lib.hid (fun i hi => ?_)
    have : i = 0 := by simp at hi; exact hi
    subst this
    intro z
    obtain ⟨⟨a, y⟩, hy, q⟩ := List.mem_map.1 z
    have q : a = p := q
    exact HNO.out y (by rw [← q]; exact hy)
  clear hpp
  go_wp2_with (go_at_call 49; refine (Chain.Ahead_has CH7.out (l := 0) Nat.zero_lt_one HPP.out HN.out).mono ?_; rintro e' w8 ⟨rfl, hch8, hk8⟩; have CH8 := Lib.hid hch8; have K8 := Lib.hid hk8; clear hch8 hk8)
  go_ret2
  have hs78 := K8.out.size
  have hsm1 := K1.out.size
  have hs12 := KSP.out.size
  have hkf : keeps (ps.take most) key = false := keeps_take HKK.out
  have hdel : Look.put ((ps.take most).map Prod.swap) key p = ((p, key) :: ps.take most).map Prod.swap := by
    show (key, p) :: Look.del _ _ = _
    rw [Look.del_none, List.map_cons]
    · rfl
    · rw [Look.not_has_iff]
      intro u q
      obtain ⟨⟨a, y⟩, hy, z⟩ := List.mem_map.1 q
      injection z with z1 z2
      have z1 : y = key := z1
      refine keeps_false hkf (List.mem_map.2 ⟨(a, y), hy, z1⟩)
  refine ⟨v, rfl, ?_, ⟨fun q => (F' q ∨ w2.heap.size ≤ q) ∧ q < w7.heap.size ∧ ¬ (∃ g, v.ownBlock = some g ∧ g = q), j + j2, p, by omega, ?_, ?_, ?_, ?_⟩, ?_⟩
  · have := ownsRow_kept R7.out K8.out (fun g q z => HF.out.2.2 g q (Z.out.2.2.1 g z))
    rw [← hsz1] at this
    exact this
  · rintro q ⟨z | z, _⟩
    · exact (HF.out.1 q z).imp id (fun z => by omega)
    · exact .inr (by omega)
  · rintro q ⟨_, z, _⟩
    exact Nat.lt_of_lt_of_le z hs78
  · rintro g q ⟨_, _, z⟩
    exact z ⟨g, q, rfl⟩
  · have hvb : ∀ g, v.ownBlock = some g → g < w2.heap.size := fun g q => (ownsRow_lt ROW.out q).1
    have hvF : ∀ q, F' q → ¬ (∃ g, v.ownBlock = some g ∧ g = q) := fun q z ⟨g, y1, y2⟩ => HF.out.2.2 g y1 (by rw [y2]; exact z)
    have hvN : ∀ q, w2.heap.size ≤ q → ¬ (∃ g, v.ownBlock = some g ∧ g = q) := fun q z ⟨g, y1, y2⟩ => by have := hvb g y1; omega
    have hFl : ∀ q, F' q → q < w7.heap.size := fun q z => Nat.lt_of_lt_of_le (HF.out.2.1 q z) (by omega)
    refine ⟨pb, ob, ib, New Fp w2 w3, Fo, New Fi w5 w6, _, B7.out.kept K8.out A6.out.eo, ⟨SL7.out.kept K8.out A6.out.po, ?_, ?_⟩, A6.out.size (by omega), ⟨.inl Z.out.1, hFl _ Z.out.1, hvF _ Z.out.1⟩, ?_, ?_, ?_⟩
    · have := CH8.out
      rw [show [(ps.take most).map Prod.fst].set 0 (p :: [(ps.take most).map Prod.fst].getD 0 []) = [((p, key) :: ps.take most).map Prod.fst] by simp] at this
      exact this
    · have := LK7.out.kept K8.out (fun k q z => A6.out.oi k z q)
      rw [hdel, u64_idem', show (m + (j : Int) + (j2 : Int)) = m + ((j + j2 : Nat) : Int) by omega] at this
      exact this
    · rintro k ⟨q | q, z⟩
      · exact ⟨.inl (Z.out.2.1 k q), by omega, hvF _ (Z.out.2.1 k q)⟩
      · exact ⟨.inr q, by omega, hvN _ q⟩
    · exact fun k q => ⟨.inl (Z.out.2.2.1 k q), hFl _ (Z.out.2.2.1 k q), hvF _ (Z.out.2.2.1 k q)⟩
    · rintro k ⟨q | q, z⟩
      · exact ⟨.inl (Z.out.2.2.2 k q), by omega, hvF _ (Z.out.2.2.2 k q)⟩
      · have q2 : w2.heap.size ≤ k := Nat.le_trans (by have := A5.out; omega) q
        exact ⟨.inr q2, by omega, hvN _ q2⟩
  · exact (K1.out.trans K7.out).step K8.out (fun k hk q => (HF.out.1 k (Z.out.2.2.1 k q)).resolve_right (by omega))
end
end Lru
end Go.Proofs.Ytekbgpfpnjddgaa
namespace Go.Proofs.Ytekbgpfpnjddgaa
open Go.RowKit
open Go.Proofs.Ytekbgpfpnjddgaa.PLruLoads
namespace Lru
/-- A config of Lru that may be. -/
def Conf.fits (c : Conf) : Bool := decide (c.pol = 3 ∧ 2 ≤ c.cap ∧ c.cap ≤ 256 ∧ 1 ≤ c.quota ∧ c.quota < c.cap ∧ 0 ≤ c.ghosts ∧ c.ghosts ≤ 512)
theorem fits_f (c : Conf) : lru_fits.f 4 c.pol c.cap c.quota c.ghosts = some c.fits := by
  unfold lru_fits.f config_Check.f config_Check.j0 config_Check.j1 config_Check.j2 Conf.fits
  simp only [decide_eq_true_eq, if_pos]
  repeat' split
  all_goals simp
  all_goals first | omega | (by_cases h3 : c.pol = 3 <;> simp [h3] <;> omega)
theorem fits_calls (c : Conf) (w : World) :
    Calls Try.prog 28 #[c.agg] w fun e w' => e = .returned (.bool c.fits) ∧ Calm w w' := by
  refine (lru_fits.calls 4 c.pol c.cap c.quota c.ghosts c.fits w (fits_f c)).mono ?_
  rintro e w' ⟨he, hb⟩
  exact ⟨he, Kept.of_below hb _⟩
theorem blk_castL {w : World} {b : Nat} {cs cs' : Array Value} (e : cs = cs') (h : Blk w b cs) : Blk w b cs' := e ▸ h
section
variable {w : World}
set_option maxRecDepth 100000 in
theorem New_bad (c : Conf) (hc : c.fits = false) :
    Calls Try.prog 7 #[c.agg] w fun e w' => e = .returned (.tuple #[.pointer none, .int .i64 2]) ∧ Calm w w' := by
  have HF := Lib.hid (fun w => fits_calls c w)
  rw [hc] at HF
  clear hc
  unfold Conf.agg at HF ⊢
  go_enter Try.func7, Try.ntmps7
  go_upto_region 1 with fail
  have HB := Lib.hid (Blk.new w #[.int .i64 c.pol, .int .i64 c.cap, .int .i64 c.quota, .int .i64 c.ghosts] 25)
  have C1 : Hid (Calm w _) := Lib.hid (Kept.alloc (Kept.refl _ w) (.cells #[.int .i64 c.pol, .int .i64 c.cap, .int .i64 c.quota, .int .i64 c.ghosts] 25))
  generalize w.alloc (.cells #[.int .i64 c.pol, .int .i64 c.cap, .int .i64 c.quota, .int .i64 c.ghosts] 25) = w1 at HB C1 ⊢
  generalize w.heap.size = B at HB
  have b0 := HB.out.cell 0
  have b1 := HB.out.cell 1
  have b2 := HB.out.cell 2
  have b3 := HB.out.cell 3
  simp at b0 b1 b2 b3
  go_wp2_with (go_at_call 28; refine (HF.out _).mono ?_; rintro e w2 ⟨rfl, hc2⟩; have C2 := Lib.hid (C1.out.trans hc2); clear hc2)
  go_ret2
  exact ⟨rfl, C2.out⟩
set_option maxRecDepth 100000 in
set_option maxHeartbeats 1000000 in
theorem New_good (c : Conf) (hc : c.fits = true) :
    Calls Try.prog 7 #[c.agg] w fun e' w' => ∃ e, e' = .returned (.tuple #[.pointer (some ⟨e, 0, none⟩), .int .i64 0]) ∧ Is w' e (fun k => w.heap.size ≤ k) c zeroCnt [] 0 ∧ Calm w w' := by
  have HF := Lib.hid (fun w => fits_calls c w)
  rw [hc] at HF
  clear hc
  unfold Conf.agg at HF ⊢
  go_enter Try.func7, Try.ntmps7
  go_upto_region 1 with fail
  have HB := Lib.hid (Blk.new w #[.int .i64 c.pol, .int .i64 c.cap, .int .i64 c.quota, .int .i64 c.ghosts] 25)
  have C1 : Hid (Calm w _) := Lib.hid (Kept.alloc (Kept.refl _ w) (.cells #[.int .i64 c.pol, .int .i64 c.cap, .int .i64 c.quota, .int .i64 c.ghosts] 25))
  generalize w.alloc (.cells #[.int .i64 c.pol, .int .i64 c.cap, .int .i64 c.quota, .int .i64 c.ghosts] 25) = w1 at HB C1 ⊢
  generalize w.heap.size = B at HB
  have b0 := HB.out.cell 0
  have b1 := HB.out.cell 1
  have b2 := HB.out.cell 2
  have b3 := HB.out.cell 3
  simp at b0 b1 b2 b3
  go_upto_region 3 with (go_at_call 28; refine (HF.out _).mono ?_; rintro e w2 ⟨rfl, hc2⟩; have C2 := Lib.hid (C1.out.trans hc2); have B2 := Lib.hid (HB.out.calm hc2); clear hc2)
  clear b0 b1 b2 b3 HB C1
  have b0 := B2.out.cell 0
  have b1 := B2.out.cell 1
  have b2 := B2.out.cell 2
  have b3 := B2.out.cell 3
  simp at b0 b1 b2 b3
  go_cut [4] (fun v4 wa => ∃ e ib, v4 = .pointer (some ⟨e, 0, none⟩) ∧ Blk wa e #[.int .i64 c.pol, .int .i64 c.cap, .int .i64 c.quota, .int .i64 c.ghosts, .pointer none, .pointer none, .pointer (some ⟨ib, 0, none⟩), .int .u64 0, .int .u64 0, .int .u64 0, .int .u64 0, .int .u64 0, .int .u64 0, .int .u64 0, .int .u64 0, .int .u64 0, .int .u64 0] ∧ Look.Has wa ib (fun k => w.heap.size ≤ k ∧ k < e) [] 0 ∧ w.heap.size ≤ e ∧ Calm w wa)
  case first =>
    go_region_with (go_at_call 29; refine (Look.New_has _).mono ?_; rintro e' w4 ⟨ib, rfl, hlk, hc4⟩; have HLK := Lib.hid hlk; have C4 := Lib.hid hc4; have B4 := Lib.hid (B2.out.calm (Kept.trans (Kept.drew (Kept.refl _ w2)) hc4)); clear hlk hc4; have q0 := B4.out.cell 0; have q1 := B4.out.cell 1; have q2 := B4.out.cell 2; have q3 := B4.out.cell 3; simp at q0 q1 q2 q3)
    all_goals go_wp2_with fail
    all_goals go_meet
    all_goals
      have hs2 := C2.out.size
      have hs4 : w2.heap.size ≤ w4.heap.size := C4.out.size
      refine ⟨w4.heap.size, ib, rfl, Blk.new _ _ _, ?_, by omega, ((C2.out.trans (Kept.drew (Kept.refl _ w2))).trans C4.out).alloc _⟩
      refine ((HLK.out.trim).mono ?_).calm (Kept.alloc (Kept.refl _ _) _)
      rintro k ⟨q1, q2⟩
      have q1 : w2.heap.size ≤ k := q1
      exact ⟨by omega, q2⟩
  case rest =>
    obtain ⟨e, ib, rfl, hb, hlk, hwe, hc⟩ := hcut
    have BE := Lib.hid hb
    have LK := Lib.hid hlk
    have CA := Lib.hid hc
    have hle : e < wc.heap.size := hb.lt
    clear hb hlk hc b0 b1 b2 b3
    go_upto_region 5 with (go_at_call 30; refine (SlabU.New_has _ 256 32 (by decide) (by decide) (by decide)).mono ?_; rintro e' w3 ⟨pb, rfl, hsl, hc3⟩; have SL := Lib.hid hsl; have C3 := Lib.hid hc3; have BE3 := Lib.hid (BE.out.calm hc3); clear hsl hc3; have q4 := BE3.out.cell 4; have qz := fun o => BE3.out.frozen o; simp at q4)
    have K5 : Kept (fun k => k = e) w3 (w3.setCell ⟨e, 4, none⟩ (.pointer (some ⟨pb, 0, none⟩))) := Kept.setCell (p := ⟨e, 4, none⟩) (F := fun k => k = e) (Kept.refl _ _) (fun _ => rfl) _
    have BE5 := Lib.hid (BE3.out.set 4 (.pointer (some ⟨pb, 0, none⟩)))
    have KE5 := Lib.hid K5
    have hs3 := C3.out.size
    clear K5 q4 qz BE3
    have hs5 : (w3.setCell ⟨e, 4, none⟩ (.pointer (some ⟨pb, 0, none⟩))).heap.size = w3.heap.size := by simp
    generalize w3.setCell ⟨e, 4, none⟩ (.pointer (some ⟨pb, 0, none⟩)) = w5 at BE5 KE5 hs5 ⊢
    go_wp2_with (go_at_call 31; refine (Chain.New_has _ 256 1 (by decide) (by decide) (by decide) (by decide)).mono ?_; rintro e' w6 ⟨ob, rfl, hch, hc6⟩; have CH := Lib.hid hch; have C6 := Lib.hid hc6; have BE6 := Lib.hid (BE5.out.calm hc6); clear hch hc6; have q5 := BE6.out.cell 5; have qz := fun o => BE6.out.frozen o; simp at q5)
    go_ret2
    have hs6 := C6.out.size
    have hne : ∀ k, e ≠ k → ¬ (fun x => x = e) k := fun k q z => q z.symm
    have K7 : Kept (fun k => k = e) w6 (w6.setCell ⟨e, 5, none⟩ (.pointer (some ⟨ob, 0, none⟩))) := Kept.setCell (p := ⟨e, 5, none⟩) (F := fun k => k = e) (Kept.refl _ _) (fun _ => rfl) _
    have BE7 := BE6.out.set 5 (.pointer (some ⟨ob, 0, none⟩))
    have SL7 := (((SL.out.trim).kept KE5.out (fun k q z => by have : wc.heap.size ≤ k := q.1; omega)).calm C6.out).kept K7 (fun k q z => by have : wc.heap.size ≤ k := q.1; omega)
    have CH7 := (CH.out.trim).kept K7 (fun k q z => by have : w5.heap.size ≤ k := q.1; omega)
    have LK7 := ((((LK.out.calm C3.out).kept KE5.out (fun k q z => by have := q.2; omega)).calm C6.out).kept K7 (fun k q z => by have := q.2; omega))
    refine ⟨e, rfl, ⟨pb, ob, ib, _, _, _, fun _ => 0, ?_, ⟨SL7, CH7, LK7⟩, ?_, hwe, ?_, ?_, ?_⟩, ?_⟩
    · refine blk_castL ?_ BE7
      simp [cells, zeroCnt]
    · have hs7 : (w6.setCell ⟨e, 5, none⟩ (.pointer (some ⟨ob, 0, none⟩))).heap.size = w6.heap.size := by simp
      refine { le := by rw [hs7]; omega, lp := fun k q => by rw [hs7]; have := q.2; omega, lo := fun k q => by rw [hs7]; have := q.2; omega, li := fun k q => by rw [hs7]; have := q.2; omega, ep := ?_, eo := ?_, ei := ?_, po := ?_, pi := ?_, oi := ?_ }
      · rintro ⟨q, _⟩; have : wc.heap.size ≤ e := q; omega
      · rintro ⟨q, _⟩; have : w5.heap.size ≤ e := q; omega
      · rintro ⟨_, q⟩; omega
      · rintro k ⟨_, q⟩ ⟨z, _⟩; have : w5.heap.size ≤ k := z; omega
      · rintro k ⟨q, _⟩ ⟨_, z⟩; have : wc.heap.size ≤ k := q; omega
      · rintro k ⟨q, _⟩ ⟨_, z⟩; have : w5.heap.size ≤ k := q; omega
    · rintro k ⟨q, _⟩; have : wc.heap.size ≤ k := q; have := CA.out.size; show _ ≤ k; omega
    · rintro k ⟨q, _⟩; have : w5.heap.size ≤ k := q; have := CA.out.size; show _ ≤ k; omega
    · rintro k ⟨q, _⟩; exact q
    · have h1 := (CA.out.trans C3.out).step KE5.out (fun k hk q => by have hk : k < w.heap.size := hk; have q : k = e := q; omega)
      exact (h1.trans C6.out).step K7 (fun k hk q => by have hk : k < w.heap.size := hk; have q : k = e := q; omega)
end
end Lru
end Go.Proofs.Ytekbgpfpnjddgaa
