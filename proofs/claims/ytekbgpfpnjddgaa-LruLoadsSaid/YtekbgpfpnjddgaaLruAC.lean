/- An engine of least recently used as the memory has it; what its parts are asked for. Walks over lru: leave. Walks over lru: Touch, Kind, Len, Nodes, Moves, Drop. -/
import Derived.Test.YtekbgpfpnjddgaaLruPr
import Derived.Test.YtekbgpfpnjddgaaSlabUAC
import Derived.Test.YtekbgpfpnjddgaaChainHas
import Derived.Test.YtekbgpfpnjddgaaLookEH
import Derived.Deep.RegionWith
namespace Go.Proofs.Ytekbgpfpnjddgaa
open Go.RowKit
namespace Lru

structure Conf where
  pol : Int
  cap : Int
  quota : Int
  ghosts : Int
  deriving DecidableEq
structure Cnt where
  n0 : Int
  n1 : Int
  n2 : Int
  n3 : Int
  n4 : Int
  n5 : Int
  n6 : Int
  n7 : Int
  n8 : Int
  n9 : Int
  deriving DecidableEq
def Conf.agg (c : Conf) : Value := .agg #[.int .i64 c.pol, .int .i64 c.cap, .int .i64 c.quota, .int .i64 c.ghosts]
def cells (c : Conf) (pb ob ib : Nat) (n : Cnt) : Array Value :=
  #[.int .i64 c.pol, .int .i64 c.cap, .int .i64 c.quota, .int .i64 c.ghosts, .pointer (some ⟨pb, 0, none⟩), .pointer (some ⟨ob, 0, none⟩), .pointer (some ⟨ib, 0, none⟩),
    .int .u64 n.n0, .int .u64 n.n1, .int .u64 n.n2, .int .u64 n.n3, .int .u64 n.n4, .int .u64 n.n5, .int .u64 n.n6, .int .u64 n.n7, .int .u64 n.n8, .int .u64 n.n9]
def zeroCnt : Cnt := ⟨0, 0, 0, 0, 0, 0, 0, 0, 0, 0⟩

theorem del_mid {β : Type} : ∀ (A B : List (Int × β)) (x : Int × β), ((A ++ x :: B).map Prod.fst).Nodup → Assoc.del (A ++ x :: B) x.1 = A ++ B := by
  intro A B x hn
  rw [List.map_append, List.map_cons, List.nodup_append] at hn
  obtain ⟨_, h2, h3⟩ := hn
  rw [List.nodup_cons] at h2
  unfold Assoc.del
  rw [List.filter_append, List.filter_cons]
  have e1 : A.filter (fun y => !(y.1 == x.1)) = A := by
    rw [List.filter_eq_self]
    intro y hy
    have := h3 y.1 (List.mem_map.2 ⟨y, hy, rfl⟩) x.1 (List.mem_cons_self ..)
    simpa using this
  have e2 : B.filter (fun y => !(y.1 == x.1)) = B := by
    rw [List.filter_eq_self]
    intro y hy
    have : y.1 ≠ x.1 := fun q => h2.1 (List.mem_map.2 ⟨y, hy, q⟩)
    simpa using this
  rw [e1, e2]
  simp

/-- The blocks of an engine's parts lie apart. -/
structure Apart (w : World) (e : Nat) (Fp Fo Fi : Nat → Prop) : Prop where
  le : e < w.heap.size
  lp : ∀ k, Fp k → k < w.heap.size
  lo : ∀ k, Fo k → k < w.heap.size
  li : ∀ k, Fi k → k < w.heap.size
  ep : ¬ Fp e
  eo : ¬ Fo e
  ei : ¬ Fi e
  po : ∀ k, Fp k → ¬ Fo k
  pi : ∀ k, Fp k → ¬ Fi k
  oi : ∀ k, Fo k → ¬ Fi k
/-- An engine's parts: the pairs of node and key, the last one asked first. -/
structure Parts (w : World) (pb ob ib : Nat) (Fp Fo Fi : Nat → Prop) (ps : List (Int × Int)) (τ : Int → Int) (m : Int) : Prop where
  sl : SlabU.Has w pb Fp 256 ps τ
  ch : Chain.Has w ob Fo 256 [ps.map Prod.fst]
  lk : Look.Has w ib Fi (ps.map Prod.swap) m
def Is (w : World) (e : Nat) (F : Nat → Prop) (c : Conf) (n : Cnt) (ps : List (Int × Int)) (m : Int) : Prop :=
  ∃ pb ob ib Fp Fo Fi τ, Blk w e (cells c pb ob ib n) ∧ Parts w pb ob ib Fp Fo Fi ps τ m ∧ Apart w e Fp Fo Fi ∧ F e ∧ (∀ k, Fp k → F k) ∧ (∀ k, Fo k → F k) ∧ (∀ k, Fi k → F k)

section
variable {w : World} {e pb ob ib : Nat} {F Fp Fo Fi : Nat → Prop} {c : Conf} {n : Cnt} {ps : List (Int × Int)} {τ : Int → Int} {m : Int}
theorem Parts.calm {w' : World} (h : Parts w pb ob ib Fp Fo Fi ps τ m) (hk : Calm w w') : Parts w' pb ob ib Fp Fo Fi ps τ m := ⟨h.sl.calm hk, h.ch.calm hk, h.lk.calm hk⟩
theorem Parts.kept {G : Nat → Prop} {w' : World} (h : Parts w pb ob ib Fp Fo Fi ps τ m) (hk : Kept G w w') (h1 : ∀ k, Fp k → ¬ G k) (h2 : ∀ k, Fo k → ¬ G k) (h3 : ∀ k, Fi k → ¬ G k) : Parts w' pb ob ib Fp Fo Fi ps τ m := ⟨h.sl.kept hk h1, h.ch.kept hk h2, h.lk.kept hk h3⟩
theorem Apart.size {w' : World} (h : Apart w e Fp Fo Fi) (hs : w.heap.size ≤ w'.heap.size) : Apart w' e Fp Fo Fi :=
  { h with le := Nat.lt_of_lt_of_le h.le hs, lp := fun k q => Nat.lt_of_lt_of_le (h.lp k q) hs, lo := fun k q => Nat.lt_of_lt_of_le (h.lo k q) hs, li := fun k q => Nat.lt_of_lt_of_le (h.li k q) hs }
/-- Grown, and there. -/
def New (F : Nat → Prop) (w w' : World) (k : Nat) : Prop := (F k ∨ w.heap.size ≤ k) ∧ k < w'.heap.size
theorem Apart.growI {w' : World} (h : Apart w e Fp Fo Fi) (hs : w.heap.size ≤ w'.heap.size) : Apart w' e Fp Fo (New Fi w w') := by
  have := h.size hs
  refine { this with li := fun k q => q.2, ei := ?_, pi := ?_, oi := ?_ }
  · rintro ⟨q | q, _⟩
    · exact h.ei q
    · have := h.le; omega
  · rintro k hk ⟨q | q, _⟩
    · exact h.pi k hk q
    · have := h.lp k hk; omega
  · rintro k hk ⟨q | q, _⟩
    · exact h.oi k hk q
    · have := h.lo k hk; omega
theorem Apart.growP {w' : World} (h : Apart w e Fp Fo Fi) (hs : w.heap.size ≤ w'.heap.size) : Apart w' e (New Fp w w') Fo Fi := by
  have := h.size hs
  refine { this with lp := fun k q => q.2, ep := ?_, pi := ?_, po := ?_ }
  · rintro ⟨q | q, _⟩
    · exact h.ep q
    · have := h.le; omega
  · rintro k ⟨q | q, _⟩ z
    · exact h.po k q z
    · have := h.lo k z; omega
  · rintro k ⟨q | q, _⟩ z
    · exact h.pi k q z
    · have := h.li k z; omega
theorem Is.lt (h : Is w e F c n ps m) : e < w.heap.size := by obtain ⟨_, _, _, _, _, _, _, _, _, ha, _⟩ := h; exact ha.le
theorem Is.trim (h : Is w e F c n ps m) : Is w e (fun k => F k ∧ k < w.heap.size) c n ps m := by
  obtain ⟨pb, ob, ib, Fp, Fo, Fi, τ, hb, hp, ha, h0, h1, h2, h3⟩ := h
  exact ⟨pb, ob, ib, Fp, Fo, Fi, τ, hb, hp, ha, ⟨h0, ha.le⟩, fun k q => ⟨h1 k q, ha.lp k q⟩, fun k q => ⟨h2 k q, ha.lo k q⟩, fun k q => ⟨h3 k q, ha.li k q⟩⟩
theorem Is.mono {G : Nat → Prop} (h : Is w e F c n ps m) (hF : ∀ k, F k → G k) : Is w e G c n ps m := by
  obtain ⟨pb, ob, ib, Fp, Fo, Fi, τ, hb, hp, ha, h0, h1, h2, h3⟩ := h
  exact ⟨pb, ob, ib, Fp, Fo, Fi, τ, hb, hp, ha, hF _ h0, fun k q => hF _ (h1 k q), fun k q => hF _ (h2 k q), fun k q => hF _ (h3 k q)⟩
theorem Is.kept {G : Nat → Prop} {w' : World} (h : Is w e F c n ps m) (hk : Kept G w w') (hF : ∀ k, F k → ¬ G k) : Is w' e F c n ps m := by
  obtain ⟨pb, ob, ib, Fp, Fo, Fi, τ, hb, hp, ha, h0, h1, h2, h3⟩ := h
  exact ⟨pb, ob, ib, Fp, Fo, Fi, τ, hb.kept hk (hF _ h0), hp.kept hk (fun k q => hF k (h1 k q)) (fun k q => hF k (h2 k q)) (fun k q => hF k (h3 k q)), ha.size hk.size, h0, h1, h2, h3⟩
theorem Is.calm {w' : World} (h : Is w e F c n ps m) (hk : Calm w w') : Is w' e F c n ps m := h.kept hk (fun _ _ q => q)
theorem Is.ndF (h : Is w e F c n ps m) : (ps.map Prod.fst).Nodup := by obtain ⟨_, _, _, _, _, _, _, _, hp, _⟩ := h; exact hp.sl.nd
theorem Is.ndS (h : Is w e F c n ps m) : (ps.map Prod.snd).Nodup := by
  obtain ⟨_, _, _, _, _, _, _, _, hp, _⟩ := h
  have := hp.lk.nd
  rw [List.map_map] at this
  exact this
theorem Is.few (h : Is w e F c n ps m) : ps.length ≤ 256 := by obtain ⟨_, _, _, _, _, _, _, _, hp, _⟩ := h; exact hp.sl.few.1
theorem Is.mv (h : Is w e F c n ps m) : 0 ≤ m ∧ m < 18446744073709551616 := by obtain ⟨_, _, _, _, _, _, _, _, hp, _⟩ := h; exact hp.lk.mv
theorem get_mem (hn : (ps.map Prod.snd).Nodup) {x k : Int} (h : (x, k) ∈ ps) : Look.get (ps.map Prod.swap) k = (x, true) :=
  Look.get_in (by rw [List.map_map]; exact hn) (List.mem_map.2 ⟨(x, k), h, rfl⟩)
theorem get_not {k : Int} (h : k ∉ ps.map Prod.snd) : Look.get (ps.map Prod.swap) k = (0, false) := by
  refine Look.get_out (Look.not_has_iff.2 (fun v q => ?_))
  obtain ⟨x, hx, e⟩ := List.mem_map.1 q
  refine h (List.mem_map.2 ⟨x, hx, ?_⟩)
  obtain ⟨a, b⟩ := x
  injection e with e _

set_option maxRecDepth 100000 in
theorem find_calls (h : Is w e F c n ps m) (key : Int) :
    Calls Try.prog 35 #[.pointer (some ⟨e, 0, none⟩), .int .u64 key] w fun e' w' => e' = .returned (.tuple #[.int .i32 (Look.get (ps.map Prod.swap) key).1, .bool (Look.get (ps.map Prod.swap) key).2]) ∧ w' = w := by
  obtain ⟨pb, ob, ib, Fp, Fo, Fi, τ, hb, hp, ha, h0, h1, h2, h3⟩ := h
  have k6 := (hb.cell 6).trans (show (cells c pb ob ib n)[6]? = some (.pointer (some ⟨ib, 0, none⟩)) from rfl)
  have HF := Lib.hid (Look.Find_has hp.lk key)
  clear hb hp ha h0 h1 h2 h3
  go_enter Try.func35, Try.ntmps35
  go_wp2_with (go_at_call 63; refine HF.out.mono ?_; rintro e' w' ⟨rfl, rfl⟩)
  go_ret2
  exact ⟨rfl, rfl⟩
end
end Lru
end Go.Proofs.Ytekbgpfpnjddgaa
namespace Go.Proofs.Ytekbgpfpnjddgaa
open Go.RowKit
namespace Lru
section
variable {w : World} {e pb ob ib : Nat} {F Fp Fo Fi : Nat → Prop} {c : Conf} {n : Cnt} {ps : List (Int × Int)} {τ : Int → Int} {m : Int}
theorem cell_ptrs (hb : Blk w e (cells c pb ob ib n)) : w.cell? ⟨e, 4, none⟩ = some (.pointer (some ⟨pb, 0, none⟩)) ∧ w.cell? ⟨e, 5, none⟩ = some (.pointer (some ⟨ob, 0, none⟩)) ∧ w.cell? ⟨e, 6, none⟩ = some (.pointer (some ⟨ib, 0, none⟩)) :=
  ⟨(hb.cell 4).trans rfl, (hb.cell 5).trans rfl, (hb.cell 6).trans rfl⟩
/-- What a call that may turn the parts leaves. -/
def After (e : Nat) (F : Nat → Prop) (w w' : World) (c : Conf) (n : Cnt) (ps : List (Int × Int)) (m : Int) : Prop :=
  ∃ F' : Nat → Prop, (∀ k, F' k → F k ∨ w.heap.size ≤ k) ∧ Is w' e F' c n ps m ∧ Kept F w w'
theorem swap_mid (A B : List (Int × Int)) (x k : Int) : (A ++ (x, k) :: B).map Prod.swap = A.map Prod.swap ++ (k, x) :: B.map Prod.swap := by simp
theorem fst_mid (A B : List (Int × Int)) (x k : Int) : (A ++ (x, k) :: B).map Prod.fst = A.map Prod.fst ++ x :: B.map Prod.fst := by simp
set_option maxRecDepth 100000 in
theorem leave_calls (h : Is w e F c n ps m) {A B : List (Int × Int)} {x key : Int} (hps : ps = A ++ (x, key) :: B) :
    Calls Try.prog 52 #[.pointer (some ⟨e, 0, none⟩), .int .i32 x] w fun e' w' => e' = .returned (.int .u64 key) ∧ ∃ j : Nat, j ≤ 4 ∧ After e F w w' c n (A ++ B) (IntKind.u64.wrap (m + j)) := by
  obtain ⟨pb, ob, ib, Fp, Fo, Fi, τ, hb, hp, ha, h0, h1, h2, h3⟩ := h
  obtain ⟨k4, k5, k6⟩ := cell_ptrs hb
  have hmem : (x, key) ∈ ps := by rw [hps]; simp
  have HB := Lib.hid hb
  have HP := Lib.hid hp
  have HA := Lib.hid ha
  have HPS := Lib.hid hps
  have HF : Hid (F e ∧ (∀ k, Fp k → F k) ∧ (∀ k, Fo k → F k) ∧ (∀ k, Fi k → F k)) := Lib.hid ⟨h0, h1, h2, h3⟩
  clear hb hp ha hps h0 h1 h2 h3
  go_enter Try.func52, Try.ntmps52
  go_upto_region 2 with (go_at_call 33; refine (SlabU.At_has HP.out.sl hmem).mono ?_; rintro e' w1 ⟨rfl, hc1⟩; have C1 := Lib.hid hc1; clear hc1)
  have C2 : Hid (Calm w _) := Lib.hid (C1.out.alloc (.cells #[.int .i32 x, .int .u32 (τ x)] 82))
  have HX := Lib.hid (Blk.new w1 #[.int .i32 x, .int .u32 (τ x)] 82)
  have hH : w.heap.size ≤ w1.heap.size := C1.out.size
  clear C1 k4 k5 k6
  generalize w1.alloc (.cells #[.int .i32 x, .int .u32 (τ x)] 82) = w2 at C2 HX ⊢
  generalize w1.heap.size = H at HX hH ⊢
  have k4 := (cell_ptrs (HB.out.calm C2.out)).1
  have z0 := HX.out.cell 0
  have z1 := HX.out.cell 1
  simp at z0 z1
  go_cut [7] (fun v7 wa => v7 = .int .u64 key ∧ Calm w wa ∧ Blk wa H #[.int .i32 x, .int .u32 (τ x)])
  case first =>
    go_region_with (go_at_call 34; refine (SlabU.Get_has (HP.out.sl.calm (C2.out.drew)) hmem).mono ?_; rintro e' w4 ⟨rfl, hc4⟩)
    all_goals go_wp2_with fail
    all_goals go_meet
    all_goals exact ⟨rfl, (C2.out.drew).trans hc4, (HX.out.drew).calm hc4⟩
  case rest =>
  obtain ⟨rfl, hc4, hx4⟩ := hcut
  have C4 := Lib.hid hc4
  have HX4 := Lib.hid hx4
  clear C2 HX k4 z0 z1 hc4 hx4
  have P4 := Lib.hid (HP.out.calm C4.out)
  have k5 := (cell_ptrs (HB.out.calm C4.out)).2.1
  have HL : Hid ([ps.map Prod.fst].getD 0 [] = A.map Prod.fst ++ x :: B.map Prod.fst) := Lib.hid (by rw [HPS.out]; exact fst_mid A B x key)
  go_upto_region 4 with (go_at_call 51; refine (Chain.Remove_has P4.out.ch (l := 0) Nat.zero_lt_one HL.out).mono ?_; rintro e' w5 ⟨rfl, hch, hk5⟩)
  have CH5 := Lib.hid hch
  have K5 := Lib.hid hk5
  have SL5 := Lib.hid (P4.out.sl.kept hk5 HA.out.po)
  have LK5 := Lib.hid (P4.out.lk.kept hk5 (fun k q z => HA.out.oi k z q))
  have B5 := Lib.hid ((HB.out.calm C4.out).kept hk5 HA.out.eo)
  have hHn : ∀ G : Nat → Prop, (∀ k, G k → k < w.heap.size) → ¬ G H := fun G hG q => by have := hG H q; omega
  have HX5 := Lib.hid (HX4.out.kept hk5 (hHn _ HA.out.lo))
  have KK5 := Lib.hid ((C4.out.mono (G := F) (fun _ _ q => q.elim)).trans (hk5.mono (fun k _ q => HF.out.2.2.1 k q)))
  clear hch hk5 k5 P4 HX4
  have k6 := (cell_ptrs B5.out).2.2
  go_upto_region 5 with (go_at_call 79; refine (Look.Drop_has LK5.out key).mono ?_; rintro e' w6 ⟨rfl, j, hj, hlk, hk6⟩)
  have LK6 := Lib.hid hlk.trim
  have K6 := Lib.hid hk6
  have CH6 := Lib.hid (CH5.out.kept hk6 HA.out.oi)
  have SL6 := Lib.hid (SL5.out.kept hk6 HA.out.pi)
  have B6 := Lib.hid (B5.out.kept hk6 HA.out.ei)
  have HX6 := Lib.hid (HX5.out.kept hk6 (hHn _ HA.out.li))
  have KK6 := Lib.hid (KK5.out.trans (hk6.mono (fun k _ q => HF.out.2.2.2 k q)))
  have hz56 : w5.heap.size ≤ w6.heap.size := hk6.size
  have hzw5 : w.heap.size ≤ w5.heap.size := KK5.out.size
  clear hlk hk6 k6 LK5 CH5 SL5 HX5
  have k4 := (cell_ptrs B6.out).1
  have z0 := HX6.out.cell 0
  have z1 := HX6.out.cell 1
  simp at z0 z1
  go_still_tail 5, (by kernel_rfl)
  change wpList _ _ _ _ _ w6.drew
  have SL7 := Lib.hid (SL6.out.calm (Kept.drew (Kept.refl _ _)))
  have CD : Calm w6 w6.drew := Kept.drew (Kept.refl _ _)
  have CH7 := Lib.hid (CH6.out.calm CD)
  have LK7 := Lib.hid (LK6.out.calm CD)
  have B7 := Lib.hid (B6.out.calm CD)
  have KK7 := Lib.hid KK6.out.drew
  have hz67 : w6.drew.heap.size = w6.heap.size := rfl
  clear k4 z0 z1 CD
  generalize w6.drew = w7 at SL7 CH7 LK7 B7 KK7 hz67 ⊢
  go_wp2_with (go_at_call 80; refine (SlabU.Free_has SL7.out hmem).mono ?_; rintro e' w8 ⟨rfl, hsl, hk8⟩; have SL8 := Lib.hid hsl; have K8 := Lib.hid hk8; clear hsl hk8)
  go_ret
  have hIn : ∀ k, (Look.Grown Fi w5 k ∧ k < w6.heap.size) → (Fi k ∨ w.heap.size ≤ k) ∧ k < w8.heap.size := by
    rintro k ⟨q | q, z⟩
    · exact ⟨.inl q, Nat.lt_of_lt_of_le (by omega) K8.out.size⟩
    · exact ⟨.inr (by omega), Nat.lt_of_lt_of_le (by omega) K8.out.size⟩
  have hA8 := HA.out.growI (w' := w8) (by have := K8.out.size; omega)
  have hpn : ∀ k, New Fi w w8 k → ¬ Fp k := fun k q z => hA8.pi k z q
  refine ⟨rfl, j, hj, fun k => F k ∨ w.heap.size ≤ k, fun k q => q, ?_, KK7.out.trans (K8.out.mono (fun k _ q => HF.out.2.1 k q))⟩
  refine ⟨pb, ob, ib, Fp, Fo, New Fi w w8, τ, B7.out.kept K8.out HA.out.ep, ⟨?_, ?_, ?_⟩, hA8, .inl HF.out.1, fun k q => .inl (HF.out.2.1 k q), fun k q => .inl (HF.out.2.2.1 k q), fun k q => q.1.imp (HF.out.2.2.2 k) id⟩
  · have := SL8.out
    rw [show Assoc.del ps x = A ++ B by rw [HPS.out]; exact del_mid A B (x, key) (by rw [← HPS.out]; exact SL7.out.nd)] at this
    exact this
  · have := CH7.out.kept K8.out (fun k q z => HA.out.po k z q)
    rw [show [ps.map Prod.fst].set 0 (A.map Prod.fst ++ B.map Prod.fst) = [(A ++ B).map Prod.fst] by simp] at this
    exact this
  · have := (LK7.out.mono hIn).kept K8.out hpn
    have hnd := HP.out.lk.nd
    rw [show Look.del (ps.map Prod.swap) key = (A ++ B).map Prod.swap by
      show Assoc.del (ps.map Prod.swap) key = _
      rw [HPS.out, swap_mid] at hnd ⊢
      rw [List.map_append]
      exact del_mid _ _ (key, x) hnd] at this
    exact this
end
end Lru
end Go.Proofs.Ytekbgpfpnjddgaa
namespace Go.Proofs.Ytekbgpfpnjddgaa
open Go.RowKit
theorem SlabU.Has.perm {w : World} {b m : Nat} {F : Nat → Prop} {M M' : List (Int × SlabU.V)} {τ : Int → Int} (h : SlabU.Has w b F m M τ) (hp : M.Perm M') : SlabU.Has w b F m M' τ := by
  obtain ⟨v, s, ha, ho, hf, hms, hM, hl, ht⟩ := h.ex
  exact { ex := ⟨v, s, ha, ho, hf, hms, fun p x => (hp.mem_iff.symm).trans (hM p x), by rw [← hp.length_eq]; exact hl, ht⟩, pos := fun q x z => h.pos q x (hp.mem_iff.2 z), nd := (hp.map Prod.fst).nodup_iff.1 h.nd }
theorem Look.Has.perm {w : World} {b : Nat} {F : Nat → Prop} {L L' : List (Int × Int)} {m : Int} (h : Look.Has w b F L m) (hp : L.Perm L') : Look.Has w b F L' m := by
  obtain ⟨t, ⟨ha, ho⟩, hf, hm⟩ := h
  have hl := hp.length_eq
  refine ⟨t, ⟨ha, { ho with mem := fun x => (hp.mem_iff.symm).trans (ho.mem x), sum := by rw [← hl]; exact ho.sum, room := by rw [← hl]; exact ho.room, bal := by rw [← hl]; exact ho.bal, nd := (hp.map Prod.fst).nodup_iff.1 ho.nd }⟩, hf, hm⟩
namespace Lru
section
variable {w : World} {e pb ob ib : Nat} {F Fp Fo Fi : Nat → Prop} {c : Conf} {n : Cnt} {ps : List (Int × Int)} {τ : Int → Int} {m : Int}
/-- Is a key kept? -/
def keeps (ps : List (Int × Int)) (key : Int) : Bool := ps.any (fun x => x.2 == key)
theorem keeps_mid (A B : List (Int × Int)) (x key : Int) : keeps (A ++ (x, key) :: B) key = true := by simp [keeps]
theorem keeps_true {key : Int} (h : keeps ps key = true) : ∃ A B x, ps = A ++ (x, key) :: B := by
  simp only [keeps, List.any_eq_true, beq_iff_eq] at h
  obtain ⟨⟨x, k⟩, hx, rfl⟩ := h
  obtain ⟨A, B, e⟩ := List.append_of_mem hx
  exact ⟨A, B, x, e⟩
theorem keeps_false {key : Int} (h : keeps ps key = false) : key ∉ ps.map Prod.snd := by
  intro q
  obtain ⟨x, hx, rfl⟩ := List.mem_map.1 q
  have : keeps ps x.2 = true := by simp only [keeps, List.any_eq_true, beq_iff_eq]; exact ⟨x, hx, rfl⟩
  rw [h] at this; cases this
theorem find_yes (h : Is w e F c n ps m) {A B : List (Int × Int)} {x key : Int} (hps : ps = A ++ (x, key) :: B) :
    Calls Try.prog 35 #[.pointer (some ⟨e, 0, none⟩), .int .u64 key] w fun e' w' => e' = .returned (.tuple #[.int .i32 x, .bool true]) ∧ w' = w := by
  have := find_calls h key
  rw [get_mem h.ndS (by rw [hps]; simp : (x, key) ∈ ps)] at this
  exact this
theorem find_no (h : Is w e F c n ps m) {key : Int} (hk : keeps ps key = false) :
    Calls Try.prog 35 #[.pointer (some ⟨e, 0, none⟩), .int .u64 key] w fun e' w' => e' = .returned (.tuple #[.int .i32 0, .bool false]) ∧ w' = w := by
  have := find_calls h key
  rw [get_not (keeps_false hk)] at this
  exact this
set_option maxRecDepth 100000 in
theorem Kind_calls (h : Is w e F c n ps m) (key : Int) :
    Calls Try.prog 13 #[.pointer (some ⟨e, 0, none⟩), .int .u64 key] w fun e' w' => e' = .returned (.int .i64 (if keeps ps key = true then 2 else 0)) ∧ w' = w := by
  by_cases hk : keeps ps key = true
  · rw [if_pos hk]
    obtain ⟨A, B, x, hps⟩ := keeps_true hk
    have HF := Lib.hid (find_yes h hps)
    clear hk hps h
    go_enter Try.func13, Try.ntmps13
    go_wp2_with (go_at_call 35; refine HF.out.mono ?_; rintro e' w' ⟨rfl, rfl⟩)
    go_ret
    exact ⟨rfl, rfl⟩
  · rw [if_neg hk]
    have HF := Lib.hid (find_no h (Bool.eq_false_iff.2 hk))
    clear hk h
    go_enter Try.func13, Try.ntmps13
    go_wp2_with (go_at_call 35; refine HF.out.mono ?_; rintro e' w' ⟨rfl, rfl⟩)
    go_ret
    exact ⟨rfl, rfl⟩
/-- A hit. -/
def hit (n : Cnt) : Cnt := { n with n0 := IntKind.u64.wrap (n.n0 + 1) }
def miss (n : Cnt) : Cnt := { n with n1 := IntKind.u64.wrap (n.n1 + 1) }
def evict (n : Cnt) : Cnt := { n with n5 := IntKind.u64.wrap (n.n5 + 1) }
/-- The key asked goes to the front. -/
def front (ps : List (Int × Int)) (key : Int) : List (Int × Int) := ps.filter (fun x => x.2 == key) ++ ps.filter (fun x => !(x.2 == key))
theorem front_mid {A B : List (Int × Int)} {x key : Int} (hn : ((A ++ (x, key) :: B).map Prod.snd).Nodup) : front (A ++ (x, key) :: B) key = (x, key) :: (A ++ B) := by
  rw [List.map_append, List.map_cons, List.nodup_append] at hn
  obtain ⟨_, h2, h3⟩ := hn
  rw [List.nodup_cons] at h2
  have nA : ∀ y ∈ A, y.2 ≠ key := fun y hy => h3 y.2 (List.mem_map.2 ⟨y, hy, rfl⟩) key (List.mem_cons_self ..)
  have nB : ∀ y ∈ B, y.2 ≠ key := fun y hy q => h2.1 (List.mem_map.2 ⟨y, hy, q⟩)
  have f1 : ∀ L : List (Int × Int), (∀ y ∈ L, y.2 ≠ key) → L.filter (fun y => y.2 == key) = [] ∧ L.filter (fun y => !(y.2 == key)) = L := by
    intro L hL
    refine ⟨List.filter_eq_nil_iff.2 (fun y hy => by simpa using hL y hy), List.filter_eq_self.2 (fun y hy => by simpa using hL y hy)⟩
  unfold front
  rw [List.filter_append, List.filter_append, List.filter_cons, List.filter_cons, (f1 A nA).1, (f1 A nA).2, (f1 B nB).1, (f1 B nB).2]
  simp
theorem Blk.castC {b : Nat} {cs cs' : Array Value} (h : Blk w b cs) (q : cs = cs') : Blk w b cs' := q ▸ h
set_option maxRecDepth 100000 in
set_option maxHeartbeats 400000 in
theorem Touch_yes (h : Is w e F c n ps m) {A B : List (Int × Int)} {x key : Int} (hps : ps = A ++ (x, key) :: B) :
    Calls Try.prog 23 #[.pointer (some ⟨e, 0, none⟩), .int .u64 key] w fun e' w' => e' = .returned (.bool true) ∧ Is w' e F c (hit n) ((x, key) :: (A ++ B)) m ∧ Kept F w w' := by
  have HF := Lib.hid (find_yes h hps)
  obtain ⟨pb, ob, ib, Fp, Fo, Fi, τ, hb, hp, ha, h0, h1, h2, h3⟩ := h
  have k7 := (hb.cell 7).trans (show (cells c pb ob ib n)[7]? = some (.int .u64 n.n0) from rfl)
  have hz := fun o => hb.frozen o
  have HB := Lib.hid hb
  have HP := Lib.hid hp
  have HA := Lib.hid ha
  have HPS := Lib.hid hps
  have H0 := Lib.hid h0
  have H1 := Lib.hid h1
  have H2 := Lib.hid h2
  have H3 := Lib.hid h3
  clear hb hp ha hps h0 h1 h2 h3
  go_enter Try.func23, Try.ntmps23
  go_upto_region 5 with (go_at_call 35; refine HF.out.mono ?_; rintro e' w' ⟨rfl, rfl⟩)
  have B1 : Hid (Blk _ e (cells c pb ob ib (hit n))) := Lib.hid (HB.out.set 7 (.int .u64 (IntKind.u64.wrap (n.n0 + 1))))
  have K1 : Hid (Kept (fun k => k = e) w' _) := Lib.hid (Kept.setCell (p := ⟨e, 7, none⟩) (F := fun k => k = e) (Kept.refl _ _) (fun _ => rfl) (.int .u64 (IntKind.u64.wrap (n.n0 + 1))))
  clear k7 hz HF
  generalize w'.setCell ⟨e, 7, none⟩ (.int .u64 (IntKind.u64.wrap (n.n0 + 1))) = w1 at B1 K1 ⊢
  have P1 := Lib.hid (HP.out.kept K1.out (fun k q z => HA.out.ep (by rw [← z]; exact q)) (fun k q z => HA.out.eo (by rw [← z]; exact q)) (fun k q z => HA.out.ei (by rw [← z]; exact q)))
  have k5 := (cell_ptrs B1.out).2.1
  have HL : Hid ([ps.map Prod.fst].getD 0 [] = A.map Prod.fst ++ x :: B.map Prod.fst) := Lib.hid (by rw [HPS.out]; exact fst_mid A B x key)
  go_upto_region 6 with (go_at_call 51; refine (Chain.Remove_has P1.out.ch (l := 0) Nat.zero_lt_one HL.out).mono ?_; rintro e' w2 ⟨rfl, hch, hk2⟩)
  have CH2 := Lib.hid hch
  have K2 := Lib.hid hk2
  have B2 := Lib.hid (B1.out.kept hk2 HA.out.eo)
  clear hch hk2 k5
  have k5 := (cell_ptrs B2.out).2.1
  have hx : 0 ≤ x ∧ x < ((256 : Nat) : Int) := HP.out.ch.node (l := 0) Nat.zero_lt_one (by rw [HL.out]; simp)
  have hnd : (A.map Prod.fst ++ x :: B.map Prod.fst).Nodup := by rw [← HL.out]; exact HP.out.ch.nodup (l := 0) Nat.zero_lt_one
  have hnx : x ∉ A.map Prod.fst ++ B.map Prod.fst := by
    rw [List.nodup_append] at hnd
    obtain ⟨_, q2, q3⟩ := hnd
    rw [List.nodup_cons] at q2
    intro z
    rcases List.mem_append.1 z with z | z
    · exact q3 x z x (List.mem_cons_self ..) rfl
    · exact q2.1 z
  have HN : Hid (∀ j : Nat, j < ([ps.map Prod.fst].set 0 (A.map Prod.fst ++ B.map Prod.fst)).length → x ∉ ([ps.map Prod.fst].set 0 (A.map Prod.fst ++ B.map Prod.fst)).getD j []) := by
    refine Lib.hid (fun j hj => ?_)
    have : j = 0 := by simp at hj; exact hj
    subst this
    exact hnx
  have HX := Lib.hid hx
  clear hx hnd hnx
  go_wp2_with (go_at_call 49; refine (Chain.Ahead_has CH2.out (l := 0) Nat.zero_lt_one HX.out HN.out).mono ?_; rintro e' w3 ⟨rfl, hch3, hk3⟩; have CH3 := Lib.hid hch3; have K3 := Lib.hid hk3; clear hch3 hk3)
  go_ret
  have hperm : ps.Perm ((x, key) :: (A ++ B)) := by rw [HPS.out]; exact List.perm_middle
  have KA := K2.out.trans K3.out
  refine ⟨rfl, ⟨pb, ob, ib, Fp, Fo, Fi, τ, B2.out.kept K3.out HA.out.eo, ⟨?_, ?_, ?_⟩, HA.out.size ?_, H0.out, H1.out, H2.out, H3.out⟩, ?_⟩
  · exact (P1.out.sl.kept KA HA.out.po).perm hperm
  · have := CH3.out
    rw [show ([ps.map Prod.fst].set 0 (A.map Prod.fst ++ B.map Prod.fst)).set 0 (x :: ([ps.map Prod.fst].set 0 (A.map Prod.fst ++ B.map Prod.fst)).getD 0 []) = [((x, key) :: (A ++ B)).map Prod.fst] by simp] at this
    exact this
  · exact (P1.out.lk.kept KA (fun k q z => HA.out.oi k z q)).perm (hperm.map _)
  · exact Nat.le_trans K1.out.size KA.size
  · exact (K1.out.mono (fun k _ q => by rw [q]; exact H0.out)).trans (KA.mono (fun k _ q => H2.out k q))
set_option maxRecDepth 100000 in
theorem Touch_no (h : Is w e F c n ps m) {key : Int} (hk : keeps ps key = false) :
    Calls Try.prog 23 #[.pointer (some ⟨e, 0, none⟩), .int .u64 key] w fun e' w' => e' = .returned (.bool false) ∧ w' = w := by
  have HF := Lib.hid (find_no h hk)
  clear hk h
  go_enter Try.func23, Try.ntmps23
  go_wp2_with (go_at_call 35; refine HF.out.mono ?_; rintro e' w' ⟨rfl, rfl⟩)
  go_ret
  exact ⟨rfl, rfl⟩
end
end Lru
end Go.Proofs.Ytekbgpfpnjddgaa
