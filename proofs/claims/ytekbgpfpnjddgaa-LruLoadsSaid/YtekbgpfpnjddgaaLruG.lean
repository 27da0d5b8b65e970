/- Walks over lru: State. -/
import Derived.Test.YtekbgpfpnjddgaaLruDF
import Derived.Test.YtekbgpfpnjddgaaIterAC
import Derived.Sort.CutIn
import Derived.Stop.RegionWithIn
import Derived.Deep.MidRow
import Derived.Deep.WholeRow
import Derived.Deep.RegionHeld3
attribute [local go_sem] Go.Oper.semAt_some
namespace Go.Proofs.Ytekbgpfpnjddgaa
open Go.RowKit Go.Shelf Go.Proofs.YtekbgpfpnjddgaaW.PrintWords Go.Proofs.YtekbgpfpnjddgaaW.PrintLast Go.Proofs.YtekbgpfpnjddgaaW.PrintMore
/-- 'x.f = append(x.f, ..)' of a struct in a box: what the round owes its iterator. -/
theorem Yours.appendedAt {Bs : List Nat} {W w1 : World} {n₀ base B o : Nat} {t e : TypeId} {size : Nat} {cs : Array Value} {fr : Nat × Nat} {v v' : Value} {k m : Nat} {xs ys : List Value} {tmp : Obj}
    (hv : W.heap[B]? = some (.cells cs t fr)) (ho : cs[o]? = some v) (hnr : some B ≠ v.ownBlock) (hrow : W.ownsRow base e size v k xs) (hBs : B ∈ Bs) (hB : B < n₀)
    (_ : w1.ownsRow base e size v' m ys) (hgrow : (W.alloc tmp).grownBy w1 v.ownBlock) (hat : v'.ownBlock = v.ownBlock ∨ v'.ownBlock = some (W.alloc tmp).heap.size) (hall : ∀ B' ∈ Bs, B' < n₀ ∧ B' < W.heap.size ∧ some B' ≠ v.ownBlock) :
    Yours Bs n₀ W (w1.setCell ⟨B, o, none⟩ v') := by
  have hlt : B < W.heap.size := (Array.getElem?_eq_some_iff.1 hv).1
  have hown : ∀ g, v.ownBlock = some g → Own Bs W g := fun g hg => by
    refine ⟨⟨B, hBs, o, v, by rw [cell_of_row W B o cs t fr hv]; exact ho, hg⟩, ?_⟩
    rcases hrow.2 with ⟨rfl, _⟩ | ⟨g', cap, cur, rfl, _, hgb, _⟩
    · cases hg
    · simp [Value.ownBlock] at hg
      subst hg
      exact ⟨_, hgb, rfl⟩
  have hsame : ∀ j, j < W.heap.size → some j ≠ v.ownBlock → w1.heap[j]? = W.heap[j]? := fun j hj hne => by
    rw [hgrow.block j (by simp; omega) hne, Below.heap_alloc _ _ _ hj]
  have hsz : W.heap.size ≤ w1.heap.size := by have := hgrow.size; simp at this; omega
  refine ⟨by simpa using hsz, fun j hj => ?_, fun j hn hj ho => ?_⟩
  · by_cases hjW : j < W.heap.size
    · by_cases hjn : j < n₀
      · exact .inr (.inr hjn)
      · left
        obtain ⟨⟨B', hb', o', x, hc, hx⟩, ob, hob, hcl⟩ := hj
        have ejB : j ≠ B := by omega
        rw [Below.heap_setCell _ _ _ _ (by simpa using ejB)] at hob
        by_cases hne : some j = v.ownBlock
        · exact hown j hne.symm
        · by_cases e : (⟨B', o', none⟩ : Addr) = ⟨B, o, none⟩
          · injection e with e1 e2
            subst e1 e2
            have h1 : (w1.setCell ⟨B', o', none⟩ v').cell? ⟨B', o', none⟩ = some v' := World.cell?_setCell_same w1 ⟨B', o', none⟩ v' (by rw [World.cell?_of_block (w := W) (w' := w1) (a := ⟨B', o', none⟩) (hsame B' hlt hnr), cell_of_row W B' o' cs t fr hv]; exact ho)
            rw [h1] at hc
            cases hc
            rcases hat with h2 | h2
            · rw [h2] at hx; exact hown j hx
            · rw [h2] at hx; simp at hx; omega
          · refine ⟨⟨B', hb', o', x, ?_, hx⟩, ob, by rw [← hsame j hjW hne]; exact hob, hcl⟩
            rw [World.cell?_setCell_other w1 ⟨B, o, none⟩ ⟨B', o', none⟩ v' (fun h => e h.symm)] at hc
            rw [← World.cell?_of_block (w := W) (w' := w1) (a := ⟨B', o', none⟩) (hsame B' (hall B' hb').2.1 (hall B' hb').2.2)]
            exact hc
    · exact .inr (.inl (by omega))
  · have hne : some j ≠ v.ownBlock := fun h => ho (hown j h.symm)
    rw [Below.heap_setCell _ _ _ _ (by simp; omega)]
    exact hsame j hj hne
theorem ownsRow_weaken {w : World} {base base' : Nat} {e : TypeId} {size : Nat} {v : Value} {n : Nat} {xs : List Value} (h : w.ownsRow base e size v n xs) (hb : base' ≤ base) : w.ownsRow base' e size v n xs := by
  refine ⟨h.1, ?_⟩
  rcases h.2 with z | ⟨g, cap, cur, z1, z2, z3⟩
  · exact .inl z
  · exact .inr ⟨g, cap, cur, z1, by omega, z3⟩
namespace Lru
theorem func_eq_nil (f : Fn) (a cs : Array Value) (W : World) : Sem.run Try.prog (binOp BinOp.eql 78 (.func f a cs) .nilFunc) W = .ok (.bool false) W := by kernel_rfl
/-- A state as its cells; as a value. -/
def stCells (c : Conf) (n : Cnt) (v : Value) : Array Value :=
  #[.int .i64 c.pol, .int .i64 c.cap, .int .i64 c.quota, .int .i64 c.ghosts, .int .i64 0, v, .slice none 0 0, .slice none 0 0, .int .i64 0, .int .i64 0,
    .int .u64 n.n0, .int .u64 n.n1, .int .u64 n.n2, .int .u64 n.n3, .int .u64 n.n4, .int .u64 n.n5, .int .u64 n.n6, .int .u64 n.n7, .int .u64 n.n8, .int .u64 n.n9]
def Cnt.agg (n : Cnt) : Value := .agg #[.int .u64 n.n0, .int .u64 n.n1, .int .u64 n.n2, .int .u64 n.n3, .int .u64 n.n4, .int .u64 n.n5, .int .u64 n.n6, .int .u64 n.n7, .int .u64 n.n8, .int .u64 n.n9]
def stAgg (c : Conf) (n : Cnt) (v : Value) : Value := .agg (stCells c n v)
def pageV (k : Int) : List Value := [.int .u64 k, .int .i64 2, .bool false, .bool false]
theorem blk_range {w : World} {b : Nat} {cs : Array Value} (h : Blk w b cs) (o k : Nat) (l : List Value) (hl : l = (cs.toList.drop o).take k) : w.rangeAt b o l := by
  intro j v hv
  rw [h.cell]
  rw [hl, List.getElem?_take] at hv
  split at hv
  · rw [List.getElem?_drop, Array.getElem?_toList] at hv
    exact hv
  · cases hv
theorem ownsRow_succ4 {w : World} {base : Nat} {t : TypeId} {size : Nat} {v : Value} {k : Nat} {xs : List Value} (h : w.ownsRow base t size v (k + 1) xs) : ∃ g cap, v = .slice (some ⟨g, 0, none⟩) (k + 1) cap := by
  rcases h.2 with ⟨_, h0⟩ | ⟨g, cap, _, hv, _⟩
  · omega
  · exact ⟨g, cap, hv⟩
theorem heap_setCell_same {w : World} {b : Nat} {cs : Array Value} {t : TypeId} (h : w.heap[b]? = some (.cells cs t (0, 0))) (o : Nat) (v : Value) : (w.setCell ⟨b, o, none⟩ v).heap[b]? = some (.cells (cs.setIfInBounds o v) t (0, 0)) := by
  simp [World.setCell, Array.getElem?_modify, h]
theorem setCells_kept {F : Nat → Prop} {a : World} {b : Nat} (hb : b < a.heap.size → F b) : ∀ (vs : List Value) (o : Nat) (w : World), Go.Proofs.Ytekbgpfpnjddgaa.Kept F a w → Go.Proofs.Ytekbgpfpnjddgaa.Kept F a (w.setCells b o vs)
  | [], _, _, h => h
  | v :: r, o, _, h => setCells_kept hb r (o + 1) _ (h.setCell (p := ⟨b, o, none⟩) hb v)
theorem setCells_some {b : Nat} : ∀ (vs : List Value) (o : Nat) (w : World) (cs : Array Value), Blk w b cs → ∃ cs', Blk (w.setCells b o vs) b cs' ∧ cs'.size = cs.size
  | [], _, _, cs, h => ⟨cs, h, rfl⟩
  | v :: r, o, w, cs, h => by
    obtain ⟨c, h1, h2⟩ := setCells_some r (o + 1) _ _ (h.set o v)
    exact ⟨c, h1, by rw [h2]; simp⟩
theorem setCells_blk {w : World} {b : Nat} {cs : Array Value} (h : Blk w b cs) (vs : Array Value) (hs : vs.size = cs.size) : Blk (w.setCells b 0 vs.toList) b vs := by
  obtain ⟨c, h1, h2⟩ := setCells_some vs.toList 0 w cs h
  have : c = vs := by
    refine Array.ext (by omega) (fun i hi hj => ?_)
    have e := World.cell?_setCells_in b vs.toList 0 w (fun j hj => by
      rw [h.cell, Nat.zero_add, Array.getElem?_eq_getElem (by simpa using (hs ▸ (by simpa using hj : j < vs.size)))]; rfl) i (by simpa using hj)
    rw [Nat.zero_add, h1.cell, Array.getElem?_eq_getElem hi] at e
    simpa using e
  exact this ▸ h1
theorem _root_.Go.Proofs.Ytekbgpfpnjddgaa.Kept.of_alloc {F : Nat → Prop} {w w' : World} {o : Obj} (h : Go.Proofs.Ytekbgpfpnjddgaa.Kept F (w.alloc o) w') : Go.Proofs.Ytekbgpfpnjddgaa.Kept F w w' :=
  ⟨h.os, h.tape, h.output, by have := h.size; simp at this; omega, fun k hk hF => (h.block k (by simp; omega) hF).trans (Below.heap_alloc _ _ _ hk)⟩
theorem infoPage : (Try.prog.info? 42).map (fun i => (i.zero, i.size, i.bytes)) = some (some (.agg #[.int .u64 0, .int .i64 0, .bool false, .bool false]), 4, 24) := by kernel_rfl
theorem sizeConf : (Try.prog.info? 25).map (·.size) = some 4 := by kernel_rfl
theorem sizeCnt : (Try.prog.info? 36).map (·.size) = some 10 := by kernel_rfl
theorem sizeSt : (Try.prog.info? 38).map (·.size) = some 20 := by kernel_rfl
/-- A whole value goes into the block that was made last. -/
theorem wp_store_new {P : Program} {op : Oper} {a : Act} {K : Act → World → Prop} {Q : Exit → Act → World → Prop} (ty : TypeId) (x y : Operand) (ho : op.op = .store ty x y) (w : World)
    (z cs : Array Value) (hx : a.eval x = .pointer (some ⟨w.heap.size, 0, none⟩)) (hy : a.eval y = .agg cs) (hi : (P.info? ty).map (·.size) = some cs.size) (hs : z.size = cs.size) (h1 : cs.all (·.oneCell') = true)
    (h : K (a.put op.dst undef) (w.alloc (.cells cs ty))) : op.wp P a (w.alloc (.cells z ty)) K Q := by
  unfold Oper.wp execOp
  simp only [ho, hx, hy, Instr.storeAt, Instr.sureAddr, Sem.run_bind, Sem.run_pure, Result.andThen_ok, run_storeVar_new w ty z cs hi hs h1]
  exact h
/-- What the reading of an engine's config and counts holds on to. -/
structure Held (q e : Nat) (c : Conf) (pb ob ib : Nat) (n : Cnt) (w : World) : Prop where
  box : Blk w q #[.pointer (some ⟨e, 0, none⟩)]
  eng : Blk w e (cells c pb ob ib n)
theorem Held.drew {q e : Nat} {c : Conf} {pb ob ib : Nat} {n : Cnt} {w : World} (h : Held q e c pb ob ib n w) : Held q e c pb ob ib n w.drew := ⟨h.box, h.eng⟩
theorem Held.drewN {q e : Nat} {c : Conf} {pb ob ib : Nat} {n : Cnt} {w : World} (h : Held q e c pb ob ib n w) (k : Nat) : Held q e c pb ob ib n (w.drewN k) := ⟨h.box, h.eng⟩
theorem Held.alloc {q e : Nat} {c : Conf} {pb ob ib : Nat} {n : Cnt} {w : World} (h : Held q e c pb ob ib n w) (o : Obj) : Held q e c pb ob ib n (w.alloc o) := ⟨h.box.alloc o, h.eng.alloc o⟩
theorem Held.l0 {q e : Nat} {c : Conf} {pb ob ib : Nat} {n : Cnt} {w : World} (h : Held q e c pb ob ib n w) : w.cell? ⟨q, 0, none⟩ = some (.pointer (some ⟨e, 0, none⟩)) := (h.box.cell 0).trans rfl
theorem Held.c0 {q e : Nat} {c : Conf} {pb ob ib : Nat} {n : Cnt} {w : World} (h : Held q e c pb ob ib n w) : w.cell? ⟨e, 0, none⟩ = some (.int .i64 c.pol) := (h.eng.cell 0).trans rfl
theorem Held.c1 {q e : Nat} {c : Conf} {pb ob ib : Nat} {n : Cnt} {w : World} (h : Held q e c pb ob ib n w) : w.cell? ⟨e, 1, none⟩ = some (.int .i64 c.cap) := (h.eng.cell 1).trans rfl
theorem Held.c2 {q e : Nat} {c : Conf} {pb ob ib : Nat} {n : Cnt} {w : World} (h : Held q e c pb ob ib n w) : w.cell? ⟨e, 2, none⟩ = some (.int .i64 c.quota) := (h.eng.cell 2).trans rfl
theorem Held.c3 {q e : Nat} {c : Conf} {pb ob ib : Nat} {n : Cnt} {w : World} (h : Held q e c pb ob ib n w) : w.cell? ⟨e, 3, none⟩ = some (.int .i64 c.ghosts) := (h.eng.cell 3).trans rfl
theorem Held.k0 {q e : Nat} {c : Conf} {pb ob ib : Nat} {n : Cnt} {w : World} (h : Held q e c pb ob ib n w) : w.cell? ⟨e, 7, none⟩ = some (.int .u64 n.n0) := (h.eng.cell 7).trans rfl
theorem Held.k1 {q e : Nat} {c : Conf} {pb ob ib : Nat} {n : Cnt} {w : World} (h : Held q e c pb ob ib n w) : w.cell? ⟨e, 8, none⟩ = some (.int .u64 n.n1) := (h.eng.cell 8).trans rfl
theorem Held.k2 {q e : Nat} {c : Conf} {pb ob ib : Nat} {n : Cnt} {w : World} (h : Held q e c pb ob ib n w) : w.cell? ⟨e, 9, none⟩ = some (.int .u64 n.n2) := (h.eng.cell 9).trans rfl
theorem Held.k3 {q e : Nat} {c : Conf} {pb ob ib : Nat} {n : Cnt} {w : World} (h : Held q e c pb ob ib n w) : w.cell? ⟨e, 10, none⟩ = some (.int .u64 n.n3) := (h.eng.cell 10).trans rfl
theorem Held.k4 {q e : Nat} {c : Conf} {pb ob ib : Nat} {n : Cnt} {w : World} (h : Held q e c pb ob ib n w) : w.cell? ⟨e, 11, none⟩ = some (.int .u64 n.n4) := (h.eng.cell 11).trans rfl
theorem Held.k5 {q e : Nat} {c : Conf} {pb ob ib : Nat} {n : Cnt} {w : World} (h : Held q e c pb ob ib n w) : w.cell? ⟨e, 12, none⟩ = some (.int .u64 n.n5) := (h.eng.cell 12).trans rfl
theorem Held.k6 {q e : Nat} {c : Conf} {pb ob ib : Nat} {n : Cnt} {w : World} (h : Held q e c pb ob ib n w) : w.cell? ⟨e, 13, none⟩ = some (.int .u64 n.n6) := (h.eng.cell 13).trans rfl
theorem Held.k7 {q e : Nat} {c : Conf} {pb ob ib : Nat} {n : Cnt} {w : World} (h : Held q e c pb ob ib n w) : w.cell? ⟨e, 14, none⟩ = some (.int .u64 n.n7) := (h.eng.cell 14).trans rfl
theorem Held.k8 {q e : Nat} {c : Conf} {pb ob ib : Nat} {n : Cnt} {w : World} (h : Held q e c pb ob ib n w) : w.cell? ⟨e, 15, none⟩ = some (.int .u64 n.n8) := (h.eng.cell 15).trans rfl
theorem Held.k9 {q e : Nat} {c : Conf} {pb ob ib : Nat} {n : Cnt} {w : World} (h : Held q e c pb ob ib n w) : w.cell? ⟨e, 16, none⟩ = some (.int .u64 n.n9) := (h.eng.cell 16).trans rfl
section
variable {w : World} {e pb ob ib : Nat} {F Fp Fo Fi : Nat → Prop} {c : Conf} {n : Cnt} {ps : List (Int × Int)} {τ : Int → Int} {m : Int}
set_option maxRecDepth 100000 in
set_option maxHeartbeats 1000000 in
theorem State_calls (h : Is w e F c n ps m) :
    Calls Try.prog 11 #[.pointer (some ⟨e, 0, none⟩)] w fun e' w' => ∃ v, e' = .returned (stAgg c n v) ∧ w'.ownsRow w.heap.size 42 4 v ps.length (ps.flatMap fun x => pageV x.2) ∧ Calm w w' := by
  obtain ⟨pb, ob, ib, Fp, Fo, Fi, τ, hb, hp, ha, h0, h1, h2, h3⟩ := h
  have HB := Lib.hid hb
  have HP := Lib.hid hp
  have hle := ha.le
  have hFEW := Lib.hid hp.sl.few.1
  obtain ⟨i0, hi, hz0, hz1, hz2⟩ := info_parts infoPage
  have HI := Lib.hid hi; have HZ0 := Lib.hid hz0; have HZ1 := Lib.hid hz1; have HZ2 := Lib.hid hz2
  clear hi hz0 hz1 hz2
  clear hb hp ha h0 h1 h2 h3
  refine (callsIn_wide (n := 6)).1 ?_
  have hfn := func_eq_nil
  refine callsIn_of_wp_marks Try.func11 rfl trivial ?_ rfl
  simp only [Try.ntmps11, List.size_toArray, List.length_cons, List.length_nil, Nat.reduceAdd, Nat.reduceSub, Array.replicate_succ, Array.replicate_zero, List.push_toArray, List.append_toArray, List.nil_append, List.cons_append]
  refine wpIn_wide.2 ?_
  go_upto_region 3 with fail
  have C1 : Calm w _ := ((Kept.refl _ w).alloc (.cells #[.pointer (some ⟨e, 0, none⟩)] 26)).alloc (.cells (stCells ⟨0, 0, 0, 0⟩ zeroCnt (.slice none 0 0)) 38)
  have B0 : Blk _ w.heap.size #[.pointer (some ⟨e, 0, none⟩)] := (Blk.new w #[.pointer (some ⟨e, 0, none⟩)] 26).alloc (.cells (stCells ⟨0, 0, 0, 0⟩ zeroCnt (.slice none 0 0)) 38)
  have B1 : Blk _ (w.heap.size + 1) (stCells ⟨0, 0, 0, 0⟩ zeroCnt (.slice none 0 0)) := Blk.new' (w := w.alloc (.cells #[.pointer (some ⟨e, 0, none⟩)] 26)) (b := w.heap.size + 1) (by simp) (stCells ⟨0, 0, 0, 0⟩ zeroCnt (.slice none 0 0)) 38
  have hs1 : ((w.alloc (.cells #[.pointer (some ⟨e, 0, none⟩)] 26)).alloc (.cells (stCells ⟨0, 0, 0, 0⟩ zeroCnt (.slice none 0 0)) 38)).heap.size = w.heap.size + 2 := by simp
  have HC1 := Lib.hid C1
  have HB0 := Lib.hid B0
  have HBr := Lib.hid B1
  clear C1 B0 B1
  change Code.wp _ _ _ _ ((w.alloc (.cells #[.pointer (some ⟨e, 0, none⟩)] 26)).alloc (.cells (stCells ⟨0, 0, 0, 0⟩ zeroCnt (.slice none 0 0)) 38))
  generalize (w.alloc (.cells #[.pointer (some ⟨e, 0, none⟩)] 26)).alloc (.cells (stCells ⟨0, 0, 0, 0⟩ zeroCnt (.slice none 0 0)) 38) = w1 at HC1 HB0 HBr hs1 ⊢
  have HB1 := Lib.hid (HB.out.calm HC1.out)
  have hheld : Held w.heap.size e c pb ob ib n w1 := ⟨HB0.out, HB1.out⟩
  have HS1 := Lib.hid hs1
  clear hs1 HB1
  generalize hq : w.heap.size = q at hheld HB0
  go_cut [3] from 12 to 20 (fun v3 wa => v3 = .pointer (some ⟨w1.heap.size, 0, none⟩) ∧ wa = w1.drew.alloc (.cells (stCells c n (.slice none 0 0)) 38))
  case first =>
    refine wp_region_noPanic ?_
    refine start_ (n := 11) (S := fun w' => Held q e c pb ob ib n w') (ds := [10]) #[false, false, false, false, false, false, false, false, false, false, false] (by kernel_rfl) rfl rfl hheld.drew (fun hHeld => ?_)
    refine take_ (i := 0) (N := some 12) (v := ?_) (a' := ?_) #[true, false, false, false, false, false, false, false, false, false, false] rfl rfl (by kernel_rfl) (fun _ _ _ h => h) (Or.inl ⟨by rfl, ?_⟩) hHeld ?_ ?_
    rotate_left
    · intro w' hS; have c0 := hS.c0; have c1 := hS.c1; have c2 := hS.c2; have c3 := hS.c3; have c4 := hS.k0; have c5 := hS.k1; have c6 := hS.k2; have c7 := hS.k3; have c8 := hS.k4; have c9 := hS.k5; have c10 := hS.k6; have c11 := hS.k7; have c12 := hS.k8; have c13 := hS.k9; have c14 := hS.l0; go_simp; with_reducible rfl
    rotate_left
    · simp only [Act.put, List.setIfInBounds_toArray, List.set_cons_zero, List.set_cons_succ]; rfl
    refine take_ (i := 1) (N := some 13) (v := ?_) (a' := ?_) #[true, true, false, false, false, false, false, false, false, false, false] rfl rfl (by kernel_rfl) (fun _ _ _ h => h) (Or.inl ⟨by rfl, ?_⟩) hHeld ?_ ?_
    rotate_left
    · intro w' hS; go_simp; with_reducible rfl
    rotate_left
    · simp only [Act.put, List.setIfInBounds_toArray, List.set_cons_zero, List.set_cons_succ]; rfl
    refine take_ (i := 2) (N := some 14) (v := ?_) (a' := ?_) #[true, true, true, false, false, false, false, false, false, false, false] rfl rfl (by kernel_rfl) (fun _ _ _ h => h) (Or.inl ⟨by rfl, ?_⟩) hHeld ?_ ?_
    rotate_left
    · intro w' hS; go_simp; with_reducible rfl
    rotate_left
    · simp only [Act.put, List.setIfInBounds_toArray, List.set_cons_zero, List.set_cons_succ]; rfl
    refine take_ (i := 3) (N := some 15) (v := ?_) (a' := ?_) #[true, true, true, true, false, false, false, false, false, false, false] rfl rfl (by kernel_rfl) (fun _ _ _ h => h) (Or.inl ⟨by rfl, ?_⟩) hHeld ?_ ?_
    rotate_left
    · intro w' hS; have c0 := hS.c0; have c1 := hS.c1; have c2 := hS.c2; have c3 := hS.c3; have c4 := hS.k0; have c5 := hS.k1; have c6 := hS.k2; have c7 := hS.k3; have c8 := hS.k4; have c9 := hS.k5; have c10 := hS.k6; have c11 := hS.k7; have c12 := hS.k8; have c13 := hS.k9; have c14 := hS.l0; go_simp; with_reducible rfl
    rotate_left
    · simp only [Act.put, List.setIfInBounds_toArray, List.set_cons_zero, List.set_cons_succ]; rfl
    refine take_ (i := 4) (N := some 16) (v := ?_) (a' := ?_) #[true, true, true, true, true, false, false, false, false, false, false] rfl rfl (by kernel_rfl) (fun _ _ _ h => h) (Or.inl ⟨by rfl, ?_⟩) hHeld ?_ ?_
    rotate_left
    · intro w' hS; have c0 := hS.c0; have c1 := hS.c1; have c2 := hS.c2; have c3 := hS.c3; have c4 := hS.k0; have c5 := hS.k1; have c6 := hS.k2; have c7 := hS.k3; have c8 := hS.k4; have c9 := hS.k5; have c10 := hS.k6; have c11 := hS.k7; have c12 := hS.k8; have c13 := hS.k9; have c14 := hS.l0; go_simp; with_reducible rfl
    rotate_left
    · simp only [Act.put, List.setIfInBounds_toArray, List.set_cons_zero, List.set_cons_succ]; rfl
    refine take_ (i := 5) (N := some 17) (v := ?_) (a' := ?_) #[true, true, true, true, true, true, false, false, false, false, false] rfl rfl (by kernel_rfl) (fun _ _ _ h => h) (Or.inl ⟨by rfl, ?_⟩) hHeld ?_ ?_
    rotate_left
    · intro w' hS; go_simp; with_reducible rfl
    rotate_left
    · simp only [Act.put, List.setIfInBounds_toArray, List.set_cons_zero, List.set_cons_succ]; rfl
    refine take_ (i := 6) (N := some 18) (v := ?_) (a' := ?_) #[true, true, true, true, true, true, true, false, false, false, false] rfl rfl (by kernel_rfl) (fun _ _ _ h => h) (Or.inl ⟨by rfl, ?_⟩) hHeld ?_ ?_
    rotate_left
    · intro w' hS; go_simp; with_reducible rfl
    rotate_left
    · simp only [Act.put, List.setIfInBounds_toArray, List.set_cons_zero, List.set_cons_succ]; rfl
    refine take_ (i := 7) (N := some 19) (v := ?_) (a' := ?_) #[true, true, true, true, true, true, true, true, false, false, false] rfl rfl (by kernel_rfl) (fun _ _ _ h => h) (Or.inl ⟨by rfl, ?_⟩) hHeld ?_ ?_
    rotate_left
    · intro w' hS; have c0 := hS.c0; have c1 := hS.c1; have c2 := hS.c2; have c3 := hS.c3; have c4 := hS.k0; have c5 := hS.k1; have c6 := hS.k2; have c7 := hS.k3; have c8 := hS.k4; have c9 := hS.k5; have c10 := hS.k6; have c11 := hS.k7; have c12 := hS.k8; have c13 := hS.k9; have c14 := hS.l0; go_simp; with_reducible rfl
    rotate_left
    · simp only [Act.put, List.setIfInBounds_toArray, List.set_cons_zero, List.set_cons_succ]; rfl
    refine take_ (i := 8) (N := some 20) (v := ?_) (a' := ?_) #[true, true, true, true, true, true, true, true, true, false, false] rfl rfl (by kernel_rfl) (fun _ _ _ h => h) (Or.inl ⟨by rfl, ?_⟩) hHeld ?_ ?_
    rotate_left
    · intro w' hS; go_simp; with_reducible rfl
    rotate_left
    · simp only [Act.put, List.setIfInBounds_toArray, List.set_cons_zero, List.set_cons_succ]; rfl
    refine one_ (i := 9) (N := some 3) #[true, true, true, true, true, true, true, true, true, true, false] rfl rfl (by kernel_rfl) (by decide) (fun K hK => ?_)
    rw [if_pos (by rfl)]
    go_simp
    refine hK.out _ _ (hHeld.alloc _) (fun _ => ?_)
    refine last_ (i := 10) (N := none) #[true, true, true, true, true, true, true, true, true, true, true] rfl rfl (by kernel_rfl) (by decide) (fun K hK => ?_)
    rw [if_pos (by rfl)]
    refine wp_store_new 38 (.tmp 3) (.tmp 20) rfl w1.drew (stCells ⟨0, 0, 0, 0⟩ zeroCnt (.slice none 0 0)) (stCells c n (.slice none 0 0)) rfl rfl sizeSt rfl (by simp [stCells, Value.oneCell']) ?_
    refine hK.out _ _ ?_
    refine done_ (by kernel_rfl) ?_
    refine NoPanic.normal ?_
    go_wp2_with fail
    go_meet
    exact ⟨rfl, rfl⟩
  case rest =>
    obtain ⟨rfl, rfl⟩ := hcut
    have C2 : Calm w (w1.drew.alloc (.cells (stCells c n (.slice none 0 0)) 38)) := (HC1.out.drew).alloc _
    have hB : (w1.drew.alloc (.cells (stCells c n (.slice none 0 0)) 38)).heap[w1.heap.size]? = some (.cells (stCells c n (.slice none 0 0)) 38 (0, 0)) := alloc_last w1.drew _ _
    have BQ : Blk (w1.drew.alloc (.cells (stCells c n (.slice none 0 0)) 38)) q #[.pointer (some ⟨e, 0, none⟩)] := (HB0.out.drew).alloc _
    have BR : Blk (w1.drew.alloc (.cells (stCells c n (.slice none 0 0)) 38)) (q + 1) (stCells ⟨0, 0, 0, 0⟩ zeroCnt (.slice none 0 0)) := by rw [← hq]; exact (HBr.out.drew).alloc _
    have hS2 : (w1.drew.alloc (.cells (stCells c n (.slice none 0 0)) 38)).heap.size = w1.heap.size + 1 := by simp
    have hP : w1.heap.size = q + 2 := by rw [← hq]; exact HS1.out
    rw [hP] at hB hS2
    have HHeld : Hid (w1.heap.size = q + 2) := Lib.hid hP
    generalize w1.drew.alloc (.cells (stCells c n (.slice none 0 0)) 38) = w2 at C2 hB BQ BR hS2 ⊢
    have KC2 := Lib.hid C2
    have KB := Lib.hid hB
    have KBQ := Lib.hid BQ
    have KBR := Lib.hid BR
    have KS2 := Lib.hid hS2
    rw [hP]
    clear C2 hB BQ BR hS2 hheld hP HHeld HB0 HBr HC1 HS1
    have k0 := KBQ.out.cell 0
    simp at k0
    have k5 := (cell_ptrs (HB.out.calm KC2.out)).2.1
    go_wp2_with (go_at_call 32; refine (Chain.All_calls _ _ _).mono ?_; rintro e' w' ⟨rfl, rfl⟩)
    have hW4 : (Chain.world4 w2 (some ⟨ob, 0, none⟩) 0 58 60).heap.size = q + 7 := by rw [Chain.world4_size, KS2.out]
    have hC4 : Calm w2 (Chain.world4 w2 (some ⟨ob, 0, none⟩) 0 58 60) := Chain.world4_calm _ _ _ _ _
    obtain ⟨b1, b2, sc, hat, hinv, _⟩ := (HP.out.ch.calm KC2.out).ex
    have hit := Chain.All_iter w2 5 (by decide) [q + 2] ob b1 b2 sc 0 (ps.map Prod.fst) hat (hinv.way (l := 0) Nat.zero_lt_one) _ (Kept.refl _ _)
    have hB4 := (hC4.block (q + 2) (by rw [KS2.out]; omega) (fun h => h)).trans KB.out
    rw [KS2.out] at hit ⊢
    clear hat hinv k0 k5
    generalize Chain.world4 w2 (some ⟨ob, 0, none⟩) 0 58 60 = w4 at hW4 hC4 hit hB4 ⊢
    have hsnug : Snug [q + 2] w4 := by
      intro B hBm o v g hc hv
      obtain rfl : B = q + 2 := by simpa using hBm
      exfalso
      rw [cell_of_row w4 (q + 2) o _ _ _ hB4] at hc
      have : ∀ (o : Nat) (v : Value) (g : Nat), (stCells c n (.slice none 0 0))[o]? = some v → v.ownBlock = some g → False := by
        intro o v g h1 h2
        match o, h1 with
        | 0, h1 | 1, h1 | 2, h1 | 3, h1 | 4, h1 | 5, h1 | 6, h1 | 7, h1 | 8, h1 | 9, h1 | 10, h1 | 11, h1 | 12, h1 | 13, h1 | 14, h1 | 15, h1 | 16, h1 | 17, h1 | 18, h1 | 19, h1 => injection h1 with h1; subst h1; cases h2
        | o + 20, h1 => simp [stCells] at h1
      exact this o v g hc hv
    refine (wpIn_wide (n := 6)).1 ?_
    refine rangeFunc_law1 26 4 (fun x : Int => .int .i32 x) rfl (by omega) (gf := 81) (lb := #[.pointer (some ⟨q + 3 + 2, 0, none⟩), .pointer (some ⟨q + 3 + 3, 0, none⟩)]) rfl trivial (enters_of Try.func81 (by kernel_rfl) rfl)
      hit (fun _ _ => trivial) (fun _ _ _ _ _ _ _ _ => trivial) (Below.refl _ _) (by simp; omega) hsnug (fun _ => rfl)
      (fun pre A => ∃ v, A.heap[q + 2]? = some (.cells (stCells c n v) 38 (0, 0)) ∧ A.ownsRow (q + 7) 42 4 v pre.length ((ps.take pre.length).flatMap fun x => pageV x.2) ∧ Go.Proofs.Ytekbgpfpnjddgaa.Kept (fun k => k = q + 2 ∨ q + 7 ≤ k) w4 A)
      (fun _ _ _ => False) ?abI ?abX ⟨_, hB4, World.ownsRow_nil _ _ _ _, Kept.refl _ _⟩ ?assign ?body ?done ?stop
    case abI =>
      intro pre A A' h hm
      obtain ⟨v, hc, hrow, hk⟩ := h
      have hlt : q + 2 < A.heap.size := (Array.getElem?_eq_some_iff.1 hc).1
      refine ⟨v, (hm.kept (q + 2) hlt (.inl (by rw [hW4]; omega))).trans hc, SlabU.ownsRow_of_block hrow (fun g hg => ?_), hk.trans ⟨hm.os, hm.tape, hm.output, hm.size, fun k h1 h2 => hm.kept k h1 (.inl (by rw [hW4]; omega))⟩⟩
      have hgl := ownsRow_lt hrow hg
      refine hm.kept g hgl.1 (.inr ⟨⟨q + 2, by simp, 5, v, by rw [cell_of_row A (q + 2) 5 _ _ _ hc]; rfl, hg⟩, ?_⟩)
      rcases hrow.2 with ⟨z, _⟩ | ⟨g', cap, cur, z, _, hh, _⟩
      · rw [z] at hg; cases hg
      · rw [z] at hg
        injection hg with hg
        have hg : g' = g := hg
        rw [← hg]
        exact ⟨_, hh, rfl⟩
    case abX => exact fun _ _ _ _ h _ => h
    case assign =>
      intro l' pre x A K hI hs hK
      gi_wp2
      exact hK _ _ (Yours.refl _ _ _) trivial hI rfl
    case body =>
      rintro l' pre x a' A hl' hrec ⟨v, hc, hrow, hk⟩ rfl hlt hsp
      have hCA : Calm w A := (((KC2.out.trans hC4).mono (G := fun _ => False) (fun _ _ q => q))).step hk (fun k h1 h2 => by omega)
      have SLA := Lib.hid (HP.out.sl.calm hCA)
      have k4 := (cell_ptrs (HB.out.calm hCA)).1
      have BQA : Blk A q #[.pointer (some ⟨e, 0, none⟩)] := (KBQ.out.calm hC4).kept hk (by rintro (z | z) <;> omega)
      have k0 := BQA.cell 0
      simp at k0
      rw [List.length_map] at hlt
      have hxk : ∃ key, ps[pre.length]? = some (x, key) := by
        obtain ⟨t, ht⟩ := hsp
        have h1 : (ps.map Prod.fst)[pre.length]? = some x := by rw [← ht]; simp
        rw [List.getElem?_map, List.getElem?_eq_getElem hlt] at h1
        injection h1 with h1
        exact ⟨ps[pre.length].2, by rw [List.getElem?_eq_getElem hlt, ← h1]⟩
      obtain ⟨key, hxk⟩ := hxk
      have hmem : (x, key) ∈ ps := List.mem_of_getElem? hxk
      have HXK := Lib.hid hxk
      have HC := Lib.hid hc
      have HROW := Lib.hid hrow
      have HKA := Lib.hid hk
      have HCA := Lib.hid hCA
      have hAs : q + 7 ≤ A.heap.size := by have := hk.size; omega
      clear hit hsp hxk hc hrow hk hCA
      gi_wp2_with fail
      refine ⟨trivial, (CallsIn.inRound _ (callsIn_wide.2 (SlabU.At_has SLA.out hmem))).mono ?_⟩
      rintro e' w5 ⟨rfl, hc5⟩
      have C5 := Lib.hid hc5
      clear hc5
      gi_wp2_with fail
      have HX6 := Lib.hid (Blk.new w5 #[.int .i32 x, .int .u32 (τ x)] 82)
      have C6 : Hid (Calm A _) := Lib.hid (C5.out.alloc (.cells #[.int .i32 x, .int .u32 (τ x)] 82))
      have hsA5 := C5.out.size
      generalize w5.alloc (.cells #[.int .i32 x, .int .u32 (τ x)] 82) = w6 at HX6 C6 ⊢
      generalize w5.heap.size = H at HX6 hsA5 ⊢
      have k4 := (cell_ptrs (HB.out.calm (HCA.out.trans C6.out))).1
      have BQ6 := BQA.calm C6.out
      have k0 := BQ6.cell 0
      simp at k0
      have z0 := HX6.out.cell 0
      have z1 := HX6.out.cell 1
      simp at z0 z1
      have hl0 : q < w6.heap.size := BQ6.lt
      have HBQ6 := Lib.hid BQ6
      clear BQ6
      gi_cut [7, 8] from 36 (fun v7 v8 wz => v7 = .int .u64 key ∧ Calm A wz)
      case first =>
        gi_region_with (refine ⟨trivial, (CallsIn.inRound _ (callsIn_wide.2 (SlabU.Get_has (SLA.out.calm (C6.out.drew)) hmem))).mono ?_⟩; rintro e' w7 ⟨rfl, hc7⟩)
        all_goals gi_wp2_with fail
        all_goals gi_meet
        all_goals exact ⟨rfl, C6.out.drew.trans hc7⟩
      case rest =>
        obtain ⟨rfl, hcz⟩ := hcut
        clear k4 k0 z0 z1 C5 C6 HX6 HBQ6 hsA5 hl0 BQA SLA
        have hcw := (hcz.block (q + 2) (by omega) (fun h => h)).trans HC.out
        have hroww := ownsRow_kept HROW.out hcz (fun _ _ h => h)
        have hnr : some (q + 2) ≠ v.ownBlock := fun z => by have := (ownsRow_lt HROW.out z.symm).2; omega
        have hvs : ∃ a cp, v = .slice a pre.length cp := by
          rcases hroww.2 with ⟨rfl, h0⟩ | ⟨g, cap, _, rfl, _⟩
          · exact ⟨_, _, by rw [h0]⟩
          · exact ⟨_, _, rfl⟩
        obtain ⟨va, vc, rfl⟩ := hvs
        have c5 : wc.cell? ⟨q + 2, 5, none⟩ = some (.slice va pre.length vc) := by rw [cell_of_row wc (q + 2) 5 _ _ _ hcw]; rfl
        have hszw := hcz.size
        have hp256 := hFEW.out
        have HCW := Lib.hid hcw
        have HRW := Lib.hid hroww
        have HCZ := Lib.hid hcz
        have HNR := Lib.hid hnr
        clear hcw hroww hcz hnr
        gi_wp2_with (gi_at_builtin; refine wpListIn_append_own_at _ rfl _ _ 34 rfl (q + 7) 42 i0 (.agg #[.int .u64 0, .int .i64 0, .bool false, .bool false]) 4 24 Try.underlying34 HI.out HZ0.out HZ1.out HZ2.out rfl (by decide) _ _ _ rfl (HRW.out.alloc _) ⟨wc.heap.size, 0, none⟩ 1 1 (pageV key) rfl rfl (World.news_of_block (cs := (pageV key).toArray) (alloc_last _ _ _)) (by simp [pageV, Value.oneCell']) (by unfold maxLen; omega) (by omega) (by simp; omega) ?_; intro v' w8 hown' hgrow _ hat; obtain ⟨g', cap', rfl⟩ := ownsRow_succ4 hown'; have hb8 := (hgrow.block (q + 2) (by simp; omega) HNR.out).trans ((Below.heap_alloc _ _ _ (by omega)).trans HCW.out); have c8 : w8.cell? ⟨q + 2, 5, none⟩ = some (.slice va pre.length vc) := by { rw [cell_of_row w8 (q + 2) 5 _ _ _ hb8]; rfl }; have z8 : w8.frozen? ⟨q + 2, 5, none⟩ = false := Blk.frozen ⟨_, hb8⟩ 5; have OWN := Lib.hid hown'; have GR := Lib.hid hgrow; have AT := Lib.hid hat; have B8 := Lib.hid hb8; clear hown' hgrow hat hb8)
        have hin : ∀ B, B ∈ [q + 2] → B = q + 2 := by simp
        have hYA : Yours [q + 2] w4.heap.size A wc := Yours.of_kept HCZ.out (fun _ _ _ h => h) (fun B hB' => ⟨by rw [hin B hB']; omega, fun h => h⟩)
        have hYB := Yours.appendedAt (n₀ := w4.heap.size) (Bs := [q + 2]) (tmp := .cells (pageV key).toArray 42) (v' := .slice (some ⟨g', 0, none⟩) (pre.length + 1) cap') HCW.out (o := 5) rfl HNR.out HRW.out (by simp) (by rw [hW4]; omega) OWN.out GR.out AT.out (fun B hB' => by rw [hin B hB']; exact ⟨by rw [hW4]; omega, by omega, HNR.out⟩)
        have hg7 : q + 7 ≤ g' := (ownsRow_lt OWN.out (g := g') rfl).2
        have hk5 : Go.Proofs.Ytekbgpfpnjddgaa.Kept (fun k => k = q + 2) w8 (w8.setCell ⟨q + 2, 5, none⟩ (.slice (some ⟨g', 0, none⟩) (pre.length + 1) cap')) := Kept.setCell (p := ⟨q + 2, 5, none⟩) (F := fun k => k = q + 2) (Kept.refl _ _) (fun _ => rfl) _
        refine ⟨hYA.trans hYB, trivial, .slice (some ⟨g', 0, none⟩) (pre.length + 1) cap', ?_, ?_, ?_⟩
        · have := heap_setCell_same B8.out 5 (.slice (some ⟨g', 0, none⟩) (pre.length + 1) cap')
          exact this
        · rw [List.length_append, List.length_singleton]
          have e1 : (ps.take (pre.length + 1)).flatMap (fun x => pageV x.2) = (ps.take pre.length).flatMap (fun x => pageV x.2) ++ pageV key := by
            rw [List.take_add_one, HXK.out]
            simp
          rw [e1]
          have hgne : ∀ g, (Value.slice (some ⟨g', 0, none⟩) (pre.length + 1) cap').ownBlock = some g → ¬ g = q + 2 := by
            intro g z y
            have z : g' = g := by injection z
            omega
          exact ownsRow_kept OWN.out hk5 hgne
        · refine ((HKA.out.trans (HCZ.out.mono (fun _ _ z => z.elim))).step (kept_of_grown GR.out |>.of_alloc) (fun k h1 h2 => .inr (ownsRow_lt HROW.out h2).2)).trans (hk5.mono (fun k _ z => .inl z))
    case done =>
      rintro D ys A hD rfl ⟨v, hc, hrow, hk⟩ hK
      have hvs : ∃ a cp k, v = .slice a k cp := by
        rcases hrow.2 with ⟨rfl, h0⟩ | ⟨g, cap, _, rfl, _⟩
        · exact ⟨_, _, _, rfl⟩
        · exact ⟨_, _, _, rfl⟩
      obtain ⟨va, vc, vk, rfl⟩ := hvs
      have hsz := hk.size
      have BRA : Blk A (q + 1) (stCells ⟨0, 0, 0, 0⟩ zeroCnt (.slice none 0 0)) := (KBR.out.calm hC4).kept hk (by rintro (z | z) <;> omega)
      have hCA : Calm w A := (((KC2.out.trans hC4).mono (G := fun _ => False) (fun _ _ q => q))).step hk (fun k h1 h2 => by omega)
      have hth : A.there (q + 1) 0 (stCells c n (.slice va vk vc)).size := by
        intro j hj
        have hj : j < 20 := hj
        rw [Nat.zero_add, BRA.cell]
        exact ⟨by rw [Array.getElem?_eq_getElem (show j < (stCells ⟨0, 0, 0, 0⟩ zeroCnt (.slice none 0 0)).size from hj)]; rfl, BRA.frozen _⟩
      have HTH := Lib.hid hth
      have HR := Lib.hid (blk_range (⟨_, hc⟩ : Blk A (q + 2) (stCells c n (.slice va vk vc))) 0 20 (stCells c n (.slice va vk vc)).toList rfl)
      have H1 := Lib.hid (show (stCells c n (.slice va vk vc)).all (·.oneCell') = true by simp [stCells, Value.oneCell'])
      have HROW := Lib.hid hrow
      have HKK := Lib.hid hk
      have HCA := Lib.hid hCA
      have HBRA := Lib.hid BRA
      clear hc hrow hk hth BRA hCA
      go_upto_region 9 with fail
      refine wp_region_lit ?_
      refine wpList_load_mid rfl 38 (.tmp 3) rfl (q + 2) 0 rfl (stCells c n (.slice va vk vc)).toList _ HR.out Try.underlying38 rfl sizeSt ?_
      refine wpList_store_mid rfl 38 (.tmp 2) (.tmp 52) rfl (q + 1) 0 (stCells c n (.slice va vk vc)) rfl rfl HTH.out sizeSt H1.out ?_
      refine wpList_nil ?_
      have BX := setCells_blk HBRA.out (stCells c n (.slice va vk vc)) rfl
      have KX := setCells_kept (F := fun k => k = q + 1) (b := q + 1) (fun _ => rfl) (stCells c n (.slice va vk vc)).toList 0 A (Kept.refl _ _)
      generalize A.setCells (q + 1) 0 (stCells c n (.slice va vk vc)).toList = X at BX KX ⊢
      have HBX := Lib.hid BX
      have HKX := Lib.hid KX
      clear BX KX
      go_wp2_with fail
      have hKX : X.heap[D]? = some (Obj.deferred (some [])) := (HKX.out.block D ((Array.getElem?_eq_some_iff.1 hK).1) (by omega)).trans hK
      obtain ⟨tX, hX⟩ := HBX.out
      refine ⟨by simp, .inl ⟨_, _, rfl, run_takeDeferred hKX, ?_⟩⟩
      refine ⟨_, results_cell_row rfl _ _ (q + 1) tX (stCells c n (.slice va vk vc)) (0, 0) _ rfl ((World.putObj_heap_other (by omega)).trans hX) Try.underlying38 rfl sizeSt, .slice va vk vc, rfl, ?_, ?_⟩
      · have e1 : ps.take (ps.map Prod.fst).length = ps := by rw [List.length_map]; exact List.take_length
        have hr := HROW.out
        rw [e1] at hr
        rw [List.length_map] at hr
        exact ownsRow_weaken (ownsRow_putObj (ownsRow_kept hr HKX.out (fun g z y => by have := (ownsRow_lt hr z).2; omega)) _ hKX rfl) (by omega)
      · have hz := HCA.out.step HKX.out (fun k h1 h2 => by omega)
        exact ⟨hz.os, hz.tape, hz.output, by have := hz.size; simpa using this, fun k hk' hF => (World.putObj_heap_other (by omega)).trans (hz.block k hk' hF)⟩
    case stop =>
      intro D j pre A hD hpre h hK
      exact h.elim
end
end Lru
end Go.Proofs.Ytekbgpfpnjddgaa
