/- A slab as the memory has it. Walks over slab: at, find, Get, At, Len. Walks over slab: place. Walks over slab: Alloc, Free, New; a slab as its user has it. -/
import Derived.Test.YtekbgpfpnjddgaaMem
import Derived.Deep.AppendLies
import Derived.Test.YtekbgpfpnjddgaaProg
import Derived.StillTailTactics
import Derived.Deep.DeepCutAuto
import Derived.Deep.CutBlock
import Derived.Deep.RegionLaw
import Derived.KernelRfl
import Derived.Test.YtekbgpfpnjddgaaAssoc
namespace Go.Proofs.Ytekbgpfpnjddgaa
open Go.RowKit
namespace SlabU

abbrev V := Int
def valV (v : V) : List Value := [.int .u64 v]
def argV (v : V) : Value := .int .u64 v
def zeroV : V := 0
theorem valV_length (v : V) : (valV v).length = 1 := rfl
structure Nd where
  val : V
  turn : Int
  taken : Bool
  below : Int
def nodeV (n : Nd) : List Value := valV n.val ++ [.int .u32 n.turn, .bool n.taken, .int .i32 n.below]
theorem nodeV_length (n : Nd) : (nodeV n).length = 1 + 3 := rfl
def nd0 : Nd := ⟨zeroV, 0, false, 0⟩
structure St where
  most : Nat
  chunk : Nat
  gs : List Nat
  nd : Nat → Nd
  ever : Nat
  live : Nat
  free : List Nat
def topOf : List Nat → Int
  | [] => -1
  | p :: _ => p
namespace St
def sl (s : St) (g : Nat) : Value := .slice (some ⟨g, 0, none⟩) s.chunk s.chunk
def part (s : St) (i : Nat) : List Nd := (List.range s.chunk).map fun j => s.nd (i * s.chunk + j)
def cells (s : St) (v : Value) : Array Value := #[.int .i64 s.most, .int .i64 s.chunk, v, .int .i64 s.ever, .int .i64 s.live, .int .i32 (topOf s.free)]
def put (s : St) (p : Nat) (n : Nd) : St := { s with nd := fun q => if q = p then n else s.nd q }
end St
structure At (w : World) (b : Nat) (v : Value) (s : St) : Prop where
  head : Blk w b (s.cells v)
  row : w.ownsRow 0 154 1 v s.gs.length (s.gs.map s.sl)
  rne : ∀ g, v.ownBlock = some g → g ≠ b ∧ g ∉ s.gs
  parts : ∀ i, (hi : i < s.gs.length) → Blk w s.gs[i] (flat nodeV (s.part i))
  gne : b ∉ s.gs
  nodup : s.gs.Nodup
  c1 : 1 ≤ s.chunk
  c2 : s.chunk ≤ s.most
  c3 : s.most ≤ 65536
  e1 : s.ever ≤ s.most
  e2 : s.ever ≤ s.gs.length * s.chunk
  e3 : s.gs.length * s.chunk < s.ever + s.chunk
/-- The blocks of a slab. -/
def owns (b : Nat) (v : Value) (s : St) (k : Nat) : Prop := k = b ∨ v.ownBlock = some k ∨ k ∈ s.gs
theorem ownsRow_of_block {w w' : World} {base : Nat} {e : TypeId} {size : Nat} {v : Value} {n : Nat} {xs : List Value} (h : w.ownsRow base e size v n xs) (hk : ∀ g, v.ownBlock = some g → w'.heap[g]? = w.heap[g]?) : w'.ownsRow base e size v n xs := by
  refine ⟨h.1, ?_⟩
  rcases h.2 with hn | ⟨g, cap, cur, hv, hb, hg, rest⟩
  · exact .inl hn
  · exact .inr ⟨g, cap, cur, hv, hb, (hk g (by rw [hv]; rfl)).trans hg, rest⟩
theorem ownsRow_cell {w : World} {base : Nat} {e : TypeId} {v : Value} {n : Nat} {xs : List Value} (h : w.ownsRow base e 1 v n xs) {i : Nat} (hi : i < n) :
    ∃ g cap, v = .slice (some ⟨g, 0, none⟩) n cap ∧ n ≤ cap ∧ g < w.heap.size ∧ w.cell? ⟨g, i, none⟩ = xs[i]? := by
  obtain ⟨hl, hh⟩ := h
  rcases hh with ⟨_, h0⟩ | ⟨g, cap, cur, hv, hb, hg, hnc, hcm, hcs, hx⟩
  · omega
  · have hlt : g < w.heap.size := (Array.getElem?_eq_some_iff.1 hg).1
    refine ⟨g, cap, hv, hnc, hlt, ?_⟩
    rw [cell_of_row w g i cur e (0, 0) hg, ← hx, List.getElem?_take, if_pos (by omega), Array.getElem?_toList]
theorem nodup_inj {l : List Nat} (h : l.Nodup) {i j : Nat} (hi : i < l.length) (hj : j < l.length) (e : l[i] = l[j]) : i = j := by
  rcases Nat.lt_trichotomy i j with q | q | q
  · exact absurd e (List.pairwise_iff_getElem.1 h i j hi hj q)
  · exact q
  · exact absurd e.symm (List.pairwise_iff_getElem.1 h j i hj hi q)
section
variable {w : World} {b : Nat} {v : Value} {s : St}
theorem At.lt (h : At w b v s) {k : Nat} (hk : owns b v s k) : k < w.heap.size := by
  rcases hk with rfl | hk | hk
  · exact h.head.lt
  · rcases h.row.2 with ⟨hn, _⟩ | ⟨g, cap, cur, hv, _, hg, _⟩
    · rw [hn] at hk; cases hk
    · rw [hv] at hk
      injection hk with hk
      have hk : g = k := hk
      rw [← hk]
      exact (Array.getElem?_eq_some_iff.1 hg).1
  · obtain ⟨i, hi, rfl⟩ := List.mem_iff_getElem.1 hk
    exact (h.parts i hi).lt
theorem At.kept {F : Nat → Prop} {w' : World} (h : At w b v s) (hk : Kept F w w') (hF : ∀ k, owns b v s k → ¬ F k) : At w' b v s :=
  { h with head := h.head.kept hk (hF _ (.inl rfl)), row := ownsRow_of_block h.row (fun g hg => hk.block g (h.lt (.inr (.inl hg))) (hF _ (.inr (.inl hg)))),
           parts := fun i hi => (h.parts i hi).kept hk (hF _ (.inr (.inr (List.getElem_mem hi)))) }
theorem At.calm {w' : World} (h : At w b v s) (hk : Calm w w') : At w' b v s := h.kept hk (fun _ _ q => q)
theorem At.c_0 (h : At w b v s) : w.cell? ⟨b, 0, none⟩ = some (.int .i64 s.most) := (h.head.cell 0).trans rfl
theorem At.c_1 (h : At w b v s) : w.cell? ⟨b, 1, none⟩ = some (.int .i64 s.chunk) := (h.head.cell 1).trans rfl
theorem At.c_2 (h : At w b v s) : w.cell? ⟨b, 2, none⟩ = some v := (h.head.cell 2).trans rfl
theorem At.c_3 (h : At w b v s) : w.cell? ⟨b, 3, none⟩ = some (.int .i64 s.ever) := (h.head.cell 3).trans rfl
theorem At.c_4 (h : At w b v s) : w.cell? ⟨b, 4, none⟩ = some (.int .i64 s.live) := (h.head.cell 4).trans rfl
theorem At.c_5 (h : At w b v s) : w.cell? ⟨b, 5, none⟩ = some (.int .i32 (topOf s.free)) := (h.head.cell 5).trans rfl
/-- Where a place's node lies. -/
def St.blk (s : St) (p : Nat) : Nat := s.gs.getD (p / s.chunk) 0
theorem part_get (s : St) (i j : Nat) (hj : j < s.chunk) : ∃ h : j < (s.part i).length, (s.part i)[j] = s.nd (i * s.chunk + j) := by
  have h : j < (s.part i).length := by simp [St.part, hj]
  exact ⟨h, by simp [St.part]⟩
theorem At.where_ (h : At w b v s) {p : Nat} (hp : p < s.gs.length * s.chunk) : ∃ hi : p / s.chunk < s.gs.length, s.blk p = s.gs[p / s.chunk] ∧ p % s.chunk < s.chunk ∧ p / s.chunk * s.chunk + p % s.chunk = p := by
  have hc := h.c1
  have hi : p / s.chunk < s.gs.length := (Nat.div_lt_iff_lt_mul (by omega)).2 hp
  refine ⟨hi, ?_, Nat.mod_lt _ (by omega), by rw [Nat.mul_comm]; exact Nat.div_add_mod _ _⟩
  unfold St.blk
  rw [List.getD_eq_getElem?_getD, List.getElem?_eq_getElem hi]; rfl
theorem At.node (h : At w b v s) {p : Nat} (hp : p < s.gs.length * s.chunk) (j : Nat) (hj : j < 1 + 3) : w.cell? ⟨s.blk p, p % s.chunk * (1 + 3) + j, none⟩ = (nodeV (s.nd p))[j]? := by
  obtain ⟨hi, e, hm, hd⟩ := h.where_ hp
  rw [e, (h.parts _ hi).cell]
  obtain ⟨hl, eg⟩ := part_get s (p / s.chunk) (p % s.chunk) hm
  rw [flat_get nodeV_length _ _ j hl hj, eg, hd]
theorem At.hasBlk (h : At w b v s) {p : Nat} (hp : p < s.gs.length * s.chunk) : s.blk p ∈ s.gs := by
  obtain ⟨hi, e, _⟩ := h.where_ hp
  rw [e]; exact List.getElem_mem hi
theorem At.nofz (h : At w b v s) {p : Nat} (hp : p < s.gs.length * s.chunk) (o : Nat) : w.frozen? ⟨s.blk p, o, none⟩ = false := by
  obtain ⟨hi, e, hm, hd⟩ := h.where_ hp
  rw [e]; exact (h.parts _ hi).frozen o
/-- A node's cell is written: the node is another one. -/
theorem At.setNode (h : At w b v s) {p : Nat} (hp : p < s.gs.length * s.chunk) (j : Nat) (hj : j < 1 + 3) (u : Value) (n : Nd) (hn : nodeV n = (nodeV (s.nd p)).set j u) :
    At (w.setCell ⟨s.blk p, p % s.chunk * (1 + 3) + j, none⟩ u) b v (s.put p n) := by
  obtain ⟨hi, e, hm, hd⟩ := h.where_ hp
  have hb := h.hasBlk hp
  have hk : Kept (fun k => k = s.blk p) w (w.setCell ⟨s.blk p, p % s.chunk * (1 + 3) + j, none⟩ u) := Kept.setCell (p := ⟨s.blk p, p % s.chunk * (1 + 3) + j, none⟩) (F := fun k => k = s.blk p) (Kept.refl _ _) (fun _ => rfl) u
  have nb : b ≠ s.blk p := fun q => h.gne (by rw [q]; exact hb)
  refine { h with head := h.head.kept hk nb, row := ownsRow_of_block h.row (fun g hg => hk.block g (h.lt (.inr (.inl hg))) (fun q => (h.rne g hg).2 (by rw [q]; exact hb))), parts := ?_ }
  intro i hi'
  have hi' : i < s.gs.length := hi'
  by_cases c : i = p / s.chunk
  · subst c
    obtain ⟨hl, eg⟩ := part_get s (p / s.chunk) (p % s.chunk) hm
    have h1 := (h.parts _ hi).set (p % s.chunk * (1 + 3) + j) u
    rw [flat_set nodeV_length (s.part (p / s.chunk)) (p % s.chunk) j u n hl hj (by rw [eg, hd]; exact hn)] at h1
    rw [e]
    have e2 : (s.put p n).part (p / s.chunk) = (s.part (p / s.chunk)).set (p % s.chunk) n := by
      apply List.ext_getElem
      · simp [St.part, St.put]
      · intro k h1 h2
        have hk : k < s.chunk := by simpa [St.part, St.put] using h1
        rw [List.getElem_set]
        simp only [St.part, St.put, List.getElem_map, List.getElem_range]
        by_cases q : p % s.chunk = k
        · rw [if_pos (by rw [← q]; exact hd), if_pos q]
        · rw [if_neg (by intro z; exact q (by rw [← z, Nat.mul_comm, Nat.mul_add_mod, Nat.mod_eq_of_lt hk])), if_neg q]
    show Blk _ s.gs[p / s.chunk] (flat nodeV ((s.put p n).part (p / s.chunk)))
    rw [e2]
    exact h1
  · have h1 := (h.parts i hi').kept hk (fun q => c (by rw [e] at q; exact nodup_inj h.nodup _ _ q))
    have e2 : (s.put p n).part i = s.part i := by
      apply List.ext_getElem
      · simp [St.part, St.put]
      · intro k h1 h2
        have hk : k < s.chunk := by simpa [St.part] using h2
        simp only [St.part, St.put, List.getElem_map, List.getElem_range]
        rw [if_neg]
        intro z
        apply c
        rw [← z, Nat.mul_comm, Nat.mul_add_div (by omega), Nat.div_eq_of_lt hk, Nat.add_zero]
    show Blk _ s.gs[i] (flat nodeV ((s.put p n).part i))
    rw [e2]
    exact h1
/-- A value is written, cell by cell. -/
def storeV (w : World) (g o : Nat) (x : V) : World := w.setCell ⟨g, o, none⟩ (.int .u64 x)
theorem At.setVal (h : At w b v s) {p : Nat} (hp : p < s.gs.length * s.chunk) (x : V) : At (storeV w (s.blk p) (p % s.chunk * (1 + 3)) x) b v (s.put p { s.nd p with val := x }) := by
  exact h.setNode hp 0 (by decide) (.int .u64 x) { s.nd p with val := x } rfl
theorem storeV_kept {F : Nat → Prop} {w0 : World} {g o : Nat} {x : V} (h : Kept F w0 w) (hg : g < w0.heap.size → F g) : Kept F w0 (storeV w g o x) := by
  exact Kept.setCell (p := ⟨g, o, none⟩) h hg _
end
end SlabU
end Go.Proofs.Ytekbgpfpnjddgaa
namespace Go.Proofs.Ytekbgpfpnjddgaa
open Go.RowKit
namespace SlabU
theorem wrap_nat (n : Nat) (h : n < 1000000) : IntKind.i64.wrap (n : Int) = n := by rw [IntKind.wrap_i64]; omega
section
variable {w : World} {b : Nat} {v : Value} {s : St}
set_option maxRecDepth 100000 in
theorem at_calls (h : At w b v s) (p : Nat) (hp : p < s.gs.length * s.chunk) (hp2 : p < 65536) :
    Calls Try.prog 61 #[.pointer (some ⟨b, 0, none⟩), .int .i32 p] w fun e w' => e = .returned (.pointer (some ⟨s.blk p, p % s.chunk * (1 + 3), none⟩)) ∧ ∃ n, w' = w.drewN n := by
  obtain ⟨hi, eb, hm, hd⟩ := h.where_ hp
  have h1 := h.c_1
  have h2 := h.c_2
  have hc1 := h.c1
  have hc2 : s.chunk ≤ 65536 := Nat.le_trans h.c2 h.c3
  obtain ⟨g, cap, rfl, hnc, hlt, hcell⟩ := ownsRow_cell h.row hi
  rw [List.getElem?_map, List.getElem?_eq_getElem hi, ← eb] at hcell
  simp only [Option.map_some, St.sl] at hcell
  have hpd : p / s.chunk ≤ p := Nat.div_le_self _ _
  have hw0 := wrap_nat p (by omega)
  have hwd := wrap_nat (p / s.chunk) (by omega)
  have hwm := wrap_nat (p % s.chunk) (by omega)
  have hdiv : (p : Int).tdiv (s.chunk : Int) = ((p / s.chunk : Nat) : Int) := (Int.ofNat_tdiv _ _).symm
  have hmod : (p : Int).tmod (s.chunk : Int) = ((p % s.chunk : Nat) : Int) := (Int.ofNat_tmod _ _).symm
  have hdiv2 : (p : Int) / (s.chunk : Int) = ((p / s.chunk : Nat) : Int) := (Int.natCast_ediv _ _).symm
  have hmod2 : (p : Int) % (s.chunk : Int) = ((p % s.chunk : Nat) : Int) := (Int.natCast_emod _ _).symm
  have hi' : ((p / s.chunk : Nat) : Int) < (s.gs.length : Int) := Int.ofNat_lt.2 hi
  have hm' : ((p % s.chunk : Nat) : Int) < (s.chunk : Int) := Int.ofNat_lt.2 hm
  clear h eb hd hp
  generalize p / s.chunk = q at hi hcell hpd hwd hdiv hdiv2 hi'
  generalize p % s.chunk = r at hm hwm hmod hmod2 hm' ⊢
  generalize s.blk p = bk at hcell ⊢
  have hz : (s.chunk = 0) = False := eq_false (by omega)
  go_enter Try.func61, Try.ntmps61
  go_wp2_with fail
  go_quiet (fail)
  go_wp2_with fail
  go_ret
  exact ⟨rfl, _, rfl⟩
theorem At.fits (h : At w b v s) {p : Nat} (hp : p < s.ever) : p < s.gs.length * s.chunk ∧ p < 65536 := by
  have h1 := h.e1
  have h2 := h.e2
  have h3 := h.c3
  omega
set_option maxRecDepth 100000 in
theorem find_calls (h : At w b v s) (p : Nat) (hp : p < s.ever) (ht : (s.nd p).taken = true) :
    Calls Try.prog 62 #[.pointer (some ⟨b, 0, none⟩), .agg #[.int .i32 p, .int .u32 (s.nd p).turn]] w fun e w' => e = .returned (.pointer (some ⟨s.blk p, p % s.chunk * (1 + 3), none⟩)) ∧ Calm w w' := by
  obtain ⟨hf, hf2⟩ := h.fits hp
  have he1 := h.e1
  have hc3 := h.c3
  have hw0 := wrap_nat p (by omega)
  have hp' : (p : Int) < (s.ever : Int) := Int.ofNat_lt.2 hp
  have hd1 : decide ((p : Int) < 0) = false := decide_eq_false (by omega)
  have hd2 : decide (s.ever ≤ p) = false := decide_eq_false (by omega)
  have hbl := h.head.lt
  have H := Lib.hid h
  clear h
  go_enter Try.func62, Try.ntmps62
  go_upto_region 1 with fail
  have HB := Lib.hid (Blk.new w #[.int .i32 p, .int .u32 (s.nd p).turn] 82)
  have H1 := Lib.hid (H.out.calm (Kept.alloc (Kept.refl _ _) (.cells #[.int .i32 p, .int .u32 (s.nd p).turn] 82)))
  have K1 : Hid (Calm w _) := Lib.hid (Kept.alloc (Kept.refl _ _) (.cells #[.int .i32 p, .int .u32 (s.nd p).turn] 82))
  clear H
  generalize w.alloc (.cells #[.int .i32 p, .int .u32 (s.nd p).turn] 82) = w1 at HB H1 K1 ⊢
  generalize w.heap.size = B at HB ⊢
  have k0 := HB.out.cell 0
  have k1 := HB.out.cell 1
  simp at k0 k1
  have h3 := H1.out.c_3
  go_quiet (fail)
  have H2 := Lib.hid (H1.out.calm (Kept.drewN (Kept.refl _ _) nq))
  have K2 := Lib.hid (K1.out.drewN nq)
  have HB2 := Lib.hid (HB.out.drewN nq)
  clear H1 K1 HB k0 k1 h3
  generalize w1.drewN nq = w2 at H2 K2 HB2 ⊢
  have k0 := HB2.out.cell 0
  simp at k0
  go_upto_region 4 with (go_at_call 61; refine (at_calls H2.out p hf hf2).mono ?_; rintro e w3 ⟨rfl, n3, rfl⟩)
  have H3 := Lib.hid (H2.out.calm (Kept.drewN (Kept.refl _ _) n3))
  have K3 := Lib.hid (K2.out.drewN n3)
  have HB3 := Lib.hid (HB2.out.drewN n3)
  clear H2 K2 HB2 k0
  generalize w2.drewN n3 = w4 at H3 K3 HB3 ⊢
  have k1 := HB3.out.cell 1
  simp at k1
  have n1 := H3.out.node hf 1 (by decide)
  have n2 := H3.out.node hf (1 + 1) (by decide)
  have e1 : (nodeV (s.nd p))[1]? = some (.int .u32 (s.nd p).turn) := rfl
  have e2 : (nodeV (s.nd p))[1 + 1]? = some (.bool (s.nd p).taken) := rfl
  rw [e1] at n1
  rw [e2, ht] at n2
  clear e1 e2 ht
  go_quiet (fail)
  have K4 := Lib.hid (K3.out.drewN nq)
  go_wp2_with fail
  go_ret
  exact ⟨rfl, K4.out⟩
set_option maxRecDepth 100000 in
theorem Get_calls (h : At w b v s) (p : Nat) (hp : p < s.ever) (ht : (s.nd p).taken = true) :
    Calls Try.prog 34 #[.pointer (some ⟨b, 0, none⟩), .agg #[.int .i32 p, .int .u32 (s.nd p).turn]] w fun e w' => e = .returned (.tuple #[argV (s.nd p).val, .int .i64 0]) ∧ Calm w w' := by
  obtain ⟨hf, hf2⟩ := h.fits hp
  have H := Lib.hid h
  clear h
  go_enter Try.func34, Try.ntmps34
  go_upto_region 1 with fail
  have HB := Lib.hid (Blk.new w #[.int .i32 p, .int .u32 (s.nd p).turn] 82)
  have H1 := Lib.hid (H.out.calm (Kept.alloc (Kept.refl _ _) (.cells #[.int .i32 p, .int .u32 (s.nd p).turn] 82)))
  have K1 : Hid (Calm w _) := Lib.hid (Kept.alloc (Kept.refl _ _) (.cells #[.int .i32 p, .int .u32 (s.nd p).turn] 82))
  clear H
  generalize w.alloc (.cells #[.int .i32 p, .int .u32 (s.nd p).turn] 82) = w1 at HB H1 K1 ⊢
  generalize w.heap.size = B at HB ⊢
  have k0 := HB.out.cell 0
  have k1 := HB.out.cell 1
  simp at k0 k1
  go_upto_region 7 with (go_at_call 62; refine (find_calls H1.out p hp ht).mono ?_; rintro e w3 ⟨rfl, hc3⟩)
  have n0 := (H1.out.calm hc3).node hf 0 (by decide)
  have e0 : (nodeV (s.nd p))[0]? = some (argV (s.nd p).val) := rfl
  rw [e0, Nat.add_zero] at n0
  have K3 := Lib.hid (K1.out.trans hc3)
  clear e0 hc3 k0 k1
  go_wp2_with fail
  go_ret2
  exact ⟨rfl, K3.out⟩
set_option maxRecDepth 100000 in
theorem At_calls (h : At w b v s) (p : Nat) (hp : p < s.ever) (ht : (s.nd p).taken = true) :
    Calls Try.prog 33 #[.pointer (some ⟨b, 0, none⟩), .int .i32 p] w fun e w' => e = .returned (.tuple #[.agg #[.int .i32 p, .int .u32 (s.nd p).turn], .bool true]) ∧ Calm w w' := by
  obtain ⟨hf, hf2⟩ := h.fits hp
  have hw0 := wrap_nat p (by omega)
  have hd1 : decide ((p : Int) < 0) = false := decide_eq_false (by omega)
  have hd2 : decide (s.ever ≤ p) = false := decide_eq_false (by omega)
  have hd3 : decide ((p : Int) ≥ (s.ever : Int)) = false := decide_eq_false (by omega)
  have H := Lib.hid h
  clear h
  go_enter Try.func33, Try.ntmps33
  go_upto_region 1 with fail
  have HB := Lib.hid (Blk.new w #[.int .i32 0, .int .u32 0] 82)
  have H1 := Lib.hid (H.out.calm (Kept.alloc (Kept.refl _ _) (.cells #[.int .i32 0, .int .u32 0] 82)))
  have K1 : Hid (Calm w _) := Lib.hid (Kept.alloc (Kept.refl _ _) (.cells #[.int .i32 0, .int .u32 0] 82))
  clear H
  generalize w.alloc (.cells #[.int .i32 0, .int .u32 0] 82) = w1 at HB H1 K1 ⊢
  generalize hB : w.heap.size = B at HB ⊢
  have h3 := H1.out.c_3
  go_upto_region 4 with (go_at_call 61; refine (at_calls H1.out p hf hf2).mono ?_; rintro e w3 ⟨rfl, n3, rfl⟩)
  have H2 := Lib.hid (H1.out.calm (Kept.drewN (Kept.refl _ _) n3))
  have K2 := Lib.hid (K1.out.drewN n3)
  have HB2 := Lib.hid (HB.out.drewN n3)
  clear H1 K1 HB h3
  generalize w1.drewN n3 = w2 at H2 K2 HB2 ⊢
  have k0 := HB2.out.cell 0
  have k1 := HB2.out.cell 1
  have hz := fun o => HB2.out.frozen o
  simp at k0 k1
  have n1 := H2.out.node hf 1 (by decide)
  have n2 := H2.out.node hf (1 + 1) (by decide)
  have e1 : (nodeV (s.nd p))[1]? = some (.int .u32 (s.nd p).turn) := rfl
  have e2 : (nodeV (s.nd p))[1 + 1]? = some (.bool (s.nd p).taken) := rfl
  rw [e1] at n1
  rw [e2, ht] at n2
  clear e1 e2 ht
  go_wp2_with fail
  refine bodyPost_ret (v := .tuple #[.agg #[.int .i32 p, .int .u32 (s.nd p).turn], .bool true]) (by simp [results, Try.results33, go_sem, k0, k1]) rfl ⟨rfl, ?_⟩
  refine Kept.setCell (Kept.setCell K2.out ?_ _) ?_ _
  · intro q; have q : B < w.heap.size := q; omega
  · intro q; have q : B < w.heap.size := q; omega
set_option maxRecDepth 100000 in
theorem Len_calls (h : At w b v s) :
    Calls Try.prog 53 #[.pointer (some ⟨b, 0, none⟩)] w fun e w' => e = .returned (.int .i64 s.live) ∧ w' = w := by
  have h4 := h.c_4
  go_enter Try.func53, Try.ntmps53
  go_wp2_with fail
  go_ret
  exact ⟨rfl, rfl⟩
end
end SlabU
end Go.Proofs.Ytekbgpfpnjddgaa
namespace Go.Proofs.Ytekbgpfpnjddgaa
open Go.RowKit
namespace SlabU

def Linked (nd : Nat → Nd) : List Nat → Prop
  | [] => True
  | p :: r => (nd p).below = topOf r ∧ Linked nd r
/-- A slab is whole; but for the place x, which is neither free nor taken. -/
structure OKx (s : St) (x : Option Nat) : Prop where
  count : s.live + x.toList.length + s.free.length = s.ever
  fnd : s.free.Nodup
  ffree : ∀ p, p ∈ s.free → p < s.ever
  link : Linked s.nd s.free
  xlt : ∀ p, x = some p → p < s.ever ∧ p ∉ s.free
  taken : ∀ p, p < s.ever → p ∉ s.free → x ≠ some p → (s.nd p).taken = true
  free : ∀ p, p ∈ s.free → (s.nd p).taken = false
theorem Linked.congr {nd nd' : Nat → Nd} : ∀ {l : List Nat}, (∀ p, p ∈ l → (nd' p).below = (nd p).below) → Linked nd l → Linked nd' l
  | [], _, _ => trivial
  | p :: _, h, hl => ⟨(h p (List.mem_cons_self ..)).trans hl.1, Linked.congr (fun q hq => h q (List.mem_cons_of_mem _ hq)) hl.2⟩
theorem wrap_i32 (n : Nat) (h : n < 1000000) : IntKind.i32.wrap (n : Int) = n := by rw [IntKind.wrap_i32]; omega
section
variable {w : World} {b : Nat} {v : Value} {s : St}
theorem At.setTop (h : At w b v s) (l : List Nat) : At (w.setCell ⟨b, 5, none⟩ (.int .i32 (topOf l))) b v { s with free := l } := by
  have hk : Kept (fun k => k = b) w (w.setCell ⟨b, 5, none⟩ (.int .i32 (topOf l))) := Kept.setCell (p := ⟨b, 5, none⟩) (F := fun k => k = b) (Kept.refl _ _) (fun _ => rfl) _
  exact { h with head := h.head.set 5 _, row := ownsRow_of_block h.row (fun g hg => hk.block g (h.lt (.inr (.inl hg))) (h.rne g hg).1),
                 parts := fun i hi => (h.parts i hi).kept hk (fun q => h.gne (by rw [← q]; exact List.getElem_mem hi)) }
theorem At.setLive (h : At w b v s) (n : Nat) : At (w.setCell ⟨b, 4, none⟩ (.int .i64 n)) b v { s with live := n } := by
  have hk : Kept (fun k => k = b) w (w.setCell ⟨b, 4, none⟩ (.int .i64 n)) := Kept.setCell (p := ⟨b, 4, none⟩) (F := fun k => k = b) (Kept.refl _ _) (fun _ => rfl) _
  exact { h with head := h.head.set 4 _, row := ownsRow_of_block h.row (fun g hg => hk.block g (h.lt (.inr (.inl hg))) (h.rne g hg).1),
                 parts := fun i hi => (h.parts i hi).kept hk (fun q => h.gne (by rw [← q]; exact List.getElem_mem hi)) }
theorem At.setEver (h : At w b v s) (h1 : s.ever + 1 ≤ s.gs.length * s.chunk) (h2 : s.ever + 1 ≤ s.most) : At (w.setCell ⟨b, 3, none⟩ (.int .i64 ((s.ever : Int) + 1))) b v { s with ever := s.ever + 1 } := by
  have hk : Kept (fun k => k = b) w (w.setCell ⟨b, 3, none⟩ (.int .i64 ((s.ever : Int) + 1))) := Kept.setCell (p := ⟨b, 3, none⟩) (F := fun k => k = b) (Kept.refl _ _) (fun _ => rfl) _
  have h3 := h.e3
  exact { h with head := h.head.set 3 _, row := ownsRow_of_block h.row (fun g hg => hk.block g (h.lt (.inr (.inl hg))) (h.rne g hg).1),
                 parts := fun i hi => (h.parts i hi).kept hk (fun q => h.gne (by rw [← q]; exact List.getElem_mem hi)),
                 e1 := h2, e2 := h1, e3 := by show s.gs.length * s.chunk < s.ever + 1 + s.chunk; omega }
/-- What place leaves. -/
structure Placed (b : Nat) (v : Value) (s : St) (w w' : World) (p : Nat) (v' : Value) (s' : St) : Prop where
  tab : At w' b v' s'
  ok : OKx s' (some p)
  kept : Kept (owns b v s) w w'
  owns' : ∀ k, owns b v' s' k → owns b v s k ∨ w.heap.size ≤ k
  most : s'.most = s.most
  chunk : s'.chunk = s.chunk
  live : s'.live = s.live
  nd : ∀ q, q < s.ever → s'.nd q = s.nd q
  ever : ∀ q, q < s'.ever → q ≠ p → q < s.ever
  ever2 : s.ever ≤ s'.ever
  was : p < s.ever → (s.nd p).taken = false
set_option maxRecDepth 100000 in
theorem place_free (h : At w b v s) (hok : OKx s none) (p : Nat) (r : List Nat) (e : s.free = p :: r) :
    Calls Try.prog 64 #[.pointer (some ⟨b, 0, none⟩)] w fun e w' => ∃ p v' s', e = .returned (.int .i32 (p : Nat)) ∧ Placed b v s w w' p v' s' := by
  have hp : p < s.ever := hok.ffree p (by rw [e]; exact List.mem_cons_self ..)
  obtain ⟨hf, hf2⟩ := h.fits hp
  have h5 := h.c_5
  rw [e] at h5
  replace h5 : w.cell? ⟨b, 5, none⟩ = some (.int .i32 p) := h5
  have hne : ((p : Int) == -1) = false := by rw [beq_eq_false_iff_ne]; omega
  have hl := hok.link
  rw [e] at hl
  have HE := Lib.hid e
  have HL := Lib.hid hl
  have HOK := Lib.hid hok
  have H := Lib.hid h
  clear h hok hl e
  go_enter Try.func64, Try.ntmps64
  go_wp2_with (go_at_call 61; refine (at_calls H.out p hf hf2).mono ?_; rintro e w3 ⟨rfl, n3, rfl⟩; have H3 := Lib.hid (H.out.calm (Kept.drewN (Kept.refl _ _) n3)); have n1 := H3.out.node hf (1 + 2) (by decide); have e1 : (nodeV (s.nd p))[1 + 2]? = some (.int .i32 (s.nd p).below) := rfl; rw [e1] at n1; have k5 := H3.out.c_5; have hz := fun o => H3.out.head.frozen o; clear e1)
  go_ret
  have hb := HL.out.1
  refine ⟨p, v, { s with free := r }, rfl, ?_⟩
  have hT := H3.out.setTop r
  rw [← hb] at hT
  have hnd : (p :: r).Nodup := by rw [← HE.out]; exact HOK.out.fnd
  refine { tab := hT, ok := ?_, kept := Kept.setCell ((Kept.refl _ _).drewN n3) (fun _ => .inl rfl) _, owns' := fun k q => .inl q, most := rfl, chunk := rfl, live := rfl, nd := fun _ _ => rfl, ever := fun _ q _ => q, ever2 := Nat.le_refl _, was := fun _ => HOK.out.free p (by rw [HE.out]; exact List.mem_cons_self ..) }
  have hc := HOK.out.count
  rw [HE.out] at hc
  refine { count := ?_, fnd := (List.nodup_cons.1 hnd).2, ffree := fun q hq => HOK.out.ffree q (by rw [HE.out]; exact List.mem_cons_of_mem _ hq), link := HL.out.2, xlt := ?_, taken := ?_, free := fun q hq => HOK.out.free q (by rw [HE.out]; exact List.mem_cons_of_mem _ hq) }
  · simp at hc ⊢; omega
  · intro q hq
    injection hq with hq
    subst hq
    exact ⟨hp, (List.nodup_cons.1 hnd).1⟩
  · intro q hq hn hx
    refine HOK.out.taken q hq ?_ (by simp)
    rw [HE.out]
    intro z
    rcases List.mem_cons.1 z with z | z
    · exact hx (by rw [z])
    · exact hn z
set_option maxRecDepth 100000 in
theorem place_old (h : At w b v s) (hok : OKx s none) (e : s.free = []) (hlt : s.ever + 1 ≤ s.gs.length * s.chunk) (hm : s.ever + 1 ≤ s.most) :
    Calls Try.prog 64 #[.pointer (some ⟨b, 0, none⟩)] w fun e w' => ∃ p v' s', e = .returned (.int .i32 (p : Nat)) ∧ Placed b v s w w' p v' s' := by
  have hc3 := h.c3
  have he3 := h.e3
  have hc2 := h.c2
  have h5 := h.c_5
  rw [e] at h5
  replace h5 : w.cell? ⟨b, 5, none⟩ = some (.int .i32 (-1)) := h5
  have h3 := h.c_3
  have hz := fun o => h.head.frozen o
  have hw := wrap_i32 s.ever (by omega)
  have hb : s.gs.length * s.chunk < 200000 := by omega
  have HE := Lib.hid e
  have HOK := Lib.hid hok
  have H := Lib.hid h
  have HH := Lib.hid (h.setEver hlt hm)
  have HK : Hid (Kept (owns b v s) w _) := Lib.hid (Kept.setCell (p := ⟨b, 3, none⟩) (Kept.refl (owns b v s) w) (fun _ => .inl rfl) (.int .i64 ((s.ever : Int) + 1)))
  clear h hok e he3
  go_enter Try.func64, Try.ntmps64
  go_upto_region 7 with fail
  clear h3 h5 hz
  generalize w.setCell ⟨b, 3, none⟩ (.int .i64 ((s.ever : Int) + 1)) = w2 at HH HK ⊢
  have k1 := HH.out.c_1
  have k2 := HH.out.c_2
  have k3 := HH.out.c_3
  obtain ⟨g, cap, ev⟩ : ∃ g cap, v = .slice g s.gs.length cap := by
    rcases H.out.row.2 with ⟨hn, hl⟩ | ⟨g, cap, cur, hv, _⟩
    · exact ⟨none, 0, by rw [hn, hl]⟩
    · exact ⟨_, cap, hv⟩
  rw [ev] at k2
  have hmul : IntKind.i64.wrap ((s.gs.length : Int) * (s.chunk : Int)) = (s.gs.length : Int) * (s.chunk : Int) := by
    have := wrap_nat (s.gs.length * s.chunk) (by omega)
    rw [Int.natCast_mul] at this
    exact this
  have hdec : decide ((s.gs.length : Int) * (s.chunk : Int) < (s.ever : Int) + 1) = false := by
    refine decide_eq_false ?_
    have : ((s.gs.length * s.chunk : Nat) : Int) = (s.gs.length : Int) * (s.chunk : Int) := Int.natCast_mul _ _
    omega
  go_quiet (fail)
  have H3 := Lib.hid (HH.out.calm (Kept.drewN (Kept.refl _ _) nq))
  have K3 := Lib.hid (HK.out.drewN nq)
  clear k1 k2 k3 HH HK
  generalize w2.drewN nq = w3 at H3 K3 ⊢
  go_wp2_with fail
  go_ret
  refine ⟨s.ever, v, { s with ever := s.ever + 1 }, rfl, ?_⟩
  refine { tab := H3.out, ok := ?_, kept := K3.out, owns' := fun k q => .inl q, most := rfl, chunk := rfl, live := rfl, nd := fun _ _ => rfl, ever := fun q z n => by have z : q < s.ever + 1 := z; omega, ever2 := Nat.le_succ _, was := fun q => absurd q (Nat.lt_irrefl _) }
  have hc := HOK.out.count
  have hf := HE.out
  refine { count := ?_, fnd := HOK.out.fnd, ffree := fun q hq => (by rw [show s.free = [] from hf] at hq; cases hq), link := HOK.out.link, xlt := ?_, taken := ?_, free := HOK.out.free }
  · show s.live + 1 + s.free.length = s.ever + 1
    simp at hc
    omega
  · intro q hq
    injection hq with hq
    subst hq
    exact ⟨Nat.lt_succ_self _, by rw [show s.free = [] from hf]; exact List.not_mem_nil⟩
  · intro q hq hn hx
    have hq : q < s.ever + 1 := hq
    refine HOK.out.taken q ?_ hn (by simp)
    have : s.ever ≠ q := fun z => hx (by rw [z])
    omega
theorem heap_alloc2 (w : World) (o1 o2 : Obj) (g : Nat) (hg : g < w.heap.size) : ((w.alloc o1).alloc o2).heap[g]? = w.heap[g]? := by
  rw [Below.heap_alloc _ _ _ (by simp; omega), Below.heap_alloc _ _ _ hg]
theorem heap_alloc2_last (w : World) (o1 : Obj) (cs : Array Value) (t : TypeId) : ((w.alloc o1).alloc (.cells cs t)).heap[w.heap.size + 1]? = some (.cells cs t (0, 0)) := by
  have h : w.heap.size + 1 = (w.alloc o1).heap.size := by simp
  rw [h]
  show ((w.alloc o1).heap.push _)[(w.alloc o1).heap.size]? = _
  rw [Array.getElem?_push_size]
theorem grown_blk {w w' : World} {o1 o2 : Obj} {row : Option Nat} {b : Nat} {cs : Array Value} (h : Blk w b cs) (hg : ((w.alloc o1).alloc o2).drew.grownBy w' row) (hne : some b ≠ row) : Blk w' b cs :=
  h.of_eq ((hg.block b (by simp; have := h.lt; omega) hne).trans (heap_alloc2 _ _ _ _ h.lt))
theorem made_nodes (z : Array Value) (hz : z.toList = nodeV nd0) (n : Nat) : madeCells z (n * (1 + 3)) = flat nodeV (List.replicate n nd0) := by
  apply Array.ext
  · rw [size_madeCells, flat_size nodeV_length, List.length_replicate]
  · intro i h1 h2
    rw [size_madeCells] at h1
    have hzs : z.size = 1 + 3 := by rw [← Array.length_toList, hz]; rfl
    have hq : i / (1 + 3) < n := by omega
    have hm : i % (1 + 3) < 1 + 3 := Nat.mod_lt _ (by decide)
    have h3 := flat_get nodeV_length (List.replicate n nd0) (i / (1 + 3)) (i % (1 + 3)) (by simpa using hq) hm
    have h4 : i / (1 + 3) * (1 + 3) + i % (1 + 3) = i := by omega
    rw [h4, List.getElem_replicate, ← hz, Array.getElem?_toList, Array.getElem?_eq_getElem h2, Array.getElem?_eq_getElem (by omega)] at h3
    have h5 := Option.some.inj h3
    rw [h5]
    simp [madeCells, hzs]
    rw [Array.getElem!_eq_getD, Array.getD_eq_getD_getElem?, Array.getElem?_eq_getElem (by omega)]
    rfl
def zeroNode : Value := .agg #[argV zeroV, .int .u32 0, .bool false, .int .i32 0]
def St.grow (s : St) (c : Nat) : St := { s with gs := s.gs ++ [c], nd := fun q => if q < s.gs.length * s.chunk then s.nd q else nd0, ever := s.ever + 1 }
theorem At.grown {w3 w4 : World} {g1 cap1 : Nat} (h : At w b v s) (hlt : s.ever = s.gs.length * s.chunk) (hm : s.ever + 1 ≤ s.most) (hsz : w.heap.size = w3.heap.size) (ho : Kept (fun k => k = b) w w3) {T1 T2 : TypeId} {cs2 : Array Value}
    (hb4 : Blk w4 b ((s.cells v).setIfInBounds 3 (.int .i64 ((s.ever : Int) + 1)))) (hown : w4.ownsRow 0 154 1 (.slice (some ⟨g1, 0, none⟩) (s.gs.length + 1) cap1) (s.gs.length + 1) (s.gs.map s.sl ++ [.slice (some ⟨w3.heap.size, 0, none⟩) s.chunk s.chunk]))
    (hg : ((w3.alloc (.cells (flat nodeV (List.replicate s.chunk nd0)) T1)).alloc (.cells cs2 T2)).drew.grownBy w4 v.ownBlock) (hat : v.ownBlock = some g1 ∨ g1 = w3.heap.size + 1 + 1) :
    At (w4.setCell ⟨b, 2, none⟩ (.slice (some ⟨g1, 0, none⟩) (s.gs.length + 1) cap1)) b (.slice (some ⟨g1, 0, none⟩) (s.gs.length + 1) cap1) (s.grow w3.heap.size) := by
  have hbl := h.head.lt
  have hgl : ∀ g, g ∈ s.gs → g < w3.heap.size := fun g q => by rw [← hsz]; exact h.lt (.inr (.inr q))
  have hvl : ∀ g, v.ownBlock = some g → g < w3.heap.size := fun g q => by rw [← hsz]; exact h.lt (.inr (.inl q))
  have hc1 := h.c1
  have ng : g1 ≠ b := by
    rcases hat with q | q
    · exact (h.rne g1 q).1
    · omega
  have hk5 : Kept (fun k => k = b) w4 (w4.setCell ⟨b, 2, none⟩ (.slice (some ⟨g1, 0, none⟩) (s.gs.length + 1) cap1)) := Kept.setCell (p := ⟨b, 2, none⟩) (F := fun k => k = b) (Kept.refl _ _) (fun _ => rfl) _
  have hmul : (s.gs.length + 1) * s.chunk = s.gs.length * s.chunk + s.chunk := Nat.succ_mul _ _
  refine { head := hb4.set 2 _, row := ?_, rne := ?_, parts := ?_, gne := ?_, nodup := ?_, c1 := h.c1, c2 := h.c2, c3 := h.c3, e1 := hm, e2 := ?_, e3 := ?_ }
  · have e1 : (s.grow w3.heap.size).gs.length = s.gs.length + 1 := by simp [St.grow]
    have e2 : (s.grow w3.heap.size).gs.map (s.grow w3.heap.size).sl = s.gs.map s.sl ++ [.slice (some ⟨w3.heap.size, 0, none⟩) s.chunk s.chunk] := by
      show (s.gs ++ [w3.heap.size]).map s.sl = _
      rw [List.map_append]; rfl
    rw [e1, e2]
    refine ownsRow_of_block hown (fun g q => hk5.block g ?_ ?_)
    · have q : g1 = g := by simpa [Value.ownBlock] using q
      rcases hown.2 with ⟨_, z⟩ | ⟨g', cap, cur, hv, _, hh, _⟩
      · omega
      · injection hv with hv
        injection hv with hv
        injection hv with hv
        rw [← q, hv]
        exact (Array.getElem?_eq_some_iff.1 hh).1
    · have q : g1 = g := by simpa [Value.ownBlock] using q
      rw [← q]; exact ng
  · intro g q
    have q : g1 = g := by simpa [Value.ownBlock] using q
    subst q
    refine ⟨ng, ?_⟩
    show g1 ∉ s.gs ++ [w3.heap.size]
    intro z
    rcases List.mem_append.1 z with z | z
    · rcases hat with q | q
      · exact (h.rne g1 q).2 z
      · have := hgl g1 z; omega
    · have z : g1 = w3.heap.size := by simpa using z
      rcases hat with q | q
      · have := hvl g1 q; omega
      · omega
  · intro i hi
    have hi' : i < s.gs.length + 1 := by simpa [St.grow] using hi
    by_cases c : i < s.gs.length
    · have e1 : (s.grow w3.heap.size).gs[i] = s.gs[i] := by
        show (s.gs ++ [w3.heap.size])[i]'(by simp; omega) = _
        rw [List.getElem_append_left c]
      have e2 : (s.grow w3.heap.size).part i = s.part i := by
        apply List.ext_getElem
        · simp [St.part, St.grow]
        · intro k h1 h2
          have hk : k < s.chunk := by simpa [St.part] using h2
          simp only [St.part, St.grow, List.getElem_map, List.getElem_range]
          rw [if_pos]
          have h3 : (i + 1) * s.chunk ≤ s.gs.length * s.chunk := Nat.mul_le_mul_right _ c
          rw [Nat.succ_mul] at h3
          omega
      rw [e1, e2]
      have nb : s.gs[i] ≠ b := fun q => h.gne (by rw [← q]; exact List.getElem_mem c)
      have h3 := (h.parts i c).kept ho nb
      have h4 := grown_blk h3 hg (fun q => (h.rne _ q.symm).2 (List.getElem_mem c))
      exact h4.kept hk5 nb
    · have ei : i = s.gs.length := by omega
      subst ei
      have e1 : (s.grow w3.heap.size).gs[s.gs.length] = w3.heap.size := by
        show (s.gs ++ [w3.heap.size])[s.gs.length]'(by simp) = _
        rw [List.getElem_append_right (Nat.le_refl _)]; simp
      have e2 : (s.grow w3.heap.size).part s.gs.length = List.replicate s.chunk nd0 := by
        apply List.ext_getElem
        · simp [St.part, St.grow]
        · intro k h1 h2
          simp only [St.part, St.grow, List.getElem_map, List.getElem_range, List.getElem_replicate]
          rw [if_neg]
          omega
      rw [e1, e2]
      have h3 : Blk (w3.alloc (.cells (flat nodeV (List.replicate s.chunk nd0)) T1)) w3.heap.size (flat nodeV (List.replicate s.chunk nd0)) := Blk.new _ _ _
      have h4 : Blk w4 w3.heap.size (flat nodeV (List.replicate s.chunk nd0)) := by
        refine h3.of_eq ((hg.block _ (by simp; omega) ?_).trans ?_)
        · intro q
          have := hvl _ q.symm
          omega
        · exact Below.heap_alloc _ _ _ (by simp)
      exact h4.kept hk5 (by show w3.heap.size ≠ b; omega)
  · show b ∉ s.gs ++ [w3.heap.size]
    intro z
    rcases List.mem_append.1 z with z | z
    · exact h.gne z
    · have z : b = w3.heap.size := by simpa using z
      omega
  · show (s.gs ++ [w3.heap.size]).Nodup
    rw [List.nodup_append]
    refine ⟨h.nodup, by simp, ?_⟩
    intro x hx y hy q
    have hy : y = w3.heap.size := by simpa using hy
    have := hgl x hx
    omega
  · show s.ever + 1 ≤ (s.gs ++ [w3.heap.size]).length * s.chunk
    rw [List.length_append, List.length_singleton, hmul]
    omega
  · show (s.gs ++ [w3.heap.size]).length * s.chunk < s.ever + 1 + s.chunk
    rw [List.length_append, List.length_singleton, hmul]
    omega
theorem kept_grown {F : Nat → Prop} {w0 w3 w4 : World} {o1 o2 : Obj} {row : Option Nat} (h : Kept F w0 w3) (hr : ∀ k, row = some k → F k) (hg : ((w3.alloc o1).alloc o2).drew.grownBy w4 row) : Kept F w0 w4 :=
  (((h.alloc o1).alloc o2).drew).trans ⟨hg.os, hg.tape, hg.output, hg.size, fun k hk hF => hg.block k hk (fun q => hF (hr k q.symm))⟩
theorem infoNode : (Try.prog.info? 127).map (fun i => (i.zero, i.size, i.bytes)) = some (some zeroNode, 1 + 3, 24) := by kernel_rfl
theorem infoNodes : (Try.prog.info? 154).map (fun i => (i.zero, i.size, i.bytes)) = some (some (.slice none 0 0), 1, 24) := by kernel_rfl
theorem make_nodes (n : Nat) (hn : n ≤ 65536) (w : World) : (Instr.makeSlice 154 (.int .i64 (n : Int)) (.int .i64 (n : Int))).run Try.prog w = .ok (.slice (some ⟨w.heap.size, 0, none⟩) n n) (w.alloc (.cells (flat nodeV (List.replicate n nd0)) 127)) := by
  obtain ⟨i, hi, hz, hs, hb⟩ := info_parts infoNode
  have := run_make (P := Try.prog) w 154 127 i _ Try.underlying154 hi hz .i64 .i64 n n (by omega) (Int.le_refl _) (by rw [hb]; omega) (by omega)
  rw [hs] at this
  rw [this, Int.toNat_natCast, ← made_nodes zeroNode.cells rfl]
set_option maxRecDepth 100000 in
theorem place_new (h : At w b v s) (hok : OKx s none) (e : s.free = []) (hlt : s.ever = s.gs.length * s.chunk) (hm : s.ever + 1 ≤ s.most) :
    Calls Try.prog 64 #[.pointer (some ⟨b, 0, none⟩)] w fun e w' => ∃ p v' s', e = .returned (.int .i32 (p : Nat)) ∧ Placed b v s w w' p v' s' := by
  have hc3 := h.c3
  have hc2 := h.c2
  have h5 := h.c_5
  rw [e] at h5
  replace h5 : w.cell? ⟨b, 5, none⟩ = some (.int .i32 (-1)) := h5
  have h3 := h.c_3
  have hz := fun o => h.head.frozen o
  have hw := wrap_i32 s.ever (by omega)
  have hbg := h.head.lt
  obtain ⟨g, cap, ev⟩ : ∃ g cap, v = .slice g s.gs.length cap := by
    rcases h.row.2 with ⟨hn, hl⟩ | ⟨g, cap, cur, hv, _⟩
    · exact ⟨none, 0, by rw [hn, hl]⟩
    · exact ⟨_, cap, hv⟩
  have hmul : IntKind.i64.wrap ((s.gs.length : Int) * (s.chunk : Int)) = (s.gs.length : Int) * (s.chunk : Int) := by
    have := wrap_nat (s.gs.length * s.chunk) (by omega)
    rw [Int.natCast_mul] at this
    exact this
  have hdec : decide ((s.gs.length : Int) * (s.chunk : Int) < (s.ever : Int) + 1) = true := by
    refine decide_eq_true ?_
    have : ((s.gs.length * s.chunk : Nat) : Int) = (s.gs.length : Int) * (s.chunk : Int) := Int.natCast_mul _ _
    omega
  have hb : s.gs.length * s.chunk < 200000 := by omega
  have hmk := make_nodes s.chunk (by omega)
  have HE := Lib.hid e
  have HOK := Lib.hid hok
  have H := Lib.hid h
  have EV := Lib.hid ev
  have HB : Hid (Blk _ b _) := Lib.hid (h.head.set 3 (.int .i64 ((s.ever : Int) + 1)))
  have HK : Hid (Kept (owns b v s) w _) := Lib.hid (Kept.setCell (p := ⟨b, 3, none⟩) (Kept.refl (owns b v s) w) (fun _ => .inl rfl) (.int .i64 ((s.ever : Int) + 1)))
  have HO := Lib.hid (Kept.setCell (p := ⟨b, 3, none⟩) (F := fun k => k = b) (Kept.refl (fun k => k = b) w) (fun _ => rfl) (.int .i64 ((s.ever : Int) + 1)))
  have HLT := Lib.hid hlt
  clear h hok e hlt
  go_enter Try.func64, Try.ntmps64
  go_upto_region 7 with fail
  clear h3 h5 hz
  have hsz : w.heap.size = (w.setCell ⟨b, 3, none⟩ (.int .i64 ((s.ever : Int) + 1))).heap.size := by simp
  generalize w.setCell ⟨b, 3, none⟩ (.int .i64 ((s.ever : Int) + 1)) = w2 at HB HK HO hsz ⊢
  have k1 := HB.out.cell 1
  have k2 := HB.out.cell 2
  have k3 := HB.out.cell 3
  simp [St.cells] at k1 k2 k3
  rw [ev] at k2
  clear ev
  go_quiet (fail)
  have HB2 := Lib.hid (HB.out.drewN nq)
  have HO2 := Lib.hid (HO.out.drewN nq)
  clear k1 k2 k3 HB HO HK
  have hsz2 : w.heap.size = (w2.drewN nq).heap.size := hsz
  clear hsz
  generalize w2.drewN nq = w3 at HB2 HO2 hsz2 ⊢
  go_upto_region 8 with fail
  have k1 := HB2.out.cell 1
  have k2 := HB2.out.cell 2
  have k3 := HB2.out.cell 3
  simp [St.cells] at k1 k2 k3
  have hz := fun o => HB2.out.frozen o
  have hb3 : b < w3.heap.size := HB2.out.lt
  have hrow := ownsRow_of_block H.out.row (w' := w3) (fun g hg => HO2.out.block g (H.out.lt (.inr (.inl hg))) (H.out.rne g hg).1)
  have HR := Lib.hid hrow
  clear hrow
  obtain ⟨i0, hi, hz0, hz1, hz2⟩ := info_parts infoNodes
  have hlen : s.gs.length ≤ 65536 := by
    have h1 := HLT.out
    have h2 := H.out.c1
    have h3 : s.gs.length * 1 ≤ s.gs.length * s.chunk := Nat.mul_le_mul_left _ h2
    omega
  have hb1 : s.gs.length + 1 ≤ maxLen := by unfold maxLen; omega
  have hb2 : (s.gs.length + 1) * 24 ≤ 140737488355328 := by omega
  have HLg := Lib.hid (fun g (hg : v.ownBlock = some g) => (show g < w3.heap.size by rw [← hsz2]; exact H.out.lt (.inr (.inl hg))))
  go_region_law (refine step_append_lies _ rfl (.tmp 55) (.tmp 61) 111 rfl 0 154 i0 (.slice none 0 0) 1 24 Try.underlying111 hi hz0 hz1 hz2 rfl (by decide) v s.gs.length (s.gs.map s.sl) (by simp [Act.eval]) (ownsRow_of_block HR.out (fun g hg => heap_alloc2 _ _ _ _ (HLg.out g hg))) ⟨w3.heap.size + 1, 0, none⟩ 1 1 [.slice (some ⟨w3.heap.size, 0, none⟩) s.chunk s.chunk] (by simp [Act.eval]) rfl (World.news_of_block (cs := #[.slice (some ⟨w3.heap.size, 0, none⟩) s.chunk s.chunk]) (heap_alloc2_last _ _ _ _)) (by intro u hu; simp at hu; subst hu; rfl) (by decide) hb1 hb2 (Nat.zero_le _) _ rfl ?_; intro g1 cap1 w4 hown hgrow hat hlt4; have HOWN := Lib.hid hown; have HGR := Lib.hid hgrow; have HAT4 := Lib.hid hat; have HB4 := Lib.hid (grown_blk HB2.out hgrow (fun q => (H.out.rne b q.symm).1 rfl)); clear hown hgrow hat; have k4 := HB4.out.cell 2; have hz4 := fun o => HB4.out.frozen o; simp [St.cells] at k4)
  all_goals
    go_wp2_with fail
    go_ret
    have hA := H.out.grown HLT.out hm hsz2 HO2.out HB4.out HOWN.out HGR.out (HAT4.out.imp id (fun q => by simpa using q))
    refine ⟨s.ever, .slice (some ⟨g1, 0, none⟩) (s.gs.length + 1) cap1, s.grow w3.heap.size, rfl, ?_⟩
    have hf : (s.grow w3.heap.size).free = [] := HE.out
    have hc := HOK.out.count
    rw [HE.out] at hc
    refine { tab := hA, ok := ?_, kept := ?_, owns' := ?_, most := rfl, chunk := rfl, live := rfl, nd := ?_, ever := fun q z n => by have z : q < s.ever + 1 := z; omega, ever2 := Nat.le_succ _, was := fun q => absurd q (Nat.lt_irrefl _) }
    · refine { count := ?_, fnd := by rw [hf]; exact List.nodup_nil, ffree := fun q hq => (by rw [hf] at hq; cases hq), link := by rw [hf]; trivial, xlt := ?_, taken := ?_, free := fun q hq => (by rw [hf] at hq; cases hq) }
      · rw [hf]
        show s.live + 1 + 0 = s.ever + 1
        simp at hc
        omega
      · intro q hq
        injection hq with hq
        subst hq
        exact ⟨Nat.lt_succ_self _, by rw [hf]; exact List.not_mem_nil⟩
      · intro q hq hn hx
        have hq : q < s.ever + 1 := hq
        have : s.ever ≠ q := fun z => hx (by rw [z])
        have hlt := HLT.out
        show (if q < s.gs.length * s.chunk then s.nd q else nd0).taken = true
        rw [if_pos (by omega)]
        exact HOK.out.taken q (by omega) (by rw [HE.out]; exact List.not_mem_nil) (by simp)
    · exact Kept.setCell (kept_grown (HO2.out.mono (fun k _ q => .inl q)) (fun k q => .inr (.inl q)) HGR.out) (fun _ => .inl rfl) _
    · rintro k (q | q | q)
      · exact .inl (.inl q)
      · have q : g1 = k := by simpa [Value.ownBlock] using q
        subst q
        rcases HAT4.out with z | z
        · exact .inl (.inr (.inl z))
        · have z : g1 = w3.heap.size + 1 + 1 := by simpa using z
          exact .inr (by omega)
      · have q : k ∈ s.gs ++ [w3.heap.size] := q
        rcases List.mem_append.1 q with q | q
        · exact .inl (.inr (.inr q))
        · have q : k = w3.heap.size := by simpa using q
          exact .inr (by omega)
    · intro q hq
      have hlt := HLT.out
      show (if q < s.gs.length * s.chunk then s.nd q else nd0) = s.nd q
      rw [if_pos (by omega)]
theorem place_calls (h : At w b v s) (hok : OKx s none) (hm : s.live < s.most) :
    Calls Try.prog 64 #[.pointer (some ⟨b, 0, none⟩)] w fun e w' => ∃ p v' s', e = .returned (.int .i32 (p : Nat)) ∧ Placed b v s w w' p v' s' := by
  cases e : s.free with
  | cons p r => exact place_free h hok p r e
  | nil =>
    have hc := hok.count
    rw [e] at hc
    simp at hc
    have h2 := h.e2
    have h3 := h.e1
    by_cases c : s.ever + 1 ≤ s.gs.length * s.chunk
    · exact place_old h hok e c (by omega)
    · exact place_new h hok e (by omega) (by omega)
end
end SlabU
end Go.Proofs.Ytekbgpfpnjddgaa
namespace Go.Proofs.Ytekbgpfpnjddgaa
open Go.RowKit
namespace SlabU
theorem St.put_put (s : St) (p : Nat) (m n : Nd) : (s.put p m).put p n = s.put p n := by
  unfold St.put
  congr 1
  funext q
  by_cases c : q = p
  · rw [if_pos c, if_pos c]
  · rw [if_neg c, if_neg c]; exact if_neg c
theorem St.put_nd (s : St) (p : Nat) (m : Nd) : (s.put p m).nd p = m := by simp [St.put]
section
variable {w : World} {b : Nat} {v : Value} {s : St}
/-- What Alloc leaves. -/
structure Made (b : Nat) (v : Value) (s : St) (w w' : World) (p : Nat) (t : Int) (x : V) (v' : Value) (s' : St) : Prop where
  tab : At w' b v' s'
  ok : OKx s' none
  kept : Kept (owns b v s) w w'
  owns' : ∀ k, owns b v' s' k → owns b v s k ∨ w.heap.size ≤ k
  most : s'.most = s.most
  live : s'.live = s.live + 1
  plt : p < s'.ever
  turn : (s'.nd p).turn = t
  val : (s'.nd p).val = x
  taken : (s'.nd p).taken = true
  same : ∀ q, q < s.ever → q ≠ p → s'.nd q = s.nd q
  more : ∀ q, q < s'.ever → q ≠ p → q < s.ever
  ever : s.ever ≤ s'.ever
  was : p < s.ever → (s.nd p).taken = false
set_option maxRecDepth 100000 in
theorem Alloc_calls (h : At w b v s) (hok : OKx s none) (hm : s.live < s.most) (x : V) :
    Calls Try.prog 36 #[.pointer (some ⟨b, 0, none⟩), argV x] w fun e w' => ∃ p t v' s', e = .returned (.tuple #[.agg #[.int .i32 (p : Nat), .int .u32 t], .int .i64 0]) ∧ Made b v s w w' p t x v' s' := by
  have hml : s.live < 70000 := by have := h.c3; omega
  have hd1 : (s.live = s.most) = False := eq_false (by omega)
  have hd2 : ((s.live : Int) == (s.most : Int)) = false := beq_false_of_ne (by omega)
  have H := Lib.hid h
  have HOK := Lib.hid hok
  have HM := Lib.hid hm
  clear h hok hm
  unfold argV
  go_enter Try.func36, Try.ntmps36
  go_upto_region 3 with fail
  have HB := Lib.hid (Blk.new w #[.int .i32 0, .int .u32 0] 82)
  have H1 := Lib.hid (H.out.calm (Kept.alloc (Kept.refl _ _) (.cells #[.int .i32 0, .int .u32 0] 82)))
  have K1 : Hid (Calm w _) := Lib.hid (Kept.alloc (Kept.refl _ _) (.cells #[.int .i32 0, .int .u32 0] 82))
  generalize w.alloc (.cells #[.int .i32 0, .int .u32 0] 82) = w1 at HB H1 K1 ⊢
  generalize hB : w.heap.size = B at HB ⊢
  have k0 := H1.out.c_0
  have k4 := H1.out.c_4
  go_quiet (fail)
  have H2 := Lib.hid (H1.out.calm (Kept.drewN (Kept.refl _ _) nq))
  have K2 := Lib.hid (K1.out.drewN nq)
  have HB2 := Lib.hid (HB.out.drewN nq)
  clear H1 K1 HB k0 k4
  generalize w1.drewN nq = w2 at H2 K2 HB2 ⊢
  go_upto_region 6 with (go_at_call 64; refine (place_calls H2.out HOK.out HM.out).mono ?_; rintro e w3 ⟨p, v', s', rfl, hP⟩)
  have HP := Lib.hid hP
  clear hP
  obtain ⟨hp1, hp2⟩ := HP.out.ok.xlt p rfl
  obtain ⟨hf, hf2⟩ := HP.out.tab.fits hp1
  go_upto_region 7 with (go_at_call 61; refine (at_calls HP.out.tab p hf hf2).mono ?_; rintro e w4 ⟨rfl, n4, rfl⟩)
  have hBo : ¬ owns b v s B := fun q => by have := H.out.lt q; omega
  have hB2 : B < w2.heap.size := HB2.out.lt
  have hBn : ¬ owns b v' s' B := fun q => (HP.out.owns' B q).elim hBo (fun q => by omega)
  have HB4 := Lib.hid ((HB2.out.kept HP.out.kept hBo).drewN n4)
  have H4 := Lib.hid (HP.out.tab.calm (Kept.drewN (Kept.refl _ _) n4))
  have K4 := Lib.hid ((Kept.trans (K2.out.mono (fun _ _ q => q.elim)) HP.out.kept).drewN n4)
  have K2s := Lib.hid K2.out.size
  clear H2 K2 HB2
  generalize w3.drewN n4 = w5 at HB4 H4 K4 ⊢
  have hz := fun o => H4.out.nofz hf o
  have hz2 := fun o => H4.out.head.frozen o
  have m0 := H4.out.node hf 0 (by decide)
  rw [show (nodeV (s'.nd p))[0]? = some (.int .u64 (s'.nd p).val) from rfl, Nat.add_zero] at m0
  have m1 := H4.out.node hf 1 (by decide)
  have m2 := H4.out.node hf (1 + 1) (by decide)
  have e1 : (nodeV (s'.nd p))[1]? = some (.int .u32 (s'.nd p).turn) := rfl
  have e2 : (nodeV (s'.nd p))[1 + 1]? = some (.bool (s'.nd p).taken) := rfl
  rw [e1] at m1
  rw [e2] at m2
  clear e1 e2
  have hml' : s'.live < 70000 := by rw [HP.out.live]; exact hml
  have k4 := H4.out.c_4
  have nbk : b ≠ s'.blk p := fun q => H4.out.gne (by rw [q]; exact H4.out.hasBlk hf)
  have nBk : B ≠ s'.blk p := fun q => hBn (.inr (.inr (by rw [q]; exact H4.out.hasBlk hf)))
  have nBb : B ≠ b := fun q => hBn (.inl q)
  have nbk' := Ne.symm nbk
  have nBk' := Ne.symm nBk
  have nBb' := Ne.symm nBb
  have k0 := HB4.out.cell 0
  have k1 := HB4.out.cell 1
  have hz3 := fun o => HB4.out.frozen o
  simp at k0 k1
  go_wp2_with fail
  refine bodyPost_ret (v := .tuple #[.agg #[.int .i32 (p : Nat), .int .u32 (((s'.nd p).turn + 1) % 4294967296)], .int .i64 0]) (by simp [results, Try.results36, go_sem, k0, k1]) rfl ⟨p, ((s'.nd p).turn + 1) % 4294967296, v', { (s'.put p { (s'.nd p) with val := x, taken := true, turn := ((s'.nd p).turn + 1) % 4294967296 }) with live := s'.live + 1 }, rfl, ?_⟩
  have T1 := H4.out.setVal hf x
  have T2 := T1.setNode (p := p) hf (1 + 1) (by decide) (.bool true) { (s'.nd p) with val := x, taken := true } (by rw [St.put_nd]; rfl)
  rw [St.put_put] at T2
  have T3 := T2.setNode (p := p) hf 1 (by decide) (.int .u32 (((s'.nd p).turn + 1) % 4294967296)) { (s'.nd p) with val := x, taken := true, turn := ((s'.nd p).turn + 1) % 4294967296 } (by rw [St.put_nd]; rfl)
  rw [St.put_put] at T3
  have T4 := T3.setLive (s'.live + 1)
  have ew : (((s'.live + 1 : Nat)) : Int) = (s'.live : Int) + 1 := by omega
  rw [ew] at T4
  have hop : owns b v s (s'.blk p) ∨ w.heap.size ≤ s'.blk p := by
    rcases HP.out.owns' _ (.inr (.inr (H4.out.hasBlk hf))) with q | q
    · exact .inl q
    · exact .inr (by have := K2s.out; omega)
  have hBw : ∀ {u : Nat}, u = B → ¬ u < w.heap.size := fun e q => by omega
  have KB : ∀ (W : World) (o : Nat) (u : Value), Kept (fun k => k = B) W (W.setCell ⟨B, o, none⟩ u) := fun W o u => Kept.setCell (p := ⟨B, o, none⟩) (F := fun k => k = B) (Kept.refl _ _) (fun _ => rfl) u
  have T5 := (T4.kept (KB _ 0 (.int .i32 (p : Nat))) (fun k q e => hBn (by rw [← e]; exact q))).kept (KB _ 1 (.int .u32 (((s'.nd p).turn + 1) % 4294967296))) (fun k q e => hBn (by rw [← e]; exact q))
  have hbw : b < w.heap.size → owns b v s b := fun _ => .inl rfl
  have hgw : s'.blk p < w.heap.size → owns b v s (s'.blk p) := fun q => hop.resolve_right (by omega)
  have K5 : Kept (owns b v s) w _ := Kept.setCell (p := ⟨b, 4, none⟩) (Kept.setCell (p := ⟨s'.blk p, p % s'.chunk * (1 + 3) + 1, none⟩) (Kept.setCell (p := ⟨s'.blk p, p % s'.chunk * (1 + 3) + (1 + 1), none⟩) (storeV_kept (o := p % s'.chunk * (1 + 3)) (x := x) K4.out hgw) hgw (.bool true)) hgw (.int .u32 (((s'.nd p).turn + 1) % 4294967296))) hbw (.int .i64 ((s'.live : Int) + 1))
  have K6 := Kept.setCell (p := ⟨B, 1, none⟩) (Kept.setCell (p := ⟨B, 0, none⟩) K5 (fun q => absurd q (hBw rfl)) (.int .i32 (p : Nat))) (fun q => absurd q (hBw rfl)) (.int .u32 (((s'.nd p).turn + 1) % 4294967296))
  have hnd : ∀ q, q ≠ p → (if q = p then ({ (s'.nd p) with val := x, taken := true, turn := ((s'.nd p).turn + 1) % 4294967296 } : Nd) else s'.nd q) = s'.nd q := fun q c => if_neg c
  have hok := HP.out.ok
  refine { tab := T5, ok := ?_, kept := K6, owns' := ?_, most := HP.out.most, live := by show s'.live + 1 = s.live + 1; rw [HP.out.live], plt := hp1, turn := by show (if p = p then _ else _ : Nd).turn = _; rw [if_pos rfl], val := by show (if p = p then _ else _ : Nd).val = _; rw [if_pos rfl], taken := by show (if p = p then _ else _ : Nd).taken = _; rw [if_pos rfl],
           same := fun q hq c => by show (if q = p then _ else _) = _; rw [if_neg c]; exact HP.out.nd q hq, more := fun q hq c => HP.out.ever q hq c, ever := HP.out.ever2, was := HP.out.was }
  · refine { count := ?_, fnd := hok.fnd, ffree := hok.ffree, link := ?_, xlt := (fun q e => by cases e), taken := ?_, free := ?_ }
    · have := hok.count
      show s'.live + 1 + 0 + s'.free.length = s'.ever
      simp at this
      omega
    · refine Linked.congr (fun q hq => ?_) hok.link
      show (if q = p then _ else _ : Nd).below = _
      rw [if_neg (fun c => hp2 (by rw [← c]; exact hq))]
    · intro q hq hn _
      show (if q = p then _ else _ : Nd).taken = true
      by_cases c : q = p
      · rw [if_pos c]
      · rw [if_neg c]; exact hok.taken q hq hn (fun z => c (by injection z with z; exact z.symm))
    · intro q hq
      show (if q = p then _ else _ : Nd).taken = false
      rw [if_neg (fun c => hp2 (by rw [← c]; exact hq))]
      exact hok.free q hq
  · intro k q
    rcases HP.out.owns' k q with z | z
    · exact .inl z
    · exact .inr (by have := K2s.out; omega)
/-- What Free leaves. -/
def St.freed (s : St) (p : Nat) : St := { (s.put p ⟨zeroV, (s.nd p).turn, false, topOf s.free⟩) with free := p :: s.free, live := s.live - 1 }
theorem OKx.freed (hok : OKx s none) {p : Nat} (hp : p < s.ever) (ht : (s.nd p).taken = true) : OKx (s.freed p) none ∧ 0 < s.live := by
  have hnf : p ∉ s.free := fun q => by have := hok.free p q; rw [ht] at this; cases this
  have hc := hok.count
  simp at hc
  have hnd : (p :: s.free).Nodup := List.nodup_cons.2 ⟨hnf, hok.fnd⟩
  have hlen : (p :: s.free).length ≤ s.ever := by
    have h1 : ∀ l : List Nat, l.Nodup → (∀ x, x ∈ l → x < s.ever) → l.length ≤ s.ever := fun l hn hl => by
      have := List.Nodup.length_le_of_subset (l₁ := l) (l₂ := List.range s.ever) hn (fun x hx => List.mem_range.2 (hl x hx))
      simpa using this
    exact h1 _ hnd (fun x hx => (List.mem_cons.1 hx).elim (fun e => by rw [e]; exact hp) (hok.ffree x))
  simp at hlen
  have hl : 0 < s.live := by omega
  refine ⟨{ count := ?_, fnd := hnd, ffree := fun x hx => (List.mem_cons.1 hx).elim (fun e => by rw [e]; exact hp) (hok.ffree x), link := ⟨?_, ?_⟩, xlt := (fun q e => by cases e), taken := ?_, free := ?_ }, hl⟩
  · show s.live - 1 + 0 + (p :: s.free).length = s.ever
    rw [List.length_cons]; omega
  · show (if p = p then _ else _ : Nd).below = _
    rw [if_pos rfl]
  · refine Linked.congr (fun q hq => ?_) hok.link
    show (if q = p then _ else _ : Nd).below = _
    rw [if_neg (fun c => hnf (by rw [← c]; exact hq))]
  · intro q hq hn _
    have c : q ≠ p := fun c => hn (by rw [c]; exact List.mem_cons_self ..)
    show (if q = p then _ else _ : Nd).taken = true
    rw [if_neg c]
    exact hok.taken q hq (fun z => hn (List.mem_cons_of_mem _ z)) (by simp)
  · intro q hq
    show (if q = p then _ else _ : Nd).taken = false
    by_cases c : q = p
    · rw [if_pos c]
    · rw [if_neg c]
      exact hok.free q ((List.mem_cons.1 hq).resolve_left c)
set_option maxRecDepth 100000 in
theorem Free_calls (h : At w b v s) (hok : OKx s none) (p : Nat) (hp : p < s.ever) (ht : (s.nd p).taken = true) :
    Calls Try.prog 80 #[.pointer (some ⟨b, 0, none⟩), .agg #[.int .i32 p, .int .u32 (s.nd p).turn]] w fun e w' => e = .returned (.int .i64 0) ∧ At w' b v (s.freed p) ∧ Kept (owns b v s) w w' := by
  obtain ⟨hf, hf2⟩ := h.fits hp
  obtain ⟨_, hl⟩ := hok.freed hp ht
  have hml : s.live < 70000 := by
    have h1 := h.c3
    have h2 := h.e1
    have h3 := hok.count
    simp at h3
    omega
  have H := Lib.hid h
  clear h hok
  go_enter Try.func80, Try.ntmps80
  go_upto_region 1 with fail
  have HB := Lib.hid (Blk.new w #[.int .i32 p, .int .u32 (s.nd p).turn] 82)
  have H1 := Lib.hid (H.out.calm (Kept.alloc (Kept.refl _ _) (.cells #[.int .i32 p, .int .u32 (s.nd p).turn] 82)))
  have K1 : Hid (Calm w _) := Lib.hid (Kept.alloc (Kept.refl _ _) (.cells #[.int .i32 p, .int .u32 (s.nd p).turn] 82))
  generalize w.alloc (.cells #[.int .i32 p, .int .u32 (s.nd p).turn] 82) = w1 at HB H1 K1 ⊢
  generalize hB : w.heap.size = B at HB ⊢
  have k0 := HB.out.cell 0
  have k1 := HB.out.cell 1
  simp at k0 k1
  go_upto_region 6 with (go_at_call 62; refine (find_calls H1.out p hp ht).mono ?_; rintro e w3 ⟨rfl, hc3⟩)
  have H4 := Lib.hid (H1.out.calm hc3)
  have HB4 := Lib.hid (HB.out.calm hc3)
  have K4 := Lib.hid (K1.out.trans hc3)
  have hB1 : ¬ owns b v s B := fun q => by have := H.out.lt q; omega
  clear H1 HB K1 k0 k1 hc3
  have nbk : b ≠ s.blk p := fun q => H4.out.gne (by rw [q]; exact H4.out.hasBlk hf)
  have nBk : B ≠ s.blk p := fun q => hB1 (.inr (.inr (by rw [q]; exact H4.out.hasBlk hf)))
  have nBb : B ≠ b := fun q => hB1 (.inl q)
  have nbk' := Ne.symm nbk
  have nBk' := Ne.symm nBk
  have nBb' := Ne.symm nBb
  have hz := fun o => H4.out.nofz hf o
  have hz2 := fun o => H4.out.head.frozen o
  have m0 := H4.out.node hf 0 (by decide)
  rw [show (nodeV (s.nd p))[0]? = some (.int .u64 (s.nd p).val) from rfl, Nat.add_zero] at m0
  have m2 := H4.out.node hf (1 + 1) (by decide)
  have m3 := H4.out.node hf (1 + 2) (by decide)
  have e2 : (nodeV (s.nd p))[1 + 1]? = some (.bool (s.nd p).taken) := rfl
  have e3 : (nodeV (s.nd p))[1 + 2]? = some (.int .i32 (s.nd p).below) := rfl
  rw [e2] at m2
  rw [e3] at m3
  clear e2 e3 ht
  have k4 := H4.out.c_4
  have k5 := H4.out.c_5
  have k0 := HB4.out.cell 0
  simp at k0
  go_wp2_with fail
  go_ret
  refine ⟨rfl, ?_, ?_⟩
  · have T1 := H4.out.setVal hf zeroV
    have T2 := T1.setNode (p := p) hf (1 + 1) (by decide) (.bool false) { (s.nd p) with val := zeroV, taken := false } (by rw [St.put_nd]; rfl)
    rw [St.put_put] at T2
    have T3 := T2.setNode (p := p) hf (1 + 2) (by decide) (.int .i32 (topOf s.free)) ⟨zeroV, (s.nd p).turn, false, topOf s.free⟩ (by rw [St.put_nd]; rfl)
    rw [St.put_put] at T3
    have T4 := (T3.setTop (p :: s.free)).setLive (s.live - 1)
    have ew : (((s.live - 1 : Nat)) : Int) = (s.live : Int) - 1 := by omega
    rw [ew] at T4
    exact T4
  · have hgw : s.blk p < w.heap.size → owns b v s (s.blk p) := fun _ => .inr (.inr (H4.out.hasBlk hf))
    have hbw : b < w.heap.size → owns b v s b := fun _ => .inl rfl
    exact Kept.setCell (p := ⟨b, 4, none⟩) (Kept.setCell (p := ⟨b, 5, none⟩) (Kept.setCell (p := ⟨s.blk p, p % s.chunk * (1 + 3) + (1 + 2), none⟩) (Kept.setCell (p := ⟨s.blk p, p % s.chunk * (1 + 3) + (1 + 1), none⟩) (storeV_kept (o := p % s.chunk * (1 + 3)) (x := zeroV) (K4.out.mono (fun _ _ q => q.elim)) hgw) hgw _) hgw _) hbw _) hbw _
def St.new (m c : Nat) : St := ⟨m, c, [], fun _ => nd0, 0, 0, []⟩
set_option maxRecDepth 100000 in
theorem New_calls (w : World) (m c : Nat) (h1 : 1 ≤ c) (h2 : c ≤ m) (h3 : m ≤ 65536) :
    Calls Try.prog 30 #[.int .i64 m, .int .i64 c] w fun e w' => ∃ b, e = .returned (.tuple #[.pointer (some ⟨b, 0, none⟩), .int .i64 0]) ∧ At w' b (.slice none 0 0) (St.new m c) ∧ Calm w w' ∧ w.heap.size ≤ b := by
  have d1 : decide ((m : Int) < 1) = false := decide_eq_false (by omega)
  have d2 : decide ((m : Int) > 65536) = false := decide_eq_false (by omega)
  have d3 : decide ((c : Int) < 1) = false := decide_eq_false (by omega)
  have d4 : decide (m < c) = false := decide_eq_false (by omega)
  go_enter Try.func30, Try.ntmps30
  go_wp2_with fail
  go_ret2
  refine ⟨w.heap.size, rfl, ?_, Kept.alloc (Kept.refl _ _) _, Nat.le_refl _⟩
  exact { head := Blk.new _ _ _, row := World.ownsRow_nil _ _ _ _, rne := (fun g q => by cases q), parts := (fun i hi => absurd hi (Nat.not_lt_zero _)), gne := List.not_mem_nil, nodup := List.nodup_nil, c1 := h1, c2 := h2, c3 := h3, e1 := Nat.zero_le _, e2 := Nat.zero_le _, e3 := by show 0 * c < 0 + c; omega }
end

/-! A slab as its user has it: places with what they have, M; each one's turn. -/
structure Has (w : World) (b : Nat) (F : Nat → Prop) (m : Nat) (M : List (Int × V)) (τ : Int → Int) : Prop where
  ex : ∃ v s, At w b v s ∧ OKx s none ∧ (∀ k, owns b v s k → F k) ∧ s.most = m ∧ (∀ (p : Nat) x, ((p : Int), x) ∈ M ↔ p < s.ever ∧ (s.nd p).taken = true ∧ (s.nd p).val = x) ∧ M.length = s.live ∧ ∀ p : Nat, p < s.ever → (s.nd p).turn = τ p
  pos : ∀ q x, (q, x) ∈ M → 0 ≤ q ∧ q < m
  nd : (M.map Prod.fst).Nodup
/-- F, and what was new behind w. -/
def Grown (F : Nat → Prop) (w : World) (k : Nat) : Prop := F k ∨ w.heap.size ≤ k
section
variable {w : World} {b m : Nat} {F : Nat → Prop} {M : List (Int × V)} {τ : Int → Int}
theorem Has.kept {G : Nat → Prop} {w' : World} (h : Has w b F m M τ) (hk : Kept G w w') (hF : ∀ k, F k → ¬ G k) : Has w' b F m M τ := by
  obtain ⟨v, s, ha, ho, hf, rest⟩ := h.ex
  exact { h with ex := ⟨v, s, ha.kept hk (fun k q => hF k (hf k q)), ho, hf, rest⟩ }
theorem Has.calm {w' : World} (h : Has w b F m M τ) (hk : Calm w w') : Has w' b F m M τ := h.kept hk (fun _ _ q => q)
theorem Has.mono {G : Nat → Prop} (h : Has w b F m M τ) (hF : ∀ k, F k → G k) : Has w b G m M τ := by
  obtain ⟨v, s, ha, ho, hf, rest⟩ := h.ex
  exact { h with ex := ⟨v, s, ha, ho, fun k q => hF k (hf k q), rest⟩ }
theorem Has.trim (h : Has w b F m M τ) : Has w b (fun k => F k ∧ k < w.heap.size) m M τ := by
  obtain ⟨v, s, ha, ho, hf, rest⟩ := h.ex
  exact { h with ex := ⟨v, s, ha, ho, fun k q => ⟨hf k q, ha.lt q⟩, rest⟩ }
theorem Has.few (h : Has w b F m M τ) : M.length ≤ m ∧ m ≤ 65536 := by
  obtain ⟨v, s, ha, ho, hf, hm, _, hl, _⟩ := h.ex
  have := ho.count
  have h1 := ha.e1
  have h2 := ha.c3
  simp at this
  omega
theorem New_has (w : World) (m c : Nat) (h1 : 1 ≤ c) (h2 : c ≤ m) (h3 : m ≤ 65536) :
    Calls Try.prog 30 #[.int .i64 m, .int .i64 c] w fun e w' => ∃ b, e = .returned (.tuple #[.pointer (some ⟨b, 0, none⟩), .int .i64 0]) ∧ Has w' b (fun k => w.heap.size ≤ k) m [] (fun _ => 0) ∧ Calm w w' := by
  refine (New_calls w m c h1 h2 h3).mono ?_
  rintro e w' ⟨b, he, ha, hc, hb⟩
  refine ⟨b, he, { ex := ⟨_, _, ha, ?_, ?_, rfl, ?_, rfl, ?_⟩, pos := (fun q x z => by cases z), nd := List.nodup_nil }, hc⟩
  · exact { count := rfl, fnd := List.nodup_nil, ffree := (fun p q => by cases q), link := trivial, xlt := (fun p q => by cases q), taken := (fun p q => absurd q (Nat.not_lt_zero _)), free := (fun p q => by cases q) }
  · rintro k (q | q | q)
    · rw [q]; exact hb
    · cases q
    · cases q
  · intro p x
    exact ⟨fun q => (by cases q), fun q => absurd q.1 (Nat.not_lt_zero _)⟩
  · exact fun p q => absurd q (Nat.not_lt_zero _)
theorem Alloc_has (h : Has w b F m M τ) (hm : M.length < m) (x : V) :
    Calls Try.prog 36 #[.pointer (some ⟨b, 0, none⟩), argV x] w fun e w' => ∃ p t : Int, e = .returned (.tuple #[.agg #[.int .i32 p, .int .u32 t], .int .i64 0]) ∧ (∀ y, (p, y) ∉ M) ∧
      Has w' b (Grown F w) m ((p, x) :: M) (fun q => if q = p then t else τ q) ∧ Kept F w w' := by
  obtain ⟨v, s, ha, ho, hf, hms, hM, hl, ht⟩ := h.ex
  refine (Alloc_calls ha ho (by omega) x).mono ?_
  rintro e w' ⟨p, t, v', s', he, hd⟩
  have hno : ∀ y, ((p : Int), y) ∉ M := by
    intro y q
    obtain ⟨q1, q2, _⟩ := (hM p y).1 q
    have := hd.was q1
    rw [q2] at this; cases this
  refine ⟨p, t, he, hno, { ex := ⟨v', s', hd.tab, hd.ok, fun k q => (hd.owns' k q).imp (hf k) id, hd.most.trans hms, ?_, ?_, ?_⟩, pos := ?_, nd := ?_ }, hd.kept.mono (fun k _ q => hf k q)⟩
  · intro q y
    by_cases c : q = p
    · subst c
      rw [List.mem_cons]
      constructor
      · rintro (z | z)
        · injection z with _ z
          exact ⟨hd.plt, hd.taken, hd.val.trans z.symm⟩
        · exact absurd z (hno y)
      · rintro ⟨_, _, z⟩
        exact .inl (by rw [← z, hd.val])
    · rw [List.mem_cons, hM]
      constructor
      · rintro (z | ⟨z1, z2⟩)
        · injection z with z _
          exact absurd (Int.ofNat.inj z) c
        · rw [hd.same q z1 c]
          exact ⟨Nat.lt_of_lt_of_le z1 hd.ever, z2⟩
      · rintro ⟨z1, z2⟩
        have z3 := hd.more q z1 c
        rw [hd.same q z3 c] at z2
        exact .inr ⟨z3, z2⟩
  · rw [List.length_cons, hl, hd.live]
  · intro q hq
    by_cases c : q = p
    · rw [c, if_pos rfl, hd.turn]
    · have z3 := hd.more q hq c
      rw [hd.same q z3 c, if_neg (by omega)]
      exact ht q z3
  · intro q y z
    rcases List.mem_cons.1 z with z | z
    · injection z with z _
      have h1 := hd.plt
      have h2 := hd.tab.e1
      have h3 := hd.most
      omega
    · exact h.pos q y z
  · rw [List.map_cons, List.nodup_cons]
    refine ⟨?_, h.nd⟩
    intro z
    obtain ⟨⟨a, y⟩, hy, e⟩ := List.mem_map.1 z
    have e : a = p := e
    subst e
    exact hno y hy
theorem Has.of_mem (h : Has w b F m M τ) {p : Int} {x : V} (hp : (p, x) ∈ M) : ∃ v s, At w b v s ∧ OKx s none ∧ p.toNat < s.ever ∧ (s.nd p.toNat).taken = true ∧ (s.nd p.toNat).val = x ∧ (s.nd p.toNat).turn = τ p ∧ ((p.toNat : Nat) : Int) = p := by
  obtain ⟨v, s, ha, ho, hf, hms, hM, hl, ht⟩ := h.ex
  obtain ⟨h0, h1⟩ := h.pos p x hp
  have e : ((p.toNat : Nat) : Int) = p := Int.toNat_of_nonneg h0
  rw [← e] at hp
  obtain ⟨z1, z2, z3⟩ := (hM _ x).1 hp
  exact ⟨v, s, ha, ho, z1, z2, z3, by rw [ht _ z1, e], e⟩
theorem At_has (h : Has w b F m M τ) {p : Int} {x : V} (hp : (p, x) ∈ M) :
    Calls Try.prog 33 #[.pointer (some ⟨b, 0, none⟩), .int .i32 p] w fun e w' => e = .returned (.tuple #[.agg #[.int .i32 p, .int .u32 (τ p)], .bool true]) ∧ Calm w w' := by
  obtain ⟨v, s, ha, ho, h1, h2, h3, h4, e⟩ := h.of_mem hp
  have := At_calls ha p.toNat h1 h2
  rw [e, h4] at this
  exact this
theorem Get_has (h : Has w b F m M τ) {p : Int} {x : V} (hp : (p, x) ∈ M) :
    Calls Try.prog 34 #[.pointer (some ⟨b, 0, none⟩), .agg #[.int .i32 p, .int .u32 (τ p)]] w fun e w' => e = .returned (.tuple #[argV x, .int .i64 0]) ∧ Calm w w' := by
  obtain ⟨v, s, ha, ho, h1, h2, h3, h4, e⟩ := h.of_mem hp
  have := Get_calls ha p.toNat h1 h2
  rw [e, h4, h3] at this
  exact this
theorem Len_has (h : Has w b F m M τ) :
    Calls Try.prog 53 #[.pointer (some ⟨b, 0, none⟩)] w fun e w' => e = .returned (.int .i64 M.length) ∧ w' = w := by
  obtain ⟨v, s, ha, ho, hf, hms, hM, hl, ht⟩ := h.ex
  rw [hl]
  exact Len_calls ha
theorem Free_has (h : Has w b F m M τ) {p : Int} {x : V} (hp : (p, x) ∈ M) :
    Calls Try.prog 80 #[.pointer (some ⟨b, 0, none⟩), .agg #[.int .i32 p, .int .u32 (τ p)]] w fun e w' => e = .returned (.int .i64 0) ∧ Has w' b F m (Assoc.del M p) τ ∧ Kept F w w' := by
  obtain ⟨v, s, ha, ho, hf, hms, hM, hl, ht⟩ := h.ex
  obtain ⟨h0, h1⟩ := h.pos p x hp
  have e : ((p.toNat : Nat) : Int) = p := Int.toNat_of_nonneg h0
  have hp' := hp
  rw [← e] at hp'
  obtain ⟨z1, z2, z3⟩ := (hM _ x).1 hp'
  have hc := Free_calls ha ho p.toNat z1 z2
  rw [e, ht _ z1, e] at hc
  refine hc.mono ?_
  rintro e' w' ⟨he, ha', hk⟩
  obtain ⟨hok, hl0⟩ := ho.freed z1 z2
  refine ⟨he, { ex := ⟨v, s.freed p.toNat, ha', hok, hf, hms, ?_, ?_, ?_⟩, pos := fun q y z => h.pos q y (Assoc.mem_del.1 z).1, nd := Assoc.nd_del h.nd p }, hk.mono (fun k _ q => hf k q)⟩
  · intro q y
    rw [Assoc.mem_del, hM]
    show _ ↔ q < s.ever ∧ (if q = p.toNat then _ else s.nd q : Nd).taken = true ∧ (if q = p.toNat then _ else s.nd q : Nd).val = y
    by_cases c : q = p.toNat
    · rw [if_pos c]
      refine ⟨fun z => absurd (show (q : Int) = p by rw [c, e]) z.2, fun z => by cases z.2.1⟩
    · rw [if_neg c]
      exact ⟨fun z => z.1, fun z => ⟨z, fun z => c (by omega)⟩⟩
  · have h2 := Assoc.len_del h.nd hp
    show (Assoc.del M p).length = s.live - 1
    omega
  · intro q hq
    show (if q = p.toNat then _ else s.nd q : Nd).turn = τ q
    by_cases c : q = p.toNat
    · rw [if_pos c, c]
      exact ht _ z1
    · rw [if_neg c]
      exact ht q hq
end
end SlabU
end Go.Proofs.Ytekbgpfpnjddgaa
