/- The sizer: toward, All, and the value of All as an iterator. -/
import Derived.Test.YthjgjfelbagljaaSizerA
import Derived.Test.YthjgjfelbagljaaIterB
import Derived.Sort.CutIn
import Derived.Shelf.Abstract
namespace Go.Proofs.Ythjgjfelbagljaa
open Go.RowKit Go.Shelf Go.Proofs.YthjgjfelbagljaaW.PrintWords Go.Proofs.YthjgjfelbagljaaW.PrintLast Go.Proofs.YthjgjfelbagljaaW.PrintMore Go.Proofs.Ythjgjfelbagljaa.PSizerSteps
attribute [local go_sem] Oper.semAt_some
namespace Siz
section
attribute [local go_sem] min2_int min_two
set_option maxRecDepth 100000 in
theorem toward_calls (w : World) (a b n : Int) (ha : 0 ≤ a ∧ a ≤ 512) (hb : 0 ≤ b ∧ b ≤ 512) (hn : 1 ≤ n ∧ n ≤ 9223372036854775807) :
    Calls Try.prog 41 #[.int .i64 a, .int .i64 b, .int .i64 n] w fun e w' => e = .returned (.int .i64 (toward a b n)) ∧ w = w' := by
  unfold toward
  by_cases h : a < b
  · rw [if_pos h]
    have w1 : IntKind.i64.wrap (b - a) = b - a := by rw [IntKind.wrap_i64]; omega
    by_cases h2 : b - a < n
    · have e1 : min n (b - a) = b - a := by omega
      have w2 : IntKind.i64.wrap (a + (b - a)) = a + (b - a) := by rw [IntKind.wrap_i64]; omega
      rw [e1]
      go_enter Try.func41, Try.ntmps41
      go_wp2_with fail
      go_ret
      exact ⟨rfl, rfl⟩
    · have e1 : min n (b - a) = n := by omega
      have w2 : IntKind.i64.wrap (a + n) = a + n := by rw [IntKind.wrap_i64]; omega
      rw [e1]
      go_enter Try.func41, Try.ntmps41
      go_wp2_with fail
      go_ret
      exact ⟨rfl, rfl⟩
  · rw [if_neg h]
    have w1 : IntKind.i64.wrap (a - b) = a - b := by rw [IntKind.wrap_i64]; omega
    by_cases h2 : a - b < n
    · have e1 : min n (a - b) = a - b := by omega
      have w2 : IntKind.i64.wrap (a - (a - b)) = a - (a - b) := by rw [IntKind.wrap_i64]; omega
      rw [e1]
      go_enter Try.func41, Try.ntmps41
      go_wp2_with fail
      go_ret
      exact ⟨rfl, rfl⟩
    · have e1 : min n (a - b) = n := by omega
      have w2 : IntKind.i64.wrap (a - n) = a - n := by rw [IntKind.wrap_i64]; omega
      rw [e1]
      go_enter Try.func41, Try.ntmps41
      go_wp2_with fail
      go_ret
      exact ⟨rfl, rfl⟩
end
set_option maxRecDepth 100000 in
theorem All_calls (w : World) (c t : Cfg) (n : Int) :
    Calls Try.prog 10 #[.agg (cells c), .agg (cells t), .int .i64 n] w fun e w' =>
      e = .returned (.func (.func 40) #[] #[.pointer (some ⟨w.heap.size, 0, none⟩), .pointer (some ⟨w.heap.size + 1, 0, none⟩), .pointer (some ⟨w.heap.size + 2, 0, none⟩)]) ∧
      w' = ((w.alloc (.cells (cells c) 24)).alloc (.cells (cells t) 24)).alloc (.cells #[.int .i64 n] 3) := by
  unfold cells
  go_enter Try.func10, Try.ntmps10
  go_wp2_with fail
  go_ret
  exact ⟨rfl, rfl⟩
instance : DecidableEq Cfg := fun c d => decidable_of_iff (c.f0 = d.f0 ∧ c.f1 = d.f1 ∧ c.f2 = d.f2 ∧ c.f3 = d.f3) ⟨fun h => Cfg.ext h.1 h.2.1 h.2.2.1 h.2.2.2, fun h => by subst h; exact ⟨rfl, rfl, rfl, rfl⟩⟩
theorem Cells {w : World} {b : Nat} {c : Cfg} (h : Blk w b (cells c)) : w.cell? ⟨b, 0, none⟩ = some (.int .i64 c.f0) ∧ w.cell? ⟨b, 1, none⟩ = some (.int .i64 c.f1) ∧ w.cell? ⟨b, 2, none⟩ = some (.int .i64 c.f2) ∧ w.cell? ⟨b, 3, none⟩ = some (.int .i64 c.f3) :=
  ⟨(h.cell 0).trans rfl, (h.cell 1).trans rfl, (h.cell 2).trans rfl, (h.cell 3).trans rfl⟩
theorem Cell1 {w : World} {b : Nat} {v : Value} (h : Blk w b #[v]) : w.cell? ⟨b, 0, none⟩ = some v := (h.cell 0).trans rfl
/-- The numbered steps. -/
def way (c t : Cfg) (n : Int) : List (Int × Cfg) := if wrong c t n = 0 then (List.range (many c t n)).map (fun i : Nat => ((i : Int) + 1, st t n c (i + 1))) else []
theorem way_right {c t : Cfg} {n : Int} (h : wrong c t n = 0) : way c t n = (List.range (many c t n)).map (fun i : Nat => ((i : Int) + 1, st t n c (i + 1))) := if_pos h
theorem way_wrong {c t : Cfg} {n : Int} (h : wrong c t n ≠ 0) : way c t n = [] := if_neg h
theorem way_take {c t : Cfg} {n : Int} (h : wrong c t n = 0) {k : Nat} (hk : k < many c t n) : (way c t n).take k ++ [((k : Int) + 1, st t n c (k + 1))] = (way c t n).take (k + 1) := by
  rw [way_right h, List.take_succ_eq_append_getElem (by simpa using hk)]
  simp
theorem right_may {c t : Cfg} {n : Int} (h : wrong c t n = 0) : May c t ∧ 1 ≤ n := by
  unfold wrong at h
  by_cases hm : May c t
  · rw [if_pos hm] at h
    by_cases h1 : n < 1
    · rw [if_pos h1] at h; cases h
    · exact ⟨hm, by omega⟩
  · rw [if_neg hm] at h; cases h
/-- What a round keeps. -/
def Keeps (p2 p3 : Nat) (A B : World) : Prop := Go.Proofs.Ythjgjfelbagljaa.Kept (fun k => ¬ (k = p2 ∨ k = p3)) A B
theorem neq_cond {c t : Cfg} : (!(c.f0 == t.f0) || (!(c.f1 == t.f1) || (!(c.f2 == t.f2) || (!(c.f3 == t.f3))))) = !decide (c = t) := by
  by_cases h : c = t
  · subst h; simp
  · rw [decide_eq_false h]
    by_cases e0 : c.f0 = t.f0 <;> by_cases e1 : c.f1 = t.f1 <;> by_cases e2 : c.f2 = t.f2 <;> by_cases e3 : c.f3 = t.f3 <;> simp [e0, e1, e2, e3]
    exact h (Cfg.ext e0 e1 e2 e3)
theorem cfg_neq {c t : Cfg} (h : c ≠ t) (W : World) : Sem.run Try.prog (binOp BinOp.neq 24 (.agg #[.int .i64 c.f0, .int .i64 c.f1, .int .i64 c.f2, .int .i64 c.f3]) (.agg #[.int .i64 t.f0, .int .i64 t.f1, .int .i64 t.f2, .int .i64 t.f3])) W = .ok (.bool true) W := by
  go_simp
  exact fun e0 e1 e2 e3 => h (Cfg.ext e0 e1 e2 e3)
set_option maxRecDepth 100000 in
set_option maxHeartbeats 4000000 in
theorem All1_iter (m : Nat) (hm : 1 ≤ m) (p1 p2 p3 : Nat) (c t : Cfg) (n : Int) (hn : n ≤ 9223372036854775807) (Bs : List Nat) (w : World) (hb1 : Blk w p1 (cells c)) (hb2 : Blk w p2 (cells t)) (hb3 : Blk w p3 #[.int .i64 n]) :
    Iter Fence.wide m Try.prog 40 #[.pointer (some ⟨p1, 0, none⟩), .pointer (some ⟨p2, 0, none⟩), .pointer (some ⟨p3, 0, none⟩)] (fun x : Int × Cfg => #[.int .i64 x.1, .agg (cells x.2)]) (Keeps p2 p3) (fun ys => ys = way c t n) (fun pre => pre <+: way c t n) (way c t n).length Bs w := by
  intro l J Jx W hW hBs hsn hJ hJx hY h0
  have hc0 : Calm w W := Kept.of_below hW _
  have B1 := hb1.calm hc0
  have B2 := hb2.calm hc0
  have B3 := hb3.calm hc0
  have HY := Lib.hid hY
  have HJ := Lib.hid hJ
  have HJx := Lib.hid hJx
  have HSn := Lib.hid hsn
  have HBs := Lib.hid hBs
  clear hY hJ hJx hsn hBs
  have HW := Lib.hid (sizer_wrong.calls 4 c.f0 c.f1 c.f2 c.f3 t.f0 t.f1 t.f2 t.f3 n _ W (wrong_f c t n))
  obtain ⟨a0, a1, a2, a3⟩ := Cells B1
  obtain ⟨c0, c1, c2, c3⟩ := Cells B2
  have d0 := Cell1 B3
  refine callsIn_of_wp Try.func40 rfl trivial ?_ rfl
  simp only [Try.ntmps40, List.size_toArray, List.length_cons, List.length_nil, Nat.reduceAdd, Nat.reduceSub, Array.replicate_succ, Array.replicate_zero, List.push_toArray, List.append_toArray, List.nil_append, List.cons_append]
  by_cases hw : wrong c t n = 0
  · have hq : (wrong c t n != 0) = false := by simpa using hw
    obtain ⟨hmay, hn1⟩ := right_may hw
    have HR := Lib.hid hw
    clear hw
    gi_wp2_with fail
    refine ⟨trivial, (callsIn_wide.2 HW.out).mono ?_⟩
    rintro e w1 ⟨rfl, hb⟩
    have hc1 : Calm W w1 := Kept.of_below hb _
    have B1' := B1.calm hc1
    have B2' := B2.calm hc1
    have B3' := B3.calm hc1
    have hp2 := B2.lt
    have hp3 := B3.lt
    have hJ1 : J [] w1 := HJ.out _ _ _ h0 (mine_of_below hb (Nat.le_refl _))
    have hs1 : W.heap.size ≤ w1.heap.size := hb.size
    clear a0 a1 a2 a3 c0 c1 c2 c3 d0
    obtain ⟨a0, a1, a2, a3⟩ := Cells B1'
    gi_upto_region 2 with fail
    have B5 : Blk (w1.alloc (.cells #[.int .i64 c.f0, .int .i64 c.f1, .int .i64 c.f2, .int .i64 c.f3] 24)) w1.heap.size (cells c) := Blk.new w1 _ _
    have hm1 : Mine Bs W.heap.size w1 (w1.alloc (.cells #[.int .i64 c.f0, .int .i64 c.f1, .int .i64 c.f2, .int .i64 c.f3] 24)) := Mine.alloc _ _ _ _
    have hc2 : Calm w1 (w1.alloc (.cells #[.int .i64 c.f0, .int .i64 c.f1, .int .i64 c.f2, .int .i64 c.f3] 24)) := (Kept.refl _ _).alloc _
    have hno : ¬ Own Bs (w1.alloc (.cells #[.int .i64 c.f0, .int .i64 c.f1, .int .i64 c.f2, .int .i64 c.f3] 24)) w1.heap.size := by
      rintro ⟨⟨B, hbb, o, u, hc, hu⟩, _⟩
      have hBW := HBs.out B hbb
      rw [World.cell?_alloc_lt _ _ _ (by have := hb.size; show B < _; omega), hb.cell (p := ⟨B, o, none⟩) hBW] at hc
      have := HSn.out B hbb o u _ hc hu
      omega
    have hp5 : W.heap.size ≤ w1.heap.size := hs1
    generalize w1.heap.size = p5 at *
    generalize w1.alloc (.cells #[.int .i64 c.f0, .int .i64 c.f1, .int .i64 c.f2, .int .i64 c.f3] 24) = w2 at B5 hm1 hc2 hno ⊢
    have B2a := B2'.calm hc2
    have B3a := B3'.calm hc2
    have hJ2 : J [] w2 := HJ.out _ _ _ hJ1 hm1
    have hs2 : W.heap.size ≤ w2.heap.size := by have := B5.lt; omega
    clear a0 a1 a2 a3 B1' B2' B3' hc1 hc2 hm1 hJ1
    have HN := Lib.hid hno
    have HJ2 := Lib.hid hJ2
    clear hno hJ2
    gi_upto_region 3 with fail
    gi_loopw [6] (fun v wr => ∃ k : Nat, k ≤ many c t n ∧ v = .int .i64 ((k : Int) + 1) ∧ Blk wr p5 (cells (st t n c k)) ∧ Blk wr p2 (cells t) ∧ Blk wr p3 #[.int .i64 n] ∧ ¬ Own Bs wr p5 ∧ J ((way c t n).take k) wr ∧ W.heap.size ≤ wr.heap.size)
      (fun v _ => many c t n + 1 - (intOf v).toNat)
    case atStart => exact ⟨0, Nat.zero_le _, rfl, B5, B2a, B3a, HN.out, HJ2.out, hs2⟩
    case round =>
      obtain ⟨k, hk, rfl, C5, C2, C3, hown, hJk, hsr⟩ := hrel
      by_cases hlt : k < many c t n
      · have hok := Ok.st hn1 hmay.1 hmay.2.1 k
        have hokt := hmay.2.1
        have hne : st t n c k ≠ t := fun e => (st_same hn1 hmay.2.2 k).1 e hlt
        have hnx : next t n (st t n c k) = st t n c (k + 1) := rfl
        have hq2 := cfg_neq hne
        have HT := Lib.hid (way_take HR.out hlt)
        have HP := Lib.hid (show (way c t n).take k ++ [((k : Int) + 1, st t n c (k + 1))] <+: way c t n by rw [way_take HR.out hlt]; exact List.take_prefix _ _)
        have HLn := Lib.hid (show ((way c t n).take k).length < (way c t n).length by rw [way_right HR.out]; simp; omega)
        rw [← hnx] at HT HP
        have hnx' : Hid (next t n (st t n c k) = st t n c (k + 1)) := Lib.hid hnx
        generalize hxk : st t n c k = x at *
        have Hxk := Lib.hid hxk
        clear hxk hnx hne
        obtain ⟨a0, a1, a2, a3⟩ := Cells C5
        obtain ⟨c0, c1, c2, c3⟩ := Cells C2
        have d0 := Cell1 C3
        gi_upto_region 5 with fail
        have D1 : Blk wr.drew p5 (cells x) := C5.drew
        obtain ⟨_, s1, s2, s3⟩ := Cells D1
        obtain ⟨_, s4, s5, s6⟩ := Cells (show Blk wr.drew p2 (cells t) from C2.drew)
        have s7 := Cell1 (show Blk wr.drew p3 #[.int .i64 n] from C3.drew)
        have ha1 : 0 ≤ x.f1 ∧ x.f1 ≤ 512 := by obtain ⟨o0, o1, o2, o3⟩ := hok; omega
        have ha2 : 0 ≤ x.f2 ∧ x.f2 ≤ 512 := by obtain ⟨o0, o1, o2, o3⟩ := hok; omega
        have ha3 : 0 ≤ x.f3 ∧ x.f3 ≤ 512 := by obtain ⟨o0, o1, o2, o3⟩ := hok; omega
        have hb1 : 0 ≤ t.f1 ∧ t.f1 ≤ 512 := by obtain ⟨o0, o1, o2, o3⟩ := hokt; omega
        have hb2 : 0 ≤ t.f2 ∧ t.f2 ≤ 512 := by obtain ⟨o0, o1, o2, o3⟩ := hokt; omega
        have hb3 : 0 ≤ t.f3 ∧ t.f3 ≤ 512 := by obtain ⟨o0, o1, o2, o3⟩ := hokt; omega
        have hn : 1 ≤ n ∧ n ≤ 9223372036854775807 := ⟨hn1, hn⟩
        clear a0 a1 a2 a3 c0 c1 c2 c3 d0
        have hmz : Mine Bs W.heap.size wr wr.drew := ⟨rfl, rfl, rfl, Nat.le_refl _, fun _ _ _ => rfl⟩
        have hJz : J ((way c t n).take k) wr.drew := HJ.out _ _ _ hJk hmz
        have hoz : ¬ Own Bs wr.drew p5 := hown
        have E2 : Blk wr.drew p2 (cells t) := C2.drew
        have E3 : Blk wr.drew p3 #[.int .i64 n] := C3.drew
        have hsz : W.heap.size ≤ wr.drew.heap.size := hsr
        have HHown := Lib.hid hoz
        have HJz := Lib.hid hJz
        clear hJz hoz hmz hown hJk C5 C2 C3 hsr
        refine wpIn_wide.2 ?_
        refine start_ (n := 24) (S := fun w' => w'.cell? ⟨p5, 1, none⟩ = some (.int .i64 x.f1) ∧ w'.cell? ⟨p5, 2, none⟩ = some (.int .i64 x.f2) ∧ w'.cell? ⟨p5, 3, none⟩ = some (.int .i64 x.f3) ∧ w'.cell? ⟨p2, 1, none⟩ = some (.int .i64 t.f1) ∧ w'.cell? ⟨p2, 2, none⟩ = some (.int .i64 t.f2) ∧ w'.cell? ⟨p2, 3, none⟩ = some (.int .i64 t.f3) ∧ w'.cell? ⟨p3, 0, none⟩ = some (.int .i64 n)) (ds := [19, 21, 23]) #[false, false, false, false, false, false, false, false, false, false, false, false, false, false, false, false, false, false, false, false, false, false, false, false] (by kernel_rfl) rfl rfl ⟨s1, s2, s3, s4, s5, s6, s7⟩ (fun hHeld => ?_)
        generalize wr.drew = wz at D1 s1 s2 s3 s4 s5 s6 s7 hHeld HJz HHown E2 E3 hsz ⊢
        have y1 := fun o => D1.frozen o
        refine pure_ (i := 0) (N := some 18) (v := ?_) (a' := ?_) #[true, false, false, false, false, false, false, false, false, false, false, false, false, false, false, false, false, false, false, false, false, false, false, false] rfl rfl (by kernel_rfl) (fun _ _ _ h => h) (Or.inl ⟨by rfl, ?_⟩) ?_ ?_
        rotate_left
        · intro w'; go_simp; with_reducible rfl
        rotate_left
        · simp only [Act.put, List.setIfInBounds_toArray, List.set_cons_zero, List.set_cons_succ, i64_w, i32_w]; rfl
        refine pure_ (i := 2) (N := some 20) (v := ?_) (a' := ?_) #[true, false, true, false, false, false, false, false, false, false, false, false, false, false, false, false, false, false, false, false, false, false, false, false] rfl rfl (by kernel_rfl) (fun _ _ _ h => h) (Or.inl ⟨by rfl, ?_⟩) ?_ ?_
        rotate_left
        · intro w'; go_simp; with_reducible rfl
        rotate_left
        · simp only [Act.put, List.setIfInBounds_toArray, List.set_cons_zero, List.set_cons_succ, i64_w, i32_w]; rfl
        refine pure_ (i := 6) (N := some 24) (v := ?_) (a' := ?_) #[true, false, true, false, false, false, true, false, false, false, false, false, false, false, false, false, false, false, false, false, false, false, false, false] rfl rfl (by kernel_rfl) (fun _ _ _ h => h) (Or.inl ⟨by rfl, ?_⟩) ?_ ?_
        rotate_left
        · intro w'; go_simp; with_reducible rfl
        rotate_left
        · simp only [Act.put, List.setIfInBounds_toArray, List.set_cons_zero, List.set_cons_succ, i64_w, i32_w]; rfl
        refine pure_ (i := 8) (N := some 26) (v := ?_) (a' := ?_) #[true, false, true, false, false, false, true, false, true, false, false, false, false, false, false, false, false, false, false, false, false, false, false, false] rfl rfl (by kernel_rfl) (fun _ _ _ h => h) (Or.inl ⟨by rfl, ?_⟩) ?_ ?_
        rotate_left
        · intro w'; go_simp; with_reducible rfl
        rotate_left
        · simp only [Act.put, List.setIfInBounds_toArray, List.set_cons_zero, List.set_cons_succ, i64_w, i32_w]; rfl
        refine pure_ (i := 12) (N := some 30) (v := ?_) (a' := ?_) #[true, false, true, false, false, false, true, false, true, false, false, false, true, false, false, false, false, false, false, false, false, false, false, false] rfl rfl (by kernel_rfl) (fun _ _ _ h => h) (Or.inl ⟨by rfl, ?_⟩) ?_ ?_
        rotate_left
        · intro w'; go_simp; with_reducible rfl
        rotate_left
        · simp only [Act.put, List.setIfInBounds_toArray, List.set_cons_zero, List.set_cons_succ, i64_w, i32_w]; rfl
        refine pure_ (i := 14) (N := some 32) (v := ?_) (a' := ?_) #[true, false, true, false, false, false, true, false, true, false, false, false, true, false, true, false, false, false, false, false, false, false, false, false] rfl rfl (by kernel_rfl) (fun _ _ _ h => h) (Or.inl ⟨by rfl, ?_⟩) ?_ ?_
        rotate_left
        · intro w'; go_simp; with_reducible rfl
        rotate_left
        · simp only [Act.put, List.setIfInBounds_toArray, List.set_cons_zero, List.set_cons_succ, i64_w, i32_w]; rfl
        refine take_ (i := 1) (N := some 19) (v := ?_) (a' := ?_) #[true, true, true, false, false, false, true, false, true, false, false, false, true, false, true, false, false, false, false, false, false, false, false, false] rfl rfl (by kernel_rfl) (fun _ _ _ h => h) (Or.inl ⟨by rfl, ?_⟩) hHeld ?_ ?_
        rotate_left
        · rintro w' ⟨s1, s2, s3, s4, s5, s6, s7⟩; go_simp; with_reducible rfl
        rotate_left
        · simp only [Act.put, List.setIfInBounds_toArray, List.set_cons_zero, List.set_cons_succ, i64_w, i32_w]; rfl
        refine take_ (i := 3) (N := some 21) (v := ?_) (a' := ?_) #[true, true, true, true, false, false, true, false, true, false, false, false, true, false, true, false, false, false, false, false, false, false, false, false] rfl rfl (by kernel_rfl) (fun _ _ _ h => h) (Or.inl ⟨by rfl, ?_⟩) hHeld ?_ ?_
        rotate_left
        · rintro w' ⟨s1, s2, s3, s4, s5, s6, s7⟩; go_simp; with_reducible rfl
        rotate_left
        · simp only [Act.put, List.setIfInBounds_toArray, List.set_cons_zero, List.set_cons_succ, i64_w, i32_w]; rfl
        refine take_ (i := 4) (N := some 22) (v := ?_) (a' := ?_) #[true, true, true, true, true, false, true, false, true, false, false, false, true, false, true, false, false, false, false, false, false, false, false, false] rfl rfl (by kernel_rfl) (fun _ _ _ h => h) (Or.inl ⟨by rfl, ?_⟩) hHeld ?_ ?_
        rotate_left
        · rintro w' ⟨s1, s2, s3, s4, s5, s6, s7⟩; go_simp; with_reducible rfl
        rotate_left
        · simp only [Act.put, List.setIfInBounds_toArray, List.set_cons_zero, List.set_cons_succ, i64_w, i32_w]; rfl
        refine take_ (i := 7) (N := some 25) (v := ?_) (a' := ?_) #[true, true, true, true, true, false, true, true, true, false, false, false, true, false, true, false, false, false, false, false, false, false, false, false] rfl rfl (by kernel_rfl) (fun _ _ _ h => h) (Or.inl ⟨by rfl, ?_⟩) hHeld ?_ ?_
        rotate_left
        · rintro w' ⟨s1, s2, s3, s4, s5, s6, s7⟩; go_simp; with_reducible rfl
        rotate_left
        · simp only [Act.put, List.setIfInBounds_toArray, List.set_cons_zero, List.set_cons_succ, i64_w, i32_w]; rfl
        refine take_ (i := 9) (N := some 27) (v := ?_) (a' := ?_) #[true, true, true, true, true, false, true, true, true, true, false, false, true, false, true, false, false, false, false, false, false, false, false, false] rfl rfl (by kernel_rfl) (fun _ _ _ h => h) (Or.inl ⟨by rfl, ?_⟩) hHeld ?_ ?_
        rotate_left
        · rintro w' ⟨s1, s2, s3, s4, s5, s6, s7⟩; go_simp; with_reducible rfl
        rotate_left
        · simp only [Act.put, List.setIfInBounds_toArray, List.set_cons_zero, List.set_cons_succ, i64_w, i32_w]; rfl
        refine take_ (i := 10) (N := some 28) (v := ?_) (a' := ?_) #[true, true, true, true, true, false, true, true, true, true, true, false, true, false, true, false, false, false, false, false, false, false, false, false] rfl rfl (by kernel_rfl) (fun _ _ _ h => h) (Or.inl ⟨by rfl, ?_⟩) hHeld ?_ ?_
        rotate_left
        · rintro w' ⟨s1, s2, s3, s4, s5, s6, s7⟩; go_simp; with_reducible rfl
        rotate_left
        · simp only [Act.put, List.setIfInBounds_toArray, List.set_cons_zero, List.set_cons_succ, i64_w, i32_w]; rfl
        refine take_ (i := 13) (N := some 31) (v := ?_) (a' := ?_) #[true, true, true, true, true, false, true, true, true, true, true, false, true, true, true, false, false, false, false, false, false, false, false, false] rfl rfl (by kernel_rfl) (fun _ _ _ h => h) (Or.inl ⟨by rfl, ?_⟩) hHeld ?_ ?_
        rotate_left
        · rintro w' ⟨s1, s2, s3, s4, s5, s6, s7⟩; go_simp; with_reducible rfl
        rotate_left
        · simp only [Act.put, List.setIfInBounds_toArray, List.set_cons_zero, List.set_cons_succ, i64_w, i32_w]; rfl
        refine take_ (i := 15) (N := some 33) (v := ?_) (a' := ?_) #[true, true, true, true, true, false, true, true, true, true, true, false, true, true, true, true, false, false, false, false, false, false, false, false] rfl rfl (by kernel_rfl) (fun _ _ _ h => h) (Or.inl ⟨by rfl, ?_⟩) hHeld ?_ ?_
        rotate_left
        · rintro w' ⟨s1, s2, s3, s4, s5, s6, s7⟩; go_simp; with_reducible rfl
        rotate_left
        · simp only [Act.put, List.setIfInBounds_toArray, List.set_cons_zero, List.set_cons_succ, i64_w, i32_w]; rfl
        refine take_ (i := 16) (N := some 34) (v := ?_) (a' := ?_) #[true, true, true, true, true, false, true, true, true, true, true, false, true, true, true, true, true, false, false, false, false, false, false, false] rfl rfl (by kernel_rfl) (fun _ _ _ h => h) (Or.inl ⟨by rfl, ?_⟩) hHeld ?_ ?_
        rotate_left
        · rintro w' ⟨s1, s2, s3, s4, s5, s6, s7⟩; go_simp; with_reducible rfl
        rotate_left
        · simp only [Act.put, List.setIfInBounds_toArray, List.set_cons_zero, List.set_cons_succ, i64_w, i32_w]; rfl
        refine one_ (i := 5) (N := some 23) #[true, true, true, true, true, true, true, true, true, true, true, false, true, true, true, true, true, false, false, false, false, false, false, false] rfl rfl (by kernel_rfl) (by decide) (fun K hK => ?_)
        refine goes_ Try.func41 (by kernel_rfl) rfl #[.int .i64 x.f1, .int .i64 t.f1, .int .i64 n] (by rfl) rfl rfl (by simp only [List.map_toArray, List.map_cons, List.map_nil]; rfl) ?_
        refine (toward_calls _ x.f1 t.f1 n ha1 hb1 hn).mono ?_
        rintro e w' ⟨rfl, rfl⟩
        refine ⟨_, rfl, ?_⟩
        refine hK.out _ _ hHeld (fun _ => ?_)
        refine norm_ (a' := ?_) ?_ ?_
        rotate_left
        · simp only [Act.put, List.setIfInBounds_toArray, List.set_cons_zero, List.set_cons_succ, i64_w, i32_w]; rfl
        refine pure_ (i := 18) (N := some 36) (v := ?_) (a' := ?_) #[true, true, true, true, true, true, true, true, true, true, true, false, true, true, true, true, true, false, true, false, false, false, false, false] rfl rfl (by kernel_rfl) (fun _ _ _ h => h) (Or.inl ⟨by rfl, ?_⟩) ?_ ?_
        rotate_left
        · intro w'; go_simp; with_reducible rfl
        rotate_left
        · simp only [Act.put, List.setIfInBounds_toArray, List.set_cons_zero, List.set_cons_succ, i64_w, i32_w]; rfl
        refine one_ (i := 11) (N := some 29) #[true, true, true, true, true, true, true, true, true, true, true, true, true, true, true, true, true, false, true, false, false, false, false, false] rfl rfl (by kernel_rfl) (by decide) (fun K hK => ?_)
        refine goes_ Try.func41 (by kernel_rfl) rfl #[.int .i64 x.f2, .int .i64 t.f2, .int .i64 n] (by rfl) rfl rfl (by simp only [List.map_toArray, List.map_cons, List.map_nil]; rfl) ?_
        refine (toward_calls _ x.f2 t.f2 n ha2 hb2 hn).mono ?_
        rintro e w' ⟨rfl, rfl⟩
        refine ⟨_, rfl, ?_⟩
        refine hK.out _ _ hHeld (fun _ => ?_)
        refine norm_ (a' := ?_) ?_ ?_
        rotate_left
        · simp only [Act.put, List.setIfInBounds_toArray, List.set_cons_zero, List.set_cons_succ, i64_w, i32_w]; rfl
        refine one_ (i := 17) (N := some 35) #[true, true, true, true, true, true, true, true, true, true, true, true, true, true, true, true, true, true, true, false, false, false, false, false] rfl rfl (by kernel_rfl) (by decide) (fun K hK => ?_)
        refine goes_ Try.func41 (by kernel_rfl) rfl #[.int .i64 x.f3, .int .i64 t.f3, .int .i64 n] (by rfl) rfl rfl (by simp only [List.map_toArray, List.map_cons, List.map_nil]; rfl) ?_
        refine (toward_calls _ x.f3 t.f3 n ha3 hb3 hn).mono ?_
        rintro e w' ⟨rfl, rfl⟩
        refine ⟨_, rfl, ?_⟩
        refine hK.out _ _ hHeld (fun _ => ?_)
        refine norm_ (a' := ?_) ?_ ?_
        rotate_left
        · simp only [Act.put, List.setIfInBounds_toArray, List.set_cons_zero, List.set_cons_succ, i64_w, i32_w]; rfl
        refine last_ (i := 19) (N := none) #[true, true, true, true, true, true, true, true, true, true, true, true, true, true, true, true, true, true, true, true, false, false, false, false] rfl rfl (by kernel_rfl) (by decide) (fun K hK => ?_)
        refine skip_ (w1 := ?_) (by rfl) rfl ?_ ?_
        rotate_left
        · go_simp
          rfl
        refine hK.out _ _ ?_
        have D2 := D1.set 1 (.int .i64 (toward x.f1 t.f1 n))
        refine pure_ (i := 20) (N := some 37) (v := ?_) (a' := ?_) #[true, true, true, true, true, true, true, true, true, true, true, true, true, true, true, true, true, true, true, true, true, false, false, false] rfl rfl (by kernel_rfl) (fun _ _ _ h => h) (Or.inl ⟨by rfl, ?_⟩) ?_ ?_
        rotate_left
        · intro w'; go_simp; with_reducible rfl
        rotate_left
        · simp only [Act.put, List.setIfInBounds_toArray, List.set_cons_zero, List.set_cons_succ, i64_w, i32_w]; rfl
        refine last_ (i := 21) (N := none) #[true, true, true, true, true, true, true, true, true, true, true, true, true, true, true, true, true, true, true, true, true, true, false, false] rfl rfl (by kernel_rfl) (by decide) (fun K hK => ?_)
        refine skip_ (w1 := ?_) (by rfl) rfl ?_ ?_
        rotate_left
        · go_simp
          rfl
        refine hK.out _ _ ?_
        have D3 := D2.set 2 (.int .i64 (toward x.f2 t.f2 n))
        refine pure_ (i := 22) (N := some 38) (v := ?_) (a' := ?_) #[true, true, true, true, true, true, true, true, true, true, true, true, true, true, true, true, true, true, true, true, true, true, true, false] rfl rfl (by kernel_rfl) (fun _ _ _ h => h) (Or.inl ⟨by rfl, ?_⟩) ?_ ?_
        rotate_left
        · intro w'; go_simp; with_reducible rfl
        rotate_left
        · simp only [Act.put, List.setIfInBounds_toArray, List.set_cons_zero, List.set_cons_succ, i64_w, i32_w]; rfl
        refine last_ (i := 23) (N := none) #[true, true, true, true, true, true, true, true, true, true, true, true, true, true, true, true, true, true, true, true, true, true, true, true] rfl rfl (by kernel_rfl) (by decide) (fun K hK => ?_)
        refine skip_ (w1 := ?_) (by rfl) rfl ?_ ?_
        rotate_left
        · go_simp
          rfl
        refine hK.out _ _ ?_
        have D4 := D3.set 3 (.int .i64 (toward x.f3 t.f3 n))
        refine done_ (by kernel_rfl) ?_
        have E5 : Blk (((wz.setCell ⟨p5, 1, none⟩ (.int .i64 (toward x.f1 t.f1 n))).setCell ⟨p5, 2, none⟩ (.int .i64 (toward x.f2 t.f2 n))).setCell ⟨p5, 3, none⟩ (.int .i64 (toward x.f3 t.f3 n))) p5 (cells (next t n x)) := D4
        have hoth : ∀ k, k ≠ p5 → (((wz.setCell ⟨p5, 1, none⟩ (.int .i64 (toward x.f1 t.f1 n))).setCell ⟨p5, 2, none⟩ (.int .i64 (toward x.f2 t.f2 n))).setCell ⟨p5, 3, none⟩ (.int .i64 (toward x.f3 t.f3 n))).heap[k]? = wz.heap[k]? := fun k hk => by
          rw [Below.heap_setCell _ _ _ _ hk, Below.heap_setCell _ _ _ _ hk, Below.heap_setCell _ _ _ _ hk]
        have hmw : Mine Bs W.heap.size wz (((wz.setCell ⟨p5, 1, none⟩ (.int .i64 (toward x.f1 t.f1 n))).setCell ⟨p5, 2, none⟩ (.int .i64 (toward x.f2 t.f2 n))).setCell ⟨p5, 3, none⟩ (.int .i64 (toward x.f3 t.f3 n))) :=
          ⟨rfl, rfl, rfl, by simp, fun k hk hc => hoth k (fun e => by
            subst e
            rcases hc with hc | hc
            · omega
            · exact HHown.out hc)⟩
        have hsw : W.heap.size ≤ (((wz.setCell ⟨p5, 1, none⟩ (.int .i64 (toward x.f1 t.f1 n))).setCell ⟨p5, 2, none⟩ (.int .i64 (toward x.f2 t.f2 n))).setCell ⟨p5, 3, none⟩ (.int .i64 (toward x.f3 t.f3 n))).heap.size := by simpa using hsz
        generalize ((wz.setCell ⟨p5, 1, none⟩ (.int .i64 (toward x.f1 t.f1 n))).setCell ⟨p5, 2, none⟩ (.int .i64 (toward x.f2 t.f2 n))).setCell ⟨p5, 3, none⟩ (.int .i64 (toward x.f3 t.f3 n)) = w6 at E5 hoth hmw hsw ⊢
        have hJ6 : J ((way c t n).take k) w6 := HJ.out _ _ _ HJz.out hmw
        have ho6 : ¬ Own Bs w6 p5 := by
          rintro ⟨⟨B, hbb, o, u, hc, hu⟩, _⟩
          refine HHown.out ⟨⟨B, hbb, o, u, ?_, hu⟩, ?_⟩
          · rw [← World.cell?_of_block (w := wz) (w' := w6) (a := ⟨B, o, none⟩) (hoth B (by have := HBs.out B hbb; omega))]; exact hc
          · obtain ⟨t1, h1⟩ := D1
            exact ⟨_, h1, rfl⟩
        have F2 : Blk w6 p2 (cells t) := E2.of_eq (hoth p2 (by omega))
        have F3 : Blk w6 p3 #[.int .i64 n] := E3.of_eq (hoth p3 (by omega))
        obtain ⟨fn, tmps, assign, body, hy, hYr⟩ := HY.out ((way c t n).take k) ((k : Int) + 1, next t n x) w6 hJ6 HLn.out hsw HP.out
        have HYr := Lib.hid hYr
        have HO6 := Lib.hid ho6
        have HF2 := Lib.hid F2
        have HF3 := Lib.hid F3
        have HE5 := Lib.hid E5
        clear hYr ho6 F2 F3 hJ6 hmw hoth D1 D2 D3 D4 E2 E3 s1 s2 s3 s4 s5 s6 s7 hHeld y1 HJz HHown hsz
        obtain ⟨g0, g1, g2, g3⟩ := Cells E5
        clear E5
        simp only [Exit.then]
        have hw1 : IntKind.i64.wrap ((k : Int) + 1 + 1) = (k : Int) + 1 + 1 := by rw [IntKind.wrap_i64]; have := many_le hn1 hmay.1 hmay.2.1; omega
        clear hn1 ha1 ha2 ha3 hb1 hb2 hb3 hok hokt
        simp only [cells] at hy
        gi_wp2_with fail
        refine HYr.out.mono ?_
        rintro e W7 (⟨rfl, hJ', hy', hkp⟩ | ⟨rfl, hJx', hy'⟩)
        · have G5 : Blk W7 p5 (cells (next t n x)) := HE5.out.of_eq (hy'.kept p5 hp5 HE5.out.lt HO6.out)
          have G2 : Blk W7 p2 (cells t) := HF2.out.kept hkp (fun h => h (.inl rfl))
          have G3 : Blk W7 p3 #[.int .i64 n] := HF3.out.kept hkp (fun h => h (.inr rfl))
          have ho7 : ¬ Own Bs W7 p5 := fun h => by
            rcases hy'.own p5 h with h | h | h
            · exact HO6.out h
            · have := HE5.out.lt; omega
            · omega
          have HG5 := Lib.hid G5
          have HG2 := Lib.hid G2
          have HG3 := Lib.hid G3
          have HO7 := Lib.hid ho7
          have HJ' := Lib.hid hJ'
          have HS7 := Lib.hid (Nat.le_trans hsw hy'.size)
          clear G5 G2 G3 ho7 hJ' hy' hkp
          gi_wp2_with fail
          refine ⟨⟨k + 1, by omega, by rw [Int.natCast_add]; rfl, ?_, HG2.out, HG3.out, HO7.out, by rw [← HT.out]; exact HJ'.out, HS7.out⟩, ?_⟩
          · have := HG5.out
            rw [← Hxk.out] at this
            exact this
          · simp [intOf]
            omega
        · have HJx' := Lib.hid hJx'
          clear hJx' hy'
          gi_wp2_with fail
          refine bodyPost_ret (results_none rfl _ _ _) rfl ?_
          exact ⟨⟨_, rfl⟩, .inr ⟨_, HP.out, HJx'.out⟩⟩
      · have e : st t n c k = t := (st_same hn1 hmay.2.2 k).2 hlt
        rw [e] at C5
        obtain rfl : k = many c t n := by omega
        have hall : (way c t n).take (many c t n) = way c t n := List.take_of_length_le (by rw [way_right HR.out]; simp)
        rw [hall] at hJk
        have HJk := Lib.hid hJk
        clear hJk hall e hlt
        obtain ⟨a0, a1, a2, a3⟩ := Cells C5
        obtain ⟨c0, c1, c2, c3⟩ := Cells C2
        gi_wp2_with fail
        go_end0
        exact ⟨⟨_, rfl⟩, .inl ⟨_, rfl, HJk.out⟩⟩
  · have hq : (wrong c t n != 0) = true := by simpa using hw
    have hw' := way_wrong hw
    have HV := Lib.hid hw'
    clear hw hw'
    gi_wp2_with (refine ⟨trivial, ?_⟩; gi_at_call 39; refine (callsIn_wide.2 HW.out).mono ?_; rintro e w1 ⟨rfl, hb⟩)
    refine bodyPost_ret (results_none rfl _ _ _) rfl ?_
    exact ⟨⟨_, rfl⟩, .inl ⟨_, rfl, by rw [HV.out]; exact HJ.out _ _ _ h0 (mine_of_below hb (Nat.le_refl _))⟩⟩
end Siz
end Go.Proofs.Ythjgjfelbagljaa
