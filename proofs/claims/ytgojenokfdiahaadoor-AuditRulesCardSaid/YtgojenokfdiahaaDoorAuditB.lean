/- The walk of the law AuditRules. -/
import Derived.Test.YtgojenokfdiahaaDoorAuditA
import Derived.Shelf.Abstract
namespace Go.Proofs.YtgojenokfdiahaaDoor
open Go.RowKit Go.Shelf
attribute [local go_sem] Oper.semAt_some
section
variable {F : Fence} {n : Nat} {P : Program}
theorem rangeFunc_two {α : Type} (T : Array Value → α → Array Value) {g : Operand} {ps : Array Tmp} {assign body : Code} {Q : Exit → Act → World → Prop} {a : Act} {w : World}
    (hro : F.round = none) (h1 : 1 ≤ n) {gf : Nat} {lb : Array Value} (hg : a.eval g = .func (.func gf) #[] lb) (hFg : F.fn gf) (eg : ∀ args w, (callFunc gf args).run P w = .ok (.enter gf args) w)
    {encs : α → Array Value} {Kp : World → World → Prop} {S Sp : List α → Prop} {N : Nat} {Bs : List Nat} {w0 : World} (hseq : Iter F (n - 1) P gf lb encs Kp S Sp N Bs w0)
    (hKt : ∀ {A B C : World}, Kp A B → Kp B C → Kp A C) (hKb : ∀ (W : World) (l : Nat) (o o' : Obj), w.heap.size ≤ l → W.heap[l]? = some o → o.isCells = false → o'.isCells = false → Kp W (W.putObj l o'))
    (hb0 : Below w0.heap.size w0 w) (hBs : ∀ B ∈ Bs, B < w.heap.size) (hsn : Snug Bs w) (hps : ∀ x, (encs x).size = ps.size)
    (I : List α → World → Prop) (Ix : Code → List α → World → Prop) (hI : Abiding Bs w.heap.size I) (hIx : ∀ c, Abiding Bs w.heap.size (Ix c)) (h0 : I [] w)
    (hassign : ∀ (l : Nat) (pre : List α) (x : α) (W : World) (K : Act → World → Prop), I pre W → w.heap.size ≤ W.heap.size → (∀ a' W', Yours Bs w.heap.size W W' → Kp W W' → I pre W' → a' = ({ tmps := T a.tmps x, defers := [] } : Act) → K a' W') →
      assign.wpIn (F.inRound l) (n - 1 - 1) P (Exit.then K (fun _ _ _ => False)) { tmps := (ps.zip (encs x)).foldl (fun t (p, v) => t.setIfInBounds p v) a.tmps, defers := [] } W)
    (hbody : ∀ (l : Nat) (pre : List α) (x : α) (W : World), w.heap.size ≤ l → (∃ r, W.heap[l]? = some (.loop r)) → I pre W → pre.length < N → Sp (pre ++ [x]) → body.wpIn (F.inRound l) (n - 1 - 1) P (iterPost Bs w.heap.size Kp I Ix (pre ++ [x]) W) { tmps := T a.tmps x, defers := [] } W)
    (hdone : ∀ (D : Nat) (xs : List α) (W : World), w.heap.size ≤ D → S xs → I xs W → W.heap[D]? = some (.deferred (some [])) → Q .normal { a with defers := { target := .collected D, args := #[] } :: a.defers } W)
    (hstop : ∀ (D : Nat) (c : Code) (pre : List α) (W : World), w.heap.size ≤ D → Sp pre → Ix c pre W → W.heap[D]? = some (.deferred (some [])) → c.wpIn F n P Q { a with defers := { target := .collected D, args := #[] } :: a.defers } W) :
    (Code.rangeFunc g ps assign body).wpIn F n P Q a w :=
  rangeFunc_law hro h1 hg hFg eg hseq hKt hKb hb0 hBs hsn hps I Ix hI hIx h0 (fun x a' _ => a' = ({ tmps := T a.tmps x, defers := [] } : Act))
    (fun _ _ _ _ _ h _ => h) hassign (fun l pre x _ W h1 h2 h3 e h5 h6 => e ▸ hbody l pre x W h1 h2 h3 h5 h6) hdone hstop
end
namespace Aud
theorem results_flag {P : Program} {fn : Func} {p : Tmp} {ty : TypeId} (h : fn.results = #[.cell p ty]) (tmps : Array Value) (w : World) (g : Nat) (v : Value)
    (hp : tmps.getD p undef = .pointer (some ⟨g, 0, none⟩)) (hc : w.cell? ⟨g, 0, none⟩ = some v) (ha : (isAgg ty).run P w = .ok false w) :
    (results fn tmps).run P w = .ok v w := by
  have hp' : tmps[p]?.getD undef = .pointer (some ⟨g, 0, none⟩) := by simpa using hp
  simp [results, h, hp', asAddr, go_sem, ha, hc]
theorem bool_flat (W : World) : (isAgg 4).run Tryd.prog W = .ok false W := by kernel_rfl
theorem seq2_eq_nil (f : Fn) (a cs : Array Value) (W : World) : Sem.run Tryd.prog (binOp BinOp.eql 23 (.func f a cs) .nilFunc) W = .ok (.bool false) W := by kernel_rfl
theorem Cell1 {w : World} {b : Nat} {v : Value} (h : Blk w b #[v]) : w.cell? ⟨b, 0, none⟩ = some v := (h.cell 0).trans rfl
def nine : List Int := [1, 2, 3, 4, 5, 6, 7, 8, 9]
theorem nine_get : ∀ k : Nat, k < 9 → nine[k]? = some ((k : Int) + 1) := by decide
theorem nine_take : ∀ k : Nat, k < 9 → nine.take k ++ [(k : Int) + 1] = nine.take (k + 1) := by decide
theorem nine_at {pre : List Int} {x : Int} (h : pre ++ [x] <+: nine) : pre.length < 9 ∧ x = (pre.length : Int) + 1 := by
  obtain ⟨t, ht⟩ := h
  have hl := congrArg List.length ht
  simp [nine] at hl
  have hk : pre.length < 9 := by omega
  have hx : nine[pre.length]? = some x := by rw [← ht]; simp
  rw [nine_get _ hk] at hx
  injection hx with hx
  exact ⟨hk, hx.symm⟩
theorem NameI_calls (x : Int) (h1 : 1 ≤ x) (h9 : x ≤ 9) (w : World) (hM : MaxAt w) : Calls Tryd.prog 8 #[.int .i64 x] w fun e w' => e = .returned (.string (rule x.toNat)) ∧ Below w.heap.size w w' := by
  obtain ⟨n, rfl⟩ : ∃ n : Nat, x = (n : Int) := ⟨x.toNat, by omega⟩
  rw [Int.toNat_natCast]
  exact Name_calls n (by omega) (by omega) w hM
theorem RefNameI_calls (x : Int) (h1 : 1 ≤ x) (h9 : x ≤ 9) (w : World) : Calls Tryd.prog 5 #[.int .i64 x] w fun e w' => e = .returned (.string (rule x.toNat)) ∧ Below w.heap.size w w' := by
  obtain ⟨n, rfl⟩ : ∃ n : Nat, x = (n : Int) := ⟨x.toNat, by omega⟩
  rw [Int.toNat_natCast]
  exact RefName_calls n (by omega) (by omega) w
theorem Rules_calls (w : World) : Calls Tryd.prog 4 #[] w fun e w' => e = .returned (.func (.func 7) #[] #[]) ∧ w' = w := by
  go_enter Tryd.func4, Tryd.ntmps4
  go_wp2_with fail
  go_ret
  exact ⟨rfl, rfl⟩
set_option maxRecDepth 100000 in
set_option maxHeartbeats 4000000 in
theorem Rules_iter (m : Nat) (hm : 1 ≤ m) (Bs : List Nat) (w : World) (hM : MaxAt w) :
    Iter Fence.wide m Tryd.prog 7 #[] (fun x : Int => #[.int .i64 x, .string (rule x.toNat)]) (fun A B => MaxAt A → MaxAt B) (fun ys => ys = nine) (fun pre => pre <+: nine) 9 Bs w := by
  intro l J Jx W hW hBs hsn hJ hJx hY h0
  have M0 : MaxAt W := hM.below hW
  have HY := Lib.hid hY
  have HJ := Lib.hid hJ
  have H0 := Lib.hid h0
  have HM0 := Lib.hid M0
  clear hY hJ hJx hsn hBs h0 hM M0
  refine callsIn_of_wp Tryd.func7 rfl trivial ?_ rfl
  simp only [Tryd.ntmps7, List.size_toArray, List.length_cons, List.length_nil, Nat.reduceAdd, Nat.reduceSub, Array.replicate_succ, Array.replicate_zero, List.push_toArray, List.append_toArray, List.nil_append, List.cons_append]
  gi_upto_region 1 with fail
  gi_loopw [2] (fun v wr => ∃ k : Nat, k ≤ 9 ∧ v = .int .i64 ((k : Int) + 1) ∧ Hid (MaxAt wr) ∧ Hid (J (nine.take k) wr) ∧ W.heap.size ≤ wr.heap.size)
    (fun v _ => 10 - (intOf v).toNat)
  case atStart => exact ⟨0, Nat.zero_le _, rfl, HM0, H0, Nat.le_refl _⟩
  case round =>
    obtain ⟨k, hk, rfl, HMr, HJr, hsr⟩ := hrel
    by_cases hlt : k < 9
    · have hc1 : (k : Int) + 1 ≤ 9 := by omega
      have HN := Lib.hid (NameI_calls ((k : Int) + 1) (by omega) (by omega) wr HMr.out)
      gi_wp2_with fail
      refine ⟨trivial, (callsIn_wide.2 HN.out).mono ?_⟩
      rintro e w1 ⟨rfl, hb⟩
      have M1 := Lib.hid (HMr.out.below hb)
      have hJ1 : J (nine.take k) w1 := HJ.out _ _ _ HJr.out ((mine_of_below hb (Nat.le_refl _)).mono hsr)
      have hs1 : W.heap.size ≤ w1.heap.size := Nat.le_trans hsr hb.size
      have HP := Lib.hid (show nine.take k ++ [(k : Int) + 1] <+: nine by rw [nine_take k hlt]; exact List.take_prefix _ _)
      obtain ⟨fn, tmps, assign, body, hy, hYr⟩ := HY.out (nine.take k) ((k : Int) + 1) w1 hJ1 (by rw [List.length_take]; omega) hs1 HP.out
      simp only [show ((k : Int) + 1).toNat = k + 1 by omega] at hy
      have HYr := Lib.hid hYr
      have HS1 := Lib.hid hs1
      clear hYr hJ1 hb HMr HJr hsr hs1
      gi_wp2_with fail
      refine HYr.out.mono ?_
      rintro e W7 (⟨rfl, hJ', hy', hkp⟩ | ⟨rfl, hJx', hy'⟩)
      · have M7 := Lib.hid (hkp M1.out)
        have HJ' := Lib.hid (show J (nine.take (k + 1)) W7 by rw [← nine_take k hlt]; exact hJ')
        have HS7 := Lib.hid (Nat.le_trans HS1.out hy'.size)
        have hw1 : IntKind.i64.wrap ((k : Int) + 1 + 1) = (k : Int) + 1 + 1 := by rw [IntKind.wrap_i64]; omega
        clear hJ' hy' hkp
        gi_wp2_with fail
        refine ⟨⟨k + 1, by omega, by rw [Int.natCast_add]; rfl, M7, HJ', HS7.out⟩, ?_⟩
        simp [intOf]
        omega
      · have HJx' := Lib.hid hJx'
        clear hJx' hy'
        gi_wp2_with fail
        refine bodyPost_ret (results_none rfl _ _ _) rfl ?_
        exact ⟨⟨_, rfl⟩, .inr ⟨_, HP.out, HJx'.out⟩⟩
    · obtain rfl : k = 9 := by omega
      have HJ9 := Lib.hid (show J nine wr from HJr.out)
      gi_wp2_with fail
      go_end0
      exact ⟨⟨_, rfl⟩, .inl ⟨_, rfl, HJ9.out⟩⟩
theorem u8_mod {m : Int} (h0 : 0 ≤ m) (h1 : m ≤ 255) : IntKind.i64.wrap m = m := by rw [IntKind.wrap_i64]; omega
set_option maxRecDepth 100000 in
set_option maxHeartbeats 4000000 in
theorem AuditRules_calls (w : World) (m : Int) (hm0 : 0 ≤ m) (hm1 : m ≤ 255) (hM : MaxAt w) :
    Calls Tryd.prog 3 #[.int .u8 m] w fun e w' => e = .returned (.bool true) ∧ Below w.heap.size w w' := by
  have HM0 := Lib.hid hM
  have hpos := hM.lt
  clear hM
  refine (callsIn_wide (n := 6)).1 ?_
  have hq0 := seq2_eq_nil
  refine callsIn_of_wp_marks Tryd.func3 rfl trivial ?_ rfl
  simp only [Tryd.ntmps3, List.size_toArray, List.length_cons, List.length_nil, Nat.reduceAdd, Nat.reduceSub, Array.replicate_succ, Array.replicate_zero, List.push_toArray, List.append_toArray, List.nil_append, List.cons_append]
  gi_upto_region 1 with fail
  have F1 : Blk ((w.alloc (.cells #[.int .u8 m] 5)).alloc (.cells #[.bool false] 4)) w.heap.size #[.int .u8 m] := (Blk.new w _ _).alloc _
  have F2 : Blk ((w.alloc (.cells #[.int .u8 m] 5)).alloc (.cells #[.bool false] 4)) (w.heap.size + 1) #[.bool false] := by
    have := Blk.new (w.alloc (.cells #[.int .u8 m] 5)) #[.bool false] 4
    rw [World.size_alloc] at this
    exact this
  have F5 : Calm w ((w.alloc (.cells #[.int .u8 m] 5)).alloc (.cells #[.bool false] 4)) := ((Kept.refl _ w).alloc _).alloc _
  have F6 : ((w.alloc (.cells #[.int .u8 m] 5)).alloc (.cells #[.bool false] 4)).heap.size = w.heap.size + 2 := by simp
  generalize (w.alloc (.cells #[.int .u8 m] 5)).alloc (.cells #[.bool false] 4) = w2 at F1 F2 F5 F6 ⊢
  generalize hN : w.heap.size = N at F1 F2 F6 hpos ⊢
  gi_upto_region 2 with (refine ⟨trivial, ?_⟩; gi_at_call 4; refine (callsIn_wide.2 (Rules_calls _)).mono ?_; rintro e w3 ⟨rfl, rfl⟩)
  gi_upto_region 5 with fail
  have G4 : Blk (w3.alloc (.cells #[.int .i64 0] 3)) (N + 2) #[.int .i64 0] := Blk.new' F6 _ _
  have k8 : Calm w3 (w3.alloc (.cells #[.int .i64 0] 3)) := (Kept.refl _ w3).alloc _
  have s8 : (w3.alloc (.cells #[.int .i64 0] 3)).heap.size = N + 3 := by rw [World.size_alloc, F6]
  generalize w3.alloc (.cells #[.int .i64 0] 3) = w8 at G4 k8 s8 ⊢
  have F1 := F1.calm k8
  have F2 := F2.calm k8
  have F5 := F5.trans k8
  have M8 := Lib.hid (HM0.out.kept F5 id)
  clear k8 F6
  gi_wp2_with fail
  refine rangeFunc_two (fun z x => (((z.setIfInBounds 11 (.int .i64 x)).setIfInBounds 12 (.string (rule x.toNat))).setIfInBounds 5 (.int .i64 x)).setIfInBounds 6 (.string (rule x.toNat)))
    rfl (by omega) (gf := 7) (lb := #[]) rfl trivial (enters_of Tryd.func7 (by kernel_rfl) rfl)
    (Rules_iter 5 (by omega) [] w8 M8.out) (fun h k z => k (h z)) ?kb (Below.refl _ _) (fun _ h => by cases h) (Snug.nil _) (fun _ => rfl)
    (fun pre A => ((pre.length : Int) ≤ m ∧ Blk A (N + 2) #[.int .i64 (pre.length : Int)]) ∧ Kept (fun k => k = N + 2) w8 A)
    (fun j pre A => (j = .exit 0 ∧ m < (pre.length : Int) ∧ m < 9 ∧ Blk A (N + 2) #[.int .i64 m]) ∧ Kept (fun k => k = N + 2) w8 A)
    ?abI ?abX ⟨⟨hm0, G4⟩, Kept.refl _ _⟩ ?assign ?body ?done ?stop
  case kb =>
    intro B l' o o' hl ho _ _ hMB
    exact hMB.kept (F := fun k => k = l') ⟨rfl, rfl, rfl, by simp, fun k hk hF => World.putObj_heap_other (fun e => hF (by omega))⟩ (by omega)
  case abI => exact fun s B B' h hm => ⟨⟨h.1.1, h.1.2.mine hm (by omega)⟩, abiding_kept (β := Unit) (Nat.le_refl _) () _ _ h.2 hm⟩
  case abX => exact fun j s B B' h hm => ⟨⟨h.1.1, h.1.2.1, h.1.2.2.1, h.1.2.2.2.mine hm (by omega)⟩, abiding_kept (β := Unit) (Nat.le_refl _) () _ _ h.2 hm⟩
  case assign =>
    intro l' pre x B K hI hs hK
    gi_wp2
    exact hK _ _ (Yours.refl _ _ _) id hI rfl
  case body =>
    rintro l' pre x B hl' hrec ⟨⟨hpm, hb12⟩, hkB⟩ hlt hpre
    obtain ⟨hk9, rfl⟩ := nine_at hpre
    have d12 := Cell1 hb12
    have d1 := Cell1 (F1.kept hkB (show ¬ N = N + 2 by omega))
    have hwm : IntKind.i64.wrap m = m := u8_mod hm0 hm1
    clear hrec hl'
    simp only [List.setIfInBounds_toArray, List.set_cons_zero, List.set_cons_succ]
    by_cases hfull : m ≤ (pre.length : Int)
    · obtain rfl : m = (pre.length : Int) := by omega
      gi_wp2_with fail
      exact ⟨Yours.refl _ _ _, ⟨rfl, by rw [List.length_append, List.length_singleton]; omega, by omega, hb12⟩, hkB⟩
    · have hroom : (pre.length : Int) < m := by omega
      have HR := Lib.hid (fun W => RefNameI_calls ((pre.length : Int) + 1) (by omega) (by omega) W)
      simp only [show ((pre.length : Int) + 1).toNat = pre.length + 1 by omega] at HR ⊢
      have f12 := fun o => hb12.frozen o
      have hwn : IntKind.i64.wrap ((pre.length : Int) + 1) = (pre.length : Int) + 1 := by rw [IntKind.wrap_i64]; omega
      have HBK := Lib.hid hb12
      have HKB := Lib.hid hkB
      have MB := Lib.hid (M8.out.kept hkB (show ¬ 0 = N + 2 by omega))
      have hszB : N + 3 ≤ B.heap.size := by rw [← s8]; exact hkB.size
      clear hb12 hkB hpre hlt hfull
      gi_upto_region 10 with fail
      have kst : Kept (fun k => k = N + 2) B (B.setCell ⟨N + 2, 0, none⟩ (.int .i64 ((pre.length : Int) + 1))) := (Kept.refl (fun k => k = N + 2) B).setCell (p := ⟨N + 2, 0, none⟩) (fun _ => rfl) _
      have bst : Blk (B.setCell ⟨N + 2, 0, none⟩ (.int .i64 ((pre.length : Int) + 1))) (N + 2) #[.int .i64 ((pre.length : Int) + 1)] := HBK.out.set 0 _
      generalize B.setCell ⟨N + 2, 0, none⟩ (.int .i64 ((pre.length : Int) + 1)) = B1 at kst bst ⊢
      have d12 := Cell1 bst
      have KST := Lib.hid kst
      have BST := Lib.hid bst
      clear kst bst f12
      gi_wp2_with (refine ⟨trivial, ?_⟩; gi_at_call 5; refine (CallsIn.inRound _ (callsIn_wide.2 (HR.out _))).mono ?_; rintro e B2 ⟨rfl, hbB⟩; have HB2 := Lib.hid hbB; clear hbB)
      have kk : Kept (fun k => k = N + 2) B B2 := KST.out.trans (Kept.of_below HB2.out _)
      refine ⟨Yours.of_kept kk (fun k hk _ h => by have : k = N + 2 := h; omega) (fun B hB => by cases hB), fun hMM => hMM.kept kk (by omega), ⟨?_, ?_⟩, HKB.out.trans kk⟩
      · simp
        omega
      · rw [show (((pre ++ [(pre.length : Int) + 1]).length : Nat) : Int) = (pre.length : Int) + 1 by simp]
        exact BST.out.kept (Kept.of_below HB2.out (fun _ => False)) id
  case done =>
    rintro D ys A hD rfl ⟨⟨hlm, hb12⟩, hkA⟩ hK
    have hlm : (9 : Int) ≤ m := hlm
    have hb12 : Blk A (N + 2) #[.int .i64 9] := hb12
    have hwm : IntKind.i64.wrap m = m := u8_mod hm0 hm1
    have hmin : min 9 m = 9 := by omega
    have E1 := F1.kept hkA (show ¬ N = N + 2 by omega)
    have E2 := F2.kept hkA (show ¬ N + 1 = N + 2 by omega)
    have d1 := Cell1 E1
    have d4 := Cell1 hb12
    have MA := Lib.hid (M8.out.kept hkA (show ¬ 0 = N + 2 by omega))
    have HA := Lib.hid (alive_calls A MA.out)
    have KW : Calm w A := F5.step hkA (fun k hk h => by have : k = N + 2 := h; omega)
    have hK2 : Hid (A.heap[D]? = some (.deferred (some []))) := Lib.hid hK
    have E2 := Lib.hid E2
    have KW := Lib.hid KW
    have hszA : N + 3 ≤ A.heap.size := by rw [← s8]; exact hkA.size
    clear hkA hK
    gi_wp2_with (refine ⟨trivial, ?_⟩; gi_at_call 6; refine (callsIn_wide.2 HA.out).mono ?_; rintro e x4 ⟨rfl, hx4⟩; have E4 := E2.out.calm (Kept.of_below hx4 _); have z8 := Cell1 E4; have y8 := fun o => E4.frozen o; have HX := Lib.hid hx4; clear hx4)
    have K4 : Calm A x4 := Kept.of_below HX.out _
    have hD5 : (x4.setCell ⟨N + 1, 0, none⟩ (.bool true)).heap[D]? = some (.deferred (some [])) := by
      rw [Below.heap_setCell _ _ _ _ (show D ≠ N + 1 by omega), K4.block D (Array.getElem?_eq_some_iff.1 hK2.out).1 (fun h => h)]
      exact hK2.out
    have hB5 : Below N w (x4.setCell ⟨N + 1, 0, none⟩ (.bool true)) := by
      have := ((KW.out.trans K4).below (fun _ _ h => h))
      rw [hN] at this
      exact this.setCell (p := ⟨N + 1, 0, none⟩) (by show N ≤ N + 1; omega) _
    refine ⟨by simp, .inl ⟨_, _, rfl, run_takeDeferred hD5, ?_⟩⟩
    refine ⟨_, results_flag rfl _ _ (N + 1) (.bool true) rfl ?_ (bool_flat _), rfl, by rw [hN]; exact hB5.trans (belowK_b (w := w) (Nat.le_of_eq hN.symm) _ D _ _ (by omega) hD5 rfl rfl)⟩
    rw [cell_putObj hD5 rfl rfl]
    exact Cell1 (E4.set 0 (.bool true))
  case stop =>
    rintro D c pre A hD hSp ⟨⟨rfl, _, hm9, hb12⟩, hkA⟩ hK
    have hwm : IntKind.i64.wrap m = m := u8_mod hm0 hm1
    have hmin : min 9 m = m := by omega
    have E1 := F1.kept hkA (show ¬ N = N + 2 by omega)
    have E2 := F2.kept hkA (show ¬ N + 1 = N + 2 by omega)
    have d1 := Cell1 E1
    have d4 := Cell1 hb12
    have MA := Lib.hid (M8.out.kept hkA (show ¬ 0 = N + 2 by omega))
    have HA := Lib.hid (alive_calls A MA.out)
    have KW : Calm w A := F5.step hkA (fun k hk h => by have : k = N + 2 := h; omega)
    have hK2 : Hid (A.heap[D]? = some (.deferred (some []))) := Lib.hid hK
    have E2 := Lib.hid E2
    have KW := Lib.hid KW
    have hszA : N + 3 ≤ A.heap.size := by rw [← s8]; exact hkA.size
    clear hkA hK
    gi_wp2_with (refine ⟨trivial, ?_⟩; gi_at_call 6; refine (callsIn_wide.2 HA.out).mono ?_; rintro e x4 ⟨rfl, hx4⟩; have E4 := E2.out.calm (Kept.of_below hx4 _); have z8 := Cell1 E4; have y8 := fun o => E4.frozen o; have HX := Lib.hid hx4; clear hx4)
    have K4 : Calm A x4 := Kept.of_below HX.out _
    have hD5 : (x4.setCell ⟨N + 1, 0, none⟩ (.bool true)).heap[D]? = some (.deferred (some [])) := by
      rw [Below.heap_setCell _ _ _ _ (show D ≠ N + 1 by omega), K4.block D (Array.getElem?_eq_some_iff.1 hK2.out).1 (fun h => h)]
      exact hK2.out
    have hB5 : Below N w (x4.setCell ⟨N + 1, 0, none⟩ (.bool true)) := by
      have := ((KW.out.trans K4).below (fun _ _ h => h))
      rw [hN] at this
      exact this.setCell (p := ⟨N + 1, 0, none⟩) (by show N ≤ N + 1; omega) _
    refine ⟨by simp, .inl ⟨_, _, rfl, run_takeDeferred hD5, ?_⟩⟩
    refine ⟨_, results_flag rfl _ _ (N + 1) (.bool true) rfl ?_ (bool_flat _), rfl, by rw [hN]; exact hB5.trans (belowK_b (w := w) (Nat.le_of_eq hN.symm) _ D _ _ (by omega) hD5 rfl rfl)⟩
    rw [cell_putObj hD5 rfl rfl]
    exact Cell1 (E4.set 0 (.bool true))
end Aud
end Go.Proofs.YtgojenokfdiahaaDoor
