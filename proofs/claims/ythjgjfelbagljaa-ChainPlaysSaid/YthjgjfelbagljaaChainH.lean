/- Walks over chain: All, Back. -/
import Derived.Test.YthjgjfelbagljaaChainG
namespace Go.Proofs.Ythjgjfelbagljaa
open Go.RowKit Go.Shelf
attribute [local go_sem] Oper.semAt_some
namespace Chain

set_option maxHeartbeats 400000 in
theorem walk_calls (c : Value) (ff fo : Fn) (fa fc oa oc : Array Value) (w : World) :
    Calls Try.prog 48 #[c, .func ff fa fc, .func fo oa oc] w fun e w' => e = .returned (.func (.func 58) #[] #[.pointer (some ⟨w.heap.size, 0, none⟩), .pointer (some ⟨w.heap.size + 1, 0, none⟩)]) ∧ w' = (w.alloc (.cells #[.func ff fa fc] 96)).alloc (.cells #[.func fo oa oc] 74) := by
  go_enter Try.func48, Try.ntmps48
  go_wp2_with fail
  go_ret
  exact ⟨rfl, rfl⟩

/-- A way that begins at first and goes on by next. -/
structure Way (first : Int × Bool) (next : Int → Int × Bool) (xs : List Int) : Prop where
  start : first = nth xs 0
  go : ∀ k, k < xs.length → next (xs.getD k 0) = nth xs (k + 1)
  nodup : xs.Nodup
  small : xs.length ≤ 65536
  node : ∀ x ∈ xs, x < 2147483648
theorem getD_mem {xs : List Int} {k : Nat} (h : k < xs.length) : xs.getD k 0 ∈ xs := by
  rw [List.getD_eq_getElem?_getD, List.getElem?_eq_getElem h]; exact List.getElem_mem h
theorem Way.nil {next : Int → Int × Bool} : Way (0, false) next [] := ⟨rfl, fun _ h => absurd h (Nat.not_lt_zero _), List.nodup_nil, Nat.zero_le _, fun _ h => absurd h List.not_mem_nil⟩

/-- The four blocks that All lays. -/
def world4 (w : World) (c : Option Addr) (i : Int) (fn1 fn2 : Nat) : World :=
  (((w.alloc (.cells #[.pointer c] 41)).alloc (.cells #[.int .i64 i] 3)).alloc (.cells #[.func (.func fn1) #[] #[.pointer (some ⟨w.heap.size, 0, none⟩), .pointer (some ⟨w.heap.size + 1, 0, none⟩)]] 96)).alloc (.cells #[.func (.func fn2) #[.pointer c] #[]] 74)
theorem world4_size (w : World) (c : Option Addr) (i : Int) (fn1 fn2 : Nat) : (world4 w c i fn1 fn2).heap.size = w.heap.size + 4 := by simp [world4]
theorem world4_calm (w : World) (c : Option Addr) (i : Int) (fn1 fn2 : Nat) : Calm w (world4 w c i fn1 fn2) := (((Kept.refl _ _).alloc _).alloc _).alloc _ |>.alloc _
theorem world4_boxes (w : World) (c : Option Addr) (i : Int) (fn1 fn2 : Nat) :
    Blk (world4 w c i fn1 fn2) w.heap.size #[.pointer c] ∧ Blk (world4 w c i fn1 fn2) (w.heap.size + 1) #[.int .i64 i] ∧
    Blk (world4 w c i fn1 fn2) (w.heap.size + 2) #[.func (.func fn1) #[] #[.pointer (some ⟨w.heap.size, 0, none⟩), .pointer (some ⟨w.heap.size + 1, 0, none⟩)]] ∧
    Blk (world4 w c i fn1 fn2) (w.heap.size + 3) #[.func (.func fn2) #[.pointer c] #[]] := by
  refine ⟨(((Blk.new w _ _).alloc _).alloc _).alloc _, ((Blk.new' (by simp) _ _).alloc _).alloc _, (Blk.new' (by simp) _ _).alloc _, Blk.new' (by simp) _ _⟩

section
variable (w : World)
set_option maxHeartbeats 400000 in
theorem All_calls (c : Option Addr) (i : Int) :
    Calls Try.prog 28 #[.pointer c, .int .i64 i] w fun e w' => e = .returned (.func (.func 58) #[] #[.pointer (some ⟨w.heap.size + 2, 0, none⟩), .pointer (some ⟨w.heap.size + 3, 0, none⟩)]) ∧
      w' = world4 w c i 49 36 := by
  unfold world4
  go_enter Try.func28, Try.ntmps28
  go_wp2_with (go_at_call 48; refine (walk_calls _ _ _ _ _ _ _ _).mono ?_; rintro e w' ⟨rfl, rfl⟩)
  go_ret
  exact ⟨rfl, rfl⟩

set_option maxHeartbeats 400000 in
/-- The first function: the list's First node. -/
theorem All1_calls (c : Option Addr) (i : Int) (p q : Nat) (r : Int × Bool) (hp : w.cell? ⟨p, 0, none⟩ = some (.pointer c)) (hq : w.cell? ⟨q, 0, none⟩ = some (.int .i64 i))
    (hf : Calls Try.prog 34 #[.pointer c, .int .i64 i] w fun e w' => e = .returned (.tuple #[.int .i32 r.1, .bool r.2]) ∧ w = w') :
    Calls Try.prog 49 #[.pointer (some ⟨p, 0, none⟩), .pointer (some ⟨q, 0, none⟩)] w fun e w' => e = .returned (.tuple #[.int .i32 r.1, .bool r.2]) ∧ w = w' := by
  have Hf := Lib.hid hf
  clear hf
  go_enter Try.func49, Try.ntmps49
  go_wp2_with (go_at_call 34; refine Hf.out.mono ?_; rintro e w' ⟨rfl, rfl⟩)
  go_ret2
  exact ⟨rfl, rfl⟩

/-- The value of All yields the list's nodes, as they stand where the range over it begins. -/
theorem All_iter (n : Nat) (hn : 3 ≤ n) (Bs : List Nat) (b b1 b2 : Nat) (s : St) (i : Int) (xs : List Int) (hs : At w b b1 b2 s) (hw : Way (s.first i) s.next xs) (w0 : World)
    (h0 : Calm (world4 w (some ⟨b, 0, none⟩) i 49 36) w0) :
    Iter Fence.wide n Try.prog 58 #[.pointer (some ⟨w.heap.size + 2, 0, none⟩), .pointer (some ⟨w.heap.size + 3, 0, none⟩)] (fun x : Int => #[Value.int .i32 x]) (fun _ _ => True) (fun ys => ys = xs) (fun pre => pre <+: xs) xs.length Bs w0 := by
  obtain ⟨k1, k2, k3, k4⟩ := world4_boxes w (some ⟨b, 0, none⟩) i 49 36
  have hs4 := hs.calm ((world4_calm w (some ⟨b, 0, none⟩) i 49 36).trans h0)
  refine walk_iter n hn (fun W => At W b b1 b2 s ∧ Blk W w.heap.size #[.pointer (some ⟨b, 0, none⟩)] ∧ Blk W (w.heap.size + 1) #[.int .i64 i] ∧
      Blk W (w.heap.size + 2) #[.func (.func 49) #[] #[.pointer (some ⟨w.heap.size, 0, none⟩), .pointer (some ⟨w.heap.size + 1, 0, none⟩)]] ∧ Blk W (w.heap.size + 3) #[.func (.func 36) #[.pointer (some ⟨b, 0, none⟩)] #[]])
    _ _ _ _ _ _ _ _ xs hw.nodup hw.small
    { box1 := fun W h => (h.2.2.2.1.cell 0).trans rfl
      box2 := fun W h => (h.2.2.2.2.cell 0).trans rfl
      from_ := fun W h => ?from_
      on_ := fun W k h hk => ?on_
      enters1 := enters_of Try.func49 (by kernel_rfl) rfl
      enters2 := enters_of Try.func36 (by kernel_rfl) rfl } Bs w0
    (fun W hW => ?_)
  case from_ =>
    exact All1_calls W (some ⟨b, 0, none⟩) i w.heap.size (w.heap.size + 1) (nth xs 0) ((h.2.1.cell 0).trans rfl) ((h.2.2.1.cell 0).trans rfl) (hw.start ▸ First_calls W b b1 b2 s i h.1)
  case on_ =>
    have := Next_calls W b b1 b2 s (xs.getD k 0) h.1 (hw.node _ (getD_mem hk))
    rw [hw.go k hk] at this
    exact this
  · have hc : Calm w0 W := Kept.of_below hW _
    exact ⟨hs4.calm hc, (k1.calm h0).calm hc, (k2.calm h0).calm hc, (k3.calm h0).calm hc, (k4.calm h0).calm hc⟩

/-- Nil chains: nothing. -/
theorem All_iter_nil (n : Nat) (hn : 3 ≤ n) (Bs : List Nat) (i : Int) (w0 : World)
    (h0 : Calm (world4 w none i 49 36) w0) :
    Iter Fence.wide n Try.prog 58 #[.pointer (some ⟨w.heap.size + 2, 0, none⟩), .pointer (some ⟨w.heap.size + 3, 0, none⟩)] (fun x : Int => #[Value.int .i32 x]) (fun _ _ => True) (fun ys => ys = []) (fun pre => pre <+: []) 0 Bs w0 := by
  obtain ⟨k1, k2, k3, k4⟩ := world4_boxes w none i 49 36
  refine walk_iter n hn (fun W => Blk W w.heap.size #[.pointer none] ∧ Blk W (w.heap.size + 1) #[.int .i64 i] ∧
      Blk W (w.heap.size + 2) #[.func (.func 49) #[] #[.pointer (some ⟨w.heap.size, 0, none⟩), .pointer (some ⟨w.heap.size + 1, 0, none⟩)]] ∧ Blk W (w.heap.size + 3) #[.func (.func 36) #[.pointer none] #[]])
    _ _ _ _ _ _ _ _ [] List.nodup_nil (by simp)
    { box1 := fun W h => (h.2.2.1.cell 0).trans rfl
      box2 := fun W h => (h.2.2.2.cell 0).trans rfl
      from_ := fun W h => ?from_
      on_ := fun W k h hk => absurd hk (Nat.not_lt_zero _)
      enters1 := enters_of Try.func49 (by kernel_rfl) rfl
      enters2 := enters_of Try.func36 (by kernel_rfl) rfl } Bs w0
    (fun W hW => ?_)
  case from_ =>
    exact All1_calls W none i w.heap.size (w.heap.size + 1) (0, false) ((h.1.cell 0).trans rfl) ((h.2.1.cell 0).trans rfl) (First_nil W i)
  · have hc : Calm w0 W := Kept.of_below hW _
    exact ⟨(k1.calm h0).calm hc, (k2.calm h0).calm hc, (k3.calm h0).calm hc, (k4.calm h0).calm hc⟩
end

section
variable (w : World)
set_option maxHeartbeats 400000 in
theorem Back_calls (c : Option Addr) (i : Int) :
    Calls Try.prog 46 #[.pointer c, .int .i64 i] w fun e w' => e = .returned (.func (.func 58) #[] #[.pointer (some ⟨w.heap.size + 2, 0, none⟩), .pointer (some ⟨w.heap.size + 3, 0, none⟩)]) ∧
      w' = world4 w c i 57 37 := by
  unfold world4
  go_enter Try.func46, Try.ntmps46
  go_wp2_with (go_at_call 48; refine (walk_calls _ _ _ _ _ _ _ _).mono ?_; rintro e w' ⟨rfl, rfl⟩)
  go_ret
  exact ⟨rfl, rfl⟩

set_option maxHeartbeats 400000 in
/-- The first function: the list's Last node. -/
theorem Back1_calls (c : Option Addr) (i : Int) (p q : Nat) (r : Int × Bool) (hp : w.cell? ⟨p, 0, none⟩ = some (.pointer c)) (hq : w.cell? ⟨q, 0, none⟩ = some (.int .i64 i))
    (hf : Calls Try.prog 35 #[.pointer c, .int .i64 i] w fun e w' => e = .returned (.tuple #[.int .i32 r.1, .bool r.2]) ∧ w = w') :
    Calls Try.prog 57 #[.pointer (some ⟨p, 0, none⟩), .pointer (some ⟨q, 0, none⟩)] w fun e w' => e = .returned (.tuple #[.int .i32 r.1, .bool r.2]) ∧ w = w' := by
  have Hf := Lib.hid hf
  clear hf
  go_enter Try.func57, Try.ntmps57
  go_wp2_with (go_at_call 35; refine Hf.out.mono ?_; rintro e w' ⟨rfl, rfl⟩)
  go_ret2
  exact ⟨rfl, rfl⟩

/-- The value of Back yields the list's nodes, as they stand where the range over it begins. -/
theorem Back_iter (n : Nat) (hn : 3 ≤ n) (Bs : List Nat) (b b1 b2 : Nat) (s : St) (i : Int) (xs : List Int) (hs : At w b b1 b2 s) (hw : Way (s.last i) s.prev xs) (w0 : World)
    (h0 : Calm (world4 w (some ⟨b, 0, none⟩) i 57 37) w0) :
    Iter Fence.wide n Try.prog 58 #[.pointer (some ⟨w.heap.size + 2, 0, none⟩), .pointer (some ⟨w.heap.size + 3, 0, none⟩)] (fun x : Int => #[Value.int .i32 x]) (fun _ _ => True) (fun ys => ys = xs) (fun pre => pre <+: xs) xs.length Bs w0 := by
  obtain ⟨k1, k2, k3, k4⟩ := world4_boxes w (some ⟨b, 0, none⟩) i 57 37
  have hs4 := hs.calm ((world4_calm w (some ⟨b, 0, none⟩) i 57 37).trans h0)
  refine walk_iter n hn (fun W => At W b b1 b2 s ∧ Blk W w.heap.size #[.pointer (some ⟨b, 0, none⟩)] ∧ Blk W (w.heap.size + 1) #[.int .i64 i] ∧
      Blk W (w.heap.size + 2) #[.func (.func 57) #[] #[.pointer (some ⟨w.heap.size, 0, none⟩), .pointer (some ⟨w.heap.size + 1, 0, none⟩)]] ∧ Blk W (w.heap.size + 3) #[.func (.func 37) #[.pointer (some ⟨b, 0, none⟩)] #[]])
    _ _ _ _ _ _ _ _ xs hw.nodup hw.small
    { box1 := fun W h => (h.2.2.2.1.cell 0).trans rfl
      box2 := fun W h => (h.2.2.2.2.cell 0).trans rfl
      from_ := fun W h => ?from_
      on_ := fun W k h hk => ?on_
      enters1 := enters_of Try.func57 (by kernel_rfl) rfl
      enters2 := enters_of Try.func37 (by kernel_rfl) rfl } Bs w0
    (fun W hW => ?_)
  case from_ =>
    exact Back1_calls W (some ⟨b, 0, none⟩) i w.heap.size (w.heap.size + 1) (nth xs 0) ((h.2.1.cell 0).trans rfl) ((h.2.2.1.cell 0).trans rfl) (hw.start ▸ Last_calls W b b1 b2 s i h.1)
  case on_ =>
    have := Prev_calls W b b1 b2 s (xs.getD k 0) h.1 (hw.node _ (getD_mem hk))
    rw [hw.go k hk] at this
    exact this
  · have hc : Calm w0 W := Kept.of_below hW _
    exact ⟨hs4.calm hc, (k1.calm h0).calm hc, (k2.calm h0).calm hc, (k3.calm h0).calm hc, (k4.calm h0).calm hc⟩

/-- Nil chains: nothing. -/
theorem Back_iter_nil (n : Nat) (hn : 3 ≤ n) (Bs : List Nat) (i : Int) (w0 : World)
    (h0 : Calm (world4 w none i 57 37) w0) :
    Iter Fence.wide n Try.prog 58 #[.pointer (some ⟨w.heap.size + 2, 0, none⟩), .pointer (some ⟨w.heap.size + 3, 0, none⟩)] (fun x : Int => #[Value.int .i32 x]) (fun _ _ => True) (fun ys => ys = []) (fun pre => pre <+: []) 0 Bs w0 := by
  obtain ⟨k1, k2, k3, k4⟩ := world4_boxes w none i 57 37
  refine walk_iter n hn (fun W => Blk W w.heap.size #[.pointer none] ∧ Blk W (w.heap.size + 1) #[.int .i64 i] ∧
      Blk W (w.heap.size + 2) #[.func (.func 57) #[] #[.pointer (some ⟨w.heap.size, 0, none⟩), .pointer (some ⟨w.heap.size + 1, 0, none⟩)]] ∧ Blk W (w.heap.size + 3) #[.func (.func 37) #[.pointer none] #[]])
    _ _ _ _ _ _ _ _ [] List.nodup_nil (by simp)
    { box1 := fun W h => (h.2.2.1.cell 0).trans rfl
      box2 := fun W h => (h.2.2.2.cell 0).trans rfl
      from_ := fun W h => ?from_
      on_ := fun W k h hk => absurd hk (Nat.not_lt_zero _)
      enters1 := enters_of Try.func57 (by kernel_rfl) rfl
      enters2 := enters_of Try.func37 (by kernel_rfl) rfl } Bs w0
    (fun W hW => ?_)
  case from_ =>
    exact Back1_calls W none i w.heap.size (w.heap.size + 1) (0, false) ((h.1.cell 0).trans rfl) ((h.2.1.cell 0).trans rfl) (Last_nil W i)
  · have hc : Calm w0 W := Kept.of_below hW _
    exact ⟨(k1.calm h0).calm hc, (k2.calm h0).calm hc, (k3.calm h0).calm hc, (k4.calm h0).calm hc⟩
end
end Chain
end Go.Proofs.Ythjgjfelbagljaa
