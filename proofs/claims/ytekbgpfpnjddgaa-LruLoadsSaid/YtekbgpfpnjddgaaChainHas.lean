/- Chains as their user has them. -/
import Derived.Test.YtekbgpfpnjddgaaChainPureBC
namespace Go.Proofs.Ytekbgpfpnjddgaa
open Go.RowKit
namespace Chain
/-- Chains at b, in blocks of F, of N nodes: the lists ls. -/
structure Has (w : World) (b : Nat) (F : Nat → Prop) (N : Nat) (ls : List (List Int)) : Prop where
  ex : ∃ b1 b2 s, At w b b1 b2 s ∧ Inv s ls ∧ F b ∧ F b1 ∧ F b2 ∧ s.links.length = N
section
variable {w : World} {b N : Nat} {F : Nat → Prop} {ls : List (List Int)}
theorem Has.kept {G : Nat → Prop} {w' : World} (h : Has w b F N ls) (hk : Kept G w w') (hF : ∀ k, F k → ¬ G k) : Has w' b F N ls := by
  obtain ⟨b1, b2, s, ha, hi, h0, h1, h2, hN⟩ := h.ex
  exact ⟨b1, b2, s, ha.kept hk (hF _ h0) (hF _ h1) (hF _ h2), hi, h0, h1, h2, hN⟩
theorem Has.calm {w' : World} (h : Has w b F N ls) (hk : Calm w w') : Has w' b F N ls := h.kept hk (fun _ _ q => q)
theorem Has.mono {G : Nat → Prop} (h : Has w b F N ls) (hF : ∀ k, F k → G k) : Has w b G N ls := by
  obtain ⟨b1, b2, s, ha, hi, h0, h1, h2, hN⟩ := h.ex
  exact ⟨b1, b2, s, ha, hi, hF _ h0, hF _ h1, hF _ h2, hN⟩
theorem Has.trim (h : Has w b F N ls) : Has w b (fun k => F k ∧ k < w.heap.size) N ls := by
  obtain ⟨b1, b2, s, ha, hi, h0, h1, h2, hN⟩ := h.ex
  exact ⟨b1, b2, s, ha, hi, ⟨h0, ha.head.lt⟩, ⟨h1, ha.links.lt⟩, ⟨h2, ha.lists.lt⟩, hN⟩
theorem Has.node (h : Has w b F N ls) {l : Nat} (hl : l < ls.length) {x : Int} (hx : x ∈ ls.getD l []) : 0 ≤ x ∧ x < N := by
  obtain ⟨b1, b2, s, ha, hi, h0, h1, h2, hN⟩ := h.ex
  have := hi.node l hl x hx
  unfold St.hasNode at this
  rw [hN] at this
  exact this
theorem Has.nodup (h : Has w b F N ls) {l : Nat} (hl : l < ls.length) : (ls.getD l []).Nodup := by
  obtain ⟨b1, b2, s, ha, hi, _⟩ := h.ex
  exact hi.nodup l hl
theorem Has.apart (h : Has w b F N ls) {l l' : Nat} (hl : l < ls.length) (hl' : l' < ls.length) (hne : l ≠ l') {x : Int} (hx : x ∈ ls.getD l []) : x ∉ ls.getD l' [] := by
  obtain ⟨b1, b2, s, ha, hi, _⟩ := h.ex
  exact hi.apart l l' hl hl' hne x hx
theorem New_has (w : World) (n m : Int) (h0 : 0 ≤ n) (h1 : n ≤ 65536) (h2 : 1 ≤ m) (h3 : m ≤ 8) :
    Calls Try.prog 31 #[.int .i64 n, .int .i64 m] w fun e w' => ∃ b, e = .returned (.tuple #[.pointer (some ⟨b, 0, none⟩), .int .i64 0]) ∧ Has w' b (fun k => w.heap.size ≤ k) n.toNat (List.replicate m.toNat []) ∧ Calm w w' := by
  refine (New_calls w n m h0 h1 h2 h3).mono ?_
  rintro e w' ⟨b, b1, b2, he, ha, hc, z0, z1, z2⟩
  refine ⟨b, he, ⟨b1, b2, _, ha, Inv.new _ _ (by omega) (by omega), z0, z1, z2, ?_⟩, hc⟩
  simp [St.new]
theorem Remove_has (h : Has w b F N ls) {l : Nat} (hl : l < ls.length) {A B : List Int} {n : Int} (hAB : ls.getD l [] = A ++ n :: B) :
    Calls Try.prog 51 #[.pointer (some ⟨b, 0, none⟩), .int .i32 n] w fun e w' => e = .returned (.bool true) ∧ Has w' b F N (ls.set l (A ++ B)) ∧ Kept F w w' := by
  obtain ⟨b1, b2, s, ha, hi, h0, h1, h2, hN⟩ := h.ex
  have hm : n ∈ ls.getD l [] := by rw [hAB]; simp
  have hs := hi.stands_mem hl hm
  have hlt := hi.node_lt hl n hm
  refine (Remove_calls w b b1 b2 s n ha hi.valid hlt (hi.many_pos n)).mono ?_
  rintro e w' ⟨he, ha', hk⟩
  rw [decide_eq_true hs] at he
  refine ⟨he, ⟨b1, b2, _, ha', hi.remove hl hAB, h0, h1, h2, ?_⟩, hk.mono (fun k _ q => q.elim (fun q => by rw [q]; exact h1) (fun q => by rw [q]; exact h2))⟩
  unfold St.remove
  rw [if_pos hs, (unlink_len s n).1, hN]
theorem Has.free_wrong {s : St} (hi : Inv s ls) {l : Nat} (hl : l < ls.length) {n : Int} (hn : 0 ≤ n ∧ n < (s.links.length : Int)) (hno : ∀ j : Nat, j < ls.length → n ∉ ls.getD j []) : s.wrong l n = 0 := by
  rw [hi.wrong_eq, if_pos ⟨hi.hasList hl, hn⟩, if_neg]
  rintro ⟨j, hj, q⟩
  exact hno j hj q
theorem Ahead_has (h : Has w b F N ls) {l : Nat} (hl : l < ls.length) {n : Int} (hn : 0 ≤ n ∧ n < (N : Int)) (hno : ∀ j : Nat, j < ls.length → n ∉ ls.getD j []) :
    Calls Try.prog 49 #[.pointer (some ⟨b, 0, none⟩), .int .i64 l, .int .i32 n] w fun e w' => e = .returned (.int .i64 0) ∧ Has w' b F N (ls.set l (n :: ls.getD l [])) ∧ Kept F w w' := by
  obtain ⟨b1, b2, s, ha, hi, h0, h1, h2, hN⟩ := h.ex
  have hw := Has.free_wrong hi hl (by rw [hN]; exact hn) hno
  have hnn := hi.nodes
  refine (Ahead_calls w b b1 b2 s l n ha hi.valid (by omega)).mono ?_
  rintro e w' ⟨he, ha', hk⟩
  rw [hw] at he
  have hI := hi.ahead l n hl
  rw [if_pos hw] at hI
  refine ⟨he, ⟨b1, b2, _, ha', hI, h0, h1, h2, ?_⟩, hk.mono (fun k _ q => q.elim (fun q => by rw [q]; exact h1) (fun q => by rw [q]; exact h2))⟩
  unfold St.ahead
  rw [if_pos hw, (join_len s _ _ _ _).1, hN]
theorem Behind_has (h : Has w b F N ls) {l : Nat} (hl : l < ls.length) {n : Int} (hn : 0 ≤ n ∧ n < (N : Int)) (hno : ∀ j : Nat, j < ls.length → n ∉ ls.getD j []) :
    Calls Try.prog 38 #[.pointer (some ⟨b, 0, none⟩), .int .i64 l, .int .i32 n] w fun e w' => e = .returned (.int .i64 0) ∧ Has w' b F N (ls.set l (ls.getD l [] ++ [n])) ∧ Kept F w w' := by
  obtain ⟨b1, b2, s, ha, hi, h0, h1, h2, hN⟩ := h.ex
  have hw := Has.free_wrong hi hl (by rw [hN]; exact hn) hno
  have hnn := hi.nodes
  refine (Behind_calls w b b1 b2 s l n ha hi.valid (by omega)).mono ?_
  rintro e w' ⟨he, ha', hk⟩
  rw [hw] at he
  have hI := hi.behind l n hl
  rw [if_pos hw] at hI
  refine ⟨he, ⟨b1, b2, _, ha', hI, h0, h1, h2, ?_⟩, hk.mono (fun k _ q => q.elim (fun q => by rw [q]; exact h1) (fun q => by rw [q]; exact h2))⟩
  unfold St.behind
  rw [if_pos hw, (join_len s _ _ _ _).1, hN]
theorem Last_has (h : Has w b F N ls) {l : Nat} (hl : l < ls.length) :
    Calls Try.prog 76 #[.pointer (some ⟨b, 0, none⟩), .int .i64 l] w fun e w' => e = .returned (.tuple #[.int .i32 (nth (ls.getD l []).reverse 0).1, .bool (nth (ls.getD l []).reverse 0).2]) ∧ w = w' := by
  obtain ⟨b1, b2, s, ha, hi, h0, h1, h2, hN⟩ := h.ex
  have := Last_calls w b b1 b2 s l ha
  rw [hi.last_eq hl] at this
  exact this
theorem First_has (h : Has w b F N ls) {l : Nat} (hl : l < ls.length) :
    Calls Try.prog 59 #[.pointer (some ⟨b, 0, none⟩), .int .i64 l] w fun e w' => e = .returned (.tuple #[.int .i32 (nth (ls.getD l []) 0).1, .bool (nth (ls.getD l []) 0).2]) ∧ w = w' := by
  obtain ⟨b1, b2, s, ha, hi, h0, h1, h2, hN⟩ := h.ex
  have := First_calls w b b1 b2 s l ha
  rw [hi.first_eq hl] at this
  exact this
end
end Chain
end Go.Proofs.Ytekbgpfpnjddgaa
