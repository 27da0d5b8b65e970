/- Walks over lru: Len, Nodes, Moves, Drop; the engine by its keys alone. -/
import Derived.Test.YtekbgpfpnjddgaaLruG
namespace Go.Proofs.Ytekbgpfpnjddgaa
open Go.RowKit
namespace Lru
section
variable {w : World} {e : Nat} {F : Nat → Prop} {c : Conf} {n : Cnt} {ps : List (Int × Int)} {ks : List Int} {m : Int}
theorem Len_calls (h : Is w e F c n ps m) : Calls Try.prog 25 #[.pointer (some ⟨e, 0, none⟩)] w fun e' w' => e' = .returned (.int .i64 ps.length) ∧ w' = w := by
  obtain ⟨pb, k4, hlen⟩ := h.len_calls
  have HL := Lib.hid hlen
  clear hlen h
  go_enter Try.func25, Try.ntmps25
  go_wp2_with (go_at_call 53; refine HL.out.mono ?_; rintro e' w' ⟨rfl, rfl⟩)
  go_ret
  exact ⟨rfl, rfl⟩
theorem Nodes_calls (h : Is w e F c n ps m) : Calls Try.prog 26 #[.pointer (some ⟨e, 0, none⟩)] w fun e' w' => e' = .returned (.int .i64 ps.length) ∧ w' = w := by
  have HL := Lib.hid (Len_calls h)
  clear h
  go_enter Try.func26, Try.ntmps26
  go_wp2_with (go_at_call 25; refine HL.out.mono ?_; rintro e' w' ⟨rfl, rfl⟩)
  go_ret
  exact ⟨rfl, rfl⟩
theorem Moves_calls (h : Is w e F c n ps m) : Calls Try.prog 27 #[.pointer (some ⟨e, 0, none⟩)] w fun e' w' => e' = .returned (.int .u64 m) ∧ w' = w := by
  obtain ⟨pb, ob, ib, Fp, Fo, Fi, τ, hb, hp, ha, h0, h1, h2, h3⟩ := h
  have k6 := (cell_ptrs hb).2.2
  have HL := Lib.hid (Look.Moves_has hp.lk)
  clear hb hp ha h0 h1 h2 h3
  go_enter Try.func27, Try.ntmps27
  go_wp2_with (go_at_call 54; refine HL.out.mono ?_; rintro e' w' ⟨rfl, rfl⟩)
  go_ret
  exact ⟨rfl, rfl⟩
set_option maxRecDepth 100000 in
theorem Drop_yes (h : Is w e F c n ps m) {A B : List (Int × Int)} {x key : Int} (hps : ps = A ++ (x, key) :: B) :
    Calls Try.prog 24 #[.pointer (some ⟨e, 0, none⟩), .int .u64 key] w fun e' w' => e' = .returned (.bool true) ∧ ∃ j : Nat, j ≤ 4 ∧ After e F w w' c n (A ++ B) (IntKind.u64.wrap (m + j)) := by
  have HF := Lib.hid (find_yes h hps)
  have HL := Lib.hid (leave_calls h hps)
  clear h hps
  go_enter Try.func24, Try.ntmps24
  go_wp2_with (first | (go_at_call 35; refine HF.out.mono ?_; rintro e' w' ⟨rfl, rfl⟩) | (go_at_call 52; refine HL.out.mono ?_; rintro e' w' ⟨rfl, hj⟩; have HJ := Lib.hid hj; clear hj))
  go_ret
  exact ⟨rfl, HJ.out⟩
set_option maxRecDepth 100000 in
theorem Drop_no (h : Is w e F c n ps m) {key : Int} (hk : keeps ps key = false) :
    Calls Try.prog 24 #[.pointer (some ⟨e, 0, none⟩), .int .u64 key] w fun e' w' => e' = .returned (.bool false) ∧ w' = w := by
  have HF := Lib.hid (find_no h hk)
  clear h hk
  go_enter Try.func24, Try.ntmps24
  go_wp2_with (go_at_call 35; refine HF.out.mono ?_; rintro e' w' ⟨rfl, rfl⟩)
  go_ret
  exact ⟨rfl, rfl⟩
/-- An engine by its keys. -/
def Stands (w : World) (e : Nat) (F : Nat → Prop) (c : Conf) (n : Cnt) (ks : List Int) (m : Int) : Prop := ∃ ps, Is w e F c n ps m ∧ ps.map Prod.snd = ks
theorem Stands.trim (h : Stands w e F c n ks m) : Stands w e (fun k => F k ∧ k < w.heap.size) c n ks m := by obtain ⟨ps, h1, h2⟩ := h; exact ⟨ps, h1.trim, h2⟩
theorem Stands.mono {G : Nat → Prop} (h : Stands w e F c n ks m) (hF : ∀ k, F k → G k) : Stands w e G c n ks m := by obtain ⟨ps, h1, h2⟩ := h; exact ⟨ps, h1.mono hF, h2⟩
theorem Stands.kept {G : Nat → Prop} {w' : World} (h : Stands w e F c n ks m) (hk : Kept G w w') (hF : ∀ k, F k → ¬ G k) : Stands w' e F c n ks m := by obtain ⟨ps, h1, h2⟩ := h; exact ⟨ps, h1.kept hk hF, h2⟩
theorem Stands.calm {w' : World} (h : Stands w e F c n ks m) (hk : Calm w w') : Stands w' e F c n ks m := h.kept hk (fun _ _ q => q)
theorem Stands.nd (h : Stands w e F c n ks m) : ks.Nodup := by obtain ⟨ps, h1, rfl⟩ := h; exact h1.ndS
theorem Stands.few (h : Stands w e F c n ks m) : ks.length ≤ 256 := by obtain ⟨ps, h1, rfl⟩ := h; rw [List.length_map]; exact h1.few
theorem Stands.mv (h : Stands w e F c n ks m) : 0 ≤ m ∧ m < 18446744073709551616 := by obtain ⟨ps, h1, rfl⟩ := h; exact h1.mv
theorem Stands.lt (h : Stands w e F c n ks m) : e < w.heap.size := by obtain ⟨ps, h1, rfl⟩ := h; exact h1.lt
theorem Stands.self (h : Stands w e F c n ks m) : F e := by obtain ⟨ps, h1, rfl⟩ := h; exact h1.self
theorem keeps_iff {key : Int} : keeps ps key = true ↔ key ∈ ps.map Prod.snd := by
  simp only [keeps, List.any_eq_true, beq_iff_eq, List.mem_map]
theorem keeps_dec (ps : List (Int × Int)) (key : Int) : keeps ps key = decide (key ∈ ps.map Prod.snd) := by
  by_cases hk : keeps ps key = true
  · rw [hk, decide_eq_true (keeps_iff.1 hk)]
  · rw [Bool.not_eq_true] at hk
    rw [hk, decide_eq_false (keeps_false hk)]
theorem State_stands (h : Stands w e F c n ks m) :
    Calls Try.prog 11 #[.pointer (some ⟨e, 0, none⟩)] w fun e' w' => ∃ v, e' = .returned (stAgg c n v) ∧ w'.ownsRow w.heap.size 42 4 v ks.length (ks.flatMap pageV) ∧ Calm w w' := by
  obtain ⟨ps, h1, rfl⟩ := h
  rw [List.length_map, List.flatMap_map]
  exact State_calls h1
theorem Kind_stands (h : Stands w e F c n ks m) (key : Int) :
    Calls Try.prog 13 #[.pointer (some ⟨e, 0, none⟩), .int .u64 key] w fun e' w' => e' = .returned (.int .i64 (if key ∈ ks then 2 else 0)) ∧ w' = w := by
  obtain ⟨ps, h1, rfl⟩ := h
  have := Kind_calls h1 key
  simp only [keeps_iff] at this
  exact this
theorem Len_stands (h : Stands w e F c n ks m) : Calls Try.prog 25 #[.pointer (some ⟨e, 0, none⟩)] w fun e' w' => e' = .returned (.int .i64 ks.length) ∧ w' = w := by
  obtain ⟨ps, h1, rfl⟩ := h
  rw [List.length_map]
  exact Len_calls h1
theorem Nodes_stands (h : Stands w e F c n ks m) : Calls Try.prog 26 #[.pointer (some ⟨e, 0, none⟩)] w fun e' w' => e' = .returned (.int .i64 ks.length) ∧ w' = w := by
  obtain ⟨ps, h1, rfl⟩ := h
  rw [List.length_map]
  exact Nodes_calls h1
theorem Moves_stands (h : Stands w e F c n ks m) : Calls Try.prog 27 #[.pointer (some ⟨e, 0, none⟩)] w fun e' w' => e' = .returned (.int .u64 m) ∧ w' = w := by
  obtain ⟨ps, h1, rfl⟩ := h
  exact Moves_calls h1
/-- What an engine does to its keys. -/
def without (ks : List Int) (key : Int) : List Int := ks.filter (fun k => !(k == key))
theorem without_mid {A B : List Int} {key : Int} (hn : (A ++ key :: B).Nodup) : without (A ++ key :: B) key = A ++ B := by
  rw [List.nodup_append] at hn
  obtain ⟨_, h2, h3⟩ := hn
  rw [List.nodup_cons] at h2
  unfold without
  rw [List.filter_append, List.filter_cons]
  have e1 : A.filter (fun k => !(k == key)) = A := List.filter_eq_self.2 (fun y hy => by simpa using h3 y hy key (List.mem_cons_self ..))
  have e2 : B.filter (fun k => !(k == key)) = B := List.filter_eq_self.2 (fun y hy => by have : y ≠ key := fun q => h2.1 (q ▸ hy); simpa using this)
  rw [e1, e2]
  simp
theorem without_not {key : Int} (h : key ∉ ks) : without ks key = ks := List.filter_eq_self.2 (fun y hy => by have : y ≠ key := fun q => h (q ▸ hy); simpa using this)
theorem Touch_stands_yes (h : Stands w e F c n ks m) {key : Int} (hk : key ∈ ks) :
    Calls Try.prog 23 #[.pointer (some ⟨e, 0, none⟩), .int .u64 key] w fun e' w' => e' = .returned (.bool true) ∧ Stands w' e F c (hit n) (key :: without ks key) m ∧ Kept F w w' := by
  obtain ⟨ps, h1, rfl⟩ := h
  obtain ⟨A, B, x, hps⟩ := keeps_true (keeps_iff.2 hk)
  refine (Touch_yes h1 hps).mono ?_
  rintro e' w' ⟨rfl, hi, hk'⟩
  refine ⟨rfl, ⟨_, hi, ?_⟩, hk'⟩
  have hn := h1.ndS
  rw [hps] at hn ⊢
  rw [List.map_append, List.map_cons] at hn
  have := without_mid hn
  simp at this ⊢
  exact this.symm
theorem Touch_stands_no (h : Stands w e F c n ks m) {key : Int} (hk : key ∉ ks) :
    Calls Try.prog 23 #[.pointer (some ⟨e, 0, none⟩), .int .u64 key] w fun e' w' => e' = .returned (.bool false) ∧ w' = w := by
  obtain ⟨ps, h1, rfl⟩ := h
  exact Touch_no h1 (by rw [keeps_dec, decide_eq_false hk])
theorem Drop_stands_yes (h : Stands w e F c n ks m) {key : Int} (hk : key ∈ ks) :
    Calls Try.prog 24 #[.pointer (some ⟨e, 0, none⟩), .int .u64 key] w fun e' w' => e' = .returned (.bool true) ∧ Kept F w w' ∧ ∃ (F' : Nat → Prop) (j : Nat), j ≤ 4 ∧ (∀ k, F' k → F k ∨ w.heap.size ≤ k) ∧ Stands w' e F' c n (without ks key) (IntKind.u64.wrap (m + j)) := by
  obtain ⟨ps, h1, rfl⟩ := h
  obtain ⟨A, B, x, hps⟩ := keeps_true (keeps_iff.2 hk)
  refine (Drop_yes h1 hps).mono ?_
  rintro e' w' ⟨rfl, j, hj, F', hF', hi, hk'⟩
  refine ⟨rfl, hk', F', j, hj, hF', _, hi, ?_⟩
  have hn := h1.ndS
  rw [hps] at hn ⊢
  rw [List.map_append, List.map_cons] at hn
  have := without_mid hn
  simp at this ⊢
  exact this.symm
theorem Drop_stands_no (h : Stands w e F c n ks m) {key : Int} (hk : key ∉ ks) :
    Calls Try.prog 24 #[.pointer (some ⟨e, 0, none⟩), .int .u64 key] w fun e' w' => e' = .returned (.bool false) ∧ w' = w := by
  obtain ⟨ps, h1, rfl⟩ := h
  exact Drop_no h1 (by rw [keeps_dec, decide_eq_false hk])
theorem Admit_stands_no (h : Stands w e F c n ks m) {key : Int} (hk : key ∈ ks) :
    Calls Try.prog 20 #[.pointer (some ⟨e, 0, none⟩), .int .u64 key] w fun e' w' => e' = .returned (.tuple #[.slice none 0 0, .bool false]) ∧ w' = w := by
  obtain ⟨ps, h1, rfl⟩ := h
  exact Admit_no h1 (keeps_iff.2 hk)
theorem Admit_stands_yes (h : Stands w e F c n ks m) {key : Int} (hk : key ∉ ks) (most : Nat) (hc : c.cap = (most : Int) + 1) (hm : most < 256) :
    Calls Try.prog 20 #[.pointer (some ⟨e, 0, none⟩), .int .u64 key] w fun e' w' => ∃ v, e' = .returned (.tuple #[v, .bool true]) ∧ w'.ownsRow w.heap.size 31 1 v (ks.length - most) (((ks.drop most).reverse).map (Value.int .u64)) ∧ Kept F w w' ∧
      ∃ (F' : Nat → Prop) (j : Nat), j ≤ 4 * (ks.length - most) + 4 ∧ (∀ q, F' q → F q ∨ w.heap.size ≤ q) ∧ (∀ q, F' q → q < w'.heap.size) ∧ (∀ g, v.ownBlock = some g → ¬ F' g) ∧ Stands w' e F' c (evicts (ks.length - most) (miss n)) (key :: ks.take most) (IntKind.u64.wrap (m + j)) := by
  obtain ⟨ps, h1, rfl⟩ := h
  refine (Admit_yes h1 (by rw [keeps_dec, decide_eq_false hk]) most hc hm).mono ?_
  rintro e' w' ⟨v, rfl, ha⟩
  obtain ⟨F', j, p, z1, z2, z3, z4, z5⟩ := ha.is
  have hr := ha.row
  unfold spilled at hr
  refine ⟨v, rfl, ?_, ha.kept, F', j, ?_, z2, z3, z4, ?_⟩
  · rw [List.length_map, ← List.map_drop, ← List.map_reverse]
    exact hr
  · rw [List.length_map]; exact z1
  · rw [List.length_map, ← List.map_take]
    exact ⟨_, z5, rfl⟩
end
end Lru
end Go.Proofs.Ytekbgpfpnjddgaa
