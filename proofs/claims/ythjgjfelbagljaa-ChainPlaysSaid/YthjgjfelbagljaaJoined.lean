/- hutchref04.Joined, by its printed contract; slices that are read, in both spellings. -/
import Derived.Test.YthjgjfelbagljaaPChainPlaysx1
import Derived.Test.YthjgjfelbagljaaNodes
namespace Go.Proofs.Ythjgjfelbagljaa
open Go.RowKit Go.Proofs.YthjgjfelbagljaaW.PrintWords Go.Proofs.YthjgjfelbagljaaW.PrintLast Go.Proofs.YthjgjfelbagljaaW.PrintMore

theorem encs_map {α : Type} (enc : α → Value) (xs : List α) : encs enc xs = xs.map enc := by
  first | rfl | (unfold encs; rfl) | (unfold encs; simp)
theorem kd_of_owns {k : IntKind} {w : World} {base e : Nat} {v : Value} {xs : List Int} (h : w.ownsRow base e 1 v xs.length (xs.map (Value.int k))) : (Kd.int k).R e w base (fun _ => True) v xs :=
  Kd.R_of_own (by rw [encs_map]; exact h) (fun _ _ => trivial)
theorem owns_of_kd {k : IntKind} {w : World} {base e : Nat} {ok : Nat → Prop} {v : Value} {xs : List Int} (h : (Kd.int k).R e w base ok v xs) : w.ownsRow base e 1 v xs.length (xs.map (Value.int k)) := by
  have := Kd.own_of_R h
  rw [encs_map] at this
  exact this
namespace Ref04
theorem Joined_calls (w : World) (A0 A1 : Option Addr) (c0 c1 : Nat) (xs ys : List Int) (hx : (Kd.int .i32).C w A0 xs.length xs) (hc0 : xs.length ≤ c0) (hy : (Kd.int .i32).C w A1 ys.length ys) (hc1 : ys.length ≤ c1) (hl : (xs.length : Int) + ys.length ≤ 1000000) :
    Calls Try.prog 22 #[.slice A0 xs.length c0, .slice A1 ys.length c1] w fun e w' => ∃ v, e = .returned v ∧ w'.ownsRow w.heap.size 21 1 v (xs ++ ys).length ((xs ++ ys).map (Value.int .i32)) ∧ Below w.heap.size w w' := by
  refine (PChainPlays.hutchref04_Joined.calls A0 c0 xs A1 c1 ys (xs ++ ys) w hx hc0 hy hc1 ?_).mono ?_
  · unfold PChainPlays.hutchref04_Joined.f
    simp only [Option.bind_some, List.nil_append, List.length_nil, Nat.zero_add]
    rw [if_pos (by omega), if_pos (by omega)]
  · rintro e w' ⟨v, rfl, hR, hb⟩
    exact ⟨v, rfl, owns_of_kd hR, hb⟩
theorem Joined_calls' (w : World) (A0 A1 : Option Addr) (n0 n1 c0 c1 : Nat) (xs ys : List Int) (e0 : xs.length = n0) (e1 : ys.length = n1) (hx : (Kd.int .i32).C w A0 xs.length xs) (hc0 : n0 ≤ c0) (hy : (Kd.int .i32).C w A1 ys.length ys) (hc1 : n1 ≤ c1) (hl : (n0 : Int) + n1 ≤ 1000000) :
    Calls Try.prog 22 #[.slice A0 n0 c0, .slice A1 n1 c1] w fun e w' => ∃ v, e = .returned v ∧ w'.ownsRow w.heap.size 21 1 v (xs ++ ys).length ((xs ++ ys).map (Value.int .i32)) ∧ Below w.heap.size w w' := by
  subst e0 e1
  exact Joined_calls w A0 A1 c0 c1 xs ys hx hc0 hy hc1 hl
end Ref04
theorem kd_kept {F : Nat → Prop} {k : IntKind} {w w' : World} {g o n : Nat} {xs : List Int} (h : (Kd.int k).C w (some ⟨g, o, none⟩) n xs) (hk : Kept F w w') (hF : ∀ g', some g = some g' → ¬ F g') : (Kd.int k).C w' (some ⟨g, o, none⟩) n xs := by
  refine Kd.C_of_reads (d := (0 : Int)) ?_
  have hr := Kd.reads_of_C (enc := Value.int k) (d := (0 : Int)) (h1 := fun _ => rfl) h
  refine ⟨hr.1, hr.2.1, fun hn => ?_⟩
  obtain ⟨ad, e, hc⟩ := hr.2.2 hn
  refine ⟨ad, e, fun j hj => ?_⟩
  have h1 := hc j hj
  injection e with e
  subst e
  rw [Addr.add_lit] at h1 ⊢
  exact cell_kept hk h1 (hF _ rfl)
/-- So much behind another world. -/
structure Since (a w : World) : Prop where
  out : Below a.heap.size a w
theorem Since.refl (a : World) : Since a a := ⟨Below.refl _ _⟩
theorem Since.next {a w w' : World} (h : Since a w) (k : Below w.heap.size w w') : Since a w' := ⟨Below.trans h.out (k.mono h.out.size)⟩
theorem Since.drewN {a w : World} (h : Since a w) (n : Nat) : Since a (w.drewN n) := ⟨⟨h.out.os, h.out.tape, h.out.output, h.out.size, h.out.block⟩⟩
theorem Since.drew {a w : World} (h : Since a w) : Since a w.drew := ⟨⟨h.out.os, h.out.tape, h.out.output, h.out.size, h.out.block⟩⟩
theorem Since.kd {k : IntKind} {a w : World} (h : Since a w) {A : Option Addr} {n : Nat} {xs : List Int} (hc : (Kd.int k).C a A n xs) : (Kd.int k).C w A n xs := Kd.C_below hc h.out
theorem Since.ints {k : IntKind} {a w : World} (h : Since a w) {v : Value} {xs : List Int} (hc : Ints k a v xs) : Ints k w v xs := hc.below h.out
end Go.Proofs.Ythjgjfelbagljaa
