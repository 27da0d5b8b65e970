/- hutchref04.Turned, by its printed contract. -/
import Derived.Test.YthjgjfelbagljaaPChainTellsx1
import Derived.Test.YthjgjfelbagljaaJoined
import Derived.Test.YthjgjfelbagljaaChainAlive
namespace Go.Proofs.Ythjgjfelbagljaa
open Go.RowKit Go.Proofs.YthjgjfelbagljaaW.PrintWords Go.Proofs.YthjgjfelbagljaaW.PrintLast Go.Proofs.YthjgjfelbagljaaW.PrintMore
namespace Ref04
set_option maxRecDepth 100000 in
theorem turned_l0 (L : List Int) (j : Nat) : ∀ (acc : List Int), j ≤ L.length → (acc.length : Int) + j ≤ 1000000 → PChainTells.hutchref04_Turned.l0 (j + 1) L acc ((j : Int) - 1) = some (acc ++ (L.take j).reverse) := by
  induction j with
  | zero =>
    intro acc _ _
    rw [PChainTells.hutchref04_Turned.l0, if_neg (by omega)]
    simp
  | succ j ih =>
    intro acc hj hb
    have hlen : acc.length < 35184372088832 := by omega
    rw [PChainTells.hutchref04_Turned.l0, if_pos (by omega), if_pos (by omega), if_pos (by omega), if_pos hlen]
    have e : wrap64 (((j + 1 : Nat) : Int) - 1 - 1) = (j : Int) - 1 := by unfold wrap64; omega
    have hl2 : (acc ++ [rd L (((j + 1 : Nat) : Int) - 1)]).length = acc.length + 1 := by simp
    rw [e, ih _ (by omega) (by rw [hl2]; omega)]
    have e2 : rd L (((j + 1 : Nat) : Int) - 1) = L.getD j 0 := by unfold rd; congr 1; omega
    rw [e2, ← Chain.take_snoc' (show j < L.length by omega)]
    simp
set_option maxRecDepth 100000 in
theorem turned_f (L : List Int) (hb : (L.length : Int) ≤ 1000000) : PChainTells.hutchref04_Turned.f (L.length + 1) L = some L.reverse := by
  unfold PChainTells.hutchref04_Turned.f
  rw [show wrap64 ((L.length : Int) - 1) = (L.length : Int) - 1 by unfold wrap64; omega, turned_l0 L L.length [] (Nat.le_refl _) (by simp; omega)]
  simp
theorem Turned_calls (w : World) (A0 : Option Addr) (c0 : Nat) (xs : List Int) (hx : (Kd.int .i32).C w A0 xs.length xs) (hc0 : xs.length ≤ c0) (hl : (xs.length : Int) ≤ 1000000) :
    Calls Try.prog 27 #[.slice A0 xs.length c0] w fun e w' => ∃ v, e = .returned v ∧ w'.ownsRow w.heap.size 21 1 v xs.reverse.length (xs.reverse.map (Value.int .i32)) ∧ Below w.heap.size w w' := by
  refine (PChainTells.hutchref04_Turned.calls (xs.length + 1) A0 c0 xs xs.reverse w hx hc0 (turned_f xs hl)).mono ?_
  rintro e w' ⟨v, rfl, hR, hb⟩
  exact ⟨v, rfl, owns_of_kd hR, hb⟩
end Ref04
end Go.Proofs.Ythjgjfelbagljaa
