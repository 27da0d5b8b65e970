/-
  DERIVED. GIVEN WITH THE SEED: THE CARDS: each row of YthjgjfelbagljabDoorRows.lean that lists a variable, with what it lists TIED to the program's text (the seventh form; the later family's looks); each row that meets fmt, with fmt's text TOLD by the authors' own Lean function (tested against real Go, not proved from fmt's source: count such statements apart). THE CARD IS WHAT COUNTS. Prove the row's statement (the work); the ties are given (YthjgjfelbagljabDoorTie.lean); close each card by the builder's one call (the guide's Derived/Test/ToyasCard.lean, 'card_holds'). Laid BY PROGRAM, IN A SANDBOX (cutbox-door.mjs). By AI agents, Wed Nov 11 2026. No macro, syntax, notation, axiom, sorry.
-/
import Derived.Test.YthjgjfelbagljabDoorRows
import GoSem.ClaimSeven
namespace Go.Proofs.YthjgjfelbagljabDoor
namespace Rows

/-- THE TIED CARD OF 'hutchlaw34.BoundsTells'. -/
def boundsTellsCard : Claim7 := { stood := { row := boundsTellsRow, standIns := [], harness := (true, "386cc3b3b72c27152c23daf2d46e39b65a39c09601eab5450a0cd63985450479"), looks := false }, kinds := [], alts := [], laidByText := true, laidKinds := [.data, .pinned], laidTests := true, laidLooks := .later }
def BoundsTellsCardSaid : Prop := Claim7.holds Tryd.pinned (.plain (OpenSpec.ofChange boundsTellsSpec)) boundsTellsCard

/-- THE TIED CARD OF 'hutchlaw34.BoundsRing'. -/
def boundsRingCard : Claim7 := { stood := { row := boundsRingRow, standIns := [], harness := (true, "386cc3b3b72c27152c23daf2d46e39b65a39c09601eab5450a0cd63985450479"), looks := false }, kinds := [], alts := [], laidByText := true, laidKinds := [.data, .pinned], laidTests := true, laidLooks := .later }
def BoundsRingCardSaid : Prop := Claim7.holds Tryd.pinned (.plain (OpenSpec.ofChange boundsRingSpec)) boundsRingCard

/-- THE SECOND FORM's CARD OF 'hutchlaw34.BoundsTells'. -/
def boundsTellsUptoCard : Claim7 := { stood := { row := boundsTellsUptoRow, standIns := [], harness := (true, "386cc3b3b72c27152c23daf2d46e39b65a39c09601eab5450a0cd63985450479"), looks := false }, kinds := [], alts := [], laidByText := true, laidKinds := [.data, .pinned], laidTests := true, laidLooks := .later }
def BoundsTellsUptoCardSaid : Prop := Claim7.holds Tryd.pinned (.plain (OpenSpec.upto boundsTellsSpec)) boundsTellsUptoCard

/-- THE SECOND FORM's CARD OF 'hutchlaw34.BoundsRing'. -/
def boundsRingUptoCard : Claim7 := { stood := { row := boundsRingUptoRow, standIns := [], harness := (true, "386cc3b3b72c27152c23daf2d46e39b65a39c09601eab5450a0cd63985450479"), looks := false }, kinds := [], alts := [], laidByText := true, laidKinds := [.data, .pinned], laidTests := true, laidLooks := .later }
def BoundsRingUptoCardSaid : Prop := Claim7.holds Tryd.pinned (.plain (OpenSpec.upto boundsRingSpec)) boundsRingUptoCard
end Rows
end Go.Proofs.YthjgjfelbagljabDoor
