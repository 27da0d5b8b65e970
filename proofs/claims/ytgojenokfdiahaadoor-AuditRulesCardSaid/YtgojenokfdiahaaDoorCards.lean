/-
  DERIVED. GIVEN WITH THE SEED: THE CARDS: each row of YtgojenokfdiahaaDoorRows.lean that lists a variable, with what it lists TIED to the program's text (the seventh form; the later family's looks); each row that meets fmt, with fmt's text TOLD by the authors' own Lean function (tested against real Go, not proved from fmt's source: count such statements apart). THE CARD IS WHAT COUNTS. Prove the row's statement (the work); the ties are given (YtgojenokfdiahaaDoorTie.lean); close each card by the builder's one call (the guide's Derived/Test/ToyasCard.lean, 'card_holds'). Laid BY PROGRAM, IN A SANDBOX (cutbox-door.mjs). By AI agents, Wed Nov 11 2026. No macro, syntax, notation, axiom, sorry.
-/
import Derived.Test.YtgojenokfdiahaaDoorRows
import GoSem.ClaimSeven
namespace Go.Proofs.YtgojenokfdiahaaDoor
namespace Rows

/-- THE TIED CARD OF 'hutchlaw21.AuditRules'. -/
def auditRulesCard : Claim7 := { stood := { row := auditRulesRow, standIns := [], harness := (true, "caf7d9e38bc1869f9c7910586f49c04a1ab047a68d44dcb8acea860bd0bf7d82"), looks := false }, kinds := [], alts := [], laidByText := true, laidKinds := [.data, .pinned], laidTests := true, laidLooks := .later }
def AuditRulesCardSaid : Prop := Claim7.holds Tryd.pinned (.plain (OpenSpec.ofChange auditRulesSpec)) auditRulesCard

/-- THE SECOND FORM's CARD OF 'hutchlaw21.AuditRules'. -/
def auditRulesUptoCard : Claim7 := { stood := { row := auditRulesUptoRow, standIns := [], harness := (true, "caf7d9e38bc1869f9c7910586f49c04a1ab047a68d44dcb8acea860bd0bf7d82"), looks := false }, kinds := [], alts := [], laidByText := true, laidKinds := [.data, .pinned], laidTests := true, laidLooks := .later }
def AuditRulesUptoCardSaid : Prop := Claim7.holds Tryd.pinned (.plain (OpenSpec.upto auditRulesSpec)) auditRulesUptoCard
end Rows
end Go.Proofs.YtgojenokfdiahaaDoor
