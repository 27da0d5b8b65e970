/-
  No cell of these rows narrows 'for every input' (looked for: loops, veiled, ifaces, maps, wideKeys, modest, calm, conditions, laid).
  DERIVED. THE GIVEN ROWS OF THIS SEAT. 6 by the template 'for every input the law returns true; each argument reads behind the call as it read before'; 0 by the template 'total and deterministic' (their statements: YthjgjfelbagljaaTotals.lean).
  GIVEN WITH THE SEED: the statements are not yours to turn. If you find one false, say at which input.
  Laid BY PROGRAM, IN A SANDBOX (cutbox-rows.mjs): the forced cells as the released guide's own fill.sh prints them over the translation 594285823ba09083… (all of the seat's roots in one cut). By AI agents, Wed Nov 11 2026. No macro, syntax, notation, axiom, sorry.
-/
import Derived.Test.YthjgjfelbagljaaChecked
import GoSem.Claim
import GoSem.ClaimJoined
import GoSem.ClaimMapViews
import Derived.JoinedTies
import Derived.KernelRfl
namespace Go.Proofs.Ythjgjfelbagljaa
/- THE CELL 'sum', in the pinned program and in every row, IS THE sha256 OF THE DUMP (.gsa) THAT YthjgjfelbagljaaProg.lean LOADS. Nothing in Lean hashes anything: it is a label: what it is worth is what the hold of that sum in a sandbox is worth. -/
noncomputable def Try.pinned : Pinned := { name := "ythjgjfelbagljaa", sum := "594285823ba09083c0ee99156a5383ab38611846a87a88c43b79b277400e09fb", checked := Try.checked }
namespace Rows
def none {H : Type} : Left H := { results := [], args := [] }

/-- 'hutchlaw33.SizerSteps': WHATEVER THE INPUT: true; the input reads as it did. -/
def sizerStepsSpec : ChangeSpec := { name := "sizerSteps", fn := fun _ => fun
  | [d1, d2, d3, d4] => { results := [.lit (.bool true)], args := [d1, d2, d3, d4] }
  | _ => none }
def sizerStepsRow : OpenClaim := { program := "ythjgjfelbagljaa", sum := "594285823ba09083c0ee99156a5383ab38611846a87a88c43b79b277400e09fb", func := "hutch/hutchlaw33.SizerSteps", spec := "sizerSteps", unfollowed := true, recurses := true, apart := false }
def SizerStepsSaid : Prop := sizerStepsRow.holds Try.pinned (OpenSpec.ofChange sizerStepsSpec)

/-- ITS FALSE NEIGHBOUR: 'it returns false'. Refute it at one input. -/
def sizerStepsWrong : ChangeSpec := { name := "sizerSteps", fn := fun _ => fun
  | [d1, d2, d3, d4] => { results := [.lit (.bool false)], args := [d1, d2, d3, d4] }
  | _ => none }
def SizerStepsWrongFalsely : Prop := sizerStepsRow.holds Try.pinned (OpenSpec.ofChange sizerStepsWrong)

/-- 'hutchlaw33.SizerMany': WHATEVER THE INPUT: true; the input reads as it did. -/
def sizerManySpec : ChangeSpec := { name := "sizerMany", fn := fun _ => fun
  | [d1, d2, d3] => { results := [.lit (.bool true)], args := [d1, d2, d3] }
  | _ => none }
def sizerManyRow : OpenClaim := { program := "ythjgjfelbagljaa", sum := "594285823ba09083c0ee99156a5383ab38611846a87a88c43b79b277400e09fb", func := "hutch/hutchlaw33.SizerMany", spec := "sizerMany", unfollowed := true, recurses := true, apart := false }
def SizerManySaid : Prop := sizerManyRow.holds Try.pinned (OpenSpec.ofChange sizerManySpec)

/-- ITS FALSE NEIGHBOUR: 'it returns false'. Refute it at one input. -/
def sizerManyWrong : ChangeSpec := { name := "sizerMany", fn := fun _ => fun
  | [d1, d2, d3] => { results := [.lit (.bool false)], args := [d1, d2, d3] }
  | _ => none }
def SizerManyWrongFalsely : Prop := sizerManyRow.holds Try.pinned (OpenSpec.ofChange sizerManyWrong)

/-- 'hutchlaw04.ChainLeaves': WHATEVER THE INPUT: true; the input reads as it did. -/
def chainLeavesSpec : ChangeSpec := { name := "chainLeaves", fn := fun _ => fun
  | [d1, d2] => { results := [.lit (.bool true)], args := [d1, d2] }
  | _ => none }
def chainLeavesRow : OpenClaim := { program := "ythjgjfelbagljaa", sum := "594285823ba09083c0ee99156a5383ab38611846a87a88c43b79b277400e09fb", func := "hutch/hutchlaw04.ChainLeaves", spec := "chainLeaves", unfollowed := true, recurses := true, apart := false }
def ChainLeavesSaid : Prop := chainLeavesRow.holds Try.pinned (OpenSpec.ofChange chainLeavesSpec)

/-- ITS FALSE NEIGHBOUR: 'it returns false'. Refute it at one input. -/
def chainLeavesWrong : ChangeSpec := { name := "chainLeaves", fn := fun _ => fun
  | [d1, d2] => { results := [.lit (.bool false)], args := [d1, d2] }
  | _ => none }
def ChainLeavesWrongFalsely : Prop := chainLeavesRow.holds Try.pinned (OpenSpec.ofChange chainLeavesWrong)

/-- 'hutchlaw04.ChainTells': WHATEVER THE INPUT: true; the input reads as it did. -/
def chainTellsSpec : ChangeSpec := { name := "chainTells", fn := fun _ => fun
  | [d1, d2] => { results := [.lit (.bool true)], args := [d1, d2] }
  | _ => none }
def chainTellsRow : OpenClaim := { program := "ythjgjfelbagljaa", sum := "594285823ba09083c0ee99156a5383ab38611846a87a88c43b79b277400e09fb", func := "hutch/hutchlaw04.ChainTells", spec := "chainTells", unfollowed := true, recurses := true, apart := false }
def ChainTellsSaid : Prop := chainTellsRow.holds Try.pinned (OpenSpec.ofChange chainTellsSpec)

/-- ITS FALSE NEIGHBOUR: 'it returns false'. Refute it at one input. -/
def chainTellsWrong : ChangeSpec := { name := "chainTells", fn := fun _ => fun
  | [d1, d2] => { results := [.lit (.bool false)], args := [d1, d2] }
  | _ => none }
def ChainTellsWrongFalsely : Prop := chainTellsRow.holds Try.pinned (OpenSpec.ofChange chainTellsWrong)

/-- 'hutchlaw04.ChainPlays': WHATEVER THE INPUT: true; the input reads as it did. -/
def chainPlaysSpec : ChangeSpec := { name := "chainPlays", fn := fun _ => fun
  | [d1, d2, d3] => { results := [.lit (.bool true)], args := [d1, d2, d3] }
  | _ => none }
def chainPlaysRow : OpenClaim := { program := "ythjgjfelbagljaa", sum := "594285823ba09083c0ee99156a5383ab38611846a87a88c43b79b277400e09fb", func := "hutch/hutchlaw04.ChainPlays", spec := "chainPlays", unfollowed := true, recurses := true, apart := false }
def ChainPlaysSaid : Prop := chainPlaysRow.holds Try.pinned (OpenSpec.ofChange chainPlaysSpec)

/-- ITS FALSE NEIGHBOUR: 'it returns false'. Refute it at one input. -/
def chainPlaysWrong : ChangeSpec := { name := "chainPlays", fn := fun _ => fun
  | [d1, d2, d3] => { results := [.lit (.bool false)], args := [d1, d2, d3] }
  | _ => none }
def ChainPlaysWrongFalsely : Prop := chainPlaysRow.holds Try.pinned (OpenSpec.ofChange chainPlaysWrong)

/-- 'hutchlaw04.ChainNil': WHATEVER THE INPUT: true; the input reads as it did. -/
def chainNilSpec : ChangeSpec := { name := "chainNil", fn := fun _ => fun
  | [d1, d2] => { results := [.lit (.bool true)], args := [d1, d2] }
  | _ => none }
def chainNilRow : OpenClaim := { program := "ythjgjfelbagljaa", sum := "594285823ba09083c0ee99156a5383ab38611846a87a88c43b79b277400e09fb", func := "hutch/hutchlaw04.ChainNil", spec := "chainNil", unfollowed := true, recurses := true, apart := false }
def ChainNilSaid : Prop := chainNilRow.holds Try.pinned (OpenSpec.ofChange chainNilSpec)

/-- ITS FALSE NEIGHBOUR: 'it returns false'. Refute it at one input. -/
def chainNilWrong : ChangeSpec := { name := "chainNil", fn := fun _ => fun
  | [d1, d2] => { results := [.lit (.bool false)], args := [d1, d2] }
  | _ => none }
def ChainNilWrongFalsely : Prop := chainNilRow.holds Try.pinned (OpenSpec.ofChange chainNilWrong)

/- THE SECOND FORM. 'bulk': how many values and letters a reading holds, each counted each time it is reached (what is shared counts as often as it is met; a slice's spare places count too). A statement '..UptoSaid' is the law's where the arguments, and the package variables that the reading takes, are together of bulk at most 1048576: NARROWER than '..Said'. Prove '..Said' where nothing that the law and all that it calls make is longer than what came in: it says more and counts as full. Else prove '..UptoSaid'. A law counts once. -/
mutual
def uptoBulk {H : Type} : DataW H → Nat
  | .lit (.string bytes) => bytes.length + 1
  | .lit _ => 1
  | .nil => 1
  | .ptr d => uptoBulk d + 1
  | .slice elems spare => uptoBulkAll elems + uptoBulkAll spare + 1
  | .agg parts => uptoBulkAll parts + 1
  | .iface _ d => uptoBulk d + 1
  | .map entries => uptoBulkEntries entries + 1
  | .held _ => 1
def uptoBulkAll {H : Type} : List (DataW H) → Nat
  | [] => 0
  | d :: r => uptoBulk d + uptoBulkAll r
def uptoBulkEntries {H : Type} : List (Lit × DataW H) → Nat
  | [] => 0
  | x :: r => uptoBulkEntry x + uptoBulkEntries r
def uptoBulkEntry {H : Type} : Lit × DataW H → Nat
  | (.string bytes, d) => bytes.length + uptoBulk d + 1
  | (_, d) => uptoBulk d + 1
 end
def uptoSmall : (H : Type) → List (DataW H) → Bool := fun _ ds => decide (uptoBulkAll ds ≤ 1048576)
def OpenSpec.upto (s : _root_.Go.ChangeSpec) : _root_.Go.OpenSpec := { _root_.Go.OpenSpec.ofChange s with cond := some uptoSmall }

/-- 'hutchlaw33.SizerSteps', WHERE WHAT IT READS IS OF BULK AT MOST 1048576: true; the input reads as it did. -/
def sizerStepsUptoRow : OpenClaim := { program := "ythjgjfelbagljaa", sum := "594285823ba09083c0ee99156a5383ab38611846a87a88c43b79b277400e09fb", func := "hutch/hutchlaw33.SizerSteps", spec := "sizerSteps", unfollowed := true, recurses := true, apart := false, narrowed := true }
def SizerStepsUptoSaid : Prop := sizerStepsUptoRow.holds Try.pinned (OpenSpec.upto sizerStepsSpec)

/-- 'hutchlaw33.SizerMany', WHERE WHAT IT READS IS OF BULK AT MOST 1048576: true; the input reads as it did. -/
def sizerManyUptoRow : OpenClaim := { program := "ythjgjfelbagljaa", sum := "594285823ba09083c0ee99156a5383ab38611846a87a88c43b79b277400e09fb", func := "hutch/hutchlaw33.SizerMany", spec := "sizerMany", unfollowed := true, recurses := true, apart := false, narrowed := true }
def SizerManyUptoSaid : Prop := sizerManyUptoRow.holds Try.pinned (OpenSpec.upto sizerManySpec)

/-- 'hutchlaw04.ChainLeaves', WHERE WHAT IT READS IS OF BULK AT MOST 1048576: true; the input reads as it did. -/
def chainLeavesUptoRow : OpenClaim := { program := "ythjgjfelbagljaa", sum := "594285823ba09083c0ee99156a5383ab38611846a87a88c43b79b277400e09fb", func := "hutch/hutchlaw04.ChainLeaves", spec := "chainLeaves", unfollowed := true, recurses := true, apart := false, narrowed := true }
def ChainLeavesUptoSaid : Prop := chainLeavesUptoRow.holds Try.pinned (OpenSpec.upto chainLeavesSpec)

/-- 'hutchlaw04.ChainTells', WHERE WHAT IT READS IS OF BULK AT MOST 1048576: true; the input reads as it did. -/
def chainTellsUptoRow : OpenClaim := { program := "ythjgjfelbagljaa", sum := "594285823ba09083c0ee99156a5383ab38611846a87a88c43b79b277400e09fb", func := "hutch/hutchlaw04.ChainTells", spec := "chainTells", unfollowed := true, recurses := true, apart := false, narrowed := true }
def ChainTellsUptoSaid : Prop := chainTellsUptoRow.holds Try.pinned (OpenSpec.upto chainTellsSpec)

/-- 'hutchlaw04.ChainPlays', WHERE WHAT IT READS IS OF BULK AT MOST 1048576: true; the input reads as it did. -/
def chainPlaysUptoRow : OpenClaim := { program := "ythjgjfelbagljaa", sum := "594285823ba09083c0ee99156a5383ab38611846a87a88c43b79b277400e09fb", func := "hutch/hutchlaw04.ChainPlays", spec := "chainPlays", unfollowed := true, recurses := true, apart := false, narrowed := true }
def ChainPlaysUptoSaid : Prop := chainPlaysUptoRow.holds Try.pinned (OpenSpec.upto chainPlaysSpec)

/-- 'hutchlaw04.ChainNil', WHERE WHAT IT READS IS OF BULK AT MOST 1048576: true; the input reads as it did. -/
def chainNilUptoRow : OpenClaim := { program := "ythjgjfelbagljaa", sum := "594285823ba09083c0ee99156a5383ab38611846a87a88c43b79b277400e09fb", func := "hutch/hutchlaw04.ChainNil", spec := "chainNil", unfollowed := true, recurses := true, apart := false, narrowed := true }
def ChainNilUptoSaid : Prop := chainNilUptoRow.holds Try.pinned (OpenSpec.upto chainNilSpec)

end Rows
end Go.Proofs.Ythjgjfelbagljaa
