/- Printed by the kit's print.py, from a print with stand-ins for two functions; their contracts are proved by hand. -/
import Derived.Test.YthjgjfelbagljabDoorProg
import Derived.Below
import Derived.Deep.Draws
import Derived.Deep.AppendLies
import Derived.Maps.AppendAt
import Derived.OwnWalk
import Derived.Laws.BytesArg
import Derived.Laws.MakeOwn
import Derived.Laws.OwnMore
import Derived.Deep.OwnRows
import Derived.Tactics
import Derived.Lib.ConvBytes
import Derived.Laws.Slices
import Derived.WalkKit
import Derived.KernelRfl
import Derived.RowKit3
import Derived.Deep.LoopGhost
import Derived.Deep.QuietTactic
import Derived.BigQuiet
import Derived.WideLaws
import Derived.Deep.DeepCutAuto
import Derived.Deep.CutBlock
import Derived.Deep.RegionHeld3
import Derived.Laws.Rows
import Derived.Lib.AppendStr
import Derived.ArgAppend
import Derived.Laws.IdiomCopy
import Derived.OrdersHeld
import Derived.Laws.BitsLemmas
import Derived.RowKit
import Derived.Test.YthjgjfelbagljabDoorWWords
import Derived.Test.YthjgjfelbagljabDoorWLast
import Derived.Test.YthjgjfelbagljabDoorWTab
import Derived.Test.YthjgjfelbagljabDoorWFour
import Derived.Test.YthjgjfelbagljabDoorWQPut
import Derived.Test.YthjgjfelbagljabDoorWApart
import Derived.Test.YthjgjfelbagljabDoorWArr
import Derived.Test.YthjgjfelbagljabDoorWZeros
import Derived.Test.YthjgjfelbagljabDoorWFoot
import Derived.Test.YthjgjfelbagljabDoorWKept
import Derived.Test.YthjgjfelbagljabDoorWShare
import Derived.Test.YthjgjfelbagljabDoorWN
import Derived.Test.YthjgjfelbagljabDoorWFootNe
import Derived.Test.YthjgjfelbagljabDoorWAt
import Derived.Test.YthjgjfelbagljabDoorWEqStruct
import Derived.Test.YthjgjfelbagljabDoorWRepsOne
import Derived.Test.YthjgjfelbagljabDoorWInv
import Derived.Test.YthjgjfelbagljabDoorWInvWords
import Derived.Test.YthjgjfelbagljabDoorWGuard
import Derived.Test.YthjgjfelbagljabDoorWNEv
import Derived.Test.YthjgjfelbagljabDoorWMore
import Derived.Laws.Externs
import Derived.Test.YthjgjfelbagljabDoorMem
namespace Go.Proofs.YthjgjfelbagljabDoor.PBoundsTells
open Go.RowKit Go.Proofs.YthjgjfelbagljabDoorW.PrintWords Go.Proofs.YthjgjfelbagljabDoorW.PrintLast Go.Proofs.YthjgjfelbagljabDoorW.PrintMore
attribute [local go_sem] max2_int min2_int max_two min_two max_three min_three max_four min_four   -- for this text's walks alone
set_option linter.unusedVariables false
set_option linter.unusedSimpArgs false



def errW : Option Int → Value
  | none => .nilIface
  | some c => .iface 0 (.int .i64 c)
theorem errW_none : errW none = .nilIface := rfl
theorem errW_some (c : Int) : errW (some c) = .iface 0 (.int .i64 c) := rfl

theorem info3 : (Tryd.prog.info? 3).map (fun i => (i.zero, i.size, i.bytes)) = some (some (.int .i64 0), 1, 8) := by kernel_rfl
theorem info4 : (Tryd.prog.info? 4).map (fun i => (i.zero, i.size, i.bytes)) = some (some (.bool false), 1, 1) := by kernel_rfl
theorem info9 : (Tryd.prog.info? 9).map (fun i => (i.zero, i.size, i.bytes)) = some (some (.string ⟨#[]⟩), 1, 16) := by kernel_rfl
theorem info22 : (Tryd.prog.info? 22).map (fun i => (i.zero, i.size, i.bytes)) = some (some (.int .u64 0), 1, 8) := by kernel_rfl
-- the values' own types

end Go.Proofs.YthjgjfelbagljabDoor.PBoundsTells
