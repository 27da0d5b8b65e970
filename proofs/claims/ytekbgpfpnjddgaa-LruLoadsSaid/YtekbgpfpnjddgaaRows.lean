/-
  No cell of these rows narrows 'for every input' (looked for: loops, veiled, ifaces, maps, wideKeys, modest, calm, conditions, laid).
  DERIVED. THE GIVEN ROWS OF THIS SEAT. 4 by the template 'for every input the law returns true; each argument reads behind the call as it read before'; 0 by the template 'total and deterministic' (their statements: YtekbgpfpnjddgaaTotals.lean).
  GIVEN WITH THE SEED: the statements are not yours to turn. If you find one false, say at which input.
  Laid BY PROGRAM, IN A SANDBOX (cutbox-rows.mjs): the forced cells as the released guide's own fill.sh prints them over the translation 69d727d842bc8679… (all of the seat's roots in one cut). By AI agents, Wed Nov 11 2026. No macro, syntax, notation, axiom, sorry.
-/
import Derived.Test.YtekbgpfpnjddgaaChecked
import GoSem.Claim
import GoSem.ClaimJoined
import GoSem.ClaimMapViews
import Derived.JoinedTies
import Derived.KernelRfl
namespace Go.Proofs.Ytekbgpfpnjddgaa
/- THE CELL 'sum', in the pinned program and in every row, IS THE sha256 OF THE DUMP (.gsa) THAT YtekbgpfpnjddgaaProg.lean LOADS. Nothing in Lean hashes anything: it is a label: what it is worth is what the hold of that sum in a sandbox is worth. -/
noncomputable def Try.pinned : Pinned := { name := "ytekbgpfpnjddgaa", sum := "69d727d842bc8679629d7c4a4fe7d1e4c5f793e4268ff2fca9b015e406e552d2", checked := Try.checked }
namespace Rows
def none {H : Type} : Left H := { results := [], args := [] }

/-- 'hutchlaw16.LruRecent': WHATEVER THE INPUT: true; the input reads as it did. -/
def lruRecentSpec : ChangeSpec := { name := "lruRecent", fn := fun _ => fun
  | [d1, d2] => { results := [.lit (.bool true)], args := [d1, d2] }
  | _ => none }
def lruRecentRow : OpenClaim := { program := "ytekbgpfpnjddgaa", sum := "69d727d842bc8679629d7c4a4fe7d1e4c5f793e4268ff2fca9b015e406e552d2", func := "hutch/hutchlaw16.LruRecent", spec := "lruRecent", unfollowed := true, recurses := true, apart := false }
def LruRecentSaid : Prop := lruRecentRow.holds Try.pinned (OpenSpec.ofChange lruRecentSpec)

/-- ITS FALSE NEIGHBOUR: 'it returns false'. Refute it at one input. -/
def lruRecentWrong : ChangeSpec := { name := "lruRecent", fn := fun _ => fun
  | [d1, d2] => { results := [.lit (.bool false)], args := [d1, d2] }
  | _ => none }
def LruRecentWrongFalsely : Prop := lruRecentRow.holds Try.pinned (OpenSpec.ofChange lruRecentWrong)

/-- 'hutchlaw16.LruGrows': WHATEVER THE INPUT: true; the input reads as it did. -/
def lruGrowsSpec : ChangeSpec := { name := "lruGrows", fn := fun _ => fun
  | [d1, d2, d3] => { results := [.lit (.bool true)], args := [d1, d2, d3] }
  | _ => none }
def lruGrowsRow : OpenClaim := { program := "ytekbgpfpnjddgaa", sum := "69d727d842bc8679629d7c4a4fe7d1e4c5f793e4268ff2fca9b015e406e552d2", func := "hutch/hutchlaw16.LruGrows", spec := "lruGrows", unfollowed := true, recurses := true, apart := false }
def LruGrowsSaid : Prop := lruGrowsRow.holds Try.pinned (OpenSpec.ofChange lruGrowsSpec)

/-- ITS FALSE NEIGHBOUR: 'it returns false'. Refute it at one input. -/
def lruGrowsWrong : ChangeSpec := { name := "lruGrows", fn := fun _ => fun
  | [d1, d2, d3] => { results := [.lit (.bool false)], args := [d1, d2, d3] }
  | _ => none }
def LruGrowsWrongFalsely : Prop := lruGrowsRow.holds Try.pinned (OpenSpec.ofChange lruGrowsWrong)

/-- 'hutchlaw16.LruLoads': WHATEVER THE INPUT: true; the input reads as it did. -/
def lruLoadsSpec : ChangeSpec := { name := "lruLoads", fn := fun _ => fun
  | [d1, d2] => { results := [.lit (.bool true)], args := [d1, d2] }
  | _ => none }
def lruLoadsRow : OpenClaim := { program := "ytekbgpfpnjddgaa", sum := "69d727d842bc8679629d7c4a4fe7d1e4c5f793e4268ff2fca9b015e406e552d2", func := "hutch/hutchlaw16.LruLoads", spec := "lruLoads", unfollowed := true, recurses := true, apart := false }
def LruLoadsSaid : Prop := lruLoadsRow.holds Try.pinned (OpenSpec.ofChange lruLoadsSpec)

/-- ITS FALSE NEIGHBOUR: 'it returns false'. Refute it at one input. -/
def lruLoadsWrong : ChangeSpec := { name := "lruLoads", fn := fun _ => fun
  | [d1, d2] => { results := [.lit (.bool false)], args := [d1, d2] }
  | _ => none }
def LruLoadsWrongFalsely : Prop := lruLoadsRow.holds Try.pinned (OpenSpec.ofChange lruLoadsWrong)

/-- 'hutchlaw16.LruNil': WHATEVER THE INPUT: true; the input reads as it did. -/
def lruNilSpec : ChangeSpec := { name := "lruNil", fn := fun _ => fun
  | [d1, d2] => { results := [.lit (.bool true)], args := [d1, d2] }
  | _ => none }
def lruNilRow : OpenClaim := { program := "ytekbgpfpnjddgaa", sum := "69d727d842bc8679629d7c4a4fe7d1e4c5f793e4268ff2fca9b015e406e552d2", func := "hutch/hutchlaw16.LruNil", spec := "lruNil", unfollowed := true, recurses := true, apart := false }
def LruNilSaid : Prop := lruNilRow.holds Try.pinned (OpenSpec.ofChange lruNilSpec)

/-- ITS FALSE NEIGHBOUR: 'it returns false'. Refute it at one input. -/
def lruNilWrong : ChangeSpec := { name := "lruNil", fn := fun _ => fun
  | [d1, d2] => { results := [.lit (.bool false)], args := [d1, d2] }
  | _ => none }
def LruNilWrongFalsely : Prop := lruNilRow.holds Try.pinned (OpenSpec.ofChange lruNilWrong)

/- THE SECOND FORM. 'bulk': how many values and letters a reading holds, each counted each time it is reached (what is shared counts as often as it is met; a slice's spare places count too). A statement '..UptoSaid' is the law's where the arguments, and the package variables that the reading takes, are together of bulk at most 1048576: NARROWER than '..Said'. Prove '..Said' where nothing that the law and all that it calls make is longer than what came in: it says more and counts as full. Else prove '..UptoSaid'. A law counts once. -/
mutual
def uptoBulk {H : Type} : DataW H → Nat
  | .lit (.string bytes) => bytes.length + 1
  | .lit _ => 1
  | .nil => 1
  | .ptr d => uptoBulk d + 1
  | .slice elems spare => uptoBulkAll elems + uptoBulkAll spare + 1
  | .agg parts => uptoBulkAll parts + 1
  | .iface _ d => uptoBulk d + 1
  | .map entries => uptoBulkEntries entries + 1
  | .held _ => 1
def uptoBulkAll {H : Type} : List (DataW H) → Nat
  | [] => 0
  | d :: r => uptoBulk d + uptoBulkAll r
def uptoBulkEntries {H : Type} : List (Lit × DataW H) → Nat
  | [] => 0
  | x :: r => uptoBulkEntry x + uptoBulkEntries r
def uptoBulkEntry {H : Type} : Lit × DataW H → Nat
  | (.string bytes, d) => bytes.length + uptoBulk d + 1
  | (_, d) => uptoBulk d + 1
 end
def uptoSmall : (H : Type) → List (DataW H) → Bool := fun _ ds => decide (uptoBulkAll ds ≤ 1048576)
def OpenSpec.upto (s : _root_.Go.ChangeSpec) : _root_.Go.OpenSpec := { _root_.Go.OpenSpec.ofChange s with cond := some uptoSmall }

/-- 'hutchlaw16.LruRecent', WHERE WHAT IT READS IS OF BULK AT MOST 1048576: true; the input reads as it did. -/
def lruRecentUptoRow : OpenClaim := { program := "ytekbgpfpnjddgaa", sum := "69d727d842bc8679629d7c4a4fe7d1e4c5f793e4268ff2fca9b015e406e552d2", func := "hutch/hutchlaw16.LruRecent", spec := "lruRecent", unfollowed := true, recurses := true, apart := false, narrowed := true }
def LruRecentUptoSaid : Prop := lruRecentUptoRow.holds Try.pinned (OpenSpec.upto lruRecentSpec)

/-- 'hutchlaw16.LruGrows', WHERE WHAT IT READS IS OF BULK AT MOST 1048576: true; the input reads as it did. -/
def lruGrowsUptoRow : OpenClaim := { program := "ytekbgpfpnjddgaa", sum := "69d727d842bc8679629d7c4a4fe7d1e4c5f793e4268ff2fca9b015e406e552d2", func := "hutch/hutchlaw16.LruGrows", spec := "lruGrows", unfollowed := true, recurses := true, apart := false, narrowed := true }
def LruGrowsUptoSaid : Prop := lruGrowsUptoRow.holds Try.pinned (OpenSpec.upto lruGrowsSpec)

/-- 'hutchlaw16.LruLoads', WHERE WHAT IT READS IS OF BULK AT MOST 1048576: true; the input reads as it did. -/
def lruLoadsUptoRow : OpenClaim := { program := "ytekbgpfpnjddgaa", sum := "69d727d842bc8679629d7c4a4fe7d1e4c5f793e4268ff2fca9b015e406e552d2", func := "hutch/hutchlaw16.LruLoads", spec := "lruLoads", unfollowed := true, recurses := true, apart := false, narrowed := true }
def LruLoadsUptoSaid : Prop := lruLoadsUptoRow.holds Try.pinned (OpenSpec.upto lruLoadsSpec)

/-- 'hutchlaw16.LruNil', WHERE WHAT IT READS IS OF BULK AT MOST 1048576: true; the input reads as it did. -/
def lruNilUptoRow : OpenClaim := { program := "ytekbgpfpnjddgaa", sum := "69d727d842bc8679629d7c4a4fe7d1e4c5f793e4268ff2fca9b015e406e552d2", func := "hutch/hutchlaw16.LruNil", spec := "lruNil", unfollowed := true, recurses := true, apart := false, narrowed := true }
def LruNilUptoSaid : Prop := lruNilUptoRow.holds Try.pinned (OpenSpec.upto lruNilSpec)

end Rows
end Go.Proofs.Ytekbgpfpnjddgaa
