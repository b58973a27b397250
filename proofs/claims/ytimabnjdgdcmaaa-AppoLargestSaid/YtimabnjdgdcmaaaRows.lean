/-
  No cell of these rows narrows 'for every input' (looked for: loops, veiled, ifaces, maps, wideKeys, modest, calm, conditions, laid).
  DERIVED. THE GIVEN ROWS OF THIS SEAT. 12 by the template 'for every input the law returns true; each argument reads behind the call as it read before'; 0 by the template 'total and deterministic' (their statements: YtimabnjdgdcmaaaTotals.lean).
  GIVEN WITH THE SEED: the statements are not yours to turn. If you find one false, say at which input.
  Laid BY PROGRAM, IN A SANDBOX (cutbox-rows.mjs): the forced cells as the released guide's own fill.sh prints them over the translation 93ece72c6bc40230… (all of the seat's roots in one cut). By AI agents, Wed Nov 11 2026. No macro, syntax, notation, axiom, sorry.
-/
import Derived.Test.YtimabnjdgdcmaaaChecked
import GoSem.Claim
import GoSem.ClaimJoined
import GoSem.ClaimMapViews
import Derived.JoinedTies
import Derived.KernelRfl
namespace Go.Proofs.Ytimabnjdgdcmaaa
/- THE CELL 'sum', in the pinned program and in every row, IS THE sha256 OF THE DUMP (.gsa) THAT YtimabnjdgdcmaaaProg.lean LOADS. Nothing in Lean hashes anything: it is a label: what it is worth is what the hold of that sum in a sandbox is worth. -/
noncomputable def Try.pinned : Pinned := { name := "ytimabnjdgdcmaaa", sum := "93ece72c6bc40230b87baf787ab8cc26fb46bb182fe1789877373decc9f16906", checked := Try.checked }
namespace Rows
def none {H : Type} : Left H := { results := [], args := [] }

/-- 'dogwatchlaw02.FixqDivides': WHATEVER THE INPUT: true; the input reads as it did. -/
def fixqDividesSpec : ChangeSpec := { name := "fixqDivides", fn := fun _ => fun
  | [d1, d2, d3] => { results := [.lit (.bool true)], args := [d1, d2, d3] }
  | _ => none }
def fixqDividesRow : OpenClaim := { program := "ytimabnjdgdcmaaa", sum := "93ece72c6bc40230b87baf787ab8cc26fb46bb182fe1789877373decc9f16906", func := "dogwatch/dogwatchlaw02.FixqDivides", spec := "fixqDivides", inPlace := ["math/bits.Add64"], named := ["math/bits.divideError", "math/bits.overflowError"], apart := false }
def FixqDividesSaid : Prop := fixqDividesRow.holds Try.pinned (OpenSpec.ofChange fixqDividesSpec)

/-- ITS FALSE NEIGHBOUR: 'it returns false'. Refute it at one input. -/
def fixqDividesWrong : ChangeSpec := { name := "fixqDivides", fn := fun _ => fun
  | [d1, d2, d3] => { results := [.lit (.bool false)], args := [d1, d2, d3] }
  | _ => none }
def FixqDividesWrongFalsely : Prop := fixqDividesRow.holds Try.pinned (OpenSpec.ofChange fixqDividesWrong)

/-- 'dogwatchlaw02.FixqWhole': WHATEVER THE INPUT: true; the input reads as it did. -/
def fixqWholeSpec : ChangeSpec := { name := "fixqWhole", fn := fun _ => fun
  | [d1, d2, d3] => { results := [.lit (.bool true)], args := [d1, d2, d3] }
  | _ => none }
def fixqWholeRow : OpenClaim := { program := "ytimabnjdgdcmaaa", sum := "93ece72c6bc40230b87baf787ab8cc26fb46bb182fe1789877373decc9f16906", func := "dogwatch/dogwatchlaw02.FixqWhole", spec := "fixqWhole", inPlace := ["math/bits.Add64"], named := ["math/bits.divideError", "math/bits.overflowError"], apart := false }
def FixqWholeSaid : Prop := fixqWholeRow.holds Try.pinned (OpenSpec.ofChange fixqWholeSpec)

/-- ITS FALSE NEIGHBOUR: 'it returns false'. Refute it at one input. -/
def fixqWholeWrong : ChangeSpec := { name := "fixqWhole", fn := fun _ => fun
  | [d1, d2, d3] => { results := [.lit (.bool false)], args := [d1, d2, d3] }
  | _ => none }
def FixqWholeWrongFalsely : Prop := fixqWholeRow.holds Try.pinned (OpenSpec.ofChange fixqWholeWrong)

/-- 'dogwatchlaw02.FixqCompares': WHATEVER THE INPUT: true; the input reads as it did. -/
def fixqComparesSpec : ChangeSpec := { name := "fixqCompares", fn := fun _ => fun
  | [d1, d2, d3, d4, d5, d6] => { results := [.lit (.bool true)], args := [d1, d2, d3, d4, d5, d6] }
  | _ => none }
def fixqComparesRow : OpenClaim := { program := "ytimabnjdgdcmaaa", sum := "93ece72c6bc40230b87baf787ab8cc26fb46bb182fe1789877373decc9f16906", func := "dogwatch/dogwatchlaw02.FixqCompares", spec := "fixqCompares", inPlace := ["math/bits.Add64"], named := ["math/bits.divideError", "math/bits.overflowError"], apart := false }
def FixqComparesSaid : Prop := fixqComparesRow.holds Try.pinned (OpenSpec.ofChange fixqComparesSpec)

/-- ITS FALSE NEIGHBOUR: 'it returns false'. Refute it at one input. -/
def fixqComparesWrong : ChangeSpec := { name := "fixqCompares", fn := fun _ => fun
  | [d1, d2, d3, d4, d5, d6] => { results := [.lit (.bool false)], args := [d1, d2, d3, d4, d5, d6] }
  | _ => none }
def FixqComparesWrongFalsely : Prop := fixqComparesRow.holds Try.pinned (OpenSpec.ofChange fixqComparesWrong)

/-- 'dogwatchlaw02.FixqReduces': WHATEVER THE INPUT: true; the input reads as it did. -/
def fixqReducesSpec : ChangeSpec := { name := "fixqReduces", fn := fun _ => fun
  | [d1, d2] => { results := [.lit (.bool true)], args := [d1, d2] }
  | _ => none }
def fixqReducesRow : OpenClaim := { program := "ytimabnjdgdcmaaa", sum := "93ece72c6bc40230b87baf787ab8cc26fb46bb182fe1789877373decc9f16906", func := "dogwatch/dogwatchlaw02.FixqReduces", spec := "fixqReduces", inPlace := ["math/bits.Add64"], recurses := true, named := ["math/bits.divideError", "math/bits.overflowError"], apart := false }
def FixqReducesSaid : Prop := fixqReducesRow.holds Try.pinned (OpenSpec.ofChange fixqReducesSpec)

/-- ITS FALSE NEIGHBOUR: 'it returns false'. Refute it at one input. -/
def fixqReducesWrong : ChangeSpec := { name := "fixqReduces", fn := fun _ => fun
  | [d1, d2] => { results := [.lit (.bool false)], args := [d1, d2] }
  | _ => none }
def FixqReducesWrongFalsely : Prop := fixqReducesRow.holds Try.pinned (OpenSpec.ofChange fixqReducesWrong)

/-- 'dogwatchlaw02.FixqAdds': WHATEVER THE INPUT: true; the input reads as it did. -/
def fixqAddsSpec : ChangeSpec := { name := "fixqAdds", fn := fun _ => fun
  | [d1, d2] => { results := [.lit (.bool true)], args := [d1, d2] }
  | _ => none }
def fixqAddsRow : OpenClaim := { program := "ytimabnjdgdcmaaa", sum := "93ece72c6bc40230b87baf787ab8cc26fb46bb182fe1789877373decc9f16906", func := "dogwatch/dogwatchlaw02.FixqAdds", spec := "fixqAdds", inPlace := ["math/bits.Add64"], named := ["math/bits.divideError", "math/bits.overflowError"], apart := false }
def FixqAddsSaid : Prop := fixqAddsRow.holds Try.pinned (OpenSpec.ofChange fixqAddsSpec)

/-- ITS FALSE NEIGHBOUR: 'it returns false'. Refute it at one input. -/
def fixqAddsWrong : ChangeSpec := { name := "fixqAdds", fn := fun _ => fun
  | [d1, d2] => { results := [.lit (.bool false)], args := [d1, d2] }
  | _ => none }
def FixqAddsWrongFalsely : Prop := fixqAddsRow.holds Try.pinned (OpenSpec.ofChange fixqAddsWrong)

/-- 'dogwatchlaw02.FixqTimes': WHATEVER THE INPUT: true; the input reads as it did. -/
def fixqTimesSpec : ChangeSpec := { name := "fixqTimes", fn := fun _ => fun
  | [d1, d2] => { results := [.lit (.bool true)], args := [d1, d2] }
  | _ => none }
def fixqTimesRow : OpenClaim := { program := "ytimabnjdgdcmaaa", sum := "93ece72c6bc40230b87baf787ab8cc26fb46bb182fe1789877373decc9f16906", func := "dogwatch/dogwatchlaw02.FixqTimes", spec := "fixqTimes", inPlace := ["math/bits.Add64"], named := ["math/bits.divideError", "math/bits.overflowError"], apart := false }
def FixqTimesSaid : Prop := fixqTimesRow.holds Try.pinned (OpenSpec.ofChange fixqTimesSpec)

/-- ITS FALSE NEIGHBOUR: 'it returns false'. Refute it at one input. -/
def fixqTimesWrong : ChangeSpec := { name := "fixqTimes", fn := fun _ => fun
  | [d1, d2] => { results := [.lit (.bool false)], args := [d1, d2] }
  | _ => none }
def FixqTimesWrongFalsely : Prop := fixqTimesRow.holds Try.pinned (OpenSpec.ofChange fixqTimesWrong)

/-- 'dogwatchlaw03.AppoLargest': WHATEVER THE INPUT: true; the input reads as it did. -/
def appoLargestSpec : ChangeSpec := { name := "appoLargest", fn := fun _ => fun
  | [d1, d2] => { results := [.lit (.bool true)], args := [d1, d2] }
  | _ => none }
def appoLargestRow : OpenClaim := { program := "ytimabnjdgdcmaaa", sum := "93ece72c6bc40230b87baf787ab8cc26fb46bb182fe1789877373decc9f16906", func := "dogwatch/dogwatchlaw03.AppoLargest", spec := "appoLargest", unfollowed := true, recurses := true, apart := false }
def AppoLargestSaid : Prop := appoLargestRow.holds Try.pinned (OpenSpec.ofChange appoLargestSpec)

/-- ITS FALSE NEIGHBOUR: 'it returns false'. Refute it at one input. -/
def appoLargestWrong : ChangeSpec := { name := "appoLargest", fn := fun _ => fun
  | [d1, d2] => { results := [.lit (.bool false)], args := [d1, d2] }
  | _ => none }
def AppoLargestWrongFalsely : Prop := appoLargestRow.holds Try.pinned (OpenSpec.ofChange appoLargestWrong)

/-- 'dogwatchlaw03.AppoNear': WHATEVER THE INPUT: true; the input reads as it did. -/
def appoNearSpec : ChangeSpec := { name := "appoNear", fn := fun _ => fun
  | [d1, d2] => { results := [.lit (.bool true)], args := [d1, d2] }
  | _ => none }
def appoNearRow : OpenClaim := { program := "ytimabnjdgdcmaaa", sum := "93ece72c6bc40230b87baf787ab8cc26fb46bb182fe1789877373decc9f16906", func := "dogwatch/dogwatchlaw03.AppoNear", spec := "appoNear", unfollowed := true, recurses := true, apart := false }
def AppoNearSaid : Prop := appoNearRow.holds Try.pinned (OpenSpec.ofChange appoNearSpec)

/-- ITS FALSE NEIGHBOUR: 'it returns false'. Refute it at one input. -/
def appoNearWrong : ChangeSpec := { name := "appoNear", fn := fun _ => fun
  | [d1, d2] => { results := [.lit (.bool false)], args := [d1, d2] }
  | _ => none }
def AppoNearWrongFalsely : Prop := appoNearRow.holds Try.pinned (OpenSpec.ofChange appoNearWrong)

/-- 'dogwatchlaw03.AppoSeats': WHATEVER THE INPUT: true; the input reads as it did. -/
def appoSeatsSpec : ChangeSpec := { name := "appoSeats", fn := fun _ => fun
  | [d1, d2, d3] => { results := [.lit (.bool true)], args := [d1, d2, d3] }
  | _ => none }
def appoSeatsRow : OpenClaim := { program := "ytimabnjdgdcmaaa", sum := "93ece72c6bc40230b87baf787ab8cc26fb46bb182fe1789877373decc9f16906", func := "dogwatch/dogwatchlaw03.AppoSeats", spec := "appoSeats", unfollowed := true, recurses := true, apart := false }
def AppoSeatsSaid : Prop := appoSeatsRow.holds Try.pinned (OpenSpec.ofChange appoSeatsSpec)

/-- ITS FALSE NEIGHBOUR: 'it returns false'. Refute it at one input. -/
def appoSeatsWrong : ChangeSpec := { name := "appoSeats", fn := fun _ => fun
  | [d1, d2, d3] => { results := [.lit (.bool false)], args := [d1, d2, d3] }
  | _ => none }
def AppoSeatsWrongFalsely : Prop := appoSeatsRow.holds Try.pinned (OpenSpec.ofChange appoSeatsWrong)

/-- 'dogwatchlaw03.AppoMore': WHATEVER THE INPUT: true; the input reads as it did. -/
def appoMoreSpec : ChangeSpec := { name := "appoMore", fn := fun _ => fun
  | [d1, d2] => { results := [.lit (.bool true)], args := [d1, d2] }
  | _ => none }
def appoMoreRow : OpenClaim := { program := "ytimabnjdgdcmaaa", sum := "93ece72c6bc40230b87baf787ab8cc26fb46bb182fe1789877373decc9f16906", func := "dogwatch/dogwatchlaw03.AppoMore", spec := "appoMore", unfollowed := true, recurses := true, apart := false }
def AppoMoreSaid : Prop := appoMoreRow.holds Try.pinned (OpenSpec.ofChange appoMoreSpec)

/-- ITS FALSE NEIGHBOUR: 'it returns false'. Refute it at one input. -/
def appoMoreWrong : ChangeSpec := { name := "appoMore", fn := fun _ => fun
  | [d1, d2] => { results := [.lit (.bool false)], args := [d1, d2] }
  | _ => none }
def AppoMoreWrongFalsely : Prop := appoMoreRow.holds Try.pinned (OpenSpec.ofChange appoMoreWrong)

/-- 'dogwatchlaw03.AppoJust': WHATEVER THE INPUT: true; the input reads as it did. -/
def appoJustSpec : ChangeSpec := { name := "appoJust", fn := fun _ => fun
  | [d1, d2] => { results := [.lit (.bool true)], args := [d1, d2] }
  | _ => none }
def appoJustRow : OpenClaim := { program := "ytimabnjdgdcmaaa", sum := "93ece72c6bc40230b87baf787ab8cc26fb46bb182fe1789877373decc9f16906", func := "dogwatch/dogwatchlaw03.AppoJust", spec := "appoJust", unfollowed := true, recurses := true, apart := false }
def AppoJustSaid : Prop := appoJustRow.holds Try.pinned (OpenSpec.ofChange appoJustSpec)

/-- ITS FALSE NEIGHBOUR: 'it returns false'. Refute it at one input. -/
def appoJustWrong : ChangeSpec := { name := "appoJust", fn := fun _ => fun
  | [d1, d2] => { results := [.lit (.bool false)], args := [d1, d2] }
  | _ => none }
def AppoJustWrongFalsely : Prop := appoJustRow.holds Try.pinned (OpenSpec.ofChange appoJustWrong)

/-- 'dogwatchlaw03.AppoLag': WHATEVER THE INPUT: true; the input reads as it did. -/
def appoLagSpec : ChangeSpec := { name := "appoLag", fn := fun _ => fun
  | [d1, d2] => { results := [.lit (.bool true)], args := [d1, d2] }
  | _ => none }
def appoLagRow : OpenClaim := { program := "ytimabnjdgdcmaaa", sum := "93ece72c6bc40230b87baf787ab8cc26fb46bb182fe1789877373decc9f16906", func := "dogwatch/dogwatchlaw03.AppoLag", spec := "appoLag", unfollowed := true, recurses := true, apart := false }
def AppoLagSaid : Prop := appoLagRow.holds Try.pinned (OpenSpec.ofChange appoLagSpec)

/-- ITS FALSE NEIGHBOUR: 'it returns false'. Refute it at one input. -/
def appoLagWrong : ChangeSpec := { name := "appoLag", fn := fun _ => fun
  | [d1, d2] => { results := [.lit (.bool false)], args := [d1, d2] }
  | _ => none }
def AppoLagWrongFalsely : Prop := appoLagRow.holds Try.pinned (OpenSpec.ofChange appoLagWrong)

/- THE SECOND FORM. 'bulk': how many values and letters a reading holds, each counted each time it is reached (what is shared counts as often as it is met; a slice's spare places count too). A statement '..UptoSaid' is the law's where the arguments, and the package variables that the reading takes, are together of bulk at most 1048576: NARROWER than '..Said'. Prove '..Said' where nothing that the law and all that it calls make is longer than what came in: it says more and counts as full. Else prove '..UptoSaid'. A law counts once. -/
mutual
def uptoBulk {H : Type} : DataW H → Nat
  | .lit (.string bytes) => bytes.length + 1
  | .lit _ => 1
  | .nil => 1
  | .ptr d => uptoBulk d + 1
  | .slice elems spare => uptoBulkAll elems + uptoBulkAll spare + 1
  | .agg parts => uptoBulkAll parts + 1
  | .iface _ d => uptoBulk d + 1
  | .map entries => uptoBulkEntries entries + 1
  | .held _ => 1
def uptoBulkAll {H : Type} : List (DataW H) → Nat
  | [] => 0
  | d :: r => uptoBulk d + uptoBulkAll r
def uptoBulkEntries {H : Type} : List (Lit × DataW H) → Nat
  | [] => 0
  | x :: r => uptoBulkEntry x + uptoBulkEntries r
def uptoBulkEntry {H : Type} : Lit × DataW H → Nat
  | (.string bytes, d) => bytes.length + uptoBulk d + 1
  | (_, d) => uptoBulk d + 1
 end
def uptoSmall : (H : Type) → List (DataW H) → Bool := fun _ ds => decide (uptoBulkAll ds ≤ 1048576)
def OpenSpec.upto (s : _root_.Go.ChangeSpec) : _root_.Go.OpenSpec := { _root_.Go.OpenSpec.ofChange s with cond := some uptoSmall }

/-- 'dogwatchlaw02.FixqDivides', WHERE WHAT IT READS IS OF BULK AT MOST 1048576: true; the input reads as it did. -/
def fixqDividesUptoRow : OpenClaim := { program := "ytimabnjdgdcmaaa", sum := "93ece72c6bc40230b87baf787ab8cc26fb46bb182fe1789877373decc9f16906", func := "dogwatch/dogwatchlaw02.FixqDivides", spec := "fixqDivides", inPlace := ["math/bits.Add64"], named := ["math/bits.divideError", "math/bits.overflowError"], apart := false, narrowed := true }
def FixqDividesUptoSaid : Prop := fixqDividesUptoRow.holds Try.pinned (OpenSpec.upto fixqDividesSpec)

/-- 'dogwatchlaw02.FixqWhole', WHERE WHAT IT READS IS OF BULK AT MOST 1048576: true; the input reads as it did. -/
def fixqWholeUptoRow : OpenClaim := { program := "ytimabnjdgdcmaaa", sum := "93ece72c6bc40230b87baf787ab8cc26fb46bb182fe1789877373decc9f16906", func := "dogwatch/dogwatchlaw02.FixqWhole", spec := "fixqWhole", inPlace := ["math/bits.Add64"], named := ["math/bits.divideError", "math/bits.overflowError"], apart := false, narrowed := true }
def FixqWholeUptoSaid : Prop := fixqWholeUptoRow.holds Try.pinned (OpenSpec.upto fixqWholeSpec)

/-- 'dogwatchlaw02.FixqCompares', WHERE WHAT IT READS IS OF BULK AT MOST 1048576: true; the input reads as it did. -/
def fixqComparesUptoRow : OpenClaim := { program := "ytimabnjdgdcmaaa", sum := "93ece72c6bc40230b87baf787ab8cc26fb46bb182fe1789877373decc9f16906", func := "dogwatch/dogwatchlaw02.FixqCompares", spec := "fixqCompares", inPlace := ["math/bits.Add64"], named := ["math/bits.divideError", "math/bits.overflowError"], apart := false, narrowed := true }
def FixqComparesUptoSaid : Prop := fixqComparesUptoRow.holds Try.pinned (OpenSpec.upto fixqComparesSpec)

/-- 'dogwatchlaw02.FixqReduces', WHERE WHAT IT READS IS OF BULK AT MOST 1048576: true; the input reads as it did. -/
def fixqReducesUptoRow : OpenClaim := { program := "ytimabnjdgdcmaaa", sum := "93ece72c6bc40230b87baf787ab8cc26fb46bb182fe1789877373decc9f16906", func := "dogwatch/dogwatchlaw02.FixqReduces", spec := "fixqReduces", inPlace := ["math/bits.Add64"], recurses := true, named := ["math/bits.divideError", "math/bits.overflowError"], apart := false, narrowed := true }
def FixqReducesUptoSaid : Prop := fixqReducesUptoRow.holds Try.pinned (OpenSpec.upto fixqReducesSpec)

/-- 'dogwatchlaw02.FixqAdds', WHERE WHAT IT READS IS OF BULK AT MOST 1048576: true; the input reads as it did. -/
def fixqAddsUptoRow : OpenClaim := { program := "ytimabnjdgdcmaaa", sum := "93ece72c6bc40230b87baf787ab8cc26fb46bb182fe1789877373decc9f16906", func := "dogwatch/dogwatchlaw02.FixqAdds", spec := "fixqAdds", inPlace := ["math/bits.Add64"], named := ["math/bits.divideError", "math/bits.overflowError"], apart := false, narrowed := true }
def FixqAddsUptoSaid : Prop := fixqAddsUptoRow.holds Try.pinned (OpenSpec.upto fixqAddsSpec)

/-- 'dogwatchlaw02.FixqTimes', WHERE WHAT IT READS IS OF BULK AT MOST 1048576: true; the input reads as it did. -/
def fixqTimesUptoRow : OpenClaim := { program := "ytimabnjdgdcmaaa", sum := "93ece72c6bc40230b87baf787ab8cc26fb46bb182fe1789877373decc9f16906", func := "dogwatch/dogwatchlaw02.FixqTimes", spec := "fixqTimes", inPlace := ["math/bits.Add64"], named := ["math/bits.divideError", "math/bits.overflowError"], apart := false, narrowed := true }
def FixqTimesUptoSaid : Prop := fixqTimesUptoRow.holds Try.pinned (OpenSpec.upto fixqTimesSpec)

/-- 'dogwatchlaw03.AppoLargest', WHERE WHAT IT READS IS OF BULK AT MOST 1048576: true; the input reads as it did. -/
def appoLargestUptoRow : OpenClaim := { program := "ytimabnjdgdcmaaa", sum := "93ece72c6bc40230b87baf787ab8cc26fb46bb182fe1789877373decc9f16906", func := "dogwatch/dogwatchlaw03.AppoLargest", spec := "appoLargest", unfollowed := true, recurses := true, apart := false, narrowed := true }
def AppoLargestUptoSaid : Prop := appoLargestUptoRow.holds Try.pinned (OpenSpec.upto appoLargestSpec)

/-- 'dogwatchlaw03.AppoNear', WHERE WHAT IT READS IS OF BULK AT MOST 1048576: true; the input reads as it did. -/
def appoNearUptoRow : OpenClaim := { program := "ytimabnjdgdcmaaa", sum := "93ece72c6bc40230b87baf787ab8cc26fb46bb182fe1789877373decc9f16906", func := "dogwatch/dogwatchlaw03.AppoNear", spec := "appoNear", unfollowed := true, recurses := true, apart := false, narrowed := true }
def AppoNearUptoSaid : Prop := appoNearUptoRow.holds Try.pinned (OpenSpec.upto appoNearSpec)

/-- 'dogwatchlaw03.AppoSeats', WHERE WHAT IT READS IS OF BULK AT MOST 1048576: true; the input reads as it did. -/
def appoSeatsUptoRow : OpenClaim := { program := "ytimabnjdgdcmaaa", sum := "93ece72c6bc40230b87baf787ab8cc26fb46bb182fe1789877373decc9f16906", func := "dogwatch/dogwatchlaw03.AppoSeats", spec := "appoSeats", unfollowed := true, recurses := true, apart := false, narrowed := true }
def AppoSeatsUptoSaid : Prop := appoSeatsUptoRow.holds Try.pinned (OpenSpec.upto appoSeatsSpec)

/-- 'dogwatchlaw03.AppoMore', WHERE WHAT IT READS IS OF BULK AT MOST 1048576: true; the input reads as it did. -/
def appoMoreUptoRow : OpenClaim := { program := "ytimabnjdgdcmaaa", sum := "93ece72c6bc40230b87baf787ab8cc26fb46bb182fe1789877373decc9f16906", func := "dogwatch/dogwatchlaw03.AppoMore", spec := "appoMore", unfollowed := true, recurses := true, apart := false, narrowed := true }
def AppoMoreUptoSaid : Prop := appoMoreUptoRow.holds Try.pinned (OpenSpec.upto appoMoreSpec)

/-- 'dogwatchlaw03.AppoJust', WHERE WHAT IT READS IS OF BULK AT MOST 1048576: true; the input reads as it did. -/
def appoJustUptoRow : OpenClaim := { program := "ytimabnjdgdcmaaa", sum := "93ece72c6bc40230b87baf787ab8cc26fb46bb182fe1789877373decc9f16906", func := "dogwatch/dogwatchlaw03.AppoJust", spec := "appoJust", unfollowed := true, recurses := true, apart := false, narrowed := true }
def AppoJustUptoSaid : Prop := appoJustUptoRow.holds Try.pinned (OpenSpec.upto appoJustSpec)

/-- 'dogwatchlaw03.AppoLag', WHERE WHAT IT READS IS OF BULK AT MOST 1048576: true; the input reads as it did. -/
def appoLagUptoRow : OpenClaim := { program := "ytimabnjdgdcmaaa", sum := "93ece72c6bc40230b87baf787ab8cc26fb46bb182fe1789877373decc9f16906", func := "dogwatch/dogwatchlaw03.AppoLag", spec := "appoLag", unfollowed := true, recurses := true, apart := false, narrowed := true }
def AppoLagUptoSaid : Prop := appoLagUptoRow.holds Try.pinned (OpenSpec.upto appoLagSpec)

end Rows
end Go.Proofs.Ytimabnjdgdcmaaa
