/-
  No cell of these rows narrows 'for every input' (looked for: loops, veiled, ifaces, maps, wideKeys, modest, calm, conditions, laid).
  DERIVED. THE GIVEN ROWS OF THIS SEAT. 10 by the template 'for every input the law returns true; each argument reads behind the call as it read before'; 0 by the template 'total and deterministic' (their statements: YtgfkcmmhnibaiaaTotals.lean).
  GIVEN WITH THE SEED: the statements are not yours to turn. If you find one false, say at which input.
  Laid BY PROGRAM, IN A SANDBOX (cutbox-rows.mjs): the forced cells as the released guide's own fill.sh prints them over the translation f331b62910d34c66… (all of the seat's roots in one cut). By AI agents, Wed Nov 11 2026. No macro, syntax, notation, axiom, sorry.
-/
import Derived.Test.YtgfkcmmhnibaiaaChecked
import GoSem.Claim
import GoSem.ClaimJoined
import GoSem.ClaimMapViews
import Derived.JoinedTies
import Derived.KernelRfl
namespace Go.Proofs.Ytgfkcmmhnibaiaa
/- THE CELL 'sum', in the pinned program and in every row, IS THE sha256 OF THE DUMP (.gsa) THAT YtgfkcmmhnibaiaaProg.lean LOADS. Nothing in Lean hashes anything: it is a label: what it is worth is what the hold of that sum in a sandbox is worth. -/
noncomputable def Try.pinned : Pinned := { name := "ytgfkcmmhnibaiaa", sum := "f331b62910d34c6607d0d303415aa9db2209f3773312731d130a7f3c0b43f692", checked := Try.checked }
namespace Rows
def none {H : Type} : Left H := { results := [], args := [] }

/-- 'dogwatchlaw12.ReplyWrites': WHATEVER THE INPUT: true; the input reads as it did. -/
def replyWritesSpec : ChangeSpec := { name := "replyWrites", fn := fun _ => fun
  | [d1, d2] => { results := [.lit (.bool true)], args := [d1, d2] }
  | _ => none }
def replyWritesRow : OpenClaim := { program := "ytgfkcmmhnibaiaa", sum := "f331b62910d34c6607d0d303415aa9db2209f3773312731d130a7f3c0b43f692", func := "dogwatch/dogwatchlaw12.ReplyWrites", spec := "replyWrites", unfollowed := true, recurses := true, apart := false }
def ReplyWritesSaid : Prop := replyWritesRow.holds Try.pinned (OpenSpec.ofChange replyWritesSpec)

/-- ITS FALSE NEIGHBOUR: 'it returns false'. Refute it at one input. -/
def replyWritesWrong : ChangeSpec := { name := "replyWrites", fn := fun _ => fun
  | [d1, d2] => { results := [.lit (.bool false)], args := [d1, d2] }
  | _ => none }
def ReplyWritesWrongFalsely : Prop := replyWritesRow.holds Try.pinned (OpenSpec.ofChange replyWritesWrong)

/-- 'dogwatchlaw13.RowWrites': WHATEVER THE INPUT: true; the input reads as it did. -/
def rowWritesSpec : ChangeSpec := { name := "rowWrites", fn := fun _ => fun
  | [d1, d2] => { results := [.lit (.bool true)], args := [d1, d2] }
  | _ => none }
def rowWritesRow : OpenClaim := { program := "ytgfkcmmhnibaiaa", sum := "f331b62910d34c6607d0d303415aa9db2209f3773312731d130a7f3c0b43f692", func := "dogwatch/dogwatchlaw13.RowWrites", spec := "rowWrites", unfollowed := true, recurses := true, apart := false }
def RowWritesSaid : Prop := rowWritesRow.holds Try.pinned (OpenSpec.ofChange rowWritesSpec)

/-- ITS FALSE NEIGHBOUR: 'it returns false'. Refute it at one input. -/
def rowWritesWrong : ChangeSpec := { name := "rowWrites", fn := fun _ => fun
  | [d1, d2] => { results := [.lit (.bool false)], args := [d1, d2] }
  | _ => none }
def RowWritesWrongFalsely : Prop := rowWritesRow.holds Try.pinned (OpenSpec.ofChange rowWritesWrong)

/-- 'dogwatchlaw32.AccountAll': WHATEVER THE INPUT: true; the input reads as it did. -/
def accountAllSpec : ChangeSpec := { name := "accountAll", fn := fun _ => fun
  | [d1, d2] => { results := [.lit (.bool true)], args := [d1, d2] }
  | _ => none }
def accountAllRow : OpenClaim := { program := "ytgfkcmmhnibaiaa", sum := "f331b62910d34c6607d0d303415aa9db2209f3773312731d130a7f3c0b43f692", func := "dogwatch/dogwatchlaw32.AccountAll", spec := "accountAll", unfollowed := true, recurses := true, apart := false }
def AccountAllSaid : Prop := accountAllRow.holds Try.pinned (OpenSpec.ofChange accountAllSpec)

/-- ITS FALSE NEIGHBOUR: 'it returns false'. Refute it at one input. -/
def accountAllWrong : ChangeSpec := { name := "accountAll", fn := fun _ => fun
  | [d1, d2] => { results := [.lit (.bool false)], args := [d1, d2] }
  | _ => none }
def AccountAllWrongFalsely : Prop := accountAllRow.holds Try.pinned (OpenSpec.ofChange accountAllWrong)

/-- 'dogwatchlaw32.AccountCounts': WHATEVER THE INPUT: true; the input reads as it did. -/
def accountCountsSpec : ChangeSpec := { name := "accountCounts", fn := fun _ => fun
  | [d1, d2, d3, d4, d5] => { results := [.lit (.bool true)], args := [d1, d2, d3, d4, d5] }
  | _ => none }
def accountCountsRow : OpenClaim := { program := "ytgfkcmmhnibaiaa", sum := "f331b62910d34c6607d0d303415aa9db2209f3773312731d130a7f3c0b43f692", func := "dogwatch/dogwatchlaw32.AccountCounts", spec := "accountCounts", unfollowed := true, recurses := true, apart := false }
def AccountCountsSaid : Prop := accountCountsRow.holds Try.pinned (OpenSpec.ofChange accountCountsSpec)

/-- ITS FALSE NEIGHBOUR: 'it returns false'. Refute it at one input. -/
def accountCountsWrong : ChangeSpec := { name := "accountCounts", fn := fun _ => fun
  | [d1, d2, d3, d4, d5] => { results := [.lit (.bool false)], args := [d1, d2, d3, d4, d5] }
  | _ => none }
def AccountCountsWrongFalsely : Prop := accountCountsRow.holds Try.pinned (OpenSpec.ofChange accountCountsWrong)

/-- 'dogwatchlaw32.AccountNobody': WHATEVER THE INPUT: true; the input reads as it did. -/
def accountNobodySpec : ChangeSpec := { name := "accountNobody", fn := fun _ => fun
  | [d1, d2] => { results := [.lit (.bool true)], args := [d1, d2] }
  | _ => none }
def accountNobodyRow : OpenClaim := { program := "ytgfkcmmhnibaiaa", sum := "f331b62910d34c6607d0d303415aa9db2209f3773312731d130a7f3c0b43f692", func := "dogwatch/dogwatchlaw32.AccountNobody", spec := "accountNobody", unfollowed := true, recurses := true, apart := false }
def AccountNobodySaid : Prop := accountNobodyRow.holds Try.pinned (OpenSpec.ofChange accountNobodySpec)

/-- ITS FALSE NEIGHBOUR: 'it returns false'. Refute it at one input. -/
def accountNobodyWrong : ChangeSpec := { name := "accountNobody", fn := fun _ => fun
  | [d1, d2] => { results := [.lit (.bool false)], args := [d1, d2] }
  | _ => none }
def AccountNobodyWrongFalsely : Prop := accountNobodyRow.holds Try.pinned (OpenSpec.ofChange accountNobodyWrong)

/-- 'dogwatchlaw13.RowCounts': WHATEVER THE INPUT: true; the input reads as it did. -/
def rowCountsSpec : ChangeSpec := { name := "rowCounts", fn := fun _ => fun
  | [d1, d2] => { results := [.lit (.bool true)], args := [d1, d2] }
  | _ => none }
def rowCountsRow : OpenClaim := { program := "ytgfkcmmhnibaiaa", sum := "f331b62910d34c6607d0d303415aa9db2209f3773312731d130a7f3c0b43f692", func := "dogwatch/dogwatchlaw13.RowCounts", spec := "rowCounts", unfollowed := true, recurses := true, apart := false }
def RowCountsSaid : Prop := rowCountsRow.holds Try.pinned (OpenSpec.ofChange rowCountsSpec)

/-- ITS FALSE NEIGHBOUR: 'it returns false'. Refute it at one input. -/
def rowCountsWrong : ChangeSpec := { name := "rowCounts", fn := fun _ => fun
  | [d1, d2] => { results := [.lit (.bool false)], args := [d1, d2] }
  | _ => none }
def RowCountsWrongFalsely : Prop := rowCountsRow.holds Try.pinned (OpenSpec.ofChange rowCountsWrong)

/-- 'dogwatchlaw12.ReplyReads': WHATEVER THE INPUT: true; the input reads as it did. -/
def replyReadsSpec : ChangeSpec := { name := "replyReads", fn := fun _ => fun
  | [d] => { results := [.lit (.bool true)], args := [d] }
  | _ => none }
def replyReadsRow : OpenClaim := { program := "ytgfkcmmhnibaiaa", sum := "f331b62910d34c6607d0d303415aa9db2209f3773312731d130a7f3c0b43f692", func := "dogwatch/dogwatchlaw12.ReplyReads", spec := "replyReads", unfollowed := true, recurses := true, apart := false }
def ReplyReadsSaid : Prop := replyReadsRow.holds Try.pinned (OpenSpec.ofChange replyReadsSpec)

/-- ITS FALSE NEIGHBOUR: 'it returns false'. Refute it at one input. -/
def replyReadsWrong : ChangeSpec := { name := "replyReads", fn := fun _ => fun
  | [d] => { results := [.lit (.bool false)], args := [d] }
  | _ => none }
def ReplyReadsWrongFalsely : Prop := replyReadsRow.holds Try.pinned (OpenSpec.ofChange replyReadsWrong)

/-- 'dogwatchlaw12.ReplyBack': WHATEVER THE INPUT: true; the input reads as it did. -/
def replyBackSpec : ChangeSpec := { name := "replyBack", fn := fun _ => fun
  | [d1, d2] => { results := [.lit (.bool true)], args := [d1, d2] }
  | _ => none }
def replyBackRow : OpenClaim := { program := "ytgfkcmmhnibaiaa", sum := "f331b62910d34c6607d0d303415aa9db2209f3773312731d130a7f3c0b43f692", func := "dogwatch/dogwatchlaw12.ReplyBack", spec := "replyBack", unfollowed := true, recurses := true, apart := false }
def ReplyBackSaid : Prop := replyBackRow.holds Try.pinned (OpenSpec.ofChange replyBackSpec)

/-- ITS FALSE NEIGHBOUR: 'it returns false'. Refute it at one input. -/
def replyBackWrong : ChangeSpec := { name := "replyBack", fn := fun _ => fun
  | [d1, d2] => { results := [.lit (.bool false)], args := [d1, d2] }
  | _ => none }
def ReplyBackWrongFalsely : Prop := replyBackRow.holds Try.pinned (OpenSpec.ofChange replyBackWrong)

/-- 'dogwatchlaw13.RowReads': WHATEVER THE INPUT: true; the input reads as it did. -/
def rowReadsSpec : ChangeSpec := { name := "rowReads", fn := fun _ => fun
  | [d] => { results := [.lit (.bool true)], args := [d] }
  | _ => none }
def rowReadsRow : OpenClaim := { program := "ytgfkcmmhnibaiaa", sum := "f331b62910d34c6607d0d303415aa9db2209f3773312731d130a7f3c0b43f692", func := "dogwatch/dogwatchlaw13.RowReads", spec := "rowReads", unfollowed := true, recurses := true, apart := false }
def RowReadsSaid : Prop := rowReadsRow.holds Try.pinned (OpenSpec.ofChange rowReadsSpec)

/-- ITS FALSE NEIGHBOUR: 'it returns false'. Refute it at one input. -/
def rowReadsWrong : ChangeSpec := { name := "rowReads", fn := fun _ => fun
  | [d] => { results := [.lit (.bool false)], args := [d] }
  | _ => none }
def RowReadsWrongFalsely : Prop := rowReadsRow.holds Try.pinned (OpenSpec.ofChange rowReadsWrong)

/-- 'dogwatchlaw13.RowBack': WHATEVER THE INPUT: true; the input reads as it did. -/
def rowBackSpec : ChangeSpec := { name := "rowBack", fn := fun _ => fun
  | [d1, d2, d3] => { results := [.lit (.bool true)], args := [d1, d2, d3] }
  | _ => none }
def rowBackRow : OpenClaim := { program := "ytgfkcmmhnibaiaa", sum := "f331b62910d34c6607d0d303415aa9db2209f3773312731d130a7f3c0b43f692", func := "dogwatch/dogwatchlaw13.RowBack", spec := "rowBack", unfollowed := true, recurses := true, apart := false }
def RowBackSaid : Prop := rowBackRow.holds Try.pinned (OpenSpec.ofChange rowBackSpec)

/-- ITS FALSE NEIGHBOUR: 'it returns false'. Refute it at one input. -/
def rowBackWrong : ChangeSpec := { name := "rowBack", fn := fun _ => fun
  | [d1, d2, d3] => { results := [.lit (.bool false)], args := [d1, d2, d3] }
  | _ => none }
def RowBackWrongFalsely : Prop := rowBackRow.holds Try.pinned (OpenSpec.ofChange rowBackWrong)

/- THE SECOND FORM. 'bulk': how many values and letters a reading holds, each counted each time it is reached (what is shared counts as often as it is met; a slice's spare places count too). A statement '..UptoSaid' is the law's where the arguments, and the package variables that the reading takes, are together of bulk at most 1048576: NARROWER than '..Said'. Prove '..Said' where nothing that the law and all that it calls make is longer than what came in: it says more and counts as full. Else prove '..UptoSaid'. A law counts once. -/
mutual
def uptoBulk {H : Type} : DataW H → Nat
  | .lit (.string bytes) => bytes.length + 1
  | .lit _ => 1
  | .nil => 1
  | .ptr d => uptoBulk d + 1
  | .slice elems spare => uptoBulkAll elems + uptoBulkAll spare + 1
  | .agg parts => uptoBulkAll parts + 1
  | .iface _ d => uptoBulk d + 1
  | .map entries => uptoBulkEntries entries + 1
  | .held _ => 1
def uptoBulkAll {H : Type} : List (DataW H) → Nat
  | [] => 0
  | d :: r => uptoBulk d + uptoBulkAll r
def uptoBulkEntries {H : Type} : List (Lit × DataW H) → Nat
  | [] => 0
  | x :: r => uptoBulkEntry x + uptoBulkEntries r
def uptoBulkEntry {H : Type} : Lit × DataW H → Nat
  | (.string bytes, d) => bytes.length + uptoBulk d + 1
  | (_, d) => uptoBulk d + 1
 end
def uptoSmall : (H : Type) → List (DataW H) → Bool := fun _ ds => decide (uptoBulkAll ds ≤ 1048576)
def OpenSpec.upto (s : _root_.Go.ChangeSpec) : _root_.Go.OpenSpec := { _root_.Go.OpenSpec.ofChange s with cond := some uptoSmall }

/-- 'dogwatchlaw12.ReplyWrites', WHERE WHAT IT READS IS OF BULK AT MOST 1048576: true; the input reads as it did. -/
def replyWritesUptoRow : OpenClaim := { program := "ytgfkcmmhnibaiaa", sum := "f331b62910d34c6607d0d303415aa9db2209f3773312731d130a7f3c0b43f692", func := "dogwatch/dogwatchlaw12.ReplyWrites", spec := "replyWrites", unfollowed := true, recurses := true, apart := false, narrowed := true }
def ReplyWritesUptoSaid : Prop := replyWritesUptoRow.holds Try.pinned (OpenSpec.upto replyWritesSpec)

/-- 'dogwatchlaw13.RowWrites', WHERE WHAT IT READS IS OF BULK AT MOST 1048576: true; the input reads as it did. -/
def rowWritesUptoRow : OpenClaim := { program := "ytgfkcmmhnibaiaa", sum := "f331b62910d34c6607d0d303415aa9db2209f3773312731d130a7f3c0b43f692", func := "dogwatch/dogwatchlaw13.RowWrites", spec := "rowWrites", unfollowed := true, recurses := true, apart := false, narrowed := true }
def RowWritesUptoSaid : Prop := rowWritesUptoRow.holds Try.pinned (OpenSpec.upto rowWritesSpec)

/-- 'dogwatchlaw32.AccountAll', WHERE WHAT IT READS IS OF BULK AT MOST 1048576: true; the input reads as it did. -/
def accountAllUptoRow : OpenClaim := { program := "ytgfkcmmhnibaiaa", sum := "f331b62910d34c6607d0d303415aa9db2209f3773312731d130a7f3c0b43f692", func := "dogwatch/dogwatchlaw32.AccountAll", spec := "accountAll", unfollowed := true, recurses := true, apart := false, narrowed := true }
def AccountAllUptoSaid : Prop := accountAllUptoRow.holds Try.pinned (OpenSpec.upto accountAllSpec)

/-- 'dogwatchlaw32.AccountCounts', WHERE WHAT IT READS IS OF BULK AT MOST 1048576: true; the input reads as it did. -/
def accountCountsUptoRow : OpenClaim := { program := "ytgfkcmmhnibaiaa", sum := "f331b62910d34c6607d0d303415aa9db2209f3773312731d130a7f3c0b43f692", func := "dogwatch/dogwatchlaw32.AccountCounts", spec := "accountCounts", unfollowed := true, recurses := true, apart := false, narrowed := true }
def AccountCountsUptoSaid : Prop := accountCountsUptoRow.holds Try.pinned (OpenSpec.upto accountCountsSpec)

/-- 'dogwatchlaw32.AccountNobody', WHERE WHAT IT READS IS OF BULK AT MOST 1048576: true; the input reads as it did. -/
def accountNobodyUptoRow : OpenClaim := { program := "ytgfkcmmhnibaiaa", sum := "f331b62910d34c6607d0d303415aa9db2209f3773312731d130a7f3c0b43f692", func := "dogwatch/dogwatchlaw32.AccountNobody", spec := "accountNobody", unfollowed := true, recurses := true, apart := false, narrowed := true }
def AccountNobodyUptoSaid : Prop := accountNobodyUptoRow.holds Try.pinned (OpenSpec.upto accountNobodySpec)

/-- 'dogwatchlaw13.RowCounts', WHERE WHAT IT READS IS OF BULK AT MOST 1048576: true; the input reads as it did. -/
def rowCountsUptoRow : OpenClaim := { program := "ytgfkcmmhnibaiaa", sum := "f331b62910d34c6607d0d303415aa9db2209f3773312731d130a7f3c0b43f692", func := "dogwatch/dogwatchlaw13.RowCounts", spec := "rowCounts", unfollowed := true, recurses := true, apart := false, narrowed := true }
def RowCountsUptoSaid : Prop := rowCountsUptoRow.holds Try.pinned (OpenSpec.upto rowCountsSpec)

/-- 'dogwatchlaw12.ReplyReads', WHERE WHAT IT READS IS OF BULK AT MOST 1048576: true; the input reads as it did. -/
def replyReadsUptoRow : OpenClaim := { program := "ytgfkcmmhnibaiaa", sum := "f331b62910d34c6607d0d303415aa9db2209f3773312731d130a7f3c0b43f692", func := "dogwatch/dogwatchlaw12.ReplyReads", spec := "replyReads", unfollowed := true, recurses := true, apart := false, narrowed := true }
def ReplyReadsUptoSaid : Prop := replyReadsUptoRow.holds Try.pinned (OpenSpec.upto replyReadsSpec)

/-- 'dogwatchlaw12.ReplyBack', WHERE WHAT IT READS IS OF BULK AT MOST 1048576: true; the input reads as it did. -/
def replyBackUptoRow : OpenClaim := { program := "ytgfkcmmhnibaiaa", sum := "f331b62910d34c6607d0d303415aa9db2209f3773312731d130a7f3c0b43f692", func := "dogwatch/dogwatchlaw12.ReplyBack", spec := "replyBack", unfollowed := true, recurses := true, apart := false, narrowed := true }
def ReplyBackUptoSaid : Prop := replyBackUptoRow.holds Try.pinned (OpenSpec.upto replyBackSpec)

/-- 'dogwatchlaw13.RowReads', WHERE WHAT IT READS IS OF BULK AT MOST 1048576: true; the input reads as it did. -/
def rowReadsUptoRow : OpenClaim := { program := "ytgfkcmmhnibaiaa", sum := "f331b62910d34c6607d0d303415aa9db2209f3773312731d130a7f3c0b43f692", func := "dogwatch/dogwatchlaw13.RowReads", spec := "rowReads", unfollowed := true, recurses := true, apart := false, narrowed := true }
def RowReadsUptoSaid : Prop := rowReadsUptoRow.holds Try.pinned (OpenSpec.upto rowReadsSpec)

/-- 'dogwatchlaw13.RowBack', WHERE WHAT IT READS IS OF BULK AT MOST 1048576: true; the input reads as it did. -/
def rowBackUptoRow : OpenClaim := { program := "ytgfkcmmhnibaiaa", sum := "f331b62910d34c6607d0d303415aa9db2209f3773312731d130a7f3c0b43f692", func := "dogwatch/dogwatchlaw13.RowBack", spec := "rowBack", unfollowed := true, recurses := true, apart := false, narrowed := true }
def RowBackUptoSaid : Prop := rowBackUptoRow.holds Try.pinned (OpenSpec.upto rowBackSpec)

end Rows
end Go.Proofs.Ytgfkcmmhnibaiaa
