/-
  No cell of these rows narrows 'for every input' (looked for: loops, veiled, ifaces, maps, wideKeys, modest, calm, conditions, laid).
  DERIVED. THE GIVEN ROWS OF THIS SEAT. 11 by the template 'for every input the law returns true; each argument reads behind the call as it read before'; 0 by the template 'total and deterministic' (their statements: YtpammdblenfhgaaTotals.lean).
  GIVEN WITH THE SEED: the statements are not yours to turn. If you find one false, say at which input.
  Laid BY PROGRAM, IN A SANDBOX (cutbox-rows.mjs): the forced cells as the released guide's own fill.sh prints them over the translation acea26f11669b8c6… (all of the seat's roots in one cut). By AI agents, Wed Nov 11 2026. No macro, syntax, notation, axiom, sorry.
-/
import Derived.Test.YtpammdblenfhgaaChecked
import GoSem.Claim
import GoSem.ClaimJoined
import GoSem.ClaimMapViews
import Derived.JoinedTies
import Derived.KernelRfl
namespace Go.Proofs.Ytpammdblenfhgaa
/- THE CELL 'sum', in the pinned program and in every row, IS THE sha256 OF THE DUMP (.gsa) THAT YtpammdblenfhgaaProg.lean LOADS. Nothing in Lean hashes anything: it is a label: what it is worth is what the hold of that sum in a sandbox is worth. -/
noncomputable def Try.pinned : Pinned := { name := "ytpammdblenfhgaa", sum := "acea26f11669b8c60566b7fe0903064678845a7c30a2333408fbd49ec9fa8fc7", checked := Try.checked }
namespace Rows
def none {H : Type} : Left H := { results := [], args := [] }

/-- 'dogwatchlaw14.RingFair': WHATEVER THE INPUT: true; the input reads as it did. -/
def ringFairSpec : ChangeSpec := { name := "ringFair", fn := fun _ => fun
  | [d1, d2] => { results := [.lit (.bool true)], args := [d1, d2] }
  | _ => none }
def ringFairRow : OpenClaim := { program := "ytpammdblenfhgaa", sum := "acea26f11669b8c60566b7fe0903064678845a7c30a2333408fbd49ec9fa8fc7", func := "dogwatch/dogwatchlaw14.RingFair", spec := "ringFair", inPlace := ["math/bits.Add64", "slices.overlaps[dogwatch/ring.member]"], unfollowed := true, recurses := true, named := ["math/bits.divideError", "math/bits.overflowError"], apart := false }
def RingFairSaid : Prop := ringFairRow.holds Try.pinned (OpenSpec.ofChange ringFairSpec)

/-- ITS FALSE NEIGHBOUR: 'it returns false'. Refute it at one input. -/
def ringFairWrong : ChangeSpec := { name := "ringFair", fn := fun _ => fun
  | [d1, d2] => { results := [.lit (.bool false)], args := [d1, d2] }
  | _ => none }
def RingFairWrongFalsely : Prop := ringFairRow.holds Try.pinned (OpenSpec.ofChange ringFairWrong)

/-- 'dogwatchlaw14.RingWaits': WHATEVER THE INPUT: true; the input reads as it did. -/
def ringWaitsSpec : ChangeSpec := { name := "ringWaits", fn := fun _ => fun
  | [d1, d2] => { results := [.lit (.bool true)], args := [d1, d2] }
  | _ => none }
def ringWaitsRow : OpenClaim := { program := "ytpammdblenfhgaa", sum := "acea26f11669b8c60566b7fe0903064678845a7c30a2333408fbd49ec9fa8fc7", func := "dogwatch/dogwatchlaw14.RingWaits", spec := "ringWaits", inPlace := ["math/bits.Add64", "slices.overlaps[dogwatch/ring.member]"], unfollowed := true, recurses := true, named := ["math/bits.divideError", "math/bits.overflowError"], apart := false }
def RingWaitsSaid : Prop := ringWaitsRow.holds Try.pinned (OpenSpec.ofChange ringWaitsSpec)

/-- ITS FALSE NEIGHBOUR: 'it returns false'. Refute it at one input. -/
def ringWaitsWrong : ChangeSpec := { name := "ringWaits", fn := fun _ => fun
  | [d1, d2] => { results := [.lit (.bool false)], args := [d1, d2] }
  | _ => none }
def RingWaitsWrongFalsely : Prop := ringWaitsRow.holds Try.pinned (OpenSpec.ofChange ringWaitsWrong)

/-- 'dogwatchlaw14.RingNear': WHATEVER THE INPUT: true; the input reads as it did. -/
def ringNearSpec : ChangeSpec := { name := "ringNear", fn := fun _ => fun
  | [d] => { results := [.lit (.bool true)], args := [d] }
  | _ => none }
def ringNearRow : OpenClaim := { program := "ytpammdblenfhgaa", sum := "acea26f11669b8c60566b7fe0903064678845a7c30a2333408fbd49ec9fa8fc7", func := "dogwatch/dogwatchlaw14.RingNear", spec := "ringNear", inPlace := ["math/bits.Add64", "slices.overlaps[dogwatch/ring.member]"], unfollowed := true, recurses := true, named := ["math/bits.divideError", "math/bits.overflowError"], apart := false }
def RingNearSaid : Prop := ringNearRow.holds Try.pinned (OpenSpec.ofChange ringNearSpec)

/-- ITS FALSE NEIGHBOUR: 'it returns false'. Refute it at one input. -/
def ringNearWrong : ChangeSpec := { name := "ringNear", fn := fun _ => fun
  | [d] => { results := [.lit (.bool false)], args := [d] }
  | _ => none }
def RingNearWrongFalsely : Prop := ringNearRow.holds Try.pinned (OpenSpec.ofChange ringNearWrong)

/-- 'dogwatchlaw14.RingLimit': WHATEVER THE INPUT: true; the input reads as it did. -/
def ringLimitSpec : ChangeSpec := { name := "ringLimit", fn := fun _ => fun
  | [d1, d2, d3] => { results := [.lit (.bool true)], args := [d1, d2, d3] }
  | _ => none }
def ringLimitRow : OpenClaim := { program := "ytpammdblenfhgaa", sum := "acea26f11669b8c60566b7fe0903064678845a7c30a2333408fbd49ec9fa8fc7", func := "dogwatch/dogwatchlaw14.RingLimit", spec := "ringLimit", inPlace := ["math/bits.Add64", "slices.overlaps[dogwatch/ring.member]"], unfollowed := true, recurses := true, named := ["math/bits.divideError", "math/bits.overflowError"], apart := false }
def RingLimitSaid : Prop := ringLimitRow.holds Try.pinned (OpenSpec.ofChange ringLimitSpec)

/-- ITS FALSE NEIGHBOUR: 'it returns false'. Refute it at one input. -/
def ringLimitWrong : ChangeSpec := { name := "ringLimit", fn := fun _ => fun
  | [d1, d2, d3] => { results := [.lit (.bool false)], args := [d1, d2, d3] }
  | _ => none }
def RingLimitWrongFalsely : Prop := ringLimitRow.holds Try.pinned (OpenSpec.ofChange ringLimitWrong)

/-- 'dogwatchlaw14.RingPlays': WHATEVER THE INPUT: true; the input reads as it did. -/
def ringPlaysSpec : ChangeSpec := { name := "ringPlays", fn := fun _ => fun
  | [d1, d2] => { results := [.lit (.bool true)], args := [d1, d2] }
  | _ => none }
def ringPlaysRow : OpenClaim := { program := "ytpammdblenfhgaa", sum := "acea26f11669b8c60566b7fe0903064678845a7c30a2333408fbd49ec9fa8fc7", func := "dogwatch/dogwatchlaw14.RingPlays", spec := "ringPlays", inPlace := ["math/bits.Add64", "slices.overlaps[dogwatch/ring.member]"], unfollowed := true, recurses := true, named := ["math/bits.divideError", "math/bits.overflowError"], apart := false }
def RingPlaysSaid : Prop := ringPlaysRow.holds Try.pinned (OpenSpec.ofChange ringPlaysSpec)

/-- ITS FALSE NEIGHBOUR: 'it returns false'. Refute it at one input. -/
def ringPlaysWrong : ChangeSpec := { name := "ringPlays", fn := fun _ => fun
  | [d1, d2] => { results := [.lit (.bool false)], args := [d1, d2] }
  | _ => none }
def RingPlaysWrongFalsely : Prop := ringPlaysRow.holds Try.pinned (OpenSpec.ofChange ringPlaysWrong)

/-- 'dogwatchlaw14.RingNobody': WHATEVER THE INPUT: true; the input reads as it did. -/
def ringNobodySpec : ChangeSpec := { name := "ringNobody", fn := fun _ => fun
  | [d1, d2] => { results := [.lit (.bool true)], args := [d1, d2] }
  | _ => none }
def ringNobodyRow : OpenClaim := { program := "ytpammdblenfhgaa", sum := "acea26f11669b8c60566b7fe0903064678845a7c30a2333408fbd49ec9fa8fc7", func := "dogwatch/dogwatchlaw14.RingNobody", spec := "ringNobody", inPlace := ["math/bits.Add64", "slices.overlaps[dogwatch/ring.member]"], unfollowed := true, recurses := true, named := ["math/bits.divideError", "math/bits.overflowError"], apart := false }
def RingNobodySaid : Prop := ringNobodyRow.holds Try.pinned (OpenSpec.ofChange ringNobodySpec)

/-- ITS FALSE NEIGHBOUR: 'it returns false'. Refute it at one input. -/
def ringNobodyWrong : ChangeSpec := { name := "ringNobody", fn := fun _ => fun
  | [d1, d2] => { results := [.lit (.bool false)], args := [d1, d2] }
  | _ => none }
def RingNobodyWrongFalsely : Prop := ringNobodyRow.holds Try.pinned (OpenSpec.ofChange ringNobodyWrong)

/-- 'dogwatchlaw36.FairRing': WHATEVER THE INPUT: true; the input reads as it did. -/
def fairRingSpec : ChangeSpec := { name := "fairRing", fn := fun _ => fun
  | [d1, d2] => { results := [.lit (.bool true)], args := [d1, d2] }
  | _ => none }
def fairRingRow : OpenClaim := { program := "ytpammdblenfhgaa", sum := "acea26f11669b8c60566b7fe0903064678845a7c30a2333408fbd49ec9fa8fc7", func := "dogwatch/dogwatchlaw36.FairRing", spec := "fairRing", inPlace := ["math/bits.Add64", "slices.overlaps[dogwatch/ring.member]"], unfollowed := true, recurses := true, named := ["math/bits.divideError", "math/bits.overflowError"], apart := false }
def FairRingSaid : Prop := fairRingRow.holds Try.pinned (OpenSpec.ofChange fairRingSpec)

/-- ITS FALSE NEIGHBOUR: 'it returns false'. Refute it at one input. -/
def fairRingWrong : ChangeSpec := { name := "fairRing", fn := fun _ => fun
  | [d1, d2] => { results := [.lit (.bool false)], args := [d1, d2] }
  | _ => none }
def FairRingWrongFalsely : Prop := fairRingRow.holds Try.pinned (OpenSpec.ofChange fairRingWrong)

/-- 'dogwatchlaw30.GuildPlays': WHATEVER THE INPUT: true; the input reads as it did. -/
def guildPlaysSpec : ChangeSpec := { name := "guildPlays", fn := fun _ => fun
  | [d1, d2] => { results := [.lit (.bool true)], args := [d1, d2] }
  | _ => none }
def guildPlaysRow : OpenClaim := { program := "ytpammdblenfhgaa", sum := "acea26f11669b8c60566b7fe0903064678845a7c30a2333408fbd49ec9fa8fc7", func := "dogwatch/dogwatchlaw30.GuildPlays", spec := "guildPlays", inPlace := ["math/bits.Add64", "slices.overlaps[dogwatch/ring.member]"], unfollowed := true, recurses := true, named := ["math/bits.divideError", "math/bits.overflowError"], apart := false }
def GuildPlaysSaid : Prop := guildPlaysRow.holds Try.pinned (OpenSpec.ofChange guildPlaysSpec)

/-- ITS FALSE NEIGHBOUR: 'it returns false'. Refute it at one input. -/
def guildPlaysWrong : ChangeSpec := { name := "guildPlays", fn := fun _ => fun
  | [d1, d2] => { results := [.lit (.bool false)], args := [d1, d2] }
  | _ => none }
def GuildPlaysWrongFalsely : Prop := guildPlaysRow.holds Try.pinned (OpenSpec.ofChange guildPlaysWrong)

/-- 'dogwatchlaw30.GuildNever': WHATEVER THE INPUT: true; the input reads as it did. -/
def guildNeverSpec : ChangeSpec := { name := "guildNever", fn := fun _ => fun
  | [d1, d2] => { results := [.lit (.bool true)], args := [d1, d2] }
  | _ => none }
def guildNeverRow : OpenClaim := { program := "ytpammdblenfhgaa", sum := "acea26f11669b8c60566b7fe0903064678845a7c30a2333408fbd49ec9fa8fc7", func := "dogwatch/dogwatchlaw30.GuildNever", spec := "guildNever", inPlace := ["math/bits.Add64", "slices.overlaps[dogwatch/ring.member]"], unfollowed := true, recurses := true, named := ["math/bits.divideError", "math/bits.overflowError"], apart := false }
def GuildNeverSaid : Prop := guildNeverRow.holds Try.pinned (OpenSpec.ofChange guildNeverSpec)

/-- ITS FALSE NEIGHBOUR: 'it returns false'. Refute it at one input. -/
def guildNeverWrong : ChangeSpec := { name := "guildNever", fn := fun _ => fun
  | [d1, d2] => { results := [.lit (.bool false)], args := [d1, d2] }
  | _ => none }
def GuildNeverWrongFalsely : Prop := guildNeverRow.holds Try.pinned (OpenSpec.ofChange guildNeverWrong)

/-- 'dogwatchlaw30.GuildFair': WHATEVER THE INPUT: true; the input reads as it did. -/
def guildFairSpec : ChangeSpec := { name := "guildFair", fn := fun _ => fun
  | [d1, d2] => { results := [.lit (.bool true)], args := [d1, d2] }
  | _ => none }
def guildFairRow : OpenClaim := { program := "ytpammdblenfhgaa", sum := "acea26f11669b8c60566b7fe0903064678845a7c30a2333408fbd49ec9fa8fc7", func := "dogwatch/dogwatchlaw30.GuildFair", spec := "guildFair", inPlace := ["math/bits.Add64", "slices.overlaps[dogwatch/ring.member]"], unfollowed := true, recurses := true, named := ["math/bits.divideError", "math/bits.overflowError"], apart := false }
def GuildFairSaid : Prop := guildFairRow.holds Try.pinned (OpenSpec.ofChange guildFairSpec)

/-- ITS FALSE NEIGHBOUR: 'it returns false'. Refute it at one input. -/
def guildFairWrong : ChangeSpec := { name := "guildFair", fn := fun _ => fun
  | [d1, d2] => { results := [.lit (.bool false)], args := [d1, d2] }
  | _ => none }
def GuildFairWrongFalsely : Prop := guildFairRow.holds Try.pinned (OpenSpec.ofChange guildFairWrong)

/-- 'dogwatchlaw30.GuildNobody': WHATEVER THE INPUT: true; the input reads as it did. -/
def guildNobodySpec : ChangeSpec := { name := "guildNobody", fn := fun _ => fun
  | [d1, d2, d3] => { results := [.lit (.bool true)], args := [d1, d2, d3] }
  | _ => none }
def guildNobodyRow : OpenClaim := { program := "ytpammdblenfhgaa", sum := "acea26f11669b8c60566b7fe0903064678845a7c30a2333408fbd49ec9fa8fc7", func := "dogwatch/dogwatchlaw30.GuildNobody", spec := "guildNobody", inPlace := ["math/bits.Add64", "slices.overlaps[dogwatch/ring.member]"], unfollowed := true, recurses := true, named := ["math/bits.divideError", "math/bits.overflowError"], apart := false }
def GuildNobodySaid : Prop := guildNobodyRow.holds Try.pinned (OpenSpec.ofChange guildNobodySpec)

/-- ITS FALSE NEIGHBOUR: 'it returns false'. Refute it at one input. -/
def guildNobodyWrong : ChangeSpec := { name := "guildNobody", fn := fun _ => fun
  | [d1, d2, d3] => { results := [.lit (.bool false)], args := [d1, d2, d3] }
  | _ => none }
def GuildNobodyWrongFalsely : Prop := guildNobodyRow.holds Try.pinned (OpenSpec.ofChange guildNobodyWrong)

/- THE SECOND FORM. 'bulk': how many values and letters a reading holds, each counted each time it is reached (what is shared counts as often as it is met; a slice's spare places count too). A statement '..UptoSaid' is the law's where the arguments, and the package variables that the reading takes, are together of bulk at most 1048576: NARROWER than '..Said'. Prove '..Said' where nothing that the law and all that it calls make is longer than what came in: it says more and counts as full. Else prove '..UptoSaid'. A law counts once. -/
mutual
def uptoBulk {H : Type} : DataW H → Nat
  | .lit (.string bytes) => bytes.length + 1
  | .lit _ => 1
  | .nil => 1
  | .ptr d => uptoBulk d + 1
  | .slice elems spare => uptoBulkAll elems + uptoBulkAll spare + 1
  | .agg parts => uptoBulkAll parts + 1
  | .iface _ d => uptoBulk d + 1
  | .map entries => uptoBulkEntries entries + 1
  | .held _ => 1
def uptoBulkAll {H : Type} : List (DataW H) → Nat
  | [] => 0
  | d :: r => uptoBulk d + uptoBulkAll r
def uptoBulkEntries {H : Type} : List (Lit × DataW H) → Nat
  | [] => 0
  | x :: r => uptoBulkEntry x + uptoBulkEntries r
def uptoBulkEntry {H : Type} : Lit × DataW H → Nat
  | (.string bytes, d) => bytes.length + uptoBulk d + 1
  | (_, d) => uptoBulk d + 1
 end
def uptoSmall : (H : Type) → List (DataW H) → Bool := fun _ ds => decide (uptoBulkAll ds ≤ 1048576)
def OpenSpec.upto (s : _root_.Go.ChangeSpec) : _root_.Go.OpenSpec := { _root_.Go.OpenSpec.ofChange s with cond := some uptoSmall }

/-- 'dogwatchlaw14.RingFair', WHERE WHAT IT READS IS OF BULK AT MOST 1048576: true; the input reads as it did. -/
def ringFairUptoRow : OpenClaim := { program := "ytpammdblenfhgaa", sum := "acea26f11669b8c60566b7fe0903064678845a7c30a2333408fbd49ec9fa8fc7", func := "dogwatch/dogwatchlaw14.RingFair", spec := "ringFair", inPlace := ["math/bits.Add64", "slices.overlaps[dogwatch/ring.member]"], unfollowed := true, recurses := true, named := ["math/bits.divideError", "math/bits.overflowError"], apart := false, narrowed := true }
def RingFairUptoSaid : Prop := ringFairUptoRow.holds Try.pinned (OpenSpec.upto ringFairSpec)

/-- 'dogwatchlaw14.RingWaits', WHERE WHAT IT READS IS OF BULK AT MOST 1048576: true; the input reads as it did. -/
def ringWaitsUptoRow : OpenClaim := { program := "ytpammdblenfhgaa", sum := "acea26f11669b8c60566b7fe0903064678845a7c30a2333408fbd49ec9fa8fc7", func := "dogwatch/dogwatchlaw14.RingWaits", spec := "ringWaits", inPlace := ["math/bits.Add64", "slices.overlaps[dogwatch/ring.member]"], unfollowed := true, recurses := true, named := ["math/bits.divideError", "math/bits.overflowError"], apart := false, narrowed := true }
def RingWaitsUptoSaid : Prop := ringWaitsUptoRow.holds Try.pinned (OpenSpec.upto ringWaitsSpec)

/-- 'dogwatchlaw14.RingNear', WHERE WHAT IT READS IS OF BULK AT MOST 1048576: true; the input reads as it did. -/
def ringNearUptoRow : OpenClaim := { program := "ytpammdblenfhgaa", sum := "acea26f11669b8c60566b7fe0903064678845a7c30a2333408fbd49ec9fa8fc7", func := "dogwatch/dogwatchlaw14.RingNear", spec := "ringNear", inPlace := ["math/bits.Add64", "slices.overlaps[dogwatch/ring.member]"], unfollowed := true, recurses := true, named := ["math/bits.divideError", "math/bits.overflowError"], apart := false, narrowed := true }
def RingNearUptoSaid : Prop := ringNearUptoRow.holds Try.pinned (OpenSpec.upto ringNearSpec)

/-- 'dogwatchlaw14.RingLimit', WHERE WHAT IT READS IS OF BULK AT MOST 1048576: true; the input reads as it did. -/
def ringLimitUptoRow : OpenClaim := { program := "ytpammdblenfhgaa", sum := "acea26f11669b8c60566b7fe0903064678845a7c30a2333408fbd49ec9fa8fc7", func := "dogwatch/dogwatchlaw14.RingLimit", spec := "ringLimit", inPlace := ["math/bits.Add64", "slices.overlaps[dogwatch/ring.member]"], unfollowed := true, recurses := true, named := ["math/bits.divideError", "math/bits.overflowError"], apart := false, narrowed := true }
def RingLimitUptoSaid : Prop := ringLimitUptoRow.holds Try.pinned (OpenSpec.upto ringLimitSpec)

/-- 'dogwatchlaw14.RingPlays', WHERE WHAT IT READS IS OF BULK AT MOST 1048576: true; the input reads as it did. -/
def ringPlaysUptoRow : OpenClaim := { program := "ytpammdblenfhgaa", sum := "acea26f11669b8c60566b7fe0903064678845a7c30a2333408fbd49ec9fa8fc7", func := "dogwatch/dogwatchlaw14.RingPlays", spec := "ringPlays", inPlace := ["math/bits.Add64", "slices.overlaps[dogwatch/ring.member]"], unfollowed := true, recurses := true, named := ["math/bits.divideError", "math/bits.overflowError"], apart := false, narrowed := true }
def RingPlaysUptoSaid : Prop := ringPlaysUptoRow.holds Try.pinned (OpenSpec.upto ringPlaysSpec)

/-- 'dogwatchlaw14.RingNobody', WHERE WHAT IT READS IS OF BULK AT MOST 1048576: true; the input reads as it did. -/
def ringNobodyUptoRow : OpenClaim := { program := "ytpammdblenfhgaa", sum := "acea26f11669b8c60566b7fe0903064678845a7c30a2333408fbd49ec9fa8fc7", func := "dogwatch/dogwatchlaw14.RingNobody", spec := "ringNobody", inPlace := ["math/bits.Add64", "slices.overlaps[dogwatch/ring.member]"], unfollowed := true, recurses := true, named := ["math/bits.divideError", "math/bits.overflowError"], apart := false, narrowed := true }
def RingNobodyUptoSaid : Prop := ringNobodyUptoRow.holds Try.pinned (OpenSpec.upto ringNobodySpec)

/-- 'dogwatchlaw36.FairRing', WHERE WHAT IT READS IS OF BULK AT MOST 1048576: true; the input reads as it did. -/
def fairRingUptoRow : OpenClaim := { program := "ytpammdblenfhgaa", sum := "acea26f11669b8c60566b7fe0903064678845a7c30a2333408fbd49ec9fa8fc7", func := "dogwatch/dogwatchlaw36.FairRing", spec := "fairRing", inPlace := ["math/bits.Add64", "slices.overlaps[dogwatch/ring.member]"], unfollowed := true, recurses := true, named := ["math/bits.divideError", "math/bits.overflowError"], apart := false, narrowed := true }
def FairRingUptoSaid : Prop := fairRingUptoRow.holds Try.pinned (OpenSpec.upto fairRingSpec)

/-- 'dogwatchlaw30.GuildPlays', WHERE WHAT IT READS IS OF BULK AT MOST 1048576: true; the input reads as it did. -/
def guildPlaysUptoRow : OpenClaim := { program := "ytpammdblenfhgaa", sum := "acea26f11669b8c60566b7fe0903064678845a7c30a2333408fbd49ec9fa8fc7", func := "dogwatch/dogwatchlaw30.GuildPlays", spec := "guildPlays", inPlace := ["math/bits.Add64", "slices.overlaps[dogwatch/ring.member]"], unfollowed := true, recurses := true, named := ["math/bits.divideError", "math/bits.overflowError"], apart := false, narrowed := true }
def GuildPlaysUptoSaid : Prop := guildPlaysUptoRow.holds Try.pinned (OpenSpec.upto guildPlaysSpec)

/-- 'dogwatchlaw30.GuildNever', WHERE WHAT IT READS IS OF BULK AT MOST 1048576: true; the input reads as it did. -/
def guildNeverUptoRow : OpenClaim := { program := "ytpammdblenfhgaa", sum := "acea26f11669b8c60566b7fe0903064678845a7c30a2333408fbd49ec9fa8fc7", func := "dogwatch/dogwatchlaw30.GuildNever", spec := "guildNever", inPlace := ["math/bits.Add64", "slices.overlaps[dogwatch/ring.member]"], unfollowed := true, recurses := true, named := ["math/bits.divideError", "math/bits.overflowError"], apart := false, narrowed := true }
def GuildNeverUptoSaid : Prop := guildNeverUptoRow.holds Try.pinned (OpenSpec.upto guildNeverSpec)

/-- 'dogwatchlaw30.GuildFair', WHERE WHAT IT READS IS OF BULK AT MOST 1048576: true; the input reads as it did. -/
def guildFairUptoRow : OpenClaim := { program := "ytpammdblenfhgaa", sum := "acea26f11669b8c60566b7fe0903064678845a7c30a2333408fbd49ec9fa8fc7", func := "dogwatch/dogwatchlaw30.GuildFair", spec := "guildFair", inPlace := ["math/bits.Add64", "slices.overlaps[dogwatch/ring.member]"], unfollowed := true, recurses := true, named := ["math/bits.divideError", "math/bits.overflowError"], apart := false, narrowed := true }
def GuildFairUptoSaid : Prop := guildFairUptoRow.holds Try.pinned (OpenSpec.upto guildFairSpec)

/-- 'dogwatchlaw30.GuildNobody', WHERE WHAT IT READS IS OF BULK AT MOST 1048576: true; the input reads as it did. -/
def guildNobodyUptoRow : OpenClaim := { program := "ytpammdblenfhgaa", sum := "acea26f11669b8c60566b7fe0903064678845a7c30a2333408fbd49ec9fa8fc7", func := "dogwatch/dogwatchlaw30.GuildNobody", spec := "guildNobody", inPlace := ["math/bits.Add64", "slices.overlaps[dogwatch/ring.member]"], unfollowed := true, recurses := true, named := ["math/bits.divideError", "math/bits.overflowError"], apart := false, narrowed := true }
def GuildNobodyUptoSaid : Prop := guildNobodyUptoRow.holds Try.pinned (OpenSpec.upto guildNobodySpec)

end Rows
end Go.Proofs.Ytpammdblenfhgaa
