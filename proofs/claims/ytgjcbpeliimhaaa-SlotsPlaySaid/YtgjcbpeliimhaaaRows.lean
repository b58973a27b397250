/-
  No cell of these rows narrows 'for every input' (looked for: loops, veiled, ifaces, maps, wideKeys, modest, calm, conditions, laid).
  DERIVED. THE GIVEN ROWS OF THIS SEAT. 12 by the template 'for every input the law returns true; each argument reads behind the call as it read before'; 0 by the template 'total and deterministic' (their statements: YtgjcbpeliimhaaaTotals.lean).
  GIVEN WITH THE SEED: the statements are not yours to turn. If you find one false, say at which input.
  Laid BY PROGRAM, IN A SANDBOX (cutbox-rows.mjs): the forced cells as the released guide's own fill.sh prints them over the translation 03c64398caec3e0e… (all of the seat's roots in one cut). By AI agents, Wed Nov 11 2026. No macro, syntax, notation, axiom, sorry.
-/
import Derived.Test.YtgjcbpeliimhaaaChecked
import GoSem.Claim
import GoSem.ClaimJoined
import GoSem.ClaimMapViews
import Derived.JoinedTies
import Derived.KernelRfl
namespace Go.Proofs.Ytgjcbpeliimhaaa
/- THE CELL 'sum', in the pinned program and in every row, IS THE sha256 OF THE DUMP (.gsa) THAT YtgjcbpeliimhaaaProg.lean LOADS. Nothing in Lean hashes anything: it is a label: what it is worth is what the hold of that sum in a sandbox is worth. -/
noncomputable def Try.pinned : Pinned := { name := "ytgjcbpeliimhaaa", sum := "03c64398caec3e0e860a00600f0bb8bb8fbf8217d214b745f714a1789f3e2361", checked := Try.checked }
namespace Rows
def none {H : Type} : Left H := { results := [], args := [] }

/-- 'dogwatchlaw07.SlotsMix': WHATEVER THE INPUT: true; the input reads as it did. -/
def slotsMixSpec : ChangeSpec := { name := "slotsMix", fn := fun _ => fun
  | [d1, d2] => { results := [.lit (.bool true)], args := [d1, d2] }
  | _ => none }
def slotsMixRow : OpenClaim := { program := "ytgjcbpeliimhaaa", sum := "03c64398caec3e0e860a00600f0bb8bb8fbf8217d214b745f714a1789f3e2361", func := "dogwatch/dogwatchlaw07.SlotsMix", spec := "slotsMix", apart := false }
def SlotsMixSaid : Prop := slotsMixRow.holds Try.pinned (OpenSpec.ofChange slotsMixSpec)

/-- ITS FALSE NEIGHBOUR: 'it returns false'. Refute it at one input. -/
def slotsMixWrong : ChangeSpec := { name := "slotsMix", fn := fun _ => fun
  | [d1, d2] => { results := [.lit (.bool false)], args := [d1, d2] }
  | _ => none }
def SlotsMixWrongFalsely : Prop := slotsMixRow.holds Try.pinned (OpenSpec.ofChange slotsMixWrong)

/-- 'dogwatchlaw10.RecordSplits': WHATEVER THE INPUT: true; the input reads as it did. -/
def recordSplitsSpec : ChangeSpec := { name := "recordSplits", fn := fun _ => fun
  | [d] => { results := [.lit (.bool true)], args := [d] }
  | _ => none }
def recordSplitsRow : OpenClaim := { program := "ytgjcbpeliimhaaa", sum := "03c64398caec3e0e860a00600f0bb8bb8fbf8217d214b745f714a1789f3e2361", func := "dogwatch/dogwatchlaw10.RecordSplits", spec := "recordSplits", apart := false }
def RecordSplitsSaid : Prop := recordSplitsRow.holds Try.pinned (OpenSpec.ofChange recordSplitsSpec)

/-- ITS FALSE NEIGHBOUR: 'it returns false'. Refute it at one input. -/
def recordSplitsWrong : ChangeSpec := { name := "recordSplits", fn := fun _ => fun
  | [d] => { results := [.lit (.bool false)], args := [d] }
  | _ => none }
def RecordSplitsWrongFalsely : Prop := recordSplitsRow.holds Try.pinned (OpenSpec.ofChange recordSplitsWrong)

/-- 'dogwatchlaw10.RecordBack': WHATEVER THE INPUT: true; the input reads as it did. -/
def recordBackSpec : ChangeSpec := { name := "recordBack", fn := fun _ => fun
  | [d] => { results := [.lit (.bool true)], args := [d] }
  | _ => none }
def recordBackRow : OpenClaim := { program := "ytgjcbpeliimhaaa", sum := "03c64398caec3e0e860a00600f0bb8bb8fbf8217d214b745f714a1789f3e2361", func := "dogwatch/dogwatchlaw10.RecordBack", spec := "recordBack", apart := false }
def RecordBackSaid : Prop := recordBackRow.holds Try.pinned (OpenSpec.ofChange recordBackSpec)

/-- ITS FALSE NEIGHBOUR: 'it returns false'. Refute it at one input. -/
def recordBackWrong : ChangeSpec := { name := "recordBack", fn := fun _ => fun
  | [d] => { results := [.lit (.bool false)], args := [d] }
  | _ => none }
def RecordBackWrongFalsely : Prop := recordBackRow.holds Try.pinned (OpenSpec.ofChange recordBackWrong)

/-- 'dogwatchlaw10.RecordAll': WHATEVER THE INPUT: true; the input reads as it did. -/
def recordAllSpec : ChangeSpec := { name := "recordAll", fn := fun _ => fun
  | [d] => { results := [.lit (.bool true)], args := [d] }
  | _ => none }
def recordAllRow : OpenClaim := { program := "ytgjcbpeliimhaaa", sum := "03c64398caec3e0e860a00600f0bb8bb8fbf8217d214b745f714a1789f3e2361", func := "dogwatch/dogwatchlaw10.RecordAll", spec := "recordAll", apart := false }
def RecordAllSaid : Prop := recordAllRow.holds Try.pinned (OpenSpec.ofChange recordAllSpec)

/-- ITS FALSE NEIGHBOUR: 'it returns false'. Refute it at one input. -/
def recordAllWrong : ChangeSpec := { name := "recordAll", fn := fun _ => fun
  | [d] => { results := [.lit (.bool false)], args := [d] }
  | _ => none }
def RecordAllWrongFalsely : Prop := recordAllRow.holds Try.pinned (OpenSpec.ofChange recordAllWrong)

/-- 'dogwatchlaw10.RecordFinds': WHATEVER THE INPUT: true; the input reads as it did. -/
def recordFindsSpec : ChangeSpec := { name := "recordFinds", fn := fun _ => fun
  | [d1, d2, d3] => { results := [.lit (.bool true)], args := [d1, d2, d3] }
  | _ => none }
def recordFindsRow : OpenClaim := { program := "ytgjcbpeliimhaaa", sum := "03c64398caec3e0e860a00600f0bb8bb8fbf8217d214b745f714a1789f3e2361", func := "dogwatch/dogwatchlaw10.RecordFinds", spec := "recordFinds", apart := false }
def RecordFindsSaid : Prop := recordFindsRow.holds Try.pinned (OpenSpec.ofChange recordFindsSpec)

/-- ITS FALSE NEIGHBOUR: 'it returns false'. Refute it at one input. -/
def recordFindsWrong : ChangeSpec := { name := "recordFinds", fn := fun _ => fun
  | [d1, d2, d3] => { results := [.lit (.bool false)], args := [d1, d2, d3] }
  | _ => none }
def RecordFindsWrongFalsely : Prop := recordFindsRow.holds Try.pinned (OpenSpec.ofChange recordFindsWrong)

/-- 'dogwatchlaw09.OctetNums': WHATEVER THE INPUT: true; the input reads as it did. -/
def octetNumsSpec : ChangeSpec := { name := "octetNums", fn := fun _ => fun
  | [d1, d2, d3] => { results := [.lit (.bool true)], args := [d1, d2, d3] }
  | _ => none }
def octetNumsRow : OpenClaim := { program := "ytgjcbpeliimhaaa", sum := "03c64398caec3e0e860a00600f0bb8bb8fbf8217d214b745f714a1789f3e2361", func := "dogwatch/dogwatchlaw09.OctetNums", spec := "octetNums", recurses := true, apart := false }
def OctetNumsSaid : Prop := octetNumsRow.holds Try.pinned (OpenSpec.ofChange octetNumsSpec)

/-- ITS FALSE NEIGHBOUR: 'it returns false'. Refute it at one input. -/
def octetNumsWrong : ChangeSpec := { name := "octetNums", fn := fun _ => fun
  | [d1, d2, d3] => { results := [.lit (.bool false)], args := [d1, d2, d3] }
  | _ => none }
def OctetNumsWrongFalsely : Prop := octetNumsRow.holds Try.pinned (OpenSpec.ofChange octetNumsWrong)

/-- 'dogwatchlaw09.OctetApart': WHATEVER THE INPUT: true; the input reads as it did. -/
def octetApartSpec : ChangeSpec := { name := "octetApart", fn := fun _ => fun
  | [d1, d2] => { results := [.lit (.bool true)], args := [d1, d2] }
  | _ => none }
def octetApartRow : OpenClaim := { program := "ytgjcbpeliimhaaa", sum := "03c64398caec3e0e860a00600f0bb8bb8fbf8217d214b745f714a1789f3e2361", func := "dogwatch/dogwatchlaw09.OctetApart", spec := "octetApart", apart := false }
def OctetApartSaid : Prop := octetApartRow.holds Try.pinned (OpenSpec.ofChange octetApartSpec)

/-- ITS FALSE NEIGHBOUR: 'it returns false'. Refute it at one input. -/
def octetApartWrong : ChangeSpec := { name := "octetApart", fn := fun _ => fun
  | [d1, d2] => { results := [.lit (.bool false)], args := [d1, d2] }
  | _ => none }
def OctetApartWrongFalsely : Prop := octetApartRow.holds Try.pinned (OpenSpec.ofChange octetApartWrong)

/-- 'dogwatchlaw09.OctetBack': WHATEVER THE INPUT: true; the input reads as it did. -/
def octetBackSpec : ChangeSpec := { name := "octetBack", fn := fun _ => fun
  | [d] => { results := [.lit (.bool true)], args := [d] }
  | _ => none }
def octetBackRow : OpenClaim := { program := "ytgjcbpeliimhaaa", sum := "03c64398caec3e0e860a00600f0bb8bb8fbf8217d214b745f714a1789f3e2361", func := "dogwatch/dogwatchlaw09.OctetBack", spec := "octetBack", apart := false }
def OctetBackSaid : Prop := octetBackRow.holds Try.pinned (OpenSpec.ofChange octetBackSpec)

/-- ITS FALSE NEIGHBOUR: 'it returns false'. Refute it at one input. -/
def octetBackWrong : ChangeSpec := { name := "octetBack", fn := fun _ => fun
  | [d] => { results := [.lit (.bool false)], args := [d] }
  | _ => none }
def OctetBackWrongFalsely : Prop := octetBackRow.holds Try.pinned (OpenSpec.ofChange octetBackWrong)

/-- 'dogwatchlaw07.SlotsPlay': WHATEVER THE INPUT: true; the input reads as it did. -/
def slotsPlaySpec : ChangeSpec := { name := "slotsPlay", fn := fun _ => fun
  | [d1, d2, d3, d4] => { results := [.lit (.bool true)], args := [d1, d2, d3, d4] }
  | _ => none }
def slotsPlayRow : OpenClaim := { program := "ytgjcbpeliimhaaa", sum := "03c64398caec3e0e860a00600f0bb8bb8fbf8217d214b745f714a1789f3e2361", func := "dogwatch/dogwatchlaw07.SlotsPlay", spec := "slotsPlay", apart := false }
def SlotsPlaySaid : Prop := slotsPlayRow.holds Try.pinned (OpenSpec.ofChange slotsPlaySpec)

/-- ITS FALSE NEIGHBOUR: 'it returns false'. Refute it at one input. -/
def slotsPlayWrong : ChangeSpec := { name := "slotsPlay", fn := fun _ => fun
  | [d1, d2, d3, d4] => { results := [.lit (.bool false)], args := [d1, d2, d3, d4] }
  | _ => none }
def SlotsPlayWrongFalsely : Prop := slotsPlayRow.holds Try.pinned (OpenSpec.ofChange slotsPlayWrong)

/-- 'dogwatchlaw07.SlotsNobody': WHATEVER THE INPUT: true; the input reads as it did. -/
def slotsNobodySpec : ChangeSpec := { name := "slotsNobody", fn := fun _ => fun
  | [d1, d2, d3] => { results := [.lit (.bool true)], args := [d1, d2, d3] }
  | _ => none }
def slotsNobodyRow : OpenClaim := { program := "ytgjcbpeliimhaaa", sum := "03c64398caec3e0e860a00600f0bb8bb8fbf8217d214b745f714a1789f3e2361", func := "dogwatch/dogwatchlaw07.SlotsNobody", spec := "slotsNobody", apart := false }
def SlotsNobodySaid : Prop := slotsNobodyRow.holds Try.pinned (OpenSpec.ofChange slotsNobodySpec)

/-- ITS FALSE NEIGHBOUR: 'it returns false'. Refute it at one input. -/
def slotsNobodyWrong : ChangeSpec := { name := "slotsNobody", fn := fun _ => fun
  | [d1, d2, d3] => { results := [.lit (.bool false)], args := [d1, d2, d3] }
  | _ => none }
def SlotsNobodyWrongFalsely : Prop := slotsNobodyRow.holds Try.pinned (OpenSpec.ofChange slotsNobodyWrong)

/-- 'dogwatchtop.TopKeeper': WHATEVER THE INPUT: true; the input reads as it did. -/
def topKeeperSpec : ChangeSpec := { name := "topKeeper", fn := fun _ => fun
  | [d1, d2] => { results := [.lit (.bool true)], args := [d1, d2] }
  | _ => none }
def topKeeperRow : OpenClaim := { program := "ytgjcbpeliimhaaa", sum := "03c64398caec3e0e860a00600f0bb8bb8fbf8217d214b745f714a1789f3e2361", func := "dogwatch/dogwatchtop.TopKeeper", spec := "topKeeper", apart := false }
def TopKeeperSaid : Prop := topKeeperRow.holds Try.pinned (OpenSpec.ofChange topKeeperSpec)

/-- ITS FALSE NEIGHBOUR: 'it returns false'. Refute it at one input. -/
def topKeeperWrong : ChangeSpec := { name := "topKeeper", fn := fun _ => fun
  | [d1, d2] => { results := [.lit (.bool false)], args := [d1, d2] }
  | _ => none }
def TopKeeperWrongFalsely : Prop := topKeeperRow.holds Try.pinned (OpenSpec.ofChange topKeeperWrong)

/-- 'dogwatchlaw09.OctetNobody': WHATEVER THE INPUT: true; the input reads as it did. -/
def octetNobodySpec : ChangeSpec := { name := "octetNobody", fn := fun _ => fun
  | [d1, d2] => { results := [.lit (.bool true)], args := [d1, d2] }
  | _ => none }
def octetNobodyRow : OpenClaim := { program := "ytgjcbpeliimhaaa", sum := "03c64398caec3e0e860a00600f0bb8bb8fbf8217d214b745f714a1789f3e2361", func := "dogwatch/dogwatchlaw09.OctetNobody", spec := "octetNobody", apart := false }
def OctetNobodySaid : Prop := octetNobodyRow.holds Try.pinned (OpenSpec.ofChange octetNobodySpec)

/-- ITS FALSE NEIGHBOUR: 'it returns false'. Refute it at one input. -/
def octetNobodyWrong : ChangeSpec := { name := "octetNobody", fn := fun _ => fun
  | [d1, d2] => { results := [.lit (.bool false)], args := [d1, d2] }
  | _ => none }
def OctetNobodyWrongFalsely : Prop := octetNobodyRow.holds Try.pinned (OpenSpec.ofChange octetNobodyWrong)

/- THE SECOND FORM. 'bulk': how many values and letters a reading holds, each counted each time it is reached (what is shared counts as often as it is met; a slice's spare places count too). A statement '..UptoSaid' is the law's where the arguments, and the package variables that the reading takes, are together of bulk at most 1048576: NARROWER than '..Said'. Prove '..Said' where nothing that the law and all that it calls make is longer than what came in: it says more and counts as full. Else prove '..UptoSaid'. A law counts once. -/
mutual
def uptoBulk {H : Type} : DataW H → Nat
  | .lit (.string bytes) => bytes.length + 1
  | .lit _ => 1
  | .nil => 1
  | .ptr d => uptoBulk d + 1
  | .slice elems spare => uptoBulkAll elems + uptoBulkAll spare + 1
  | .agg parts => uptoBulkAll parts + 1
  | .iface _ d => uptoBulk d + 1
  | .map entries => uptoBulkEntries entries + 1
  | .held _ => 1
def uptoBulkAll {H : Type} : List (DataW H) → Nat
  | [] => 0
  | d :: r => uptoBulk d + uptoBulkAll r
def uptoBulkEntries {H : Type} : List (Lit × DataW H) → Nat
  | [] => 0
  | x :: r => uptoBulkEntry x + uptoBulkEntries r
def uptoBulkEntry {H : Type} : Lit × DataW H → Nat
  | (.string bytes, d) => bytes.length + uptoBulk d + 1
  | (_, d) => uptoBulk d + 1
 end
def uptoSmall : (H : Type) → List (DataW H) → Bool := fun _ ds => decide (uptoBulkAll ds ≤ 1048576)
def OpenSpec.upto (s : _root_.Go.ChangeSpec) : _root_.Go.OpenSpec := { _root_.Go.OpenSpec.ofChange s with cond := some uptoSmall }

/-- 'dogwatchlaw07.SlotsMix', WHERE WHAT IT READS IS OF BULK AT MOST 1048576: true; the input reads as it did. -/
def slotsMixUptoRow : OpenClaim := { program := "ytgjcbpeliimhaaa", sum := "03c64398caec3e0e860a00600f0bb8bb8fbf8217d214b745f714a1789f3e2361", func := "dogwatch/dogwatchlaw07.SlotsMix", spec := "slotsMix", apart := false, narrowed := true }
def SlotsMixUptoSaid : Prop := slotsMixUptoRow.holds Try.pinned (OpenSpec.upto slotsMixSpec)

/-- 'dogwatchlaw10.RecordSplits', WHERE WHAT IT READS IS OF BULK AT MOST 1048576: true; the input reads as it did. -/
def recordSplitsUptoRow : OpenClaim := { program := "ytgjcbpeliimhaaa", sum := "03c64398caec3e0e860a00600f0bb8bb8fbf8217d214b745f714a1789f3e2361", func := "dogwatch/dogwatchlaw10.RecordSplits", spec := "recordSplits", apart := false, narrowed := true }
def RecordSplitsUptoSaid : Prop := recordSplitsUptoRow.holds Try.pinned (OpenSpec.upto recordSplitsSpec)

/-- 'dogwatchlaw10.RecordBack', WHERE WHAT IT READS IS OF BULK AT MOST 1048576: true; the input reads as it did. -/
def recordBackUptoRow : OpenClaim := { program := "ytgjcbpeliimhaaa", sum := "03c64398caec3e0e860a00600f0bb8bb8fbf8217d214b745f714a1789f3e2361", func := "dogwatch/dogwatchlaw10.RecordBack", spec := "recordBack", apart := false, narrowed := true }
def RecordBackUptoSaid : Prop := recordBackUptoRow.holds Try.pinned (OpenSpec.upto recordBackSpec)

/-- 'dogwatchlaw10.RecordAll', WHERE WHAT IT READS IS OF BULK AT MOST 1048576: true; the input reads as it did. -/
def recordAllUptoRow : OpenClaim := { program := "ytgjcbpeliimhaaa", sum := "03c64398caec3e0e860a00600f0bb8bb8fbf8217d214b745f714a1789f3e2361", func := "dogwatch/dogwatchlaw10.RecordAll", spec := "recordAll", apart := false, narrowed := true }
def RecordAllUptoSaid : Prop := recordAllUptoRow.holds Try.pinned (OpenSpec.upto recordAllSpec)

/-- 'dogwatchlaw10.RecordFinds', WHERE WHAT IT READS IS OF BULK AT MOST 1048576: true; the input reads as it did. -/
def recordFindsUptoRow : OpenClaim := { program := "ytgjcbpeliimhaaa", sum := "03c64398caec3e0e860a00600f0bb8bb8fbf8217d214b745f714a1789f3e2361", func := "dogwatch/dogwatchlaw10.RecordFinds", spec := "recordFinds", apart := false, narrowed := true }
def RecordFindsUptoSaid : Prop := recordFindsUptoRow.holds Try.pinned (OpenSpec.upto recordFindsSpec)

/-- 'dogwatchlaw09.OctetNums', WHERE WHAT IT READS IS OF BULK AT MOST 1048576: true; the input reads as it did. -/
def octetNumsUptoRow : OpenClaim := { program := "ytgjcbpeliimhaaa", sum := "03c64398caec3e0e860a00600f0bb8bb8fbf8217d214b745f714a1789f3e2361", func := "dogwatch/dogwatchlaw09.OctetNums", spec := "octetNums", recurses := true, apart := false, narrowed := true }
def OctetNumsUptoSaid : Prop := octetNumsUptoRow.holds Try.pinned (OpenSpec.upto octetNumsSpec)

/-- 'dogwatchlaw09.OctetApart', WHERE WHAT IT READS IS OF BULK AT MOST 1048576: true; the input reads as it did. -/
def octetApartUptoRow : OpenClaim := { program := "ytgjcbpeliimhaaa", sum := "03c64398caec3e0e860a00600f0bb8bb8fbf8217d214b745f714a1789f3e2361", func := "dogwatch/dogwatchlaw09.OctetApart", spec := "octetApart", apart := false, narrowed := true }
def OctetApartUptoSaid : Prop := octetApartUptoRow.holds Try.pinned (OpenSpec.upto octetApartSpec)

/-- 'dogwatchlaw09.OctetBack', WHERE WHAT IT READS IS OF BULK AT MOST 1048576: true; the input reads as it did. -/
def octetBackUptoRow : OpenClaim := { program := "ytgjcbpeliimhaaa", sum := "03c64398caec3e0e860a00600f0bb8bb8fbf8217d214b745f714a1789f3e2361", func := "dogwatch/dogwatchlaw09.OctetBack", spec := "octetBack", apart := false, narrowed := true }
def OctetBackUptoSaid : Prop := octetBackUptoRow.holds Try.pinned (OpenSpec.upto octetBackSpec)

/-- 'dogwatchlaw07.SlotsPlay', WHERE WHAT IT READS IS OF BULK AT MOST 1048576: true; the input reads as it did. -/
def slotsPlayUptoRow : OpenClaim := { program := "ytgjcbpeliimhaaa", sum := "03c64398caec3e0e860a00600f0bb8bb8fbf8217d214b745f714a1789f3e2361", func := "dogwatch/dogwatchlaw07.SlotsPlay", spec := "slotsPlay", apart := false, narrowed := true }
def SlotsPlayUptoSaid : Prop := slotsPlayUptoRow.holds Try.pinned (OpenSpec.upto slotsPlaySpec)

/-- 'dogwatchlaw07.SlotsNobody', WHERE WHAT IT READS IS OF BULK AT MOST 1048576: true; the input reads as it did. -/
def slotsNobodyUptoRow : OpenClaim := { program := "ytgjcbpeliimhaaa", sum := "03c64398caec3e0e860a00600f0bb8bb8fbf8217d214b745f714a1789f3e2361", func := "dogwatch/dogwatchlaw07.SlotsNobody", spec := "slotsNobody", apart := false, narrowed := true }
def SlotsNobodyUptoSaid : Prop := slotsNobodyUptoRow.holds Try.pinned (OpenSpec.upto slotsNobodySpec)

/-- 'dogwatchtop.TopKeeper', WHERE WHAT IT READS IS OF BULK AT MOST 1048576: true; the input reads as it did. -/
def topKeeperUptoRow : OpenClaim := { program := "ytgjcbpeliimhaaa", sum := "03c64398caec3e0e860a00600f0bb8bb8fbf8217d214b745f714a1789f3e2361", func := "dogwatch/dogwatchtop.TopKeeper", spec := "topKeeper", apart := false, narrowed := true }
def TopKeeperUptoSaid : Prop := topKeeperUptoRow.holds Try.pinned (OpenSpec.upto topKeeperSpec)

/-- 'dogwatchlaw09.OctetNobody', WHERE WHAT IT READS IS OF BULK AT MOST 1048576: true; the input reads as it did. -/
def octetNobodyUptoRow : OpenClaim := { program := "ytgjcbpeliimhaaa", sum := "03c64398caec3e0e860a00600f0bb8bb8fbf8217d214b745f714a1789f3e2361", func := "dogwatch/dogwatchlaw09.OctetNobody", spec := "octetNobody", apart := false, narrowed := true }
def OctetNobodyUptoSaid : Prop := octetNobodyUptoRow.holds Try.pinned (OpenSpec.upto octetNobodySpec)

end Rows
end Go.Proofs.Ytgjcbpeliimhaaa
