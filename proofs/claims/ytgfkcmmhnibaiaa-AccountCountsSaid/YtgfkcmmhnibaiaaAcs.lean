/- AccountCounts, walked by hand. -/
import Derived.Test.YtgfkcmmhnibaiaaAcp
import Derived.Test.YtgfkcmmhnibaiaaAcq
import Derived.Test.YtgfkcmmhnibaiaaAcr
namespace Go.Proofs.Ytgfkcmmhnibaiaa.Ac
open Go.RowKit Go.Proofs.YtgfkcmmhnibaiaaW.PrintWords Go.Proofs.YtgfkcmmhnibaiaaW.PrintLast Go.Proofs.YtgfkcmmhnibaiaaW.PrintMore Pt
set_option linter.unusedVariables false
set_option linter.unusedSimpArgs false
theorem counts (a0 : Int) (A1 : Option Addr) (c1 : Nat) (l1 : List (List Int)) (fg id core : Int) (w : World) (hr : Kd.C (Kd.slice 3 (Kd.int .i64)) w A1 l1.length l1) (hm : l1.length ≤ maxLen) (hid : IsInt id) :
    Calls Try.prog 6 #[.int .i64 a0, .slice A1 l1.length c1, .int .i64 fg, .int .i64 id, .int .i64 core] w fun e w' => e = .returned (.bool true) ∧ Below w.heap.size w w' := by
  by_cases h1 : 1 ≤ id
  · by_cases h2 : id ≤ 200
    · exact counts_p a0 A1 c1 l1 fg id core w hr hm hid ⟨h1, h2⟩
    · exact counts_r a0 A1 c1 l1 fg id core w hr hm hid ⟨h1, by omega⟩
  · exact counts_q a0 A1 c1 l1 fg id core w hr hm hid (by omega)
end Go.Proofs.Ytgfkcmmhnibaiaa.Ac
