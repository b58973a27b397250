/- OctetNobody, walked by hand. -/
import Derived.Test.YtgjcbpeliimhaaaGoAwake9
namespace Go.Proofs.Ytgjcbpeliimhaaa.POct
open Go.RowKit Go.Proofs.YtgjcbpeliimhaaaW.PrintWords Go.Proofs.YtgjcbpeliimhaaaW.PrintLast Go.Proofs.YtgjcbpeliimhaaaW.PrintMore Held
set_option linter.unusedVariables false
set_option linter.unusedSimpArgs false
set_option maxHeartbeats 8000000 in
set_option maxRecDepth 100000 in
theorem dogwatchlaw09_OctetNobody.walk (a0 a1 : Int) (w : World) :
    Calls Try.prog 14 #[.int .i64 a0, .int .u64 a1] w fun e w' => e = .returned (.bool true) ∧ Below w.heap.size w w' := by
  have HB := Aside0.mk (Below.refl w.heap.size w)
  go_enter Try.func14, Try.ntmps14
  go_wp2_with (first | (go_at_call 35; (with_reducible refine (num_nil a1 _).mono ?_); rintro e w2 ⟨rfl, rfl⟩) | (go_at_call 52; (with_reducible refine (raw_nil a0 _).mono ?_); rintro e w2 ⟨rfl, rfl⟩) | (go_at_call 53; (with_reducible refine (left_nil _).mono ?_); rintro e w2 ⟨rfl, rfl⟩) | (go_at_call 54; (with_reducible refine (err_nil _).mono ?_); rintro e w2 ⟨rfl, rfl⟩) | (go_at_call 36; (with_reducible refine (end_nil _).mono ?_); rintro e w2 ⟨rfl, rfl⟩) | (go_at_call 29; (with_reducible refine (dogwatchlaw09_awake.calls true _ rfl).mono ?_); rintro e w3 ⟨rfl, hb3⟩; have HB1 := Aside0.mk (show Below w.heap.size w w3 from below_step (by repeat (first | (with_reducible first | exact HB.out | apply below_alloc | apply pw_below_drewN | apply below_drew1) | exact HB.out)) hb3); clear hb3))
  go_ret
  exact ⟨rfl, HB1.out⟩
end Go.Proofs.Ytgjcbpeliimhaaa.POct
