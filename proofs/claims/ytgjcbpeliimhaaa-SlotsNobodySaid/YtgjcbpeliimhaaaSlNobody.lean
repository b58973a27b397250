/- SlotsNobody, walked by hand. -/
import Derived.Test.YtgjcbpeliimhaaaSlI7
import Derived.Test.YtgjcbpeliimhaaaSlAwake
namespace Go.Proofs.Ytgjcbpeliimhaaa.PSl
open Go.RowKit Go.Proofs.YtgjcbpeliimhaaaW.PrintWords Go.Proofs.YtgjcbpeliimhaaaW.PrintLast Go.Proofs.YtgjcbpeliimhaaaW.PrintMore
set_option linter.unusedVariables false
set_option linter.unusedSimpArgs false
set_option maxHeartbeats 4000000 in
theorem nobody (id gen x : Int) (w : World) : Calls Try.prog 12 #[.int .i64 id, .int .i64 gen, .int .i64 x] w fun e w' => e = .returned (.bool true) ∧ Below w.heap.size w w' := by
  have hz : I.Zero (w.alloc (.cells #[.slice none 0 0, .slice none 0 0, .int .i64 0, .int .i64 0] 87)) w.heap.size := heap_alloc_new _ _
  have HZ := Aside0.mk hz
  clear hz
  have hu := Try.underlying87
  go_enter Try.func12, Try.ntmps12
  go_wp2_with (first
    | (go_at_call 19; (with_reducible refine (I.take_nil x _).mono ?_); rintro e w1 ⟨rfl, rfl⟩)
    | (go_at_call 19; (with_reducible refine (I.take_zero HZ.out x).mono ?_); rintro e w1 ⟨rfl, rfl⟩)
    | (go_at_call 20; (with_reducible refine (I.get_nil _ _ _).mono ?_); rintro e w1 ⟨rfl, rfl⟩)
    | (go_at_call 42; (with_reducible refine (I.find_zero HZ.out _).mono ?_); rintro e w1 ⟨rfl, rfl⟩)
    | (go_at_call 45; (with_reducible refine (I.set_nil _ x _).mono ?_); rintro e w1 ⟨rfl, rfl⟩)
    | (go_at_call 17; (with_reducible refine (I.drop_zero HZ.out _ _).mono ?_); rintro e w1 ⟨rfl, rfl⟩)
    | (go_at_call 40; (with_reducible refine (I.ids_nil _).mono ?_); rintro e w1 ⟨rfl, rfl⟩)
    | (go_at_call 18; (with_reducible refine (I.len_zero HZ.out).mono ?_); rintro e w1 ⟨rfl, rfl⟩)
    | (go_at_call 16; (with_reducible refine (awake _).mono ?_); rintro e w1 ⟨rfl, hb⟩; have HB := Aside0.mk hb; clear hb))
  go_ret
  exact ⟨rfl, below_step ((Below.refl _ _).alloc (Nat.le_refl _) _) HB.out⟩
end Go.Proofs.Ytgjcbpeliimhaaa.PSl
