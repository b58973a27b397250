/- fixq.Mul, walked by hand: what it computes. -/
import Derived.Test.YtimabnjdgdcmaaaPFixqx2
import Derived.Test.YtimabnjdgdcmaaaPFixqx8
namespace Go.Proofs.Ytimabnjdgdcmaaa.PFixq
open Go.RowKit Go.Proofs.YtimabnjdgdcmaaaW.PrintWords Go.Proofs.YtimabnjdgdcmaaaW.PrintLast Go.Proofs.YtimabnjdgdcmaaaW.PrintMore
set_option linter.unusedVariables false
set_option linter.unusedSimpArgs false

def mulOf (below : Bool) (hi lo : Int) : Int × Int :=
  if hi = 0 then (if lo > 9223372036854775808 then (0, 5) else if lo = 9223372036854775808 then (if below = true then (wrap64 (IntKind.u64.wrap (-lo)), 0) else (0, 5))
    else if below = true then (wrap64 (IntKind.u64.wrap (-lo)), 0) else (wrap64 lo, 0)) else (0, 5)
def fixq_Mul.f (a b : Int) : Option (Int × Int) :=
  (fixq_size.f a).bind fun x => (fixq_size.f b).bind fun y => (bits_Mul64.f x y).bind fun m => some (mulOf (decide (a < 0) != decide (b < 0)) m.1 m.2)

set_option maxHeartbeats 8000000 in
set_option maxRecDepth 100000 in
theorem fixq_Mul.calls_at (a0 a1 x y hi lo : Int) (p q : Bool) (w : World) (hp : decide (a0 < 0) = p) (hq : decide (a1 < 0) = q)
    (hx : Aside0 (fixq_size.f a0 = some x)) (hy : Aside0 (fixq_size.f a1 = some y)) (hm : Aside0 (bits_Mul64.f x y = some (hi, lo))) :
    Calls Try.prog 31 #[.int .i64 a0, .int .i64 a1] w fun e w' => e = .returned (.tuple #[.int .i64 (mulOf (p != q) hi lo).1, .int .i64 (mulOf (p != q) hi lo).2]) ∧ Drawn0 w w' := by
  by_cases h1 : hi = 0
  · have b1 : (hi != 0) = false := bne_eq_false_iff_eq.mpr h1
    by_cases h2 : lo > 9223372036854775808
    · have b2 : decide (9223372036854775808 < lo) = true := decide_eq_true h2
      have em : mulOf (p != q) hi lo = (0, 5) := by unfold mulOf; rw [if_pos h1, if_pos h2]
      rw [em]
      clear em h1 h2
      cases p <;> cases q
      all_goals
        go_enter Try.func31, Try.ntmps31
        go_wp2_with (first | (go_at_call 50; (with_reducible refine (fixq_size.calls a0 x _ hx.out).mono ?_); rintro e w' ⟨rfl, ⟨nd, rfl⟩⟩) | (go_at_call 50; (with_reducible refine (fixq_size.calls a1 y _ hy.out).mono ?_); rintro e w' ⟨rfl, ⟨nd, rfl⟩⟩) | (go_at_call 46; (with_reducible refine (bits_Mul64.calls x y hi lo _ hm.out).mono ?_); rintro e w' ⟨rfl, ⟨nd, rfl⟩⟩))
        go_ret2
        exact ⟨rfl, by repeat (first | exact Drawn0.refl _ | apply Drawn0.step)⟩
    · have b2 : decide (9223372036854775808 < lo) = false := decide_eq_false h2
      by_cases h3 : lo = 9223372036854775808
      · have b3 : (lo == 9223372036854775808) = true := beq_iff_eq.mpr h3
        have em : mulOf (p != q) hi lo = if (p != q) = true then (wrap64 (IntKind.u64.wrap (-lo)), 0) else (0, 5) := by unfold mulOf; rw [if_pos h1, if_neg h2, if_pos h3]
        rw [em]
        clear em h1 h2 h3
        cases p <;> cases q
        all_goals
          go_enter Try.func31, Try.ntmps31
          go_wp2_with (first | (go_at_call 50; (with_reducible refine (fixq_size.calls a0 x _ hx.out).mono ?_); rintro e w' ⟨rfl, ⟨nd, rfl⟩⟩) | (go_at_call 50; (with_reducible refine (fixq_size.calls a1 y _ hy.out).mono ?_); rintro e w' ⟨rfl, ⟨nd, rfl⟩⟩) | (go_at_call 46; (with_reducible refine (bits_Mul64.calls x y hi lo _ hm.out).mono ?_); rintro e w' ⟨rfl, ⟨nd, rfl⟩⟩))
          go_ret2
          exact ⟨by first | rfl | (simp; done), by repeat (first | exact Drawn0.refl _ | apply Drawn0.step)⟩
      · have b3 : (lo == 9223372036854775808) = false := beq_eq_false_iff_ne.mpr h3
        have em : mulOf (p != q) hi lo = if (p != q) = true then (wrap64 (IntKind.u64.wrap (-lo)), 0) else (wrap64 lo, 0) := by unfold mulOf; rw [if_pos h1, if_neg h2, if_neg h3]
        rw [em]
        clear em h1 h2 h3
        cases p <;> cases q
        all_goals
          go_enter Try.func31, Try.ntmps31
          go_wp2_with (first | (go_at_call 50; (with_reducible refine (fixq_size.calls a0 x _ hx.out).mono ?_); rintro e w' ⟨rfl, ⟨nd, rfl⟩⟩) | (go_at_call 50; (with_reducible refine (fixq_size.calls a1 y _ hy.out).mono ?_); rintro e w' ⟨rfl, ⟨nd, rfl⟩⟩) | (go_at_call 46; (with_reducible refine (bits_Mul64.calls x y hi lo _ hm.out).mono ?_); rintro e w' ⟨rfl, ⟨nd, rfl⟩⟩))
          go_ret2
          exact ⟨by first | rfl | (simp; done), by repeat (first | exact Drawn0.refl _ | apply Drawn0.step)⟩
  · have b1 : (hi != 0) = true := bne_iff_ne.mpr h1
    have em : mulOf (p != q) hi lo = (0, 5) := by unfold mulOf; rw [if_neg h1]
    rw [em]
    clear em h1
    cases p <;> cases q
    all_goals
      go_enter Try.func31, Try.ntmps31
      go_wp2_with (first | (go_at_call 50; (with_reducible refine (fixq_size.calls a0 x _ hx.out).mono ?_); rintro e w' ⟨rfl, ⟨nd, rfl⟩⟩) | (go_at_call 50; (with_reducible refine (fixq_size.calls a1 y _ hy.out).mono ?_); rintro e w' ⟨rfl, ⟨nd, rfl⟩⟩) | (go_at_call 46; (with_reducible refine (bits_Mul64.calls x y hi lo _ hm.out).mono ?_); rintro e w' ⟨rfl, ⟨nd, rfl⟩⟩))
      go_ret2
      exact ⟨rfl, by repeat (first | exact Drawn0.refl _ | apply Drawn0.step)⟩

theorem fixq_Mul.calls (a0 : Int) (a1 : Int) (r1 : Int) (r2 : Int) (w : World) (h : fixq_Mul.f a0 a1 = some (r1, r2)) :
    Calls Try.prog 31 #[.int .i64 a0, .int .i64 a1] w fun e w' => e = .returned (.tuple #[.int .i64 r1, .int .i64 r2]) ∧ Drawn0 w w' := by
  obtain ⟨x, hx, h⟩ := Option.bind_eq_some_iff.mp h
  obtain ⟨y, hy, h⟩ := Option.bind_eq_some_iff.mp h
  obtain ⟨⟨hi, lo⟩, hm, h⟩ := Option.bind_eq_some_iff.mp h
  have e1 : mulOf (decide (a0 < 0) != decide (a1 < 0)) hi lo = (r1, r2) := Option.some.inj h
  have := fixq_Mul.calls_at a0 a1 x y hi lo _ _ w rfl rfl ⟨hx⟩ ⟨hy⟩ ⟨hm⟩
  rw [e1] at this
  exact this
end Go.Proofs.Ytimabnjdgdcmaaa.PFixq
