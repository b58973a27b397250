/- fixq.Ceil, walked by hand: what it computes, over MulDiv's printed contract (bits.Add64 has no Go body). -/
import Derived.Test.YtpammdblenfhgaaPRgx2
namespace Go.Proofs.Ytpammdblenfhgaa.PRg
open Go.RowKit Go.Proofs.YtpammdblenfhgaaW.PrintWords Go.Proofs.YtpammdblenfhgaaW.PrintLast Go.Proofs.YtpammdblenfhgaaW.PrintMore
set_option linter.unusedVariables false
set_option linter.unusedSimpArgs false

def ceilOf (m : Int × Int × Int) : Option (Int × Int) :=
  if 0 ≤ m.1 then (if m.2.2 = 0 then (if m.2.1 = 0 then some (m.1, 0) else if m.1 + 1 < 18446744073709551616 then some (m.1 + 1, 0) else if m.1 + 1 = 18446744073709551616 then some (0, 5) else none) else some (m.1, m.2.2)) else none
def fixq_Ceil.f (k : Nat) (a b c : Int) : Option (Int × Int) := (fixq_MulDiv.f k a b c).bind ceilOf
theorem fixq_Ceil.mono : ∀ a0 a1 a2 k, LeO (fixq_Ceil.f k a0 a1 a2) (fixq_Ceil.f (k + 1) a0 a1 a2) := by
  intro a0 a1 a2 k
  unfold fixq_Ceil.f
  exact LeO.bind (fixq_MulDiv.mono _ _ _ _) (fun _ => LeO.refl _)

theorem add64_one (x : Int) (hx : 0 ≤ x) (w : World) :
    (callFunc 116 #[.int .u64 x, .int .u64 1, .int .u64 0]).run Try.prog w =
      .ok (.value (.tuple #[.int .u64 ((x + 1 + 0) % 18446744073709551616), .int .u64 ((x + 1 + 0) / 18446744073709551616)])) w := by
  rw [run_callFunc_extern Try.func116 (by kernel_rfl) (by kernel_rfl) (by kernel_rfl) (e := add64Entry) (by kernel_rfl), run_add64 x 1 0 hx (by omega) (by omega) (by omega)]
  rfl

set_option maxHeartbeats 4000000 in
set_option maxRecDepth 100000 in
theorem fixq_Ceil.calls (k : Nat) (a0 : Int) (a1 : Int) (a2 : Int) (r1 : Int) (r2 : Int) (w : World) (h : fixq_Ceil.f k a0 a1 a2 = some (r1, r2)) :
    Calls Try.prog 99 #[.int .u64 a0, .int .u64 a1, .int .u64 a2] w fun e w' => e = .returned (.tuple #[.int .u64 r1, .int .i64 r2]) ∧ Drawn0 w w' := by
  obtain ⟨⟨q, r, e⟩, hm, hc⟩ := Option.bind_eq_some_iff.mp h
  have HM := Aside0.mk hm
  clear hm h
  unfold ceilOf at hc
  by_cases h0 : 0 ≤ q
  case neg => simp only [h0, if_false] at hc; exact absurd hc (by simp)
  simp only [h0, if_true] at hc
  have hadd := fun W => add64_one q h0 W
  by_cases he : e = 0
  · subst he
    simp only [if_true] at hc
    by_cases hr : r = 0
    · subst hr
      simp only [if_true, Option.some.injEq, Prod.mk.injEq] at hc
      obtain ⟨rfl, rfl⟩ := hc
      go_enter Try.func99, Try.ntmps99
      go_wp2_with (go_at_call 102; (with_reducible refine (fixq_MulDiv.calls k a0 a1 a2 _ _ _ _ HM.out).mono ?_); rintro e w' ⟨rfl, ⟨nd, rfl⟩⟩)
      go_ret2
      exact ⟨rfl, by repeat (first | exact Drawn0.refl _ | apply Drawn0.step)⟩
    · have hr1 : (r == 0) = false := beq_eq_false_iff_ne.mpr hr
      simp only [hr, if_false] at hc
      clear hr
      by_cases hl : q + 1 < 18446744073709551616
      · simp only [hl, if_true, Option.some.injEq, Prod.mk.injEq] at hc
        obtain ⟨rfl, rfl⟩ := hc
        have e1 : (q + 1 + 0) % 18446744073709551616 = q + 1 := by omega
        have e2 : (q + 1 + 0) / 18446744073709551616 = 0 := by omega
        simp only [e1, e2] at hadd
        clear e1 e2
        go_enter Try.func99, Try.ntmps99
        go_wp2_with (go_at_call 102; (with_reducible refine (fixq_MulDiv.calls k a0 a1 a2 _ _ _ _ HM.out).mono ?_); rintro e w' ⟨rfl, ⟨nd, rfl⟩⟩)
        go_ret2
        exact ⟨rfl, by repeat (first | exact Drawn0.refl _ | apply Drawn0.step)⟩
      · simp only [hl, if_false] at hc
        by_cases hl2 : q + 1 = 18446744073709551616
        · simp only [hl2, if_true, Option.some.injEq, Prod.mk.injEq] at hc
          obtain ⟨rfl, rfl⟩ := hc
          have e1 : (q + 1 + 0) % 18446744073709551616 = 0 := by omega
          have e2 : (q + 1 + 0) / 18446744073709551616 = 1 := by omega
          simp only [e1, e2] at hadd
          clear e1 e2 hl hl2
          go_enter Try.func99, Try.ntmps99
          go_wp2_with (go_at_call 102; (with_reducible refine (fixq_MulDiv.calls k a0 a1 a2 _ _ _ _ HM.out).mono ?_); rintro e w' ⟨rfl, ⟨nd, rfl⟩⟩)
          go_ret2
          exact ⟨rfl, by repeat (first | exact Drawn0.refl _ | apply Drawn0.step)⟩
        · simp only [hl2, if_false] at hc
          exact absurd hc (by simp)
  · have he1 : (e != 0) = true := bne_iff_ne.mpr he
    simp only [he, if_false, Option.some.injEq, Prod.mk.injEq] at hc
    obtain ⟨rfl, rfl⟩ := hc
    clear he
    go_enter Try.func99, Try.ntmps99
    go_wp2_with (go_at_call 102; (with_reducible refine (fixq_MulDiv.calls k a0 a1 a2 _ _ _ _ HM.out).mono ?_); rintro e w' ⟨rfl, ⟨nd, rfl⟩⟩)
    go_ret2
    exact ⟨rfl, by repeat (first | exact Drawn0.refl _ | apply Drawn0.step)⟩
end Go.Proofs.Ytpammdblenfhgaa.PRg
