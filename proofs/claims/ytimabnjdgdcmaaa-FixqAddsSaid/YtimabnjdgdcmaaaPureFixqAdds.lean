/- The sum and the difference of any two numbers, or that they run over, are what the reference tells; for every input. -/
import Derived.Test.YtimabnjdgdcmaaaPFixqx6
import Derived.Test.YtimabnjdgdcmaaaFqMore
namespace Go.Proofs.Ytimabnjdgdcmaaa.Pure
open Go.RowKit Go.Proofs.Ytimabnjdgdcmaaa.PFixq Go.Proofs.YtimabnjdgdcmaaaW.PrintWords Go.Proofs.YtimabnjdgdcmaaaW.PrintLast FqMath
set_option linter.unusedVariables false
set_option linter.unusedSimpArgs false

theorem add_eq (a b : Int) (ha0 : -9223372036854775808 ≤ a) (ha1 : a < 9223372036854775808) (hb0 : -9223372036854775808 ≤ b) (hb1 : b < 9223372036854775808) :
    fixq_Add.f a b = some (if -9223372036854775808 ≤ a + b ∧ a + b < 9223372036854775808 then (a + b, 0) else (0, 5)) ∧
    dogwatchref02_Add.f a b = some (if -9223372036854775808 ≤ a + b ∧ a + b < 9223372036854775808 then (a + b, true) else (0, false)) := by
  constructor
  · unfold fixq_Add.f
    by_cases h : -9223372036854775808 ≤ a + b ∧ a + b < 9223372036854775808
    · have e : wrap64 (a + b) = a + b := by unfold wrap64; omega
      rw [if_pos h, e]
      by_cases h1 : 0 ≤ a <;> by_cases h2 : 0 ≤ b <;> by_cases h3 : 0 ≤ a + b <;> simp [h1, h2, h3] <;> omega
    · rw [if_neg h]
      by_cases h1 : 0 ≤ a
      · have e : wrap64 (a + b) < 0 := by unfold wrap64; omega
        have h2 : 0 ≤ b := by omega
        simp [h1, h2, e]
      · have e : 0 ≤ wrap64 (a + b) := by unfold wrap64; omega
        have h2 : ¬ 0 ≤ b := by omega
        simp [h1, h2, e]
  · unfold dogwatchref02_Add.f
    by_cases h : -9223372036854775808 ≤ a + b ∧ a + b < 9223372036854775808
    · have e : wrap64 (a + b) = a + b := by unfold wrap64; omega
      rw [if_pos h, e]
      by_cases h1 : b > 0
      · have e1 : wrap64 (9223372036854775807 - b) = 9223372036854775807 - b := by unfold wrap64; omega
        rw [if_pos h1, e1, if_neg (by omega), if_neg (by omega)]
      · rw [if_neg h1]
        by_cases h2 : b < 0
        · have e1 : wrap64 (-9223372036854775808 - b) = -9223372036854775808 - b := by unfold wrap64; omega
          rw [if_pos h2, e1, if_neg (by omega)]
        · rw [if_neg h2]
    · rw [if_neg h]
      by_cases h1 : b > 0
      · have e1 : wrap64 (9223372036854775807 - b) = 9223372036854775807 - b := by unfold wrap64; omega
        rw [if_pos h1, e1, if_pos (by omega)]
      · have e1 : wrap64 (-9223372036854775808 - b) = -9223372036854775808 - b := by unfold wrap64; omega
        rw [if_neg h1, if_pos (by omega), e1, if_pos (by omega)]
theorem sub_eq (a b : Int) (ha0 : -9223372036854775808 ≤ a) (ha1 : a < 9223372036854775808) (hb0 : -9223372036854775808 ≤ b) (hb1 : b < 9223372036854775808) :
    fixq_Sub.f a b = some (if -9223372036854775808 ≤ a - b ∧ a - b < 9223372036854775808 then (a - b, 0) else (0, 5)) ∧
    dogwatchref02_Sub.f a b = some (if -9223372036854775808 ≤ a - b ∧ a - b < 9223372036854775808 then (a - b, true) else (0, false)) := by
  constructor
  · unfold fixq_Sub.f
    by_cases h : -9223372036854775808 ≤ a - b ∧ a - b < 9223372036854775808
    · have e : wrap64 (a - b) = a - b := by unfold wrap64; omega
      rw [if_pos h, e]
      by_cases h1 : 0 ≤ a <;> by_cases h2 : 0 ≤ b <;> by_cases h3 : 0 ≤ a - b <;> simp [h1, h2, h3] <;> omega
    · rw [if_neg h]
      by_cases h1 : 0 ≤ a
      · have e : wrap64 (a - b) < 0 := by unfold wrap64; omega
        have h2 : b < 0 := by omega
        simp [h1, h2, e]
      · have e : 0 ≤ wrap64 (a - b) := by unfold wrap64; omega
        have h2 : 0 ≤ b := by omega
        simp [h1, h2, e]
  · unfold dogwatchref02_Sub.f
    by_cases h : -9223372036854775808 ≤ a - b ∧ a - b < 9223372036854775808
    · have e : wrap64 (a - b) = a - b := by unfold wrap64; omega
      rw [if_pos h, e]
      by_cases h1 : b < 0
      · have e1 : wrap64 (9223372036854775807 + b) = 9223372036854775807 + b := by unfold wrap64; omega
        rw [if_pos h1, e1, if_neg (by omega), if_neg (by omega)]
      · rw [if_neg h1]
        by_cases h2 : b > 0
        · have e1 : wrap64 (-9223372036854775808 + b) = -9223372036854775808 + b := by unfold wrap64; omega
          rw [if_pos h2, e1, if_neg (by omega)]
        · rw [if_neg h2]
    · rw [if_neg h]
      by_cases h1 : b < 0
      · have e1 : wrap64 (9223372036854775807 + b) = 9223372036854775807 + b := by unfold wrap64; omega
        rw [if_pos h1, e1, if_pos (by omega)]
      · have e1 : wrap64 (-9223372036854775808 + b) = -9223372036854775808 + b := by unfold wrap64; omega
        rw [if_neg h1, if_pos (by omega), e1, if_pos (by omega)]
theorem told_eq (z : Int) (p : Prop) [Decidable p] : dogwatchlaw02_told.f (if p then (z, (0 : Int)) else (0, 5)).1 (if p then (z, (0 : Int)) else (0, 5)).2 (if p then (z, true) else (0, false)).1 (if p then (z, true) else (0, false)).2 = some true := by
  unfold dogwatchlaw02_told.f
  by_cases h : p <;> simp [h]

theorem FixqAdds : dogwatchlaw02_FixqAdds.Pure := by
  intro a b ha hb
  obtain ⟨ha0, ha1⟩ := wfi ha
  obtain ⟨hb0, hb1⟩ := wfi hb
  clear ha hb
  obtain ⟨k, hk⟩ : ∃ k, k = 1099511627776 := ⟨_, rfl⟩
  refine ⟨k, ?_⟩
  have aw := awake k (by omega)
  unfold dogwatchlaw02_FixqAdds.f
  rw [(add_eq a b ha0 ha1 hb0 hb1).1, (add_eq a b ha0 ha1 hb0 hb1).2, (sub_eq a b ha0 ha1 hb0 hb1).1, (sub_eq a b ha0 ha1 hb0 hb1).2]
  simp only [Option.bind_some, told_eq, aw, if_true]

end Go.Proofs.Ytimabnjdgdcmaaa.Pure
