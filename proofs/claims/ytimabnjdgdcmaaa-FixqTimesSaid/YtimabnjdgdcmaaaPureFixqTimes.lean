/- The product of any two numbers, or that it runs over, is what the reference tells; for every input. -/
import Derived.Test.YtimabnjdgdcmaaaPFixqx7
import Derived.Test.YtimabnjdgdcmaaaFqMore
namespace Go.Proofs.Ytimabnjdgdcmaaa.Pure
open Go.RowKit Go.Proofs.Ytimabnjdgdcmaaa.PFixq Go.Proofs.YtimabnjdgdcmaaaW.PrintWords Go.Proofs.YtimabnjdgdcmaaaW.PrintLast FqMath
set_option linter.unusedVariables false
set_option linter.unusedSimpArgs false

theorem size_eq (a : Int) (ha0 : -9223372036854775808 ≤ a) (ha1 : a < 9223372036854775808) :
    fixq_size.f a = some (if a < 0 then -a else a) ∧ dogwatchref02_size.f a = some (if a < 0 then -a else a) := by
  unfold fixq_size.f dogwatchref02_size.f
  by_cases h : a < 0
  · simp only [if_pos h, uw]
    exact ⟨by congr 1; omega, by congr 1; omega⟩
  · simp only [if_neg h, uw]
    exact ⟨by congr 1; omega, by congr 1; omega⟩

theorem FixqTimes : dogwatchlaw02_FixqTimes.Pure := by
  intro a b ha hb
  obtain ⟨ha0, ha1⟩ := wfi ha
  obtain ⟨hb0, hb1⟩ := wfi hb
  clear ha hb
  obtain ⟨k, hk⟩ : ∃ k, k = 1099511627776 := ⟨_, rfl⟩
  refine ⟨k, ?_⟩
  have aw := awake k (by omega)
  unfold dogwatchlaw02_FixqTimes.f fixq_Mul.f dogwatchref02_Mul.f
  rw [(size_eq a ha0 ha1).1, (size_eq b hb0 hb1).1, (size_eq a ha0 ha1).2, (size_eq b hb0 hb1).2]
  simp only [Option.bind_some]
  have x0 : 0 ≤ (if a < 0 then -a else a) ∧ (if a < 0 then -a else a) < 18446744073709551616 := by split <;> omega
  have y0 : 0 ≤ (if b < 0 then -b else b) ∧ (if b < 0 then -b else b) < 18446744073709551616 := by split <;> omega
  generalize (if a < 0 then -a else a) = x at *
  generalize (if b < 0 then -b else b) = y at *
  generalize (decide (a < 0) != decide (b < 0)) = p
  rw [mul64 x y x0.1 x0.2 y0.1 y0.2, times k x y x0.1 x0.2 y0.1 y0.2 (by omega)]
  simp only [Option.bind_some]
  have hm := mul_bound x y x0.1 x0.2 y0.1 y0.2
  generalize x * y = z at *
  unfold mulOf dogwatchlaw02_told.f
  by_cases h1 : z / 18446744073709551616 = 0
  · have e0 : z % 18446744073709551616 = z := by omega
    rw [e0]
    by_cases h2 : z > 9223372036854775808
    · have h4 : ¬ z < 9223372036854775808 := by omega
      have h5 : ¬ z ≤ 9223372036854775808 := by omega
      cases p <;> simp [h1, h2, h4, h5, aw]
    · by_cases h3 : z = 9223372036854775808
      · subst h3
        cases p <;> simp [aw]
      · have h4 : z < 9223372036854775808 := by omega
        have h5 : z ≤ 9223372036854775808 := by omega
        cases p <;> simp [h1, h2, h3, h4, h5, aw]
  · cases p <;> simp [h1, aw]

end Go.Proofs.Ytimabnjdgdcmaaa.Pure
