/- A quotient times the divisor, and the rest, are the product; for every input. -/
import Derived.Test.YtimabnjdgdcmaaaPFixqx4
import Derived.Test.YtimabnjdgdcmaaaFqMore
namespace Go.Proofs.Ytimabnjdgdcmaaa.Pure
open Go.RowKit Go.Proofs.Ytimabnjdgdcmaaa.PFixq Go.Proofs.YtimabnjdgdcmaaaW.PrintWords Go.Proofs.YtimabnjdgdcmaaaW.PrintLast FqMath
set_option linter.unusedVariables false
set_option linter.unusedSimpArgs false

theorem FixqWhole : dogwatchlaw02_FixqWhole.Pure := by
  intro a b c ha hb hc
  obtain ⟨ha0, ha1⟩ := wfu ha
  obtain ⟨hb0, hb1⟩ := wfu hb
  obtain ⟨hc0, hc1⟩ := wfu hc
  clear ha hb hc
  obtain ⟨k, hk⟩ : ∃ k, k = 1099511627776 := ⟨_, rfl⟩
  refine ⟨k, ?_⟩
  have aw := awake k (by omega)
  unfold dogwatchlaw02_FixqWhole.f
  rw [muldiv _ a b c (by omega) ha0 ha1 hb0 hb1 hc0 hc1]
  simp only [Option.bind_some]
  by_cases h : c = 0
  · simp [h, aw]
  · have hm := mul_bound a b ha0 ha1 hb0 hb1
    rw [if_neg h]
    by_cases h2 : c ≤ a * b / 18446744073709551616
    · rw [if_pos h2]
      simp [aw]
    · rw [if_neg h2]
      have hq0 : 0 ≤ a * b / c := Int.ediv_nonneg hm.1 hc0
      have hq1 : a * b / c < 18446744073709551616 := by
        refine (Int.ediv_lt_iff_lt_mul (by omega)).2 ?_
        have h3 : a * b / 18446744073709551616 < c := by omega
        have h4 : a * b < c * 18446744073709551616 := (Int.ediv_lt_iff_lt_mul (by omega)).1 h3
        rw [Int.mul_comm 18446744073709551616 c]
        exact h4
      have hr0 : 0 ≤ a * b % c := Int.emod_nonneg _ h
      have hr1 : a * b % c < c := Int.emod_lt_of_pos _ (by omega)
      have tot : a * b / c * c + a * b % c = a * b := by
        have := Int.mul_ediv_add_emod (a * b) c
        rw [Int.mul_comm] at this
        exact this
      generalize a * b / c = q at *
      generalize a * b % c = r at *
      rw [if_pos rfl, if_pos hr1, times _ q c hq0 hq1 hc0 hc1 (by omega)]
      simp only [Option.bind_some]
      have hm2 := mul_bound q c hq0 hq1 hc0 hc1
      rw [sum2 _ _ 0 r (by omega) (by omega) (by omega) (by omega) (by omega) (by omega) (by omega)]
      simp only [Option.bind_some]
      rw [times _ a b ha0 ha1 hb0 hb1 (by omega)]
      simp only [Option.bind_some]
      rw [show q * c / 18446744073709551616 * 18446744073709551616 + q * c % 18446744073709551616 + (0 * 18446744073709551616 + r) = a * b by omega]
      simp [aw]

end Go.Proofs.Ytimabnjdgdcmaaa.Pure
