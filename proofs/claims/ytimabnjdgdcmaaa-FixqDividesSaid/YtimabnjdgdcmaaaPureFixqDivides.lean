/- The product of any two words divided by any third one, rounded down with the rest, and rounded up, is what the reference tells; for every input. -/
import Derived.Test.YtimabnjdgdcmaaaPFixqx4
import Derived.Test.YtimabnjdgdcmaaaFqMore
namespace Go.Proofs.Ytimabnjdgdcmaaa.Pure
open Go.RowKit Go.Proofs.Ytimabnjdgdcmaaa.PFixq Go.Proofs.YtimabnjdgdcmaaaW.PrintWords Go.Proofs.YtimabnjdgdcmaaaW.PrintLast FqMath
set_option linter.unusedVariables false
set_option linter.unusedSimpArgs false

theorem FixqDivides : dogwatchlaw02_FixqDivides.Pure := by
  intro a b c ha hb hc
  obtain ⟨ha0, ha1⟩ := wfu ha
  obtain ⟨hb0, hb1⟩ := wfu hb
  obtain ⟨hc0, hc1⟩ := wfu hc
  clear ha hb hc
  obtain ⟨k, hk⟩ : ∃ k, k = 1099511627776 := ⟨_, rfl⟩
  refine ⟨k + 2, ?_⟩
  have aw := awake (k + 2) (by omega)
  have aw0 := awake k (by omega)
  unfold dogwatchlaw02_FixqDivides.f
  rw [muldiv _ a b c (by omega) ha0 ha1 hb0 hb1 hc0 hc1, ceil _ a b c (by omega) ha0 ha1 hb0 hb1 hc0 hc1]
  simp only [Option.bind_some]
  by_cases h : c = 0
  · simp [h, aw]
  · have hm := mul_bound a b ha0 ha1 hb0 hb1
    rw [if_neg h, if_neg h, if_neg h, times _ a b ha0 ha1 hb0 hb1 (by omega)]
    simp only [Option.bind_some]
    rw [rdiv _ _ _ c (by omega) hc1 (by omega) (by omega) (by omega) (by omega) (by omega)]
    simp only [Option.bind_some]
    rw [show a * b / 18446744073709551616 * 18446744073709551616 + a * b % 18446744073709551616 = a * b by omega]
    by_cases h2 : c ≤ a * b / 18446744073709551616
    · rw [if_pos h2, if_pos h2]
      have h3 : 18446744073709551616 ≤ a * b / c := by
        refine (Int.le_ediv_iff_mul_le (by omega)).2 ?_
        omega
      have h4 : (a * b / c / 18446744073709551616 == 0) = false := beq_eq_false_iff_ne.mpr (by omega)
      rw [h4]
      simp [aw]
    · rw [if_neg h2, if_neg h2]
      have hq0 : 0 ≤ a * b / c := Int.ediv_nonneg hm.1 hc0
      have hq1 : a * b / c < 18446744073709551616 := by
        refine (Int.ediv_lt_iff_lt_mul (by omega)).2 ?_
        have h3 : a * b / 18446744073709551616 < c := by omega
        have h4 : a * b < c * 18446744073709551616 := (Int.ediv_lt_iff_lt_mul (by omega)).1 h3
        rw [Int.mul_comm 18446744073709551616 c]
        exact h4
      have hr0 : 0 ≤ a * b % c := Int.emod_nonneg _ h
      have h4 : (a * b / c / 18446744073709551616 == 0) = true := beq_iff_eq.mpr (by omega)
      have h5 : a * b / c % 18446744073709551616 = a * b / c := by omega
      rw [h4, h5]
      generalize a * b / c = q at *
      generalize a * b % c = r at *
      rw [if_pos rfl, if_pos rfl, if_pos rfl]
      have e0 : ((0 : Int) != 0) = false := by decide
      by_cases hr : r = 0
      · rw [if_pos hr]
        simp only [e0]
        have hr' : ¬ r > 0 := by omega
        simp only [dogwatchlaw02_FixqDivides.j0, dogwatchlaw02_FixqDivides.j1, hr', if_false]
        simp [aw0]
      · rw [if_neg hr]
        have hr' : r > 0 := by omega
        by_cases hq : q = 18446744073709551615
        · rw [if_pos hq]
          have e : (q == 18446744073709551615) = true := beq_iff_eq.mpr hq
          simp only [e0, dogwatchlaw02_FixqDivides.j0, dogwatchlaw02_FixqDivides.j1, hr', e, if_true]
          simp [aw0]
        · rw [if_neg hq]
          have e : (q == 18446744073709551615) = false := beq_eq_false_iff_ne.mpr hq
          have e2 : IntKind.u64.wrap (q + 1) = q + 1 := uw_id (by omega) (by omega)
          simp only [e0, dogwatchlaw02_FixqDivides.j0, dogwatchlaw02_FixqDivides.j1, hr', e, e2, if_true]
          simp [aw0]

end Go.Proofs.Ytimabnjdgdcmaaa.Pure
