/- Which of any two fractions is greater is what the reference tells, and this is an order; for every input. -/
import Derived.Test.YtimabnjdgdcmaaaPFixqx5
import Derived.Test.YtimabnjdgdcmaaaFqMore
namespace Go.Proofs.Ytimabnjdgdcmaaa.Pure
open Go.RowKit Go.Proofs.Ytimabnjdgdcmaaa.PFixq Go.Proofs.YtimabnjdgdcmaaaW.PrintWords Go.Proofs.YtimabnjdgdcmaaaW.PrintLast FqMath
set_option linter.unusedVariables false
set_option linter.unusedSimpArgs false

theorem cmp_neg (x y : Int) : wrap64 (-cmp x y) = cmp y x := by
  unfold cmp wrap64
  by_cases h : x < y
  · rw [if_pos h, if_neg (by omega), if_neg (by omega)]; omega
  · rw [if_neg h]
    by_cases h2 : x = y
    · rw [if_pos h2, if_neg (by omega), if_pos h2.symm]; omega
    · rw [if_neg h2, if_pos (by omega)]; omega
theorem cmp_le (x y : Int) : cmp x y ≤ 0 ↔ x ≤ y := by
  unfold cmp
  by_cases h : x < y
  · rw [if_pos h]; omega
  · rw [if_neg h]
    by_cases h2 : x = y
    · rw [if_pos h2]; omega
    · rw [if_neg h2]; omega
theorem cmp_lt (x y : Int) : cmp x y < 0 ↔ x < y := by
  unfold cmp
  by_cases h : x < y
  · rw [if_pos h]; omega
  · rw [if_neg h]
    by_cases h2 : x = y
    · rw [if_pos h2]; omega
    · rw [if_neg h2]; omega
theorem chain_le (a b c d x y : Int) (hb : 0 < b) (hd : 0 < d) (hy : 0 < y) (h1 : a * d ≤ c * b) (h2 : c * y ≤ x * d) : a * y ≤ x * b := by
  have e1 : a * d * y ≤ c * b * y := Int.mul_le_mul_of_nonneg_right h1 (by omega)
  have e2 : c * y * b ≤ x * d * b := Int.mul_le_mul_of_nonneg_right h2 (by omega)
  have e3 : c * b * y = c * y * b := by grind
  have e4 : a * y * d ≤ x * b * d := by
    have f1 : a * y * d = a * d * y := by grind
    have f2 : x * b * d = x * d * b := by grind
    omega
  exact Int.le_of_mul_le_mul_right e4 hd
theorem chain_lt (a b c d x y : Int) (hb : 0 < b) (hd : 0 < d) (hy : 0 < y) (h1 : a * d < c * b) (h2 : c * y ≤ x * d) : a * y < x * b := by
  have e1 : a * d * y < c * b * y := Int.mul_lt_mul_of_pos_right h1 hy
  have e2 : c * y * b ≤ x * d * b := Int.mul_le_mul_of_nonneg_right h2 (by omega)
  have e3 : c * b * y = c * y * b := by grind
  have e4 : a * y * d < x * b * d := by
    have f1 : a * y * d = a * d * y := by grind
    have f2 : x * b * d = x * d * b := by grind
    omega
  exact Int.lt_of_mul_lt_mul_right e4 (by omega)

theorem FixqCompares : dogwatchlaw02_FixqCompares.Pure := by
  intro a b c d x y ha hb hc hd hx hy
  obtain ⟨ha0, ha1⟩ := wfu ha
  obtain ⟨hb0, hb1⟩ := wfu hb
  obtain ⟨hc0, hc1⟩ := wfu hc
  obtain ⟨hd0, hd1⟩ := wfu hd
  obtain ⟨hx0, hx1⟩ := wfu hx
  obtain ⟨hy0, hy1⟩ := wfu hy
  clear ha hb hc hd hx hy
  obtain ⟨k, hk⟩ : ∃ k, k = 1099511627776 := ⟨_, rfl⟩
  refine ⟨k + 2 + 1 + 1, ?_⟩
  have aw1 := awake (k + 2 + 1) (by omega)
  have aw0 := awake (k + 2) (by omega)
  unfold dogwatchlaw02_FixqCompares.f
  rw [compare (k + 2) a b c d ha0 ha1 hb0 hb1 hc0 hc1 hd0 hd1]
  simp only [Option.bind_some]
  by_cases h1 : b = 0
  · rw [if_pos h1, if_pos (Or.inl h1)]
    simp only [dogwatchlaw02_FixqCompares.j0, if_true]
    simp [aw1]
  · rw [if_neg h1]
    by_cases h2 : d = 0
    · rw [if_pos (Or.inr h2)]
      have e : (d == 0) = true := beq_iff_eq.mpr h2
      rw [e]
      simp only [dogwatchlaw02_FixqCompares.j0, if_true]
      simp [aw1]
    · have e : (d == 0) = false := beq_eq_false_iff_ne.mpr h2
      rw [e, if_neg (by omega)]
      simp only [dogwatchlaw02_FixqCompares.j0]
      rw [if_neg (by simp), compare (k + 1) c d a b hc0 hc1 hd0 hd1 ha0 ha1 hb0 hb1, rcompare _ a b c d (by omega) ha0 ha1 hb0 hb1 hc0 hc1 hd0 hd1]
      simp only [Option.bind_some, if_true, h1, h2, or_self, if_false]
      rw [if_pos (cmp_neg _ _).symm]
      have e0 : ((0 : Int) != 0) = false := by decide
      rw [e0]
      simp only [dogwatchlaw02_FixqCompares.j1]
      rw [if_neg (by simp)]
      by_cases h3 : y = 0
      · rw [if_pos h3]; simp [aw0]
      · rw [if_neg h3, compare k c d x y hc0 hc1 hd0 hd1 hx0 hx1 hy0 hy1, compare k a b x y ha0 ha1 hb0 hb1 hx0 hx1 hy0 hy1]
        simp only [Option.bind_some, h1, h2, h3, or_self, if_false, if_true, aw0]
        have p1 := cmp_le (a * d) (c * b)
        have p2 := cmp_le (c * y) (x * d)
        have p3 := cmp_le (a * y) (x * b)
        have p4 := cmp_lt (a * d) (c * b)
        have p5 := cmp_lt (a * y) (x * b)
        have q1 := chain_le a b c d x y (by omega) (by omega) (by omega)
        have q2 := chain_lt a b c d x y (by omega) (by omega) (by omega)
        by_cases g1 : cmp (a * d) (c * b) ≤ 0
        · rw [if_pos g1]
          by_cases g2 : cmp (c * y) (x * d) ≤ 0
          · have g3 := p3.2 (q1 (p1.1 g1) (p2.1 g2))
            rw [if_pos g2, if_neg (by omega)]
            by_cases g4 : cmp (a * d) (c * b) < 0
            · have g5 := p5.2 (q2 (p4.1 g4) (p2.1 g2))
              rw [if_pos g4, if_neg (by omega)]
            · rw [if_neg g4]
          · rw [if_neg g2]
            split <;> rfl
        · rw [if_neg g1, if_neg (by omega)]

end Go.Proofs.Ytimabnjdgdcmaaa.Pure
