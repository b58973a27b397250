/- What is left of fixq: rounding up, comparing, the greatest divisor both ways, and the page's examples. -/
import Derived.Test.YtpammdblenfhgaaFqDiv
import Derived.Test.YtpammdblenfhgaaFqCeil
namespace Go.Proofs.Ytpammdblenfhgaa.PRg
open Go.RowKit Go.Proofs.YtpammdblenfhgaaW.PrintWords Go.Proofs.YtpammdblenfhgaaW.PrintLast Go.Proofs.YtpammdblenfhgaaW.PrintMore FqMath
set_option linter.unusedVariables false

theorem ceil (k : Nat) (a b c : Int) (hk : 1099511627776 ≤ k) (ha0 : 0 ≤ a) (ha : a < 18446744073709551616) (hb0 : 0 ≤ b) (hb : b < 18446744073709551616) (hc0 : 0 ≤ c) (hc : c < 18446744073709551616) :
    fixq_Ceil.f k a b c = some (if c = 0 then (0, 1) else if c ≤ a * b / 18446744073709551616 then (0, 5) else if a * b % c = 0 then (a * b / c, 0) else if a * b / c = 18446744073709551615 then (0, 5) else (a * b / c + 1, 0)) := by
  unfold fixq_Ceil.f
  rw [muldiv k a b c hk ha0 ha hb0 hb hc0 hc]
  simp only [Option.bind_some]
  unfold ceilOf
  by_cases h : c = 0
  · simp [h]
  · rw [if_neg h, if_neg h]
    by_cases h2 : c ≤ a * b / 18446744073709551616
    · rw [if_pos h2, if_pos h2]; simp
    · rw [if_neg h2, if_neg h2]
      have hm := mul_bound a b ha0 ha hb0 hb
      have hq0 : 0 ≤ a * b / c := Int.ediv_nonneg hm.1 hc0
      have hq1 : a * b / c < 18446744073709551616 := by
        refine (Int.ediv_lt_iff_lt_mul (by omega)).2 ?_
        have h3 : a * b / 18446744073709551616 < c := by omega
        have h4 : a * b < c * 18446744073709551616 := (Int.ediv_lt_iff_lt_mul (by omega)).1 h3
        rw [Int.mul_comm 18446744073709551616 c]
        exact h4
      simp only [hq0, if_true]
      by_cases hr : a * b % c = 0
      · simp [hr]
      · simp only [hr, if_false]
        by_cases hl : a * b / c = 18446744073709551615
        · rw [if_neg (by omega), if_pos (by omega), if_pos hl]
        · rw [if_pos (by omega), if_neg hl]

def cmp (x y : Int) : Int := if x < y then -1 else if x = y then 0 else 1
theorem cmp_words (x y : Int) : (if x / 18446744073709551616 < y / 18446744073709551616 ∨ (x / 18446744073709551616 = y / 18446744073709551616 ∧ x % 18446744073709551616 < y % 18446744073709551616) then (-1 : Int) else if x / 18446744073709551616 = y / 18446744073709551616 ∧ x % 18446744073709551616 = y % 18446744073709551616 then 0 else 1) = cmp x y := by
  unfold cmp
  by_cases h : x < y
  · rw [if_pos h, if_pos (by omega)]
  · rw [if_neg h, if_neg (by omega)]
    by_cases h2 : x = y
    · rw [if_pos h2, if_pos (by omega)]
    · rw [if_neg h2, if_neg (by omega)]

theorem compare (k : Nat) (a b c d : Int) (ha0 : 0 ≤ a) (ha : a < 18446744073709551616) (hb0 : 0 ≤ b) (hb : b < 18446744073709551616) (hc0 : 0 ≤ c) (hc : c < 18446744073709551616) (hd0 : 0 ≤ d) (hd : d < 18446744073709551616) :
    fixq_Compare.f (k + 2) a b c d = some (if b = 0 ∨ d = 0 then (0, 1) else (cmp (a * d) (c * b), 0)) := by
  unfold fixq_Compare.f
  by_cases h1 : b = 0
  · rw [if_pos h1, if_pos (Or.inl h1)]
    simp only [fixq_Compare.j0, if_true]
  · rw [if_neg h1]
    by_cases h2 : d = 0
    · rw [if_pos (Or.inr h2)]
      simp only [fixq_Compare.j0, h2, beq_self_eq_true, if_true]
    · rw [if_neg (by omega)]
      have e : (d == 0) = false := beq_eq_false_iff_ne.mpr h2
      rw [e]
      simp only [fixq_Compare.j0]
      rw [if_neg (by simp), mul64 a d ha0 ha hd0 hd, mul64 c b hc0 hc hb0 hb]
      simp only [Option.bind_some]
      generalize a * d = x
      generalize c * b = y
      rw [← cmp_words x y]
      by_cases g1 : x / 18446744073709551616 < y / 18446744073709551616
      · rw [if_pos g1]
        simp only [fixq_Compare.j1, if_true]
        rw [if_pos (Or.inl g1)]
      · rw [if_neg g1]
        by_cases g2 : x / 18446744073709551616 = y / 18446744073709551616
        · rw [if_pos g2]
          by_cases g3 : x % 18446744073709551616 < y % 18446744073709551616
          · rw [decide_eq_true g3]
            simp only [fixq_Compare.j1]
            rw [if_pos trivial, if_pos (Or.inr ⟨g2, g3⟩)]
          · rw [decide_eq_false g3]
            simp only [fixq_Compare.j1]
            rw [if_neg (by simp), if_pos g2]
            by_cases g4 : x % 18446744073709551616 = y % 18446744073709551616
            · rw [if_pos g4, if_neg (by omega), if_pos ⟨g2, g4⟩]
            · rw [if_neg g4, if_neg (by omega), if_neg (by omega)]
        · rw [if_neg g2]
          simp only [fixq_Compare.j1]
          rw [if_neg (by simp), if_neg g2, if_neg (by omega), if_neg (by omega)]

end Go.Proofs.Ytpammdblenfhgaa.PRg
