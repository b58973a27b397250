/- What is left of fixq: rounding up, comparing, the greatest divisor both ways, and the page's examples. -/
import Derived.Test.YtimabnjdgdcmaaaFqDiv
namespace Go.Proofs.Ytimabnjdgdcmaaa.PFixq
open Go.RowKit Go.Proofs.YtimabnjdgdcmaaaW.PrintWords Go.Proofs.YtimabnjdgdcmaaaW.PrintLast Go.Proofs.YtimabnjdgdcmaaaW.PrintMore FqMath
set_option linter.unusedVariables false

theorem ceil (k : Nat) (a b c : Int) (hk : 1099511627776 ≤ k) (ha0 : 0 ≤ a) (ha : a < 18446744073709551616) (hb0 : 0 ≤ b) (hb : b < 18446744073709551616) (hc0 : 0 ≤ c) (hc : c < 18446744073709551616) :
    fixq_Ceil.f k a b c = some (if c = 0 then (0, 1) else if c ≤ a * b / 18446744073709551616 then (0, 5) else if a * b % c = 0 then (a * b / c, 0) else if a * b / c = 18446744073709551615 then (0, 5) else (a * b / c + 1, 0)) := by
  unfold fixq_Ceil.f
  rw [muldiv k a b c hk ha0 ha hb0 hb hc0 hc]
  simp only [Option.bind_some]
  unfold ceilOf
  by_cases h : c = 0
  · simp [h]
  · rw [if_neg h, if_neg h]
    by_cases h2 : c ≤ a * b / 18446744073709551616
    · rw [if_pos h2, if_pos h2]; simp
    · rw [if_neg h2, if_neg h2]
      have hm := mul_bound a b ha0 ha hb0 hb
      have hq0 : 0 ≤ a * b / c := Int.ediv_nonneg hm.1 hc0
      have hq1 : a * b / c < 18446744073709551616 := by
        refine (Int.ediv_lt_iff_lt_mul (by omega)).2 ?_
        have h3 : a * b / 18446744073709551616 < c := by omega
        have h4 : a * b < c * 18446744073709551616 := (Int.ediv_lt_iff_lt_mul (by omega)).1 h3
        rw [Int.mul_comm 18446744073709551616 c]
        exact h4
      simp only [hq0, if_true]
      by_cases hr : a * b % c = 0
      · simp [hr]
      · simp only [hr, if_false]
        by_cases hl : a * b / c = 18446744073709551615
        · rw [if_neg (by omega), if_pos (by omega), if_pos hl]
        · rw [if_pos (by omega), if_neg hl]

def cmp (x y : Int) : Int := if x < y then -1 else if x = y then 0 else 1
theorem cmp_words (x y : Int) : (if x / 18446744073709551616 < y / 18446744073709551616 ∨ (x / 18446744073709551616 = y / 18446744073709551616 ∧ x % 18446744073709551616 < y % 18446744073709551616) then (-1 : Int) else if x / 18446744073709551616 = y / 18446744073709551616 ∧ x % 18446744073709551616 = y % 18446744073709551616 then 0 else 1) = cmp x y := by
  unfold cmp
  by_cases h : x < y
  · rw [if_pos h, if_pos (by omega)]
  · rw [if_neg h, if_neg (by omega)]
    by_cases h2 : x = y
    · rw [if_pos h2, if_pos (by omega)]
    · rw [if_neg h2, if_neg (by omega)]

theorem compare (k : Nat) (a b c d : Int) (ha0 : 0 ≤ a) (ha : a < 18446744073709551616) (hb0 : 0 ≤ b) (hb : b < 18446744073709551616) (hc0 : 0 ≤ c) (hc : c < 18446744073709551616) (hd0 : 0 ≤ d) (hd : d < 18446744073709551616) :
    fixq_Compare.f (k + 2) a b c d = some (if b = 0 ∨ d = 0 then (0, 1) else (cmp (a * d) (c * b), 0)) := by
  unfold fixq_Compare.f
  by_cases h1 : b = 0
  · rw [if_pos h1, if_pos (Or.inl h1)]
    simp only [fixq_Compare.j0, if_true]
  · rw [if_neg h1]
    by_cases h2 : d = 0
    · rw [if_pos (Or.inr h2)]
      simp only [fixq_Compare.j0, h2, beq_self_eq_true, if_true]
    · rw [if_neg (by omega)]
      have e : (d == 0) = false := beq_eq_false_iff_ne.mpr h2
      rw [e]
      simp only [fixq_Compare.j0]
      rw [if_neg (by simp), mul64 a d ha0 ha hd0 hd, mul64 c b hc0 hc hb0 hb]
      simp only [Option.bind_some]
      generalize a * d = x
      generalize c * b = y
      rw [← cmp_words x y]
      by_cases g1 : x / 18446744073709551616 < y / 18446744073709551616
      · rw [if_pos g1]
        simp only [fixq_Compare.j1, if_true]
        rw [if_pos (Or.inl g1)]
      · rw [if_neg g1]
        by_cases g2 : x / 18446744073709551616 = y / 18446744073709551616
        · rw [if_pos g2]
          by_cases g3 : x % 18446744073709551616 < y % 18446744073709551616
          · rw [decide_eq_true g3]
            simp only [fixq_Compare.j1]
            rw [if_pos trivial, if_pos (Or.inr ⟨g2, g3⟩)]
          · rw [decide_eq_false g3]
            simp only [fixq_Compare.j1]
            rw [if_neg (by simp), if_pos g2]
            by_cases g4 : x % 18446744073709551616 = y % 18446744073709551616
            · rw [if_pos g4, if_neg (by omega), if_pos ⟨g2, g4⟩]
            · rw [if_neg g4, if_neg (by omega), if_neg (by omega)]
        · rw [if_neg g2]
          simp only [fixq_Compare.j1]
          rw [if_neg (by simp), if_neg g2, if_neg (by omega), if_neg (by omega)]

theorem rcompare (k : Nat) (a b c d : Int) (hk : 65 ≤ k) (ha0 : 0 ≤ a) (ha : a < 18446744073709551616) (hb0 : 0 ≤ b) (hb : b < 18446744073709551616) (hc0 : 0 ≤ c) (hc : c < 18446744073709551616) (hd0 : 0 ≤ d) (hd : d < 18446744073709551616) :
    dogwatchref02_Compare.f k a b c d = some (cmp (a * d) (c * b)) := by
  unfold dogwatchref02_Compare.f
  rw [times k a d ha0 ha hd0 hd hk, times k c b hc0 hc hb0 hb hk]
  simp only [Option.bind_some]
  generalize a * d = x
  generalize c * b = y
  rw [← cmp_words x y]
  by_cases g1 : x / 18446744073709551616 = y / 18446744073709551616 ∧ x % 18446744073709551616 = y % 18446744073709551616
  · rw [if_pos (by rw [g1.1, g1.2]; simp), if_neg (by omega), if_pos g1]
  · rw [if_neg (by simpa using g1)]
    by_cases g2 : x / 18446744073709551616 < y / 18446744073709551616
    · rw [if_pos g2, if_pos (by omega)]
    · rw [if_neg g2]
      by_cases g3 : x / 18446744073709551616 = y / 18446744073709551616
      · rw [if_pos g3]
        by_cases g4 : x % 18446744073709551616 < y % 18446744073709551616
        · rw [if_pos g4, if_pos (by omega)]
        · rw [if_neg g4, if_neg (by omega), if_neg (by omega)]
      · rw [if_neg g3, if_neg (by omega), if_neg (by omega)]

theorem gcd_l0 (b : Nat) : ∀ (a k : Nat), b < k → fixq_Gcd.l0 k (a : Int) (b : Int) = some ((Nat.gcd a b : Nat) : Int) := by
  induction b using Nat.strongRecOn with
  | _ b ih =>
    intro a k hk
    obtain ⟨k, rfl⟩ : ∃ m, k = m + 1 := ⟨k - 1, by omega⟩
    simp only [fixq_Gcd.l0]
    rcases Nat.eq_zero_or_pos b with h | h
    · subst h
      rw [if_pos (by omega), Nat.gcd_zero_right]
    · rw [if_neg (by omega)]
      have hlt := Nat.mod_lt a h
      have e : Int.tmod (a : Int) (b : Int) = ((a % b : Nat) : Int) := rfl
      rw [e, ih (a % b) hlt b k (by omega)]
      congr 2
      rw [Nat.gcd_comm b, ← Nat.gcd_rec, Nat.gcd_comm]
theorem gcd (a b k : Nat) (hk : b < k) : fixq_Gcd.f k (a : Int) (b : Int) = some ((Nat.gcd a b : Nat) : Int) := gcd_l0 b a k hk

theorem rgcd (n : Nat) : ∀ (a b k : Nat), a + b ≤ n → 2 * n + 1 ≤ k → a < 18446744073709551616 → b < 18446744073709551616 → dogwatchref02_Gcd.f k (a : Int) (b : Int) = some ((Nat.gcd a b : Nat) : Int) := by
  induction n with
  | zero =>
    intro a b k hn hk _ _
    obtain ⟨k, rfl⟩ : ∃ m, k = m + 1 := ⟨k - 1, by omega⟩
    obtain rfl : a = 0 := by omega
    obtain rfl : b = 0 := by omega
    simp only [dogwatchref02_Gcd.f]
    rw [if_pos (by omega)]
    rfl
  | succ n ih =>
    intro a b k hn hk ha hb
    obtain ⟨k, rfl⟩ : ∃ m, k = m + 1 + 1 := ⟨k - 2, by omega⟩
    simp only [dogwatchref02_Gcd.f]
    rcases Nat.eq_zero_or_pos a with h | h
    · subst h
      rw [if_pos (by omega), Nat.gcd_zero_left]
    · rw [if_neg (by omega)]
      rcases Nat.eq_zero_or_pos b with g | g
      · subst g
        rw [if_pos (by omega), Nat.gcd_zero_right]
      · rw [if_neg (by omega)]
        have t2 : ∀ x : Nat, Int.tmod (x : Int) 2 = ((x % 2 : Nat) : Int) := fun _ => rfl
        have d2 : ∀ x : Nat, x < 18446744073709551616 → IntKind.u64.wrap (Int.tdiv (x : Int) 2) = ((x / 2 : Nat) : Int) := fun x hx => by
          have e : Int.tdiv (x : Int) 2 = ((x / 2 : Nat) : Int) := rfl
          rw [e]
          exact uw_id (by omega) (by omega)
        have s2 : ∀ x y : Nat, x ≤ y → y < 18446744073709551616 → IntKind.u64.wrap (Int.tdiv (IntKind.u64.wrap ((y : Int) - (x : Int))) 2) = (((y - x) / 2 : Nat) : Int) := fun x y hx hy => by
          have e : IntKind.u64.wrap ((y : Int) - (x : Int)) = ((y - x : Nat) : Int) := by rw [uw]; omega
          rw [e]
          exact d2 _ (by omega)
        have odds : ∀ (c : Bool), a % 2 = 1 ∨ b % 2 = 1 → c = false → dogwatchref02_Gcd.j0 (k + 1) (a : Int) (b : Int) c = some ((Nat.gcd a b : Nat) : Int) := by
          intro c hab hc
          subst hc
          simp only [dogwatchref02_Gcd.j0]
          rw [if_neg (by simp), t2, t2]
          by_cases ea : a % 2 = 0
          · rw [if_pos (by omega), d2 a ha, ih (a / 2) b k (by omega) (by omega) (by omega) hb]
            simp only [Option.bind_some]
            congr 2
            have := gcd_even_odd (a / 2) b (by omega)
            rw [show 2 * (a / 2) = a by omega] at this
            exact this.symm
          · rw [if_neg (by omega)]
            by_cases eb : b % 2 = 0
            · rw [if_pos (by omega), d2 b hb, ih a (b / 2) k (by omega) (by omega) ha (by omega)]
              simp only [Option.bind_some]
              congr 2
              have := gcd_even_odd (b / 2) a (by omega)
              rw [show 2 * (b / 2) = b by omega] at this
              rw [Nat.gcd_comm a b, this, Nat.gcd_comm]
            · rw [if_neg (by omega)]
              by_cases hlt : a < b
              · rw [if_pos (by omega), s2 a b (by omega) hb, ih a ((b - a) / 2) k (by omega) (by omega) ha (by omega)]
                simp only [Option.bind_some]
                congr 2
                exact gcd_odd_odd a b (by omega) (by omega) (by omega)
              · rw [if_neg (by omega), s2 b a (by omega) ha, ih b ((a - b) / 2) k (by omega) (by omega) hb (by omega)]
                simp only [Option.bind_some]
                congr 2
                rw [gcd_odd_odd b a (by omega) (by omega) (by omega), Nat.gcd_comm]
        rw [t2]
        by_cases ea : a % 2 = 0
        · rw [if_pos (by omega), t2]
          by_cases eb : b % 2 = 0
          · have e : (((b % 2 : Nat) : Int) == 0) = true := by rw [eb]; rfl
            rw [e]
            simp only [dogwatchref02_Gcd.j0, if_true]
            rw [d2 a ha, d2 b hb, ih (a / 2) (b / 2) k (by omega) (by omega) (by omega) (by omega)]
            simp only [Option.bind_some]
            have hg := gcd_even_even (a / 2) (b / 2)
            rw [show 2 * (a / 2) = a by omega, show 2 * (b / 2) = b by omega] at hg
            have hle : Nat.gcd a b ≤ a := Nat.gcd_le_left b h
            rw [uw_id (by omega) (by omega), hg]
            rfl
          · have e : (((b % 2 : Nat) : Int) == 0) = false := by rw [show b % 2 = 1 by omega]; rfl
            rw [e]
            exact odds false (Or.inr (by omega)) rfl
        · rw [if_neg (by omega)]
          exact odds false (Or.inl (by omega)) rfl

theorem awake (k : Nat) (hk : 1099511627776 ≤ k) : dogwatchlaw02_awake.f k = some true := by
  unfold dogwatchlaw02_awake.f
  obtain ⟨k', rfl⟩ : ∃ j, k = j + 2 := ⟨k - 2, by omega⟩
  rw [muldiv _ _ _ _ hk (by omega) (by omega) (by omega) (by omega) (by omega) (by omega), ceil _ _ _ _ hk (by omega) (by omega) (by omega) (by omega) (by omega) (by omega),
    compare k' _ _ _ _ (by omega) (by omega) (by omega) (by omega) (by omega) (by omega) (by omega) (by omega)]
  have hg := gcd 12 18 (k' + 2) (by omega)
  simp only [Option.bind_some]
  have e : cmp (1 * 6) (2 * 3) = 0 := by decide
  rw [e]
  have hg2 : fixq_Gcd.f (k' + 2) 12 18 = some 6 := by
    have : ((Nat.gcd 12 18 : Nat) : Int) = 6 := by decide
    rw [← this]
    exact hg
  rw [hg2]
  decide
end Go.Proofs.Ytimabnjdgdcmaaa.PFixq
