/- What the printed functions of fixq and of its reference come to, as plain numbers. -/
import Derived.Test.YtimabnjdgdcmaaaFqMath
import Derived.Test.YtimabnjdgdcmaaaPFixqx
import Derived.Test.YtimabnjdgdcmaaaFqMul
namespace Go.Proofs.Ytimabnjdgdcmaaa.PFixq
open Go.RowKit Go.Proofs.YtimabnjdgdcmaaaW.PrintWords Go.Proofs.YtimabnjdgdcmaaaW.PrintLast Go.Proofs.YtimabnjdgdcmaaaW.PrintMore FqMath
set_option linter.unusedVariables false

theorem wfu {a : Int} (h : (Lit.int .u64 a).wf = true) : 0 ≤ a ∧ a < 18446744073709551616 := by
  simp [Lit.wf, IntKind.min, IntKind.max, IntKind.bits, IntKind.signed] at h
  omega
theorem wfi {a : Int} (h : (Lit.int .i64 a).wf = true) : -9223372036854775808 ≤ a ∧ a < 9223372036854775808 := by
  simp [Lit.wf, IntKind.min, IntKind.max, IntKind.bits, IntKind.signed] at h
  omega

theorem mul64 (a b : Int) (ha0 : 0 ≤ a) (ha : a < 18446744073709551616) (hb0 : 0 ≤ b) (hb : b < 18446744073709551616) :
    bits_Mul64.f a b = some (a * b / 18446744073709551616, a * b % 18446744073709551616) := by
  unfold bits_Mul64.f
  have h1 := and_low32 a ha0 ha
  have h2 := and_low32 b hb0 hb
  have h3 := mul64_arith a b ha0 ha hb0 hb
  simp only [uw, h1, h2]
  rw [and_low32 _ (by omega) (by omega)]
  rw [← h3]

theorem shr_id (x n : Int) (h : n ≤ 64) : shr .u64 x n = x / 2 ^ n.toNat := by
  unfold shr
  rw [Nat.min_eq_left (by simp [IntKind.bits]; omega)]
theorem shl_id (x n : Int) (h : n ≤ 64) : shl .u64 x n = x * 2 ^ n.toNat % 18446744073709551616 := by
  unfold shl
  rw [Nat.min_eq_left (by simp [IntKind.bits]; omega), uw]

/-! ### the reference -/
theorem twice (hi lo bit : Int) (h0 : 0 ≤ hi) (h1 : hi < 18446744073709551616) (l0 : 0 ≤ lo) (l1 : lo < 18446744073709551616) (b0 : 0 ≤ bit) (b1 : bit < 2)
    (h2 : 2 * (hi * 18446744073709551616 + lo) + bit < 340282366920938463463374607431768211456) :
    ∃ h l o, dogwatchref02_Twice.f hi lo bit = some (h, l, o) ∧ 0 ≤ h ∧ h < 18446744073709551616 ∧ 0 ≤ l ∧ l < 18446744073709551616 ∧ h * 18446744073709551616 + l = 2 * (hi * 18446744073709551616 + lo) + bit ∧ l % 2 = bit := by
  unfold dogwatchref02_Twice.f
  simp only [uw]
  rw [or2 (hi * 2 % 18446744073709551616) _ (by omega) (by omega) (by omega) (by omega) (by omega), or2 (lo * 2 % 18446744073709551616) _ (by omega) (by omega) (by omega) (by omega) (by omega)]
  exact ⟨_, _, _, rfl, by omega, by omega, by omega, by omega, by omega, by omega⟩
theorem sum2 (h1 l1 h2 l2 : Int) (a0 : 0 ≤ h1) (a2 : 0 ≤ l1) (a3 : l1 < 18446744073709551616) (b0 : 0 ≤ h2) (b2 : 0 ≤ l2) (b3 : l2 < 18446744073709551616)
    (hs : h1 * 18446744073709551616 + l1 + (h2 * 18446744073709551616 + l2) < 340282366920938463463374607431768211456) :
    dogwatchref02_Sum.f h1 l1 h2 l2 = some ((h1 * 18446744073709551616 + l1 + (h2 * 18446744073709551616 + l2)) / 18446744073709551616, (h1 * 18446744073709551616 + l1 + (h2 * 18446744073709551616 + l2)) % 18446744073709551616) := by
  unfold dogwatchref02_Sum.f
  simp only [uw]
  split <;> (simp only [Option.some.injEq, Prod.mk.injEq]; omega)

theorem times_l0 (a b : Int) (ha0 : 0 ≤ a) (ha : a < 18446744073709551616) (hb0 : 0 ≤ b) (hb : b < 18446744073709551616) (n : Nat) : ∀ (k : Nat) (hi lo : Int), n ≤ 64 → n < k →
    0 ≤ hi → hi < 18446744073709551616 → 0 ≤ lo → lo < 18446744073709551616 → hi * 18446744073709551616 + lo = a * (b / 2 ^ n) →
    dogwatchref02_Times.l0 k a b ((n : Int) - 1) hi lo = some (a * b / 18446744073709551616, a * b % 18446744073709551616) := by
  induction n with
  | zero =>
    intro k hi lo _ hk h0 h1 l0 l1 he
    obtain ⟨k, rfl⟩ : ∃ m, k = m + 1 := ⟨k - 1, by omega⟩
    simp only [dogwatchref02_Times.l0]
    rw [if_neg (by omega)]
    have e1 : b / 2 ^ 0 = b := by simp
    rw [e1] at he
    simp only [Option.some.injEq, Prod.mk.injEq]
    generalize a * b = p at *
    omega
  | succ n ih =>
    intro k hi lo hn hk h0 h1 l0 l1 he
    obtain ⟨k, rfl⟩ : ∃ m, k = m + 1 := ⟨k - 1, by omega⟩
    have hd := div_le b hb0 n
    rw [div_succ] at he
    have hbit : b / 2 ^ n = 2 * (b / 2 ^ n / 2) + b / 2 ^ n % 2 := by omega
    have hm := mul_bound a (b / 2 ^ n) ha0 ha hd.1 (by omega)
    have hx : a * (b / 2 ^ n) = 2 * (a * (b / 2 ^ n / 2)) + a * (b / 2 ^ n % 2) := by
      conv => lhs; rw [hbit]
      grind
    have hb01 : b / 2 ^ n % 2 = 0 ∨ b / 2 ^ n % 2 = 1 := by omega
    have hx0 : a * (b / 2 ^ n % 2) = if b / 2 ^ n % 2 = 1 then a else 0 := by
      rcases hb01 with h | h <;> rw [h] <;> simp
    obtain ⟨h', l', o, ht, p0, p1, p2, p3, p4, p5⟩ := twice hi lo 0 h0 h1 l0 l1 (by omega) (by omega) (by rw [hx0] at hx; split at hx <;> omega)
    have e1 : ((n + 1 : Nat) : Int) - 1 = (n : Int) := by omega
    have e2 : wrap64 ((n : Int) - 1) = (n : Int) - 1 := by unfold wrap64; omega
    have e3 : IntKind.u64.wrap (n : Int) = (n : Int) := uw_id (by omega) (by omega)
    rw [e1]
    simp only [dogwatchref02_Times.l0]
    rw [if_pos (by omega), ht]
    simp only [Option.bind_some, e3, e2]
    rw [if_pos (by omega), shr_id b _ (by omega), and1 _ (by simpa using hd.1) (by simpa using (by omega : b / 2 ^ n < 18446744073709551616))]
    simp only [Int.toNat_natCast]
    rcases hb01 with h | h
    · rw [if_neg (by omega)]
      refine ih k h' l' (by omega) (by omega) p0 p1 p2 p3 ?_
      rw [hx, h]
      simp only [Int.mul_zero]
      omega
    · rw [if_pos h]
      rw [h, Int.mul_one] at hx
      rw [sum2 h' l' 0 a p0 p2 p3 (by omega) ha0 ha (by omega)]
      simp only [Option.bind_some]
      exact ih k _ _ (by omega) (by omega) (by omega) (by omega) (by omega) (by omega) (by omega)
theorem times (k : Nat) (a b : Int) (ha0 : 0 ≤ a) (ha : a < 18446744073709551616) (hb0 : 0 ≤ b) (hb : b < 18446744073709551616) (hk : 65 ≤ k) :
    dogwatchref02_Times.f k a b = some (a * b / 18446744073709551616, a * b % 18446744073709551616) := by
  unfold dogwatchref02_Times.f
  have h : b / 2 ^ 64 = 0 := by omega
  exact times_l0 a b ha0 ha hb0 hb 64 k 0 0 (by omega) (by omega) (by omega) (by omega) (by omega) (by omega) (by rw [h]; simp)

theorem div_l0 (c whi wlo : Int) (hc0 : 0 < c) (hc : c < 18446744073709551616) (w0 : 0 ≤ whi) (w1 : whi < 18446744073709551616) (w2 : 0 ≤ wlo) (w3 : wlo < 18446744073709551616) (n : Nat) :
    ∀ (k : Nat) (rest qhi qlo : Int), n ≤ 128 → n < k → 0 ≤ rest → rest < c → 0 ≤ qhi → qhi < 18446744073709551616 → 0 ≤ qlo → qlo < 18446744073709551616 →
    (qhi * 18446744073709551616 + qlo) * c + rest = (whi * 18446744073709551616 + wlo) / 2 ^ n →
    dogwatchref02_Div.l0 k c rest ((n : Int) - 1) whi wlo qhi qlo =
      some ((whi * 18446744073709551616 + wlo) / c % 18446744073709551616, (whi * 18446744073709551616 + wlo) % c, ((whi * 18446744073709551616 + wlo) / c / 18446744073709551616 == 0)) := by
  induction n with
  | zero =>
    intro k rest qhi qlo _ hk r0 r1 q0 q1 q2 q3 he
    obtain ⟨k, rfl⟩ : ∃ m, k = m + 1 := ⟨k - 1, by omega⟩
    simp only [dogwatchref02_Div.l0]
    rw [if_neg (by omega)]
    have e1 : (whi * 18446744073709551616 + wlo) / 2 ^ 0 = whi * 18446744073709551616 + wlo := by simp
    rw [e1] at he
    generalize hw : whi * 18446744073709551616 + wlo = w at *
    generalize hq : qhi * 18446744073709551616 + qlo = q at *
    have hqq : w / c = q := by
      rw [← he, Int.add_comm, Int.add_mul_ediv_right _ _ (by omega), Int.ediv_eq_zero_of_lt r0 r1]; omega
    have hr : w % c = rest := by
      rw [← he, Int.add_comm, Int.add_mul_emod_self_right, Int.emod_eq_of_lt r0 r1]
    rw [hqq, hr]
    have h1 : qlo = q % 18446744073709551616 := by omega
    have h2 : qhi = q / 18446744073709551616 := by omega
    rw [← h1, ← h2]
  | succ n ih =>
    intro k rest qhi qlo hn hk r0 r1 q0 q1 q2 q3 he
    obtain ⟨k, rfl⟩ : ∃ m, k = m + 1 := ⟨k - 1, by omega⟩
    rw [div_succ] at he
    have hd := div_le (whi * 18446744073709551616 + wlo) (by omega) n
    have hq : qhi * 18446744073709551616 + qlo ≤ (qhi * 18446744073709551616 + qlo) * c := by
      have := Int.mul_le_mul_of_nonneg_left (show 1 ≤ c by omega) (show 0 ≤ qhi * 18446744073709551616 + qlo by omega)
      simpa using this
    obtain ⟨h', l', o, ht, p0, p1, p2, p3, p4, p5⟩ := twice qhi qlo 0 q0 q1 q2 q3 (by omega) (by omega) (by omega)
    have hq2 : (h' * 18446744073709551616 + l') * c = 2 * ((qhi * 18446744073709551616 + qlo) * c) := by rw [p4]; grind
    have hq3 : (h' * 18446744073709551616 + (l' + 1)) * c = 2 * ((qhi * 18446744073709551616 + qlo) * c) + c := by
      rw [← Int.add_assoc, p4]; grind
    have e1 : ((n + 1 : Nat) : Int) - 1 = (n : Int) := by omega
    have e2 : wrap64 ((n : Int) - 1) = (n : Int) - 1 := by unfold wrap64; omega
    have bit01 : ∀ bit : Int, bit = (whi * 18446744073709551616 + wlo) / 2 ^ n % 2 →
        (dogwatchref02_Twice.f qhi qlo 0).bind (fun bt118 => (if (rest / 9223372036854775808) = 1 then (dogwatchref02_Div.l0 k c (IntKind.u64.wrap ((Go.bits .or .u64 (IntKind.u64.wrap (rest * 2)) bit) - c)) (wrap64 ((n : Int) - 1)) whi wlo bt118.1 (IntKind.u64.wrap (bt118.2.1 + 1))) else (if (Go.bits .or .u64 (IntKind.u64.wrap (rest * 2)) bit) ≥ c then (dogwatchref02_Div.l0 k c (IntKind.u64.wrap ((Go.bits .or .u64 (IntKind.u64.wrap (rest * 2)) bit) - c)) (wrap64 ((n : Int) - 1)) whi wlo bt118.1 (IntKind.u64.wrap (bt118.2.1 + 1))) else (dogwatchref02_Div.l0 k c (Go.bits .or .u64 (IntKind.u64.wrap (rest * 2)) bit) (wrap64 ((n : Int) - 1)) whi wlo bt118.1 bt118.2.1)))) =
        some ((whi * 18446744073709551616 + wlo) / c % 18446744073709551616, (whi * 18446744073709551616 + wlo) % c, ((whi * 18446744073709551616 + wlo) / c / 18446744073709551616 == 0)) := by
      intro bit hbit
      rw [ht]
      simp only [Option.bind_some, e2]
      rw [or2 (IntKind.u64.wrap (rest * 2)) bit (by rw [uw]; omega) (by rw [uw]; omega) (by rw [uw]; omega) (by omega) (by omega)]
      simp only [uw]
      have hl1 : (l' + 1) % 18446744073709551616 = l' + 1 := by omega
      rw [hl1]
      by_cases ho : rest / 9223372036854775808 = 1
      · rw [if_pos ho]
        exact ih k _ _ _ (by omega) (by omega) (by omega) (by omega) p0 p1 (by omega) (by omega) (by rw [hq3]; omega)
      · rw [if_neg ho]
        by_cases hg : rest * 2 % 18446744073709551616 + bit ≥ c
        · rw [if_pos hg]
          exact ih k _ _ _ (by omega) (by omega) (by omega) (by omega) p0 p1 (by omega) (by omega) (by rw [hq3]; omega)
        · rw [if_neg hg]
          exact ih k _ _ _ (by omega) (by omega) (by omega) (by omega) p0 p1 p2 p3 (by rw [hq2]; omega)
    rw [e1]
    simp only [dogwatchref02_Div.l0]
    rw [if_pos (by omega)]
    have e4 : Int.tmod (n : Int) 64 = ((n % 64 : Nat) : Int) := rfl
    rw [if_pos (by rw [uw]; omega)]
    by_cases h64 : 64 ≤ n
    · rw [if_pos (by omega)]
      have e5 : wrap64 ((n : Int) - 64) = (n : Int) - 64 := by unfold wrap64; omega
      have e6 : IntKind.u64.wrap ((n : Int) - 64) = (n : Int) - 64 := uw_id (by omega) (by omega)
      rw [e5, e6, if_pos (by omega), shr_id _ _ (by omega), show ((n : Int) - 64).toNat = n - 64 by omega]
      have hd2 := div_le whi w0 (n - 64)
      rw [and1 _ hd2.1 (by omega)]
      exact bit01 _ (by rw [bit_hi whi wlo w2 w3 n h64])
    · rw [if_neg (by omega)]
      have e7 : IntKind.u64.wrap (Int.tmod (n : Int) 64) = (n : Int) := by rw [e4, uw]; omega
      rw [e7, shr_id _ _ (by omega), Int.toNat_natCast]
      have hd2 := div_le wlo w2 n
      rw [and1 _ hd2.1 (by omega)]
      exact bit01 _ (by rw [bit_lo whi wlo n (by omega)])
theorem rdiv (k : Nat) (whi wlo c : Int) (hc0 : 0 < c) (hc : c < 18446744073709551616) (w0 : 0 ≤ whi) (w1 : whi < 18446744073709551616) (w2 : 0 ≤ wlo) (w3 : wlo < 18446744073709551616) (hk : 129 ≤ k) :
    dogwatchref02_Div.f k whi wlo c = some ((whi * 18446744073709551616 + wlo) / c % 18446744073709551616, (whi * 18446744073709551616 + wlo) % c, ((whi * 18446744073709551616 + wlo) / c / 18446744073709551616 == 0)) := by
  unfold dogwatchref02_Div.f
  have h : (whi * 18446744073709551616 + wlo) / 2 ^ 128 = 0 := by omega
  exact div_l0 c whi wlo hc0 hc w0 w1 w2 w3 128 k 0 0 0 (by omega) (by omega) (by omega) (by omega) (by omega) (by omega) (by omega) (by omega) (by rw [h]; simp)
end Go.Proofs.Ytimabnjdgdcmaaa.PFixq
