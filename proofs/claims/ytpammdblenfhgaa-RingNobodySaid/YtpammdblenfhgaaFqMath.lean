/- Plain arithmetic for the fixq laws: words of 64 bits, Knuth's division step, the bits of a double word. -/
import Derived.Laws.MathBits
import Derived.Laws.Bits64
import Derived.Laws.BitsLemmas
namespace Go.Proofs.Ytpammdblenfhgaa.FqMath
open Go
set_option linter.unusedVariables false

theorem uw (n : Int) : IntKind.u64.wrap n = n % 18446744073709551616 := IntKind.wrap_u64 n
theorem uw_id {n : Int} (h0 : 0 ≤ n) (h1 : n < 18446744073709551616) : IntKind.u64.wrap n = n := by rw [uw]; omega
theorem wraps_u64 (n : Int) (h₀ : 0 ≤ n) (h₁ : n < 2 ^ 64) : IntKind.u64.wrap n = n := by rw [uw]; omega
theorem and1 (x : Int) (h0 : 0 ≤ x) (h1 : x < 18446744073709551616) : bits .and .u64 x 1 = x % 2 := by
  have := bits_mask .u64 64 (by decide) wraps_u64 1 (by decide) x h0 (by omega)
  simpa using this
theorem orj (i : Nat) (x y : Int) (hx0 : 0 ≤ x) (hx : x % 2 ^ i = 0) (hx1 : x < 18446744073709551616) (hy0 : 0 ≤ y) (hy : y < 2 ^ i) (hy1 : y < 18446744073709551616) :
    bits .or .u64 x y = x + y := bits_join .u64 64 (by decide) wraps_u64 i x y hx0 hx (by omega) hy0 hy (by omega)
theorem or2 (x y : Int) (hx0 : 0 ≤ x) (hx : x % 2 = 0) (hx1 : x < 18446744073709551616) (hy0 : 0 ≤ y) (hy : y < 2) : bits .or .u64 x y = x + y :=
  orj 1 x y hx0 (by simpa using hx) hx1 hy0 (by simpa using hy) (by omega)

theorem mul_bound (a b : Int) (ha0 : 0 ≤ a) (ha : a < 18446744073709551616) (hb0 : 0 ≤ b) (hb : b < 18446744073709551616) :
    0 ≤ a * b ∧ a * b ≤ 340282366920938463426481119284349108225 := by
  refine ⟨Int.mul_nonneg ha0 hb0, ?_⟩
  have := Int.mul_le_mul (show a ≤ 18446744073709551615 by omega) (show b ≤ 18446744073709551615 by omega) hb0 (by omega)
  simpa using this

theorem pow_pos (n : Nat) : (0 : Int) < 2 ^ n := Int.pow_pos (by decide)
theorem div_succ (b : Int) (n : Nat) : b / 2 ^ (n + 1) = b / 2 ^ n / 2 := by
  rw [Int.pow_succ, Int.ediv_ediv_of_nonneg (Int.le_of_lt (pow_pos n))]
theorem div_le (b : Int) (hb : 0 ≤ b) (n : Nat) : 0 ≤ b / 2 ^ n ∧ b / 2 ^ n ≤ b :=
  ⟨Int.ediv_nonneg hb (Int.le_of_lt (pow_pos n)), Int.ediv_le_self _ hb⟩

/-- Bit n of a double word, n from 64 on. -/
theorem bit_hi (hi lo : Int) (hl0 : 0 ≤ lo) (hl : lo < 18446744073709551616) (n : Nat) (hn : 64 ≤ n) :
    (hi * 18446744073709551616 + lo) / 2 ^ n = hi / 2 ^ (n - 64) := by
  obtain ⟨m, rfl⟩ : ∃ m, n = 64 + m := ⟨n - 64, by omega⟩
  have e : (2 : Int) ^ (64 + m) = 18446744073709551616 * 2 ^ m := by rw [Int.pow_add, show (2 : Int) ^ 64 = 18446744073709551616 by decide]
  rw [e, ← Int.ediv_ediv_of_nonneg (by omega), show 64 + m - 64 = m by omega]
  congr 1
  omega
theorem bit_lo (hi lo : Int) (n : Nat) (hn : n < 64) :
    (hi * 18446744073709551616 + lo) / 2 ^ n % 2 = lo / 2 ^ n % 2 := by
  obtain ⟨m, hm⟩ : ∃ m, 64 = n + (m + 1) := ⟨63 - n, by omega⟩
  have e : (18446744073709551616 : Int) = 2 ^ m * 2 * 2 ^ n := by
    have h : (18446744073709551616 : Int) = 2 ^ 64 := by decide
    rw [h, hm, Int.pow_add, Int.pow_succ, Int.mul_comm]
  have e2 : hi * 18446744073709551616 + lo = lo + hi * 2 ^ m * 2 * 2 ^ n := by rw [e]; grind
  rw [e2, Int.add_mul_ediv_right _ _ (Int.ne_of_gt (pow_pos n))]
  omega

/-- The last quotient's digit: q is the quotient as soon as q * y ≤ N < (q + 1) * y. -/
theorem quot_eq (N y q : Int) (hy : 0 < y) (h1 : q * y ≤ N) (h2 : N < (q + 1) * y) : q = N / y := by
  have a : q ≤ N / y := (Int.le_ediv_iff_mul_le hy).2 h1
  have b : N / y < q + 1 := (Int.ediv_lt_iff_lt_mul hy).2 h2
  omega

/-- What Knuth's test says of a digit: N = u * 2^32 + v, y = y1 * 2^32 + y0, q * y1 + r = u. -/
theorem knuth (u v y1 y0 q r N y : Int) (hN : N = u * 4294967296 + v) (hy : y = y1 * 4294967296 + y0) (hr : q * y1 + r = u) : N - q * y = r * 4294967296 + v - q * y0 := by
  subst hN hy hr
  grind
theorem digit_le (u v y1 y0 N y : Int) (hN : N = u * 4294967296 + v) (hy : y = y1 * 4294967296 + y0) (hv0 : 0 ≤ v) (hv : v < 4294967296) (hy1 : 0 < y1) (hy0 : 0 ≤ y0) (hu : 0 ≤ u) :
    N / y ≤ u / y1 := by
  have hy' : 0 < y := by omega
  have h1 : N / y * y ≤ N := Int.ediv_mul_le _ (by omega)
  have hq : 0 ≤ N / y := Int.ediv_nonneg (by omega) (by omega)
  refine (Int.le_ediv_iff_mul_le hy1).2 ?_
  generalize N / y = q at *
  have h2 : q * y = q * y1 * 4294967296 + q * y0 := by rw [hy]; grind
  have h3 : 0 ≤ q * y0 := Int.mul_nonneg hq hy0
  generalize q * y1 = A at *
  generalize q * y0 = B at *
  omega
theorem digit_top (u y1 y0 y : Int) (hy : y = y1 * 4294967296 + y0) (hy0 : y0 < 4294967296) (hy1 : 2147483648 ≤ y1) (hu0 : 0 ≤ u) (hu : u < y) : u / y1 ≤ 4294967297 := by
  have h1 : u / y1 < 4294967298 := (Int.ediv_lt_iff_lt_mul (by omega)).2 (by omega)
  omega
theorem small_prod (q y0 : Int) (h0 : 0 ≤ q) (h1 : q ≤ 4294967296) (h2 : 0 ≤ y0) (h3 : y0 < 4294967296) : 0 ≤ q * y0 ∧ q * y0 ≤ 18446744069414584320 := by
  refine ⟨Int.mul_nonneg h0 h2, ?_⟩
  have := Int.mul_le_mul h1 (show y0 ≤ 4294967295 by omega) h2 (by omega)
  simpa using this
theorem top_digit (u v y N : Int) (hN : N = u * 4294967296 + v) (hv : v < 4294967296) (hu : u < y) (hy : 0 < y) : N / y < 4294967296 :=
  (Int.ediv_lt_iff_lt_mul hy).2 (by omega)

/-- A shift of a word to the left, parted at 2^64. -/
theorem shift_part (lo : Int) (hl0 : 0 ≤ lo) (s : Nat) (hs : s ≤ 64) : lo * 2 ^ s = lo / 2 ^ (64 - s) * 18446744073709551616 + lo * 2 ^ s % 18446744073709551616 := by
  have e : (18446744073709551616 : Int) = 2 ^ (64 - s) * 2 ^ s := by
    rw [← Int.pow_add, show 64 - s + s = 64 by omega]; decide
  have h : lo * 2 ^ s / 18446744073709551616 = lo / 2 ^ (64 - s) := by
    rw [e]
    exact Int.mul_ediv_mul_of_pos_left _ _ (pow_pos s)
  rw [← h]
  omega
theorem shift_low (lo : Int) (hl0 : 0 ≤ lo) (hl : lo < 18446744073709551616) (s : Nat) (hs : s ≤ 64) : 0 ≤ lo / 2 ^ (64 - s) ∧ lo / 2 ^ (64 - s) < 2 ^ s := by
  refine ⟨Int.ediv_nonneg hl0 (Int.le_of_lt (pow_pos _)), (Int.ediv_lt_iff_lt_mul (pow_pos _)).2 ?_⟩
  rw [← Int.pow_add, show s + (64 - s) = 64 by omega]
  simpa using hl

/-- The halves of both roads: by Euclid and by taking halves. -/
theorem gcd_even_even (a b : Nat) : Nat.gcd (2 * a) (2 * b) = 2 * Nat.gcd a b := Nat.gcd_mul_left 2 a b
theorem odd_coprime (b : Nat) (hb : b % 2 = 1) : Nat.Coprime 2 b := by
  unfold Nat.Coprime
  rw [Nat.gcd_rec, hb]
  rfl
theorem gcd_even_odd (a b : Nat) (hb : b % 2 = 1) : Nat.gcd (2 * a) b = Nat.gcd a b := Nat.Coprime.gcd_mul_left_cancel a (odd_coprime b hb)
theorem gcd_odd_odd (a b : Nat) (ha : a % 2 = 1) (hb : b % 2 = 1) (h : a ≤ b) : Nat.gcd a ((b - a) / 2) = Nat.gcd a b := by
  have e : b - a = 2 * ((b - a) / 2) := by omega
  rw [← Nat.gcd_sub_self_right h]
  conv => rhs; rw [e]
  rw [Nat.gcd_comm a (2 * _), gcd_even_odd _ _ ha, Nat.gcd_comm]
end Go.Proofs.Ytpammdblenfhgaa.FqMath
