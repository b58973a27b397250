/- What the printed functions of fixq and of its reference come to, as plain numbers. -/
import Derived.Test.YtpammdblenfhgaaFqMath
import Derived.Test.YtpammdblenfhgaaPRgx2
namespace Go.Proofs.Ytpammdblenfhgaa.PRg
open Go.RowKit Go.Proofs.YtpammdblenfhgaaW.PrintWords Go.Proofs.YtpammdblenfhgaaW.PrintLast Go.Proofs.YtpammdblenfhgaaW.PrintMore FqMath
set_option linter.unusedVariables false

theorem wfu {a : Int} (h : (Lit.int .u64 a).wf = true) : 0 ≤ a ∧ a < 18446744073709551616 := by
  simp [Lit.wf, IntKind.min, IntKind.max, IntKind.bits, IntKind.signed] at h
  omega
theorem wfi {a : Int} (h : (Lit.int .i64 a).wf = true) : -9223372036854775808 ≤ a ∧ a < 9223372036854775808 := by
  simp [Lit.wf, IntKind.min, IntKind.max, IntKind.bits, IntKind.signed] at h
  omega

theorem mul64 (a b : Int) (ha0 : 0 ≤ a) (ha : a < 18446744073709551616) (hb0 : 0 ≤ b) (hb : b < 18446744073709551616) :
    bits_Mul64.f a b = some (a * b / 18446744073709551616, a * b % 18446744073709551616) := by
  unfold bits_Mul64.f
  have h1 := and_low32 a ha0 ha
  have h2 := and_low32 b hb0 hb
  have h3 := mul64_arith a b ha0 ha hb0 hb
  simp only [uw, h1, h2]
  rw [and_low32 _ (by omega) (by omega)]
  rw [← h3]

theorem shr_id (x n : Int) (h : n ≤ 64) : shr .u64 x n = x / 2 ^ n.toNat := by
  unfold shr
  rw [Nat.min_eq_left (by simp [IntKind.bits]; omega)]
theorem shl_id (x n : Int) (h : n ≤ 64) : shl .u64 x n = x * 2 ^ n.toNat % 18446744073709551616 := by
  unfold shl
  rw [Nat.min_eq_left (by simp [IntKind.bits]; omega), uw]

/-! ### the reference -/
end Go.Proofs.Ytpammdblenfhgaa.PRg
