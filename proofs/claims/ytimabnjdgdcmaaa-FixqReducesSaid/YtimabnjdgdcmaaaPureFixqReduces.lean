/- The greatest divisor of any two words is what the reference tells, and any fraction is told in its lowest terms; for every input. -/
import Derived.Test.YtimabnjdgdcmaaaPFixqx6
import Derived.Test.YtimabnjdgdcmaaaFqMore
namespace Go.Proofs.Ytimabnjdgdcmaaa.Pure
open Go.RowKit Go.Proofs.Ytimabnjdgdcmaaa.PFixq Go.Proofs.YtimabnjdgdcmaaaW.PrintWords Go.Proofs.YtimabnjdgdcmaaaW.PrintLast FqMath
set_option linter.unusedVariables false
set_option linter.unusedSimpArgs false

theorem FixqReduces : dogwatchlaw02_FixqReduces.Pure := by
  intro a b ha hb
  obtain ⟨ha0, ha1⟩ := wfu ha
  obtain ⟨hb0, hb1⟩ := wfu hb
  clear ha hb
  obtain ⟨m, rfl⟩ := Int.eq_ofNat_of_zero_le ha0
  obtain ⟨n, rfl⟩ := Int.eq_ofNat_of_zero_le hb0
  obtain ⟨k, hk⟩ : ∃ k, k = 2 * (m + n) + 1 + 1099511627776 := ⟨_, rfl⟩
  refine ⟨k, ?_⟩
  have aw := awake k (by omega)
  have tdn : ∀ x y : Nat, Int.tdiv (x : Int) (y : Int) = ((x / y : Nat) : Int) := fun _ _ => rfl
  unfold dogwatchlaw02_FixqReduces.f fixq_Reduce.f
  rw [rgcd (m + n) m n k (by omega) (by omega) (by omega) (by omega), gcd m n k (by omega)]
  simp only [Option.bind_some]
  rcases Nat.eq_zero_or_pos n with h | h
  · subst h
    simp [aw]
  · have hg : 0 < Nat.gcd m n := Nat.gcd_pos_of_pos_right m h
    have l1 := Nat.div_le_self m (Nat.gcd m n)
    have l2 := Nat.div_le_self n (Nat.gcd m n)
    rw [if_neg (by omega), if_neg (by omega)]
    simp only [Option.bind_some, if_true]
    have hc : Nat.gcd (m / Nat.gcd m n) (n / Nat.gcd m n) = 1 := Nat.coprime_div_gcd_div_gcd hg
    rw [if_neg (by omega), if_neg (by omega), tdn, tdn]
    generalize m / Nat.gcd m n = x at *
    generalize n / Nat.gcd m n = y at *
    rw [uw_id (by omega) (by omega), uw_id (by omega) (by omega), gcd _ _ k (by omega), hc]
    simp [aw]

end Go.Proofs.Ytimabnjdgdcmaaa.Pure
