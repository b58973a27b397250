/- The octets are those of the account; for every input. -/
import Derived.Test.YtgjcbpeliimhaaaPOctx4
import Derived.Test.YtgjcbpeliimhaaaOctPure
namespace Go.Proofs.Ytgjcbpeliimhaaa.Pure
open Go.RowKit Go.Proofs.Ytgjcbpeliimhaaa.POct Go.Proofs.YtgjcbpeliimhaaaW.PrintWords Go.Proofs.YtgjcbpeliimhaaaW.PrintLast
set_option linter.unusedVariables false
set_option linter.unusedSimpArgs false
theorem OctetNums : dogwatchlaw09_OctetNums.Pure := by
  intro l0 l1 a2 _ _ _ _ _ w1 w2
  have h2 := wf64 w2
  have h1 : ∀ x ∈ l1, 0 ≤ x ∧ x < 2 ^ 64 := fun x hx => wf64 (w1 x hx)
  obtain ⟨k, hk⟩ : ∃ k : Nat, k = 10000 := ⟨_, rfl⟩
  refine ⟨k + 1, ?_⟩
  unfold dogwatchlaw09_OctetNums.f
  by_cases c0 : (l0.length : Int) > 1000
  · rw [if_pos c0]; simp only [dogwatchlaw09_OctetNums.j0, dogwatchlaw09_awake.f]; rfl
  · rw [if_neg c0]
    by_cases c1 : (l1.length : Int) > 100
    · rw [decide_eq_true c1]; simp only [dogwatchlaw09_OctetNums.j0, dogwatchlaw09_awake.f]; rfl
    · rw [decide_eq_false c1]
      simp only [dogwatchlaw09_OctetNums.j0]
      rw [if_neg (by decide), Num_enc k a2 h2.1 h2.2 (by omega), Option.bind_some, ref_Num 9 k a2 h2.1 (by rw [lim9]; omega) h2.2 (by omega) (by omega), Option.bind_some, if_pos rfl, Put_enc k l0 l1 (by omega) (by omega) h1 (by omega), Option.bind_some, ref_Put k l0 l1 (by omega) (by omega) h1 (by omega), Option.bind_some, if_pos rfl]
      rfl
end Go.Proofs.Ytgjcbpeliimhaaa.Pure
