/- What the replies' functions come to, as plain lists of numbers. -/
import Derived.Test.YtgfkcmmhnibaiaaHdOct
namespace Go.Proofs.Ytgfkcmmhnibaiaa.PRpd
open Go.RowKit Go.Proofs.YtgfkcmmhnibaiaaW.PrintWords Go.Proofs.YtgfkcmmhnibaiaaW.PrintLast Go.Proofs.YtgfkcmmhnibaiaaW.PrintMore
set_option linter.unusedVariables false
set_option linter.unusedSimpArgs false
theorem drop_eq (a b : List Int) (i : Nat) (ha : i < a.length) (hb : i < b.length) : (a.drop i = b.drop i) ↔ (rd a (i : Int) = rd b (i : Int) ∧ a.drop (i + 1) = b.drop (i + 1)) := by
  rw [List.drop_eq_getElem_cons ha, List.drop_eq_getElem_cons hb, rd_nth a i ha, rd_nth b i hb, List.cons.injEq]
theorem Same_l0 (a b : List Int) (hab : a.length = b.length) (hl : a.length ≤ 1000) : ∀ (d k i : Nat), i + d = a.length → d + 1 ≤ k → dogwatchref03_Same.l0 k a b (i : Int) = some (decide (a.drop i = b.drop i)) := by
  intro d
  induction d with
  | zero =>
    intro k i hi hk
    obtain ⟨k, rfl⟩ : ∃ m, k = m + 1 := ⟨k - 1, by omega⟩
    simp only [dogwatchref03_Same.l0]
    rw [if_neg (by omega), List.drop_of_length_le (by omega), List.drop_of_length_le (by omega)]
    rfl
  | succ d ih =>
    intro k i hi hk
    obtain ⟨k, rfl⟩ : ∃ m, k = m + 1 := ⟨k - 1, by omega⟩
    have ew : wrap64 ((i : Int) + 1) = ((i + 1 : Nat) : Int) := by unfold wrap64; omega
    simp only [dogwatchref03_Same.l0]
    rw [if_pos (by omega), if_pos (by omega), if_pos (by omega)]
    by_cases h : rd a (i : Int) = rd b (i : Int)
    · rw [if_pos h, ew, ih k (i + 1) (by omega) (by omega)]
      congr 1
      exact decide_eq_decide.mpr ((drop_eq a b i (by omega) (by omega)).trans ⟨fun q => q.2, fun q => ⟨h, q⟩⟩).symm
    · rw [if_neg h]
      congr 1
      exact (decide_eq_false fun q => h ((drop_eq a b i (by omega) (by omega)).mp q).1).symm
theorem Same_f (k : Nat) (a b : List Int) (hl : a.length ≤ 1000) (hk : 1001 ≤ k) : dogwatchref03_Same.f k a b = some (decide (a = b)) := by
  unfold dogwatchref03_Same.f
  by_cases h : (a.length : Int) = (b.length : Int)
  · rw [if_pos h]
    have := Same_l0 a b (by omega) hl a.length k 0 (by omega) (by omega)
    simpa using this
  · rw [if_neg h]
    congr 1
    exact (decide_eq_false fun q => h (by rw [q])).symm
theorem awake_le (n : Nat) : dogwatchlaw12_awake.f (100 + n) = some true := by
  induction n with
  | zero => decide +kernel
  | succ n ih => exact dogwatchlaw12_awake.mono (100 + n) _ ih
end Go.Proofs.Ytgfkcmmhnibaiaa.PRpd
