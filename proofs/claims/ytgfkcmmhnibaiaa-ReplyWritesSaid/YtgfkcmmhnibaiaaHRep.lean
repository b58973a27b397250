/- What the replies' functions come to, as plain lists of numbers. -/
import Derived.Test.YtgfkcmmhnibaiaaHOct
namespace Go.Proofs.Ytgfkcmmhnibaiaa.PRep
open Go.RowKit Go.Proofs.YtgfkcmmhnibaiaaW.PrintWords Go.Proofs.YtgfkcmmhnibaiaaW.PrintLast Go.Proofs.YtgfkcmmhnibaiaaW.PrintMore
set_option linter.unusedVariables false
set_option linter.unusedSimpArgs false
theorem drop_eq (a b : List Int) (i : Nat) (ha : i < a.length) (hb : i < b.length) : (a.drop i = b.drop i) ↔ (rd a (i : Int) = rd b (i : Int) ∧ a.drop (i + 1) = b.drop (i + 1)) := by
  rw [List.drop_eq_getElem_cons ha, List.drop_eq_getElem_cons hb, rd_nth a i ha, rd_nth b i hb, List.cons.injEq]
theorem Equal_l0 (a b : List Int) (hab : a.length = b.length) (hl : a.length ≤ 1000) : ∀ (d k i : Nat), i + d = a.length → d + 1 ≤ k → slices_Equal_int_int.l0 k a b (a.length : Int) (i : Int) = some (decide (a.drop i = b.drop i)) := by
  intro d
  induction d with
  | zero =>
    intro k i hi hk
    obtain ⟨k, rfl⟩ : ∃ m, k = m + 1 := ⟨k - 1, by omega⟩
    simp only [slices_Equal_int_int.l0]
    rw [if_neg (by omega), List.drop_of_length_le (by omega), List.drop_of_length_le (by omega)]
    rfl
  | succ d ih =>
    intro k i hi hk
    obtain ⟨k, rfl⟩ : ∃ m, k = m + 1 := ⟨k - 1, by omega⟩
    have ew : wrap64 ((i : Int) + 1) = ((i + 1 : Nat) : Int) := by unfold wrap64; omega
    simp only [slices_Equal_int_int.l0]
    rw [if_pos (by omega), if_pos (by omega), if_pos (by omega), if_pos (by omega)]
    by_cases h : rd a (i : Int) = rd b (i : Int)
    · rw [if_pos h, ew, ih k (i + 1) (by omega) (by omega)]
      congr 1
      exact decide_eq_decide.mpr ((drop_eq a b i (by omega) (by omega)).trans ⟨fun q => q.2, fun q => ⟨h, q⟩⟩).symm
    · rw [if_neg h]
      congr 1
      exact (decide_eq_false fun q => h ((drop_eq a b i (by omega) (by omega)).mp q).1).symm
theorem Same_l0 (a b : List Int) (hab : a.length = b.length) (hl : a.length ≤ 1000) : ∀ (d k i : Nat), i + d = a.length → d + 1 ≤ k → dogwatchref03_Same.l0 k a b (i : Int) = some (decide (a.drop i = b.drop i)) := by
  intro d
  induction d with
  | zero =>
    intro k i hi hk
    obtain ⟨k, rfl⟩ : ∃ m, k = m + 1 := ⟨k - 1, by omega⟩
    simp only [dogwatchref03_Same.l0]
    rw [if_neg (by omega), List.drop_of_length_le (by omega), List.drop_of_length_le (by omega)]
    rfl
  | succ d ih =>
    intro k i hi hk
    obtain ⟨k, rfl⟩ : ∃ m, k = m + 1 := ⟨k - 1, by omega⟩
    have ew : wrap64 ((i : Int) + 1) = ((i + 1 : Nat) : Int) := by unfold wrap64; omega
    simp only [dogwatchref03_Same.l0]
    rw [if_pos (by omega), if_pos (by omega), if_pos (by omega)]
    by_cases h : rd a (i : Int) = rd b (i : Int)
    · rw [if_pos h, ew, ih k (i + 1) (by omega) (by omega)]
      congr 1
      exact decide_eq_decide.mpr ((drop_eq a b i (by omega) (by omega)).trans ⟨fun q => q.2, fun q => ⟨h, q⟩⟩).symm
    · rw [if_neg h]
      congr 1
      exact (decide_eq_false fun q => h ((drop_eq a b i (by omega) (by omega)).mp q).1).symm
theorem Equal_f (k : Nat) (a b : List Int) (hl : a.length ≤ 1000) (hk : 1001 ≤ k) : slices_Equal_int_int.f k a b = some (decide (a = b)) := by
  unfold slices_Equal_int_int.f
  by_cases h : (a.length : Int) = (b.length : Int)
  · rw [if_pos h]
    have := Equal_l0 a b (by omega) hl a.length k 0 (by omega) (by omega)
    simpa using this
  · rw [if_neg h]
    congr 1
    exact (decide_eq_false fun q => h (by rw [q])).symm
theorem Same_f (k : Nat) (a b : List Int) (hl : a.length ≤ 1000) (hk : 1001 ≤ k) : dogwatchref03_Same.f k a b = some (decide (a = b)) := by
  unfold dogwatchref03_Same.f
  by_cases h : (a.length : Int) = (b.length : Int)
  · rw [if_pos h]
    have := Same_l0 a b (by omega) hl a.length k 0 (by omega) (by omega)
    simpa using this
  · rw [if_neg h]
    congr 1
    exact (decide_eq_false fun q => h (by rw [q])).symm
/-- Both ways to tell whether two replies are alike tell the same, and a reply is like itself. -/
theorem alike_f (k : Nat) (e : Int) (m : Bool) (n : Int) (l : List Int) (e' : Int) (m' : Bool) (n' : Int) (l' : List Int) (hl : l.length ≤ 1000) (hk : 1001 ≤ k) :
    ∃ b, reply_Same.f k e m n l e' m' n' l' = some b ∧ dogwatchref12_Same.f k e m n l e' m' n' l' = some b := by
  unfold reply_Same.f dogwatchref12_Same.f
  rw [Equal_f k l l' hl hk, Same_f k l l' hl hk]
  by_cases h1 : e = e'
  · rw [if_pos h1]
    by_cases h2 : (m == m') = true
    · rw [if_pos h2]
      by_cases h3 : n = n'
      · rw [if_pos h3]; exact ⟨_, rfl, rfl⟩
      · rw [if_neg h3]; exact ⟨_, rfl, rfl⟩
    · rw [if_neg h2]; exact ⟨_, rfl, rfl⟩
  · rw [if_neg h1]; exact ⟨_, rfl, rfl⟩
theorem alike_self (k : Nat) (e : Int) (m : Bool) (n : Int) (l : List Int) (hl : l.length ≤ 1000) (hk : 1001 ≤ k) : reply_Same.f k e m n l e m n l = some true := by
  unfold reply_Same.f
  rw [Equal_f k l l hl hk, if_pos rfl, if_pos (by simp), if_pos rfl, Option.bind_some, decide_eq_true rfl]
theorem awake_le (n : Nat) : dogwatchlaw12_awake.f (100 + n) = some true := by
  induction n with
  | zero => decide +kernel
  | succ n ih => exact dogwatchlaw12_awake.mono (100 + n) _ ih
end Go.Proofs.Ytgfkcmmhnibaiaa.PRep
