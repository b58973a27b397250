/- Which replies are right: both ways tell the same. -/
import Derived.Test.YtgfkcmmhnibaiaaHdRep
namespace Go.Proofs.Ytgfkcmmhnibaiaa.PRpd
open Go.RowKit Go.Proofs.YtgfkcmmhnibaiaaW.PrintWords Go.Proofs.YtgfkcmmhnibaiaaW.PrintLast Go.Proofs.YtgfkcmmhnibaiaaW.PrintMore
set_option linter.unusedVariables false
set_option linter.unusedSimpArgs false
def neg (l : List Int) : Bool := l.any fun x => decide (x < 0)
def rightB (e : Int) (m : Bool) (n : Int) (l : List Int) : Bool :=
  decide (0 ≤ e ∧ e ≤ 30 ∧ 0 ≤ n ∧ n ≤ 255 ∧ (l.length : Int) ≤ checkLim e) && (!neg l && (decide (e = 0) || (!m && decide (n = 0))))
theorem Check_is (e : Int) (m : Bool) (n : Int) (l : List Int) (hl : l.length ≤ 1000) : reply_Check.f e m n l = some (if rightB e m n l = true then 0 else 1) := by
  unfold reply_Check.f
  rw [if_pos (by omega)]
  congr 1
  show (if e < 0 then (1 : Int) else if 30 < e then 1 else if n < 0 then 1 else if 255 < n then 1 else if checkLim e < (l.length : Int) then 1 else if neg l = true then 1 else if e = 0 then 0 else if m = true then 1 else if n = 0 then 0 else 1) = _
  have hf : ∀ P : Prop, ∀ (_ : Decidable P), ¬ P → (decide P && (!neg l && (decide (e = 0) || (!m && decide (n = 0))))) = false := fun P _ h => by rw [decide_eq_false h]; rfl
  unfold rightB
  by_cases c1 : e < 0
  · rw [if_pos c1, hf _ _ (by omega)]; rfl
  by_cases c2 : 30 < e
  · rw [if_neg c1, if_pos c2, hf _ _ (by omega)]; rfl
  by_cases c3 : n < 0
  · rw [if_neg c1, if_neg c2, if_pos c3, hf _ _ (by omega)]; rfl
  by_cases c4 : 255 < n
  · rw [if_neg c1, if_neg c2, if_neg c3, if_pos c4, hf _ _ (by omega)]; rfl
  by_cases c5 : checkLim e < (l.length : Int)
  · rw [if_neg c1, if_neg c2, if_neg c3, if_neg c4, if_pos c5, hf _ _ (by omega)]; rfl
  rw [if_neg c1, if_neg c2, if_neg c3, if_neg c4, if_neg c5, decide_eq_true (by omega)]
  cases neg l with
  | true => rfl
  | false =>
    rw [if_neg (by decide)]
    by_cases c6 : e = 0
    · rw [if_pos c6, decide_eq_true c6]; rfl
    · rw [if_neg c6, decide_eq_false c6]
      cases m with
      | true => rfl
      | false =>
        rw [if_neg (by decide)]
        by_cases c7 : n = 0
        · rw [if_pos c7, decide_eq_true c7]; rfl
        · rw [if_neg c7, decide_eq_false c7]; rfl
theorem neg_drop (l : List Int) (i : Nat) (h : i < l.length) : neg (l.drop i) = (decide (rd l (i : Int) < 0) || neg (l.drop (i + 1))) := any_drop l i h
def last (e : Int) (m : Bool) (n : Int) (l : List Int) : Bool := if e = 0 then true else if m = true then false else if n = 0 then (if (l.length : Int) = 0 then true else if e = 3 then decide ((l.length : Int) ≤ 2) else false) else false
theorem Right_l0 (e : Int) (m : Bool) (n : Int) (l : List Int) (hl : l.length ≤ 1000) : ∀ (d k i : Nat), i + d = l.length → d + 1 ≤ k → dogwatchref12_Right.l0 k (i : Int) e m n l = some (!neg (l.drop i) && last e m n l) := by
  intro d
  induction d with
  | zero =>
    intro k i hi hk
    obtain ⟨k, rfl⟩ : ∃ q, k = q + 1 := ⟨k - 1, by omega⟩
    simp only [dogwatchref12_Right.l0]
    rw [if_neg (by omega), List.drop_of_length_le (by omega)]
    unfold last
    show _ = some (true && _)
    rw [Bool.true_and]
    by_cases c1 : e = 0
    · rw [if_pos c1, if_pos c1]
    rw [if_neg c1, if_neg c1]
    by_cases c2 : m = true
    · rw [if_pos c2, if_pos c2]
    rw [if_neg c2, if_neg c2]
    by_cases c3 : n = 0
    · rw [if_pos c3, if_pos c3]
      by_cases c4 : (l.length : Int) = 0
      · rw [if_pos c4, if_pos c4]
      rw [if_neg c4, if_neg c4]
      by_cases c5 : e = 3
      · rw [if_pos c5, if_pos c5]
      · rw [if_neg c5, if_neg c5]
    · rw [if_neg c3, if_neg c3]
  | succ d ih =>
    intro k i hi hk
    obtain ⟨k, rfl⟩ : ∃ q, k = q + 1 := ⟨k - 1, by omega⟩
    have ew : wrap64 ((i : Int) + 1) = ((i + 1 : Nat) : Int) := by unfold wrap64; omega
    simp only [dogwatchref12_Right.l0]
    rw [if_pos (by omega), if_pos (by omega), neg_drop l i (by omega)]
    by_cases h : rd l (i : Int) < 0
    · rw [if_pos h, decide_eq_true h]; rfl
    · rw [if_neg h, decide_eq_false h, ew, ih k (i + 1) (by omega) (by omega)]; rfl
theorem Right_is (k : Nat) (e : Int) (m : Bool) (n : Int) (l : List Int) (hl : l.length ≤ 1000) (hk : 1002 ≤ k) : dogwatchref12_Right.f k e m n l = some (rightB e m n l) := by
  obtain ⟨k, rfl⟩ : ∃ q, k = q + 1 := ⟨k - 1, by omega⟩
  have h0 := Right_l0 e m n l hl l.length k 0 (by omega) (by omega)
  rw [List.drop_zero] at h0
  have hf : ∀ P : Prop, ∀ (_ : Decidable P), ¬ P → (decide P && (!neg l && (decide (e = 0) || (!m && decide (n = 0))))) = false := fun P _ h => by rw [decide_eq_false h]; rfl
  unfold dogwatchref12_Right.f rightB
  simp only [dogwatchref12_Right.j0]
  by_cases c1 : e < 0
  · rw [if_pos c1, hf _ _ (by omega)]; rfl
  by_cases c2 : e > 30
  · rw [if_neg c1, if_pos c2, hf _ _ (by omega)]; rfl
  by_cases c3 : n < 0
  · rw [if_neg c1, if_neg c2, if_pos c3, hf _ _ (by omega)]; rfl
  by_cases c4 : n > 255
  · rw [if_neg c1, if_neg c2, if_neg c3, if_pos c4, hf _ _ (by omega)]; rfl
  rw [if_neg c1, if_neg c2, if_neg c3, if_neg c4]
  by_cases c5 : (l.length : Int) > 20
  · have : ¬ (0 ≤ e ∧ e ≤ 30 ∧ 0 ≤ n ∧ n ≤ 255 ∧ (l.length : Int) ≤ checkLim e) := by
      unfold checkLim
      split
      · omega
      · split <;> omega
    rw [decide_eq_true c5, if_pos rfl, hf _ _ this]
  · rw [decide_eq_false c5, if_neg (by decide)]
    have h1 : dogwatchref12_Right.l0 k 0 e m n l = some (!neg l && last e m n l) := h0
    rw [h1]
    congr 1
    cases neg l with
    | true => rw [Bool.not_true, Bool.false_and, Bool.false_and, Bool.and_false]
    | false =>
      rw [Bool.not_false, Bool.true_and, Bool.true_and]
      unfold last checkLim
      by_cases d1 : e = 0
      · rw [if_pos d1, if_pos d1, decide_eq_true (by omega), decide_eq_true d1]; rfl
      rw [if_neg d1, if_neg d1, decide_eq_false d1, Bool.false_or]
      cases m with
      | true => rw [if_pos rfl, Bool.not_true, Bool.false_and, Bool.and_false]
      | false =>
        rw [if_neg (by decide), Bool.not_false, Bool.true_and]
        by_cases d2 : n = 0
        · rw [if_pos d2, decide_eq_true d2, Bool.and_true]
          by_cases d3 : (l.length : Int) = 0
          · rw [if_pos d3]
            by_cases d4 : e = 3
            · rw [if_pos d4, decide_eq_true (by omega)]
            · rw [if_neg d4, decide_eq_true (by omega)]
          · rw [if_neg d3]
            by_cases d4 : e = 3
            · rw [if_pos d4, if_pos d4]
              exact decide_eq_decide.mpr (by omega)
            · rw [if_neg d4, if_neg d4, decide_eq_false (by omega)]
        · rw [if_neg d2, decide_eq_false d2, Bool.and_false]
end Go.Proofs.Ytgfkcmmhnibaiaa.PRpd
