/- Rows of ids, in plain lists: which are right; their bytes; both ways tell the same. -/
import Derived.Test.YtgfkcmmhnibaiaaRwRnum
import Derived.Test.YtgfkcmmhnibaiaaRwCheck
import Derived.Test.YtgfkcmmhnibaiaaPRwx1
import Derived.Test.YtgfkcmmhnibaiaaPRwx4
namespace Go.Proofs.Ytgfkcmmhnibaiaa.PRw
open Go.RowKit Go.Proofs.YtgfkcmmhnibaiaaW.PrintWords Go.Proofs.YtgfkcmmhnibaiaaW.PrintLast Go.Proofs.YtgfkcmmhnibaiaaW.PrintMore
set_option linter.unusedVariables false
set_option linter.unusedSimpArgs false
theorem rd_L1_nat (rows : List (List Int)) (i : Nat) (h : i < rows.length) : rd_L1 rows (i : Int) = rows[i] := by simp [rd_L1, List.getD_eq_getElem?_getD, h]
theorem wnat (i : Nat) (h : i < 9223372036854775807) : wrap64 ((i : Int) + 1) = ((i + 1 : Nat) : Int) := by unfold wrap64; omega
theorem Equal_k (a b : List Int) (hab : a.length = b.length) (hl : a.length < 4611686018427387904) : ∀ (d k i : Nat), i + d = a.length → d + 1 ≤ k → slices_Equal_int_int.l0 k a b (a.length : Int) (i : Int) = some (decide (a.drop i = b.drop i)) := by
  intro d
  induction d with
  | zero =>
    intro k i hi hk
    obtain ⟨k, rfl⟩ : ∃ m, k = m + 1 := ⟨k - 1, by omega⟩
    simp only [slices_Equal_int_int.l0]
    rw [if_neg (by omega), List.drop_of_length_le (by omega), List.drop_of_length_le (by omega)]
    rfl
  | succ d ih =>
    intro k i hi hk
    obtain ⟨k, rfl⟩ : ∃ m, k = m + 1 := ⟨k - 1, by omega⟩
    simp only [slices_Equal_int_int.l0]
    rw [if_pos (by omega), if_pos (by omega), if_pos (by omega), if_pos (by omega)]
    by_cases h : rd a (i : Int) = rd b (i : Int)
    · rw [if_pos h, wnat i (by omega), ih k (i + 1) (by omega) (by omega)]
      congr 1
      exact decide_eq_decide.mpr ((drop_eq a b i (by omega) (by omega)).trans ⟨fun q => q.2, fun q => ⟨h, q⟩⟩).symm
    · rw [if_neg h]
      congr 1
      exact (decide_eq_false fun q => h ((drop_eq a b i (by omega) (by omega)).mp q).1).symm
theorem Equal_ev (a b : List Int) (hl : a.length < 4611686018427387904) : Ev (fun k => slices_Equal_int_int.f k a b) (decide (a = b)) := by
  refine ⟨a.length + 1, fun k hk => ?_⟩
  show slices_Equal_int_int.f k a b = _
  unfold slices_Equal_int_int.f
  by_cases h : (a.length : Int) = (b.length : Int)
  · rw [if_pos h]
    have := Equal_k a b (by omega) hl a.length k 0 (by omega) hk
    simpa using this
  · rw [if_neg h]
    congr 1
    exact (decide_eq_false fun q => h (by rw [q])).symm
theorem Same_k (a b : List Int) (hab : a.length = b.length) (hl : a.length < 4611686018427387904) : ∀ (d k i : Nat), i + d = a.length → d + 1 ≤ k → dogwatchref03_Same.l0 k a b (i : Int) = some (decide (a.drop i = b.drop i)) := by
  intro d
  induction d with
  | zero =>
    intro k i hi hk
    obtain ⟨k, rfl⟩ : ∃ m, k = m + 1 := ⟨k - 1, by omega⟩
    simp only [dogwatchref03_Same.l0]
    rw [if_neg (by omega), List.drop_of_length_le (by omega), List.drop_of_length_le (by omega)]
    rfl
  | succ d ih =>
    intro k i hi hk
    obtain ⟨k, rfl⟩ : ∃ m, k = m + 1 := ⟨k - 1, by omega⟩
    simp only [dogwatchref03_Same.l0]
    rw [if_pos (by omega), if_pos (by omega), if_pos (by omega)]
    by_cases h : rd a (i : Int) = rd b (i : Int)
    · rw [if_pos h, wnat i (by omega), ih k (i + 1) (by omega) (by omega)]
      congr 1
      exact decide_eq_decide.mpr ((drop_eq a b i (by omega) (by omega)).trans ⟨fun q => q.2, fun q => ⟨h, q⟩⟩).symm
    · rw [if_neg h]
      congr 1
      exact (decide_eq_false fun q => h ((drop_eq a b i (by omega) (by omega)).mp q).1).symm
theorem Same_ev (a b : List Int) (hl : a.length < 4611686018427387904) : Ev (fun k => dogwatchref03_Same.f k a b) (decide (a = b)) := by
  refine ⟨a.length + 1, fun k hk => ?_⟩
  show dogwatchref03_Same.f k a b = _
  unfold dogwatchref03_Same.f
  by_cases h : (a.length : Int) = (b.length : Int)
  · rw [if_pos h]
    have := Same_k a b (by omega) hl a.length k 0 (by omega) hk
    simpa using this
  · rw [if_neg h]
    congr 1
    exact (decide_eq_false fun q => h (by rw [q])).symm
/-- Are rows right? -/
def rightR (m : Int) (rows : List (List Int)) : Bool := decide (1 ≤ m) && (decide (m ≤ 16) && (decide (rows.length ≤ 4096) && rows.all (rowOk m)))
theorem Check_is (m : Int) (rows : List (List Int)) : row_Check.f m rows = some (if rightR m rows = true then 0 else 1) := by
  unfold row_Check.f rightR
  by_cases h1 : m < 1
  · rw [if_pos h1, decide_eq_false (by omega), Bool.false_and, if_neg (by decide)]
  rw [if_neg h1, decide_eq_true (by omega), Bool.true_and]
  by_cases h2 : 16 < m
  · rw [if_pos h2, decide_eq_false (by omega), Bool.false_and, if_neg (by decide)]
  rw [if_neg h2, decide_eq_true (by omega), Bool.true_and]
  by_cases h3 : 4096 < (rows.length : Int)
  · rw [if_pos h3, decide_eq_false (by omega), Bool.false_and, if_neg (by decide)]
  rw [if_neg h3, decide_eq_true (by omega), Bool.true_and]
theorem rowOk_len {m : Int} {r : List Int} (h : rowOk m r = true) : (r.length : Int) = m ∧ r.any badId = false := by
  unfold rowOk at h
  simp only [Bool.and_eq_true, beq_iff_eq, Bool.not_eq_true'] at h
  exact h
theorem badId_false {x : Int} (h : badId x = false) : 0 ≤ x ∧ x ≤ 200 := by
  unfold badId at h
  simp at h
  omega
theorem rowOk_ids {m : Int} {r : List Int} (h : rowOk m r = true) : ∀ x ∈ r, 0 ≤ x ∧ x ≤ 200 := fun x hx => badId_false (by
  have := List.any_eq_false.mp (rowOk_len h).2 x hx
  simpa using this)
theorem right_parts {m : Int} {rows : List (List Int)} (h : rightR m rows = true) : 1 ≤ m ∧ m ≤ 16 ∧ rows.length ≤ 4096 ∧ ∀ r ∈ rows, rowOk m r = true := by
  unfold rightR at h
  simp only [Bool.and_eq_true, decide_eq_true_eq, List.all_eq_true] at h
  exact ⟨h.1, h.2.1, h.2.2.1, h.2.2.2⟩
theorem any_at (r : List Int) (j : Nat) (h : j < r.length) : (r.drop j).any badId = (badId (rd r (j : Int)) || (r.drop (j + 1)).any badId) := any_drop r j h
/-- The document's way to tell whether rows are right. -/
theorem Right_l0 (m : Int) (rows : List (List Int)) (hm : 1 ≤ m) (hm2 : m ≤ 16) (hl : rows.length ≤ 4096) : ∀ (d i : Nat), i + d = rows.length → Ev (fun k => dogwatchref13_Right.l0 k m rows (i : Int)) ((rows.drop i).all (rowOk m)) := by
  intro d
  induction d with
  | zero =>
    intro i hi
    refine Ev.step (f := fun _ => some true) (fun k => ?_) ?_
    · show dogwatchref13_Right.l0 (k + 1) m rows (i : Int) = _
      simp only [dogwatchref13_Right.l0]
      rw [if_neg (by omega)]
    · rw [List.drop_of_length_le (by omega)]
      exact Ev.now true
  | succ d ih =>
    intro i hi
    have hlt : i < rows.length := by omega
    have hrd := rd_L1_nat rows i hlt
    have e1 : (rows.drop i).all (rowOk m) = (rowOk m (rd_L1 rows (i : Int)) && (rows.drop (i + 1)).all (rowOk m)) := all_drop m rows i hlt
    rw [e1]
    by_cases hlen : ((rd_L1 rows (i : Int)).length : Int) = m
    · have inner : ∀ (d2 j : Nat), j + d2 = (rd_L1 rows (i : Int)).length → Ev (fun k => dogwatchref13_Right.l1 k m rows (i : Int) (j : Int)) (!((rd_L1 rows (i : Int)).drop j).any badId && (rows.drop (i + 1)).all (rowOk m)) := by
        intro d2
        induction d2 with
        | zero =>
          intro j hj
          refine Ev.step (f := fun k => dogwatchref13_Right.l0 k m rows ((i + 1 : Nat) : Int)) (fun k => ?_) ?_
          · show dogwatchref13_Right.l1 (k + 1) m rows (i : Int) (j : Int) = _
            simp only [dogwatchref13_Right.l1]
            rw [if_neg (by omega), wnat i (by omega)]
          · rw [List.drop_of_length_le (by omega)]
            exact ih (i + 1) (by omega)
        | succ d2 ih2 =>
          intro j hj
          rw [any_at _ j (by omega)]
          by_cases c1 : rd (rd_L1 rows (i : Int)) (j : Int) < 0
          · refine Ev.step (f := fun _ => some false) (fun k => ?_) ?_
            · show dogwatchref13_Right.l1 (k + 1) m rows (i : Int) (j : Int) = _
              simp only [dogwatchref13_Right.l1]
              rw [if_pos (by omega), if_pos (by omega), if_pos (by omega), if_pos (by omega), if_pos (by omega), if_pos c1]
            · have : badId (rd (rd_L1 rows (i : Int)) (j : Int)) = true := by unfold badId; rw [decide_eq_true c1]; rfl
              rw [this]
              exact Ev.now false
          by_cases c2 : rd (rd_L1 rows (i : Int)) (j : Int) > 200
          · refine Ev.step (f := fun _ => some false) (fun k => ?_) ?_
            · show dogwatchref13_Right.l1 (k + 1) m rows (i : Int) (j : Int) = _
              simp only [dogwatchref13_Right.l1]
              rw [if_pos (by omega), if_pos (by omega), if_pos (by omega), if_pos (by omega), if_pos (by omega), if_neg c1, if_pos c2]
            · have : badId (rd (rd_L1 rows (i : Int)) (j : Int)) = true := by unfold badId; rw [decide_eq_true (show 200 < rd (rd_L1 rows (i : Int)) (j : Int) from c2), Bool.or_true]
              rw [this]
              exact Ev.now false
          · refine Ev.step (f := fun k => dogwatchref13_Right.l1 k m rows (i : Int) ((j + 1 : Nat) : Int)) (fun k => ?_) ?_
            · show dogwatchref13_Right.l1 (k + 1) m rows (i : Int) (j : Int) = _
              simp only [dogwatchref13_Right.l1]
              rw [if_pos (by omega), if_pos (by omega), if_pos (by omega), if_pos (by omega), if_pos (by omega), if_neg c1, if_neg c2, wnat j (by omega)]
            · have : badId (rd (rd_L1 rows (i : Int)) (j : Int)) = false := by unfold badId; rw [decide_eq_false c1, decide_eq_false (show ¬ 200 < rd (rd_L1 rows (i : Int)) (j : Int) by omega)]; rfl
              rw [this, Bool.false_or]
              exact ih2 (j + 1) (by omega)
      have ho : rowOk m (rd_L1 rows (i : Int)) = !(rd_L1 rows (i : Int)).any badId := by unfold rowOk; rw [beq_iff_eq.mpr hlen, Bool.true_and]
      rw [ho]
      refine Ev.step (f := fun k => dogwatchref13_Right.l1 k m rows (i : Int) ((0 : Nat) : Int)) (fun k => ?_) ?_
      · show dogwatchref13_Right.l0 (k + 1) m rows (i : Int) = _
        simp only [dogwatchref13_Right.l0]
        rw [if_pos (by omega), if_pos (by omega), if_pos hlen]
        rfl
      · have := inner _ 0 (Nat.zero_add _)
        rw [List.drop_zero] at this
        exact this
    · refine Ev.step (f := fun _ => some false) (fun k => ?_) ?_
      · show dogwatchref13_Right.l0 (k + 1) m rows (i : Int) = _
        simp only [dogwatchref13_Right.l0]
        rw [if_pos (by omega), if_pos (by omega), if_neg hlen]
      · have ho : rowOk m (rd_L1 rows (i : Int)) = false := by unfold rowOk; rw [beq_eq_false_iff_ne.mpr hlen, Bool.false_and]
        rw [ho]
        exact Ev.now false
theorem Right_ev (m : Int) (rows : List (List Int)) : Ev (fun k => dogwatchref13_Right.f k m rows) (rightR m rows) := by
  have bad : Ev (fun k => dogwatchref13_Right.j0 k m rows true) false := Ev.step (f := fun _ => some false) (fun k => by show dogwatchref13_Right.j0 (k + 1) m rows true = _; simp only [dogwatchref13_Right.j0]; rw [if_pos trivial]) (Ev.now false)
  unfold rightR
  by_cases h1 : m < 1
  · rw [decide_eq_false (by omega), Bool.false_and]
    exact Ev.congr (fun k => by show dogwatchref13_Right.f k m rows = _; unfold dogwatchref13_Right.f; rw [if_pos h1]) bad
  rw [decide_eq_true (by omega), Bool.true_and]
  by_cases h2 : m > 16
  · rw [decide_eq_false (by omega), Bool.false_and]
    exact Ev.congr (fun k => by show dogwatchref13_Right.f k m rows = _; unfold dogwatchref13_Right.f; rw [if_neg h1, if_pos h2]) bad
  rw [decide_eq_true (by omega), Bool.true_and]
  by_cases h3 : (rows.length : Int) > 4096
  · rw [decide_eq_false (by omega), Bool.false_and]
    exact Ev.congr (fun k => by show dogwatchref13_Right.f k m rows = _; unfold dogwatchref13_Right.f; rw [if_neg h1, if_neg h2, decide_eq_true h3]) bad
  rw [decide_eq_true (by omega), Bool.true_and]
  refine Ev.congr (f := fun k => dogwatchref13_Right.j0 k m rows false) (fun k => by show dogwatchref13_Right.f k m rows = _; unfold dogwatchref13_Right.f; rw [if_neg h1, if_neg h2, decide_eq_false h3]) ?_
  refine Ev.step (f := fun k => dogwatchref13_Right.l0 k m rows ((0 : Nat) : Int)) (fun k => by show dogwatchref13_Right.j0 (k + 1) m rows false = _; simp only [dogwatchref13_Right.j0]; rw [if_neg (by decide)]; rfl) ?_
  have := Right_l0 m rows (by omega) (by omega) (by omega) rows.length 0 (Nat.zero_add _)
  rw [List.drop_zero] at this
  exact this
/-- The rows' lengths are told light, or not. -/
theorem light_ev (rows : List (List Int)) : ∃ b, Ev (fun k => dogwatchlaw13_light.f k rows) b ∧ (b = true → rows.length ≤ 4200) := by
  have fin : ∀ x3 : Int, ∃ b, (if (rows.length : Int) ≤ 4200 then (some (decide (x3 ≤ 20000))) else (some false)) = some b ∧ (b = true → rows.length ≤ 4200) := fun x3 => by
    by_cases h : (rows.length : Int) ≤ 4200
    · rw [if_pos h]; exact ⟨_, rfl, fun _ => by omega⟩
    · rw [if_neg h]; exact ⟨false, rfl, fun h => absurd h (by decide)⟩
  have main : ∀ (d i : Nat) (x3 : Int), i + d = 5000 → ∃ b, Ev (fun k => dogwatchlaw13_light.l0 k rows x3 (i : Int)) b ∧ (b = true → rows.length ≤ 4200) := by
    intro d
    induction d with
    | zero =>
      intro i x3 hi
      obtain ⟨b, hb, hb2⟩ := fin x3
      refine ⟨b, Ev.step (f := fun _ => some b) (fun k => ?_) (Ev.now b), hb2⟩
      show dogwatchlaw13_light.l0 (k + 1) rows x3 (i : Int) = _
      simp only [dogwatchlaw13_light.l0]
      by_cases h : (i : Int) < (rows.length : Int)
      · rw [if_pos h, if_neg (by omega)]; exact hb
      · rw [if_neg h]; exact hb
    | succ d ih =>
      intro i x3 hi
      by_cases h : (i : Int) < (rows.length : Int)
      · obtain ⟨b, hb, hb2⟩ := ih (i + 1) (wrap64 (x3 + ((mn ((rd_L1 rows (i : Int)).length : Int) 1000) + 1))) (by omega)
        refine ⟨b, Ev.step (f := fun k => dogwatchlaw13_light.l0 k rows (wrap64 (x3 + ((mn ((rd_L1 rows (i : Int)).length : Int) 1000) + 1))) ((i + 1 : Nat) : Int)) (fun k => ?_) hb, hb2⟩
        show dogwatchlaw13_light.l0 (k + 1) rows x3 (i : Int) = _
        simp only [dogwatchlaw13_light.l0]
        rw [if_pos h, if_pos (by omega), if_pos (by omega), wnat i (by omega)]
      · obtain ⟨b, hb, hb2⟩ := fin x3
        refine ⟨b, Ev.step (f := fun _ => some b) (fun k => ?_) (Ev.now b), hb2⟩
        show dogwatchlaw13_light.l0 (k + 1) rows x3 (i : Int) = _
        simp only [dogwatchlaw13_light.l0]
        rw [if_neg h]; exact hb
  exact main 5000 0 0 rfl
end Go.Proofs.Ytgfkcmmhnibaiaa.PRw
