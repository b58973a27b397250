/- The law RowCounts in plain lists. -/
import Derived.Test.YtgfkcmmhnibaiaaRwP3
import Derived.Test.YtgfkcmmhnibaiaaPRwx11
namespace Go.Proofs.Ytgfkcmmhnibaiaa.PRw
open Go.RowKit Go.Proofs.YtgfkcmmhnibaiaaW.PrintWords Go.Proofs.YtgfkcmmhnibaiaaW.PrintLast Go.Proofs.YtgfkcmmhnibaiaaW.PrintMore
set_option linter.unusedVariables false
set_option linter.unusedSimpArgs false
/-- How often a task stands in rows. -/
def tot (t : Int) : List (List Int) → Nat
  | [] => 0
  | r :: rs => r.count t + tot t rs
theorem tot_le (t : Int) : ∀ rows : List (List Int), (∀ r ∈ rows, r.length ≤ 300) → tot t rows ≤ 300 * rows.length
  | [], h => by simp [tot]
  | r :: rs, h => by
    have h1 := h r (by simp)
    have h2 : r.count t ≤ r.length := List.count_le_length
    have h3 := tot_le t rs (fun x hx => h x (by simp [hx]))
    simp only [tot, List.length_cons]
    omega
theorem count_at (r : List Int) (t : Int) (j : Nat) (h : j < r.length) : (r.drop j).count t = (if rd r (j : Int) = t then 1 else 0) + (r.drop (j + 1)).count t := by
  rw [List.drop_eq_getElem_cons h, List.count_cons, rd_nth r j h]
  by_cases c : r[j] = t
  · rw [if_pos c, if_pos (by simpa using c)]; omega
  · rw [if_neg c, if_neg (by simpa using c)]; omega
theorem tot_at (t : Int) (rows : List (List Int)) (i : Nat) (h : i < rows.length) : tot t (rows.drop i) = (rd_L1 rows (i : Int)).count t + tot t (rows.drop (i + 1)) := by
  rw [List.drop_eq_getElem_cons h, tot, rd_L1_nat rows i h]
theorem wsum (x : Int) (h0 : 0 ≤ x) (h1 : x < 4611686018427387904) : wrap64 (x + 1) = x + 1 := by unfold wrap64; omega
theorem Count_l0 (t : Int) (rows : List (List Int)) (hr : ∀ r ∈ rows, r.length ≤ 300) (hl : rows.length ≤ 4200) : ∀ (d i : Nat) (x : Nat), i + d = rows.length → x + tot t (rows.drop i) ≤ 2000000 → Ev (fun k => row_Count.l0 k t (x : Int) rows (rows.length : Int) (i : Int)) ((x + tot t (rows.drop i) : Nat) : Int) := by
  intro d
  induction d with
  | zero =>
    intro i x hi hx
    have e : tot t (rows.drop i) = 0 := by rw [List.drop_of_length_le (by omega)]; rfl
    rw [e]
    refine Ev.step (f := fun _ => some (x : Int)) (fun k => ?_) (Ev.now _)
    show row_Count.l0 (k + 1) t (x : Int) rows (rows.length : Int) (i : Int) = _
    simp only [row_Count.l0]
    rw [if_neg (by omega)]
  | succ d ih =>
    intro i x hi hx
    have hlt : i < rows.length := by omega
    rw [tot_at t rows i hlt] at hx ⊢
    have hrl : (rd_L1 rows (i : Int)).length ≤ 300 := by rw [rd_L1_nat rows i hlt]; exact hr _ (List.getElem_mem _)
    generalize hrr : rd_L1 rows (i : Int) = r at *
    have inner : ∀ (d2 j : Nat) (y : Nat), j + d2 = r.length → y + (r.drop j).count t + tot t (rows.drop (i + 1)) ≤ 2000000 → Ev (fun k => row_Count.l1 k t (y : Int) rows (rows.length : Int) (i : Int) r (r.length : Int) (j : Int)) ((y + (r.drop j).count t + tot t (rows.drop (i + 1)) : Nat) : Int) := by
      intro d2
      induction d2 with
      | zero =>
        intro j y hj hy
        have e : (r.drop j).count t = 0 := by rw [List.drop_of_length_le (by omega)]; rfl
        rw [e] at hy ⊢
        refine Ev.step (f := fun k => row_Count.l0 k t (y : Int) rows (rows.length : Int) ((i + 1 : Nat) : Int)) (fun k => ?_) (ih (i + 1) y (by omega) (by omega))
        show row_Count.l1 (k + 1) t (y : Int) rows (rows.length : Int) (i : Int) r (r.length : Int) (j : Int) = _
        simp only [row_Count.l1]
        rw [if_neg (by omega), wnat i (by omega)]
      | succ d2 ih2 =>
        intro j y hj hy
        rw [count_at r t j (by omega)] at hy ⊢
        by_cases c : rd r (j : Int) = t
        · rw [if_pos c] at hy ⊢
          have := ih2 (j + 1) (y + 1) (by omega) (by omega)
          rw [show y + (1 + (r.drop (j + 1)).count t) + tot t (rows.drop (i + 1)) = y + 1 + (r.drop (j + 1)).count t + tot t (rows.drop (i + 1)) by omega]
          refine Ev.step (f := fun k => row_Count.l1 k t ((y + 1 : Nat) : Int) rows (rows.length : Int) (i : Int) r (r.length : Int) ((j + 1 : Nat) : Int)) (fun k => ?_) this
          show row_Count.l1 (k + 1) t (y : Int) rows (rows.length : Int) (i : Int) r (r.length : Int) (j : Int) = _
          simp only [row_Count.l1]
          rw [if_pos (by omega), if_pos (by omega), if_pos (by omega), if_pos c, wnat j (by omega), wnat y (by omega)]
        · rw [if_neg c] at hy ⊢
          have := ih2 (j + 1) y (by omega) (by omega)
          rw [Nat.zero_add]
          refine Ev.step (f := fun k => row_Count.l1 k t (y : Int) rows (rows.length : Int) (i : Int) r (r.length : Int) ((j + 1 : Nat) : Int)) (fun k => ?_) this
          show row_Count.l1 (k + 1) t (y : Int) rows (rows.length : Int) (i : Int) r (r.length : Int) (j : Int) = _
          simp only [row_Count.l1]
          rw [if_pos (by omega), if_pos (by omega), if_pos (by omega), if_neg c, wnat j (by omega)]
    have hin := inner r.length 0 x (Nat.zero_add _) (by rw [List.drop_zero]; omega)
    rw [List.drop_zero, Nat.add_assoc] at hin
    refine Ev.step (f := fun k => row_Count.l1 k t (x : Int) rows (rows.length : Int) (i : Int) r (r.length : Int) ((0 : Nat) : Int)) (fun k => ?_) hin
    show row_Count.l0 (k + 1) t (x : Int) rows (rows.length : Int) (i : Int) = _
    simp only [row_Count.l0]
    rw [if_pos (by omega), if_pos (by omega), if_pos (by omega), hrr]
    rfl
theorem refCount_l0 (t : Int) (rows : List (List Int)) (hr : ∀ r ∈ rows, r.length ≤ 300) (hl : rows.length ≤ 4200) : ∀ (d i : Nat) (x : Nat), i + d = rows.length → x + tot t (rows.drop i) ≤ 2000000 → Ev (fun k => dogwatchref13_Count.l0 k rows t (x : Int) (i : Int)) ((x + tot t (rows.drop i) : Nat) : Int) := by
  intro d
  induction d with
  | zero =>
    intro i x hi hx
    have e : tot t (rows.drop i) = 0 := by rw [List.drop_of_length_le (by omega)]; rfl
    rw [e]
    refine Ev.step (f := fun _ => some (x : Int)) (fun k => ?_) (Ev.now _)
    show dogwatchref13_Count.l0 (k + 1) rows t (x : Int) (i : Int) = _
    simp only [dogwatchref13_Count.l0]
    rw [if_neg (by omega)]
  | succ d ih =>
    intro i x hi hx
    have hlt : i < rows.length := by omega
    rw [tot_at t rows i hlt] at hx ⊢
    have hrl : (rd_L1 rows (i : Int)).length ≤ 300 := by rw [rd_L1_nat rows i hlt]; exact hr _ (List.getElem_mem _)
    have inner : ∀ (d2 j : Nat) (y : Nat), j + d2 = (rd_L1 rows (i : Int)).length → y + ((rd_L1 rows (i : Int)).drop j).count t + tot t (rows.drop (i + 1)) ≤ 2000000 → Ev (fun k => dogwatchref13_Count.l1 k rows t (y : Int) (i : Int) (j : Int)) ((y + ((rd_L1 rows (i : Int)).drop j).count t + tot t (rows.drop (i + 1)) : Nat) : Int) := by
      intro d2
      induction d2 with
      | zero =>
        intro j y hj hy
        have e : ((rd_L1 rows (i : Int)).drop j).count t = 0 := by rw [List.drop_of_length_le (by omega)]; rfl
        rw [e] at hy ⊢
        refine Ev.step (f := fun k => dogwatchref13_Count.l0 k rows t (y : Int) ((i + 1 : Nat) : Int)) (fun k => ?_) (ih (i + 1) y (by omega) (by omega))
        show dogwatchref13_Count.l1 (k + 1) rows t (y : Int) (i : Int) (j : Int) = _
        simp only [dogwatchref13_Count.l1]
        rw [if_pos (by omega), if_pos (by omega), if_neg (by omega), wnat i (by omega)]
      | succ d2 ih2 =>
        intro j y hj hy
        rw [count_at _ t j (by omega)] at hy ⊢
        by_cases c : rd (rd_L1 rows (i : Int)) (j : Int) = t
        · rw [if_pos c] at hy ⊢
          have := ih2 (j + 1) (y + 1) (by omega) (by omega)
          rw [show y + (1 + ((rd_L1 rows (i : Int)).drop (j + 1)).count t) + tot t (rows.drop (i + 1)) = y + 1 + ((rd_L1 rows (i : Int)).drop (j + 1)).count t + tot t (rows.drop (i + 1)) by omega]
          refine Ev.step (f := fun k => dogwatchref13_Count.l1 k rows t ((y + 1 : Nat) : Int) (i : Int) ((j + 1 : Nat) : Int)) (fun k => ?_) this
          show dogwatchref13_Count.l1 (k + 1) rows t (y : Int) (i : Int) (j : Int) = _
          simp only [dogwatchref13_Count.l1]
          rw [if_pos (by omega), if_pos (by omega), if_pos (by omega), if_pos (by omega), if_pos c, wnat j (by omega), wnat y (by omega)]
        · rw [if_neg c] at hy ⊢
          have := ih2 (j + 1) y (by omega) (by omega)
          rw [Nat.zero_add]
          refine Ev.step (f := fun k => dogwatchref13_Count.l1 k rows t (y : Int) (i : Int) ((j + 1 : Nat) : Int)) (fun k => ?_) this
          show dogwatchref13_Count.l1 (k + 1) rows t (y : Int) (i : Int) (j : Int) = _
          simp only [dogwatchref13_Count.l1]
          rw [if_pos (by omega), if_pos (by omega), if_pos (by omega), if_pos (by omega), if_neg c, wnat j (by omega)]
    have hin := inner _ 0 x (Nat.zero_add _) (by rw [List.drop_zero]; omega)
    rw [List.drop_zero, Nat.add_assoc] at hin
    refine Ev.step (f := fun k => dogwatchref13_Count.l1 k rows t (x : Int) (i : Int) ((0 : Nat) : Int)) (fun k => ?_) hin
    show dogwatchref13_Count.l0 (k + 1) rows t (x : Int) (i : Int) = _
    simp only [dogwatchref13_Count.l0]
    rw [if_pos (by omega)]
    rfl
/-- The document's 'alone'. -/
theorem Alone_l0 (r : List Int) (hl : r.length ≤ 300) : ∀ (d i : Nat), i + d = r.length → Ev (fun k => dogwatchref13_Alone.l0 k r (i : Int)) (aloneFrom (r.take i) (r.drop i)) := by
  intro d
  induction d with
  | zero =>
    intro i hi
    rw [List.drop_of_length_le (by omega)]
    refine Ev.step (f := fun _ => some true) (fun k => ?_) (Ev.now _)
    show dogwatchref13_Alone.l0 (k + 1) r (i : Int) = _
    simp only [dogwatchref13_Alone.l0]
    rw [if_neg (by omega)]
  | succ d ih =>
    intro i hi
    have hlt : i < r.length := by omega
    rw [from_step r i hlt]
    have hx : rd r (i : Int) = r[i] := rd_nth r i hlt
    have inner : ∀ (d2 j : Nat), j + d2 = i → Ev (fun k => dogwatchref13_Alone.l1 k r (i : Int) (j : Int)) (if (((r.take i).drop j).contains (rd r (i : Int)) && rd r (i : Int) != 0) = true then false else aloneFrom (r.take (i + 1)) (r.drop (i + 1))) := by
      intro d2
      induction d2 with
      | zero =>
        intro j hj
        have e : (r.take i).drop j = [] := List.drop_of_length_le (by rw [List.length_take]; omega)
        rw [e, if_neg (by simp)]
        refine Ev.step (f := fun k => dogwatchref13_Alone.l0 k r ((i + 1 : Nat) : Int)) (fun k => ?_) (ih (i + 1) (by omega))
        show dogwatchref13_Alone.l1 (k + 1) r (i : Int) (j : Int) = _
        simp only [dogwatchref13_Alone.l1]
        rw [if_neg (by omega), wnat i (by omega)]
      | succ d2 ih2 =>
        intro j hj
        have hjl : j < (r.take i).length := by rw [List.length_take]; omega
        have ej : (r.take i)[j] = rd r (j : Int) := by rw [rd_nth r j (by omega), List.getElem_take]
        rw [List.drop_eq_getElem_cons hjl, ej, List.contains_cons]
        have h2 := ih2 (j + 1) (by omega)
        by_cases c : rd r (i : Int) = rd r (j : Int)
        · rw [beq_iff_eq.mpr c, Bool.true_or, Bool.true_and]
          by_cases c0 : rd r (i : Int) = 0
          · have e0 : (rd r (i : Int) != 0) = false := bne_eq_false_iff_eq.mpr c0
            rw [e0, if_neg (by decide)]
            rw [e0, Bool.and_false, if_neg (by decide)] at h2
            refine Ev.step (f := fun k => dogwatchref13_Alone.l1 k r (i : Int) ((j + 1 : Nat) : Int)) (fun k => ?_) h2
            show dogwatchref13_Alone.l1 (k + 1) r (i : Int) (j : Int) = _
            simp only [dogwatchref13_Alone.l1]
            rw [if_pos (by omega), if_pos (by omega), if_pos (by omega), if_pos (by omega), if_pos (by omega), if_pos c, if_pos c0, wnat j (by omega)]
          · rw [if_pos (bne_iff_ne.mpr c0)]
            refine Ev.step (f := fun _ => some false) (fun k => ?_) (Ev.now _)
            show dogwatchref13_Alone.l1 (k + 1) r (i : Int) (j : Int) = _
            simp only [dogwatchref13_Alone.l1]
            rw [if_pos (by omega), if_pos (by omega), if_pos (by omega), if_pos (by omega), if_pos (by omega), if_pos c, if_neg c0]
        · rw [beq_eq_false_iff_ne.mpr c, Bool.false_or]
          refine Ev.step (f := fun k => dogwatchref13_Alone.l1 k r (i : Int) ((j + 1 : Nat) : Int)) (fun k => ?_) h2
          show dogwatchref13_Alone.l1 (k + 1) r (i : Int) (j : Int) = _
          simp only [dogwatchref13_Alone.l1]
          rw [if_pos (by omega), if_pos (by omega), if_pos (by omega), if_pos (by omega), if_pos (by omega), if_neg c, wnat j (by omega)]
    have hin := inner i 0 (Nat.zero_add _)
    rw [List.drop_zero] at hin
    refine Ev.step (f := fun k => dogwatchref13_Alone.l1 k r (i : Int) ((0 : Nat) : Int)) (fun k => ?_) hin
    show dogwatchref13_Alone.l0 (k + 1) r (i : Int) = _
    simp only [dogwatchref13_Alone.l0]
    rw [if_pos (by omega)]
    rfl
theorem Alone_ev (r : List Int) (hl : r.length ≤ 300) : Ev (fun k => dogwatchref13_Alone.f k r) (aloneR r) := by
  have := Alone_l0 r hl r.length 0 (Nat.zero_add _)
  rw [List.take_zero, List.drop_zero] at this
  exact this
theorem RowCounts_l0 (t : Int) (rows : List (List Int)) (hl : rows.length ≤ 4200) (hw : rows.all (fun r => r.all inI64) = true) : ∀ (d i : Nat) (b : Bool), i + d = rows.length → (∀ j, (h : j < rows.length) → j < i → (rows[j]).length ≤ 300) → b = (rows.take i).all aloneR → Ev (fun k => dogwatchlaw13_RowCounts.l0 k rows t b (i : Int)) true := by
  intro d
  induction d with
  | zero =>
    intro i b hi hs hb
    have hr : ∀ r ∈ rows, r.length ≤ 300 := fun r hr => by
      obtain ⟨j, hj, rfl⟩ := List.getElem_of_mem hr
      exact hs j hj (by omega)
    rw [List.take_of_length_le (by omega)] at hb
    have ht := tot_le t rows hr
    have h1 : Ev (fun k => row_Count.f k rows t) ((tot t rows : Nat) : Int) := by
      have := Count_l0 t rows hr hl rows.length 0 0 (Nat.zero_add _) (by rw [List.drop_zero]; omega)
      rw [List.drop_zero, Nat.zero_add] at this
      exact this
    have h2 : Ev (fun k => dogwatchref13_Count.f k rows t) ((tot t rows : Nat) : Int) := by
      have := refCount_l0 t rows hr hl rows.length 0 0 (Nat.zero_add _) (by rw [List.drop_zero]; omega)
      rw [List.drop_zero, Nat.zero_add] at this
      exact this
    have h3 : row_Alone.f rows = some (rows.all aloneR) := by unfold row_Alone.f; rw [if_pos hw]
    refine Ev.step (f := fun k => (row_Count.f k rows t).bind fun t301 => (dogwatchref13_Count.f k rows t).bind fun t302 => if t301 = t302 then ((row_Alone.f rows).bind fun t303 => if (t303 == b) = true then ((dogwatchlaw13_awake.f k).bind fun t304 => some t304) else some false) else some false) (fun k => ?_) (Ev.bind h1 (Ev.bind h2 ?_))
    · show dogwatchlaw13_RowCounts.l0 (k + 1) rows t b (i : Int) = _
      simp only [dogwatchlaw13_RowCounts.l0]
      rw [if_neg (by omega)]
    · exact Ev.congr (fun k => by rw [if_pos rfl, h3, Option.bind_some, hb, beq_self_eq_true, if_pos rfl]) awake_then
  | succ d ih =>
    intro i b hi hs hb
    have hlt : i < rows.length := by omega
    have e1 := rd_L1_nat rows i hlt
    by_cases cl : ((rd_L1 rows (i : Int)).length : Int) > 300
    · refine Ev.step (f := fun k => (dogwatchlaw13_awake.f k).bind fun t298 => some t298) (fun k => ?_) awake_then
      show dogwatchlaw13_RowCounts.l0 (k + 1) rows t b (i : Int) = _
      simp only [dogwatchlaw13_RowCounts.l0]
      rw [if_pos (by omega), if_pos (by omega), if_pos cl]
    · have hs2 : ∀ j, (h : j < rows.length) → j < i + 1 → (rows[j]).length ≤ 300 := fun j hj hji => by
        by_cases c : j < i
        · exact hs j hj c
        · have : j = i := by omega
          subst this
          rw [e1] at cl
          omega
      have htk : (rows.take (i + 1)).all aloneR = ((rows.take i).all aloneR && aloneR rows[i]) := by
        rw [List.take_succ_eq_append_getElem hlt, List.all_append, List.all_cons, List.all_nil, Bool.and_true]
      cases b with
      | true =>
        have ha := Alone_ev (rows[i]) (by rw [e1] at cl; omega)
        refine Ev.step (f := fun k => (dogwatchref13_Alone.f k rows[i]).bind fun t300 => dogwatchlaw13_RowCounts.l0 k rows t t300 ((i + 1 : Nat) : Int)) (fun k => ?_) (Ev.bind ha (ih (i + 1) _ (by omega) hs2 (by rw [htk, ← hb, Bool.true_and])))
        show dogwatchlaw13_RowCounts.l0 (k + 1) rows t true (i : Int) = _
        simp only [dogwatchlaw13_RowCounts.l0]
        rw [if_pos (by omega), if_pos (by omega), if_neg cl, if_pos trivial, e1, wnat i (by omega)]
      | false =>
        refine Ev.step (f := fun k => dogwatchlaw13_RowCounts.l0 k rows t false ((i + 1 : Nat) : Int)) (fun k => ?_) (ih (i + 1) false (by omega) hs2 (by rw [htk, ← hb, Bool.false_and]))
        show dogwatchlaw13_RowCounts.l0 (k + 1) rows t false (i : Int) = _
        simp only [dogwatchlaw13_RowCounts.l0]
        rw [if_pos (by omega), if_pos (by omega), if_neg cl, if_neg (by decide), wnat i (by omega)]
theorem RowCounts_ev (rows : List (List Int)) (t : Int) (hw : ∀ r ∈ rows, ∀ x ∈ r, (Lit.int .i64 x).wf = true) : Ev (fun k => dogwatchlaw13_RowCounts.f k rows t) true := by
  have hw2 : rows.all (fun r => r.all inI64) = true := by
    rw [List.all_eq_true]
    intro r hr
    rw [List.all_eq_true]
    intro x hx
    have := hw r hr x hx
    simp [Lit.wf, IntKind.min, IntKind.max, IntKind.bits, IntKind.signed] at this
    unfold inI64
    rw [decide_eq_true (by omega), decide_eq_true (by omega)]
    rfl
  obtain ⟨b, hb, hb2⟩ := light_ev rows
  unfold dogwatchlaw13_RowCounts.f
  refine Ev.bind hb ?_
  cases b with
  | false => exact Ev.congr (fun k => by rw [if_neg (by decide)]) awake_then
  | true =>
    refine Ev.congr (f := fun k => dogwatchlaw13_RowCounts.l0 k rows t true ((0 : Nat) : Int)) (fun k => if_pos rfl) ?_
    exact RowCounts_l0 t rows (hb2 rfl) hw2 rows.length 0 true (Nat.zero_add _) (fun j _ h => absurd h (by omega)) rfl
end Go.Proofs.Ytgfkcmmhnibaiaa.PRw
