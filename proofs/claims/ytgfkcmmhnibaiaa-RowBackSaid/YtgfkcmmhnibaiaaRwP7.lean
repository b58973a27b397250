/- The laws RowReads and RowBack in plain lists. -/
import Derived.Test.YtgfkcmmhnibaiaaRwP6
import Derived.Test.YtgfkcmmhnibaiaaPRwx9
namespace Go.Proofs.Ytgfkcmmhnibaiaa.PRw
open Go.RowKit Go.Proofs.YtgfkcmmhnibaiaaW.PrintWords Go.Proofs.YtgfkcmmhnibaiaaW.PrintLast Go.Proofs.YtgfkcmmhnibaiaaW.PrintMore
set_option linter.unusedVariables false
set_option linter.unusedSimpArgs false
theorem SameR_l0 (a : List (List Int)) (hl : a.length ≤ 5000) (h : ∀ r ∈ a, r.length ≤ 100) : ∀ (d i : Nat), i + d = a.length → Ev (fun k => dogwatchref13_Same.l0 k a a (i : Int)) true := by
  intro d
  induction d with
  | zero =>
    intro i hi
    refine Ev.step (f := fun _ => some true) (fun k => ?_) (Ev.now _)
    show dogwatchref13_Same.l0 (k + 1) a a (i : Int) = _
    simp only [dogwatchref13_Same.l0]
    rw [if_neg (by omega)]
  | succ d ih =>
    intro i hi
    have hx := rd_L1_nat a i (by omega)
    have hs := Same_ev a[i] a[i] (by have := h _ (List.getElem_mem (show i < a.length by omega)); omega)
    rw [decide_eq_true rfl] at hs
    refine Ev.step (f := fun k => (dogwatchref03_Same.f k a[i] a[i]).bind fun t249 => if t249 = true then dogwatchref13_Same.l0 k a a ((i + 1 : Nat) : Int) else some false) (fun k => ?_) (Ev.bind hs (Ev.congr (fun k => by rw [if_pos rfl]) (ih (i + 1) (by omega))))
    show dogwatchref13_Same.l0 (k + 1) a a (i : Int) = _
    simp only [dogwatchref13_Same.l0]
    rw [if_pos (by omega), if_pos (by omega), if_pos (by omega), hx, wnat i (by omega)]
theorem SameR_ev (a : List (List Int)) (hl : a.length ≤ 5000) (h : ∀ r ∈ a, r.length ≤ 100) : Ev (fun k => dogwatchref13_Same.f k a a) true := by
  refine Ev.congr (f := fun k => dogwatchref13_Same.l0 k a a ((0 : Nat) : Int)) (fun k => ?_) (SameR_l0 a hl h a.length 0 (Nat.zero_add _))
  show dogwatchref13_Same.f k a a = _
  unfold dogwatchref13_Same.f
  rw [if_pos rfl]
  rfl
theorem right_same (m : Int) (rows : List (List Int)) (h : rightR m rows = true) : Ev (fun k => dogwatchref13_Same.f k rows rows) true := by
  obtain ⟨h1, h2, h3, h4⟩ := right_parts h
  exact SameR_ev rows (by omega) (fun r hr => by have := (rowOk_len (h4 r hr)).1; omega)
theorem nil_same : Ev (fun k => dogwatchref13_Same.f k [] []) true := SameR_ev [] (by simp) (by simp)
theorem RowReads_ev (l : List Int) (hb : Bytes l) : Ev (fun k => dogwatchlaw13_RowReads.f k l) true := by
  unfold dogwatchlaw13_RowReads.f
  by_cases c : (l.length : Int) > 2000
  · exact Ev.congr (fun k => by rw [if_pos c]) awake_then
  by_cases h : ∃ m rows, rightR m rows = true ∧ l = bytesR m rows
  · obtain ⟨m, rows, hr, rfl⟩ := h
    refine Ev.congr (f := fun k => _) (fun k => if_neg c) ?_
    refine Ev.bind (own_is m rows hr) (Ev.bind (ref_is m rows hr) ?_)
    refine Ev.congr (f := fun k => _) (fun k => if_pos rfl) ?_
    refine Ev.bind (right_same m rows hr) ?_
    exact Ev.congr (fun k => by rw [if_pos rfl, if_pos (show (((0 : Int) == 0) == true) = true from rfl), if_pos rfl]) awake_then
  · have hn : Bad l := fun m rows hr e => h ⟨m, rows, hr, e⟩
    refine Ev.congr (f := fun k => _) (fun k => if_neg c) ?_
    refine Ev.bind (own_no l hb (by omega) hn) (Ev.bind (ref_no l hb (by omega) hn) ?_)
    refine Ev.congr (f := fun k => _) (fun k => if_pos rfl) ?_
    refine Ev.bind nil_same ?_
    exact Ev.congr (fun k => by rw [if_pos rfl, if_pos (by decide), if_neg (by decide), if_pos rfl]) awake_then
theorem RowBack_j1 (l : List Int) (hb : Bytes l) (hl : l.length ≤ 2000) : Ev (fun k => dogwatchlaw13_RowBack.j1 k l) true := by
  have main : ∀ k, dogwatchlaw13_RowBack.j1 (k + 1) l = (row_Decode.f k l).bind fun bt276 => (if bt276.2.2 = 0 then ((row_Encode.f k bt276.1 bt276.2.1).bind fun bt281 => (if bt281.2 = 0 then (if (strOfNums bt281.1).toList = (strOfNums l).toList then ((dogwatchlaw13_awake.f k).bind fun t285 => (some t285)) else (some false)) else (some false))) else (if bt276.1 = 0 then (if (bt276.2.1.length : Int) = 0 then ((dogwatchlaw13_awake.f k).bind fun t286 => (some t286)) else (some false)) else (some false))) := fun k => by
    simp only [dogwatchlaw13_RowBack.j1]
  refine Ev.step (f := fun k => _) main ?_
  by_cases h : ∃ m rows, rightR m rows = true ∧ l = bytesR m rows
  · obtain ⟨m, rows, hr, rfl⟩ := h
    refine Ev.bind (own_is m rows hr) ?_
    refine Ev.congr (f := fun k => _) (fun k => if_pos rfl) ?_
    refine Ev.bind (Encode_ev m rows hr) ?_
    exact Ev.congr (fun k => by rw [if_pos rfl, if_pos rfl]) awake_then
  · have hn : Bad l := fun m rows hr e => h ⟨m, rows, hr, e⟩
    refine Ev.bind (own_no l hb (by omega) hn) ?_
    exact Ev.congr (fun k => by rw [if_neg (show ¬ ((3 : Int) = 0) by decide), if_pos rfl, if_pos (show (([] : List (List Int)).length : Int) = 0 from rfl)]) awake_then
theorem RowBack_ev (m : Int) (rows : List (List Int)) (l : List Int) (hb : Bytes l) : Ev (fun k => dogwatchlaw13_RowBack.f k m rows l) true := by
  have heavy : Ev (fun k => dogwatchlaw13_RowBack.j0 k m rows l true) true := by
    refine Ev.step (f := fun k => (dogwatchlaw13_awake.f k).bind fun t265 => some t265) (fun k => ?_) awake_then
    show dogwatchlaw13_RowBack.j0 (k + 1) m rows l true = _
    simp only [dogwatchlaw13_RowBack.j0]
    rw [if_pos trivial]
  obtain ⟨b, hb1, hb2⟩ := light_ev rows
  unfold dogwatchlaw13_RowBack.f
  refine Ev.bind hb1 ?_
  cases b with
  | false => exact Ev.congr (fun k => by rw [if_neg (by decide)]) heavy
  | true =>
    refine Ev.congr (f := fun k => _) (fun k => if_pos rfl) ?_
    by_cases c : (l.length : Int) > 2000
    · rw [decide_eq_true c]; exact heavy
    · rw [decide_eq_false c]
      have main : ∀ k, dogwatchlaw13_RowBack.j0 (k + 1) m rows l false = (row_Encode.f k m rows).bind fun bt266 => (if bt266.2 = 0 then ((row_Decode.f k bt266.1).bind fun bt270 => (if bt270.2.2 = 0 then (if bt270.1 = m then ((dogwatchref13_Same.f k bt270.2.1 rows).bind fun t275 => (if t275 = true then (dogwatchlaw13_RowBack.j1 k l) else (some false))) else (some false)) else (some false))) else (dogwatchlaw13_RowBack.j1 k l)) := fun k => by
        simp only [dogwatchlaw13_RowBack.j0]
        rw [if_neg (by decide)]
      refine Ev.step (f := fun k => _) main ?_
      have hj := RowBack_j1 l hb (by omega)
      cases hr : rightR m rows with
      | true =>
        refine Ev.bind (Encode_ev m rows hr) ?_
        refine Ev.congr (f := fun k => _) (fun k => if_pos rfl) ?_
        refine Ev.bind (own_is m rows hr) ?_
        refine Ev.congr (f := fun k => _) (fun k => (if_pos rfl).trans (if_pos rfl)) ?_
        refine Ev.bind (right_same m rows hr) ?_
        exact Ev.congr (fun k => by rw [if_pos rfl]) hj
      | false =>
        refine Ev.bind (Encode_no m rows hr) ?_
        exact Ev.congr (fun k => by rw [if_neg (by decide)]) hj
end Go.Proofs.Ytgfkcmmhnibaiaa.PRw
