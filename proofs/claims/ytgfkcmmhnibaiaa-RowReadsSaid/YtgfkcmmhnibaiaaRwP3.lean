/- The document's bytes of rows; the law RowWrites in plain lists. -/
import Derived.Test.YtgfkcmmhnibaiaaRwP2
import Derived.Test.YtgfkcmmhnibaiaaPRwx5
namespace Go.Proofs.Ytgfkcmmhnibaiaa.PRw
open Go.RowKit Go.Proofs.YtgfkcmmhnibaiaaW.PrintWords Go.Proofs.YtgfkcmmhnibaiaaW.PrintLast Go.Proofs.YtgfkcmmhnibaiaaW.PrintMore
set_option linter.unusedVariables false
set_option linter.unusedSimpArgs false
def g (rows : List (List Int)) : List Int := G rows.length rows
/-- What is still to be written at row i. -/
def S (rows : List (List Int)) (i : Nat) : List (List Int) := if i = 0 then rows else rest (rd_L1 rows ((i : Int) - 1)) (rows.drop i)
theorem Num_ev (n : Int) (h0 : 0 ≤ n) (h1 : n < 18446744073709551616) : Ev (fun k => dogwatchref09_Num.f k n) (enc 9 n) := ⟨10, fun k hk => ref_Num 9 k n h0 (by rw [lim9]; omega) (by omega) (by omega) hk⟩
theorem refE_l2 (m : Int) (hm2 : m ≤ 16) (rows : List (List Int)) (ho : Okr m rows) (i : Nat) (hi : i < rows.length) (hl : rows.length ≤ 4096) (res : List Int) : ∀ (d j : Nat) (out : List Int), j + d = (rows[i]).length → out.length + 10 * d ≤ 5000000 →
    Ev (fun k => dogwatchref13_Encode.l0 k m rows (out ++ encs ((rows[i]).drop j)) ((i + 1 : Nat) : Int)) res → Ev (fun k => dogwatchref13_Encode.l2 k m rows out (i : Int) (j : Int)) res := by
  have hlen := (rowOk_len (ho _ (List.getElem_mem hi))).1
  have e1 := rd_L1_nat rows i hi
  intro d
  induction d with
  | zero =>
    intro j out hj hb h
    have e0 : (rows[i]).drop j = [] := List.drop_of_length_le (by omega)
    rw [e0] at h
    refine Ev.step (f := fun k => dogwatchref13_Encode.l0 k m rows (out ++ encs []) ((i + 1 : Nat) : Int)) (fun k => ?_) h
    show dogwatchref13_Encode.l2 (k + 1) m rows out (i : Int) (j : Int) = _
    simp only [dogwatchref13_Encode.l2]
    rw [if_neg (by omega), wnat i (by omega)]
    simp [encs]
  | succ d ih =>
    intro j out hj hb h
    have hlt : j < (rows[i]).length := by omega
    have hr : rd (rows[i]) (j : Int) = (rows[i])[j] := rd_nth _ j hlt
    have hx := ho.ids (List.getElem_mem hi) (rows[i])[j] (List.getElem_mem _)
    have hle := enc_len 9 (rows[i])[j]
    rw [List.drop_eq_getElem_cons hlt] at h
    have e : encs ((rows[i])[j] :: (rows[i]).drop (j + 1)) = enc 9 (rows[i])[j] ++ encs ((rows[i]).drop (j + 1)) := by unfold encs; rw [List.flatMap_cons]
    rw [e, ← List.append_assoc] at h
    refine Ev.step (f := fun k => (dogwatchref09_Num.f k (rows[i])[j]).bind fun t216 => if out.length + t216.length < 140737488355328 then dogwatchref13_Encode.l2 k m rows (out ++ t216) (i : Int) ((j + 1 : Nat) : Int) else none) (fun k => ?_) (Ev.bind (Num_ev _ hx.1 hx.2) (Ev.congr (fun k => by rw [if_pos (by omega)]) (ih (j + 1) _ (by omega) (by rw [List.length_append]; omega) h)))
    show dogwatchref13_Encode.l2 (k + 1) m rows out (i : Int) (j : Int) = _
    simp only [dogwatchref13_Encode.l2]
    rw [if_pos (by omega), if_pos (by omega), if_pos (by omega), if_pos (by omega), e1, if_pos (by omega), hr, u64_wrap _ hx.1 hx.2, wnat j (by omega)]
theorem refE_l1 (m : Int) (hm2 : m ≤ 16) (rows : List (List Int)) (ho : Okr m rows) (i : Nat) (hi : i < rows.length) (hl : rows.length ≤ 4096) (out res : List Int) : ∀ (d n : Nat), i + n + d = rows.length →
    Ev (fun k => dogwatchref13_Encode.j3 k m rows out (i : Int) ((n + cnt rows[i] (rows.drop (i + n)) : Nat) : Int)) res → Ev (fun k => dogwatchref13_Encode.l1 k m rows out (i : Int) (n : Int)) res := by
  have e1 := rd_L1_nat rows i hi
  intro d
  induction d with
  | zero =>
    intro n hn h
    have e0 : rows.drop (i + n) = [] := List.drop_of_length_le (by omega)
    rw [e0] at h
    refine Ev.step (f := fun k => dogwatchref13_Encode.j3 k m rows out (i : Int) ((n + cnt rows[i] [] : Nat) : Int)) (fun k => ?_) h
    have ew : wrap64 ((i : Int) + (n : Int)) = ((i + n : Nat) : Int) := by unfold wrap64; omega
    show dogwatchref13_Encode.l1 (k + 1) m rows out (i : Int) (n : Int) = _
    simp only [dogwatchref13_Encode.l1]
    rw [ew, if_neg (by omega)]
    rfl
  | succ d ih =>
    intro n hn h
    have hlt : i + n < rows.length := by omega
    have e2 := rd_L1_nat rows (i + n) hlt
    have ew : wrap64 ((i : Int) + (n : Int)) = ((i + n : Nat) : Int) := by unfold wrap64; omega
    have hq := Same_ev rows[i + n] rows[i] (by have := ho.len hm2 (List.getElem_mem hlt); omega)
    have main : ∀ k, dogwatchref13_Encode.l1 (k + 1) m rows out (i : Int) (n : Int) = (dogwatchref03_Same.f k rows[i + n] rows[i]).bind fun t207 => if t207 = true then dogwatchref13_Encode.l1 k m rows out (i : Int) ((n + 1 : Nat) : Int) else dogwatchref13_Encode.j3 k m rows out (i : Int) (n : Int) := fun k => by
      simp only [dogwatchref13_Encode.l1]
      rw [ew, if_pos (by omega), if_pos (by omega), if_pos (by omega), if_pos (by omega), e2, e1, wnat n (by omega)]
    rw [List.drop_eq_getElem_cons hlt] at h
    by_cases c : rows[i + n] = rows[i]
    · have e3 : n + cnt rows[i] (rows[i + n] :: rows.drop (i + n + 1)) = n + 1 + cnt rows[i] (rows.drop (i + (n + 1))) := by simp only [cnt]; rw [if_pos c, show i + n + 1 = i + (n + 1) by omega]; omega
      rw [e3] at h
      refine Ev.step (f := fun k => (dogwatchref03_Same.f k rows[i + n] rows[i]).bind fun t207 => if t207 = true then dogwatchref13_Encode.l1 k m rows out (i : Int) ((n + 1 : Nat) : Int) else dogwatchref13_Encode.j3 k m rows out (i : Int) (n : Int)) main (Ev.bind hq ?_)
      rw [decide_eq_true c]
      exact Ev.congr (fun k => by rw [if_pos rfl]) (ih (n + 1) (by omega) h)
    · have e3 : n + cnt rows[i] (rows[i + n] :: rows.drop (i + n + 1)) = n := by simp only [cnt]; rw [if_neg c]; rfl
      rw [e3] at h
      refine Ev.step (f := fun k => (dogwatchref03_Same.f k rows[i + n] rows[i]).bind fun t207 => if t207 = true then dogwatchref13_Encode.l1 k m rows out (i : Int) ((n + 1 : Nat) : Int) else dogwatchref13_Encode.j3 k m rows out (i : Int) (n : Int)) main (Ev.bind hq ?_)
      rw [decide_eq_false c]
      exact Ev.congr (fun k => by rw [if_neg (by decide)]) h
theorem S_next (rows : List (List Int)) (i : Nat) (hi : i < rows.length) : S rows (i + 1) = rest rows[i] (rows.drop (i + 1)) := by
  unfold S
  rw [if_neg (by omega), show (((i + 1 : Nat) : Int) - 1) = (i : Int) by omega, rd_L1_nat rows i hi]
theorem refE_l0 (m : Int) (hm2 : m ≤ 16) (rows : List (List Int)) (ho : Okr m rows) (hl : rows.length ≤ 4096) : ∀ (d i : Nat) (out : List Int), i + d = rows.length → out.length + 200 * d ≤ 1000000 → Ev (fun k => dogwatchref13_Encode.l0 k m rows out (i : Int)) (out ++ g (S rows i)) := by
  intro d
  induction d with
  | zero =>
    intro i out hi hb
    have e : S rows i = [] := by
      unfold S
      split
      · exact List.eq_nil_of_length_eq_zero (by omega)
      · rw [List.drop_of_length_le (by omega)]; rfl
    rw [e, show out ++ g [] = out by simp [g, G]]
    refine Ev.step (f := fun _ => some out) (fun k => ?_) (Ev.now _)
    show dogwatchref13_Encode.l0 (k + 1) m rows out (i : Int) = _
    simp only [dogwatchref13_Encode.l0]
    rw [if_neg (by omega)]
  | succ d ih =>
    intro i out hi hb
    have hlt : i < rows.length := by omega
    have e1 := rd_L1_nat rows i hlt
    have hdrop := List.drop_eq_getElem_cons hlt
    have h1 := enc_len 9 ((cnt rows[i] (rows.drop (i + 1)) + 1 : Nat) : Int)
    have h2 := encs_len rows[i]
    have h3 := ho.len hm2 (List.getElem_mem hlt)
    have h5 := cnt_rest rows[i] (rows.drop (i + 1))
    rw [List.length_drop] at h5
    -- a new group
    have grp : S rows i = rows[i] :: rows.drop (i + 1) → Ev (fun k => dogwatchref13_Encode.j1 k m rows out (i : Int) false) (out ++ g (S rows i)) := by
      intro hS
      have hg : g (S rows i) = enc 9 ((cnt rows[i] (rows.drop (i + 1)) + 1 : Nat) : Int) ++ (encs rows[i] ++ g (S rows (i + 1))) := by
        rw [hS, S_next rows i hlt]
        unfold g
        rw [List.length_cons, G_cons]
      have ih1 := ih (i + 1) (out ++ enc 9 ((cnt rows[i] (rows.drop (i + 1)) + 1 : Nat) : Int) ++ encs rows[i]) (by omega) (by simp only [List.length_append]; omega)
      have hl2 := refE_l2 m hm2 rows ho i hlt hl (out ++ enc 9 ((cnt rows[i] (rows.drop (i + 1)) + 1 : Nat) : Int) ++ encs rows[i] ++ g (S rows (i + 1))) (rows[i]).length 0 (out ++ enc 9 ((cnt rows[i] (rows.drop (i + 1)) + 1 : Nat) : Int)) (Nat.zero_add _) (by rw [List.length_append]; omega) (by rw [List.drop_zero]; exact ih1)
      have hj3 : Ev (fun k => dogwatchref13_Encode.j3 k m rows out (i : Int) ((0 + cnt rows[i] (rows.drop (i + 0)) : Nat) : Int)) (out ++ g (S rows i)) := by
        have e3 : 0 + cnt rows[i] (rows.drop (i + 0)) = cnt rows[i] (rows.drop (i + 1)) + 1 := by rw [Nat.add_zero, hdrop]; simp only [cnt]; rw [if_pos trivial]; omega
        rw [e3, hg]
        have hN := Num_ev ((cnt rows[i] (rows.drop (i + 1)) + 1 : Nat) : Int) (by omega) (by omega)
        refine Ev.step (f := fun k => (dogwatchref09_Num.f k ((cnt rows[i] (rows.drop (i + 1)) + 1 : Nat) : Int)).bind fun t208 => if out.length + t208.length < 140737488355328 then dogwatchref13_Encode.l2 k m rows (out ++ t208) (i : Int) ((0 : Nat) : Int) else none) (fun k => ?_) (Ev.bind hN (Ev.congr (f := fun k => dogwatchref13_Encode.l2 k m rows (out ++ enc 9 ((cnt rows[i] (rows.drop (i + 1)) + 1 : Nat) : Int)) (i : Int) ((0 : Nat) : Int)) (fun k => by rw [if_pos (by omega)]) ?_))
        · show dogwatchref13_Encode.j3 (k + 1) m rows out (i : Int) _ = _
          simp only [dogwatchref13_Encode.j3]
          rw [u64_wrap _ (by omega) (by omega)]
          rfl
        · simp only [List.append_assoc] at hl2 ⊢
          exact hl2
      have hl1 := refE_l1 m hm2 rows ho i hlt hl out _ d.succ 0 (by omega) hj3
      refine Ev.step (f := fun k => dogwatchref13_Encode.l1 k m rows out (i : Int) ((0 : Nat) : Int)) (fun k => ?_) hl1
      show dogwatchref13_Encode.j1 (k + 1) m rows out (i : Int) false = _
      simp only [dogwatchref13_Encode.j1]
      rw [if_neg (by decide)]
      rfl
    by_cases c0 : i = 0
    · subst c0
      refine Ev.step (f := fun k => dogwatchref13_Encode.j1 k m rows out ((0 : Nat) : Int) false) (fun k => ?_) (grp (by unfold S; rw [if_pos rfl, ← hdrop, List.drop_zero]))
      show dogwatchref13_Encode.l0 (k + 1) m rows out ((0 : Nat) : Int) = _
      simp only [dogwatchref13_Encode.l0]
      rw [if_pos (by omega), if_neg (by omega)]
    · obtain ⟨j, rfl⟩ : ∃ j, i = j + 1 := ⟨i - 1, by omega⟩
      have ew : wrap64 (((j + 1 : Nat) : Int) - 1) = (j : Int) := by unfold wrap64; omega
      have e2 := rd_L1_nat rows j (by omega)
      have hq := Same_ev rows[j] rows[j + 1] (by have := ho.len hm2 (List.getElem_mem (show j < rows.length by omega)); omega)
      have hS : S rows (j + 1) = rest rows[j] (rows[j + 1] :: rows.drop (j + 1 + 1)) := by rw [S_next rows j (by omega), hdrop]
      refine Ev.step (f := fun k => (dogwatchref03_Same.f k rows[j] rows[j + 1]).bind fun t204 => dogwatchref13_Encode.j1 k m rows out ((j + 1 : Nat) : Int) t204) (fun k => ?_) (Ev.bind hq ?_)
      · show dogwatchref13_Encode.l0 (k + 1) m rows out ((j + 1 : Nat) : Int) = _
        simp only [dogwatchref13_Encode.l0]
        rw [if_pos (by omega), if_pos (by omega), ew, if_pos (by omega), if_pos (by omega), if_pos (by omega), e1, e2]
      · by_cases c : rows[j] = rows[j + 1]
        · rw [decide_eq_true c]
          have hS2 : S rows (j + 1) = S rows (j + 1 + 1) := by
            rw [hS, S_next rows (j + 1) hlt, ← c]
            simp only [rest]
            rw [if_pos trivial]
          rw [hS2]
          refine Ev.step (f := fun k => dogwatchref13_Encode.l0 k m rows out ((j + 1 + 1 : Nat) : Int)) (fun k => ?_) (ih (j + 1 + 1) out (by omega) (by omega))
          show dogwatchref13_Encode.j1 (k + 1) m rows out ((j + 1 : Nat) : Int) true = _
          simp only [dogwatchref13_Encode.j1]
          rw [if_pos trivial, wnat (j + 1) (by omega)]
        · rw [decide_eq_false c]
          refine grp ?_
          rw [hS]
          simp only [rest]
          rw [if_neg (fun e => c e.symm)]
theorem refE_ev (m : Int) (rows : List (List Int)) (h : rightR m rows = true) : Ev (fun k => dogwatchref13_Encode.f k m rows) (bytesR m rows) := by
  obtain ⟨h1, h2, h3, h4⟩ := right_parts h
  have l2 := enc_len 9 (rows.length : Int)
  have hl := refE_l0 m h2 rows h4 h3 rows.length 0 ([m % 256] ++ enc 9 (rows.length : Int)) (Nat.zero_add _) (by rw [List.length_append]; simp only [List.length_singleton]; omega)
  have e : [m % 256] ++ enc 9 (rows.length : Int) ++ g (S rows 0) = bytesR m rows := by
    unfold bytesR g S
    rw [if_pos rfl, show m % 256 = m by omega]
    have : enc 9 m = [m] := by simp only [enc]; rw [if_pos (by omega)]
    rw [this, List.append_assoc]
  rw [e] at hl
  refine Ev.congr (f := fun k => (dogwatchref09_Num.f k (rows.length : Int)).bind fun t196 => if ([m % 256] : List Int).length + t196.length < 140737488355328 then dogwatchref13_Encode.l0 k m rows ([m % 256] ++ t196) ((0 : Nat) : Int) else none) (fun k => ?_) (Ev.bind (Num_ev _ (by omega) (by omega)) (Ev.congr (fun k => by rw [if_pos (by simp only [List.length_singleton]; omega)]) hl))
  show dogwatchref13_Encode.f k m rows = _
  unfold dogwatchref13_Encode.f
  rw [Option.bind_some, u64_wrap _ (by omega) (by omega)]
  rfl
theorem awake_ev : Ev (fun k => dogwatchlaw13_awake.f k) true := Ev.of (k := 200) dogwatchlaw13_awake.mono (by decide +kernel)
theorem awake_then : Ev (fun k => (dogwatchlaw13_awake.f k).bind fun t => some t) true := Ev.bind awake_ev (Ev.now true)
theorem RowWrites_ev (m : Int) (rows : List (List Int)) : Ev (fun k => dogwatchlaw13_RowWrites.f k m rows) true := by
  obtain ⟨b, hb, hb2⟩ := light_ev rows
  unfold dogwatchlaw13_RowWrites.f
  refine Ev.bind hb ?_
  cases b with
  | false => exact Ev.congr (fun k => by rw [if_neg (by decide)]) awake_then
  | true =>
    refine Ev.congr (f := fun k => _) (fun k => if_pos rfl) ?_
    cases hr : rightR m rows with
    | true =>
      refine Ev.bind (Encode_ev m rows hr) ?_
      refine Ev.congr (f := fun k => _) (fun k => by rw [Check_is, hr, if_pos rfl, Option.bind_some, if_pos rfl]) ?_
      refine Ev.bind (Right_ev m rows) ?_
      rw [hr]
      refine Ev.congr (f := fun k => _) (fun k => if_pos rfl) ?_
      refine Ev.bind (refE_ev m rows hr) ?_
      exact Ev.congr (fun k => by rw [if_pos rfl, if_pos rfl]) awake_then
    | false =>
      refine Ev.bind (Encode_no m rows hr) ?_
      refine Ev.congr (f := fun k => _) (fun k => by rw [Check_is, hr, if_neg (by decide), Option.bind_some, if_pos rfl]) ?_
      refine Ev.bind (Right_ev m rows) ?_
      rw [hr]
      exact Ev.congr (fun k => by rw [if_neg (by decide), if_pos rfl]; exact if_pos rfl) awake_then
end Go.Proofs.Ytgfkcmmhnibaiaa.PRw
