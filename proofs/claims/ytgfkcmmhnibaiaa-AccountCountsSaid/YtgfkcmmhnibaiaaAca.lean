/- The document's answer of a task and a core (for AccountCounts): plain. -/
import Derived.Test.YtgfkcmmhnibaiaaAc9
import Derived.Test.YtgfkcmmhnibaiaaPAccx1
import Derived.Test.YtgfkcmmhnibaiaaPAccx2
namespace Go.Proofs.Ytgfkcmmhnibaiaa.Ac
open Go.RowKit Go.Proofs.YtgfkcmmhnibaiaaW.PrintWords Go.Proofs.YtgfkcmmhnibaiaaW.PrintLast Go.Proofs.YtgfkcmmhnibaiaaW.PrintMore Pt
set_option linter.unusedVariables false
set_option linter.unusedSimpArgs false
def cntN (r : List Int) (x : Int) : Nat → Int
  | 0 => 0
  | n + 1 => cntN r x n + if r.getD n 0 = x then 1 else 0
def chN (r : List Int) (x : Int) (st : Int × Int) : Nat → Int × Int
  | 0 => st
  | n + 1 => if r.getD n 0 = x then (if 0 ≤ (chN r x st n).2 ∧ (chN r x st n).2 ≠ (n : Int) then (chN r x st n).1 + 1 else (chN r x st n).1, (n : Int)) else chN r x st n
theorem cntN_range (r : List Int) (x : Int) (n : Nat) : 0 ≤ cntN r x n ∧ cntN r x n ≤ n := by
  induction n with
  | zero => exact ⟨Int.le_refl 0, Int.le_refl 0⟩
  | succ n ih =>
    rw [cntN]
    split <;> omega
theorem chN_range (r : List Int) (x : Int) (st : Int × Int) (n : Nat) : st.1 ≤ (chN r x st n).1 ∧ (chN r x st n).1 ≤ st.1 + cntN r x n := by
  induction n with
  | zero => exact ⟨Int.le_refl _, by rw [chN, cntN]; omega⟩
  | succ n ih =>
    rw [chN, cntN]
    split
    · dsimp only
      split <;> omega
    · omega
theorem rowT_eq (T : Tk) (r : List Int) (x : Int) (n : Nat) : rowT T r x n = ⟨T.ticks + cntN r x n, T.last, T.now + cntN r x n, (chN r x (T.changes, T.core) n).1, (chN r x (T.changes, T.core) n).2⟩ := by
  induction n with
  | zero => simp [rowT, cntN, chN]
  | succ n ih =>
    rw [rowT, cntN, chN, ih]
    by_cases h : r.getD n 0 = x
    · simp only [if_pos h, stepT, Int.add_assoc]
    · simp only [if_neg h, Int.add_zero]
def SS (l : List (List Int)) (x : Int) (a : Nat) : Nat → Int
  | 0 => 0
  | n + 1 => SS l x a n + if a ≤ n then cntN (l.getD n []) x 16 else 0
def CH (l : List (List Int)) (x : Int) (a : Nat) : Nat → Int × Int
  | 0 => (0, -1)
  | n + 1 => if a ≤ n then chN (l.getD n []) x (CH l x a n) 16 else CH l x a n
theorem SS_zero (l : List (List Int)) (x : Int) (a : Nat) : ∀ n, n ≤ a → SS l x a n = 0 := by
  intro n
  induction n with
  | zero => intro _; rfl
  | succ n ih => intro h; rw [SS, ih (by omega), if_neg (by omega), Int.add_zero]
theorem CH_zero (l : List (List Int)) (x : Int) (a : Nat) : ∀ n, n ≤ a → CH l x a n = (0, -1) := by
  intro n
  induction n with
  | zero => intro _; rfl
  | succ n ih => intro h; rw [CH, if_neg (by omega), ih (by omega)]
theorem SS_range (l : List (List Int)) (x : Int) (a : Nat) (n : Nat) : 0 ≤ SS l x a n ∧ SS l x a n ≤ 16 * (n : Int) := by
  induction n with
  | zero => exact ⟨Int.le_refl 0, Int.le_refl 0⟩
  | succ n ih =>
    rw [SS]
    have := cntN_range (l.getD n []) x 16
    split <;> omega
theorem CH_range (l : List (List Int)) (x : Int) (a : Nat) (n : Nat) : 0 ≤ (CH l x a n).1 ∧ (CH l x a n).1 ≤ 16 * (n : Int) := by
  induction n with
  | zero => exact ⟨Int.le_refl 0, Int.le_refl 0⟩
  | succ n ih =>
    rw [CH]
    have h1 := cntN_range (l.getD n []) x 16
    have h2 := chN_range (l.getD n []) x (CH l x a n) 16
    split <;> omega
theorem over_next (f n : Nat) (hf : 0 < f) : ((n + 1) % f = 0 → (n + 1) / f * f = n + 1 ∧ n / f * f + f = n + 1) ∧ ((n + 1) % f ≠ 0 → (n + 1) / f * f = n / f * f) ∧ n / f * f ≤ n := by
  have e1 := Nat.div_add_mod (n + 1) f
  have e2 := Nat.div_add_mod n f
  have l2 := Nat.mod_lt n hf
  have e3 : (n + 1) / f = n / f + if f ∣ n + 1 then 1 else 0 := Nat.succ_div
  rw [Nat.mul_comm] at e1 e2
  refine ⟨fun h => ?_, fun h => ?_, by omega⟩
  · rw [if_pos (Nat.dvd_of_mod_eq_zero h)] at e3
    rw [h, Nat.add_zero] at e1
    refine ⟨e1, ?_⟩
    have : (n / f + 1) * f = n / f * f + f := by rw [Nat.add_mul, Nat.one_mul]
    rw [← this, ← e3]
    exact e1
  · rw [if_neg (fun d => h (Nat.mod_eq_zero_of_dvd d))] at e3
    rw [e3, Nat.add_zero]
theorem accT_eq (f : Nat) (hf : 0 < f) (x : Int) (l : List (List Int)) (a : Nat) : ∀ n, accT f x l a n = ⟨SS l x a n, SS l x (max a (n / f * f - f)) (n / f * f), SS l x (max a (n / f * f)) n, (CH l x a n).1, (CH l x a n).2⟩ := by
  intro n
  induction n with
  | zero => simp [accT, SS, CH, tz]
  | succ n ih =>
    obtain ⟨o1, o2, o3⟩ := over_next f n hf
    by_cases han : a ≤ n
    · rw [accT, if_pos han, addT, ih, rowT_eq]
      rw [SS, CH, if_pos han, if_pos han]
      by_cases hm : (n + 1) % f = 0
      · obtain ⟨p1, p2⟩ := o1 hm
        rw [if_pos hm, p1]
        have e1 : n + 1 - f = n / f * f := by omega
        rw [e1, SS_zero l x (max a (n + 1)) (n + 1) (by omega)]
        have e2 : SS l x (max a (n / f * f)) (n + 1) = SS l x (max a (n / f * f)) n + cntN (l.getD n []) x 16 := by rw [SS, if_pos (by omega)]
        rw [e2]
        rfl
      · have p1 := o2 hm
        rw [if_neg hm, p1]
        have e2 : SS l x (max a (n / f * f)) (n + 1) = SS l x (max a (n / f * f)) n + cntN (l.getD n []) x 16 := by rw [SS, if_pos (by omega)]
        rw [e2]
    · have h4 : (n + 1) / f * f ≤ n + 1 := (over_next f (n + 1) hf).2.2
      rw [accT, if_neg han, SS_zero l x a (n + 1) (by omega), SS_zero l x _ _ (show (n + 1) / f * f ≤ max a ((n + 1) / f * f - f) by omega), SS_zero l x _ (n + 1) (show n + 1 ≤ max a ((n + 1) / f * f) by omega), CH_zero l x a (n + 1) (by omega)]
      rfl
/-! The document's loops. -/
theorem right_ev (l : List Int) (hm : l.length ≤ 1000) : ∀ d i : Nat, i + d = l.length → (∀ j, j < i → ¬ badId (rd l (j : Int)) = true) → Ev (fun k => PAcc.dogwatchref32_Right.l0 k l (i : Int)) (rightRow l) := by
  intro d
  induction d with
  | zero =>
    intro i hi hb
    refine Ev.step (f := fun _ => some ((l.length : Int) == 16)) (fun k => ?_) ?_
    · rw [PAcc.dogwatchref32_Right.l0, if_neg (by omega)]
    · have e : ((l.length : Int) == 16) = rightRow l := by
        unfold rightRow
        have h2 : l.any badId = false := by
          rw [List.any_eq_false]
          intro y hy
          obtain ⟨j, hj, rfl⟩ := List.getElem_of_mem hy
          rw [← drop_rd l j hj]
          exact hb j (by omega)
        rw [h2]
        by_cases h16 : l.length = 16
        · rw [decide_eq_true h16, h16]; rfl
        · rw [decide_eq_false h16]
          have : ((l.length : Int) == 16) = false := beq_eq_false_iff_ne.mpr (by omega)
          rw [this]; rfl
      rw [e]
      exact Ev.now _
  | succ d ih =>
    intro i hi hb
    have w1 : wrap64 ((i : Int) + 1) = ((i + 1 : Nat) : Int) := by unfold wrap64; omega
    by_cases hbad : badId (rd l (i : Int)) = true
    · have e : rightRow l = false := by
        unfold rightRow
        have : l.any badId = true := List.any_eq_true.2 ⟨rd l (i : Int), by rw [drop_rd l i (by omega)]; exact List.getElem_mem _, hbad⟩
        rw [this]
        simp
      rw [e]
      unfold badId at hbad
      simp only [Bool.or_eq_true, decide_eq_true_eq] at hbad
      refine Ev.step (f := fun _ => some false) (fun k => ?_) (Ev.now _)
      rw [PAcc.dogwatchref32_Right.l0, if_pos (by omega), if_pos (by omega)]
      by_cases h0 : rd l (i : Int) < 0
      · rw [if_pos h0]
      · rw [if_neg h0, if_pos (by omega)]
    · have hb2 := hbad
      unfold badId at hb2
      simp only [Bool.or_eq_true, decide_eq_true_eq, not_or] at hb2
      refine Ev.step (f := fun k => PAcc.dogwatchref32_Right.l0 k l ((i + 1 : Nat) : Int)) (fun k => ?_) (ih (i + 1) (by omega) (fun j hj => ?_))
      · rw [PAcc.dogwatchref32_Right.l0, if_pos (by omega), if_pos (by omega), if_neg hb2.1, if_neg (by omega), w1]
      · by_cases e : j = i
        · rw [e]; exact hbad
        · exact hb j (by omega)
theorem right_some (l : List Int) (hm : l.length ≤ 1000) : ∃ k, PAcc.dogwatchref32_Right.f k l = some (rightRow l) := (right_ev l hm l.length 0 (by omega) (fun j hj => by omega)).rounds
theorem rd_row (l : List (List Int)) (i : Nat) : PAcc.rd_L1 l (i : Int) = l.getD i [] := by simp [PAcc.rd_L1]
theorem rd_get (r : List Int) (c : Nat) : rd r (c : Int) = r.getD c 0 := by simp [rd]
/-- Of a core. -/
structure CB (c : Cr) (n : Nat) : Prop where
  b0 : 0 ≤ c.busy
  b1 : c.busy ≤ n
  i0 : 0 ≤ c.idle
  i1 : c.idle ≤ n
  c0 : 0 ≤ c.changes
  c1 : c.changes ≤ n
theorem CB.step {c : Cr} {n : Nat} (h : CB c n) (hn : n ≤ 1000) (id : Int) : CB (coreF c id) (n + 1) ∧ wrap64 (c.busy + 1) = c.busy + 1 ∧ wrap64 (c.idle + 1) = c.idle + 1 ∧ wrap64 (c.changes + 1) = c.changes + 1 := by
  obtain ⟨b0, b1, i0, i1, c0, c1⟩ := h
  have w1 : wrap64 (c.busy + 1) = c.busy + 1 := by unfold wrap64; omega
  have w2 : wrap64 (c.idle + 1) = c.idle + 1 := by unfold wrap64; omega
  have w3 : wrap64 (c.changes + 1) = c.changes + 1 := by unfold wrap64; omega
  refine ⟨?_, w1, w2, w3⟩
  unfold coreF
  rw [w1, w2, w3]
  clear w1 w2 w3
  split
  · refine ⟨b0, ?_, ?_, ?_, c0, ?_⟩ <;> dsimp only <;> omega
  · refine ⟨?_, ?_, i0, ?_, ?_, ?_⟩ <;> dsimp only <;> (try split) <;> omega
theorem accC_CB (l : List (List Int)) (c : Nat) (hl : l.length ≤ 1000) : ∀ n, n ≤ l.length → CB (accC l c n) n := by
  intro n
  induction n with
  | zero => intro _; exact ⟨Int.le_refl 0, Int.le_refl 0, Int.le_refl 0, Int.le_refl 0, Int.le_refl 0, Int.le_refl 0⟩
  | succ n ih => intro h; exact ((ih (by omega)).step (by omega) _).1
theorem on_ev (l : List (List Int)) (c : Nat) (hl : l.length ≤ 1000) (hr : ∀ r ∈ l, rightRow r = true) (hc : c < 16) : ∀ d i : Nat, i + d = l.length →
    Ev (fun k => PAcc.dogwatchref32_On.l0 k l (c : Int) (i : Int) (accC l c i).busy (accC l c i).idle (accC l c i).changes (accC l c i).task) ((accC l c l.length).busy, (accC l c l.length).idle, (accC l c l.length).changes, (accC l c l.length).task) := by
  intro d
  induction d with
  | zero =>
    intro i hi
    obtain rfl : i = l.length := by omega
    refine Ev.step (f := fun _ => some _) (fun k => ?_) (Ev.now _)
    rw [PAcc.dogwatchref32_On.l0, if_neg (by omega)]
  | succ d ih =>
    intro i hi
    have hri : rightRow (l.getD i []) = true := hr _ (by rw [List.getD_eq_getElem?_getD, List.getElem?_eq_getElem (by omega)]; exact List.getElem_mem _)
    have hlen : (l.getD i []).length = 16 := (right_at hri).1
    have p1 : (i : Int) < (l.length : Int) := by omega
    have p2 : (0 : Int) ≤ (i : Int) := by omega
    have p3 : (0 : Int) ≤ (c : Int) := by omega
    have p4 : (c : Int) < ((l.getD i []).length : Int) := by rw [hlen]; omega
    have w1 : wrap64 ((i : Int) + 1) = ((i + 1 : Nat) : Int) := by unfold wrap64; omega
    have q := ih (i + 1) (by omega)
    have hb := (accC_CB l c hl i (by omega)).step (by omega) ((l.getD i []).getD c 0)
    refine Ev.step (f := fun k => PAcc.dogwatchref32_On.l0 k l (c : Int) ((i + 1 : Nat) : Int) (accC l c (i + 1)).busy (accC l c (i + 1)).idle (accC l c (i + 1)).changes (accC l c (i + 1)).task) (fun k => ?_) q
    rw [PAcc.dogwatchref32_On.l0, if_pos p1, if_pos p2, if_pos p3, rd_row, if_pos p4, rd_get, w1]
    rw [accC]
    generalize (l.getD i []).getD c 0 = v at *
    generalize accC l c i = z at *
    unfold coreF
    rw [hb.2.1, hb.2.2.1, hb.2.2.2]
    by_cases h0 : v = 0
    · rw [if_pos h0, if_pos h0]
    · rw [if_neg h0, if_neg h0]
      by_cases h1 : z.task = 0
      · rw [if_pos h1, if_neg (show ¬ (z.task ≠ 0 ∧ z.task ≠ v) from fun q => q.1 h1)]
      · rw [if_neg h1]
        by_cases h2 : z.task = v
        · rw [if_pos h2, if_neg (show ¬ (z.task ≠ 0 ∧ z.task ≠ v) from fun q => q.2 h2)]
        · rw [if_neg h2, if_pos ⟨h1, h2⟩]
theorem on_some (l : List (List Int)) (c : Nat) (hl : l.length ≤ 1000) (hr : ∀ r ∈ l, rightRow r = true) (hc : c < 16) :
    ∃ k, PAcc.dogwatchref32_On.f k l (c : Int) = some ((accC l c l.length).busy, (accC l c l.length).idle, (accC l c l.length).changes, (accC l c l.length).task) := (on_ev l c hl hr hc l.length 0 (by omega)).rounds
end Go.Proofs.Ytgfkcmmhnibaiaa.Ac
