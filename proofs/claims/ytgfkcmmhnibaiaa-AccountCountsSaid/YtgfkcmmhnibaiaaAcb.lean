/- The document's answer of a task (for AccountCounts): plain. -/
import Derived.Test.YtgfkcmmhnibaiaaAca
namespace Go.Proofs.Ytgfkcmmhnibaiaa.Ac
open Go.RowKit Go.Proofs.YtgfkcmmhnibaiaaW.PrintWords Go.Proofs.YtgfkcmmhnibaiaaW.PrintLast Go.Proofs.YtgfkcmmhnibaiaaW.PrintMore Pt
set_option linter.unusedVariables false
set_option linter.unusedSimpArgs false
def cntB (b : Bool) (r : List Int) (x : Int) (n : Nat) : Int := if b = true then cntN r x n else 0
theorem cntB_range (b : Bool) (r : List Int) (x : Int) (n : Nat) : 0 ≤ cntB b r x n ∧ cntB b r x n ≤ n := by
  have := cntN_range r x n
  unfold cntB
  split <;> omega
theorem cntB_hit (b : Bool) (r : List Int) (x : Int) (n : Nat) (h : r.getD n 0 = x) : cntB b r x (n + 1) = cntB b r x n + if b = true then 1 else 0 := by
  unfold cntB
  rw [cntN, if_pos h]
  split <;> omega
theorem cntB_miss (b : Bool) (r : List Int) (x : Int) (n : Nat) (h : ¬ r.getD n 0 = x) : cntB b r x (n + 1) = cntB b r x n := by
  unfold cntB
  rw [cntN, if_neg h, Int.add_zero]
set_option maxHeartbeats 1000000 in
theorem of_l1 (f o : Int) (l : List (List Int)) (x : Int) (i : Nat) (hi : i < l.length) (hl : l.length ≤ 1000) (hlen : (l.getD i []).length = 16) (hf0 : 0 ≤ f) (hf1 : f ≤ 64) (ho0 : 0 ≤ o) (ho1 : o ≤ 1000)
    (t la no : Int) (st : Int × Int) (ht : 0 ≤ t ∧ t ≤ 16 * 1000) (hla : 0 ≤ la ∧ la ≤ 16 * 1000) (hno : 0 ≤ no ∧ no ≤ 16 * 1000) (hst : 0 ≤ st.1 ∧ st.1 ≤ 16 * 1000) (bn bl : Bool) (hbn : bn = decide (o ≤ (i : Int))) (hbl : bl = decide (¬ o ≤ (i : Int) ∧ o - f ≤ (i : Int))) (res : Int × Int × Int × Int × Int)
    (hq : Ev (fun k => PAcc.dogwatchref32_Of.l0 k f l x o ((i + 1 : Nat) : Int) (t + cntN (l.getD i []) x 16) (la + cntB bl (l.getD i []) x 16) (no + cntB bn (l.getD i []) x 16) (chN (l.getD i []) x st 16).1 (chN (l.getD i []) x st 16).2) res) :
    ∀ d c : Nat, c + d = 16 → Ev (fun k => PAcc.dogwatchref32_Of.l1 k f l x o (i : Int) (c : Int) (t + cntN (l.getD i []) x c) (la + cntB bl (l.getD i []) x c) (no + cntB bn (l.getD i []) x c) (chN (l.getD i []) x st c).1 (chN (l.getD i []) x st c).2) res := by
  intro d
  induction d with
  | zero =>
    intro c hc
    obtain rfl : c = 16 := by omega
    have w1 : wrap64 ((i : Int) + 1) = ((i + 1 : Nat) : Int) := by unfold wrap64; omega
    refine Ev.step (fun k => ?_) hq
    rw [PAcc.dogwatchref32_Of.l1, if_neg (by decide), w1]
  | succ d ih =>
    intro c hc
    have q := ih (c + 1) (by omega)
    have p0 : (c : Int) < 16 := by omega
    have p1 : (i : Int) < (l.length : Int) := by omega
    have p2 : (0 : Int) ≤ (i : Int) := by omega
    have p3 : (0 : Int) ≤ (c : Int) := by omega
    have p4 : (c : Int) < ((l.getD i []).length : Int) := by rw [hlen]; omega
    have r1 := cntN_range (l.getD i []) x c
    have r2 := cntB_range bl (l.getD i []) x c
    have r3 := cntB_range bn (l.getD i []) x c
    have r4 := chN_range (l.getD i []) x st c
    refine Ev.step (fun k => ?_) q
    rw [PAcc.dogwatchref32_Of.l1, if_pos p0, if_pos p2, if_pos p1, if_pos p3, rd_row, if_pos p4, rd_get]
    by_cases h : (l.getD i []).getD c 0 = x
    · have e1 : cntN (l.getD i []) x (c + 1) = cntN (l.getD i []) x c + 1 := by rw [cntN, if_pos h]
      have e2 := cntB_hit bl _ _ _ h
      have e3 := cntB_hit bn _ _ _ h
      have e4 : chN (l.getD i []) x st (c + 1) = (if 0 ≤ (chN (l.getD i []) x st c).2 ∧ (chN (l.getD i []) x st c).2 ≠ (c : Int) then (chN (l.getD i []) x st c).1 + 1 else (chN (l.getD i []) x st c).1, (c : Int)) := by rw [chN, if_pos h]
      rw [if_pos h, e1, e2, e3, e4]
      clear e1 e2 e3 e4 q ih hq
      generalize cntN (l.getD i []) x c = z1 at *
      generalize cntB bl (l.getD i []) x c = z2 at *
      generalize cntB bn (l.getD i []) x c = z3 at *
      generalize chN (l.getD i []) x st c = z4 at *
      obtain ⟨ch, co⟩ := z4
      dsimp only at r4 ⊢
      have w1 : wrap64 ((c : Int) + 1) = ((c + 1 : Nat) : Int) := by unfold wrap64; omega
      have W1 := Aside0.mk w1
      clear w1
      have W2 : Aside0 (wrap64 (t + z1 + 1) = t + (z1 + 1)) := ⟨by unfold wrap64; omega⟩
      have W3 : Aside0 (wrap64 (la + z2 + 1) = la + (z2 + 1)) := ⟨by unfold wrap64; omega⟩
      have W4 : Aside0 (wrap64 (no + z3 + 1) = no + (z3 + 1)) := ⟨by unfold wrap64; omega⟩
      have W5 : Aside0 (wrap64 (ch + 1) = ch + 1) := ⟨by unfold wrap64; omega⟩
      have W6 : Aside0 (wrap64 (o - f) = o - f) := ⟨by unfold wrap64; omega⟩
      rw [W1.out, W2.out, W3.out, W4.out, W5.out, W6.out]
      by_cases h1 : o ≤ (i : Int)
      · rw [decide_eq_true h1] at hbn
        have hbl' : bl = false := by rw [hbl]; exact decide_eq_false (fun q => q.1 h1)
        subst hbn
        subst hbl'
        rw [if_pos h1, if_pos (rfl : true = true), if_neg Bool.false_ne_true, Int.add_zero]
        by_cases h3 : 0 ≤ co
        · rw [if_pos h3]
          by_cases h4 : co = (c : Int)
          · rw [if_pos h4, if_neg (fun q => q.2 h4)]
          · rw [if_neg h4, if_pos ⟨h3, h4⟩]
        · rw [if_neg h3, if_neg (fun q => h3 q.1)]
      · rw [decide_eq_false h1] at hbn
        subst hbn
        rw [if_neg h1]
        by_cases h2 : o - f ≤ (i : Int)
        · have hbl' : bl = true := by rw [hbl]; exact decide_eq_true ⟨h1, h2⟩
          subst hbl'
          rw [if_pos h2, if_pos (rfl : true = true), if_neg Bool.false_ne_true, Int.add_zero]
          by_cases h3 : 0 ≤ co
          · rw [if_pos h3]
            by_cases h4 : co = (c : Int)
            · rw [if_pos h4, if_neg (fun q => q.2 h4)]
            · rw [if_neg h4, if_pos ⟨h3, h4⟩]
          · rw [if_neg h3, if_neg (fun q => h3 q.1)]
        · have hbl' : bl = false := by rw [hbl]; exact decide_eq_false (fun q => h2 q.2)
          subst hbl'
          rw [if_neg h2, if_neg Bool.false_ne_true, Int.add_zero, Int.add_zero]
          by_cases h3 : 0 ≤ co
          · rw [if_pos h3]
            by_cases h4 : co = (c : Int)
            · rw [if_pos h4, if_neg (fun q => q.2 h4)]
            · rw [if_neg h4, if_pos ⟨h3, h4⟩]
          · rw [if_neg h3, if_neg (fun q => h3 q.1)]
    · have e1 : cntN (l.getD i []) x (c + 1) = cntN (l.getD i []) x c := by rw [cntN, if_neg h, Int.add_zero]
      have e2 := cntB_miss bl _ _ _ h
      have e3 := cntB_miss bn _ _ _ h
      have e4 : chN (l.getD i []) x st (c + 1) = chN (l.getD i []) x st c := by rw [chN, if_neg h]
      have w1 : wrap64 ((c : Int) + 1) = ((c + 1 : Nat) : Int) := by unfold wrap64; omega
      rw [if_neg h, e1, e2, e3, e4, w1]
theorem SS_step (l : List (List Int)) (x : Int) (a n : Nat) (h : a ≤ n) : SS l x a (n + 1) = SS l x a n + cntN (l.getD n []) x 16 := by rw [SS, if_pos h]
/-- What the document answers. -/
def ofR (f : Nat) (l : List (List Int)) (a : Nat) (x : Int) : Int × Int × Int × Int × Int :=
  (SS l x a l.length, SS l x (max a (l.length / f * f - f)) (l.length / f * f), SS l x (max a (l.length / f * f)) l.length, (CH l x a l.length).1, (CH l x a l.length).2)
theorem of_ev (f : Nat) (hf : 0 < f) (hf1 : f ≤ 64) (l : List (List Int)) (hl : l.length ≤ 900) (hr : ∀ r ∈ l, rightRow r = true) (a : Nat) (x : Int) : ∀ d i : Nat, i + d = l.length → a ≤ i →
    Ev (fun k => PAcc.dogwatchref32_Of.l0 k (f : Int) l x ((l.length / f * f : Nat) : Int) (i : Int) (SS l x a i) (SS l x (max a (l.length / f * f - f)) (min i (l.length / f * f))) (SS l x (max a (l.length / f * f)) i) (CH l x a i).1 (CH l x a i).2) (ofR f l a x) := by
  have hov := (over_next f l.length hf).2.2
  generalize ho : l.length / f * f = o at *
  intro d
  induction d with
  | zero =>
    intro i hi ha
    obtain rfl : i = l.length := by omega
    refine Ev.step (f := fun _ => some (ofR f l a x)) (fun k => ?_) (Ev.now _)
    rw [PAcc.dogwatchref32_Of.l0, if_neg (by omega), ofR, ho, Nat.min_eq_right hov]
  | succ d ih =>
    intro i hi ha
    have q := ih (i + 1) (by omega) (by omega)
    have hri : rightRow (l.getD i []) = true := hr _ (by rw [List.getD_eq_getElem?_getD, List.getElem?_eq_getElem (by omega)]; exact List.getElem_mem _)
    have hlen : (l.getD i []).length = 16 := (right_at hri).1
    have s1 := SS_range l x a i
    have s2 := SS_range l x (max a (o - f)) (min i o)
    have s3 := SS_range l x (max a o) i
    have s4 := CH_range l x a i
    have p1 : (i : Int) < (l.length : Int) := by omega
    have e1 : SS l x a (i + 1) = SS l x a i + cntN (l.getD i []) x 16 := SS_step l x a i ha
    have e2 : SS l x (max a (o - f)) (min (i + 1) o) = SS l x (max a (o - f)) (min i o) + cntB (decide (¬ (o : Int) ≤ (i : Int) ∧ (o : Int) - (f : Int) ≤ (i : Int))) (l.getD i []) x 16 := by
      unfold cntB
      by_cases h1 : o ≤ i
      · rw [if_neg (by simp; omega), Nat.min_eq_right (by omega), Nat.min_eq_right h1, Int.add_zero]
      · rw [Nat.min_eq_left (by omega), Nat.min_eq_left (by omega)]
        by_cases h2 : o - f ≤ i
        · rw [if_pos (by simp; omega), SS_step _ _ _ _ (by omega)]
        · rw [if_neg (by simp; omega), Int.add_zero, SS, if_neg (by omega), Int.add_zero]
    have e3 : SS l x (max a o) (i + 1) = SS l x (max a o) i + cntB (decide ((o : Int) ≤ (i : Int))) (l.getD i []) x 16 := by
      unfold cntB
      by_cases h1 : o ≤ i
      · rw [if_pos (by simp; omega), SS_step _ _ _ _ (by omega)]
      · rw [if_neg (by simp; omega), SS, if_neg (by omega)]
    have e4 : CH l x a (i + 1) = chN (l.getD i []) x (CH l x a i) 16 := by rw [CH, if_pos ha]
    rw [e1, e2, e3, e4] at q
    have q2 := of_l1 (f : Int) (o : Int) l x i (by omega) (by omega) hlen (by omega) (by omega) (by omega) (by omega) (SS l x a i) (SS l x (max a (o - f)) (min i o)) (SS l x (max a o) i) (CH l x a i) (by omega) (by omega) (by omega) (by omega) _ _ rfl rfl (ofR f l a x) q 16 0 rfl
    refine Ev.step (fun k => ?_) q2
    rw [PAcc.dogwatchref32_Of.l0, if_pos p1]
    simp [cntN, cntB, chN]
theorem of_some (f : Nat) (hf : 0 < f) (hf1 : f ≤ 64) (l : List (List Int)) (hl : l.length ≤ 900) (hr : ∀ r ∈ l, rightRow r = true) (a : Nat) (ha : a ≤ l.length) (x : Int) : ∃ k, PAcc.dogwatchref32_Of.f k (f : Int) l (a : Int) x = some (ofR f l a x) := by
  have hov := (over_next f l.length hf).2.2
  have hdv : l.length / f ≤ l.length := Nat.div_le_self _ _
  have w1 : wrap64 ((l.length : Int) / (f : Int)) = ((l.length / f : Nat) : Int) := by
    rw [← Int.natCast_ediv]
    clear hov
    generalize l.length / f = y at *
    unfold wrap64
    omega
  have w2 : wrap64 (((l.length / f : Nat) : Int) * (f : Int)) = ((l.length / f * f : Nat) : Int) := by
    rw [← Int.natCast_mul]
    unfold wrap64
    omega
  have q := (of_ev f hf hf1 l hl hr a x (l.length - a) a (by omega) (Nat.le_refl _)).rounds
  rw [SS_zero l x a a (Nat.le_refl _), SS_zero l x _ (min a (l.length / f * f)) (by omega), SS_zero l x (max a (l.length / f * f)) a (by omega), CH_zero l x a a (Nat.le_refl _)] at q
  obtain ⟨k, hk⟩ := q
  refine ⟨k, ?_⟩
  rw [PAcc.dogwatchref32_Of.f, if_neg (by omega), w1, w2]
  exact hk
end Go.Proofs.Ytgfkcmmhnibaiaa.Ac
