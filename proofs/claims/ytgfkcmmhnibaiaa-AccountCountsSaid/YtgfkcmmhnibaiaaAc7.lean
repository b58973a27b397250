/- What an account holds behind any rows (for AccountAll): plain. -/
import Derived.Test.YtgfkcmmhnibaiaaAc4
namespace Go.Proofs.Ytgfkcmmhnibaiaa.Ac
open Go.RowKit Go.Proofs.YtgfkcmmhnibaiaaW.PrintWords Go.Proofs.YtgfkcmmhnibaiaaW.PrintLast Go.Proofs.YtgfkcmmhnibaiaaW.PrintMore Pt
set_option linter.unusedVariables false
set_option linter.unusedSimpArgs false
def sumR (f : Nat → Int) : Nat → Int
  | 0 => 0
  | n + 1 => sumR f n + f n
theorem sumR_congr {f g : Nat → Int} (n : Nat) (h : ∀ i, i < n → f i = g i) : sumR f n = sumR g n := by
  induction n with
  | zero => rfl
  | succ n ih => rw [sumR, sumR, ih (fun i hi => h i (by omega)), h n (by omega)]
theorem sumR_upd {f g : Nat → Int} (n k : Nat) (hk : k < n) (h : ∀ i, i < n → i ≠ k → g i = f i) : sumR g n = sumR f n + (g k - f k) := by
  induction n with
  | zero => omega
  | succ n ih =>
    rw [sumR, sumR]
    by_cases e : k = n
    · subst e
      rw [sumR_congr k (f := g) (g := f) (fun i hi => h i (by omega) (by omega))]
      omega
    · rw [ih (by omega) (fun i hi hne => h i (by omega) hne), h n (by omega) (fun q => e q.symm)]
      omega
theorem sumR_le {f g : Nat → Int} (n : Nat) (h : ∀ i, i < n → f i ≤ g i) : sumR f n ≤ sumR g n := by
  induction n with
  | zero => exact Int.le_refl _
  | succ n ih =>
    rw [sumR, sumR]
    have := ih (fun i hi => h i (by omega))
    have := h n (by omega)
    omega
theorem sumR_const (c : Int) (n : Nat) : sumR (fun _ => c) n = c * n := by
  induction n with
  | zero => simp [sumR]
  | succ n ih =>
    rw [sumR, ih, Int.natCast_succ, Int.mul_add]
    omega
theorem sumR_zero {f : Nat → Int} (n : Nat) (h : ∀ i, i < n → f i = 0) : sumR f n = 0 := by
  rw [sumR_congr n h, sumR_const, Int.zero_mul]
theorem sumR_ge {f : Nat → Int} (n k : Nat) (hk : k < n) (h : ∀ i, i < n → 0 ≤ f i) : f k ≤ sumR f n := by
  have h2 := sumR_upd (f := fun i => if i = k then 0 else f i) (g := f) n k hk (fun i _ hne => by simp [hne])
  have h3 := sumR_le (f := fun _ => 0) (g := fun i => if i = k then 0 else f i) n (fun i hi => by
    split
    · exact Int.le_refl _
    · exact h i hi)
  rw [sumR_const, Int.zero_mul] at h3
  simp at h2
  omega
theorem sumR_mono {f : Nat → Int} (h : ∀ i, 0 ≤ f i) (m n : Nat) (hmn : m ≤ n) : 0 ≤ sumR f m ∧ sumR f m ≤ sumR f n := by
  constructor
  · have := sumR_le (f := fun _ => 0) (g := f) m (fun i _ => h i)
    rw [sumR_const, Int.zero_mul] at this
    exact this
  · induction n with
    | zero =>
      obtain rfl : m = 0 := by omega
      exact Int.le_refl _
    | succ n ih =>
      by_cases e : m = n + 1
      · subst e
        exact Int.le_refl _
      · have := ih (by omega)
        have := h n
        rw [sumR]
        omega
def CoreOk (c : Cr) (n : Int) : Prop := 0 ≤ c.busy ∧ 0 ≤ c.idle ∧ 0 ≤ c.changes ∧ c.busy + c.idle = n ∧ ((c.busy = 0 ∧ c.changes = 0 ∧ c.task = 0) ∨ (0 < c.busy ∧ c.changes < c.busy ∧ c.task ≠ 0))
def TaskOk (t : Tk) : Prop := 0 < t.ticks ∧ 0 ≤ t.changes ∧ t.changes < t.ticks ∧ 0 ≤ t.last ∧ 0 ≤ t.now ∧ t.last + t.now ≤ t.ticks ∧ 0 ≤ t.core
def busyAt (s : Ac) (j : Nat) : Int := (s.C.getD j ⟨0, 0, 0, 0⟩).busy
def ticksAt (s : Ac) (x : Nat) : Int := ((s.M (x : Int)).map (·.ticks)).getD 0
structure InvJ (s : Ac) (n j : Nat) : Prop where
  ticks : s.ticks = (n : Int)
  len : s.C.length = 16
  core : ∀ i, i < 16 → CoreOk (s.C.getD i ⟨0, 0, 0, 0⟩) ((n : Int) + if i < j then 1 else 0)
  task : ∀ x t, s.M x = some t → TaskOk t
  dom : ∀ x, s.M x ≠ none → 1 ≤ x ∧ x ≤ 200
  sum : sumR (busyAt s) 16 = sumR (ticksAt s) 201
  few : n ≤ 1000
theorem ticksAt_pos {s : Ac} {n j : Nat} (h : InvJ s n j) (x : Nat) : 0 ≤ ticksAt s x := by
  unfold ticksAt
  cases hm : s.M (x : Int) with
  | none => simp
  | some t =>
    have := (h.task _ _ hm).1
    simp
    omega
theorem InvJ.tbound {s : Ac} {n j : Nat} (h : InvJ s n j) {x : Int} {t : Tk} (hm : s.M x = some t) : t.ticks ≤ 16016 := by
  have hd := h.dom x (by rw [hm]; simp)
  have h1 := sumR_ge (f := ticksAt s) 201 x.toNat (by omega) (fun i _ => ticksAt_pos h i)
  have h2 : ticksAt s x.toNat = t.ticks := by
    unfold ticksAt
    rw [Int.toNat_of_nonneg (by omega), hm]
    rfl
  have h3 := sumR_le (f := busyAt s) (g := fun _ => 1001) 16 (fun i hi => by
    have := h.core i hi
    unfold CoreOk at this
    unfold busyAt
    have hf := h.few
    split at this <;> omega)
  rw [sumR_const] at h3
  have := h.sum
  omega
theorem InvJ.total {s : Ac} {n j : Nat} (h : InvJ s n j) : sumR (ticksAt s) 201 ≤ 16016 := by
  have h3 := sumR_le (f := busyAt s) (g := fun _ => 1001) 16 (fun i hi => by
    have := h.core i hi
    unfold CoreOk at this
    unfold busyAt
    have hf := h.few
    split at this <;> omega)
  rw [sumR_const] at h3
  have := h.sum
  omega
theorem InvJ.step {s : Ac} {n j : Nat} (h : InvJ s n j) (hj : j < 16) {id : Int} (h0 : 0 ≤ id) (h1 : id ≤ 200) : InvJ (stepF s j id) n (j + 1) := by
  have hcj := h.core j hj
  have hf := h.few
  rw [if_neg (by omega), Int.add_zero] at hcj
  have hC : ∀ c : Cr, CoreOk c ((n : Int) + 1) → ∀ i, i < 16 → CoreOk ((s.C.set j c).getD i ⟨0, 0, 0, 0⟩) ((n : Int) + if i < j + 1 then 1 else 0) := by
    intro c hc i hi
    by_cases e : i = j
    · subst e
      have : (s.C.set i c).getD i ⟨0, 0, 0, 0⟩ = c := by simp [List.getD_eq_getElem?_getD, h.len, hi]
      rw [this, if_pos (by omega)]
      exact hc
    · have : (s.C.set j c).getD i ⟨0, 0, 0, 0⟩ = s.C.getD i ⟨0, 0, 0, 0⟩ := by
        simp only [List.getD_eq_getElem?_getD]
        rw [List.getElem?_set_ne (fun q => e q.symm)]
      rw [this]
      have := h.core i hi
      by_cases hij : i < j
      · rw [if_pos hij] at this
        rw [if_pos (by omega)]
        exact this
      · rw [if_neg hij] at this
        rw [if_neg (by omega)]
        exact this
  unfold stepF
  generalize hcr : s.C.getD j ⟨0, 0, 0, 0⟩ = c at *
  have hB : ∀ c' : Cr, sumR (fun i => ((s.C.set j c').getD i ⟨0, 0, 0, 0⟩).busy) 16 = sumR (busyAt s) 16 + (c'.busy - c.busy) := by
    intro c'
    rw [sumR_upd (f := busyAt s) (g := fun i => ((s.C.set j c').getD i ⟨0, 0, 0, 0⟩).busy) 16 j hj (fun i hi hne => by
      unfold busyAt
      simp only [List.getD_eq_getElem?_getD]
      rw [List.getElem?_set_ne (fun q => hne q.symm)])]
    have e1 : ((s.C.set j c').getD j ⟨0, 0, 0, 0⟩) = c' := by simp [List.getD_eq_getElem?_getD, h.len, hj]
    have e2 : busyAt s j = c.busy := by unfold busyAt; rw [hcr]
    rw [e1, e2]
  by_cases hz : id = 0
  · have hw : wrap64 (c.idle + 1) = c.idle + 1 := by unfold CoreOk at hcj; unfold wrap64; omega
    have hcf : coreF c id = { c with idle := c.idle + 1 } := by unfold coreF; rw [if_pos hz, hw]
    dsimp only
    rw [if_pos hz, hcf]
    refine ⟨h.ticks, by simp [h.len], hC _ ?_, h.task, h.dom, ?_, h.few⟩
    · unfold CoreOk at hcj ⊢
      dsimp only
      omega
    · have := hB { c with idle := c.idle + 1 }
      show sumR (fun i => ((s.C.set j { c with idle := c.idle + 1 }).getD i ⟨0, 0, 0, 0⟩).busy) 16 = sumR (ticksAt s) 201
      rw [this, h.sum]
      dsimp only
      omega
  · have hw : wrap64 (c.busy + 1) = c.busy + 1 := by unfold CoreOk at hcj; unfold wrap64; omega
    have hw2 : wrap64 (c.changes + 1) = c.changes + 1 := by unfold CoreOk at hcj; unfold wrap64; omega
    have hcf : coreF c id = { c with busy := c.busy + 1, changes := if c.task ≠ 0 ∧ c.task ≠ id then c.changes + 1 else c.changes, task := id } := by unfold coreF; rw [if_neg hz, hw, hw2]
    dsimp only
    rw [if_neg hz, hcf]
    have hT : TaskOk (taskF (s.M id) (j : Int)) ∧ (taskF (s.M id) (j : Int)).ticks = ((s.M id).map (·.ticks)).getD 0 + 1 := by
      cases hm : s.M id with
      | none =>
        have e : taskF none (j : Int) = ⟨1, 0, 1, 0, j⟩ := by simp [taskF, tk0, wrap64]
        rw [e]
        exact ⟨⟨(by omega : (0 : Int) < 1), Int.le_refl 0, (by omega : (0 : Int) < 1), Int.le_refl 0, (by omega : (0 : Int) ≤ 1), (by omega : (0 : Int) + 1 ≤ 1), Int.natCast_nonneg _⟩, rfl⟩
      | some t =>
        have ht := h.task _ _ hm
        have hb := h.tbound hm
        unfold TaskOk at ht
        have w1 : wrap64 (t.ticks + 1) = t.ticks + 1 := by unfold wrap64; omega
        have w2 : wrap64 (t.now + 1) = t.now + 1 := by unfold wrap64; omega
        have w3 : wrap64 (t.changes + 1) = t.changes + 1 := by unfold wrap64; omega
        have e : taskF (some t) (j : Int) = ⟨t.ticks + 1, t.last, t.now + 1, if t.core ≠ (j : Int) then t.changes + 1 else t.changes, j⟩ := by simp [taskF, w1, w2, w3]
        rw [e]
        refine ⟨?_, rfl⟩
        unfold TaskOk
        dsimp only
        split <;> omega
    refine ⟨h.ticks, by simp [h.len], hC _ ?_, ?_, ?_, ?_, h.few⟩
    · unfold CoreOk at hcj ⊢
      dsimp only
      split <;> omega
    · intro x t hx
      dsimp only [upd] at hx
      by_cases e : x = id
      · subst e
        rw [if_pos rfl] at hx
        cases hx
        exact hT.1
      · rw [if_neg e] at hx
        exact h.task x t hx
    · intro x hx
      dsimp only [upd] at hx
      by_cases e : x = id
      · subst e
        omega
      · rw [if_neg e] at hx
        exact h.dom x hx
    · have hb := hB { c with busy := c.busy + 1, changes := if c.task ≠ 0 ∧ c.task ≠ id then c.changes + 1 else c.changes, task := id }
      have ht := sumR_upd (f := ticksAt s) (g := fun x => ((upd s.M id (some (taskF (s.M id) (j : Int))) (x : Int)).map (·.ticks)).getD 0) 201 id.toNat (by omega) (fun i hi hne => by
        unfold ticksAt upd
        rw [if_neg (by omega)])
      have e1 : ((upd s.M id (some (taskF (s.M id) (j : Int))) ((id.toNat : Nat) : Int)).map (·.ticks)).getD 0 = ((s.M id).map (·.ticks)).getD 0 + 1 := by
        rw [Int.toNat_of_nonneg h0]
        unfold upd
        rw [if_pos rfl]
        exact hT.2
      have e2 : ticksAt s id.toNat = ((s.M id).map (·.ticks)).getD 0 := by unfold ticksAt; rw [Int.toNat_of_nonneg h0]
      show sumR (fun i => ((s.C.set j _).getD i ⟨0, 0, 0, 0⟩).busy) 16 = sumR (fun x : Nat => ((upd s.M id (some (taskF (s.M id) (j : Int))) (x : Int)).map (·.ticks)).getD 0) 201
      rw [hb, ht, e1, e2, h.sum]
      dsimp only
      omega
theorem InvJ.row {s : Ac} {n : Nat} (h : InvJ s n 0) {l : List Int} (hl : ∀ i : Nat, i < 16 → 0 ≤ rd l (i : Int) ∧ rd l (i : Int) ≤ 200) : ∀ k, k ≤ 16 → InvJ (rowF s l k) n k := by
  intro k
  induction k with
  | zero => intro _; exact h
  | succ k ih =>
    intro hk
    rw [rowF_succ]
    have e : l.getD k 0 = rd l (k : Int) := by simp [rd]
    rw [e]
    exact (ih (by omega)).step (by omega) (hl k (by omega)).1 (hl k (by omega)).2
theorem InvJ.add {s : Ac} {n : Nat} (h : InvJ s n 0) (hn : n < 1000) {l : List Int} (hr : rightRow l = true) : InvJ (addF s l) (n + 1) 0 := by
  have q := h.row (right_at hr).2.2 16 (Nat.le_refl _)
  unfold addF
  generalize rowF s l 16 = x at *
  have hx : InvJ { x with ticks := x.ticks + 1 } (n + 1) 0 := ⟨by show x.ticks + 1 = _; rw [q.ticks]; omega, q.len, fun i hi => by
    have := q.core i hi
    rw [if_pos hi] at this
    rw [if_neg (by omega), Int.add_zero, Int.natCast_succ]
    exact this, q.task, q.dom, q.sum, by omega⟩
  dsimp only
  split
  · refine ⟨hx.ticks, hx.len, hx.core, ?_, ?_, ?_, hx.few⟩
    · intro y t hy
      dsimp only [overN] at hy
      split at hy
      · cases hm : x.M y with
        | none => rw [hm] at hy; cases hy
        | some u =>
          rw [hm] at hy
          cases hy
          have hu := q.task _ _ hm
          unfold TaskOk at hu ⊢
          dsimp only [turnT]
          omega
      · exact q.task _ _ hy
    · intro y hy
      refine q.dom y (fun hn => hy ?_)
      dsimp only [overN]
      rw [hn]
      simp
    · have e : ∀ i, i < 201 → ticksAt x i = ticksAt { x with ticks := x.ticks + 1, M := overN 201 x.M } i := by
        intro i hi
        unfold ticksAt overN
        dsimp only
        rw [if_pos (by omega)]
        cases x.M (i : Int) <;> rfl
      exact q.sum.trans (sumR_congr 201 e)
  · exact hx
theorem InvJ.new (f : Int) : InvJ (newA f) 0 0 := by
  refine ⟨rfl, rfl, ?_, ?_, ?_, ?_, by omega⟩
  · intro i hi
    rw [if_neg (by omega)]
    have e : (newA f).C.getD i ⟨0, 0, 0, 0⟩ = ⟨0, 0, 0, 0⟩ := by
      simp only [newA, List.getD_eq_getElem?_getD, List.getElem?_replicate]
      split <;> rfl
    rw [e]
    exact ⟨by decide, by decide, by decide, by decide, .inl ⟨rfl, rfl, rfl⟩⟩
  · intro x t hx
    cases hx
  · intro x hx
    exact absurd rfl hx
  · have h2 : ∀ i, i < 201 → ticksAt (newA f) i = 0 := fun i _ => rfl
    rw [sumR_zero 201 h2]
    refine sumR_zero 16 (fun i hi => ?_)
    unfold busyAt
    have e : (newA f).C.getD i ⟨0, 0, 0, 0⟩ = ⟨0, 0, 0, 0⟩ := by
      simp only [newA, List.getD_eq_getElem?_getD, List.getElem?_replicate]
      split <;> rfl
    rw [e]
end Go.Proofs.Ytgfkcmmhnibaiaa.Ac
