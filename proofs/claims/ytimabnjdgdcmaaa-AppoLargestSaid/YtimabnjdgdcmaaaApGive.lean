/- Plain: giving one by one. -/
import Derived.Test.YtimabnjdgdcmaaaApNext
namespace Go.Proofs.Ytimabnjdgdcmaaa.Pure
open Go.RowKit Go.Proofs.Ytimabnjdgdcmaaa.PApp Go.Proofs.YtimabnjdgdcmaaaW.PrintWords Go.Proofs.YtimabnjdgdcmaaaW.PrintLast
set_option linter.unusedVariables false
set_option linter.unusedSimpArgs false
theorem prodB (a w : Int) (h0 : 0 ≤ a) (h1 : a < 549755813888) (w0 : 0 ≤ w) (w1 : w ≤ 1000) : wrap64 (wrap64 (a + 1) * w) = (a + 1) * w := by
  rw [wId (a + 1) (by omega) (by omega)]
  have p0 : 0 ≤ (a + 1) * w := Int.mul_nonneg (by omega) w0
  have p1 : (a + 1) * w ≤ 549755813888 * 1000 := Int.mul_le_mul (by omega) w1 w0 (by omega)
  exact wId _ (by omega) (by omega)
/-- Weights and what each has: in their ranges. -/
structure Gs (w h : List Int) (B : Int) : Prop where
  len : h.length = w.length
  w0 : ∀ i, 0 ≤ w.getD i 0 ∧ w.getD i 0 ≤ 1000
  h0 : ∀ i, 0 ≤ h.getD i 0 ∧ h.getD i 0 ≤ B
def MinP (w h : List Int) (j : Nat) (best : Option Nat) : Prop :=
  (best = none → ∀ i, i < j → w.getD i 0 < 1) ∧
  (∀ b, best = some b → b < j ∧ 1 ≤ w.getD b 0 ∧ ∀ i, i < j → 1 ≤ w.getD i 0 → (h.getD b 0 + 1) * w.getD i 0 ≤ (h.getD i 0 + 1) * w.getD b 0)
theorem ratio (p q r s t u : Int) (h1 : p * s < r * q) (h2 : r * u ≤ t * s) (hs : 0 < s) (hq : 0 ≤ q) (hu : 0 ≤ u) (hp : 0 ≤ p) : p * u ≤ t * q := by
  -- p/q < r/s ≤ t/u
  refine Int.le_of_mul_le_mul_right (?_ : p * u * s ≤ t * q * s) hs
  have a1 : p * s * u ≤ r * q * u := Int.mul_le_mul_of_nonneg_right (Int.le_of_lt h1) hu
  have a2 : r * u * q ≤ t * s * q := Int.mul_le_mul_of_nonneg_right h2 hq
  have e1 : p * u * s = p * s * u := by rw [Int.mul_assoc, Int.mul_comm u s, ← Int.mul_assoc]
  have e2 : r * q * u = r * u * q := by rw [Int.mul_assoc, Int.mul_comm q u, ← Int.mul_assoc]
  have e3 : t * q * s = t * s * q := by rw [Int.mul_assoc, Int.mul_comm q s, ← Int.mul_assoc]
  rw [e1, e3]
  exact Int.le_trans a1 (by rw [e2]; exact a2)
theorem minP_step {w h : List Int} {B : Int} (G : Gs w h B) (hB : B < 549755813888) {j : Nat} {best : Option Nat} (hP : MinP w h j best) : MinP w h (j + 1) (stepN w h best j) := by
  have hw := G.w0 j
  have hh := G.h0 j
  unfold stepN
  by_cases h1 : w.getD j 0 < 1
  · rw [if_pos (skipT _ _ (Or.inl h1))]
    refine ⟨fun e i hi => ?_, fun b e => ?_⟩
    · rcases Nat.lt_or_eq_of_le (Nat.le_of_lt_succ hi) with hi | rfl
      · exact hP.1 e i hi
      · exact h1
    · obtain ⟨a1, a2, a3⟩ := hP.2 b e
      refine ⟨by omega, a2, fun i hi hwi => ?_⟩
      rcases Nat.lt_or_eq_of_le (Nat.le_of_lt_succ hi) with hi | rfl
      · exact a3 i hi hwi
      · omega
  · rw [if_neg (by rw [skipF _ _ (by omega)]; decide)]
    cases best with
    | none =>
      refine ⟨fun e => (by cases e), fun b e => ?_⟩
      cases e
      refine ⟨by omega, by omega, fun i hi hwi => ?_⟩
      rcases Nat.lt_or_eq_of_le (Nat.le_of_lt_succ hi) with hi | rfl
      · have := hP.1 rfl i hi; omega
      · exact Int.le_refl _
    | some b =>
      obtain ⟨a1, a2, a3⟩ := hP.2 b rfl
      have hwb := G.w0 b
      have hhb := G.h0 b
      dsimp only
      unfold aheadB
      rw [prodB _ _ hh.1 (by omega) hwb.1 hwb.2, prodB _ _ hhb.1 (by omega) hw.1 hw.2]
      by_cases ha : (h.getD j 0 + 1) * w.getD b 0 < (h.getD b 0 + 1) * w.getD j 0
      · rw [if_pos (decide_eq_true ha)]
        refine ⟨fun e => (by cases e), fun b' e => ?_⟩
        cases e
        refine ⟨by omega, by omega, fun i hi hwi => ?_⟩
        rcases Nat.lt_or_eq_of_le (Nat.le_of_lt_succ hi) with hi | rfl
        · exact ratio _ _ _ _ _ _ ha (a3 i hi hwi) (by omega) (by omega) (by omega) (by omega)
        · exact Int.le_refl _
      · rw [if_neg (by rw [decide_eq_false ha]; decide)]
        refine ⟨fun e => (by cases e), fun b' e => ?_⟩
        cases e
        refine ⟨by omega, a2, fun i hi hwi => ?_⟩
        rcases Nat.lt_or_eq_of_le (Nat.le_of_lt_succ hi) with hi | rfl
        · exact a3 i hi hwi
        · omega
theorem minP_all {w h : List Int} {B : Int} (G : Gs w h B) (hB : B < 549755813888) : ∀ (n j : Nat) (best : Option Nat), MinP w h j best → MinP w h (j + n) (nxF w h j n best) := by
  intro n
  induction n with
  | zero => intro j best hP; exact hP
  | succ n ih =>
    intro j best hP
    rw [nxF_succ]
    have := ih (j + 1) _ (minP_step G hB hP)
    rw [show j + 1 + n = j + (n + 1) by omega] at this
    exact this
theorem nextO_min {w h : List Int} {B : Int} (G : Gs w h B) (hB : B < 549755813888) (hp : ∃ i, i < w.length ∧ 1 ≤ w.getD i 0) :
    ∃ b, nextO w h = some b ∧ b < w.length ∧ 1 ≤ w.getD b 0 ∧ ∀ i, i < w.length → 1 ≤ w.getD i 0 → (h.getD b 0 + 1) * w.getD i 0 ≤ (h.getD i 0 + 1) * w.getD b 0 := by
  have hP := minP_all G hB w.length 0 none ⟨fun _ i hi => by omega, fun b e => by cases e⟩
  rw [Nat.zero_add] at hP
  have e : nextO w h = nxF w h 0 w.length none := by unfold nextO; rw [G.len, Nat.min_self]
  rw [e]
  cases hn : nxF w h 0 w.length none with
  | none =>
    obtain ⟨i, hi, hwi⟩ := hp
    have := hP.1 hn i hi
    omega
  | some b => exact ⟨b, rfl, hP.2 b hn⟩
def bumpN (h : List Int) (b : Nat) : List Int := h.set b (h.getD b 0 + 1)
def nxt (w h : List Int) : Nat := (nextO w h).getD 0
def give (w : List Int) : Nat → List Int → List Int
  | 0, h => h
  | m + 1, h => give w m (bumpN h (nxt w h))
theorem give_add (w : List Int) : ∀ (a b : Nat) (h : List Int), give w (a + b) h = give w b (give w a h)
  | 0, b, h => by rw [Nat.zero_add]; rfl
  | a + 1, b, h => by rw [show a + 1 + b = (a + b) + 1 by omega]; exact give_add w a b _
theorem give_succ (w : List Int) (a : Nat) (h : List Int) : give w (a + 1) h = bumpN (give w a h) (nxt w (give w a h)) := give_add w a 1 h
theorem bumpN_get (h : List Int) (b i : Nat) (hb : b < h.length) : (bumpN h b).getD i 0 = if i = b then h.getD b 0 + 1 else h.getD i 0 := by
  unfold bumpN
  rw [List.getD_eq_getElem?_getD, List.getElem?_set]
  by_cases e : b = i
  · subst e; rw [if_pos rfl, if_pos hb, if_pos rfl]; rfl
  · rw [if_neg e, if_neg (fun x => e x.symm), List.getD_eq_getElem?_getD]
theorem bumpN_length (h : List Int) (b : Nat) : (bumpN h b).length = h.length := by unfold bumpN; exact List.length_set
theorem sum_set : ∀ (h : List Int) (b : Nat) (x : Int), b < h.length → (h.set b x).sum = h.sum - h.getD b 0 + x
  | [], b, x, hb => by simp at hb
  | y :: t, 0, x, hb => by simp [List.sum_cons]; omega
  | y :: t, b + 1, x, hb => by
    have := sum_set t b x (by simpa using hb)
    simp only [List.set_cons_succ, List.sum_cons, List.getD_cons_succ, this]
    omega
theorem bumpN_sum (h : List Int) (b : Nat) (hb : b < h.length) : (bumpN h b).sum = h.sum + 1 := by
  unfold bumpN
  rw [sum_set h b _ hb]; omega
theorem Gs.bump {w h : List Int} {B : Int} (G : Gs w h B) (b : Nat) (hb : b < h.length) : Gs w (bumpN h b) (B + 1) :=
  ⟨by rw [bumpN_length]; exact G.len, G.w0, fun i => by
    rw [bumpN_get h b i hb]
    split
    · have := G.h0 b; omega
    · have := G.h0 i; omega⟩
theorem nxt_of {w h : List Int} {b : Nat} (e : nextO w h = some b) : nxt w h = b := by unfold nxt; rw [e]; rfl
theorem Gs.give {w : List Int} (hp : ∃ i, i < w.length ∧ 1 ≤ w.getD i 0) : ∀ (m : Nat) (h : List Int) (B : Int), Gs w h B → B + m < 549755813888 → Gs w (give w m h) (B + m)
  | 0, h, B, G, hB => by simpa [Pure.give] using G
  | m + 1, h, B, G, hB => by
    obtain ⟨b, e, hb, _⟩ := nextO_min G (by omega) hp
    have := Gs.give hp m (bumpN h (nxt w h)) (B + 1) (G.bump _ (by rw [nxt_of e, G.len]; exact hb)) (by omega)
    rw [show B + 1 + (m : Int) = B + ((m + 1 : Nat) : Int) by omega] at this
    exact this
theorem give_sum {w : List Int} (hp : ∃ i, i < w.length ∧ 1 ≤ w.getD i 0) : ∀ (m : Nat) (h : List Int) (B : Int), Gs w h B → B + m < 549755813888 → (give w m h).sum = h.sum + m
  | 0, h, B, G, hB => by simp [Pure.give]
  | m + 1, h, B, G, hB => by
    obtain ⟨b, e, hb, _⟩ := nextO_min G (by omega) hp
    have hb' : nxt w h < h.length := by rw [nxt_of e, G.len]; exact hb
    have := give_sum hp m (bumpN h (nxt w h)) (B + 1) (G.bump _ hb') (by omega)
    rw [bumpN_sum h _ hb'] at this
    show (give w m (bumpN h (nxt w h))).sum = _
    rw [this]; omega
theorem give_zero {w : List Int} (hp : ∃ i, i < w.length ∧ 1 ≤ w.getD i 0) : ∀ (m : Nat) (h : List Int) (B : Int), Gs w h B → B + m < 549755813888 → (∀ i, w.getD i 0 = 0 → h.getD i 0 = 0) → ∀ i, w.getD i 0 = 0 → (give w m h).getD i 0 = 0
  | 0, h, B, G, hB, hz => hz
  | m + 1, h, B, G, hB, hz => by
    obtain ⟨b, e, hb, hw1, _⟩ := nextO_min G (by omega) hp
    have hb' : nxt w h < h.length := by rw [nxt_of e, G.len]; exact hb
    refine give_zero hp m (bumpN h (nxt w h)) (B + 1) (G.bump _ hb') (by omega) (fun i hi => ?_)
    rw [bumpN_get h _ i hb', nxt_of e]
    split
    · rename_i ei; subst ei; omega
    · exact hz i hi
theorem sum_le : ∀ (h q : List Int), h.length = q.length → (∀ i, h.getD i 0 ≤ q.getD i 0) → h.sum ≤ q.sum
  | [], [], _, _ => Int.le_refl _
  | [], _ :: _, hl, _ => by simp at hl
  | _ :: _, [], hl, _ => by simp at hl
  | x :: t, y :: u, hl, hle => by
    have h0 := hle 0
    have := sum_le t u (by simpa using hl) (fun i => hle (i + 1))
    simp only [List.getD_cons_zero] at h0
    simp only [List.sum_cons]
    omega
theorem eq_of_sum : ∀ (h q : List Int), h.length = q.length → (∀ i, h.getD i 0 ≤ q.getD i 0) → h.sum = q.sum → h = q
  | [], [], _, _, _ => rfl
  | [], _ :: _, hl, _, _ => by simp at hl
  | _ :: _, [], hl, _, _ => by simp at hl
  | x :: t, y :: u, hl, hle, hs => by
    have h0 := hle 0
    have h1 := sum_le t u (by simpa using hl) (fun i => hle (i + 1))
    simp only [List.getD_cons_zero] at h0
    simp only [List.sum_cons] at hs
    rw [eq_of_sum t u (by simpa using hl) (fun i => hle (i + 1)) (by omega), show x = y by omega]
def quo (n all x : Int) : Int := n * x / all
def quoL (n all : Int) (w : List Int) : List Int := w.map (quo n all)
theorem quoL_get (n all : Int) (w : List Int) (i : Nat) : (quoL n all w).getD i 0 = quo n all (w.getD i 0) := by
  unfold quoL
  rw [List.getD_eq_getElem?_getD, List.getD_eq_getElem?_getD, List.getElem?_map]
  cases w[i]? with
  | none => simp [quo]
  | some x => rfl
/-- Who gives one by one gives just the quotas, rounded down, first. -/
theorem give_quo {w : List Int} {n all : Int} (hn : 0 ≤ n) (ha : 0 < all) (hp : ∃ i, i < w.length ∧ 1 ≤ w.getD i 0) : ∀ (m : Nat) (h : List Int) (B : Int), Gs w h B → B + m < 549755813888 →
    (∀ i, h.getD i 0 ≤ (quoL n all w).getD i 0) → h.sum + m = (quoL n all w).sum → give w m h = quoL n all w
  | 0, h, B, G, hB, hle, hs => by
    show h = _
    exact eq_of_sum _ _ (by rw [G.len]; unfold quoL; rw [List.length_map]) hle (by simpa using hs)
  | m + 1, h, B, G, hB, hle, hs => by
    obtain ⟨b, e, hb, hw1, hmin⟩ := nextO_min G (by omega) hp
    have hb' : nxt w h < h.length := by rw [nxt_of e, G.len]; exact hb
    refine give_quo hn ha hp m (bumpN h (nxt w h)) (B + 1) (G.bump _ hb') (by omega) ?_ (by rw [bumpN_sum h _ hb']; omega)
    intro i
    rw [bumpN_get h _ i hb', nxt_of e]
    split
    · rename_i ei; subst ei
      -- somebody has less than its quota
      have hex : ∃ j, h.getD j 0 < (quoL n all w).getD j 0 := by
        apply Classical.byContradiction
        intro hno
        have := sum_le (quoL n all w) h (by rw [G.len]; unfold quoL; rw [List.length_map]) (fun j => by
          have h1 : ¬ h.getD j 0 < (quoL n all w).getD j 0 := fun x => hno ⟨j, x⟩
          omega)
        omega
      obtain ⟨j, hj⟩ := hex
      rw [quoL_get] at hj ⊢
      have hwj := G.w0 j
      have hjl : j < w.length := by
        apply Classical.byContradiction
        intro hno
        have e0 : w.getD j 0 = 0 := by rw [List.getD_eq_getElem?_getD, List.getElem?_eq_none (by omega)]; rfl
        rw [e0, show quo n all 0 = 0 by simp [quo]] at hj
        have := G.h0 j
        omega
      have hwj1 : 1 ≤ w.getD j 0 := by
        apply Classical.byContradiction
        intro hno
        have e0 : w.getD j 0 = 0 := by omega
        rw [e0, show quo n all 0 = 0 by simp [quo]] at hj
        have := G.h0 j
        omega
      have hm := hmin j hjl hwj1
      have k1 : (h.getD j 0 + 1) * all ≤ n * w.getD j 0 := (Int.le_ediv_iff_mul_le ha).mp hj
      refine (Int.le_ediv_iff_mul_le ha).mpr ?_
      have hwi := G.w0 i
      refine Int.le_of_mul_le_mul_right (?_ : (h.getD i 0 + 1) * all * w.getD j 0 ≤ n * w.getD i 0 * w.getD j 0) (by omega)
      have a1 : (h.getD i 0 + 1) * w.getD j 0 * all ≤ (h.getD j 0 + 1) * w.getD i 0 * all := Int.mul_le_mul_of_nonneg_right hm (by omega)
      have a2 : (h.getD j 0 + 1) * all * w.getD i 0 ≤ n * w.getD j 0 * w.getD i 0 := Int.mul_le_mul_of_nonneg_right k1 (by omega)
      have e1 : (h.getD i 0 + 1) * all * w.getD j 0 = (h.getD i 0 + 1) * w.getD j 0 * all := by rw [Int.mul_assoc, Int.mul_comm all, ← Int.mul_assoc]
      have e2 : (h.getD j 0 + 1) * w.getD i 0 * all = (h.getD j 0 + 1) * all * w.getD i 0 := by rw [Int.mul_assoc, Int.mul_comm (w.getD i 0), ← Int.mul_assoc]
      have e3 : n * w.getD i 0 * w.getD j 0 = n * w.getD j 0 * w.getD i 0 := by rw [Int.mul_assoc, Int.mul_comm (w.getD i 0), ← Int.mul_assoc]
      rw [e1, e3]
      exact Int.le_trans a1 (by rw [e2]; exact a2)
    · exact hle i
end Go.Proofs.Ytimabnjdgdcmaaa.Pure
