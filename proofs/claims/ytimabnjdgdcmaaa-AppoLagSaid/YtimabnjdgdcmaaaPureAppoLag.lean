/- What anybody has too little is what the reference's sums say, and all of it comes to nothing; for every input. -/
import Derived.Test.YtimabnjdgdcmaaaPAppx11
import Derived.Test.YtimabnjdgdcmaaaApBase
namespace Go.Proofs.Ytimabnjdgdcmaaa.Pure
open Go.RowKit Go.Proofs.Ytimabnjdgdcmaaa.PApp Go.Proofs.YtimabnjdgdcmaaaW.PrintWords Go.Proofs.YtimabnjdgdcmaaaW.PrintLast
set_option linter.unusedVariables false
set_option linter.unusedSimpArgs false
def totW (x : Int) : Bool := decide (0 ≤ x) && decide (x ≤ 1048576)
theorem total (x : Int) : dogwatchlaw03_total.f x = some (totW x) := by
  unfold dogwatchlaw03_total.f totW
  by_cases h : x ≥ 0
  · rw [if_pos h]; simp [h]
  · rw [if_neg h]; simp [h]
def lagV (g a : Int) (w h : Int) : Int := wrap64 (wrap64 (g * w) - wrap64 (h * a))
def lagL (g a : Int) (w h : List Int) : List Int := List.zipWith (lagV g a) w h
theorem lag_l1 (w h : List Int) (hl : w.length < 4611686018427387904) (hlh : h.length = w.length) (g a : Int) : ∀ (m i k : Nat), w.length - i = m → i ≤ w.length → m < k →
    appo_Lag.l1 k h a g ((lagL g a w h).take i ++ List.replicate (w.length - i) 0) w (w.length : Int) (i : Int) = some (lagL g a w h, 0) := by
  have hL : (lagL g a w h).length = w.length := by unfold lagL; rw [List.length_zipWith]; omega
  intro m
  induction m with
  | zero =>
    intro i k hm hi hk
    obtain ⟨k, rfl⟩ : ∃ k', k = k' + 1 := ⟨k - 1, by omega⟩
    simp only [appo_Lag.l1]
    rw [if_neg (by omega), show w.length - i = 0 by omega, List.take_of_length_le (by omega)]
    simp
  | succ m ih =>
    intro i k hm hi hk
    obtain ⟨k, rfl⟩ : ∃ k', k = k' + 1 := ⟨k - 1, by omega⟩
    have hlt : i < w.length := by omega
    have hlt' : i < h.length := by omega
    have hlen : ((lagL g a w h).take i ++ List.replicate (w.length - i) 0).length = w.length := by simp [hL]; omega
    simp only [appo_Lag.l1]
    rw [if_pos (by omega), if_pos (by omega), if_pos (by omega), if_pos (by omega), if_pos (by rw [hlen]; omega), wS i (by omega), rd_at w i hlt, rd_at h i hlt', Int.toNat_natCast]
    have e : ((lagL g a w h).take i ++ List.replicate (w.length - i) 0).set i (wrap64 (wrap64 (g * w[i]) - wrap64 (h[i] * a))) = (lagL g a w h).take (i + 1) ++ List.replicate (w.length - (i + 1)) 0 := by
      have hg : (lagL g a w h).getD i 0 = wrap64 (wrap64 (g * w[i]) - wrap64 (h[i] * a)) := by
        unfold lagL
        rw [List.getD_eq_getElem?_getD, List.getElem?_zipWith, List.getElem?_eq_getElem hlt, List.getElem?_eq_getElem hlt']
        rfl
      have := fillL_set (lagL g a w h) i (by omega)
      rw [hg] at this
      unfold fillL at this
      rw [hL] at this
      exact this
    rw [e, ih (i + 1) k (by omega) (by omega) (by omega)]
theorem lag_l0 (w h : List Int) (hl : w.length < 35184372088832) (hlh : h.length = w.length) : ∀ (m i k : Nat), h.length - i = m → i ≤ h.length → m + w.length + 2 < k →
    appo_Lag.l0 k w h h (h.length : Int) (i : Int) = some (if (h.drop i).all totW = true then (lagL (wrap64 h.sum) (wrap64 w.sum) w h, 0) else ([], 1)) := by
  intro m
  induction m with
  | zero =>
    intro i k hm hi hk
    obtain ⟨k, rfl⟩ : ∃ k', k = k' + 1 := ⟨k - 1, by omega⟩
    simp only [appo_Lag.l0]
    rw [if_neg (by omega), List.drop_of_length_le (by omega), sum w (by omega) k (by omega), sum h (by omega) k (by omega)]
    simp only [Option.bind_some]
    rw [if_pos (by omega), if_pos (by rw [Int.toNat_natCast]; omega), Int.toNat_natCast]
    have := lag_l1 w h (by omega) hlh (wrap64 h.sum) (wrap64 w.sum) w.length 0 k (by omega) (by omega) (by omega)
    rw [List.take_zero, List.nil_append] at this
    rw [show (0 : Int) = ((0 : Nat) : Int) from rfl, Nat.sub_zero] at *
    simpa using this
  | succ m ih =>
    intro i k hm hi hk
    obtain ⟨k, rfl⟩ : ∃ k', k = k' + 1 := ⟨k - 1, by omega⟩
    have hlt : i < h.length := by omega
    simp only [appo_Lag.l0]
    rw [if_pos (by omega), if_pos (by omega), if_pos (by omega), wS i (by omega), rd_at h i hlt, dropc h i hlt, List.all_cons, ih (i + 1) k (by omega) (by omega) (by omega)]
    generalize h[i] = x
    by_cases h1 : x < 0
    · have hno : totW x = false := by unfold totW; simp; omega
      rw [if_pos h1, hno]; simp
    · rw [if_neg h1]
      by_cases h2 : x > 1048576
      · have hno : totW x = false := by unfold totW; simp; omega
        rw [if_pos h2, hno]; simp
      · have hno : totW x = true := by unfold totW; simp; omega
        rw [if_neg h2, hno, Bool.true_and]
def lagOk (w h : List Int) : Bool := Rt w && decide (w.length = h.length) && h.all totW
theorem lag (w h : List Int) (hl : w.length < 35184372088832) (k : Nat) (hk : 2 * w.length + 10 ≤ k) (hh : h.length < 35184372088832) :
    appo_Lag.f k w h = some (if lagOk w h = true then (lagL (wrap64 h.sum) (wrap64 w.sum) w h, 0) else ([], 1)) := by
  unfold appo_Lag.f lagOk
  rw [check w (by omega) k (by omega)]
  simp only [Option.bind_some]
  obtain ⟨k, rfl⟩ : ∃ k', k = k' + 1 := ⟨k - 1, by omega⟩
  cases hR : Rt w with
  | false => rw [if_neg (by decide)]; simp [appo_Lag.j0]
  | true =>
    rw [if_pos rfl, if_pos rfl]
    simp only [appo_Lag.j0]
    by_cases hlh : w.length = h.length
    · have e : ((h.length : Int) != (w.length : Int)) = false := bne_eq_false_iff_eq.mpr (by omega)
      rw [e, if_neg (by decide)]
      have := lag_l0 w h hl hlh.symm h.length 0 k (by omega) (by omega) (by omega)
      rw [List.drop_zero] at this
      rw [show (0 : Int) = ((0 : Nat) : Int) from rfl, this]
      simp [hlh]
    · have e : ((h.length : Int) != (w.length : Int)) = true := bne_iff_ne.mpr (by omega)
      rw [e, if_pos rfl]
      simp [hlh]
theorem wSub (x y : Int) : wrap64 (wrap64 x - wrap64 y) = wrap64 (x - y) := by unfold wrap64; omega
theorem wMul (x y : Int) : wrap64 (wrap64 x * y) = wrap64 (x * y) := by
  unfold wrap64
  have h : (x + 9223372036854775808) % 18446744073709551616 - 9223372036854775808 = x - 18446744073709551616 * ((x + 9223372036854775808) / 18446744073709551616) := by omega
  rw [h, Int.sub_mul]
  generalize (x + 9223372036854775808) / 18446744073709551616 = q
  rw [show x * y - 18446744073709551616 * q * y + 9223372036854775808 = (x * y + 9223372036854775808) + 18446744073709551616 * (-(q * y)) by rw [Int.mul_assoc]; omega, Int.add_mul_emod_self_left]
theorem lag_sum (G A : Int) : ∀ (w h : List Int), w.length = h.length → wrap64 (lagL G A w h).sum = wrap64 (G * w.sum - h.sum * A) := by
  intro w
  induction w with
  | nil => intro h hl; cases h with
    | nil => simp [lagL]
    | cons _ _ => simp at hl
  | cons x t ih =>
    intro h hl
    cases h with
    | nil => simp at hl
    | cons y u =>
      have := ih u (by simpa using hl)
      show wrap64 ((lagV G A x y :: lagL G A t u).sum) = _
      rw [List.sum_cons, List.sum_cons, List.sum_cons]
      have h1 : wrap64 (lagV G A x y + (lagL G A t u).sum) = wrap64 (wrap64 (lagV G A x y) + wrap64 (lagL G A t u).sum) := by unfold wrap64; omega
      rw [h1, this]
      unfold lagV
      rw [Int.mul_add, Int.add_mul]
      generalize G * x = p
      generalize y * A = q
      generalize G * t.sum = r
      generalize u.sum * A = s
      unfold wrap64
      omega
theorem lag_nothing (w h : List Int) (hl : w.length = h.length) : wrap64 (lagL (wrap64 h.sum) (wrap64 w.sum) w h).sum = 0 := by
  rw [lag_sum _ _ w h hl, ← wSub, wMul, Int.mul_comm h.sum (wrap64 w.sum), wMul, Int.mul_comm w.sum h.sum, Int.sub_self]
  exact wId 0 (by decide) (by decide)
theorem lagl1 (w h L : List Int) (hl : w.length < 35184372088832) (hlh : w.length = h.length) (hL : L = lagL (wrap64 h.sum) (wrap64 w.sum) w h) : ∀ (m i k : Nat), w.length - i = m → i ≤ w.length → m + w.length + 30 < k →
    dogwatchlaw03_AppoLag.l1 k w h L (i : Int) = some true := by
  have hLl : L.length = w.length := by rw [hL]; unfold lagL; rw [List.length_zipWith]; omega
  intro m
  induction m with
  | zero =>
    intro i k hm hi hk
    obtain ⟨k, rfl⟩ : ∃ k', k = k' + 1 := ⟨k - 1, by omega⟩
    simp only [dogwatchlaw03_AppoLag.l1]
    rw [if_neg (by omega), awake k (by omega)]
    rfl
  | succ m ih =>
    intro i k hm hi hk
    obtain ⟨k, rfl⟩ : ∃ k', k = k' + 1 := ⟨k - 1, by omega⟩
    have hlt : i < w.length := by omega
    have hlt' : i < h.length := by omega
    simp only [dogwatchlaw03_AppoLag.l1]
    rw [if_pos (by omega), if_pos (by omega), if_pos (by omega), rsum h (by omega) k (by omega), rsum w (by omega) k (by omega)]
    simp only [Option.bind_some]
    rw [if_pos (by omega), rd_at w i hlt, rd_at h i hlt', rd_at L i (by omega), wS i (by omega), ih (i + 1) k (by omega) (by omega) (by omega)]
    have e : L[i]'(by omega) = wrap64 (wrap64 (wrap64 h.sum * w[i]) - wrap64 (h[i] * wrap64 w.sum)) := by
      subst hL
      simp [lagL, lagV]
    rw [if_pos e]
theorem lagl0 (w h L : List Int) (E : Int) (hl : w.length < 35184372088832) (hh : h.length < 35184372088832) (hT : ∀ s, (s && h.all totW) = lagOk w h → True) :
    ∀ (m i k : Nat) (s : Bool), h.length - i = m → i ≤ h.length → m + 2 * w.length + 40 < k → (s && (h.drop i).all totW) = lagOk w h →
      (L, E) = (if lagOk w h = true then (lagL (wrap64 h.sum) (wrap64 w.sum) w h, 0) else ([], 1)) →
    dogwatchlaw03_AppoLag.l0 k w h L E s (i : Int) = some true := by
  intro m
  induction m with
  | zero =>
    intro i k s hm hi hk hs hL
    obtain ⟨k, rfl⟩ : ∃ k', k = k' + 1 := ⟨k - 1, by omega⟩
    rw [List.drop_of_length_le (by omega), List.all_nil, Bool.and_true] at hs
    simp only [dogwatchlaw03_AppoLag.l0]
    rw [if_neg (by omega)]
    rw [← hs] at hL
    cases s with
    | false =>
      rw [if_neg (by decide)] at hL ⊢
      obtain ⟨rfl, rfl⟩ := Prod.mk.inj hL
      rw [if_pos (by simp), if_pos rfl, awake k (by omega)]
      rfl
    | true =>
      rw [if_pos rfl] at hL ⊢
      obtain ⟨hLe, hE⟩ := Prod.mk.inj hL
      clear hL
      have hL := hLe
      clear hLe
      subst hE
      have hlh : w.length = h.length := by
        have := hs.symm
        unfold lagOk at this
        simp only [Bool.and_eq_true, decide_eq_true_eq] at this
        exact this.1.2
      have hLl : L.length = w.length := by rw [hL]; unfold lagL; rw [List.length_zipWith]; omega
      rw [if_pos rfl, if_pos (by omega), rsum L (by omega) k (by omega)]
      simp only [Option.bind_some]
      rw [hL, lag_nothing w h hlh, ← hL]
      obtain ⟨k, rfl⟩ : ∃ k', k = k' + 1 := ⟨k - 1, by omega⟩
      simp only [dogwatchlaw03_AppoLag.j2]
      rw [if_neg (by decide)]
      exact lagl1 w h L hl hlh hL w.length 0 k (by omega) (by omega) (by omega)
  | succ m ih =>
    intro i k s hm hi hk hs hL
    obtain ⟨k, rfl⟩ : ∃ k', k = k' + 1 := ⟨k - 1, by omega⟩
    have hlt : i < h.length := by omega
    rw [dropc h i hlt, List.all_cons] at hs
    simp only [dogwatchlaw03_AppoLag.l0]
    rw [if_pos (by omega)]
    cases s with
    | true =>
      rw [if_pos rfl, if_pos (by omega), total]
      simp only [Option.bind_some]
      rw [wS i (by omega), rd_at h i hlt]
      exact ih (i + 1) k _ (by omega) (by omega) (by omega) (by rw [← hs]; simp) hL
    | false =>
      rw [if_neg (by decide), wS i (by omega)]
      exact ih (i + 1) k _ (by omega) (by omega) (by omega) (by rw [← hs]; simp) hL
theorem AppoLag : dogwatchlaw03_AppoLag.Pure := by
  intro w h hw hw8 _ hh hh8 _
  have hwl : w.length < 35184372088832 := by omega
  have hhl : h.length < 35184372088832 := by omega
  refine ⟨h.length + 2 * w.length + 100, ?_⟩
  unfold dogwatchlaw03_AppoLag.f
  rw [lag w h hwl _ (by omega) hhl, right w (by omega) _ (by omega)]
  simp only [Option.bind_some]
  have key : ∀ s, (s && h.all totW) = lagOk w h → dogwatchlaw03_AppoLag.j0 (h.length + 2 * w.length + 100) w h (if lagOk w h = true then (lagL (wrap64 h.sum) (wrap64 w.sum) w h, (0 : Int)) else ([], 1)).1 (if lagOk w h = true then (lagL (wrap64 h.sum) (wrap64 w.sum) w h, (0 : Int)) else ([], 1)).2 s = some true := by
    intro s hs
    rw [show h.length + 2 * w.length + 100 = (h.length + 2 * w.length + 99) + 1 from rfl]
    simp only [dogwatchlaw03_AppoLag.j0]
    exact lagl0 w h _ _ hwl hhl (fun _ _ => trivial) h.length 0 _ s (by omega) (by omega) (by omega) (by rw [List.drop_zero]; exact hs) rfl
  cases hR : Rt w with
  | true =>
    rw [if_pos rfl]
    refine key _ ?_
    unfold lagOk
    rw [hR, Bool.true_and]
    congr 1
    by_cases e : w.length = h.length
    · simp [e]
    · have e2 : ((w.length : Int) == (h.length : Int)) = false := beq_eq_false_iff_ne.mpr (by omega)
      rw [e2]; simp [e]
  | false =>
    rw [if_neg (by decide)]
    refine key _ ?_
    unfold lagOk
    rw [hR]
    simp
end Go.Proofs.Ytimabnjdgdcmaaa.Pure
