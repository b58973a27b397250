/- Plain: what appo's checks, sums and comparisons tell. -/
import Derived.Test.YtimabnjdgdcmaaaPAppx3
namespace Go.Proofs.Ytimabnjdgdcmaaa.Pure
open Go.RowKit Go.Proofs.Ytimabnjdgdcmaaa.PApp Go.Proofs.YtimabnjdgdcmaaaW.PrintWords Go.Proofs.YtimabnjdgdcmaaaW.PrintLast
set_option linter.unusedVariables false
set_option linter.unusedSimpArgs false
theorem wS (i : Nat) (h : i < 4611686018427387904) : wrap64 ((i : Int) + 1) = ((i + 1 : Nat) : Int) := by unfold wrap64; omega
theorem wId (x : Int) (h : -9223372036854775808 ≤ x) (h' : x < 9223372036854775808) : wrap64 x = x := by unfold wrap64; omega
theorem wAdd (x y : Int) : wrap64 (wrap64 x + y) = wrap64 (x + y) := by unfold wrap64; omega
theorem dropc (l : List Int) (i : Nat) (h : i < l.length) : l.drop i = l[i] :: l.drop (i + 1) := List.drop_eq_getElem_cons h
def okW (x : Int) : Bool := decide (0 ≤ x) && decide (x ≤ 1000)
def posW (x : Int) : Bool := decide (0 < x)
def Rt (l : List Int) : Bool := l.all okW && l.any posW && decide (l.length ≤ 64)
theorem check_l0 (l : List Int) (hl : l.length < 4611686018427387904) : ∀ (m i k : Nat) (s : Bool), l.length - i = m → i ≤ l.length → m < k →
    appo_Check.l0 k s l (l.length : Int) (i : Int) = some (if ((l.drop i).all okW && (s || (l.drop i).any posW)) = true then 0 else 1) := by
  intro m
  induction m with
  | zero =>
    intro i k s hm hi hk
    obtain ⟨k, rfl⟩ : ∃ k', k = k' + 1 := ⟨k - 1, by omega⟩
    simp only [appo_Check.l0]
    rw [if_neg (by omega), List.drop_of_length_le (by omega)]
    cases s <;> simp
  | succ m ih =>
    intro i k s hm hi hk
    obtain ⟨k, rfl⟩ : ∃ k', k = k' + 1 := ⟨k - 1, by omega⟩
    have hlt : i < l.length := by omega
    simp only [appo_Check.l0]
    rw [if_pos (by omega), if_pos (by omega), if_pos (by omega), wS i (by omega), rd_at l i hlt, dropc l i hlt, List.all_cons, List.any_cons]
    generalize l[i] = x
    by_cases h1 : x < 0
    · rw [if_pos h1, if_neg (by unfold okW; simp; omega)]
    · rw [if_neg h1]
      by_cases h2 : x > 1000
      · rw [if_pos h2, if_neg (by unfold okW; simp; omega)]
      · rw [if_neg h2]
        have hok : okW x = true := by unfold okW; simp; omega
        rw [hok, Bool.true_and]
        cases s with
        | true => rw [if_pos rfl, ih (i + 1) k true (by omega) (by omega) (by omega)]; simp
        | false => rw [if_neg (by decide), ih (i + 1) k _ (by omega) (by omega) (by omega)]; simp [posW]
theorem check (l : List Int) (hl : l.length < 4611686018427387904) (k : Nat) (hk : l.length + 2 ≤ k) : appo_Check.f k l = some (if Rt l = true then 0 else 1) := by
  obtain ⟨k, rfl⟩ : ∃ k', k = k' + 1 := ⟨k - 1, by omega⟩
  unfold appo_Check.f Rt
  by_cases h0 : (l.length : Int) = 0
  · rw [if_pos h0]
    have : l = [] := List.eq_nil_of_length_eq_zero (by omega)
    subst this
    simp [appo_Check.j0]
  · rw [if_neg h0]
    simp only [appo_Check.j0]
    by_cases h1 : l.length ≤ 64
    · have e : decide ((l.length : Int) > 64) = false := decide_eq_false (by omega)
      rw [e, if_neg (by decide)]
      have := check_l0 l hl l.length 0 k false (by omega) (by omega) (by omega)
      rw [List.drop_zero] at this
      rw [show (0 : Int) = ((0 : Nat) : Int) from rfl, this]
      simp [h1]
    · have e : decide ((l.length : Int) > 64) = true := decide_eq_true (by omega)
      rw [e, if_pos rfl]
      simp [h1]
theorem right_l0 (l : List Int) (hl : l.length < 4611686018427387904) : ∀ (m i k : Nat) (s : Bool), l.length - i = m → i ≤ l.length → m < k →
    dogwatchref03_Right.l0 k l s (i : Int) = some ((l.drop i).all okW && (s || (l.drop i).any posW) && decide (l.length ≤ 64)) := by
  intro m
  induction m with
  | zero =>
    intro i k s hm hi hk
    obtain ⟨k, rfl⟩ : ∃ k', k = k' + 1 := ⟨k - 1, by omega⟩
    simp only [dogwatchref03_Right.l0]
    rw [if_neg (by omega), List.drop_of_length_le (by omega)]
    cases s <;> simp
    omega
  | succ m ih =>
    intro i k s hm hi hk
    obtain ⟨k, rfl⟩ : ∃ k', k = k' + 1 := ⟨k - 1, by omega⟩
    have hlt : i < l.length := by omega
    simp only [dogwatchref03_Right.l0]
    rw [if_pos (by omega), if_pos (by omega), wS i (by omega), rd_at l i hlt, dropc l i hlt, List.all_cons, List.any_cons]
    generalize l[i] = x
    by_cases h1 : x < 0
    · have hno : okW x = false := by unfold okW; simp; omega
      rw [if_pos h1, hno]; simp
    · rw [if_neg h1]
      by_cases h2 : x > 1000
      · have hno : okW x = false := by unfold okW; simp; omega
        rw [if_pos h2, hno]; simp
      · rw [if_neg h2]
        have hok : okW x = true := by unfold okW; simp; omega
        rw [hok, Bool.true_and]
        cases s with
        | true => rw [if_pos rfl, ih (i + 1) k true (by omega) (by omega) (by omega)]; simp
        | false => rw [if_neg (by decide), ih (i + 1) k _ (by omega) (by omega) (by omega)]; simp [posW]
theorem right (l : List Int) (hl : l.length < 4611686018427387904) (k : Nat) (hk : l.length + 2 ≤ k) : dogwatchref03_Right.f k l = some (Rt l) := by
  unfold dogwatchref03_Right.f Rt
  have := right_l0 l hl l.length 0 k false (by omega) (by omega) (by omega)
  rw [List.drop_zero] at this
  rw [show (0 : Int) = ((0 : Nat) : Int) from rfl, this]
  simp
theorem sum_l0 (l : List Int) (hl : l.length < 4611686018427387904) : ∀ (m i k : Nat) (s : Int), l.length - i = m → i ≤ l.length → m < k →
    appo_sum.l0 k (wrap64 s) l (l.length : Int) (i : Int) = some (wrap64 (s + (l.drop i).sum)) := by
  intro m
  induction m with
  | zero =>
    intro i k s hm hi hk
    obtain ⟨k, rfl⟩ : ∃ k', k = k' + 1 := ⟨k - 1, by omega⟩
    simp only [appo_sum.l0]
    rw [if_neg (by omega), List.drop_of_length_le (by omega)]
    simp
  | succ m ih =>
    intro i k s hm hi hk
    obtain ⟨k, rfl⟩ : ∃ k', k = k' + 1 := ⟨k - 1, by omega⟩
    have hlt : i < l.length := by omega
    simp only [appo_sum.l0]
    rw [if_pos (by omega), if_pos (by omega), if_pos (by omega), wS i (by omega), rd_at l i hlt, dropc l i hlt, List.sum_cons, wAdd, ih (i + 1) k _ (by omega) (by omega) (by omega), Int.add_assoc]
theorem sum (l : List Int) (hl : l.length < 4611686018427387904) (k : Nat) (hk : l.length + 1 ≤ k) : appo_sum.f k l = some (wrap64 l.sum) := by
  unfold appo_sum.f
  have := sum_l0 l hl l.length 0 k 0 (by omega) (by omega) (by omega)
  rw [List.drop_zero, wId 0 (by decide) (by decide), Int.zero_add] at this
  exact this
theorem rsum_l0 (l : List Int) (hl : l.length < 4611686018427387904) : ∀ (m i k : Nat) (s : Int), l.length - i = m → i ≤ l.length → m < k →
    dogwatchref03_Sum.l0 k l (wrap64 s) (i : Int) = some (wrap64 (s + (l.drop i).sum)) := by
  intro m
  induction m with
  | zero =>
    intro i k s hm hi hk
    obtain ⟨k, rfl⟩ : ∃ k', k = k' + 1 := ⟨k - 1, by omega⟩
    simp only [dogwatchref03_Sum.l0]
    rw [if_neg (by omega), List.drop_of_length_le (by omega)]
    simp
  | succ m ih =>
    intro i k s hm hi hk
    obtain ⟨k, rfl⟩ : ∃ k', k = k' + 1 := ⟨k - 1, by omega⟩
    have hlt : i < l.length := by omega
    simp only [dogwatchref03_Sum.l0]
    rw [if_pos (by omega), if_pos (by omega), wS i (by omega), rd_at l i hlt, dropc l i hlt, List.sum_cons, wAdd, ih (i + 1) k _ (by omega) (by omega) (by omega), Int.add_assoc]
theorem rsum (l : List Int) (hl : l.length < 4611686018427387904) (k : Nat) (hk : l.length + 1 ≤ k) : dogwatchref03_Sum.f k l = some (wrap64 l.sum) := by
  unfold dogwatchref03_Sum.f
  have := rsum_l0 l hl l.length 0 k 0 (by omega) (by omega) (by omega)
  rw [List.drop_zero, wId 0 (by decide) (by decide), Int.zero_add] at this
  exact this
theorem same_l0 (l m : List Int) (hl : l.length < 4611686018427387904) (hlm : l.length = m.length) : ∀ (n i k : Nat), l.length - i = n → i ≤ l.length → n < k →
    dogwatchref03_Same.l0 k l m (i : Int) = some (decide (l.drop i = m.drop i)) := by
  intro n
  induction n with
  | zero =>
    intro i k hm hi hk
    obtain ⟨k, rfl⟩ : ∃ k', k = k' + 1 := ⟨k - 1, by omega⟩
    simp only [dogwatchref03_Same.l0]
    rw [if_neg (by omega), List.drop_of_length_le (by omega), List.drop_of_length_le (by omega)]
    simp
  | succ n ih =>
    intro i k hm hi hk
    obtain ⟨k, rfl⟩ : ∃ k', k = k' + 1 := ⟨k - 1, by omega⟩
    have hlt : i < l.length := by omega
    have hlt' : i < m.length := by omega
    simp only [dogwatchref03_Same.l0]
    rw [if_pos (by omega), if_pos (by omega), if_pos (by omega), wS i (by omega), rd_at l i hlt, rd_at m i hlt', dropc l i hlt, dropc m i hlt']
    by_cases h : l[i] = m[i]
    · rw [if_pos h, ih (i + 1) k (by omega) (by omega) (by omega)]; exact congrArg some (decide_eq_decide.mpr ⟨fun e => by rw [h, e], fun e => (List.cons.inj e).2⟩)
    · rw [if_neg h]; exact congrArg some (decide_eq_false (fun e => h (List.cons.inj e).1)).symm
theorem same (l m : List Int) (hl : l.length < 4611686018427387904) (k : Nat) (hk : l.length + 1 ≤ k) : dogwatchref03_Same.f k l m = some (decide (l = m)) := by
  unfold dogwatchref03_Same.f
  by_cases h : l.length = m.length
  · rw [if_pos (by omega)]
    have := same_l0 l m hl h l.length 0 k (by omega) (by omega) (by omega)
    rw [List.drop_zero, List.drop_zero] at this
    exact this
  · rw [if_neg (by omega)]
    have : l ≠ m := fun e => h (by rw [e])
    simp [this]
/-! ### equal rests: nothing moves -/
open Go.Sort in
theorem insInner_id {α : Type} [Inhabited α] (lt : α → α → Bool) (h : ∀ x y, lt x y = false) (a : Nat) : ∀ j (d : Array α), insInner lt a j d = d
  | 0, d => by rw [insInner]
  | j + 1, d => by rw [insInner, h]; simp
open Go.Sort in
theorem insOuter_id {α : Type} [Inhabited α] (lt : α → α → Bool) (h : ∀ x y, lt x y = false) (a b : Nat) : ∀ (n i : Nat) (d : Array α), b - i = n → insOuter lt a b i d = d
  | 0, i, d, hn => by rw [insOuter, if_neg (by omega)]
  | n + 1, i, d, hn => by rw [insOuter, if_pos (by omega), insInner_id lt h, insOuter_id lt h a b n (i + 1) d (by omega)]
theorem ord111 : ordL [1, 1, 1] = [0, 1, 2] := by
  unfold ordL
  rw [dif_pos (by decide)]
  have h : ∀ x y, ltOf (cfF [1, 1, 1]) x y = false := by decide +kernel
  rw [stableA_small _ _ (by decide)]
  unfold Go.Sort.insertionSort
  rw [insOuter_id _ h 0 _ _ _ _ rfl]
  decide
theorem largest111 (k : Nat) (hk : 5 ≤ k) : appo_Largest.f k 10 [1, 1, 1] = some ([4, 3, 3], 0) := by
  unfold appo_Largest.f appo_right.f
  rw [check [1, 1, 1] (by decide) k (by simpa using hk), sum [1, 1, 1] (by decide) k (by simp; omega)]
  have e : [1, 1, 1].map (rtL 10 (wrap64 [1, 1, 1].sum)) = [1, 1, 1] := by decide +kernel
  simp only [Option.bind_some, e, ord111]
  decide +kernel
theorem mono_up {α : Type} {f : Nat → Option α} (hm : ∀ k, LeO (f k) (f (k + 1))) {k k' : Nat} (h : k ≤ k') {r : α} (hr : f k = some r) : f k' = some r := by
  induction h with
  | refl => exact hr
  | step _ ih => exact hm _ _ ih
theorem awake (k : Nat) (hk : 20 ≤ k) : dogwatchlaw03_awake.f k = some true := by
  refine mono_up (f := fun k => dogwatchlaw03_awake.f k) (fun k => dogwatchlaw03_awake.mono k) hk ?_
  show dogwatchlaw03_awake.f 20 = some true
  unfold dogwatchlaw03_awake.f
  rw [largest111 20 (by decide)]
  decide +kernel
end Go.Proofs.Ytimabnjdgdcmaaa.Pure
