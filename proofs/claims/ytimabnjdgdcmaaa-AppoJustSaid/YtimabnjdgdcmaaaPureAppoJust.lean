/- Where all quotas are whole numbers both ways give just these, and nobody has too little; for every input. -/
import Derived.Test.YtimabnjdgdcmaaaPAppx10
import Derived.Test.YtimabnjdgdcmaaaApLargest
namespace Go.Proofs.Ytimabnjdgdcmaaa.Pure
open Go.RowKit Go.Proofs.Ytimabnjdgdcmaaa.PApp Go.Proofs.YtimabnjdgdcmaaaW.PrintWords Go.Proofs.YtimabnjdgdcmaaaW.PrintLast
set_option linter.unusedVariables false
set_option linter.unusedSimpArgs false
def totJ (x : Int) : Bool := decide (0 ≤ x) && decide (x ≤ 1048576)
theorem map_get (c : Int) (w : List Int) (i : Nat) : (w.map (fun x => c * x)).getD i 0 = c * w.getD i 0 := by
  rw [List.getD_eq_getElem?_getD, List.getD_eq_getElem?_getD, List.getElem?_map]
  cases w[i]? <;> simp
theorem just_l1 (w h : List Int) (hl : w.length < 4611686018427387904) (hlh : h.length = w.length) (g a : Int) (hz : ∀ i, i < w.length → wrap64 (wrap64 (g * w.getD i 0) - wrap64 (h.getD i 0 * a)) = 0) : ∀ (m i k : Nat), w.length - i = m → i ≤ w.length → m < k →
    appo_Lag.l1 k h a g (zerosL w.length) w (w.length : Int) (i : Int) = some (zerosL w.length, 0) := by
  intro m
  induction m with
  | zero =>
    intro i k hm hi hk
    obtain ⟨k, rfl⟩ : ∃ k', k = k' + 1 := ⟨k - 1, by omega⟩
    simp only [appo_Lag.l1]
    rw [if_neg (by omega)]
  | succ m ih =>
    intro i k hm hi hk
    obtain ⟨k, rfl⟩ : ∃ k', k = k' + 1 := ⟨k - 1, by omega⟩
    have hlt : i < w.length := by omega
    have hzl : (zerosL w.length).length = w.length := by simp [zerosL]
    simp only [appo_Lag.l1]
    rw [if_pos (by omega), if_pos (by omega), if_pos (by omega), if_pos (by omega), if_pos (by rw [hzl]; omega), wS i (by omega), rdD, rdD, Int.toNat_natCast, hz i hlt]
    have e : (zerosL w.length).set i 0 = zerosL w.length := by
      apply List.ext_getElem
      · simp
      · intro j h1 h2
        rw [List.getElem_set]
        simp [zerosL]
    rw [e, ih (i + 1) k (by omega) (by omega) (by omega)]
theorem just_l0 (w h : List Int) (hl : w.length < 35184372088832) (hlh : h.length = w.length) (hr : ∀ i, 0 ≤ h.getD i 0 ∧ h.getD i 0 ≤ 1048576)
    (hz : ∀ i, i < w.length → wrap64 (wrap64 (wrap64 h.sum * w.getD i 0) - wrap64 (h.getD i 0 * wrap64 w.sum)) = 0) : ∀ (m i k : Nat), h.length - i = m → i ≤ h.length → m + w.length + 2 < k →
    appo_Lag.l0 k w h h (h.length : Int) (i : Int) = some (zerosL w.length, 0) := by
  intro m
  induction m with
  | zero =>
    intro i k hm hi hk
    obtain ⟨k, rfl⟩ : ∃ k', k = k' + 1 := ⟨k - 1, by omega⟩
    simp only [appo_Lag.l0]
    rw [if_neg (by omega), sum w (by omega) k (by omega), sum h (by omega) k (by omega)]
    simp only [Option.bind_some]
    rw [if_pos (by omega), if_pos (by rw [Int.toNat_natCast]; omega), Int.toNat_natCast]
    exact just_l1 w h (by omega) hlh _ _ hz w.length 0 k (by omega) (by omega) (by omega)
  | succ m ih =>
    intro i k hm hi hk
    obtain ⟨k, rfl⟩ : ∃ k', k = k' + 1 := ⟨k - 1, by omega⟩
    have hri := hr i
    simp only [appo_Lag.l0]
    rw [if_pos (by omega), if_pos (by omega), if_pos (by omega), wS i (by omega), rdD, if_neg (by omega), if_neg (by omega)]
    exact ih (i + 1) k (by omega) (by omega) (by omega)
theorem justlag (w h : List Int) (hR : Rt w = true) (hlen : w.length ≤ 64) (hlh : h.length = w.length) (hr : ∀ i, 0 ≤ h.getD i 0 ∧ h.getD i 0 ≤ 1048576)
    (hz : ∀ i, i < w.length → wrap64 (wrap64 (wrap64 h.sum * w.getD i 0) - wrap64 (h.getD i 0 * wrap64 w.sum)) = 0) (k : Nat) (hk : 2 * w.length + 10 ≤ k) : appo_Lag.f k w h = some (zerosL w.length, 0) := by
  unfold appo_Lag.f
  rw [check w (by omega) k (by omega), hR, if_pos rfl]
  simp only [Option.bind_some]
  obtain ⟨k, rfl⟩ : ∃ k', k = k' + 1 := ⟨k - 1, by omega⟩
  rw [if_pos trivial]
  simp only [appo_Lag.j0]
  have e : ((h.length : Int) != (w.length : Int)) = false := bne_eq_false_iff_eq.mpr (by omega)
  rw [e, if_neg (by decide)]
  exact just_l0 w h (by omega) hlh hr hz h.length 0 k (by omega) (by omega) (by omega)
theorem just_law (c : Int) (x0 : Int) (hx : wrap64 (Int.tmod x0 16) = c) (w : List Int) (hlen : w.length ≤ 64) (hw : ∀ i, wrap64 (c * w.getD i 0) = c * w.getD i 0) : ∀ (m i k : Nat), w.length - i = m → i ≤ w.length → m + 30 < k →
    dogwatchlaw03_AppoJust.l0 k x0 w (w.map (fun x => c * x)) (w.map (fun x => c * x)) (zerosL w.length) (i : Int) = some true := by
  intro m
  induction m with
  | zero =>
    intro i k hm hi hk
    obtain ⟨k, rfl⟩ : ∃ k', k = k' + 1 := ⟨k - 1, by omega⟩
    simp only [dogwatchlaw03_AppoJust.l0]
    rw [if_neg (by omega), awake k (by omega)]
    rfl
  | succ m ih =>
    intro i k hm hi hk
    obtain ⟨k, rfl⟩ : ∃ k', k = k' + 1 := ⟨k - 1, by omega⟩
    have hml : (w.map (fun x => c * x)).length = w.length := List.length_map ..
    have hzl : (zerosL w.length).length = w.length := by simp [zerosL]
    simp only [dogwatchlaw03_AppoJust.l0]
    rw [if_pos (by omega), if_pos (by omega), if_pos (by omega), rdD, rdD, hx, map_get, hw, if_pos rfl, if_pos (by omega), if_pos trivial, if_pos (by rw [hzl]; omega), rdD, zeros_get, if_pos rfl, wS i (by omega)]
    exact ih (i + 1) k (by omega) (by omega) (by omega)
theorem AppoJust : dogwatchlaw03_AppoJust.Pure := by
  intro x0 w hx0 hw hw8 _
  have hwl : w.length < 35184372088832 := by omega
  have hx1 : 0 ≤ x0 ∧ x0 ≤ 65535 := by
    simp only [Lit.wf, IntKind.min, IntKind.max, IntKind.signed, IntKind.bits, Bool.and_eq_true, decide_eq_true_eq] at hx0
    simp at hx0
    omega
  obtain ⟨c, hc⟩ : ∃ c, c = x0 % 16 := ⟨_, rfl⟩
  have hc1 : 0 ≤ c ∧ c ≤ 15 := by omega
  have hx : wrap64 (Int.tmod x0 16) = c := by
    rw [Int.tmod_eq_emod_of_nonneg hx1.1, ← hc]; exact wId c (by omega) (by omega)
  refine ⟨2000000 + 8 * w.length, ?_⟩
  obtain ⟨K, hK⟩ : ∃ K, K = 1999000 + 8 * w.length := ⟨_, rfl⟩
  rw [show 2000000 + 8 * w.length = K + 1000 by omega]
  unfold dogwatchlaw03_AppoJust.f
  rw [right w (by omega) _ (by omega)]
  simp only [Option.bind_some]
  cases hR : Rt w with
  | false =>
    rw [if_neg (by decide), awake _ (by omega)]
    rfl
  | true =>
    have W := Wt.of w hR
    have hlen := W.len
    have ha := W.sum
    have hcs : 0 ≤ c * w.sum := Int.mul_nonneg hc1.1 (by omega)
    have hcs1 : c * w.sum ≤ 15 * 64000 := Int.mul_le_mul hc1.2 ha.2 (by omega) (by omega)
    rw [if_pos rfl, rsum w (by omega) _ (by omega), wId w.sum (by omega) (by omega), hx]
    simp only [Option.bind_some]
    rw [wId (c * w.sum) (by omega) (by omega)]
    have hT : totB (c * w.sum) = true := by unfold totB; simp only [Bool.and_eq_true, decide_eq_true_eq]; omega
    have hsv : seatsV (c * w.sum) w = w.map (fun x => c * x) := by
      rw [seats_split _ w W hcs (by omega), whole_sum W, Int.sub_self, whole W]
      rfl
    have hlv : largestV (c * w.sum) w = w.map (fun x => c * x) := by
      unfold largestV leftV
      rw [whole_sum W, Int.sub_self, whole W]
      rfl
    rw [seats _ w hwl _ (by omega), hT, hR, largest _ w W hR hcs (by omega) _ (by omega), hsv, hlv]
    simp only [Option.bind_some, Bool.and_true, if_true]
    have hwi : ∀ i, 0 ≤ c * w.getD i 0 ∧ c * w.getD i 0 ≤ 15000 := fun i => by
      have h := W.w0 i
      have h1 := Int.mul_nonneg hc1.1 h.1
      have h2 : c * w.getD i 0 ≤ 15 * 1000 := Int.mul_le_mul hc1.2 h.2 h.1 (by omega)
      omega
    have hml : (w.map (fun x => c * x)).length = w.length := List.length_map ..
    have hzl : (zerosL w.length).length = w.length := by simp [zerosL]
    have hz : ∀ i, i < w.length → wrap64 (wrap64 (wrap64 (w.map (fun x => c * x)).sum * w.getD i 0) - wrap64 ((w.map (fun x => c * x)).getD i 0 * wrap64 w.sum)) = 0 := fun i _ => by
      rw [sum_mul, map_get, wId w.sum (by omega) (by omega), wId (c * w.sum) (by omega) (by omega), Int.mul_right_comm c w.sum, Int.sub_self]
      exact wId 0 (by decide) (by decide)
    rw [justlag w _ hR hlen hml (fun i => by rw [map_get]; have := hwi i; omega) hz _ (by omega)]
    simp only [Option.bind_some, if_true]
    rw [if_pos (by omega), if_pos (by omega), show (((zerosL w.length).length : Int) != (w.length : Int)) = false from bne_eq_false_iff_eq.mpr (by omega), show K + 1000 = (K + 999) + 1 from rfl]
    simp only [dogwatchlaw03_AppoJust.j0]
    rw [if_neg (by decide)]
    exact just_law c x0 hx w hlen (fun i => wId _ (by have := hwi i; omega) (by have := hwi i; omega)) w.length 0 _ (by omega) (by omega) (by omega)
end Go.Proofs.Ytimabnjdgdcmaaa.Pure
