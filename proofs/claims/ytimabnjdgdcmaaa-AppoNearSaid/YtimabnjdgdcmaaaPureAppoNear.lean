/- All of a total is given, and each gets its quota, rounded down or up; for every input. -/
import Derived.Test.YtimabnjdgdcmaaaPAppx5
import Derived.Test.YtimabnjdgdcmaaaApOrd
namespace Go.Proofs.Ytimabnjdgdcmaaa.Pure
open Go.RowKit Go.Proofs.Ytimabnjdgdcmaaa.PApp Go.Proofs.YtimabnjdgdcmaaaW.PrintWords Go.Proofs.YtimabnjdgdcmaaaW.PrintLast
set_option linter.unusedVariables false
set_option linter.unusedSimpArgs false
theorem rests_get (n all : Int) (w : List Int) (i : Nat) : (w.map (rtL n all)).getD i 0 = rtL n all (w.getD i 0) := by
  rw [List.getD_eq_getElem?_getD, List.getD_eq_getElem?_getD, List.getElem?_map]
  cases w[i]? with
  | none => simp [rtL, wId 0 (by decide) (by decide)]
  | some x => rfl
theorem rests_range {w : List Int} {n : Int} (W : Wt w) (hn : 0 ≤ n) (hn1 : n ≤ 1048576) (i : Nat) : 0 ≤ (w.map (rtL n w.sum)).getD i 0 ∧ (w.map (rtL n w.sum)).getD i 0 < w.sum ∧ quo n w.sum (w.getD i 0) * w.sum + (w.map (rtL n w.sum)).getD i 0 = n * w.getD i 0 := by
  have ha := W.sum
  rw [rests_get, rtL_rest hn hn1 (by omega) (W.w0 i).1 (W.w0 i).2]
  refine ⟨Int.emod_nonneg _ (by omega), Int.emod_lt_of_pos _ (by omega), ?_⟩
  unfold quo
  exact Int.ediv_mul_add_emod _ _
theorem rests_sum {w : List Int} {n : Int} (W : Wt w) (hn : 0 ≤ n) (hn1 : n ≤ 1048576) : (w.map (rtL n w.sum)).sum = (leftV n w : Int) * w.sum := by
  have ha := W.sum
  have key : ∀ (l : List Int), (∀ x ∈ l, 0 ≤ x ∧ x ≤ 1000) → (quoL n w.sum l).sum * w.sum + (l.map (rtL n w.sum)).sum = n * l.sum := by
    intro l
    induction l with
    | nil => intro _; simp [quoL]
    | cons x t ih =>
      intro h
      have h1 := h x (by simp)
      have := ih (fun y hy => h y (by simp [hy]))
      show (quo n w.sum x + (quoL n w.sum t).sum) * w.sum + (rtL n w.sum x + (t.map (rtL n w.sum)).sum) = n * (x + t.sum)
      rw [Int.add_mul, Int.mul_add, rtL_rest hn hn1 (by omega) h1.1 h1.2]
      have e : quo n w.sum x * w.sum + n * x % w.sum = n * x := by unfold quo; exact Int.ediv_mul_add_emod _ _
      omega
  have h := key w (fun x hx => W.mem hx)
  have hs := quoL_sum_le (n := n) W hn
  unfold leftV
  rw [Int.toNat_of_nonneg (by omega), Int.sub_mul]
  omega
theorem near_l0 (w l : List Int) (n : Int) (W : Wt w) (hn : 0 ≤ n) (hn1 : n ≤ 1048576) (hll : l.length = w.length)
    (hl : ∀ i, i < w.length → l.getD i 0 = quo n w.sum (w.getD i 0) ∨ l.getD i 0 = quo n w.sum (w.getD i 0) + 1 ∧ 0 < (w.map (rtL n w.sum)).getD i 0) : ∀ (m i k : Nat), w.length - i = m → i ≤ w.length → m + 30 < k →
    dogwatchlaw03_AppoNear.l0 k n w l w.sum (i : Int) = some true := by
  have ha := W.sum
  have hlen := W.len
  intro m
  induction m with
  | zero =>
    intro i k hm hi hk
    obtain ⟨k, rfl⟩ : ∃ k', k = k' + 1 := ⟨k - 1, by omega⟩
    simp only [dogwatchlaw03_AppoNear.l0]
    rw [if_neg (by omega), awake k (by omega)]
    rfl
  | succ m ih =>
    intro i k hm hi hk
    obtain ⟨k, rfl⟩ : ∃ k', k = k' + 1 := ⟨k - 1, by omega⟩
    have hwi := W.w0 i
    have hr := rests_range W hn hn1 i
    have hb := quo_bound hn hn1 (by omega : 0 < w.sum) hwi.1 hwi.2
    have p0 : 0 ≤ n * w.getD i 0 := Int.mul_nonneg hn hwi.1
    have p1 : n * w.getD i 0 ≤ 1048576 * 1000 := Int.mul_le_mul hn1 hwi.2 hwi.1 (by omega)
    have hlv : n * w.getD i 0 - w.sum < l.getD i 0 * w.sum ∧ l.getD i 0 * w.sum < n * w.getD i 0 + w.sum := by
      rcases hl i (by omega) with e | ⟨e, hp⟩
      · rw [e]; omega
      · rw [e, Int.add_mul]; omega
    simp only [dogwatchlaw03_AppoNear.l0]
    rw [if_pos (by omega), if_pos (by omega), if_pos (by omega), rdD, rdD, wId (l.getD i 0 * w.sum) (by omega) (by omega), wId (n * w.getD i 0) (by omega) (by omega), wId (n * w.getD i 0 - w.sum) (by omega) (by omega), wId (n * w.getD i 0 + w.sum) (by omega) (by omega), if_neg (by omega), if_neg (by omega), wS i (by omega)]
    exact ih (i + 1) k (by omega) (by omega) (by omega)
theorem largest_bad (n : Int) (w : List Int) (hw : w.length < 4611686018427387904) (h : (totB n && Rt w) = false) (k : Nat) (hk : w.length + 2 ≤ k) : appo_Largest.f k n w = some ([], 1) := by
  unfold appo_Largest.f
  rw [arGood k n w hw hk, h]
  rfl
theorem AppoNear : dogwatchlaw03_AppoNear.Pure := by
  intro n w hn0 hw hw8 _
  have hwl : w.length < 35184372088832 := by omega
  refine ⟨1000 + 8 * w.length, ?_⟩
  obtain ⟨K, hK⟩ : ∃ K, K = 500 + 8 * w.length := ⟨_, rfl⟩
  rw [show 1000 + 8 * w.length = K + 500 by omega]
  unfold dogwatchlaw03_AppoNear.f
  cases hR : (totB n && Rt w) with
  | false =>
    rw [largest_bad n w (by omega) hR _ (by omega)]
    simp only [Option.bind_some]
    rw [if_neg (by decide), if_pos (by simp), awake _ (by omega)]
    rfl
  | true =>
    simp only [Bool.and_eq_true] at hR
    have W := Wt.of w hR.2
    have hT := hR.1
    unfold totB at hT
    simp only [Bool.and_eq_true, decide_eq_true_eq] at hT
    have ha := W.sum
    have hlen := W.len
    rw [largest n w W hR.2 hT.1 hT.2 _ (by omega)]
    simp only [Option.bind_some]
    rw [if_pos trivial, rsum w (by omega) _ (by omega), wId w.sum (by omega) (by omega)]
    simp only [Option.bind_some]
    obtain ⟨F, hF, O⟩ := ordL_isOrd (w.map (rtL n w.sum))
    have hrl : (w.map (rtL n w.sum)).length = w.length := List.length_map ..
    have hql : (quoL n w.sum w).length = w.length := by unfold quoL; rw [List.length_map]
    have hFl : F.length = w.length := by rw [O.perm.length_eq, List.length_range, hrl]
    have hs := quoL_sum_le (n := n) W hT.1
    have hle := left_le (n := n) W hT.1
    have hm : leftV n w ≤ w.length := by unfold leftV; omega
    have hq0 : ∀ i, 0 ≤ (quoL n w.sum w).getD i 0 ∧ (quoL n w.sum w).getD i 0 ≤ 1048576000 := fun i => by
      rw [quoL_get]
      have := quo_bound hT.1 hT.2 (by omega : 0 < w.sum) (W.w0 i).1 (W.w0 i).2
      exact ⟨this.1, this.2.1⟩
    have hidx : ∀ x ∈ F.take (leftV n w), x < (quoL n w.sum w).length := fun x hx => by
      have := O.perm.mem_iff.mp (List.mem_of_mem_take hx)
      rw [List.mem_range, hrl] at this
      omega
    have hnd : (F.take (leftV n w)).Nodup := (O.perm.nodup_iff.mpr List.nodup_range).sublist (List.take_sublist _ _)
    have htl : (F.take (leftV n w)).length = leftV n w := by rw [List.length_take]; omega
    have hv : largestV n w = bumpL (quoL n w.sum w) ((F.take (leftV n w)).map (fun x : Nat => (x : Int))) := by
      unfold largestV
      rw [hF, List.map_take]
    have hsum : (largestV n w).sum = n := by
      rw [hv, bumpL_sum _ _ hidx (fun j => by have := hq0 j; omega), htl]
      unfold leftV
      omega
    have hll : (largestV n w).length = w.length := by rw [hv, bumpL_length]; exact hql
    have hfr := first_rest O (all := w.sum) (m := leftV n w) (by omega) (fun i => ⟨(rests_range W hT.1 hT.2 i).1, (rests_range W hT.1 hT.2 i).2.1⟩) (rests_sum W hT.1 hT.2)
    have hget : ∀ i, i < w.length → (largestV n w).getD i 0 = quo n w.sum (w.getD i 0) ∨ (largestV n w).getD i 0 = quo n w.sum (w.getD i 0) + 1 ∧ 0 < (w.map (rtL n w.sum)).getD i 0 := fun i _ => by
      rw [hv, bumpL_get _ _ i hnd hidx (fun j => by have := hq0 j; omega), quoL_get]
      by_cases e : i ∈ F.take (leftV n w)
      · rw [if_pos e]; exact Or.inr ⟨rfl, hfr i e⟩
      · rw [if_neg e]; exact Or.inl (by omega)
    rw [rsum _ (by omega) _ (by omega), hsum, wId n (by omega) (by omega)]
    simp only [Option.bind_some]
    rw [if_pos trivial, show (((largestV n w).length : Int) != (w.length : Int)) = false from bne_eq_false_iff_eq.mpr (by omega), show K + 500 = (K + 499) + 1 from rfl]
    simp only [dogwatchlaw03_AppoNear.j0]
    rw [if_neg (by decide)]
    exact near_l0 w _ n W hT.1 hT.2 hll hget w.length 0 _ (by omega) (by omega) (by omega)
end Go.Proofs.Ytimabnjdgdcmaaa.Pure
