/- Plain: what appo.Largest gives; whole quotas. -/
import Derived.Test.YtimabnjdgdcmaaaApSeats
import Derived.Test.YtimabnjdgdcmaaaPAppx9
namespace Go.Proofs.Ytimabnjdgdcmaaa.Pure
open Go.RowKit Go.Proofs.Ytimabnjdgdcmaaa.PApp Go.Proofs.YtimabnjdgdcmaaaW.PrintWords Go.Proofs.YtimabnjdgdcmaaaW.PrintLast
set_option linter.unusedVariables false
set_option linter.unusedSimpArgs false
theorem qtL_quo {n all x : Int} (hn : 0 ≤ n) (hn1 : n ≤ 1048576) (ha : 0 < all) (hx : 0 ≤ x) (hx1 : x ≤ 1000) : qtL n all x = quo n all x := by
  have p0 : 0 ≤ n * x := Int.mul_nonneg hn hx
  have p1 : n * x ≤ 1048576 * 1000 := Int.mul_le_mul hn1 hx1 hx (by omega)
  have q0 : 0 ≤ n * x / all := Int.ediv_nonneg p0 (by omega)
  have q1 : n * x / all ≤ n * x := Int.ediv_le_self _ p0
  unfold qtL quo
  rw [wId (n * x) (by omega) (by omega), Int.tdiv_eq_ediv_of_nonneg p0, wId _ (by omega) (by omega)]
theorem rtL_rest {n all x : Int} (hn : 0 ≤ n) (hn1 : n ≤ 1048576) (ha : 0 < all) (hx : 0 ≤ x) (hx1 : x ≤ 1000) : rtL n all x = n * x % all := by
  have p0 : 0 ≤ n * x := Int.mul_nonneg hn hx
  have p1 : n * x ≤ 1048576 * 1000 := Int.mul_le_mul hn1 hx1 hx (by omega)
  unfold rtL
  rw [wId (n * x) (by omega) (by omega), Int.tmod_eq_emod_of_nonneg p0]
theorem Wt.mem {w : List Int} (W : Wt w) {x : Int} (hx : x ∈ w) : 0 ≤ x ∧ x ≤ 1000 := by
  obtain ⟨i, hi, rfl⟩ := List.getElem_of_mem hx
  have := W.w0 i
  rw [List.getD_eq_getElem?_getD, List.getElem?_eq_getElem hi] at this
  exact this
theorem outs_quo {w : List Int} {n : Int} (W : Wt w) (hn : 0 ≤ n) (hn1 : n ≤ 1048576) : w.map (qtL n w.sum) = quoL n w.sum w := by
  unfold quoL
  refine List.map_congr_left (fun x hx => ?_)
  have := W.mem hx
  have := W.sum
  exact qtL_quo hn hn1 (by omega) (W.mem hx).1 (W.mem hx).2
theorem leftL_sum {n all : Int} (hall : 0 < all) (hn : 0 ≤ n) (hn1 : n ≤ 1048576) : ∀ (l : List Int) (s : Int), (∀ x ∈ l, 0 ≤ x ∧ x ≤ 1000) → l.length ≤ 64 → -100000000000 ≤ s - (quoL n all l).sum → s ≤ 1048576 →
    l.foldl (fun s x => wrap64 (s - qtL n all x)) s = s - (quoL n all l).sum
  | [], s, _, _, _, _ => by simp [quoL]
  | x :: t, s, hx, hl, hb, hs => by
    have h1 := hx x (by simp)
    have hq := quo_bound hn hn1 hall h1.1 h1.2
    have hs0 : 0 ≤ (quoL n all t).sum := by
      have := (sum_bound (quoL n all t) 1048576000 (fun i => by
        rw [quoL_get]
        by_cases hi : i < t.length
        · have := hx _ (List.mem_cons_of_mem _ (List.getElem_mem hi))
          rw [List.getD_eq_getElem?_getD, List.getElem?_eq_getElem hi]
          have := quo_bound hn hn1 hall this.1 this.2
          exact ⟨this.1, this.2.1⟩
        · rw [List.getD_eq_getElem?_getD, List.getElem?_eq_none (by omega)]
          simp [quo])).1
      exact this
    have hc : (quoL n all (x :: t)).sum = quo n all x + (quoL n all t).sum := by simp [quoL]
    rw [hc] at hb ⊢
    rw [List.foldl_cons, qtL_quo hn hn1 hall h1.1 h1.2, wId (s - quo n all x) (by omega) (by omega)]
    rw [leftL_sum hall hn hn1 t _ (fun y hy => hx y (by simp [hy])) (by simp at hl; omega) (by omega) (by omega)]
    omega
/-- What is left behind the quotas, rounded down. -/
def leftV (n : Int) (w : List Int) : Nat := (n - (quoL n w.sum w).sum).toNat
def largestV (n : Int) (w : List Int) : List Int := bumpL (quoL n w.sum w) ((ordL (w.map (rtL n w.sum))).take (leftV n w))
theorem left_le {w : List Int} {n : Int} (W : Wt w) (hn : 0 ≤ n) : n - (quoL n w.sum w).sum ≤ w.length := by
  have ha := W.sum
  have key : ∀ (l : List Int), n * l.sum ≤ ((quoL n w.sum l).sum + l.length) * w.sum := by
    intro l
    induction l with
    | nil => simp [quoL]
    | cons x t ih =>
      show n * (x + t.sum) ≤ (quo n w.sum x + (quoL n w.sum t).sum + ((t.length + 1 : Nat) : Int)) * w.sum
      have h1 : n * x < (quo n w.sum x + 1) * w.sum := by unfold quo; exact Int.lt_ediv_add_one_mul_self _ (by omega)
      rw [Int.mul_add, show quo n w.sum x + (quoL n w.sum t).sum + ((t.length + 1 : Nat) : Int) = (quo n w.sum x + 1) + ((quoL n w.sum t).sum + (t.length : Int)) by omega, Int.add_mul]
      omega
  have := Int.le_of_mul_le_mul_right (key w) (by omega : 0 < w.sum)
  omega
theorem largest (n : Int) (w : List Int) (W : Wt w) (hR : Rt w = true) (hn : 0 ≤ n) (hn1 : n ≤ 1048576) (k : Nat) (hk : w.length + 10 ≤ k) :
    appo_Largest.f k n w = some (largestV n w, 0) := by
  have ha := W.sum
  have hlen := W.len
  have hs := quoL_sum_le (n := n) W hn
  have hl := left_le (n := n) W hn
  have hpos : 0 < w.length := by obtain ⟨i, hi, _⟩ := W.pos; omega
  unfold appo_Largest.f
  rw [arGood k n w (by omega) (by omega), hR]
  have hT : totB n = true := by unfold totB; simp only [Bool.and_eq_true, decide_eq_true_eq]; omega
  rw [hT]
  simp only [Option.bind_some]
  rw [if_pos (by decide), if_pos ⟨hpos, hlen⟩, sum w (by omega) k (by omega), wId w.sum (by omega) (by omega)]
  simp only [Option.bind_some]
  rw [if_neg (by omega)]
  have hq0 : ∀ i, 0 ≤ (quoL n w.sum w).getD i 0 ∧ (quoL n w.sum w).getD i 0 ≤ 1048576000 := fun i => by
    rw [quoL_get]
    have := quo_bound hn hn1 (by omega : 0 < w.sum) (W.w0 i).1 (W.w0 i).2
    exact ⟨this.1, this.2.1⟩
  have hsb := sum_bound _ _ hq0
  have hql : (quoL n w.sum w).length = w.length := by unfold quoL; rw [List.length_map]
  have hL : leftL n w.sum w = n - (quoL n w.sum w).sum := leftL_sum (by omega) hn hn1 w n (fun x hx => W.mem hx) hlen (by omega) hn1
  rw [hL, if_pos ⟨by omega, by omega⟩, outs_quo W hn hn1]
  rfl
theorem whole {w : List Int} {c : Int} (W : Wt w) : quoL (c * w.sum) w.sum w = w.map (fun x => c * x) := by
  have ha := W.sum
  unfold quoL
  refine List.map_congr_left (fun x _ => ?_)
  unfold quo
  rw [Int.mul_assoc, Int.mul_comm w.sum x, ← Int.mul_assoc, Int.mul_ediv_cancel _ (by omega)]
theorem sum_mul (c : Int) : ∀ (w : List Int), (w.map (fun x => c * x)).sum = c * w.sum
  | [] => by simp
  | x :: t => by simp only [List.map_cons, List.sum_cons, sum_mul c t, Int.mul_add]
theorem whole_sum {w : List Int} {c : Int} (W : Wt w) : (quoL (c * w.sum) w.sum w).sum = c * w.sum := by rw [whole W, sum_mul]
end Go.Proofs.Ytimabnjdgdcmaaa.Pure
