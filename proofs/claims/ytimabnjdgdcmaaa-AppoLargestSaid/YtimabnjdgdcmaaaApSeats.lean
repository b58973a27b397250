/- Plain: what appo.Seats and the reference's Seats give. -/
import Derived.Test.YtimabnjdgdcmaaaApGive
namespace Go.Proofs.Ytimabnjdgdcmaaa.Pure
open Go.RowKit Go.Proofs.Ytimabnjdgdcmaaa.PApp Go.Proofs.YtimabnjdgdcmaaaW.PrintWords Go.Proofs.YtimabnjdgdcmaaaW.PrintLast
set_option linter.unusedVariables false
set_option linter.unusedSimpArgs false
theorem getD_le_sum : ∀ (l : List Int), (∀ i, 0 ≤ l.getD i 0) → ∀ i, l.getD i 0 ≤ l.sum ∧ 0 ≤ l.sum
  | [], _, i => by simp
  | x :: t, h, i => by
    have h0 := h 0
    have ih := getD_le_sum t (fun j => h (j + 1))
    simp only [List.getD_cons_zero] at h0
    simp only [List.sum_cons]
    cases i with
    | zero => have := (ih 0).2; simp only [List.getD_cons_zero]; omega
    | succ i => have := ih i; simp only [List.getD_cons_succ]; omega
theorem sum_bound : ∀ (l : List Int) (B : Int), (∀ i, 0 ≤ l.getD i 0 ∧ l.getD i 0 ≤ B) → 0 ≤ l.sum ∧ l.sum ≤ B * l.length
  | [], B, _ => by simp
  | x :: t, B, h => by
    have h0 := h 0
    have ih := sum_bound t B (fun j => h (j + 1))
    simp only [List.getD_cons_zero] at h0
    simp only [List.sum_cons, List.length_cons]
    rw [show B * ((t.length + 1 : Nat) : Int) = B * (t.length : Int) + B by rw [Int.natCast_add, Int.mul_add]; simp]
    omega
theorem take_getD (l : List Int) (n i : Nat) : (l.take n).getD i 0 = if i < n then l.getD i 0 else 0 := by
  rw [List.getD_eq_getElem?_getD, List.getElem?_take]
  split
  · rw [List.getD_eq_getElem?_getD]
  · rfl
theorem take_sum (l : List Int) (n : Nat) (hn : n < l.length) : (l.take (n + 1)).sum = (l.take n).sum + l.getD n 0 := by
  rw [List.take_add_one, List.getElem?_eq_getElem hn, List.sum_append, List.getD_eq_getElem?_getD, List.getElem?_eq_getElem hn]
  simp
structure Wt (w : List Int) : Prop where
  len : w.length ≤ 64
  w0 : ∀ i, 0 ≤ w.getD i 0 ∧ w.getD i 0 ≤ 1000
  pos : ∃ i, i < w.length ∧ 1 ≤ w.getD i 0
theorem Wt.of (w : List Int) (h : Rt w = true) : Wt w := by
  unfold Rt at h
  simp only [Bool.and_eq_true, decide_eq_true_eq, List.all_eq_true, List.any_eq_true] at h
  obtain ⟨⟨h1, x, hx, hp⟩, h3⟩ := h
  refine ⟨h3, fun i => ?_, ?_⟩
  · by_cases hi : i < w.length
    · have := h1 _ (List.getElem_mem hi)
      rw [List.getD_eq_getElem?_getD, List.getElem?_eq_getElem hi]
      unfold okW at this
      simp only [Bool.and_eq_true, decide_eq_true_eq] at this
      exact this
    · rw [List.getD_eq_getElem?_getD, List.getElem?_eq_none (by omega)]
      exact ⟨Int.le_refl _, by decide⟩
  · obtain ⟨i, hi, rfl⟩ := List.getElem_of_mem hx
    refine ⟨i, hi, ?_⟩
    rw [List.getD_eq_getElem?_getD, List.getElem?_eq_getElem hi]
    unfold posW at hp
    exact of_decide_eq_true hp
theorem Wt.sum {w : List Int} (W : Wt w) : 1 ≤ w.sum ∧ w.sum ≤ 64000 := by
  obtain ⟨i, hi, h1⟩ := W.pos
  have a := getD_le_sum w (fun j => (W.w0 j).1) i
  have b := sum_bound w 1000 W.w0
  have := W.len
  omega
def zerosL (n : Nat) : List Int := List.replicate n 0
theorem zeros_get (n i : Nat) : (zerosL n).getD i 0 = 0 := by
  unfold zerosL
  rw [List.getD_eq_getElem?_getD, List.getElem?_replicate]
  split <;> rfl
theorem zeros_sum (n : Nat) : (zerosL n).sum = 0 := by
  unfold zerosL
  induction n with
  | zero => rfl
  | succ n ih => rw [List.replicate_succ, List.sum_cons, ih]; rfl
theorem Wt.gs {w : List Int} (W : Wt w) : Gs w (zerosL w.length) 0 := ⟨by simp [zerosL], W.w0, fun i => by rw [zeros_get]; omega⟩
theorem quo_bound {n all x : Int} (hn : 0 ≤ n) (hn1 : n ≤ 1048576) (ha : 0 < all) (hx : 0 ≤ x) (hx1 : x ≤ 1000) : 0 ≤ quo n all x ∧ quo n all x ≤ 1048576000 ∧ mx 0 (wrap64 (Int.tdiv (wrap64 (n * x)) all)) = quo n all x := by
  have p0 : 0 ≤ n * x := Int.mul_nonneg hn hx
  have p1 : n * x ≤ 1048576 * 1000 := Int.mul_le_mul hn1 hx1 hx (by omega)
  have q0 : 0 ≤ n * x / all := Int.ediv_nonneg p0 (by omega)
  have q1 : n * x / all ≤ n * x := Int.ediv_le_self _ p0
  refine ⟨q0, by unfold quo; omega, ?_⟩
  rw [wId (n * x) (by omega) (by omega), Int.tdiv_eq_ediv_of_nonneg p0, wId _ (by omega) (by omega)]
  unfold mx quo
  split <;> omega
theorem quoL_sum_le {w : List Int} {n : Int} (W : Wt w) (hn : 0 ≤ n) : (quoL n w.sum w).sum ≤ n := by
  have ha := W.sum
  have key : ∀ (l : List Int), (quoL n w.sum l).sum * w.sum ≤ n * l.sum := by
    intro l
    induction l with
    | nil => simp [quoL]
    | cons x t ih =>
      show (quo n w.sum x + (quoL n w.sum t).sum) * w.sum ≤ n * (x + t.sum)
      rw [Int.add_mul, Int.mul_add]
      have : quo n w.sum x * w.sum ≤ n * x := by unfold quo; exact Int.ediv_mul_le _ (by omega)
      omega
  exact Int.le_of_mul_le_mul_right (key w) (by omega)
theorem seats_l1 (w : List Int) (W : Wt w) (L : Nat) (hL : L ≤ 1048576) : ∀ (m j k : Nat) (h : List Int) (B : Int), L - j = m → j ≤ L → m + 2 * w.length + 3 < k → Gs w h B → B + m < 549755813888 →
    appo_Seats.l1 k w h (L : Int) (j : Int) = some (give w m h, 0) := by
  intro m
  induction m with
  | zero =>
    intro j k h B hm hj hk G hB
    obtain ⟨k, rfl⟩ : ∃ k', k = k' + 1 := ⟨k - 1, by omega⟩
    simp only [appo_Seats.l1]
    rw [if_neg (by omega)]
    rfl
  | succ m ih =>
    intro j k h B hm hj hk G hB
    obtain ⟨k, rfl⟩ : ∃ k', k = k' + 1 := ⟨k - 1, by omega⟩
    obtain ⟨b, e, hb, _⟩ := nextO_min G (by omega) W.pos
    have hb' : b < h.length := by rw [G.len]; exact hb
    have hbB := G.h0 b
    simp only [appo_Seats.l1]
    rw [if_pos (by omega), next w h (by have := W.len; omega) k (by omega), e]
    simp only [Option.bind_some]
    rw [show encB (some b) = (b : Int) from rfl, if_pos (by omega), if_pos (by omega), Int.toNat_natCast, rdD, wId (h.getD b 0 + 1) (by omega) (by omega), wS j (by omega)]
    have := ih (j + 1) k (bumpN h b) (B + 1) (by omega) (by omega) (by omega) (G.bump b hb') (by omega)
    rw [show give w (m + 1) h = give w m (bumpN h b) by show give w m (bumpN h (nxt w h)) = _; rw [nxt_of e]]
    exact this
theorem seats_l0 (w : List Int) (W : Wt w) (n : Int) (hn : 0 ≤ n) (hn1 : n ≤ 1048576) (Lf : Nat) (hLf : n - (quoL n w.sum w).sum = (Lf : Int)) : ∀ (m i k : Nat), w.length - i = m → i ≤ w.length → m + Lf + 2 * w.length + 4 < k →
    appo_Seats.l0 k n w ((quoL n w.sum w).take i ++ zerosL (w.length - i)) w.sum (n - ((quoL n w.sum w).take i).sum) w (w.length : Int) (i : Int) = some (give w Lf (quoL n w.sum w), 0) := by
  have ha := W.sum
  have hql : (quoL n w.sum w).length = w.length := by unfold quoL; rw [List.length_map]
  have hq0 : ∀ i, 0 ≤ (quoL n w.sum w).getD i 0 ∧ (quoL n w.sum w).getD i 0 ≤ 1048576000 := fun i => by
    rw [quoL_get]
    have := quo_bound hn hn1 (by omega : 0 < w.sum) (W.w0 i).1 (W.w0 i).2
    exact ⟨this.1, this.2.1⟩
  have hlen := W.len
  intro m
  induction m with
  | zero =>
    intro i k hm hi hk
    obtain ⟨k, rfl⟩ : ∃ k', k = k' + 1 := ⟨k - 1, by omega⟩
    have hil : i = w.length := by omega
    subst hil
    simp only [appo_Seats.l0]
    rw [if_neg (by omega), Nat.sub_self, List.take_of_length_le (by omega), hLf, show zerosL 0 = [] from rfl, List.append_nil]
    have hs := quoL_sum_le (n := n) W hn
    have hs0 := (sum_bound _ _ hq0).1
    have G : Gs w (quoL n w.sum w) 1048576000 := ⟨hql, W.w0, hq0⟩
    exact seats_l1 w W Lf (by omega) Lf 0 k _ _ (by omega) (by omega) (by omega) G (by omega)
  | succ m ih =>
    intro i k hm hi hk
    obtain ⟨k, rfl⟩ : ∃ k', k = k' + 1 := ⟨k - 1, by omega⟩
    have hlt : i < w.length := by omega
    have hyl : ((quoL n w.sum w).take i ++ zerosL (w.length - i)).length = w.length := by simp [zerosL, hql]; omega
    have hset : ((quoL n w.sum w).take i ++ zerosL (w.length - i)).set i (quo n w.sum (w.getD i 0)) = (quoL n w.sum w).take (i + 1) ++ zerosL (w.length - (i + 1)) := by
      have := fillL_set (quoL n w.sum w) i (by omega)
      rw [quoL_get] at this
      unfold fillL at this
      rw [hql] at this
      exact this
    have hb := quo_bound hn hn1 (by omega : 0 < w.sum) (W.w0 i).1 (W.w0 i).2
    simp only [appo_Seats.l0]
    rw [if_pos (by omega), if_pos (by omega), if_pos (by omega), if_neg (by omega), if_pos (by rw [hyl]; omega)]
    simp only [Option.bind_some]
    rw [rdD w i, hb.2.2, Int.toNat_natCast, hset, wS i (by omega), rdD]
    have hg : ((quoL n w.sum w).take (i + 1) ++ zerosL (w.length - (i + 1))).getD i 0 = quo n w.sum (w.getD i 0) := by
      rw [← hset, List.getD_eq_getElem?_getD, List.getElem?_set_self (by rw [hyl]; exact hlt)]
      rfl
    rw [hg]
    have hts := take_sum (quoL n w.sum w) i (by omega)
    rw [quoL_get] at hts
    have hp := (sum_bound ((quoL n w.sum w).take (i + 1)) 1048576000 (fun j => by rw [take_getD]; split; exact hq0 j; omega))
    have hpl : ((quoL n w.sum w).take (i + 1)).length ≤ 64 := by rw [List.length_take]; omega
    rw [show wrap64 (n - ((quoL n w.sum w).take i).sum - quo n w.sum (w.getD i 0)) = n - ((quoL n w.sum w).take (i + 1)).sum by rw [wId _ (by omega) (by omega)]; omega]
    exact ih (i + 1) k (by omega) (by omega) (by omega)
def totB (n : Int) : Bool := decide (0 ≤ n) && decide (n ≤ 1048576)
theorem arGood (k : Nat) (n : Int) (w : List Int) (hw : w.length < 4611686018427387904) (hk : w.length + 2 ≤ k) : appo_right.f k n w = some (totB n && Rt w) := by
  unfold appo_right.f totB
  by_cases h1 : n ≥ 0
  · rw [if_pos h1]
    by_cases h2 : n ≤ 1048576
    · rw [if_pos h2, check w hw k hk]
      simp only [Option.bind_some]
      cases Rt w <;> simp [h1, h2]
    · rw [if_neg h2]; simp [h2]
  · rw [if_neg h1]; simp [h1]
/-- What is given one by one. -/
def seatsV (n : Int) (w : List Int) : List Int := give w n.toNat (zerosL w.length)
theorem seats_split (n : Int) (w : List Int) (W : Wt w) (hn : 0 ≤ n) (hn1 : n ≤ 1048576) : seatsV n w = give w (n - (quoL n w.sum w).sum).toNat (quoL n w.sum w) := by
  have ha := W.sum
  have hs := quoL_sum_le (n := n) W hn
  have hq0 : ∀ i, 0 ≤ (quoL n w.sum w).getD i 0 ∧ (quoL n w.sum w).getD i 0 ≤ 1048576000 := fun i => by
    rw [quoL_get]
    have := quo_bound hn hn1 (by omega : 0 < w.sum) (W.w0 i).1 (W.w0 i).2
    exact ⟨this.1, this.2.1⟩
  have hs0 := (sum_bound _ _ hq0).1
  have hg := give_quo hn (by omega : 0 < w.sum) W.pos (quoL n w.sum w).sum.toNat (zerosL w.length) 0 W.gs (by omega) (fun i => by rw [zeros_get]; exact (hq0 i).1) (by rw [zeros_sum]; omega)
  unfold seatsV
  rw [show n.toNat = (quoL n w.sum w).sum.toNat + (n - (quoL n w.sum w).sum).toNat by omega, give_add, hg]
theorem seats (n : Int) (w : List Int) (hw : w.length < 35184372088832) (k : Nat) (hk : n.toNat + 4 * w.length + 20 ≤ k) :
    appo_Seats.f k n w = some (if (totB n && Rt w) = true then (seatsV n w, 0) else ([], 1)) := by
  unfold appo_Seats.f
  rw [arGood k n w (by omega) (by omega)]
  simp only [Option.bind_some]
  cases hR : (totB n && Rt w) with
  | false => rw [if_neg (by decide)]; rfl
  | true =>
    rw [if_pos rfl]
    simp only [Bool.and_eq_true] at hR
    have W := Wt.of w hR.2
    have hn := hR.1
    unfold totB at hn
    simp only [Bool.and_eq_true, decide_eq_true_eq] at hn
    have ha := W.sum
    have hs := quoL_sum_le (n := n) W hn.1
    rw [if_pos (by omega), if_pos (by rw [Int.toNat_natCast]; omega), sum w (by omega) k (by omega), wId w.sum (by omega) (by omega)]
    simp only [Option.bind_some]
    have hq0 : ∀ i, 0 ≤ (quoL n w.sum w).getD i 0 ∧ (quoL n w.sum w).getD i 0 ≤ 1048576000 := fun i => by
      rw [quoL_get]
      have := quo_bound hn.1 hn.2 (by omega : 0 < w.sum) (W.w0 i).1 (W.w0 i).2
      exact ⟨this.1, this.2.1⟩
    have hs0 := (sum_bound _ _ hq0).1
    have := seats_l0 w W n hn.1 hn.2 (n - (quoL n w.sum w).sum).toNat (by omega) w.length 0 k (by omega) (by omega) (by omega)
    rw [List.take_zero, List.nil_append, Nat.sub_zero, List.sum_nil, Int.sub_zero] at this
    rw [Int.toNat_natCast, if_pos trivial, seats_split n w W hn.1 hn.2]
    exact this
theorem rseats_l0 (w : List Int) (W : Wt w) (n : Nat) (hn : n ≤ 1048576) : ∀ (m j k : Nat) (h : List Int) (B : Int), n - j = m → j ≤ n → m + 3 * w.length + 5 < k → Gs w h B → B + m < 549755813888 →
    dogwatchref03_Seats.l0 k (n : Int) w h (j : Int) = some (give w m h) := by
  intro m
  induction m with
  | zero =>
    intro j k h B hm hj hk G hB
    obtain ⟨k, rfl⟩ : ∃ k', k = k' + 1 := ⟨k - 1, by omega⟩
    simp only [dogwatchref03_Seats.l0]
    rw [if_neg (by omega)]
    rfl
  | succ m ih =>
    intro j k h B hm hj hk G hB
    obtain ⟨k, rfl⟩ : ∃ k', k = k' + 1 := ⟨k - 1, by omega⟩
    obtain ⟨b, e, hb, _⟩ := nextO_min G (by omega) W.pos
    have hb' : b < h.length := by rw [G.len]; exact hb
    have hbB := G.h0 b
    simp only [dogwatchref03_Seats.l0]
    rw [if_pos (by omega), rnext w h (by have := W.len; omega) k (by omega), e]
    simp only [Option.bind_some]
    rw [if_pos (show (some b).isSome = true from rfl), show encB (some b) = (b : Int) from rfl, if_pos (by omega), if_pos (by omega), Int.toNat_natCast, rdD, wId (h.getD b 0 + 1) (by omega) (by omega), wS j (by omega)]
    have := ih (j + 1) k (bumpN h b) (B + 1) (by omega) (by omega) (by omega) (G.bump b hb') (by omega)
    rw [show give w (m + 1) h = give w m (bumpN h b) by show give w m (bumpN h (nxt w h)) = _; rw [nxt_of e]]
    exact this
theorem rseats (n : Int) (w : List Int) (W : Wt w) (hn : 0 ≤ n) (hn1 : n ≤ 1048576) (k : Nat) (hk : n.toNat + 4 * w.length + 20 ≤ k) :
    dogwatchref03_Seats.f k n w = some (seatsV n w) := by
  have hlen := W.len
  obtain ⟨N, rfl⟩ := Int.eq_ofNat_of_zero_le hn
  unfold dogwatchref03_Seats.f seatsV
  rw [if_pos (by omega), if_pos (by rw [Int.toNat_natCast]; omega), Int.toNat_natCast, Int.toNat_natCast]
  exact rseats_l0 w W N (by omega) N 0 k (zerosL w.length) 0 (by omega) (by omega) (by omega) W.gs (by omega)
end Go.Proofs.Ytimabnjdgdcmaaa.Pure
