/- What any weights get of any total by their quotas is what the reference gives, or they get nothing; for every input. -/
import Derived.Test.YtimabnjdgdcmaaaPAppx5
import Derived.Test.YtimabnjdgdcmaaaApOrd
namespace Go.Proofs.Ytimabnjdgdcmaaa.Pure
open Go.RowKit Go.Proofs.Ytimabnjdgdcmaaa.PApp Go.Proofs.YtimabnjdgdcmaaaW.PrintWords Go.Proofs.YtimabnjdgdcmaaaW.PrintLast
set_option linter.unusedVariables false
set_option linter.unusedSimpArgs false
theorem rests_getL (n all : Int) (w : List Int) (i : Nat) : (w.map (rtL n all)).getD i 0 = rtL n all (w.getD i 0) := by
  rw [List.getD_eq_getElem?_getD, List.getD_eq_getElem?_getD, List.getElem?_map]
  cases w[i]? with
  | none => simp [rtL, wId 0 (by decide) (by decide)]
  | some x => rfl
theorem total5 (x : Int) : dogwatchlaw03_total.f x = some (totB x) := by
  unfold dogwatchlaw03_total.f totB
  by_cases h : x ≥ 0
  · rw [if_pos h]; simp [h]
  · rw [if_neg h]; simp [h]
theorem rdOfD (l : List Bool) (i : Nat) : rdOf false l (i : Int) = l.getD i false := by simp [rdOf]
def moreL (n : Nat) (T : List Nat) : List Bool := (List.range n).map (fun i => decide (i ∈ T))
theorem moreL_get (n : Nat) (T : List Nat) (i : Nat) (h : i < n) : (moreL n T).getD i false = decide (i ∈ T) := by
  unfold moreL
  rw [List.getD_eq_getElem?_getD, List.getElem?_map, List.getElem?_range h]
  rfl
theorem moreL_set (n : Nat) (T : List Nat) (b : Nat) (h : b < n) : (moreL n T).set b true = moreL n (T ++ [b]) := by
  unfold moreL
  apply List.ext_getElem
  · simp
  · intro i h1 h2
    rw [List.getElem_set, List.getElem_map, List.getElem_map, List.getElem_range]
    by_cases e : b = i
    · subst e; simp
    · rw [if_neg e]
      have : i ≠ b := fun x => e x.symm
      simp [this]
/-- The best so far: of those that aren't taken below i, the greatest rest, the first of equal ones. -/
def BestP (rs : List Int) (T : List Nat) (i : Nat) (best : Option Nat) : Prop :=
  (best = none → ∀ j, j < i → j ∈ T) ∧
  (∀ b, best = some b → b < i ∧ b ∉ T ∧ ∀ j, j < i → j ∉ T → rs.getD j 0 < rs.getD b 0 ∨ rs.getD j 0 = rs.getD b 0 ∧ b ≤ j)
theorem scan (x0 : Int) (w : List Int) (all : Int) (hall : all ≠ 0) (hlen : w.length ≤ 64) (out : List Int) (T : List Nat) (left : Int) (R : List Int) (K1 v : Nat) (hol : out.length = w.length)
    (hv : ∀ b, BestP (w.map (rtL x0 all)) T w.length b → b = some v) (hvl : v < w.length)
    (Hfin : ∀ k', K1 ≤ k' → dogwatchref03_Largest.l1 k' x0 w all (out.set v (wrap64 (out.getD v 0 + 1))) ((moreL w.length T).set v true) (wrap64 (left - 1)) = some R) :
    ∀ (q i k : Nat) (best : Option Nat), w.length - i = q → i ≤ w.length → K1 + q < k → BestP (w.map (rtL x0 all)) T i best →
      dogwatchref03_Largest.l2 k x0 w all out (moreL w.length T) left (encR best) (i : Int) = some R := by
  have hml : (moreL w.length T).length = w.length := by simp [moreL]
  intro q
  induction q with
  | zero =>
    intro i k best hq hi hk hP
    obtain ⟨k, rfl⟩ : ∃ k', k = k' + 1 := ⟨k - 1, by omega⟩
    obtain rfl : i = w.length := by omega
    obtain rfl := hv best hP
    simp only [dogwatchref03_Largest.l2]
    rw [if_neg (by omega), show encR (some v) = (v : Int) from rfl, if_neg (by omega), if_pos (by omega), if_pos (by omega), if_pos (by omega), Int.toNat_natCast, rdD]
    exact Hfin k (by omega)
  | succ q ih =>
    intro i k best hq hi hk hP
    obtain ⟨k, rfl⟩ : ∃ k', k = k' + 1 := ⟨k - 1, by omega⟩
    have hlt : i < w.length := by omega
    have hrr : ∀ j, Int.tmod (wrap64 (x0 * w.getD j 0)) all = (w.map (rtL x0 all)).getD j 0 := fun j => by rw [rests_getL]; rfl
    simp only [dogwatchref03_Largest.l2]
    rw [if_pos (by omega), if_pos (by omega), if_pos (by omega), rdOfD, moreL_get _ _ _ hlt, wS i (by omega)]
    by_cases hT : i ∈ T
    · rw [if_pos (decide_eq_true hT)]
      refine ih (i + 1) k best (by omega) (by omega) (by omega) ⟨fun e j hj => ?_, fun b e => ?_⟩
      · rcases Nat.lt_or_eq_of_le (Nat.le_of_lt_succ hj) with hj | rfl
        · exact hP.1 e j hj
        · exact hT
      · obtain ⟨a1, a2, a3⟩ := hP.2 b e
        refine ⟨by omega, a2, fun j hj hjT => ?_⟩
        rcases Nat.lt_or_eq_of_le (Nat.le_of_lt_succ hj) with hj | rfl
        · exact a3 j hj hjT
        · exact absurd hT hjT
    · rw [if_neg (by rw [decide_eq_false hT]; decide)]
      cases best with
      | none =>
        rw [if_pos (by decide)]
        refine ih (i + 1) k (some i) (by omega) (by omega) (by omega) ⟨fun e => (by cases e), fun b e => ?_⟩
        cases e
        refine ⟨by omega, hT, fun j hj hjT => ?_⟩
        rcases Nat.lt_or_eq_of_le (Nat.le_of_lt_succ hj) with hj | rfl
        · exact absurd (hP.1 rfl j hj) hjT
        · exact Or.inr ⟨rfl, Nat.le_refl _⟩
      | some b =>
        obtain ⟨a1, a2, a3⟩ := hP.2 b rfl
        rw [show encR (some b) = (b : Int) from rfl, if_neg (by omega), if_neg hall, if_pos (by omega), if_pos (by omega), rdD, rdD, hrr, hrr]
        by_cases hc : (w.map (rtL x0 all)).getD i 0 > (w.map (rtL x0 all)).getD b 0
        · rw [if_pos hc]
          refine ih (i + 1) k (some i) (by omega) (by omega) (by omega) ⟨fun e => (by cases e), fun b' e => ?_⟩
          cases e
          refine ⟨by omega, hT, fun j hj hjT => ?_⟩
          rcases Nat.lt_or_eq_of_le (Nat.le_of_lt_succ hj) with hj | rfl
          · rcases a3 j hj hjT with h | h
            · exact Or.inl (by omega)
            · exact Or.inl (by omega)
          · exact Or.inr ⟨rfl, Nat.le_refl _⟩
        · rw [if_neg hc]
          refine ih (i + 1) k (some b) (by omega) (by omega) (by omega) ⟨fun e => (by cases e), fun b' e => ?_⟩
          cases e
          refine ⟨by omega, a2, fun j hj hjT => ?_⟩
          rcases Nat.lt_or_eq_of_le (Nat.le_of_lt_succ hj) with hj | rfl
          · exact a3 j hj hjT
          · rcases Int.lt_or_eq_of_le (Int.not_lt.mp hc) with h | h
            · exact Or.inl h
            · exact Or.inr ⟨h, by omega⟩
theorem picks (x0 : Int) (w : List Int) (all : Int) (hall : all ≠ 0) (hlen : w.length ≤ 64) (q : List Int) (hq : q.length = w.length) (F : List Nat) (O : IsOrd (w.map (rtL x0 all)) F) (m : Nat) (hm : m ≤ w.length) :
    ∀ (r t k : Nat), m - t = r → t ≤ m → r * 70 + 40 < k →
      dogwatchref03_Largest.l1 k x0 w all (bumpL q ((F.map (fun x : Nat => (x : Int))).take t)) (moreL w.length (F.take t)) ((m - t : Nat) : Int) = some (bumpL q ((F.map (fun x : Nat => (x : Int))).take m)) := by
  have hrl : (w.map (rtL x0 all)).length = w.length := List.length_map ..
  have hFl : F.length = w.length := by rw [O.perm.length_eq, List.length_range, hrl]
  have hFm : ∀ x, x ∈ F ↔ x < w.length := fun x => by rw [O.perm.mem_iff, List.mem_range, hrl]
  have hnd : F.Nodup := O.perm.nodup_iff.mpr List.nodup_range
  intro r
  induction r with
  | zero =>
    intro t k hr ht hk
    obtain ⟨k, rfl⟩ : ∃ k', k = k' + 1 := ⟨k - 1, by omega⟩
    obtain rfl : t = m := by omega
    simp only [dogwatchref03_Largest.l1]
    rw [if_neg (by omega)]
  | succ r ih =>
    intro t k hr ht hk
    obtain ⟨k, rfl⟩ : ∃ k', k = k' + 1 := ⟨k - 1, by omega⟩
    have htF : t < F.length := by omega
    have hvl : F[t] < w.length := (hFm _).mp (List.getElem_mem htF)
    have hvT : F[t] ∉ F.take t := fun hmem => by
      have := hnd
      rw [← List.take_append_drop t F, List.drop_eq_getElem_cons htF] at this
      exact (List.nodup_append.mp this).2.2 F[t] hmem F[t] List.mem_cons_self rfl
    simp only [dogwatchref03_Largest.l1]
    rw [if_pos (by omega)]
    refine scan x0 w all hall hlen _ (F.take t) _ _ (r * 70 + 41) F[t] (by rw [bumpL_length]; exact hq) ?_ hvl ?_ w.length 0 k none (by omega) (by omega) (by omega) ⟨fun _ j hj => by omega, fun b e => by cases e⟩
    · intro b hP
      cases b with
      | none => exact absurd (hP.1 rfl F[t] hvl) hvT
      | some b =>
        obtain ⟨b1, b2, b3⟩ := hP.2 b rfl
        have hbF := (hFm b).mpr b1
        rw [← List.take_append_drop t F, List.drop_eq_getElem_cons htF] at hbF
        rcases List.mem_append.mp hbF with h | h
        · exact absurd h b2
        · rcases List.mem_cons.mp h with h | h
          · rw [h]
          · have hpw := O.ord
            rw [← List.take_append_drop t F, List.drop_eq_getElem_cons htF] at hpw
            have h1 := (List.pairwise_cons.mp (List.pairwise_append.mp hpw).2.1).1 b h
            have h2 := b3 F[t] hvl hvT
            omega
    · intro k' hk'
      have e1 := bumpL_step q (F.map (fun x : Nat => (x : Int))) t (by rw [List.length_map]; exact htF) F[t] (by
        rw [List.getD_eq_getElem?_getD, List.getElem?_map, List.getElem?_eq_getElem htF]; rfl)
      rw [← e1, moreL_set _ _ _ hvl, List.take_append_getElem htF, show wrap64 (((m - t : Nat) : Int) - 1) = ((m - (t + 1) : Nat) : Int) by rw [wId _ (by omega) (by omega)]; omega]
      exact ih (t + 1) k' (by omega) (by omega) (by omega)
theorem rlargest_l0 (w : List Int) (W : Wt w) (n : Int) (hn : 0 ≤ n) (hn1 : n ≤ 1048576) : ∀ (m i k : Nat), w.length - i = m → i ≤ w.length → m + 10000 < k →
    dogwatchref03_Largest.l0 k n w w.sum ((quoL n w.sum w).take i ++ zerosL (w.length - i)) (moreL w.length []) (n - ((quoL n w.sum w).take i).sum) (i : Int) = some (largestV n w) := by
  have ha := W.sum
  have hql : (quoL n w.sum w).length = w.length := by unfold quoL; rw [List.length_map]
  have hq0 : ∀ i, 0 ≤ (quoL n w.sum w).getD i 0 ∧ (quoL n w.sum w).getD i 0 ≤ 1048576000 := fun i => by
    rw [quoL_get]
    have := quo_bound hn hn1 (by omega : 0 < w.sum) (W.w0 i).1 (W.w0 i).2
    exact ⟨this.1, this.2.1⟩
  have hlen := W.len
  have hs := quoL_sum_le (n := n) W hn
  have hle := left_le (n := n) W hn
  intro m
  induction m with
  | zero =>
    intro i k hm hi hk
    obtain ⟨k, rfl⟩ : ∃ k', k = k' + 1 := ⟨k - 1, by omega⟩
    have hil : i = w.length := by omega
    subst hil
    simp only [dogwatchref03_Largest.l0]
    rw [if_neg (by omega), Nat.sub_self, List.take_of_length_le (by omega), show zerosL 0 = [] from rfl, List.append_nil]
    obtain ⟨F, hF, O⟩ := ordL_isOrd (w.map (rtL n w.sum))
    have := picks n w w.sum (by omega) hlen (quoL n w.sum w) hql F O (leftV n w) (by unfold leftV; omega) (leftV n w) 0 k (by omega) (by omega) (by unfold leftV; omega)
    rw [List.take_zero, List.take_zero] at this
    have e : largestV n w = bumpL (quoL n w.sum w) ((F.map (fun x : Nat => (x : Int))).take (leftV n w)) := by unfold largestV; rw [hF]
    rw [e, ← this]
    congr 1
    unfold leftV
    omega
  | succ m ih =>
    intro i k hm hi hk
    obtain ⟨k, rfl⟩ : ∃ k', k = k' + 1 := ⟨k - 1, by omega⟩
    have hlt : i < w.length := by omega
    have hyl : ((quoL n w.sum w).take i ++ zerosL (w.length - i)).length = w.length := by simp [zerosL, hql]; omega
    have hset : ((quoL n w.sum w).take i ++ zerosL (w.length - i)).set i (quo n w.sum (w.getD i 0)) = (quoL n w.sum w).take (i + 1) ++ zerosL (w.length - (i + 1)) := by
      have := fillL_set (quoL n w.sum w) i (by omega)
      rw [quoL_get] at this
      unfold fillL at this
      rw [hql] at this
      exact this
    have hqt : wrap64 (Int.tdiv (wrap64 (n * w.getD i 0)) w.sum) = quo n w.sum (w.getD i 0) := qtL_quo hn hn1 (by omega) (W.w0 i).1 (W.w0 i).2
    have hb := quo_bound hn hn1 (by omega : 0 < w.sum) (W.w0 i).1 (W.w0 i).2
    simp only [dogwatchref03_Largest.l0]
    rw [if_pos (by omega), if_pos (by omega), if_neg (by omega), if_pos (by rw [hyl]; omega)]
    simp only [Option.bind_some]
    rw [rdD w i, hqt, Int.toNat_natCast, hset, wS i (by omega), rdD]
    have hg : ((quoL n w.sum w).take (i + 1) ++ zerosL (w.length - (i + 1))).getD i 0 = quo n w.sum (w.getD i 0) := by
      rw [← hset, List.getD_eq_getElem?_getD, List.getElem?_set_self (by rw [hyl]; exact hlt)]
      rfl
    rw [hg]
    have hts := take_sum (quoL n w.sum w) i (by omega)
    rw [quoL_get] at hts
    have hp := (sum_bound ((quoL n w.sum w).take (i + 1)) 1048576000 (fun j => by rw [take_getD]; split; exact hq0 j; omega))
    have hpl : ((quoL n w.sum w).take (i + 1)).length ≤ 64 := by rw [List.length_take]; omega
    rw [show wrap64 (n - ((quoL n w.sum w).take i).sum - quo n w.sum (w.getD i 0)) = n - ((quoL n w.sum w).take (i + 1)).sum by rw [wId _ (by omega) (by omega)]; omega]
    exact ih (i + 1) k (by omega) (by omega) (by omega)
theorem rlargest (n : Int) (w : List Int) (W : Wt w) (hn : 0 ≤ n) (hn1 : n ≤ 1048576) (k : Nat) (hk : 20000 ≤ k) : dogwatchref03_Largest.f k n w = some (largestV n w) := by
  have hlen := W.len
  have ha := W.sum
  unfold dogwatchref03_Largest.f
  rw [rsum w (by omega) k (by omega), wId w.sum (by omega) (by omega)]
  simp only [Option.bind_some]
  rw [if_pos (by omega), if_pos (by rw [Int.toNat_natCast]; omega), if_pos (by rw [Int.toNat_natCast]; omega), Int.toNat_natCast]
  have := rlargest_l0 w W n hn hn1 w.length 0 k (by omega) (by omega) (by omega)
  rw [List.take_zero, List.nil_append, Nat.sub_zero, List.sum_nil, Int.sub_zero] at this
  have e : moreL w.length [] = List.replicate w.length false := by
    apply List.ext_getElem
    · simp [moreL]
    · intro i h1 h2; simp [moreL]
  rw [e] at this
  exact this
theorem AppoLargest : dogwatchlaw03_AppoLargest.Pure := by
  intro n w hn0 hw hw8 _
  have hwl : w.length < 35184372088832 := by omega
  refine ⟨30000 + 8 * w.length, ?_⟩
  obtain ⟨K, hK⟩ : ∃ K, K = 29000 + 8 * w.length := ⟨_, rfl⟩
  rw [show 30000 + 8 * w.length = K + 998 + 1 + 1 by omega]
  unfold dogwatchlaw03_AppoLargest.f
  have bad : ∀ k, w.length + 40 ≤ k → (totB n && Rt w) = false → dogwatchlaw03_AppoLargest.j1 (k + 1) n w [] 1 true = some true := fun k hk _ => by
    simp only [dogwatchlaw03_AppoLargest.j1]
    rw [if_pos trivial, if_pos (by simp), if_pos trivial, awake k (by omega)]
    rfl
  cases hR : Rt w with
  | false =>
    have hb : (totB n && Rt w) = false := by rw [hR]; simp
    have hL : appo_Largest.f (K + 998 + 1 + 1) n w = some ([], 1) := by
      unfold appo_Largest.f
      rw [arGood _ n w (by omega) (by omega), hb]
      rfl
    rw [hL, check w (by omega) _ (by omega), right w (by omega) _ (by omega), hR]
    simp only [Option.bind_some]
    rw [if_neg (by decide), if_neg (by decide), if_neg (by decide)]
    simp only [dogwatchlaw03_AppoLargest.j0]
    rw [if_neg (by decide), right w (by omega) _ (by omega), hR]
    simp only [Option.bind_some]
    rw [if_neg (by decide)]
    exact bad (K + 998) (by omega) hb
  | true =>
    have W := Wt.of w hR
    have hlen := W.len
    cases hT : totB n with
    | false =>
      have hb : (totB n && Rt w) = false := by rw [hT]; simp
      have hL : appo_Largest.f (K + 998 + 1 + 1) n w = some ([], 1) := by
        unfold appo_Largest.f
        rw [arGood _ n w (by omega) (by omega), hb]
        rfl
      rw [hL, check w (by omega) _ (by omega), right w (by omega) _ (by omega), hR]
      simp only [Option.bind_some]
      rw [if_neg (by decide), if_pos (by decide)]
      simp only [dogwatchlaw03_AppoLargest.j0]
      rw [if_neg (by decide), right w (by omega) _ (by omega), hR]
      simp only [Option.bind_some]
      rw [if_pos trivial, total5, hT]
      simp only [Option.bind_some]
      exact bad (K + 998) (by omega) hb
    | true =>
      have hT' := hT
      unfold totB at hT'
      simp only [Bool.and_eq_true, decide_eq_true_eq] at hT'
      rw [largest n w W hR hT'.1 hT'.2 _ (by omega), check w (by omega) _ (by omega), right w (by omega) _ (by omega), hR]
      simp only [Option.bind_some]
      rw [if_neg (by decide), if_pos (by decide)]
      simp only [dogwatchlaw03_AppoLargest.j0]
      rw [if_neg (by decide), right w (by omega) _ (by omega), hR]
      simp only [Option.bind_some]
      rw [if_pos trivial, total5, hT]
      simp only [Option.bind_some, Bool.not_true]
      simp only [dogwatchlaw03_AppoLargest.j1]
      have hll : (largestV n w).length = w.length := by
        unfold largestV
        rw [bumpL_length]
        unfold quoL
        rw [List.length_map]
      rw [if_neg (by decide), rlargest n w W hT'.1 hT'.2 _ (by omega)]
      simp only [Option.bind_some]
      rw [same _ _ (by omega) _ (by omega), decide_eq_true rfl]
      simp only [Option.bind_some]
      rw [if_pos trivial, if_pos trivial, awake _ (by omega)]
      rfl
end Go.Proofs.Ytimabnjdgdcmaaa.Pure
