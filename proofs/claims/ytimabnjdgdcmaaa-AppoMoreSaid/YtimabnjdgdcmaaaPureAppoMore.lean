/- Who gives one more gives just one more, to who is next; for every input. -/
import Derived.Test.YtimabnjdgdcmaaaPAppx8
import Derived.Test.YtimabnjdgdcmaaaApSeats
namespace Go.Proofs.Ytimabnjdgdcmaaa.Pure
open Go.RowKit Go.Proofs.Ytimabnjdgdcmaaa.PApp Go.Proofs.YtimabnjdgdcmaaaW.PrintWords Go.Proofs.YtimabnjdgdcmaaaW.PrintLast
set_option linter.unusedVariables false
set_option linter.unusedSimpArgs false
theorem total8 (x : Int) : dogwatchlaw03_total.f x = some (totB x) := by
  unfold dogwatchlaw03_total.f totB
  by_cases h : x ≥ 0
  · rw [if_pos h]; simp [h]
  · rw [if_neg h]; simp [h]
theorem more_l0 (w a : List Int) (b : Nat) (hl : w.length < 4611686018427387904) (ha : a.length = w.length) (hb : b < a.length) (hr : ∀ i, 0 ≤ a.getD i 0 ∧ a.getD i 0 ≤ 1048576)
    (hz : ∀ i, w.getD i 0 = 0 → a.getD i 0 = 0) : ∀ (m i k : Nat), w.length - i = m → i ≤ w.length → m + 30 < k →
    dogwatchlaw03_AppoMore.l0 k w a (bumpN a b) (b : Int) (i : Int) = some true := by
  intro m
  induction m with
  | zero =>
    intro i k hm hi hk
    obtain ⟨k, rfl⟩ : ∃ k', k = k' + 1 := ⟨k - 1, by omega⟩
    simp only [dogwatchlaw03_AppoMore.l0]
    rw [if_neg (by omega), awake k (by omega)]
    rfl
  | succ m ih =>
    intro i k hm hi hk
    obtain ⟨k, rfl⟩ : ∃ k', k = k' + 1 := ⟨k - 1, by omega⟩
    have hbl := bumpN_length a b
    have hg := bumpN_get a b i hb
    have hri := hr i
    have hrb := hr b
    have go := ih (i + 1) k (by omega) (by omega) (by omega)
    simp only [dogwatchlaw03_AppoMore.l0]
    rw [if_pos (by omega), wS i (by omega), rdD, rdD, rdD, hg]
    by_cases e : i = b
    · subst e
      rw [if_pos rfl, if_pos (by omega), if_pos (by omega), if_pos (by omega), if_pos rfl, if_pos (by rw [wId _ (by omega) (by omega)])]
      by_cases h0 : w.getD i 0 = 0
      · rw [if_pos h0, if_pos (hz i h0)]; exact go
      · rw [if_neg h0]; exact go
    · rw [if_neg (by omega), if_pos (by omega), if_pos (by omega), if_pos (by omega), if_neg e, if_pos rfl]
      by_cases h0 : w.getD i 0 = 0
      · rw [if_pos h0, if_pos (hz i h0)]; exact go
      · rw [if_neg h0]; exact go
theorem AppoMore : dogwatchlaw03_AppoMore.Pure := by
  intro n w hn hw hw8 _
  have hwl : w.length < 35184372088832 := by omega
  refine ⟨n.toNat + 4 * w.length + 100, ?_⟩
  obtain ⟨K, hK⟩ : ∃ K, K = n.toNat + 4 * w.length + 30 := ⟨_, rfl⟩
  rw [show n.toNat + 4 * w.length + 100 = K + 67 + 1 + 1 + 1 by omega]
  unfold dogwatchlaw03_AppoMore.f
  rw [total8]
  simp only [Option.bind_some]
  have stop : dogwatchlaw03_AppoMore.j0 (K + 67 + 1 + 1 + 1) n w true = some true := by
    simp only [dogwatchlaw03_AppoMore.j0]
    rw [if_pos trivial, awake _ (by omega)]
    rfl
  cases hT : totB n with
  | false => rw [if_neg (by decide)]; exact stop
  | true =>
    rw [if_pos rfl]
    have hT' := hT
    unfold totB at hT'
    simp only [Bool.and_eq_true, decide_eq_true_eq] at hT'
    by_cases h1 : n > 1048575
    · rw [decide_eq_true h1]; exact stop
    · rw [decide_eq_false h1]
      have hT1 : totB (n + 1) = true := by unfold totB; simp only [Bool.and_eq_true, decide_eq_true_eq]; omega
      simp only [dogwatchlaw03_AppoMore.j0]
      rw [if_neg (by decide), wId (n + 1) (by omega) (by omega), seats n w hwl _ (by omega), seats (n + 1) w hwl _ (by omega), hT, hT1, Bool.true_and]
      simp only [Option.bind_some]
      cases hR : Rt w with
      | false =>
        rw [if_neg (show ¬ (false = true) by decide), if_neg (show ¬ (false = true) by decide), if_neg (by decide)]
        simp only [dogwatchlaw03_AppoMore.j1]
        rw [if_pos trivial, right w (by omega) _ (by omega), hR]
        simp only [Option.bind_some]
        rw [if_neg (by decide), if_pos trivial, if_pos trivial, awake _ (by omega)]
        rfl
      | true =>
        have W := Wt.of w hR
        have hlen := W.len
        have G := Gs.give W.pos n.toNat _ 0 W.gs (by omega)
        have hs := give_sum W.pos n.toNat _ 0 W.gs (by omega)
        have hz := give_zero W.pos n.toNat _ 0 W.gs (by omega) (fun i _ => zeros_get _ _)
        rw [zeros_sum] at hs
        obtain ⟨b, e, hb, _⟩ := nextO_min G (by omega) W.pos
        have hv1 : seatsV (n + 1) w = bumpN (seatsV n w) b := by
          unfold seatsV
          rw [show (n + 1).toNat = n.toNat + 1 by omega, give_succ, nxt_of e]
        have hb' : b < (seatsV n w).length := by have := G.len; unfold seatsV; omega
        have hs1 : (bumpN (seatsV n w) b).sum = n + 1 := by rw [bumpN_sum _ _ hb']; unfold seatsV; omega
        have hs0 : (seatsV n w).sum = n := by unfold seatsV; omega
        have hl0 : (seatsV n w).length = w.length := G.len
        have hl1 : (bumpN (seatsV n w) b).length = w.length := by rw [bumpN_length]; exact hl0
        have he : nextO w (seatsV n w) = some b := e
        have hr : ∀ i, 0 ≤ (seatsV n w).getD i 0 ∧ (seatsV n w).getD i 0 ≤ 1048576 := fun i => by
          have := G.h0 i
          unfold seatsV
          omega
        have hz' : ∀ i, w.getD i 0 = 0 → (seatsV n w).getD i 0 = 0 := hz
        rw [if_pos rfl, if_pos rfl, hv1]
        generalize seatsV n w = a at *
        rw [if_pos rfl]
        simp only [dogwatchlaw03_AppoMore.j1]
        rw [if_neg (by decide), next w a (by omega) _ (by omega), he]
        simp only [Option.bind_some]
        rw [if_pos (show (some b).isSome = true from rfl), show encB (some b) = (b : Int) from rfl, if_neg (by omega), if_pos (by omega), if_pos (by omega), rsum a (by omega) _ (by omega), hs0, wId n (by omega) (by omega)]
        simp only [Option.bind_some]
        rw [if_pos trivial, rsum _ (by omega) _ (by omega), hs1]
        simp only [Option.bind_some]
        rw [show (wrap64 (n + 1) != wrap64 (n + 1)) = false by simp]
        simp only [dogwatchlaw03_AppoMore.j2]
        rw [if_neg (by decide)]
        exact more_l0 w a b (by omega) hl0 hb' hr hz' w.length 0 _ (by omega) (by omega) (by omega)
end Go.Proofs.Ytimabnjdgdcmaaa.Pure
