/- Who is next, and what any weights get of any total one by one, is what the reference tells; for every input. -/
import Derived.Test.YtimabnjdgdcmaaaPAppx7
import Derived.Test.YtimabnjdgdcmaaaApSeats
namespace Go.Proofs.Ytimabnjdgdcmaaa.Pure
open Go.RowKit Go.Proofs.Ytimabnjdgdcmaaa.PApp Go.Proofs.YtimabnjdgdcmaaaW.PrintWords Go.Proofs.YtimabnjdgdcmaaaW.PrintLast
set_option linter.unusedVariables false
set_option linter.unusedSimpArgs false
theorem total7 (x : Int) : dogwatchlaw03_total.f x = some (totB x) := by
  unfold dogwatchlaw03_total.f totB
  by_cases h : x ≥ 0
  · rw [if_pos h]; simp [h]
  · rw [if_neg h]; simp [h]
theorem AppoSeats : dogwatchlaw03_AppoSeats.Pure := by
  intro n w h hn hw hw8 _ hh hh8 _
  have hwl : w.length < 35184372088832 := by omega
  refine ⟨n.toNat + 4 * w.length + 100, ?_⟩
  obtain ⟨K, hK⟩ : ∃ K, K = n.toNat + 4 * w.length + 30 := ⟨_, rfl⟩
  rw [show n.toNat + 4 * w.length + 100 = K + 67 + 1 + 1 + 1 by omega]
  unfold dogwatchlaw03_AppoSeats.f
  rw [next w h (by omega) _ (by omega), rnext w h (by omega) _ (by omega)]
  simp only [Option.bind_some]
  rw [if_pos trivial, show ((nextO w h).isSome != (nextO w h).isSome) = false by simp]
  simp only [dogwatchlaw03_AppoSeats.j0]
  rw [if_neg (by decide)]
  have good : dogwatchlaw03_AppoSeats.j1 (K + 67 + 1 + 1) n w false = some true := by
    simp only [dogwatchlaw03_AppoSeats.j1]
    rw [if_neg (by decide), seats n w hwl _ (by omega), right w (by omega) _ (by omega)]
    simp only [Option.bind_some]
    have bad : (totB n && Rt w) = false → dogwatchlaw03_AppoSeats.j2 (K + 67 + 1) n w (if (totB n && Rt w) = true then (seatsV n w, (0 : Int)) else ([], 1)).1 (if (totB n && Rt w) = true then (seatsV n w, (0 : Int)) else ([], 1)).2 true = some true := by
      intro e
      rw [e, if_neg (by decide)]
      simp only [dogwatchlaw03_AppoSeats.j2]
      rw [if_pos trivial, if_pos (by simp), if_pos trivial, awake _ (by omega)]
      rfl
    cases hR : Rt w with
    | false =>
      rw [if_neg (by decide)]
      rw [hR] at bad
      exact bad (by simp)
    | true =>
      rw [if_pos rfl, total7]
      simp only [Option.bind_some]
      rw [hR] at bad
      cases hT : totB n with
      | false => rw [hT] at bad; exact bad (by simp)
      | true =>
        have hT' := hT
        unfold totB at hT'
        simp only [Bool.and_eq_true, decide_eq_true_eq] at hT'
        have W := Wt.of w hR
        have hlen := W.len
        rw [if_pos (by decide)]
        simp only [dogwatchlaw03_AppoSeats.j2]
        have hl : (seatsV n w).length = w.length := (Gs.give W.pos n.toNat _ 0 W.gs (by omega)).len
        rw [if_neg (by decide), rseats n w W hT'.1 hT'.2 _ (by omega)]
        simp only [Option.bind_some]
        rw [same _ _ (by omega) _ (by omega), decide_eq_true rfl]
        simp only [Option.bind_some]
        rw [if_pos trivial, if_pos trivial, awake _ (by omega)]
        rfl
  by_cases h1 : n > 3000
  · rw [if_pos h1]
    by_cases h2 : n ≤ 1048576
    · rw [decide_eq_true h2]
      simp only [dogwatchlaw03_AppoSeats.j1]
      rw [if_pos trivial, awake _ (by omega)]
      rfl
    · rw [decide_eq_false h2]; exact good
  · rw [if_neg h1]; exact good
end Go.Proofs.Ytimabnjdgdcmaaa.Pure
