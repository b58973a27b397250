/- Plain: who is next; giving one by one; whoever gives so gives each its quota, rounded down, first. -/
import Derived.Test.YtimabnjdgdcmaaaApBase
import Derived.Test.YtimabnjdgdcmaaaPAppx6
namespace Go.Proofs.Ytimabnjdgdcmaaa.Pure
open Go.RowKit Go.Proofs.Ytimabnjdgdcmaaa.PApp Go.Proofs.YtimabnjdgdcmaaaW.PrintWords Go.Proofs.YtimabnjdgdcmaaaW.PrintLast
set_option linter.unusedVariables false
set_option linter.unusedSimpArgs false
theorem rdD (l : List Int) (i : Nat) : rd l (i : Int) = l.getD i 0 := by simp [rd]
def skipB (x y : Int) : Bool := decide (x < 1) || decide (x > 1000) || decide (y < 0) || decide (y ≥ 1099511627776)
theorem skipT (x y : Int) (h : x < 1 ∨ x > 1000 ∨ y < 0 ∨ y ≥ 1099511627776) : skipB x y = true := by
  unfold skipB; simp only [Bool.or_eq_true, decide_eq_true_eq]; omega
theorem skipF (x y : Int) (h : ¬ (x < 1 ∨ x > 1000 ∨ y < 0 ∨ y ≥ 1099511627776)) : skipB x y = false := by
  unfold skipB; simp only [Bool.or_eq_false_iff, decide_eq_false_iff_not]; omega
def aheadB (a v b w : Int) : Bool := decide (wrap64 (wrap64 (a + 1) * w) < wrap64 (wrap64 (b + 1) * v))
def stepN (w h : List Int) (best : Option Nat) (i : Nat) : Option Nat :=
  if skipB (w.getD i 0) (h.getD i 0) = true then best else
    match best with
    | none => some i
    | some b => if aheadB (h.getD i 0) (w.getD i 0) (h.getD b 0) (w.getD b 0) = true then some i else some b
def nxF (w h : List Int) (i n : Nat) (best : Option Nat) : Option Nat := (List.range' i n).foldl (stepN w h) best
def nextO (w h : List Int) : Option Nat := nxF w h 0 (min w.length h.length) none
def encB : Option Nat → Int
  | none => 0
  | some b => b
theorem nxF_succ (w h : List Int) (i n : Nat) (best : Option Nat) : nxF w h i (n + 1) best = nxF w h (i + 1) n (stepN w h best i) := by
  unfold nxF
  rw [List.range'_succ, List.foldl_cons]
theorem stepN_lt {w h : List Int} {best : Option Nat} {i M : Nat} (hi : i < M) (hb : ∀ b, best = some b → b < M) : ∀ b, stepN w h best i = some b → b < M := by
  intro b
  unfold stepN
  split
  · exact hb b
  · cases best with
    | none => intro e; cases e; exact hi
    | some b' =>
      dsimp only
      split
      · intro e; cases e; exact hi
      · intro e; cases e; exact hb _ rfl
theorem next_l0 (w h : List Int) (M : Nat) (hw : M ≤ w.length) (hh : M ≤ h.length) (hM : M < 4611686018427387904) : ∀ (m i k : Nat) (best : Option Nat), M - i = m → i ≤ M → 2 * m < k → (∀ b, best = some b → b < M) →
    appo_Next.l0 k w h (encB best) best.isSome (M : Int) (i : Int) = some (encB (nxF w h i m best), (nxF w h i m best).isSome) := by
  intro m
  induction m with
  | zero =>
    intro i k best hm hi hk hb
    obtain ⟨k, rfl⟩ : ∃ k', k = k' + 1 := ⟨k - 1, by omega⟩
    simp only [appo_Next.l0]
    rw [if_neg (by omega)]
    rfl
  | succ m ih =>
    intro i k best hm hi hk hb
    obtain ⟨k, rfl⟩ : ∃ k', k = k' + 1 + 1 := ⟨k - 2, by omega⟩
    have hlt : i < M := by omega
    have hst := stepN_lt (w := w) (h := h) hlt hb
    have go : ∀ best', (∀ b, best' = some b → b < M) → appo_Next.l0 k w h (encB best') best'.isSome (M : Int) ((i + 1 : Nat) : Int) = some (encB (nxF w h (i + 1) m best'), (nxF w h (i + 1) m best').isSome) := fun best' hb' => ih (i + 1) k best' (by omega) (by omega) (by omega) hb'
    have skip : skipB (w.getD i 0) (h.getD i 0) = true → appo_Next.j1 (k + 1) w h (encB best) best.isSome (i : Int) (M : Int) (i : Int) true = some (encB (nxF w h i (m + 1) best), (nxF w h i (m + 1) best).isSome) := by
      intro hs
      simp only [appo_Next.j1]
      rw [if_pos trivial, wS i (by omega), go best hb, nxF_succ]
      have : stepN w h best i = best := by unfold stepN; rw [if_pos hs]
      rw [this]
    simp only [appo_Next.l0]
    rw [if_pos (by omega), if_pos (by omega), if_pos (by omega), rdD, rdD]
    by_cases h1 : w.getD i 0 < 1
    · rw [if_pos h1]; exact skip (skipT _ _ (by omega))
    · rw [if_neg h1]
      by_cases h2 : w.getD i 0 > 1000
      · rw [if_pos h2]; exact skip (skipT _ _ (by omega))
      · rw [if_neg h2, if_pos (by omega)]
        by_cases h3 : h.getD i 0 < 0
        · rw [if_pos h3]; exact skip (skipT _ _ (by omega))
        · rw [if_neg h3]
          by_cases h4 : h.getD i 0 ≥ 1099511627776
          · rw [decide_eq_true h4]; exact skip (skipT _ _ (by omega))
          · have hs : skipB (w.getD i 0) (h.getD i 0) = false := skipF _ _ (by omega)
            rw [decide_eq_false h4]
            simp only [appo_Next.j1]
            rw [if_neg (by decide), nxF_succ]
            cases best with
            | none =>
              rw [if_neg (by decide), wS i (by omega)]
              have e : stepN w h none i = some i := by unfold stepN; rw [hs]; rfl
              rw [e]
              exact go (some i) (fun b hb => by cases hb; exact hlt)
            | some b =>
              have hbM := hb b rfl
              rw [if_pos (show (some b).isSome = true from rfl), if_pos (by omega), if_pos (by omega), if_pos (by omega)]
              rw [show encB (some b) = (b : Int) from rfl, if_pos (show (0 : Int) ≤ (b : Int) by omega), if_pos (show (b : Int) < (h.length : Int) by omega), if_pos (show (b : Int) < (w.length : Int) by omega), rdD, rdD, rdD, rdD, wS i (by omega)]
              unfold appo_ahead.f
              simp only [Option.bind_some]
              by_cases ha : wrap64 (wrap64 (h.getD i 0 + 1) * w.getD b 0) < wrap64 (wrap64 (h.getD b 0 + 1) * w.getD i 0)
              · have e : stepN w h (some b) i = some i := by unfold stepN; rw [hs, if_neg (by decide)]; dsimp only; rw [if_pos (by unfold aheadB; exact decide_eq_true ha)]
                rw [decide_eq_true ha, if_pos rfl, e]
                exact go (some i) (fun b hb => by cases hb; exact hlt)
              · have e : stepN w h (some b) i = some b := by unfold stepN; rw [hs, if_neg (by decide)]; dsimp only; rw [if_neg (by unfold aheadB; rw [decide_eq_false ha]; decide)]
                rw [decide_eq_false ha, if_neg (by decide), e]
                exact go (some b) hb
theorem next (w h : List Int) (hw : w.length < 4611686018427387904) (k : Nat) (hk : 2 * w.length + 1 ≤ k) : appo_Next.f k w h = some (encB (nextO w h), (nextO w h).isSome) := by
  unfold appo_Next.f nextO
  have e : mn (w.length : Int) (h.length : Int) = ((min w.length h.length : Nat) : Int) := by unfold mn; split <;> omega
  rw [e]
  exact next_l0 w h (min w.length h.length) (by omega) (by omega) (by omega) (min w.length h.length) 0 k none (by omega) (by omega) (by omega) (fun b hb => by cases hb)
def encR : Option Nat → Int
  | none => -1
  | some b => b
theorem rnext_l0 (w h : List Int) (hM : w.length < 4611686018427387904) : ∀ (m i k : Nat) (best : Option Nat), min w.length h.length - i = m → i ≤ min w.length h.length → 3 * m + 2 < k → (∀ b, best = some b → b < min w.length h.length) →
    dogwatchref03_Next.l0 k w h (encR best) (i : Int) = some (encB (nxF w h i m best), (nxF w h i m best).isSome) := by
  intro m
  induction m with
  | zero =>
    intro i k best hm hi hk hb
    obtain ⟨k, rfl⟩ : ∃ k', k = k' + 1 + 1 := ⟨k - 2, by omega⟩
    have fin : dogwatchref03_Next.j1 (k + 1) w h (encR best) (i : Int) false = some (encB (nxF w h i 0 best), (nxF w h i 0 best).isSome) := by
      simp only [dogwatchref03_Next.j1]
      rw [if_neg (by decide)]
      cases best with
      | none => rw [if_pos (by decide)]; rfl
      | some b => rw [show encR (some b) = (b : Int) from rfl, if_neg (by omega)]; rfl
    simp only [dogwatchref03_Next.l0]
    by_cases h1 : (i : Int) < (w.length : Int)
    · rw [if_pos h1, decide_eq_false (by omega)]; exact fin
    · rw [if_neg h1]; exact fin
  | succ m ih =>
    intro i k best hm hi hk hb
    obtain ⟨k, rfl⟩ : ∃ k', k = k' + 1 + 1 + 1 := ⟨k - 3, by omega⟩
    have hlt : i < min w.length h.length := by omega
    have go : ∀ best', (∀ b, best' = some b → b < min w.length h.length) → dogwatchref03_Next.l0 k w h (encR best') ((i + 1 : Nat) : Int) = some (encB (nxF w h (i + 1) m best'), (nxF w h (i + 1) m best').isSome) := fun best' hb' => ih (i + 1) k best' (by omega) (by omega) (by omega) hb'
    have skip : skipB (w.getD i 0) (h.getD i 0) = true → dogwatchref03_Next.j2 (k + 1) w h (encR best) (i : Int) true = some (encB (nxF w h i (m + 1) best), (nxF w h i (m + 1) best).isSome) := by
      intro hs
      simp only [dogwatchref03_Next.j2]
      rw [if_pos trivial, wS i (by omega), go best hb, nxF_succ]
      have : stepN w h best i = best := by unfold stepN; rw [if_pos hs]
      rw [this]
    simp only [dogwatchref03_Next.l0]
    rw [if_pos (by omega), decide_eq_true (by omega)]
    simp only [dogwatchref03_Next.j1]
    rw [if_pos trivial, if_pos (by omega), if_pos (by omega), rdD, rdD]
    by_cases h1 : w.getD i 0 < 1
    · rw [if_pos h1]; exact skip (skipT _ _ (by omega))
    · rw [if_neg h1]
      by_cases h2 : w.getD i 0 > 1000
      · rw [if_pos h2]; exact skip (skipT _ _ (by omega))
      · rw [if_neg h2, if_pos (by omega)]
        by_cases h3 : h.getD i 0 < 0
        · rw [if_pos h3]; exact skip (skipT _ _ (by omega))
        · rw [if_neg h3]
          by_cases h4 : h.getD i 0 ≥ 1099511627776
          · rw [decide_eq_true h4]; exact skip (skipT _ _ (by omega))
          · have hs : skipB (w.getD i 0) (h.getD i 0) = false := skipF _ _ (by omega)
            rw [decide_eq_false h4]
            simp only [dogwatchref03_Next.j2]
            rw [if_neg (by decide), nxF_succ]
            cases best with
            | none =>
              rw [if_pos (by decide), wS i (by omega)]
              have e : stepN w h none i = some i := by unfold stepN; rw [hs]; rfl
              rw [e]
              exact go (some i) (fun b hb => by cases hb; exact hlt)
            | some b =>
              have hbM := hb b rfl
              rw [show encR (some b) = (b : Int) from rfl, if_neg (show ¬ (b : Int) < 0 by omega), if_pos (show (0 : Int) ≤ (i : Int) by omega), if_pos (show (i : Int) < (h.length : Int) by omega), if_pos (show (0 : Int) ≤ (b : Int) by omega), if_pos (show (b : Int) < (w.length : Int) by omega), if_pos (show (b : Int) < (h.length : Int) by omega), if_pos (show (i : Int) < (w.length : Int) by omega), rdD, rdD, rdD, rdD, wS i (by omega)]
              by_cases ha : wrap64 (wrap64 (h.getD i 0 + 1) * w.getD b 0) < wrap64 (wrap64 (h.getD b 0 + 1) * w.getD i 0)
              · have e : stepN w h (some b) i = some i := by unfold stepN; rw [hs, if_neg (by decide)]; dsimp only; rw [if_pos (by unfold aheadB; exact decide_eq_true ha)]
                rw [if_pos ha, e]
                exact go (some i) (fun b hb => by cases hb; exact hlt)
              · have e : stepN w h (some b) i = some b := by unfold stepN; rw [hs, if_neg (by decide)]; dsimp only; rw [if_neg (by unfold aheadB; rw [decide_eq_false ha]; decide)]
                rw [if_neg ha, e]
                exact go (some b) hb
theorem rnext (w h : List Int) (hw : w.length < 4611686018427387904) (k : Nat) (hk : 3 * w.length + 3 ≤ k) : dogwatchref03_Next.f k w h = some (encB (nextO w h), (nextO w h).isSome) := by
  unfold dogwatchref03_Next.f nextO
  exact rnext_l0 w h hw (min w.length h.length) 0 k none (by omega) (by omega) (by omega) (fun b hb => by cases hb)
end Go.Proofs.Ytimabnjdgdcmaaa.Pure
