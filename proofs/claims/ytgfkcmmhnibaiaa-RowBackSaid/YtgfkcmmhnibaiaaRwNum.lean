/- octet's reader: one contract for Num. -/
import Derived.Test.YtgfkcmmhnibaiaaRwReader2
namespace Go.Proofs.Ytgfkcmmhnibaiaa.PRw
open Go.RowKit Go.Proofs.YtgfkcmmhnibaiaaW.PrintWords Go.Proofs.YtgfkcmmhnibaiaaW.PrintLast Go.Proofs.YtgfkcmmhnibaiaaW.PrintMore
set_option linter.unusedVariables false
set_option linter.unusedSimpArgs false
/-- A number is read: the number, the bytes that are left, the first error. -/
def rdNum (k : Nat) (l : List Int) (er limit : Int) : Option (Int × List Int × Int) :=
  if er = 0 then (octet_number.f k l).bind fun x =>
    if x.2 = 0 then some (0, [], 3) else if limit < x.1 then some (0, [], 5)
    else if 0 < x.2 ∧ x.2 ≤ (l.length : Int) then some (x.1, l.drop x.2.toNat, 0) else none
  else some (0, l, er)
theorem rdNum_mono (l : List Int) (er limit : Int) (k : Nat) : LeO (rdNum k l er limit) (rdNum (k + 1) l er limit) := by
  unfold rdNum
  refine LeO.ite ?_ (LeO.refl _)
  exact LeO.bind (octet_number.mono _ _) (fun _ => LeO.refl _)
theorem num_calls (k : Nat) (g : Nat) (l l' : List Int) (er er' limit n : Int) (w : World) (h : Rdr w g l er) (hf : rdNum k l er limit = some (n, l', er')) :
    Calls Try.prog 61 #[.pointer (some ⟨g, 0, none⟩), .int .u64 limit] w fun e w' => e = .returned (.int .u64 n) ∧ Rdr w' g l' er' ∧ w.grownBy w' (some g) := by
  unfold rdNum at hf
  by_cases he : er = 0
  · subst he
    rw [if_pos rfl] at hf
    obtain ⟨⟨x, m⟩, hx, hf⟩ := Option.bind_eq_some_iff.mp hf
    dsimp only at hf
    by_cases hm : m = 0
    · subst hm
      rw [if_pos rfl] at hf
      simp only [Option.some.injEq, Prod.mk.injEq] at hf
      obtain ⟨rfl, rfl, rfl⟩ := hf
      exact num_bad k g l limit x w h hx
    · rw [if_neg hm] at hf
      by_cases hl : limit < x
      · rw [if_pos hl] at hf
        simp only [Option.some.injEq, Prod.mk.injEq] at hf
        obtain ⟨rfl, rfl, rfl⟩ := hf
        exact num_over k g l limit x m w h hx (beq_eq_false_iff_ne.mpr hm) (decide_eq_true hl)
      · rw [if_neg hl] at hf
        by_cases hr : 0 < m ∧ m ≤ (l.length : Int)
        · rw [if_pos hr] at hf
          simp only [Option.some.injEq, Prod.mk.injEq] at hf
          obtain ⟨rfl, rfl, rfl⟩ := hf
          obtain ⟨M, rfl⟩ := Int.eq_ofNat_of_zero_le (by omega : 0 ≤ m)
          exact num_ok k g l limit x M w h hx (by omega) (by omega) (decide_eq_false hl)
        · rw [if_neg hr] at hf
          exact absurd hf (by simp)
  · rw [if_neg he] at hf
    simp only [Option.some.injEq, Prod.mk.injEq] at hf
    obtain ⟨rfl, rfl, rfl⟩ := hf
    refine (num_err g l er limit w h (bne_iff_ne.mpr he)).mono ?_
    rintro e w' ⟨rfl, rfl⟩
    exact ⟨rfl, h, World.grownBy.refl _ _⟩
end Go.Proofs.Ytgfkcmmhnibaiaa.PRw
