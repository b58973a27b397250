/- Each byte is of just one record, whatever the bytes are; for every input. -/
import Derived.Test.YtgjcbpeliimhaaaPRecx5
import Derived.Test.YtgjcbpeliimhaaaRecPure
namespace Go.Proofs.Ytgjcbpeliimhaaa.Pure
open Go.RowKit Go.Proofs.Ytgjcbpeliimhaaa.PRec Go.Proofs.YtgjcbpeliimhaaaW.PrintWords Go.Proofs.YtgjcbpeliimhaaaW.PrintLast
set_option linter.unusedVariables false
set_option linter.unusedSimpArgs false

theorem rd47 (l : List S47) (i : Nat) (h : i < l.length) : rd_T47 l (i : Int) = l[i] := by
  simp [rd_T47, List.getD_eq_getElem?_getD, h]
/-- The records lie one behind the other, up to the end. -/
theorem all_l0 (l : List Int) (hb : Bytes l) (hl : l.length ≤ 3000) (d : Nat) : ∀ (k : Nat) (pre : List S47) (at_ : Int), 0 ≤ at_ → at_ ≤ l.length → (l.length : Int) ≤ at_ + d → pre.length + d ≤ 100000 → d + 1 ≤ k →
    dogwatchlaw10_RecordAll.l0 k l (pre ++ recs d l at_) at_ (pre.length : Int) = some true := by
  induction d with
  | zero =>
    intro k pre at_ h0 h1 hd hp hk
    obtain ⟨k, rfl⟩ : ∃ m, k = m + 1 := ⟨k - 1, by omega⟩
    simp only [dogwatchlaw10_RecordAll.l0, recs, List.append_nil]
    rw [if_neg (by omega), if_pos (by omega)]
    rfl
  | succ d ih =>
    intro k pre at_ h0 h1 hd hp hk
    obtain ⟨k, rfl⟩ : ∃ m, k = m + 1 := ⟨k - 1, by omega⟩
    by_cases h : at_ < (l.length : Int)
    · have hdl : (l.drop at_.toNat).length = l.length - at_.toNat := List.length_drop
      have hf := firstOf_len (l.drop at_.toNat) (bytes_drop hb _) (by omega)
      have hr : recs (d + 1) l at_ = ⟨at_, (firstOf (l.drop at_.toNat)).1, (firstOf (l.drop at_.toNat)).2.1, (firstOf (l.drop at_.toNat)).2.2⟩ :: recs d l (at_ + (firstOf (l.drop at_.toNat)).1) := by
        simp only [recs]
        rw [if_pos h]
      rw [hr]
      generalize (firstOf (l.drop at_.toNat)).2.1 = bd
      generalize (firstOf (l.drop at_.toNat)).2.2 = er
      generalize (firstOf (l.drop at_.toNat)).1 = ln at *
      have q1 : 0 ≤ at_ + ln := by omega
      have q2 : at_ + ln ≤ (l.length : Int) := by omega
      have q3 : (l.length : Int) ≤ at_ + ln + d := by omega
      have q4 : (pre ++ [(⟨at_, ln, bd, er⟩ : S47)]).length + d ≤ 100000 := by rw [List.length_append]; simp only [List.length_cons, List.length_nil]; omega
      have q5 : d + 1 ≤ k := by omega
      have q6 : ¬ ln < 1 := by omega
      have q7 : ¬ ln > (l.length : Int) - at_ := by omega
      have ew1 : wrap64 ((l.length : Int) - at_) = (l.length : Int) - at_ := by unfold wrap64; omega
      have ew2 : wrap64 (at_ + ln) = at_ + ln := by unfold wrap64; omega
      have ew3 : wrap64 ((pre.length : Int) + 1) = ((pre.length + 1 : Nat) : Int) := by unfold wrap64; omega
      have p0 : (0 : Int) ≤ (pre.length : Int) := Int.natCast_nonneg _
      have p1 : (pre.length : Int) < ((pre ++ (⟨at_, ln, bd, er⟩ : S47) :: recs d l (at_ + ln)).length : Int) := by
        rw [List.length_append, List.length_cons]
        omega
      have h2 := ih k (pre ++ [(⟨at_, ln, bd, er⟩ : S47)]) (at_ + ln) q1 q2 q3 q4 q5
      have hget := rd47 (pre ++ (⟨at_, ln, bd, er⟩ : S47) :: recs d l (at_ + ln)) pre.length (by simp)
      rw [List.getElem_append_right (Nat.le_refl _)] at hget
      simp only [Nat.sub_self, List.getElem_cons_zero] at hget
      simp only [dogwatchlaw10_RecordAll.l0]
      rw [if_pos p1, if_pos p0]
      simp only [hget, ew1, ew2, ew3]
      rw [if_pos trivial, if_neg q6, if_neg q7]
      simp only [List.append_assoc, List.cons_append, List.nil_append, List.length_append, List.length_cons, List.length_nil] at h2
      exact h2
    · have hr : recs (d + 1) l at_ = [] := by simp only [recs]; rw [if_neg h]
      rw [hr, List.append_nil]
      simp only [dogwatchlaw10_RecordAll.l0]
      rw [if_neg (by omega), if_pos (by omega)]
      rfl
theorem RecordAll : dogwatchlaw10_RecordAll.Pure := by
  intro l hl1 hl2 hw
  clear hl1 hl2
  have hb := bytes_of hw
  obtain ⟨k, hk⟩ : ∃ k : Nat, k = 10000 := ⟨_, rfl⟩
  refine ⟨k, ?_⟩
  unfold dogwatchlaw10_RecordAll.f
  by_cases h : (l.length : Int) > 3000
  · rw [if_pos h]; rfl
  · rw [if_neg h, split l hb (by omega) _ (by omega)]
    simp only [Option.bind_some]
    have := all_l0 l hb (by omega) l.length k [] 0 (by omega) (by omega) (by omega) (by simp; omega) (by omega)
    simpa using this

end Go.Proofs.Ytgjcbpeliimhaaa.Pure
