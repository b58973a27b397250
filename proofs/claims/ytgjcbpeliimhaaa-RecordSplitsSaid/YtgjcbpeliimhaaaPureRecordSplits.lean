/- Any bytes fall into the records that the document tells, right and wrong; for every input. -/
import Derived.Test.YtgjcbpeliimhaaaPRecx5
import Derived.Test.YtgjcbpeliimhaaaRecSp
namespace Go.Proofs.Ytgjcbpeliimhaaa.Pure
open Go.RowKit Go.Proofs.Ytgjcbpeliimhaaa.PRec Go.Proofs.YtgjcbpeliimhaaaW.PrintWords Go.Proofs.YtgjcbpeliimhaaaW.PrintLast
set_option linter.unusedVariables false
set_option linter.unusedSimpArgs false
theorem firstOf_f3 (l : List Int) : (firstOf l).2.2 = 0 ∨ (firstOf l).2.2 = 3 := by
  unfold firstOf
  split
  · exact Or.inr rfl
  · split
    · exact Or.inr rfl
    · split
      · exact Or.inl rfl
      · exact Or.inr rfl
theorem recs_f3 : ∀ (d : Nat) (l : List Int) (at_ : Int), ∀ r ∈ recs d l at_, r.f3 = 0 ∨ r.f3 = 3
  | 0, l, at_, r, h => by simp [recs] at h
  | d + 1, l, at_, r, h => by
    rw [recs] at h
    split at h
    · rcases List.mem_cons.mp h with rfl | h
      · exact firstOf_f3 _
      · exact recs_f3 d l _ r h
    · simp at h
theorem recs_len : ∀ (d : Nat) (l : List Int) (at_ : Int), (recs d l at_).length ≤ d
  | 0, l, at_ => by simp [recs]
  | d + 1, l, at_ => by
    rw [recs]
    split
    · rw [List.length_cons]; have := recs_len d l (at_ + (firstOf (l.drop at_.toNat)).1); omega
    · simp
theorem awake_ev : Ev (fun _ => (dogwatchlaw10_awake.f).bind fun t => some t) true := Ev.congr (f := fun _ => some true) (fun k => by simp [dogwatchlaw10_awake.f]) (Ev.now _)
theorem law_l0 (R : List S47) (hl : R.length ≤ 3000) (h3 : ∀ r ∈ R, r.f3 = 0 ∨ r.f3 = 3) : ∀ (d i c : Nat), i + d = R.length → c ≤ i → c + rights (R.drop i) = rights R → Ev (fun k => dogwatchlaw10_RecordSplits.l0 k R (R.map conv) ((rights R : Nat) : Int) (c : Int) (i : Int)) true := by
  intro d
  induction d with
  | zero =>
    intro i c hi hc hr
    have e : rights (R.drop i) = 0 := by rw [List.drop_of_length_le (by omega)]; rfl
    refine Ev.step (f := fun _ => (dogwatchlaw10_awake.f).bind fun t => some t) (fun k => ?_) awake_ev
    show dogwatchlaw10_RecordSplits.l0 (k + 1) R (R.map conv) ((rights R : Nat) : Int) (c : Int) (i : Int) = _
    simp only [dogwatchlaw10_RecordSplits.l0]
    rw [if_neg (by rw [List.length_map]; omega), if_pos (by omega)]
  | succ d ih =>
    intro i c hi hc hr
    have hlt : i < R.length := by omega
    have hx := rd47 R i hlt
    have hy : rd_T49 (R.map conv) (i : Int) = conv R[i] := by rw [rd49 _ i (by rw [List.length_map]; omega), List.getElem_map]
    have hd := List.drop_eq_getElem_cons hlt
    have hm := h3 R[i] (List.getElem_mem _)
    have hc1 : (i : Int) < ((R.map conv).length : Int) := by rw [List.length_map]; omega
    have key : Ev (fun k => dogwatchlaw10_RecordSplits.j2 k R (R.map conv) ((rights R : Nat) : Int) (c : Int) (i : Int) false) true := by
      by_cases c0 : R[i].f3 = 0
      · have e : rights (R.drop i) = rights (R.drop (i + 1)) + 1 := by
          unfold rights
          rw [hd, List.countP_cons_of_pos (by simpa using c0)]
        refine Ev.step (f := fun k => dogwatchlaw10_RecordSplits.l0 k R (R.map conv) ((rights R : Nat) : Int) ((c + 1 : Nat) : Int) ((i + 1 : Nat) : Int)) (fun k => ?_) (ih (i + 1) (c + 1) (by omega) (by omega) (by omega))
        show dogwatchlaw10_RecordSplits.j2 (k + 1) R (R.map conv) ((rights R : Nat) : Int) (c : Int) (i : Int) false = _
        simp only [dogwatchlaw10_RecordSplits.j2]
        have e3 : (conv R[i]).f3 = true := beq_iff_eq.mpr c0
        rw [if_neg (show ¬ (false = true) by decide), if_pos (by omega), if_pos hc1, hy, if_pos e3, wnat c (by omega), wnat i (by omega)]
      · have e : rights (R.drop i) = rights (R.drop (i + 1)) := by
          unfold rights
          rw [hd, List.countP_cons_of_neg (by simpa using c0)]
        refine Ev.step (f := fun k => dogwatchlaw10_RecordSplits.l0 k R (R.map conv) ((rights R : Nat) : Int) (c : Int) ((i + 1 : Nat) : Int)) (fun k => ?_) (ih (i + 1) c (by omega) (by omega) (by omega))
        show dogwatchlaw10_RecordSplits.j2 (k + 1) R (R.map conv) ((rights R : Nat) : Int) (c : Int) (i : Int) false = _
        simp only [dogwatchlaw10_RecordSplits.j2]
        have e3 : ¬ (conv R[i]).f3 = true := fun q => c0 (beq_iff_eq.mp q)
        rw [if_neg (show ¬ (false = true) by decide), if_pos (by omega), if_pos hc1, hy, if_neg e3, wnat i (by omega)]
    refine Ev.step (f := fun k => dogwatchlaw10_RecordSplits.j2 k R (R.map conv) ((rights R : Nat) : Int) (c : Int) (i : Int) false) (fun k => ?_) key
    show dogwatchlaw10_RecordSplits.l0 (k + 1) R (R.map conv) ((rights R : Nat) : Int) (c : Int) (i : Int) = _
    simp only [dogwatchlaw10_RecordSplits.l0]
    rw [if_pos hc1, if_pos (by omega), if_pos (by omega), hx, hy]
    have e0 : R[i].f0 = (conv R[i]).f0 := rfl
    have e1 : R[i].f1 = (conv R[i]).f1 := rfl
    have e2 : ((R[i].f3 == 0) != (conv R[i]).f3) = false := by show ((R[i].f3 == 0) != (R[i].f3 == 0)) = false; simp
    have e4 : ((strOfNums R[i].f2).toList != (strOfNums (conv R[i]).f2).toList) = false := by show ((strOfNums R[i].f2).toList != (strOfNums R[i].f2).toList) = false; simp
    rw [if_pos e0, if_pos e1, e2, if_neg (show ¬ (false = true) by decide), e4]
    by_cases c0 : R[i].f3 = 0
    · rw [if_pos c0]
    · rw [if_neg c0, if_pos (hm.resolve_left c0)]
theorem RecordSplits_ev (l : List Int) (hb : Bytes l) : Ev (fun k => dogwatchlaw10_RecordSplits.f k l) true := by
  unfold dogwatchlaw10_RecordSplits.f
  by_cases c : (l.length : Int) > 3000
  · exact Ev.congr (fun k => by rw [if_pos c]) awake_ev
  have hl : l.length ≤ 3000 := by omega
  refine Ev.congr (f := fun k => _) (fun k => if_neg c) ?_
  have h1 : Ev (fun k => record_Split.f k l) (recs l.length l 0) := ⟨10000, fun k hk => split l hb (by omega) k (by omega)⟩
  have h2 := rsplit_ev l hb hl
  have hn := recs_len l.length l 0
  have h3 := recs_f3 l.length l 0
  have h4 : Ev (fun k => record_Sum.f k l) (crc l) := ⟨100000, fun k hk => sum l (by omega) k (by omega)⟩
  have h5 := rsum_ev l hb (by omega)
  generalize recs l.length l 0 = R at *
  have hcount : Ev (fun k => record_Count.f k l) (((rights R : Nat) : Int), ((R.length - rights R : Nat) : Int)) := by
    unfold record_Count.f
    refine Ev.bind h1 ?_
    have := count_l0 R (by omega) R.length 0 0 0 (Nat.zero_add _) (by omega)
    rw [List.drop_zero, Nat.zero_add, Nat.zero_add] at this
    exact this
  have hle : rights R ≤ R.length := List.countP_le_length
  refine Ev.bind h1 (Ev.bind h2 (Ev.bind hcount ?_))
  have e1 : (R.length : Int) = ((R.map conv).length : Int) := by rw [List.length_map]
  have e2 : wrap64 (((rights R : Nat) : Int) + ((R.length - rights R : Nat) : Int)) = ((R.map conv).length : Int) := by rw [List.length_map]; unfold wrap64; omega
  refine Ev.congr (f := fun k => _) (fun k => (if_pos e1).trans (if_pos e2)) ?_
  refine Ev.bind h4 (Ev.bind h5 ?_)
  have e3 : (crc l != crc l) = false := by simp
  rw [e3]
  refine Ev.step (f := fun k => dogwatchlaw10_RecordSplits.l0 k R (R.map conv) ((rights R : Nat) : Int) ((0 : Nat) : Int) ((0 : Nat) : Int)) (fun k => ?_) (law_l0 R (by omega) h3 R.length 0 0 (Nat.zero_add _) (Nat.le_refl _) (by rw [List.drop_zero, Nat.zero_add]))
  show dogwatchlaw10_RecordSplits.j0 (k + 1) R (R.map conv) ((rights R : Nat) : Int) false = _
  simp only [dogwatchlaw10_RecordSplits.j0]
  rw [if_neg (show ¬ (false = true) by decide)]
  rfl
theorem RecordSplits : dogwatchlaw10_RecordSplits.Pure := by
  intro l hl1 hl2 hw
  exact (RecordSplits_ev l (bytes_of hw)).rounds
end Go.Proofs.Ytgjcbpeliimhaaa.Pure
