/- Bodies that were sealed one behind the other are the records' bodies, in order; for every input. -/
import Derived.Test.YtgjcbpeliimhaaaRbSum
import Derived.Test.YtgjcbpeliimhaaaPRcbx3
namespace Go.Proofs.Ytgjcbpeliimhaaa.PRcb
open Go.RowKit Go.Proofs.YtgjcbpeliimhaaaW.PrintWords Go.Proofs.YtgjcbpeliimhaaaW.PrintLast Go.Proofs.YtgjcbpeliimhaaaW.PrintMore
set_option linter.unusedVariables false
set_option linter.unusedSimpArgs false
/-- A body's record. -/
def sealed (b : List Int) : List Int := (b.length : Int) :: b ++ [crc ((b.length : Int) :: b)]
def flat (l : List (List Int)) : List Int := l.flatMap sealed
theorem sealed_len (b : List Int) : (sealed b).length = b.length + 2 := by simp [sealed]
def Good (b : List Int) : Prop := 1 ≤ b.length ∧ b.length ≤ 120 ∧ Bytes b
theorem sealed_bytes (b : List Int) (h : Good b) : Bytes (sealed b) := by
  intro x hx
  have hc := crc_byte ((b.length : Int) :: b)
  unfold sealed at hx
  simp only [List.cons_append, List.mem_cons, List.mem_append, List.not_mem_nil, or_false] at hx
  rcases hx with rfl | hx | rfl
  · have := h.1; have := h.2.1; omega
  · exact h.2.2 x hx
  · exact hc
theorem flat_bytes (l : List (List Int)) (h : ∀ b ∈ l, Good b) : Bytes (flat l) := by
  intro x hx
  obtain ⟨b, hb, hxb⟩ := List.mem_flatMap.mp hx
  exact sealed_bytes b (h b hb) x hxb
theorem flat_len (l : List (List Int)) (h : ∀ b ∈ l, Good b) : (flat l).length ≤ 122 * l.length := by
  induction l with
  | nil => simp [flat]
  | cons b t ih =>
    have h1 := (h b (by simp)).2.1
    have h2 := ih (fun x hx => h x (by simp [hx]))
    have h3 := sealed_len b
    have e : flat (b :: t) = sealed b ++ flat t := by unfold flat; rw [List.flatMap_cons]
    rw [e, List.length_append, List.length_cons]
    omega
theorem first_sealed (b rest : List Int) (h : Good b) : firstOf (sealed b ++ rest) = ((b.length : Int) + 2, b, 0) := by
  obtain ⟨h1, h2, h3⟩ := h
  have e : sealed b ++ rest = ((b.length : Int) :: b) ++ (crc ((b.length : Int) :: b) :: rest) := by unfold sealed; rw [List.append_assoc]; rfl
  have e0 : rd (sealed b ++ rest) 0 = (b.length : Int) := by rw [e]; rfl
  have e1 : rd (sealed b ++ rest) ((b.length : Int) + 1) = crc ((b.length : Int) :: b) := by
    have hl : b.length + 1 < (sealed b ++ rest).length := by rw [List.length_append, sealed_len]; omega
    rw [show (b.length : Int) + 1 = ((b.length + 1 : Nat) : Int) by omega, rd_nth _ _ hl]
    simp [e, List.getElem_append]
  have e2 : (sealed b ++ rest).take ((b.length : Int) + 1).toNat = (b.length : Int) :: b := by
    rw [e, show ((b.length : Int) + 1).toNat = ((b.length : Int) :: b).length by simp, List.take_left]
  unfold firstOf
  rw [e0, if_neg (by omega), if_neg (by rw [List.length_append, sealed_len]; omega), e1, e2, if_pos rfl]
  rfl
/-- What is read out of the records that were sealed: each body, each right. -/
theorem recs_flat : ∀ (l : List (List Int)) (pre : List Int) (d : Nat), (∀ b ∈ l, Good b) → (flat l).length ≤ d → (recs d (pre ++ flat l) (pre.length : Int)).map (fun r => (r.f2, r.f3)) = l.map (fun b => (b, (0 : Int)))
  | [], pre, d, h, hd => by
    cases d with
    | zero => rfl
    | succ d => rw [recs, if_neg (by simp [flat])]; rfl
  | b :: t, pre, d, h, hd => by
    have hb := h b (by simp)
    have e : flat (b :: t) = sealed b ++ flat t := by unfold flat; rw [List.flatMap_cons]
    rw [e] at hd ⊢
    have hl := sealed_len b
    rw [List.length_append] at hd
    obtain ⟨d, rfl⟩ : ∃ m, d = m + 1 := ⟨d - 1, by omega⟩
    have hlt : (pre.length : Int) < ((pre ++ (sealed b ++ flat t)).length : Int) := by simp only [List.length_append]; omega
    have hdrop : (pre ++ (sealed b ++ flat t)).drop ((pre.length : Int)).toNat = sealed b ++ flat t := by rw [Int.toNat_natCast, List.drop_left]
    rw [recs, if_pos hlt, hdrop, first_sealed b _ hb]
    dsimp only
    have ih := recs_flat t (pre ++ sealed b) d (fun x hx => h x (by simp [hx])) (by omega)
    have hp : (((pre ++ sealed b).length : Nat) : Int) = (pre.length : Int) + ((b.length : Int) + 2) := by rw [List.length_append, hl]; omega
    rw [List.append_assoc, hp] at ih
    rw [List.map_cons, List.map_cons, ih]
theorem rd47 (l : List S47) (i : Nat) (h : i < l.length) : rd_T47 l (i : Int) = l[i] := by
  simp [rd_T47, List.getD_eq_getElem?_getD, h]
theorem rdL2 (l : List (List Int)) (i : Nat) (h : i < l.length) : rd_L2 l (i : Int) = l[i] := by
  simp [rd_L2, List.getD_eq_getElem?_getD, h]
theorem awake_ev : Ev (fun _ => (dogwatchlaw10_awake.f).bind fun t => some t) true := Ev.congr (f := fun _ => some true) (fun k => by simp [dogwatchlaw10_awake.f]) (Ev.now _)
theorem seal_good (b : List Int) (h : Good b) : Ev (fun k => record_Seal.f k b) (sealed b, 0) := ⟨2000, fun k hk => seal_of b h.1 h.2.1 k (by omega)⟩
theorem seal_bad (b : List Int) (h : ¬ (1 ≤ b.length ∧ b.length ≤ 120)) : Ev (fun k => record_Seal.f k b) ([], 1) := by
  refine Ev.congr (f := fun _ => some ([], 1)) (fun k => ?_) (Ev.now _)
  show record_Seal.f k b = _
  unfold record_Seal.f
  by_cases c : (b.length : Int) < 1
  · rw [if_pos c]
  · rw [if_neg c, if_pos (by omega)]
theorem rseal_ev (b : List Int) (h : Good b) : Ev (fun k => dogwatchref10_Seal.f k b) (sealed b) := by
  obtain ⟨h1, h2, h3⟩ := h
  have e : ((b.length : Int)) % 256 = (b.length : Int) := by omega
  have hs := rsum_ev ((b.length : Int) :: b) (by
    intro x hx
    rcases List.mem_cons.mp hx with rfl | hx
    · omega
    · exact h3 x hx) (by rw [List.length_cons]; omega)
  refine Ev.congr (f := fun k => (dogwatchref10_Sum.f k ((b.length : Int) :: b)).bind fun t => some (((b.length : Int) :: b) ++ [t])) (fun k => ?_) (Ev.bind hs (Ev.now _))
  show dogwatchref10_Seal.f k b = _
  unfold dogwatchref10_Seal.f
  rw [e, Option.bind_some]
  have c1 : ([(b.length : Int)] : List Int).length + b.length < 140737488355328 := by simp only [List.length_singleton]; omega
  rw [if_pos c1, Option.bind_some]
  have c2 : ([(b.length : Int)] ++ b).length < 140737488355328 := by simp only [List.length_append, List.length_singleton]; omega
  simp only [if_pos c2]
  rfl
theorem back_l1 (want : List (List Int)) (R : List S47) (hR : R.map (fun r => (r.f2, r.f3)) = want.map (fun b => (b, (0 : Int)))) (hl : want.length ≤ 20) : ∀ (d i : Nat), i + d = want.length → Ev (fun k => dogwatchlaw10_RecordBack.l1 k want R (i : Int)) true := by
  have hlen : R.length = want.length := by
    have := congrArg List.length hR
    rwa [List.length_map, List.length_map] at this
  intro d
  induction d with
  | zero =>
    intro i hi
    refine Ev.step (f := fun _ => (dogwatchlaw10_awake.f).bind fun t => some t) (fun k => ?_) awake_ev
    show dogwatchlaw10_RecordBack.l1 (k + 1) want R (i : Int) = _
    simp only [dogwatchlaw10_RecordBack.l1]
    rw [if_neg (by omega)]
  | succ d ih =>
    intro i hi
    have h1 : i < want.length := by omega
    have h2 : i < R.length := by omega
    have hx := rd47 R i h2
    have hy := rdL2 want i h1
    have hg : (R[i].f2, R[i].f3) = (want[i], (0 : Int)) := by
      have a : (R.map (fun r => (r.f2, r.f3)))[i]'(by rw [List.length_map]; exact h2) = (want.map (fun b => (b, (0 : Int))))[i]'(by rw [List.length_map]; exact h1) := by simp only [hR]
      simpa using a
    have g1 : R[i].f2 = want[i] := congrArg Prod.fst hg
    have g2 : R[i].f3 = 0 := congrArg Prod.snd hg
    have ew : wrap64 ((i : Int) + 1) = ((i + 1 : Nat) : Int) := by unfold wrap64; omega
    refine Ev.step (f := fun k => dogwatchlaw10_RecordBack.l1 k want R ((i + 1 : Nat) : Int)) (fun k => ?_) (ih (i + 1) (by omega))
    show dogwatchlaw10_RecordBack.l1 (k + 1) want R (i : Int) = _
    simp only [dogwatchlaw10_RecordBack.l1]
    rw [if_pos (by omega), if_pos (by omega), hx, hy, if_pos g2, if_pos (by omega), g1, if_pos rfl, ew]
/-- Behind the last body. -/
theorem back_end (rows want : List (List Int)) (i : Int) (hw : ∀ b ∈ want, Good b) (hl : want.length ≤ 20) : Ev (fun k => dogwatchlaw10_RecordBack.j1 k rows (flat want) want i false) true := by
  have hb := flat_bytes want hw
  have hf := flat_len want hw
  have hs : Ev (fun k => record_Split.f k (flat want)) (recs (flat want).length (flat want) 0) := ⟨10000, fun k hk => split (flat want) hb (by omega) k (by omega)⟩
  have hR := recs_flat want [] (flat want).length hw (Nat.le_refl _)
  rw [List.nil_append] at hR
  have hlen : (recs (flat want).length (flat want) 0).length = want.length := by
    have := congrArg List.length hR
    rwa [List.length_map, List.length_map] at this
  refine Ev.step (f := fun k => (record_Split.f k (flat want)).bind fun t157 => (if (t157.length : Int) = (want.length : Int) then (dogwatchlaw10_RecordBack.l1 k want t157 ((0 : Nat) : Int)) else (some false))) (fun k => ?_) (Ev.bind hs (Ev.congr (f := fun k => _) (fun k => if_pos (by rw [hlen])) (back_l1 want _ hR hl want.length 0 (Nat.zero_add _))))
  show dogwatchlaw10_RecordBack.j1 (k + 1) rows (flat want) want i false = _
  simp only [dogwatchlaw10_RecordBack.j1]
  rw [if_neg (show ¬ (false = true) by decide)]
  rfl
theorem back_l0 (rows : List (List Int)) (hb : ∀ r ∈ rows, Bytes r) : ∀ (d i : Nat) (want : List (List Int)), i + d = 20 → want.length ≤ i → (∀ b ∈ want, Good b) → Ev (fun k => dogwatchlaw10_RecordBack.l0 k rows (flat want) want (i : Int)) true := by
  intro d
  induction d with
  | zero =>
    intro i want hi hl hw
    refine Ev.step (f := fun k => dogwatchlaw10_RecordBack.j1 k rows (flat want) want (i : Int) false) (fun k => ?_) (back_end rows want _ hw (by omega))
    show dogwatchlaw10_RecordBack.l0 (k + 1) rows (flat want) want (i : Int) = _
    simp only [dogwatchlaw10_RecordBack.l0]
    rw [decide_eq_false (show ¬ (i : Int) < 20 by omega), ite_self]
  | succ d ih =>
    intro i want hi hl hw
    by_cases c : i < rows.length
    · have hx := rdL2 rows i c
      have hbi := hb rows[i] (List.getElem_mem _)
      have ew : wrap64 ((i : Int) + 1) = ((i + 1 : Nat) : Int) := by unfold wrap64; omega
      have hf := flat_len want hw
      have l1 : ∀ k, dogwatchlaw10_RecordBack.l0 (k + 1) rows (flat want) want (i : Int) = dogwatchlaw10_RecordBack.j1 k rows (flat want) want (i : Int) true := fun k => by
        simp only [dogwatchlaw10_RecordBack.l0]
        rw [if_pos (show (i : Int) < (rows.length : Int) by omega), decide_eq_true (show (i : Int) < 20 by omega)]
      refine Ev.step (f := fun k => dogwatchlaw10_RecordBack.j1 k rows (flat want) want (i : Int) true) l1 ?_
      have l2 : ∀ k, dogwatchlaw10_RecordBack.j1 (k + 1) rows (flat want) want (i : Int) true = (record_Seal.f k rows[i]).bind fun bt140 => dogwatchlaw10_RecordBack.j2 k rows (flat want) want (i : Int) bt140.1 bt140.2 (decide (1 ≤ rows[i].length ∧ rows[i].length ≤ 120)) := fun k => by
        simp only [dogwatchlaw10_RecordBack.j1]
        rw [if_pos trivial, if_pos (show (0 : Int) ≤ (i : Int) by omega), if_pos (show (i : Int) < (rows.length : Int) by omega), hx]
        congr 1
        funext bt
        by_cases c1 : ((rows[i]).length : Int) ≥ 1
        · rw [if_pos c1]
          congr 1
          exact decide_eq_decide.mpr ⟨fun q => ⟨by omega, by omega⟩, fun q => by omega⟩
        · rw [if_neg c1]
          congr 1
          exact (decide_eq_false (fun q => c1 (by omega))).symm
      refine Ev.step (f := fun k => _) l2 ?_
      by_cases cg : 1 ≤ rows[i].length ∧ rows[i].length ≤ 120
      · have hg : Good rows[i] := ⟨cg.1, cg.2, hbi⟩
        refine Ev.bind (seal_good rows[i] hg) ?_
        rw [decide_eq_true cg]
        have l3 : ∀ k, dogwatchlaw10_RecordBack.j2 (k + 1) rows (flat want) want (i : Int) (sealed rows[i]) 0 true = (dogwatchref10_Seal.f k rows[i]).bind fun t147 => dogwatchlaw10_RecordBack.j3 k rows (flat want) want (i : Int) (sealed rows[i]) true ((strOfNums (sealed rows[i])).toList != (strOfNums t147).toList) := fun k => by
          simp only [dogwatchlaw10_RecordBack.j2]
          rw [if_neg (show ¬ (true != ((0 : Int) == 0)) = true by decide), if_pos trivial, if_pos (show (0 : Int) ≤ (i : Int) by omega), if_pos (show (i : Int) < (rows.length : Int) by omega), hx]
        refine Ev.step (f := fun k => _) l3 (Ev.bind (rseal_ev rows[i] hg) ?_)
        rw [show ((strOfNums (sealed rows[i])).toList != (strOfNums (sealed rows[i])).toList) = false by simp]
        have hsl := sealed_len rows[i]
        have ef : flat (want ++ [rows[i]]) = flat want ++ sealed rows[i] := by unfold flat; rw [List.flatMap_append]; simp
        have ih2 := ih (i + 1) (want ++ [rows[i]]) (by omega) (by rw [List.length_append]; simp only [List.length_singleton]; omega) (fun b hb2 => by
          rcases List.mem_append.mp hb2 with q | q
          · exact hw b q
          · rw [List.mem_singleton.mp q]; exact hg)
        rw [ef] at ih2
        refine Ev.step (f := fun k => dogwatchlaw10_RecordBack.l0 k rows (flat want ++ sealed rows[i]) (want ++ [rows[i]]) ((i + 1 : Nat) : Int)) (fun k => ?_) ih2
        show dogwatchlaw10_RecordBack.j3 (k + 1) rows (flat want) want (i : Int) (sealed rows[i]) true false = _
        simp only [dogwatchlaw10_RecordBack.j3]
        rw [if_neg (show ¬ (false = true) by decide), if_pos trivial, if_pos (by omega), if_pos (show (0 : Int) ≤ (i : Int) by omega), if_pos (show (i : Int) < (rows.length : Int) by omega), if_pos (by omega), hx, ew]
      · refine Ev.bind (seal_bad rows[i] cg) ?_
        rw [decide_eq_false cg]
        have l3 : ∀ k, dogwatchlaw10_RecordBack.j2 (k + 1) rows (flat want) want (i : Int) [] 1 false = dogwatchlaw10_RecordBack.j3 k rows (flat want) want (i : Int) [] false false := fun k => by
          simp only [dogwatchlaw10_RecordBack.j2]
          rw [if_neg (show ¬ (false != ((1 : Int) == 0)) = true by decide), if_neg (show ¬ (false = true) by decide), if_pos (show (([] : List Int).length : Int) = 0 from rfl), if_pos trivial]
        refine Ev.step (f := fun k => _) l3 ?_
        refine Ev.step (f := fun k => dogwatchlaw10_RecordBack.l0 k rows (flat want) want ((i + 1 : Nat) : Int)) (fun k => ?_) (ih (i + 1) want (by omega) (by omega) hw)
        show dogwatchlaw10_RecordBack.j3 (k + 1) rows (flat want) want (i : Int) [] false false = _
        simp only [dogwatchlaw10_RecordBack.j3]
        rw [if_neg (show ¬ (false = true) by decide), if_neg (show ¬ (false = true) by decide), ew]
    · refine Ev.step (f := fun k => dogwatchlaw10_RecordBack.j1 k rows (flat want) want (i : Int) false) (fun k => ?_) (back_end rows want _ hw (by omega))
      show dogwatchlaw10_RecordBack.l0 (k + 1) rows (flat want) want (i : Int) = _
      simp only [dogwatchlaw10_RecordBack.l0]
      rw [if_neg (show ¬ (i : Int) < (rows.length : Int) by omega)]
theorem RecordBack_ev (rows : List (List Int)) (hb : ∀ r ∈ rows, Bytes r) : Ev (fun k => dogwatchlaw10_RecordBack.f k rows) true := by
  have := back_l0 rows hb 20 0 [] rfl (by simp) (by simp)
  exact this
end Go.Proofs.Ytgjcbpeliimhaaa.PRcb
