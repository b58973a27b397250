/- Plain: the order of the rests; who gets one more. -/
import Derived.Test.YtimabnjdgdcmaaaApStable
import Derived.Test.YtimabnjdgdcmaaaApLargest
namespace Go.Proofs.Ytimabnjdgdcmaaa.Pure
open Go.Sort Go.RowKit Go.Proofs.Ytimabnjdgdcmaaa.PApp Go.Proofs.YtimabnjdgdcmaaaW.PrintWords
open Go.Proofs (ltOf)
set_option linter.unusedVariables false
set_option linter.unusedSectionVars false
set_option linter.unusedSimpArgs false
theorem ltF (rs : List Int) (x y : Fin rs.length) : ltOf (cfF rs) x y = decide (rs.getD y.val 0 < rs.getD x.val 0) := by
  unfold ltOf cfF cmpI
  by_cases h : rs.getD y.val 0 < rs.getD x.val 0
  · rw [if_pos h, decide_eq_true h]; rfl
  · rw [if_neg h, decide_eq_false h]
    split <;> rfl
theorem swoF (rs : List Int) : SWO (ltOf (cfF rs)) := by
  refine ⟨fun x => ?_, fun x y z h1 h2 => ?_, fun x y z h1 h2 => ?_⟩
  · rw [ltF]; exact decide_eq_false (by omega)
  · rw [ltF] at *
    have a := of_decide_eq_true h1
    have b := of_decide_eq_true h2
    exact decide_eq_true (by omega)
  · rw [ltF] at *
    have a := of_decide_eq_false h1
    have b := of_decide_eq_false h2
    exact decide_eq_false (by omega)
/-- The order's members: all numbers, the greatest rest first, of equal ones the smaller number first. -/
structure IsOrd (rs : List Int) (F : List Nat) : Prop where
  perm : F.Perm (List.range rs.length)
  ord : F.Pairwise (fun x y => rs.getD y 0 < rs.getD x 0 ∨ rs.getD y 0 = rs.getD x 0 ∧ x < y)
theorem ordL_isOrd (rs : List Int) : ∃ F : List Nat, ordL rs = F.map (fun x : Nat => (x : Int)) ∧ IsOrd rs F := by
  by_cases h : 0 < rs.length
  · letI : Inhabited (Fin rs.length) := ⟨⟨0, h⟩⟩
    have hid : (idA rs.length).toList = List.finRange rs.length := by
      unfold idA
      rw [Array.toList_ofFn]
      rfl
    have hT : St (ltOf (cfF rs)) (fun x => x.val) (idA rs.length).toList := by
      rw [hid]
      refine List.Pairwise.imp (fun {x y} hxy => Or.inr (Or.inr hxy)) (List.pairwise_lt_finRange _)
    have hm := stableA_list (swoF rs) (fun x => x.val) (idA rs.length) hT
    refine ⟨(stableA (ltOf (cfF rs)) (idA rs.length)).toList.map (fun x => x.val), ?_, ?_, ?_⟩
    · unfold ordL
      rw [dif_pos h]
      unfold valsF
      rw [List.map_map]
      rfl
    · have := hm.perm.map (fun x : Fin rs.length => x.val)
      rw [hid] at this
      refine this.trans ?_
      have e : (List.finRange rs.length).map (fun x : Fin rs.length => x.val) = List.range rs.length := by
        apply List.ext_getElem
        · simp
        · intro i h1 h2; simp
      rw [e]
    · refine List.pairwise_map.mpr ?_
      refine List.Pairwise.imp₂ (fun x y h1 h2 => ?_) hm.so hm.st
      rw [ltF] at h1
      rw [ltF, ltF] at h2
      have a := of_decide_eq_false h1
      rcases h2 with h2 | h2 | h2
      · have b := of_decide_eq_true h2; exact Or.inl b
      · have b := of_decide_eq_true h2; omega
      · rcases Int.lt_or_eq_of_le (Int.not_lt.mp a) with q | q
        · exact Or.inl q
        · exact Or.inr ⟨q, h2⟩
  · refine ⟨[], ?_, ?_, List.Pairwise.nil⟩
    · unfold ordL; rw [dif_neg h]; rfl
    · rw [show rs.length = 0 by omega]; exact List.Perm.refl _
theorem bumpL_get : ∀ (idx : List Nat) (o : List Int) (i : Nat), idx.Nodup → (∀ x ∈ idx, x < o.length) → (∀ j, 0 ≤ o.getD j 0 ∧ o.getD j 0 + idx.length ≤ 1099511627776) →
    (bumpL o (idx.map (fun x : Nat => (x : Int)))).getD i 0 = o.getD i 0 + if i ∈ idx then 1 else 0
  | [], o, i, _, _, _ => by
    show o.getD i 0 = _
    simp
  | x :: t, o, i, hd, hl, hr => by
    have hxl : x < o.length := hl x (by simp)
    have hrx := hr x
    simp only [List.length_cons] at hrx
    obtain ⟨hx, ht⟩ := List.nodup_cons.mp hd
    have e : o.set x (wrap64 (rd o (x : Int) + 1)) = bumpN o x := by rw [rdD, wId _ (by omega) (by omega)]; rfl
    show (bumpL (o.set x (wrap64 (rd o (x : Int) + 1))) (t.map (fun x : Nat => (x : Int)))).getD i 0 = _
    rw [e, bumpL_get t (bumpN o x) i ht (fun y hy => by rw [bumpN_length]; exact hl y (by simp [hy])) (fun j => by
      have := hr j
      simp only [List.length_cons] at this
      rw [bumpN_get o x j hxl]
      split
      · rename_i ej; subst ej; omega
      · omega), bumpN_get o x i hxl]
    by_cases ei : i = x
    · subst ei
      rw [if_pos rfl, if_neg hx, if_pos (by simp)]
      omega
    · rw [if_neg ei]
      congr 1
      by_cases em : i ∈ t
      · rw [if_pos em, if_pos (by simp [em])]
      · rw [if_neg em, if_neg (by simp [em, ei])]
theorem bumpL_sum : ∀ (idx : List Nat) (o : List Int), (∀ x ∈ idx, x < o.length) → (∀ j, 0 ≤ o.getD j 0 ∧ o.getD j 0 + idx.length ≤ 1099511627776) →
    (bumpL o (idx.map (fun x : Nat => (x : Int)))).sum = o.sum + idx.length
  | [], o, _, _ => by
    show o.sum = _
    simp
  | x :: t, o, hl, hr => by
    have hxl : x < o.length := hl x (by simp)
    have hrx := hr x
    simp only [List.length_cons] at hrx
    have e : o.set x (wrap64 (rd o (x : Int) + 1)) = bumpN o x := by rw [rdD, wId _ (by omega) (by omega)]; rfl
    show (bumpL (o.set x (wrap64 (rd o (x : Int) + 1))) (t.map (fun x : Nat => (x : Int)))).sum = _
    rw [e, bumpL_sum t (bumpN o x) (fun y hy => by rw [bumpN_length]; exact hl y (by simp [hy])) (fun j => by
      have := hr j
      simp only [List.length_cons] at this
      rw [bumpN_get o x j hxl]
      split
      · rename_i ej; subst ej; omega
      · omega), bumpN_sum o x hxl]
    simp only [List.length_cons]
    omega
theorem sum_perm {l l' : List Int} (h : l.Perm l') : l.sum = l'.sum := by
  induction h with
  | nil => rfl
  | cons x _ ih => simp only [List.sum_cons, ih]
  | swap x y l => simp only [List.sum_cons]; omega
  | trans _ _ a b => rw [a, b]
/-- Of an order's first m, where the rests together are m times 'all': each has a rest. -/
theorem first_rest {rs : List Int} {F : List Nat} (O : IsOrd rs F) {all : Int} {m : Nat} (ha : 0 < all) (hr : ∀ i, 0 ≤ rs.getD i 0 ∧ rs.getD i 0 < all) (hs : rs.sum = m * all) : ∀ i ∈ F.take m, 0 < rs.getD i 0 := by
  intro i hi
  apply Classical.byContradiction
  intro hno
  have hi0 : rs.getD i 0 = 0 := by have := hr i; omega
  obtain ⟨t, ht, rfl⟩ := List.getElem_of_mem hi
  rw [List.length_take] at ht
  rw [List.getElem_take] at hi0
  have htl : t < F.length := by omega
  -- the rests by the order
  have hsum : (F.map (fun x => rs.getD x 0)).sum = rs.sum := by
    have h1 := sum_perm (O.perm.map (fun x => rs.getD x 0))
    rw [h1]
    congr 1
    apply List.ext_getElem
    · simp
    · intro j h1 h2
      rw [List.getElem_map, List.getElem_range, List.getD_eq_getElem?_getD, List.getElem?_eq_getElem h2]
      rfl
  have hz : ∀ (k : Nat) (G : List Nat), (∀ x ∈ G.drop k, rs.getD x 0 ≤ 0) → (G.map (fun x => rs.getD x 0)).sum ≤ k * (all - 1) := by
    intro k
    induction k with
    | zero =>
      intro G hG
      rw [List.drop_zero] at hG
      have : ∀ G : List Nat, (∀ x ∈ G, rs.getD x 0 ≤ 0) → (G.map (fun x => rs.getD x 0)).sum ≤ 0 := by
        intro G
        induction G with
        | nil => intro _; simp
        | cons y u ih =>
          intro hy
          have h1 := hy y (by simp)
          have h2 := ih (fun x hx => hy x (by simp [hx]))
          simp only [List.map_cons, List.sum_cons]
          omega
      have := this G hG
      simpa using this
    | succ k ih =>
      intro G hG
      cases G with
      | nil =>
        simp only [List.map_nil, List.sum_nil]
        exact Int.mul_nonneg (by omega) (by omega)
      | cons y u =>
        have h1 := ih u (by simpa using hG)
        have h2 := hr y
        simp only [List.map_cons, List.sum_cons]
        rw [show ((k + 1 : Nat) : Int) * (all - 1) = (k : Int) * (all - 1) + (all - 1) by rw [Int.natCast_add, Int.add_mul]; simp]
        omega
  have hle := hz t F (fun x hx => by
    have hpw := O.ord
    rw [← List.take_append_drop t F] at hpw
    rw [List.drop_eq_getElem_cons htl] at hx hpw
    rcases List.mem_cons.mp hx with rfl | hx
    · omega
    · have := (List.pairwise_cons.mp (List.pairwise_append.mp hpw).2.1).1 x hx
      omega)
  rw [hsum, hs] at hle
  have h1 : (t : Int) * (all - 1) ≤ (t : Int) * all := Int.mul_le_mul_of_nonneg_left (by omega) (by omega)
  have h2 : ((t : Int) + 1) * all ≤ (m : Int) * all := Int.mul_le_mul_of_nonneg_right (by omega) (by omega)
  rw [Int.add_mul] at h2
  omega
end Go.Proofs.Ytimabnjdgdcmaaa.Pure
