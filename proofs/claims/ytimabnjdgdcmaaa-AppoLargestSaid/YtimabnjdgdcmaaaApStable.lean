/- Plain: the stable sort sorts, and keeps the order of equal ones. -/
import Derived.Test.YtimabnjdgdcmaaaApMerge
namespace Go.Proofs.Ytimabnjdgdcmaaa.Pure
open Go.Sort Go.Proofs.Ytimabnjdgdcmaaa.PApp
open Go.Proofs (ltOf)
set_option linter.unusedVariables false
set_option linter.unusedSectionVars false
set_option linter.unusedSimpArgs false
section
variable {α : Type} [Inhabited α]
theorem St.replace {lt : α → α → Bool} {num : α → Nat} {P M S Z : List α} (h : St lt num (P ++ (M ++ S))) (hp : Z.Perm M) (hz : St lt num Z) : St lt num (P ++ (Z ++ S)) := by
  obtain ⟨h1, h2, h3⟩ := List.pairwise_append.mp h
  obtain ⟨h4, h5, h6⟩ := List.pairwise_append.mp h2
  refine List.pairwise_append.mpr ⟨h1, List.pairwise_append.mpr ⟨hz, h5, fun x hx y hy => h6 x (hp.mem_iff.mp hx) y hy⟩, fun x hx y hy => ?_⟩
  rcases List.mem_append.mp hy with hy | hy
  · exact h3 x hx y (List.mem_append_left _ (hp.mem_iff.mp hy))
  · exact h3 x hx y (List.mem_append_right _ hy)
theorem St.mid {lt : α → α → Bool} {num : α → Nat} {P M S : List α} (h : St lt num (P ++ (M ++ S))) : St lt num M :=
  h.sub ((List.sublist_append_left M S).trans (List.sublist_append_right P _))
theorem two_at (d : Array α) (j : Nat) (h : j + 1 < d.size) : ∃ P S, d.toList = P ++ d[j]! :: d[j + 1]! :: S ∧ P.length = j := by
  have hl : d.toList.length = d.size := Array.length_toList
  refine ⟨d.toList.take j, d.toList.drop (j + 2), ?_, by rw [List.length_take]; omega⟩
  have e1 : d.toList.drop j = d[j]! :: d.toList.drop (j + 1) := by
    rw [List.drop_eq_getElem_cons (by omega), getElem!_pos d j (by omega)]
    simp
  have e2 : d.toList.drop (j + 1) = d[j + 1]! :: d.toList.drop (j + 2) := by
    rw [List.drop_eq_getElem_cons (by omega), getElem!_pos d (j + 1) (by omega)]
    simp
  rw [← e2, ← e1, List.take_append_drop]
theorem insInner_St {lt : α → α → Bool} {num : α → Nat} (a : Nat) : ∀ (j : Nat) (d : Array α), j < d.size → St lt num d.toList → St lt num (insInner lt a j d).toList
  | 0, d, hj, h => by rw [insInner]; exact h
  | j + 1, d, hj, h => by
    rw [insInner]
    split
    · rename_i hc
      simp only [Bool.and_eq_true] at hc
      obtain ⟨P, S, e, hp⟩ := two_at d j hj
      have hsw := swp_list' d P [] S d[j]! d[j + 1]! j (j + 1) (by rw [e]; simp) hp.symm (by simp; omega)
      refine insInner_St a j _ (by rw [size_swp]; omega) ?_
      rw [hsw]
      rw [e] at h
      have := St.replace (P := P) (M := [d[j]!, d[j + 1]!]) (S := S) (Z := [d[j + 1]!, d[j]!]) (by simpa using h) (List.Perm.swap _ _ _) (by
        refine List.pairwise_cons.mpr ⟨fun z hz => ?_, by simp⟩
        obtain rfl : z = d[j]! := by simpa using hz
        exact Or.inl hc.2)
      simpa using this
    · exact h
theorem insOuter_St {lt : α → α → Bool} {num : α → Nat} (a b : Nat) : ∀ (n i : Nat) (d : Array α), b - i = n → b ≤ d.size → St lt num d.toList → St lt num (insOuter lt a b i d).toList
  | 0, i, d, hn, hb, h => by rw [insOuter, if_neg (by omega)]; exact h
  | n + 1, i, d, hn, hb, h => by
    rw [insOuter, if_pos (by omega)]
    exact insOuter_St a b n (i + 1) _ (by omega) (by rw [insInner_size']; exact hb) (insInner_St a i d (by omega) h)
where insInner_size' {lt : α → α → Bool} {a i : Nat} {d : Array α} : (insInner lt a i d).size = d.size := insInner_size lt a i d
theorem ins_list {lt : α → α → Bool} (hS : SWO lt) (num : α → Nat) (d : Array α) (a b : Nat) (P M S : List α) (h : d.toList = P ++ (M ++ S)) (hp : P.length = a) (hb : a + M.length = b) (hT : St lt num (P ++ (M ++ S))) :
    ∃ Z, (Sort.insertionSort lt d a b).toList = P ++ (Z ++ S) ∧ Mg lt num M Z := by
  have hsz : d.size = P.length + (M.length + S.length) := by rw [← Array.length_toList, h]; simp
  obtain ⟨⟨p1, p2, p3⟩, ps⟩ := insertionSort_holds hS d a b (by omega) (by omega)
  have hst : St lt num (Sort.insertionSort lt d a b).toList := insOuter_St a b _ _ d rfl (by omega) (by rw [h]; exact hT)
  generalize Sort.insertionSort lt d a b = d' at p1 p2 p3 ps hst ⊢
  have hl' : d'.toList.length = d.size := by rw [Array.length_toList, p1]
  have eP : d'.toList.take a = P := by
    apply List.ext_getElem
    · rw [List.length_take, hl']; omega
    · intro i h1 h2
      have := p2 i (Or.inl (by omega))
      rw [getElem!_pos d' i (by omega), getElem!_pos d i (by omega), ← Array.getElem_toList, ← Array.getElem_toList] at this
      rw [List.getElem_take, this]
      simp only [h]
      rw [List.getElem_append_left h2]
  have eS : d'.toList.drop b = S := by
    apply List.ext_getElem
    · rw [List.length_drop, hl']; omega
    · intro i h1 h2
      have := p2 (b + i) (Or.inr (by omega))
      rw [getElem!_pos d' (b + i) (by omega), getElem!_pos d (b + i) (by omega), ← Array.getElem_toList, ← Array.getElem_toList] at this
      rw [List.getElem_drop, this]
      simp only [h]
      rw [List.getElem_append_right (by omega), List.getElem_append_right (by omega)]
      congr 1
      omega
  have eM : (d.extract a b).toList = M := by
    rw [Array.toList_extract, h, List.extract_eq_take_drop]
    rw [List.drop_append_of_le_length (by omega), List.drop_of_length_le (by omega), List.nil_append, List.take_append_of_le_length (by omega), List.take_of_length_le (by omega)]
  refine ⟨(d'.extract a b).toList, ?_, ?_⟩
  · rw [Array.toList_extract, List.extract_eq_take_drop, ← eP, ← eS]
    rw [show d'.toList.drop b = (d'.toList.drop a).drop (b - a) by rw [List.drop_drop]; congr 1; omega, List.take_append_drop, List.take_append_drop]
  · rw [eM] at p3
    have hsp : d'.toList = P ++ ((d'.extract a b).toList ++ S) := by
      rw [Array.toList_extract, List.extract_eq_take_drop, ← eP, ← eS]
      rw [show d'.toList.drop b = (d'.toList.drop a).drop (b - a) by rw [List.drop_drop]; congr 1; omega, List.take_append_drop, List.take_append_drop]
    refine ⟨p3, ?_, ?_⟩
    · refine List.pairwise_iff_getElem.mpr (fun i j hi hj hij => ?_)
      have hzl : (d'.extract a b).toList.length = M.length := p3.length_eq
      have g1 := (seg_get d' P _ S hsp (P.length + i) (by omega) (by omega)).2
      have g2 := (seg_get d' P _ S hsp (P.length + j) (by omega) (by omega)).2
      have := ps (P.length + i) (P.length + j) (by omega) (by omega) (by omega)
      rw [g1, g2] at this
      simpa using this
    · rw [hsp] at hst
      exact hst.mid
/-- Blocks of B members, each sorted. -/
inductive Blocks (lt : α → α → Bool) (B : Nat) : List α → Prop
  | nil : Blocks lt B []
  | cons {X L : List α} : X.length = B → So lt X → Blocks lt B L → Blocks lt B (X ++ L)
theorem Blocks.snoc {lt : α → α → Bool} {B : Nat} {X L : List α} (h : Blocks lt B L) (h1 : X.length = B) (h2 : So lt X) : Blocks lt B (L ++ X) := by
  induction h with
  | nil => have := Blocks.cons h1 h2 (Blocks.nil (lt := lt) (B := B)); simpa using this
  | cons k1 k2 _ ih => rw [List.append_assoc]; exact Blocks.cons k1 k2 ih
/-- The row: blocks of B, and fewer than B behind them, sorted. -/
def Bk (lt : α → α → Bool) (B : Nat) (L : List α) : Prop := ∃ Q T, L = Q ++ T ∧ Blocks lt B Q ∧ T.length < B ∧ So lt T
theorem blkF_list {lt : α → α → Bool} (hS : SWO lt) (num : α → Nat) (n : Nat) : ∀ (f a : Nat) (d : Array α) (P R : List α), d.toList = P ++ R → P.length = a → d.size = n → n < a + f → Blocks lt 20 P → St lt num (P ++ R) →
    ∃ D T, (blkF lt n f a d).2.toList = D ++ T ∧ (blkF lt n f a d).1 = D.length ∧ Blocks lt 20 D ∧ T.length < 20 ∧ (D ++ T).Perm (P ++ R) ∧ St lt num (D ++ T)
  | 0, a, d, P, R, h, hp, hn, hf, hB, hT => by
    have : d.size = P.length + R.length := by rw [← Array.length_toList, h]; simp
    omega
  | f + 1, a, d, P, R, h, hp, hn, hf, hB, hT => by
    have hsz : d.size = P.length + R.length := by rw [← Array.length_toList, h]; simp
    rw [blkF]
    by_cases c : a + 20 ≤ n
    · rw [if_pos c]
      have hsp : R = R.take 20 ++ R.drop 20 := (List.take_append_drop _ _).symm
      have hl : (R.take 20).length = 20 := by rw [List.length_take]; omega
      obtain ⟨Z, e, m⟩ := ins_list hS num d a (a + 20) P (R.take 20) (R.drop 20) (by rw [h]; congr 1) hp (by omega) (by rw [← hsp]; exact hT)
      have hzl : Z.length = 20 := by rw [m.perm.length_eq, hl]
      have hT2 : St lt num (P ++ (Z ++ R.drop 20)) := St.replace (by rw [← hsp]; exact hT) m.perm m.st
      obtain ⟨D, T, q1, q2, q3, q4, q5, q6⟩ := blkF_list hS num n f (a + 20) (Sort.insertionSort lt d a (a + 20)) (P ++ Z) (R.drop 20) (by rw [e]; simp) (by simp; omega) (by rw [insSize]; exact hn) (by omega) (hB.snoc hzl m.so) (by simpa using hT2)
      refine ⟨D, T, q1, q2, q3, q4, q5.trans ?_, q6⟩
      rw [List.append_assoc]
      refine List.Perm.append_left P ?_
      conv => rhs; rw [hsp]
      exact List.Perm.append_right _ m.perm
    · rw [if_neg c]
      exact ⟨P, R, h, hp.symm, hB, by omega, List.Perm.refl _, hT⟩
theorem mrgF_list {lt : α → α → Bool} (hS : SWO lt) (num : α → Nat) (n B : Nat) (hB : 0 < B) : ∀ (f a : Nat) (d : Array α) (P Q T : List α), d.toList = P ++ (Q ++ T) → P.length = a → d.size = n → n < a + f → Blocks lt (2 * B) P → Blocks lt B Q → T.length < B → St lt num (P ++ (Q ++ T)) →
    ∃ D T0, (mrgF lt n B f a d).2.toList = D ++ T0 ∧ (mrgF lt n B f a d).1 = D.length ∧ Blocks lt (2 * B) D ∧ (D ++ T0).Perm (P ++ (Q ++ T)) ∧ St lt num (D ++ T0) ∧ (T0 = T ∨ ∃ X, X.length = B ∧ So lt X ∧ T0 = X ++ T)
  | 0, a, d, P, Q, T, h, hp, hn, hf, hP, hQ, hTl, hT => by
    have : d.size = P.length + (Q.length + T.length) := by rw [← Array.length_toList, h]; simp
    omega
  | f + 1, a, d, P, Q, T, h, hp, hn, hf, hP, hQ, hTl, hT => by
    have hsz : d.size = P.length + (Q.length + T.length) := by rw [← Array.length_toList, h]; simp
    cases hQ with
    | nil =>
      rw [mrgF_end _ _ _ _ _ _ (by simp at hsz; omega)]
      exact ⟨P, T, by rw [h]; simp, hp.symm, hP, by simp, by simpa using hT, Or.inl rfl⟩
    | @cons X L hX sX hL =>
      cases hL with
      | nil =>
        rw [mrgF_end _ _ _ _ _ _ (by simp at hsz; omega)]
        exact ⟨P, X ++ T, by rw [h]; simp, hp.symm, hP, by simp, by simpa using hT, Or.inr ⟨X, hX, sX, rfl⟩⟩
      | @cons Y L hY sY hL =>
        rw [mrgF, if_pos (by simp at hsz; omega)]
        have hT' : St lt num (P ++ ((X ++ Y) ++ (L ++ T))) := by simpa using hT
        obtain ⟨Z, e, m⟩ := symF_list hS num (a + 2 * B - a) a (a + B) (a + 2 * B) d P X Y (L ++ T) (by rw [h]; simp) hp (by omega) (by omega) (by omega) (by omega) (Nat.le_refl _) sX sY hT'.mid
        have hzl : Z.length = 2 * B := by rw [m.perm.length_eq, List.length_append]; omega
        have hT2 := St.replace hT' m.perm m.st
        obtain ⟨D, T0, q1, q2, q3, q4, q5, q6⟩ := mrgF_list hS num n B hB f (a + 2 * B) (symA lt d a (a + B) (a + 2 * B)) (P ++ Z) L T (by unfold symA; rw [e]; simp) (by simp; omega) (by rw [symA_size]; exact hn) (by omega) (hP.snoc hzl m.so) hL hTl (by simpa using hT2)
        refine ⟨D, T0, q1, q2, q3, q4.trans ?_, q5, q6⟩
        rw [List.append_assoc]
        refine List.Perm.append_left P ?_
        rw [show X ++ (Y ++ L) ++ T = (X ++ Y) ++ (L ++ T) by simp]
        exact List.Perm.append_right _ m.perm
theorem step_list {lt : α → α → Bool} (hS : SWO lt) (num : α → Nat) (B : Nat) (hB : 0 < B) (d : Array α) (hk : Bk lt B d.toList) (hT : St lt num d.toList) :
    Bk lt (2 * B) (mrgEnd lt d.size B (mrgF lt d.size B (d.size + 1) 0 d)).toList ∧ St lt num (mrgEnd lt d.size B (mrgF lt d.size B (d.size + 1) 0 d)).toList ∧ (mrgEnd lt d.size B (mrgF lt d.size B (d.size + 1) 0 d)).toList.Perm d.toList := by
  obtain ⟨Q, T, e, hQ, hTl, sT⟩ := hk
  obtain ⟨D, T0, q1, q2, q3, q4, q5, q6⟩ := mrgF_list hS num d.size B hB (d.size + 1) 0 d [] Q T (by simpa using e) rfl rfl (by omega) Blocks.nil hQ hTl (by rw [e] at hT; simpa using hT)
  have hsz : (D ++ T0).length = d.size := by rw [← q1, Array.length_toList, mrgF_size]
  rw [List.length_append] at hsz
  have q4' : (D ++ T0).Perm d.toList := by rw [e]; simpa using q4
  generalize mrgF lt d.size B (d.size + 1) 0 d = x at q1 q2 ⊢
  unfold mrgEnd
  by_cases c : x.1 + B < d.size
  · rw [if_pos c]
    rcases q6 with rfl | ⟨X, hX, sX, rfl⟩
    · omega
    · rw [List.length_append] at hsz
      have q5' : St lt num (D ++ ((X ++ T) ++ [])) := by simpa using q5
      obtain ⟨Z, e2, m⟩ := symF_list hS num (d.size - x.1) x.1 (x.1 + B) d.size x.2 D X T [] (by rw [q1]; simp) q2.symm (by omega) (by omega) (by omega) c (Nat.le_refl _) sX sT q5'.mid
      have hzl : Z.length = B + T.length := by rw [m.perm.length_eq, List.length_append]; omega
      rw [List.append_nil] at e2
      have e3 : (symA lt x.2 x.1 (x.1 + B) d.size).toList = D ++ Z := e2
      rw [e3]
      refine ⟨⟨D, Z, rfl, q3, by omega, m.so⟩, by have := St.replace q5' m.perm m.st; simpa using this, (List.Perm.append_left D m.perm).trans q4'⟩
  · rw [if_neg c, q1]
    refine ⟨?_, q5, q4'⟩
    rcases q6 with rfl | ⟨X, hX, sX, rfl⟩
    · exact ⟨D, T0, rfl, q3, by omega, sT⟩
    · rw [List.length_append] at hsz
      obtain rfl := List.eq_nil_of_length_eq_zero (show T.length = 0 by omega)
      exact ⟨D, X ++ [], rfl, q3, by simp; omega, by simpa using sX⟩
theorem Bk.done {lt : α → α → Bool} {B : Nat} {L : List α} (h : Bk lt B L) (hB : L.length ≤ B) (h0 : 0 < B) : So lt L := by
  obtain ⟨Q, T, rfl, hQ, hTl, sT⟩ := h
  rw [List.length_append] at hB
  cases hQ with
  | nil => simpa using sT
  | @cons X L hX sX hL =>
    rw [List.length_append] at hB
    obtain rfl := List.eq_nil_of_length_eq_zero (show L.length = 0 by omega)
    obtain rfl := List.eq_nil_of_length_eq_zero (show T.length = 0 by omega)
    simpa using sX
theorem allF_list {lt : α → α → Bool} (hS : SWO lt) (num : α → Nat) (n : Nat) : ∀ (f B : Nat) (d : Array α), d.size = n → 0 < B → n < B + f → Bk lt B d.toList → St lt num d.toList → Mg lt num d.toList (allF lt n f B d).toList
  | 0, B, d, hn, hB, hf, hk, hT => by
    rw [allF]
    exact ⟨List.Perm.refl _, hk.done (by rw [Array.length_toList]; omega) hB, hT⟩
  | f + 1, B, d, hn, hB, hf, hk, hT => by
    rw [allF]
    by_cases c : B < n
    · rw [if_pos c]
      subst hn
      obtain ⟨k1, k2, k3⟩ := step_list hS num B hB d hk hT
      have := allF_list hS num d.size f (2 * B) _ (by rw [mrgEnd_size, mrgF_size]) (by omega) (by omega) k1 k2
      exact ⟨this.perm.trans k3, this.so, this.st⟩
    · rw [if_neg c]
      exact ⟨List.Perm.refl _, hk.done (by rw [Array.length_toList]; omega) hB, hT⟩
/-- The stable sort: a permutation, sorted, and equal ones in the order of their numbers. -/
theorem stableA_list {lt : α → α → Bool} (hS : SWO lt) (num : α → Nat) (d : Array α) (hT : St lt num d.toList) : Mg lt num d.toList (stableA lt d).toList := by
  obtain ⟨D, T, q1, q2, q3, q4, q5, q6⟩ := blkF_list hS num d.size (d.size + 1) 0 d [] d.toList (by simp) rfl rfl (by omega) Blocks.nil (by simpa using hT)
  unfold stableA
  dsimp only
  have hsz : (blkF lt d.size (d.size + 1) 0 d).2.size = d.size := blkF_size _ _ _ _ _
  generalize blkF lt d.size (d.size + 1) 0 d = x at q1 q2 hsz ⊢
  have hl : D.length + T.length = d.size := by rw [← hsz, ← Array.length_toList, q1, List.length_append]
  obtain ⟨Z, e, m⟩ := ins_list hS num x.2 x.1 d.size D T [] (by rw [q1]; simp) q2.symm (by omega) (by simpa using q6)
  rw [List.append_nil] at e
  have hst : St lt num (D ++ Z) := by
    have := St.replace (P := D) (M := T) (S := []) (by simpa using q6) m.perm m.st
    simpa using this
  have := allF_list hS num d.size (d.size + 1) 20 (Sort.insertionSort lt x.2 x.1 d.size) (by rw [insSize]; exact hsz) (by omega) (by omega) (by rw [e]; exact ⟨D, Z, rfl, q3, by rw [m.perm.length_eq]; exact q4, m.so⟩) (by rw [e]; exact hst)
  refine ⟨this.perm.trans ?_, this.so, this.st⟩
  rw [e]
  refine (List.Perm.append_left D m.perm).trans ?_
  simpa using q5
end
end Go.Proofs.Ytimabnjdgdcmaaa.Pure
