/- Plain: the stable sort, over lists. -/
import Derived.Test.YtimabnjdgdcmaaaSrLargest
import Derived.Sort.LotA
namespace Go.Proofs.Ytimabnjdgdcmaaa.Pure
open Go.Sort Go.Proofs.Ytimabnjdgdcmaaa.PApp
open Go.Proofs (ltOf)
set_option linter.unusedVariables false
set_option linter.unusedSectionVars false
set_option linter.unusedSimpArgs false
section
variable {α : Type} [Inhabited α]
theorem set_a (P S : List α) (x v : α) (i : Nat) (hi : i = P.length) : (P ++ x :: S).set i v = P ++ v :: S := by
  subst hi
  rw [List.set_append_right _ _ (Nat.le_refl _), Nat.sub_self, List.set_cons_zero]
theorem get_a (d : Array α) (P S : List α) (x : α) (i : Nat) (h : d.toList = P ++ x :: S) (hi : i = P.length) : d[i]! = x := by
  have hs : d.size = (P ++ x :: S).length := by rw [← h, Array.length_toList]
  have hlt : i < d.size := by rw [hs, hi]; simp
  rw [getElem!_pos d i hlt, ← Array.getElem_toList]
  simp only [h]
  subst hi
  simp
theorem swp_list (d : Array α) (P M S : List α) (x y : α) (i j : Nat) (h : d.toList = P ++ x :: (M ++ y :: S)) (hi : i = P.length) (hj : j = P.length + 1 + M.length) :
    (swp d i j).toList = P ++ y :: (M ++ x :: S) := by
  have h1 : d[i]! = x := get_a d P _ x i h hi
  have h2 : d[j]! = y := get_a d (P ++ x :: M) S y j (by rw [h]; simp) (by simp; omega)
  unfold swp
  rw [h1, h2, Array.toList_setIfInBounds, Array.toList_setIfInBounds, h, set_a P _ x y i hi]
  rw [show P ++ y :: (M ++ y :: S) = (P ++ y :: M) ++ y :: S by simp, set_a (P ++ y :: M) S y x j (by simp; omega)]
  simp
theorem swp_list' (d : Array α) (P M S : List α) (x y : α) (i j : Nat) (h : d.toList = P ++ x :: (M ++ y :: S)) (hi : i = P.length) (hj : j = P.length + 1 + M.length) :
    (swp d j i).toList = P ++ y :: (M ++ x :: S) := by
  have h1 : d[i]! = x := get_a d P _ x i h hi
  have h2 : d[j]! = y := get_a d (P ++ x :: M) S y j (by rw [h]; simp) (by simp; omega)
  unfold swp
  rw [h1, h2, Array.toList_setIfInBounds, Array.toList_setIfInBounds, h]
  rw [show P ++ x :: (M ++ y :: S) = (P ++ x :: M) ++ y :: S by simp, set_a (P ++ x :: M) S y x j (by simp; omega)]
  rw [show (P ++ x :: M) ++ x :: S = P ++ x :: (M ++ x :: S) by simp, set_a P _ x y i hi]
theorem swpR_list (a b : Nat) : ∀ (n i : Nat) (d : Array α) (P X Q Y S : List α), d.toList = P ++ (X ++ (Q ++ (Y ++ S))) → X.length = n → Y.length = n → P.length = a + i → P.length + X.length + Q.length = b + i →
    (swpR a b n i d).toList = P ++ (Y ++ (Q ++ (X ++ S)))
  | 0, i, d, P, X, Q, Y, S, h, hx, hy, hp, hq => by
    obtain rfl := List.eq_nil_of_length_eq_zero hx
    obtain rfl := List.eq_nil_of_length_eq_zero hy
    exact h
  | n + 1, i, d, P, [], Q, Y, S, h, hx, hy, hp, hq => by simp at hx
  | n + 1, i, d, P, _ :: _, Q, [], S, h, hx, hy, hp, hq => by simp at hy
  | n + 1, i, d, P, x :: X, Q, y :: Y, S, h, hx, hy, hp, hq => by
    rw [swpR]
    have h1 := swp_list d P (X ++ Q) (Y ++ S) x y (a + i) (b + i) (by rw [h]; simp) hp.symm (by simp at hq ⊢; omega)
    have := swpR_list a b n (i + 1) (swp d (a + i) (b + i)) (P ++ [y]) X (Q ++ [x]) Y S (by rw [h1]; simp) (by simpa using hx) (by simpa using hy) (by simp; omega) (by simp at hq ⊢; omega)
    rw [this]
    simp
theorem rotF_list (m : Nat) : ∀ (f i j : Nat) (d : Array α) (P X Y S : List α), d.toList = P ++ (X ++ (Y ++ S)) → X.length = i → Y.length = j → 0 < i → 0 < j → P.length + i = m → i + j ≤ f →
    (rotF m f i j d).toList = P ++ (Y ++ (X ++ S))
  | 0, i, j, d, P, X, Y, S, h, hx, hy, hi, hj, hp, hf => by omega
  | f + 1, i, j, d, P, X, Y, S, h, hx, hy, hi, hj, hp, hf => by
    rw [rotF]
    by_cases hij : i = j
    · rw [if_pos hij]
      have := swpR_list (m - i) m i 0 d P X [] Y S (by simpa using h) hx (by omega) (by omega) (by simp; omega)
      simpa using this
    · rw [if_neg hij]
      by_cases hji : j < i
      · rw [if_pos hji]
        have h1 := swpR_list (m - i) m j 0 d P (X.take j) (X.drop j) Y S (by rw [h, ← List.append_assoc (X.take j), List.take_append_drop]) (by simp; omega) hy (by omega) (by simp; omega)
        have h2 := rotF_list m f (i - j) j (swpR (m - i) m j 0 d) (P ++ Y) (X.drop j) (X.take j) S (by rw [h1]; simp) (by simp; omega) (by simp; omega) (by omega) hj (by simp; omega) (by omega)
        rw [h2]
        simp [List.append_assoc]
        rw [← List.append_assoc (X.take j), List.take_append_drop]
      · rw [if_neg hji]
        have hsp : Y = Y.take (j - i) ++ Y.drop (j - i) := (List.take_append_drop _ _).symm
        have h1 := swpR_list (m - i) (m + j - i) i 0 d P X (Y.take (j - i)) (Y.drop (j - i)) S (by rw [h, ← List.append_assoc (Y.take (j - i)), List.take_append_drop]) hx (by simp; omega) (by omega) (by simp; omega)
        have h2 := rotF_list m f i (j - i) (swpR (m - i) (m + j - i) i 0 d) P (Y.drop (j - i)) (Y.take (j - i)) (X ++ S) (by rw [h1]) (by simp; omega) (by simp; omega) hi (by omega) hp (by omega)
        rw [h2, ← List.append_assoc (Y.take (j - i)), List.take_append_drop]
theorem rotA_list (d : Array α) (a m b : Nat) (P X Y S : List α) (h : d.toList = P ++ (X ++ (Y ++ S))) (hp : P.length = a) (hx : X.length = m - a) (hy : Y.length = b - m) (h1 : a < m) (h2 : m < b) :
    (rotA d a m b).toList = P ++ (Y ++ (X ++ S)) :=
  rotF_list m (b - a) (m - a) (b - m) d P X Y S h hx hy (by omega) (by omega) (by omega) (by omega)
theorem upF_list : ∀ (n k : Nat) (d : Array α) (P Y S : List α) (x : α), d.toList = P ++ x :: (Y ++ S) → P.length = k → Y.length = n → (upF n k d).toList = P ++ (Y ++ x :: S)
  | 0, k, d, P, Y, S, x, h, hp, hy => by
    obtain rfl := List.eq_nil_of_length_eq_zero hy
    exact h
  | n + 1, k, d, P, [], S, x, h, hp, hy => by simp at hy
  | n + 1, k, d, P, y :: Y, S, x, h, hp, hy => by
    rw [upF]
    have h1 := swp_list d P [] (Y ++ S) x y k (k + 1) (by rw [h]; simp) hp.symm (by simp; omega)
    have := upF_list n (k + 1) (swp d k (k + 1)) (P ++ [y]) Y S x (by rw [h1]; simp) (by simp; omega) (by simpa using hy)
    rw [this]
    simp
theorem downF_list : ∀ (n k : Nat) (d : Array α) (P Y S : List α) (x : α), d.toList = P ++ (Y ++ x :: S) → P.length + n = k → Y.length = n → (downF n k d).toList = P ++ x :: (Y ++ S)
  | 0, k, d, P, Y, S, x, h, hp, hy => by
    obtain rfl := List.eq_nil_of_length_eq_zero hy
    exact h
  | n + 1, k, d, P, Y, S, x, h, hp, hy => by
    rw [downF]
    obtain ⟨Y0, y, rfl⟩ : ∃ Y0 y, Y = Y0 ++ [y] := ⟨Y.dropLast, Y.getLast (by intro e; rw [e] at hy; simp at hy), (List.dropLast_concat_getLast _).symm⟩
    have hy0 : Y0.length = n := by simpa using hy
    have h1 := swp_list' d (P ++ Y0) [] S y x (k - 1) k (by rw [h]; simp) (by simp; omega) (by simp; omega)
    have := downF_list n (k - 1) (swp d k (k - 1)) P Y0 (y :: S) x (by rw [h1]; simp) (by omega) hy0
    rw [this]
    simp
theorem bsP_spec (P : Nat → Bool) : ∀ (f i j : Nat), i ≤ j → j - i ≤ f → (∀ c c', i ≤ c → c ≤ c' → c' < j → P c' = true → P c = true) →
    (∀ c, i ≤ c → c < bsP P f i j → P c = true) ∧ (∀ c, bsP P f i j ≤ c → c < j → P c = false)
  | 0, i, j, hij, hf, hm => by
    rw [bsP]
    exact ⟨fun c h1 h2 => by omega, fun c h1 h2 => by omega⟩
  | f + 1, i, j, hij, hf, hm => by
    rw [bsP]
    by_cases h : i < j
    · rw [if_pos h]
      by_cases hp : P ((i + j) / 2) = true
      · rw [if_pos hp]
        obtain ⟨a1, a2⟩ := bsP_spec P f ((i + j) / 2 + 1) j (by omega) (by omega) (fun c c' q1 q2 q3 q4 => hm c c' (by omega) q2 q3 q4)
        refine ⟨fun c h1 h2 => ?_, a2⟩
        by_cases hc : c ≤ (i + j) / 2
        · exact hm c _ h1 hc (by omega) hp
        · exact a1 c (by omega) h2
      · rw [if_neg hp]
        obtain ⟨a1, a2⟩ := bsP_spec P f i ((i + j) / 2) (by omega) (by omega) (fun c c' q1 q2 q3 q4 => hm c c' q1 q2 (by omega) q4)
        refine ⟨a1, fun c h1 h2 => ?_⟩
        by_cases hc : c < (i + j) / 2
        · exact a2 c h1 hc
        · apply Bool.eq_false_iff.mpr
          intro hpc
          exact hp (hm _ c (by omega) (by omega) h2 hpc)
    · rw [if_neg h]
      exact ⟨fun c h1 h2 => by omega, fun c h1 h2 => by omega⟩
end
end Go.Proofs.Ytimabnjdgdcmaaa.Pure
