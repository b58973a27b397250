/- The replies' bytes: both ways tell the same. -/
import Derived.Test.YtgfkcmmhnibaiaaHdRep2
namespace Go.Proofs.Ytgfkcmmhnibaiaa.PRpd
open Go.RowKit Go.Proofs.YtgfkcmmhnibaiaaW.PrintWords Go.Proofs.YtgfkcmmhnibaiaaW.PrintLast Go.Proofs.YtgfkcmmhnibaiaaW.PrintMore
set_option linter.unusedVariables false
set_option linter.unusedSimpArgs false
theorem rd_nonneg (l : List Int) (hn : neg l = false) (i : Nat) (h : i < l.length) : 0 ≤ rd l (i : Int) := by
  rw [rd_nth l i h]
  unfold neg at hn
  have := List.any_eq_false.mp hn l[i] (List.getElem_mem _)
  simpa using this
theorem Put_one (k : Nat) (b : List Int) (x : Int) (hb : b.length ≤ 1000) (h0 : 0 ≤ x) (h1 : x < 2 ^ 64) (hk : 200 ≤ k) : octet_Put.f k b [x] = some (b ++ enc 9 x) := by
  rw [Put_enc k b [x] hb (by simp) (by intro y hy; simp at hy; rw [hy]; exact ⟨h0, h1⟩) (by omega)]
  simp [encs]
theorem Encode_l0 (l : List Int) (hn : neg l = false) (hb : ∀ x ∈ l, x < 2 ^ 63) (hl : l.length ≤ 20) : ∀ (d k : Nat) (pre : List Int) (i : Nat), i + d = l.length → d + 300 ≤ k → pre.length + 10 * d ≤ 1000 →
    reply_Encode.l0 k pre l (l.length : Int) (i : Int) = some (pre ++ encs (l.drop i), 0) := by
  intro d
  induction d with
  | zero =>
    intro k pre i hi hk hp
    obtain ⟨k, rfl⟩ : ∃ m, k = m + 1 := ⟨k - 1, by omega⟩
    simp only [reply_Encode.l0]
    rw [if_neg (by omega), List.drop_of_length_le (by omega)]
    simp [encs]
  | succ d ih =>
    intro k pre i hi hk hp
    obtain ⟨k, rfl⟩ : ∃ m, k = m + 1 := ⟨k - 1, by omega⟩
    have h0 := rd_nonneg l hn i (by omega)
    have h1 : rd l (i : Int) < 2 ^ 63 := by rw [rd_nth l i (by omega)]; exact hb _ (List.getElem_mem _)
    have q := enc_len 9 (rd l (i : Int))
    have hl2 : (pre ++ enc 9 (rd l (i : Int))).length + 10 * d ≤ 1000 := by rw [List.length_append]; omega
    have ew : wrap64 ((i : Int) + 1) = ((i + 1 : Nat) : Int) := by unfold wrap64; omega
    simp only [reply_Encode.l0]
    rw [if_pos (by omega), if_pos (by omega), if_pos (by omega), u64_wrap _ h0 (by omega), Put_one k pre _ (by omega) h0 (by omega) (by omega), Option.bind_some, ew, ih k _ (i + 1) (by omega) (by omega) hl2]
    rw [List.drop_eq_getElem_cons (show i < l.length by omega), ← rd_nth l i (by omega)]
    simp only [encs, List.flatMap_cons, List.append_assoc]
theorem refEncode_l0 (e : Int) (m : Bool) (n : Int) (l : List Int) (hn : neg l = false) (hb : ∀ x ∈ l, x < 2 ^ 63) (hl : l.length ≤ 20) : ∀ (d k : Nat) (pre : List Int) (i : Nat), i + d = l.length → d + 300 ≤ k → pre.length + 10 * d ≤ 1000 →
    dogwatchref12_Encode.l0 k pre (i : Int) e m n l = some (pre ++ encs (l.drop i)) := by
  intro d
  induction d with
  | zero =>
    intro k pre i hi hk hp
    obtain ⟨k, rfl⟩ : ∃ m, k = m + 1 := ⟨k - 1, by omega⟩
    simp only [dogwatchref12_Encode.l0]
    rw [if_neg (by omega), List.drop_of_length_le (by omega)]
    simp [encs]
  | succ d ih =>
    intro k pre i hi hk hp
    obtain ⟨k, rfl⟩ : ∃ m, k = m + 1 := ⟨k - 1, by omega⟩
    have h0 := rd_nonneg l hn i (by omega)
    have h1 : rd l (i : Int) < 2 ^ 63 := by rw [rd_nth l i (by omega)]; exact hb _ (List.getElem_mem _)
    have q := enc_len 9 (rd l (i : Int))
    have hl2 : (pre ++ enc 9 (rd l (i : Int))).length + 10 * d ≤ 1000 := by rw [List.length_append]; omega
    have ew : wrap64 ((i : Int) + 1) = ((i + 1 : Nat) : Int) := by unfold wrap64; omega
    simp only [dogwatchref12_Encode.l0]
    rw [if_pos (by omega), if_pos (by omega), u64_wrap _ h0 (by omega), ref_Num 9 k _ h0 (by rw [lim9]; omega) (by omega) (by omega) (by omega), Option.bind_some, if_pos (by omega), ew, ih k _ (i + 1) (by omega) (by omega) hl2]
    rw [List.drop_eq_getElem_cons (show i < l.length by omega), ← rd_nth l i (by omega)]
    simp only [encs, List.flatMap_cons, List.append_assoc]
def bytesOf (e : Int) (m : Bool) (n : Int) (l : List Int) : List Int := enc 9 e ++ ([if m = true then 1 else 0] ++ (enc 9 n ++ ([(l.length : Int)] ++ encs l)))
theorem enc_small (d : Nat) (x : Int) (h : x < 128) : enc d x = [x] := by
  cases d with
  | zero => rfl
  | succ d => simp only [enc]; rw [if_pos h]
theorem right_parts {e : Int} {m : Bool} {n : Int} {l : List Int} (h : rightB e m n l = true) : 0 ≤ e ∧ e ≤ 30 ∧ 0 ≤ n ∧ n ≤ 255 ∧ l.length ≤ 20 ∧ neg l = false := by
  unfold rightB at h
  simp only [Bool.and_eq_true, decide_eq_true_eq, Bool.not_eq_true'] at h
  obtain ⟨⟨h1, h2, h3, h4, h5⟩, h6, _⟩ := h
  refine ⟨h1, h2, h3, h4, ?_, h6⟩
  unfold checkLim at h5
  split at h5
  · omega
  · split at h5 <;> omega
theorem Encode_j0 (k : Nat) (f e : Int) (m : Bool) (n : Int) (l : List Int) (hf : 0 ≤ f ∧ f ≤ 1) (h1 : 0 ≤ e ∧ e ≤ 30) (h2 : 0 ≤ n ∧ n ≤ 255) (hn : neg l = false) (hb : ∀ x ∈ l, x < 2 ^ 63) (hl : l.length ≤ 20) (hk : 400 ≤ k) :
    reply_Encode.j0 k f e m n l = some (enc 9 e ++ ([f] ++ (enc 9 n ++ ([(l.length : Int)] ++ encs l))), 0) := by
  obtain ⟨k, rfl⟩ : ∃ q, k = q + 1 := ⟨k - 1, by omega⟩
  simp only [reply_Encode.j0]
  rw [u64_wrap e (by omega) (by omega), u64_wrap n (by omega) (by omega), u64_wrap (l.length : Int) (by omega) (by omega)]
  rw [Put_enc k [] _ (by simp) (by simp) (by intro y hy; simp at hy; rcases hy with rfl | rfl | rfl | rfl <;> omega) (by omega), Option.bind_some]
  have q1 := enc_len 9 e
  have q2 := enc_len 9 n
  have e1 : ([] : List Int) ++ encs [e, f, n, (l.length : Int)] = enc 9 e ++ ([f] ++ (enc 9 n ++ [(l.length : Int)])) := by
    simp only [encs, List.flatMap_cons, List.flatMap_nil, List.append_nil, List.nil_append]
    rw [enc_small 9 f (by omega), enc_small 9 (l.length : Int) (by omega)]
  rw [e1]
  have := Encode_l0 l hn hb hl l.length k (enc 9 e ++ ([f] ++ (enc 9 n ++ [(l.length : Int)]))) 0 (by omega) (by omega) (by simp only [List.length_append, List.length_cons, List.length_nil]; omega)
  rw [List.drop_zero] at this
  rw [show ((0 : Nat) : Int) = 0 from rfl] at this
  rw [this]
  simp only [List.append_assoc]
theorem Encode_is (k : Nat) (e : Int) (m : Bool) (n : Int) (l : List Int) (hr : rightB e m n l = true) (hb : ∀ x ∈ l, x < 2 ^ 63) (hk : 400 ≤ k) : reply_Encode.f k e m n l = some (bytesOf e m n l, 0) := by
  obtain ⟨h1, h2, h3, h4, h5, h6⟩ := right_parts hr
  unfold reply_Encode.f
  rw [Check_is e m n l (by omega), hr, if_pos rfl, Option.bind_some, if_pos rfl]
  unfold bytesOf
  cases m with
  | true => rw [if_pos rfl, Encode_j0 k 1 e true n l (by omega) ⟨h1, h2⟩ ⟨h3, h4⟩ h6 hb h5 hk]; rfl
  | false => rw [if_neg (by decide), Encode_j0 k 0 e false n l (by omega) ⟨h1, h2⟩ ⟨h3, h4⟩ h6 hb h5 hk]; rfl
end Go.Proofs.Ytgfkcmmhnibaiaa.PRpd
