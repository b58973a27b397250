/- The law of the replies' bytes, in plain numbers. -/
import Derived.Test.YtgfkcmmhnibaiaaHdRep3
namespace Go.Proofs.Ytgfkcmmhnibaiaa.PRpd
open Go.RowKit Go.Proofs.YtgfkcmmhnibaiaaW.PrintWords Go.Proofs.YtgfkcmmhnibaiaaW.PrintLast Go.Proofs.YtgfkcmmhnibaiaaW.PrintMore
set_option linter.unusedVariables false
set_option linter.unusedSimpArgs false
theorem refEncode_j0 (k : Nat) (pre : List Int) (e : Int) (m : Bool) (n : Int) (l : List Int) (hp : pre.length ≤ 20) (h2 : 0 ≤ n ∧ n ≤ 255) (hn : neg l = false) (hb : ∀ x ∈ l, x < 2 ^ 63) (hl : l.length ≤ 20) (hk : 400 ≤ k) :
    dogwatchref12_Encode.j0 k pre e m n l = some (pre ++ (enc 9 n ++ ([(l.length : Int)] ++ encs l))) := by
  obtain ⟨k, rfl⟩ : ∃ q, k = q + 1 := ⟨k - 1, by omega⟩
  have q2 := enc_len 9 n
  have q3 : (pre ++ enc 9 n).length = pre.length + (enc 9 n).length := List.length_append
  have em : (l.length : Int) % 256 = (l.length : Int) := by omega
  simp only [dogwatchref12_Encode.j0]
  rw [u64_wrap n (by omega) (by omega), ref_Num 9 k n h2.1 (by rw [lim9]; omega) (by omega) (by omega) (by omega), Option.bind_some, if_pos (by omega), Option.bind_some, if_pos (by omega), em]
  have := refEncode_l0 e m n l hn hb hl l.length k (pre ++ enc 9 n ++ [(l.length : Int)]) 0 (by omega) (by omega) (by simp only [List.length_append, List.length_cons, List.length_nil]; omega)
  rw [List.drop_zero] at this
  rw [show ((0 : Nat) : Int) = 0 from rfl] at this
  rw [this]
  simp only [List.append_assoc]
theorem refEncode_is (k : Nat) (e : Int) (m : Bool) (n : Int) (l : List Int) (hr : rightB e m n l = true) (hb : ∀ x ∈ l, x < 2 ^ 63) (hk : 400 ≤ k) : dogwatchref12_Encode.f k e m n l = some (bytesOf e m n l) := by
  obtain ⟨h1, h2, h3, h4, h5, h6⟩ := right_parts hr
  have q1 := enc_len 9 e
  unfold dogwatchref12_Encode.f bytesOf
  rw [u64_wrap e (by omega) (by omega), ref_Num 9 k e h1 (by rw [lim9]; omega) (by omega) (by omega) (by omega), Option.bind_some]
  cases m with
  | true =>
    rw [if_pos rfl, if_pos (by omega), refEncode_j0 k _ e true n l (by simp only [List.length_append, List.length_cons, List.length_nil]; omega) ⟨h3, h4⟩ h6 hb h5 hk, if_pos rfl]
    simp only [List.append_assoc]
  | false =>
    rw [if_neg (by decide), if_pos (by omega), refEncode_j0 k _ e false n l (by simp only [List.length_append, List.length_cons, List.length_nil]; omega) ⟨h3, h4⟩ h6 hb h5 hk, if_neg (by decide)]
    simp only [List.append_assoc]
theorem Encode_not (k : Nat) (e : Int) (m : Bool) (n : Int) (l : List Int) (hl : l.length ≤ 1000) (hr : rightB e m n l = false) : reply_Encode.f k e m n l = some ([], 1) := by
  unfold reply_Encode.f
  rw [Check_is e m n l hl, hr, if_neg (by decide), Option.bind_some, if_neg (by decide)]
theorem awake_ge (k : Nat) (h : 100 ≤ k) : dogwatchlaw12_awake.f k = some true := by
  obtain ⟨n, rfl⟩ : ∃ n, k = 100 + n := ⟨k - 100, by omega⟩
  exact awake_le n
end Go.Proofs.Ytgfkcmmhnibaiaa.PRpd
