/- No number's octets begin another's; for every input. -/
import Derived.Test.YtgjcbpeliimhaaaPOctx5
import Derived.Test.YtgjcbpeliimhaaaOctPure
namespace Go.Proofs.Ytgjcbpeliimhaaa.Pure
open Go.RowKit Go.Proofs.Ytgjcbpeliimhaaa.POct Go.Proofs.YtgjcbpeliimhaaaW.PrintWords Go.Proofs.YtgjcbpeliimhaaaW.PrintLast Go.Proofs.YtgjcbpeliimhaaaW.PrintMore
set_option linter.unusedVariables false
set_option linter.unusedSimpArgs false
theorem take_apart {a b : Int} (ha : 0 ≤ a ∧ a < 2 ^ 64) (hb : 0 ≤ b ∧ b < 2 ^ 64) (m : Nat) (hm : m = (enc 9 a).length ∨ m = (enc 9 b).length) (hx : m ≤ (enc 9 a).length) (hy : m ≤ (enc 9 b).length)
    (h : (enc 9 a).take m = (enc 9 b).take m) : a = b := by
  have la : a < lim 9 := by rw [lim9]; omega
  have lb : b < lim 9 := by rw [lim9]; omega
  rcases hm with rfl | rfl
  · rw [List.take_length] at h
    refine (enc_apart 9 b a ((enc 9 b).drop (enc 9 a).length) hb.1 lb ha.1 la ?_).symm
    conv => lhs; rw [← List.take_append_drop (enc 9 a).length (enc 9 b), ← h]
  · rw [List.take_length] at h
    refine enc_apart 9 a b ((enc 9 a).drop (enc 9 b).length) ha.1 la hb.1 lb ?_
    conv => lhs; rw [← List.take_append_drop (enc 9 b).length (enc 9 a), h]
theorem bytes_take {l : List Int} (h : Bytes l) (n : Nat) : Bytes (l.take n) := fun x hx => h x (List.mem_of_mem_take hx)
theorem same_beq {a b : Int} (x y : List Int) (hx : Bytes x) (hy : Bytes y) (h : x = y → a = b) (h2 : a = b → x = y) :
    (((strOfNums x).toList == (strOfNums y).toList) == (a == b)) = true := by
  by_cases e : a = b
  · rw [h2 e, beq_self_eq_true, e, beq_self_eq_true]; rfl
  · have e1 : ((strOfNums x).toList == (strOfNums y).toList) = false := beq_eq_false_iff_ne.mpr fun q => e (h (str_inj hx hy q))
    rw [e1, beq_eq_false_iff_ne.mpr e]; rfl
theorem OctetApart : dogwatchlaw09_OctetApart.Pure := by
  intro a b w0 w1
  have h0 := wf64 w0
  have h1 := wf64 w1
  obtain ⟨k, hk⟩ : ∃ k : Nat, k = 10000 := ⟨_, rfl⟩
  refine ⟨k, ?_⟩
  unfold dogwatchlaw09_OctetApart.f
  have la : a < lim 9 := by rw [lim9]; omega
  have lb : b < lim 9 := by rw [lim9]; omega
  have ba := enc_bytes 9 a h0.1 la
  have bb := enc_bytes 9 b h1.1 lb
  have q0 := enc_len 9 a
  have q1 := enc_len 9 b
  have hm : (mn ((enc 9 a).length : Int) ((enc 9 b).length : Int)).toNat = (enc 9 a).length ∨ (mn ((enc 9 a).length : Int) ((enc 9 b).length : Int)).toNat = (enc 9 b).length := by
    unfold mn; split <;> omega
  have hm0 : 0 ≤ mn ((enc 9 a).length : Int) ((enc 9 b).length : Int) := by unfold mn; split <;> omega
  have hma : mn ((enc 9 a).length : Int) ((enc 9 b).length : Int) ≤ ((enc 9 a).length : Int) := by unfold mn; split <;> omega
  have hmb : mn ((enc 9 a).length : Int) ((enc 9 b).length : Int) ≤ ((enc 9 b).length : Int) := by unfold mn; split <;> omega
  have t1 := same_beq _ _ (bytes_take ba (mn ((enc 9 a).length : Int) ((enc 9 b).length : Int)).toNat) (bytes_take bb (mn ((enc 9 a).length : Int) ((enc 9 b).length : Int)).toNat) (fun h => take_apart h0 h1 _ hm (by omega) (by omega) h) (fun h => by rw [h])
  have t2 : (((strOfNums (enc 9 a)).toList == (strOfNums (enc 9 b)).toList) == (a == b)) = true := same_beq _ _ ba bb (fun h => enc_apart 9 a b [] h0.1 la h1.1 lb (by rw [h, List.append_nil])) (fun h => by rw [h])
  rw [Num_enc k a h0.1 h0.2 (by omega), Option.bind_some, Num_enc k b h1.1 h1.2 (by omega), Option.bind_some, if_neg (by omega), if_neg (by omega), if_neg (by omega), if_neg (by omega), if_pos hm0, if_pos hma, if_pos hmb, if_pos t1, if_pos t2]
  rfl
end Go.Proofs.Ytgjcbpeliimhaaa.Pure
