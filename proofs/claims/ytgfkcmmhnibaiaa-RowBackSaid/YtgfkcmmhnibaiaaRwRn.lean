/- The document's reader of a number tells what the program's one tells. -/
import Derived.Test.YtgfkcmmhnibaiaaRwPn
import Derived.Test.YtgfkcmmhnibaiaaPRwx7
namespace Go.Proofs.Ytgfkcmmhnibaiaa.PRw
open Go.RowKit Go.Proofs.YtgfkcmmhnibaiaaW.PrintWords Go.Proofs.YtgfkcmmhnibaiaaW.PrintLast Go.Proofs.YtgfkcmmhnibaiaaW.PrintMore
set_option linter.unusedVariables false
set_option linter.unusedSimpArgs false
def val : List Int → Int
  | [] => 0
  | b :: r => b % 128 + 128 * val r
theorem value_l0 (l : List Int) (hb : Bytes l) (hl : l.length ≤ 1000000) : ∀ (n k : Nat), n ≤ l.length → n + 1 ≤ k →
    dogwatchref09_value.l0 k l (val (l.drop n) % 18446744073709551616) ((n : Int) - 1) = some (val l % 18446744073709551616)
  | 0, k, hn, hk => by
    obtain ⟨k, rfl⟩ : ∃ q, k = q + 1 := ⟨k - 1, by omega⟩
    simp only [dogwatchref09_value.l0]
    rw [if_neg (by omega), List.drop_zero]
  | n + 1, k, hn, hk => by
    obtain ⟨k, rfl⟩ : ∃ q, k = q + 1 := ⟨k - 1, by omega⟩
    have hi : n < l.length := by omega
    have hr : rd l (n : Int) = l[n] := rd_nth l n hi
    have hq := hb l[n] (List.getElem_mem _)
    rw [← hr] at hq
    have e : (((n + 1 : Nat) : Int) - 1) = (n : Int) := by omega
    have ew : wrap64 ((n : Int) - 1) = (n : Int) - 1 := by unfold wrap64; omega
    have et : Int.tmod (rd l (n : Int)) 128 = rd l (n : Int) % 128 := Int.tmod_eq_emod_of_nonneg hq.1
    have hd : val (l.drop n) = rd l (n : Int) % 128 + 128 * val (l.drop (n + 1)) := by
      rw [List.drop_eq_getElem_cons hi, val, ← hr]
    have ih := value_l0 l hb hl n k (by omega) (by omega)
    rw [hd] at ih
    rw [e]
    simp only [dogwatchref09_value.l0]
    rw [if_pos (by omega), if_pos (by omega), if_pos (by omega), ew, et, ← ih]
    congr 1
    simp only [IntKind.wrap_u64]
    omega
theorem value_is (k : Nat) (l : List Int) (hb : Bytes l) (hl : l.length ≤ 1000000) (hk : l.length + 1 ≤ k) : dogwatchref09_value.f k l = some (val l % 18446744073709551616) := by
  have ew : wrap64 ((l.length : Int) - 1) = (l.length : Int) - 1 := by unfold wrap64; omega
  have := value_l0 l hb hl l.length k (Nat.le_refl _) hk
  rw [List.drop_of_length_le (Nat.le_refl _)] at this
  unfold dogwatchref09_value.f
  rw [ew]
  exact this
theorem lead_enc : ∀ (d : Nat) (m : Int) (r : List Int), 0 ≤ m → m < lim d → lead (enc d m ++ r) (d + 1) + 1 = (enc d m).length
  | 0, m, r, h0, h1 => by
    simp only [lim] at h1
    simp only [enc, List.cons_append, List.nil_append, lead]
    rw [if_neg (by omega)]; rfl
  | d + 1, m, r, h0, h1 => by
    simp only [lim] at h1
    simp only [enc]
    by_cases c : m < 128
    · rw [if_pos c]
      simp only [List.cons_append, List.nil_append, lead]
      rw [if_neg (by omega)]; rfl
    · rw [if_neg c]
      simp only [List.cons_append, lead]
      rw [if_pos (by omega), lead_enc d (m / 128) r (by omega) (by omega)]; rfl
theorem val_enc : ∀ (d : Nat) (m : Int), 0 ≤ m → m < lim d → val (enc d m) = m
  | 0, m, h0, h1 => by
    simp only [lim] at h1
    simp only [enc, val]
    omega
  | d + 1, m, h0, h1 => by
    simp only [lim] at h1
    simp only [enc]
    by_cases c : m < 128
    · rw [if_pos c]
      simp only [val]
      omega
    · rw [if_neg c]
      simp only [val]
      rw [val_enc d (m / 128) (by omega) (by omega)]
      omega
theorem lead_le : ∀ (f : Nat) (l : List Int), lead l f ≤ f ∧ lead l f ≤ l.length
  | 0, l => by cases l <;> simp [lead]
  | f + 1, [] => by simp [lead]
  | f + 1, b :: r => by
    simp only [lead]
    split
    · have := lead_le f r
      simp only [List.length_cons]
      omega
    · simp
theorem Bytes_take {l : List Int} (hb : Bytes l) (n : Nat) : Bytes (l.take n) := fun x hx => hb x (List.mem_of_mem_take hx)
theorem Bytes_drop {l : List Int} (hb : Bytes l) (n : Nat) : Bytes (l.drop n) := fun x hx => hb x (List.mem_of_mem_drop hx)
theorem refNum_is (k : Nat) (l : List Int) (er limit : Int) (hb : Bytes l) (hl : l.length ≤ 1000000) (hk : 30 ≤ k) : refNum k l er limit = some (rnum l er limit) := by
  unfold refNum rnum
  by_cases he : er = 0
  case neg => rw [if_neg he, if_neg he]
  rw [if_pos he, if_pos he, if_pos (by omega)]
  have hle := lead_le 10 l
  cases h : pn 9 true l with
  | none =>
    by_cases c : lead l 10 = 10 ∨ lead l 10 = l.length
    · rw [if_pos c]
    rw [if_neg c]
    have hp : (l.take (lead l 10 + 1)).length = lead l 10 + 1 := by rw [List.length_take]; omega
    have hv := value_is k (l.take (lead l 10 + 1)) (Bytes_take hb _) (by omega) (by omega)
    rw [hv, Option.bind_some]
    generalize hn : val (l.take (lead l 10 + 1)) % 18446744073709551616 = n
    have hn0 : 0 ≤ n ∧ n < 18446744073709551616 := by rw [← hn]; omega
    rw [ref_Num 9 k n hn0.1 (by rw [lim9]; omega) (by omega) (by omega) (by omega), Option.bind_some]
    unfold dogwatchref09_same.f
    rw [Option.bind_some]
    have hne : ((strOfNums (enc 9 n)).toList == (strOfNums (l.take (lead l 10 + 1))).toList) = false := by
      rw [beq_eq_false_iff_ne]
      intro e
      have e2 := str_inj (enc_bytes 9 n hn0.1 (by rw [lim9]; omega)) (Bytes_take hb _) e
      have e3 := enc_pn 9 true n (l.drop (lead l 10 + 1)) hn0.1 (by rw [top9]; exact hn0.2) (fun h => absurd h (by decide))
      rw [e2, List.take_append_drop, h] at e3
      exact absurd e3 (by simp)
    rw [hne, if_neg (by decide)]
  | some x =>
    obtain ⟨m, c⟩ := x
    obtain ⟨h0, h1, _, rfl, r, hr⟩ := pn_enc 9 true l m c hb h
    rw [top9] at h1
    have hm : m < lim 9 := by rw [lim9]; omega
    have h2 := lead_enc 9 m r h0 hm
    rw [← hr] at h2
    have h3 := enc_len 9 m
    have h4 : l.length = (enc 9 m).length + r.length := by rw [hr, List.length_append]
    have h2' : lead l 10 + 1 = (enc 9 m).length := h2
    rw [if_neg (by omega), h2']
    have htk : l.take (enc 9 m).length = enc 9 m := by rw [hr, List.take_left]
    rw [htk, value_is k (enc 9 m) (enc_bytes 9 m h0 hm) (by omega) (by omega), Option.bind_some, val_enc 9 m h0 hm]
    have hmod : m % 18446744073709551616 = m := by omega
    rw [hmod, ref_Num 9 k m h0 hm (by omega) (by omega) (by omega), Option.bind_some]
    unfold dogwatchref09_same.f
    rw [Option.bind_some, beq_self_eq_true, if_pos rfl]
    show _ = some (if limit < m then (0, [], 5) else (m, l.drop (enc 9 m).length, 0))
    split <;> rfl
end Go.Proofs.Ytgfkcmmhnibaiaa.PRw
