/- A record of which one byte, but the first one, is another one, is wrong; for every input. -/
import Derived.Test.YtgjcbpeliimhaaaPRecx5
import Derived.Test.YtgjcbpeliimhaaaRecPure
namespace Go.Proofs.Ytgjcbpeliimhaaa.Pure
open Go.RowKit Go.Proofs.Ytgjcbpeliimhaaa.PRec Go.Proofs.YtgjcbpeliimhaaaW.PrintWords Go.Proofs.YtgjcbpeliimhaaaW.PrintLast
set_option linter.unusedVariables false
set_option linter.unusedSimpArgs false

theorem one_record (n : Int) (rest : List Int) (hb : Bytes (n :: rest)) (h1 : 1 ≤ n) (h2 : n ≤ 120) (hl : (rest.length : Int) = n + 1) :
    ∃ bd er, recs (n :: rest).length (n :: rest) 0 = [⟨0, n + 2, bd, er⟩] ∧ (er = 0 ↔ crc ((n :: rest).take (n + 1).toNat) = rd (n :: rest) (n + 1)) := by
  have hr : rd (n :: rest) 0 = n := by simp [rd]
  have hf : firstOf (n :: rest) = if crc ((n :: rest).take (n + 1).toNat) = rd (n :: rest) (n + 1) then (n + 2, ((n :: rest).take (n + 1).toNat).drop 1, 0) else (n + 2, [], 3) := by
    unfold firstOf
    rw [hr, if_neg (by omega), if_neg (by simp; omega)]
  have hlen : (n :: rest).length = rest.length + 1 := rfl
  have h0 : recs (n :: rest).length (n :: rest) 0 = ⟨0, (firstOf (n :: rest)).1, (firstOf (n :: rest)).2.1, (firstOf (n :: rest)).2.2⟩ :: recs rest.length (n :: rest) (0 + (firstOf (n :: rest)).1) := by
    rw [hlen]
    simp only [recs]
    rw [if_pos (by rw [hlen]; omega)]
    rfl
  have hend : ∀ d, recs d (n :: rest) (n + 2) = [] := by
    intro d
    cases d with
    | zero => rfl
    | succ d => simp only [recs]; rw [if_neg (by rw [hlen]; omega)]
  rw [h0, hf]
  by_cases h : crc ((n :: rest).take (n + 1).toNat) = rd (n :: rest) (n + 1)
  · rw [if_pos h]
    simp only [Int.zero_add, hend]
    exact ⟨_, _, rfl, by simp [h]⟩
  · rw [if_neg h]
    simp only [Int.zero_add, hend]
    exact ⟨_, _, rfl, by simp [h]⟩
theorem RecordFinds : dogwatchlaw10_RecordFinds.Pure := by
  intro l at_ by_ hl1 hl2 hw hat hby
  have hb := bytes_of hw
  obtain ⟨ha0, ha1⟩ := wf8 hat
  obtain ⟨hy0, hy1⟩ := wf8 hby
  clear hw hat hby hl1 hl2
  obtain ⟨k, hk⟩ : ∃ k : Nat, k = 10000 := ⟨_, rfl⟩
  refine ⟨k, ?_⟩
  unfold dogwatchlaw10_RecordFinds.f
  by_cases hn : 1 ≤ l.length ∧ l.length ≤ 120
  · obtain ⟨g1, g2⟩ := hn
    rw [seal_of l g1 g2 _ (by omega), Option.bind_some]
    dsimp only
    rw [if_pos rfl]
    obtain ⟨n, hnn⟩ : ∃ n : Int, n = (l.length : Int) := ⟨_, rfl⟩
    obtain ⟨s, hs⟩ : ∃ s, s = crc ((l.length : Int) :: l) := ⟨_, rfl⟩
    have hs01 := crc_byte ((l.length : Int) :: l)
    rw [← hs] at hs01 ⊢
    obtain ⟨r, hr⟩ : ∃ r, r = (l.length : Int) :: l ++ [s] := ⟨_, rfl⟩
    rw [← hr]
    have hrl : r.length = l.length + 2 := by rw [hr]; simp
    have hrb : Bytes r := by
      intro x hx
      rw [hr] at hx
      simp only [List.cons_append, List.mem_cons, List.mem_append, List.not_mem_nil, or_false] at hx
      rcases hx with rfl | hx | rfl
      · omega
      · exact hb x hx
      · exact hs01
    have w1 : wrap64 ((l.length : Int) + 2) = (l.length : Int) + 2 := by unfold wrap64; omega
    have w2 : wrap64 ((r.length : Int) - 1) = (l.length : Int) + 1 := by rw [hrl]; unfold wrap64; omega
    have w3 : wrap64 at_ = at_ := by unfold wrap64; omega
    have tm : Int.tmod at_ ((l.length : Int) + 1) = at_ % ((l.length : Int) + 1) := Int.tmod_eq_emod_of_nonneg ha0
    have m0 : 0 ≤ at_ % ((l.length : Int) + 1) := Int.emod_nonneg _ (by omega)
    have m1 : at_ % ((l.length : Int) + 1) < (l.length : Int) + 1 := Int.emod_lt_of_pos _ (by omega)
    have w4 : wrap64 (1 + at_ % ((l.length : Int) + 1)) = 1 + at_ % ((l.length : Int) + 1) := by unfold wrap64; omega
    rw [w1, if_pos (by omega), w2, if_neg (by omega), Option.bind_some]
    have lim : ([] : List Int).length + r.length < 140737488355328 := by simp only [List.length_nil]; omega
    rw [if_pos lim, Option.bind_some, List.nil_append, w3, tm, w4]
    clear lim
    rw [if_pos (by omega), if_pos (by omega)]
    obtain ⟨i, hi⟩ := Int.eq_ofNat_of_zero_le (show 0 ≤ at_ % ((l.length : Int) + 1) by omega)
    rw [hi, show (1 + (i : Int)) = ((i + 1 : Nat) : Int) by omega, Int.toNat_natCast]
    have hi1 : i + 1 < r.length := by omega
    rw [rd_nth r (i + 1) hi1]
    obtain ⟨z, hz⟩ : ∃ z, z = bits .xor .u8 r[i + 1] by_ := ⟨_, rfl⟩
    have hz01 := xor8 r[i + 1] by_
    rw [← hz] at hz01 ⊢
    have hri := hrb r[i + 1] (List.getElem_mem _)
    have hzero : by_ = 0 → z = r[i + 1] := fun h => by rw [hz, h]; exact xor8_zero hri.1 hri.2
    have hother : by_ ≠ 0 → z ≠ r[i + 1] := fun h he => by
      have e0 : bits .xor .u8 r[i + 1] by_ = bits .xor .u8 r[i + 1] 0 := by rw [← hz, he, xor8_zero hri.1 hri.2]
      exact h (xor8_inj hy0 hy1 (by omega) (by omega) hri.1 hri.2 e0)
    have hset : r.set (i + 1) z = (l.length : Int) :: (l ++ [s]).set i z := by rw [hr]; rfl
    have hcb : Bytes (r.set (i + 1) z) := by
      intro x hx
      rcases List.mem_or_eq_of_mem_set hx with h | rfl
      · exact hrb x h
      · exact hz01
    have hcl : (r.set (i + 1) z).length = l.length + 2 := by rw [List.length_set, hrl]
    rw [split _ hcb (by omega) _ (by omega), Option.bind_some]
    obtain ⟨bd, er, hrec, her⟩ := one_record (l.length : Int) ((l ++ [s]).set i z) (by rw [← hset]; exact hcb) (by omega) (by omega) (by simp)
    rw [← hset] at hrec her
    rw [hrec]
    simp only [List.length_cons, List.length_nil]
    rw [if_pos (by omega), if_pos (by omega)]
    have hg : rd_T47 [(⟨0, (l.length : Int) + 2, bd, er⟩ : S47)] 0 = ⟨0, (l.length : Int) + 2, bd, er⟩ := rfl
    rw [hg]
    have hkey : er = 0 ↔ by_ = 0 := by
      rw [her]
      have et : ((l.length : Int) + 1).toNat = l.length + 1 := by omega
      have elast : rd (r.set (i + 1) z) ((l.length : Int) + 1) = (r.set (i + 1) z)[l.length + 1]'(by omega) := rd_nth _ (l.length + 1) (by omega)
      rw [et, elast]
      have hpre : r.take (l.length + 1) = (l.length : Int) :: l := by rw [hr]; simp
      have hlast : r[l.length + 1]'(by omega) = s := by simp [hr]
      by_cases hi2 : i = l.length
      · subst hi2
        rw [List.getElem_set_self, List.take_set_of_le (by omega), hpre, ← hs]
        rw [hlast] at hzero hother
        constructor
        · intro h
          rcases Decidable.em (by_ = 0) with h0 | h0
          · exact h0
          · exact absurd h.symm (hother h0)
        · intro h
          exact (hzero h).symm
      · rw [List.getElem_set_ne (by omega), hlast, List.take_set, hpre]
        have hi3 : i + 1 < ((l.length : Int) :: l).length := by simp; omega
        have he : ((l.length : Int) :: l)[i + 1] = r[i + 1] := by
          simp [hr, List.getElem_append, show i < l.length by omega]
        constructor
        · intro h
          rcases Decidable.em (by_ = 0) with h0 | h0
          · exact h0
          · exfalso
            refine crc_other ((l.length : Int) :: l) ?_ (i + 1) hi3 z hz01.1 hz01.2 (by rw [he]; exact hother h0) (by rw [h, hs])
            intro x hx
            rcases List.mem_cons.1 hx with rfl | hx
            · omega
            · exact hb x hx
        · intro h
          rw [hzero h, ← he, List.set_getElem_self, ← hs]
    by_cases h0 : by_ = 0
    · have h1 := hkey.2 h0
      have e1 : (er == 0) = true := beq_iff_eq.mpr h1
      have e2 : (by_ == 0) = true := beq_iff_eq.mpr h0
      simp only [e1, e2]
      simp [dogwatchlaw10_awake.f]
    · have h1 : er ≠ 0 := fun h => h0 (hkey.1 h)
      have e1 : (er == 0) = false := beq_eq_false_iff_ne.mpr h1
      have e2 : (by_ == 0) = false := beq_eq_false_iff_ne.mpr h0
      simp only [e1, e2]
      simp [dogwatchlaw10_awake.f]
  · have hf : record_Seal.f k l = some ([], 1) := by
      unfold record_Seal.f
      by_cases h1 : (l.length : Int) < 1
      · rw [if_pos h1]
      · rw [if_neg h1, if_pos (by omega)]
    rw [hf, Option.bind_some]
    dsimp only
    rw [if_neg (by omega)]
    by_cases h1 : (l.length : Int) < 1
    · rw [if_pos h1]; simp [dogwatchlaw10_awake.f]
    · rw [if_neg h1, if_pos (by omega)]; simp [dogwatchlaw10_awake.f]

end Go.Proofs.Ytgjcbpeliimhaaa.Pure
