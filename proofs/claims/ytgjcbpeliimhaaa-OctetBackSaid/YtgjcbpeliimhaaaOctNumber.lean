/- A number's bytes are read again. -/
import Derived.Test.YtgjcbpeliimhaaaOctPure
import Derived.Test.YtgjcbpeliimhaaaGoReader2
import Derived.Laws.BitsLemmas
namespace Go.Proofs.Ytgjcbpeliimhaaa.POct
open Go.RowKit Go.Proofs.YtgjcbpeliimhaaaW.PrintWords Go.Proofs.YtgjcbpeliimhaaaW.PrintLast Go.Proofs.YtgjcbpeliimhaaaW.PrintMore
set_option linter.unusedVariables false
set_option linter.unusedSimpArgs false
theorem or_comm64 (x y : Int) : Go.bits .or .u64 x y = Go.bits .or .u64 y x := by
  show IntKind.u64.wrap ((BitVec.ofInt 64 x ||| BitVec.ofInt 64 y).toNat : Int) = IntKind.u64.wrap ((BitVec.ofInt 64 y ||| BitVec.ofInt 64 x).toNat : Int)
  rw [BitVec.or_comm]
theorem or_add (acc b : Int) (i : Nat) (h0 : 0 ≤ acc) (h1 : acc < 2 ^ i) (hb : 0 ≤ b) (hs : acc + b * 2 ^ i < 2 ^ 64) (hi : i ≤ 63) :
    Go.bits .or .u64 acc (b * 2 ^ i) = acc + b * 2 ^ i := by
  have hP : (0 : Int) < 2 ^ i := Int.pow_pos (by decide)
  have hx0 : 0 ≤ b * 2 ^ i := Int.mul_nonneg hb (by omega)
  rw [or_comm64, bits_join .u64 64 (by decide) (fun n a b => u64_wrap n a b) i _ _ hx0 (Int.mul_emod_left _ _) (by omega) h0 h1 (by omega)]
  omega
theorem shl_is (b : Int) (i : Nat) (hb : 0 ≤ b) (hi : i ≤ 63) (hs : b * 2 ^ i < 2 ^ 64) : shl .u64 b (i : Int) = b * 2 ^ i := by
  have hP : (0 : Int) < 2 ^ i := Int.pow_pos (by decide)
  have hx0 : 0 ≤ b * 2 ^ i := Int.mul_nonneg hb (by omega)
  have hm : min (i : Int).toNat IntKind.u64.bits = i := by
    rw [Int.toNat_natCast]
    exact Nat.min_eq_left (by show i ≤ 64; omega)
  unfold shl
  rw [hm, u64_wrap _ hx0 hs]
theorem drop_head {x0 r : List Int} {i : Nat} {x : Int} (h : x0.drop i = x :: r) : i < x0.length ∧ rd x0 (i : Int) = x ∧ x0.drop (i + 1) = r := by
  have hlen : i < x0.length := by
    have := congrArg List.length h
    simp only [List.length_drop, List.length_cons] at this
    omega
  rw [List.drop_eq_getElem_cons hlen] at h
  simp only [List.cons.injEq] at h
  exact ⟨hlen, by rw [rd_nth x0 i hlen]; exact h.1, h.2⟩
theorem l0_go (k : Nat) (x0 : List Int) (acc : Int) (i : Nat) (h : i < x0.length) (hi : i ≤ 9) : octet_number.l0 (k + 1) x0 acc (i : Int) = octet_number.j1 k x0 acc (i : Int) true := by
  simp only [octet_number.l0]
  rw [if_pos (by omega), decide_eq_true (by omega)]
/-- A byte with the high bit: on. -/
theorem j1_more (k : Nat) (x0 : List Int) (acc b P : Int) (i : Nat) (h : i < x0.length) (hi : i ≤ 9) (hr : rd x0 (i : Int) = b + 128) (hb0 : 0 ≤ b) (hb : b < 128)
    (e4 : shl .u64 b ((7 * i : Nat) : Int) = b * P) (e5 : Go.bits .or .u64 acc (b * P) = acc + b * P) :
    octet_number.j1 (k + 1) x0 acc (i : Int) true = octet_number.l0 k x0 (acc + b * P) ((i + 1 : Nat) : Int) := by
  have e1 : wrap64 (7 * (i : Int)) = ((7 * i : Nat) : Int) := by unfold wrap64; omega
  have e3 : wrap64 ((i : Int) + 1) = ((i + 1 : Nat) : Int) := by unfold wrap64; omega
  have e2 : IntKind.u64.wrap (Int.tmod (b + 128) 128) = b := by
    rw [Int.tmod_eq_emod_of_nonneg (by omega), u64_wrap _ (by omega) (by omega)]; omega
  have q3 : (0 : Int) ≤ ((7 * i : Nat) : Int) := Int.natCast_nonneg _
  have q4 : b + 128 ≥ 128 := by omega
  clear hb0 hb
  simp only [octet_number.j1]
  rw [if_pos trivial, if_pos (by omega), if_pos (by omega), e1, hr, e2, e3, if_pos q3, if_pos q4, e4, e5]
/-- The last byte. -/
theorem j1_last (k : Nat) (x0 : List Int) (acc b P : Int) (i : Nat) (h : i < x0.length) (hi : i ≤ 9) (hr : rd x0 (i : Int) = b) (hb0 : 0 ≤ b) (hb : b < 128) (hz : i = 0 ∨ 0 < b) (h9 : i = 9 → b ≤ 1)
    (e4 : shl .u64 b ((7 * i : Nat) : Int) = b * P) (e5 : Go.bits .or .u64 acc (b * P) = acc + b * P) :
    octet_number.j1 (k + 1) x0 acc (i : Int) true = some (acc + b * P, ((i + 1 : Nat) : Int)) := by
  have e1 : wrap64 (7 * (i : Int)) = ((7 * i : Nat) : Int) := by unfold wrap64; omega
  have e3 : wrap64 ((i : Int) + 1) = ((i + 1 : Nat) : Int) := by unfold wrap64; omega
  have e2 : IntKind.u64.wrap (Int.tmod b 128) = b := by
    rw [Int.tmod_eq_emod_of_nonneg (by omega), u64_wrap _ (by omega) (by omega)]; omega
  have q3 : (0 : Int) ≤ ((7 * i : Nat) : Int) := Int.natCast_nonneg _
  have q4 : ¬ b ≥ 128 := by omega
  have p1 : (i : Int) > 0 → ¬ b = 0 := by omega
  have p2 : (i : Int) = 9 → ¬ b > 1 := by omega
  clear hb0 hb hz h9
  simp only [octet_number.j1]
  rw [if_pos trivial, if_pos (by omega), if_pos (by omega), e1, hr, e2, e3, if_pos q3, if_neg q4, e4, e5]
  by_cases c : (i : Int) > 0
  · rw [if_pos c, if_neg (p1 c)]
    by_cases c9 : (i : Int) = 9
    · rw [if_pos c9, if_neg (p2 c9)]
    · rw [if_neg c9]
  · rw [if_neg c]
    by_cases c9 : (i : Int) = 9
    · rw [if_pos c9, if_neg (p2 c9)]
    · rw [if_neg c9]
theorem low_small (P m : Int) (h0 : 0 ≤ m) (hP : P = 9223372036854775808) (h : m * P < 18446744073709551616) : m ≤ 1 := by subst hP; omega
theorem number_ok (rest x0 : List Int) : ∀ (d k i : Nat) (acc m P : Int), i + d = 9 → x0.drop i = enc d m ++ rest → 0 ≤ m → m < lim d → (i = 0 ∨ 0 < m) → 0 ≤ acc → acc < P → P = 2 ^ (7 * i) → acc + m * P < 2 ^ 64 → 2 * d + 2 ≤ k →
    octet_number.l0 k x0 acc (i : Int) = some (acc + m * P, ((i + (enc d m).length : Nat) : Int)) := by
  intro d
  induction d with
  | zero =>
    intro k i acc m P hi hd h0 h1 hz ha ha1 hP hs hk
    obtain ⟨k, rfl⟩ : ∃ q, k = q + 2 := ⟨k - 2, by omega⟩
    have hi9 : i ≤ 9 := by omega
    have hi63 : 7 * i ≤ 63 := by omega
    have SH : ∀ b : Int, 0 ≤ b → b * P < 2 ^ 64 → shl .u64 b ((7 * i : Nat) : Int) = b * P := fun b hb h => by subst hP; exact shl_is b (7 * i) hb hi63 h
    have OR : ∀ b : Int, 0 ≤ b → acc + b * P < 2 ^ 64 → Go.bits .or .u64 acc (b * P) = acc + b * P := fun b hb h => by subst hP; exact or_add acc b (7 * i) ha ha1 hb h hi63
    have hP9 : P = 9223372036854775808 := by obtain rfl : i = 9 := by omega
                                             rw [hP]; decide
    clear hP
    obtain ⟨q1, q2, q3⟩ := drop_head (x := m) (r := rest) hd
    have hm1 := low_small P m h0 hP9 (by omega)
    rw [l0_go (k + 1) x0 acc i q1 hi9, j1_last k x0 acc m P i q1 hi9 q2 h0 (by omega) hz (fun _ => hm1) (SH m h0 (by omega)) (OR m h0 hs)]
    rfl
  | succ d ih =>
    intro k i acc m P hi hd h0 h1 hz ha ha1 hP hs hk
    obtain ⟨k, rfl⟩ : ∃ q, k = q + 2 := ⟨k - 2, by omega⟩
    have hi9 : i ≤ 9 := by omega
    have hi63 : 7 * i ≤ 63 := by omega
    have SH : ∀ b : Int, 0 ≤ b → b * P < 2 ^ 64 → shl .u64 b ((7 * i : Nat) : Int) = b * P := fun b hb h => by subst hP; exact shl_is b (7 * i) hb hi63 h
    have OR : ∀ b : Int, 0 ≤ b → acc + b * P < 2 ^ 64 → Go.bits .or .u64 acc (b * P) = acc + b * P := fun b hb h => by subst hP; exact or_add acc b (7 * i) ha ha1 hb h hi63
    have hP0 : (0 : Int) < P := by rw [hP]; exact Int.pow_pos (by decide)
    have hP' : 128 * P = 2 ^ (7 * (i + 1)) := by
      rw [show 7 * (i + 1) = 7 * i + 7 from by omega, Int.pow_add, ← hP, Int.mul_comm]
      rfl
    clear hP
    by_cases c : m < 128
    · have hd' : x0.drop i = m :: rest := by rw [hd]; simp only [enc]; rw [if_pos c]; rfl
      have hn : (enc (d + 1) m).length = 1 := by simp only [enc]; rw [if_pos c]; rfl
      clear hd
      obtain ⟨q1, q2, q3⟩ := drop_head hd'
      rw [hn, l0_go (k + 1) x0 acc i q1 hi9, j1_last k x0 acc m P i q1 hi9 q2 h0 c hz (by omega) (SH m h0 (by omega)) (OR m h0 hs)]
    · have hd' : x0.drop i = (m % 128 + 128) :: (enc d (m / 128) ++ rest) := by rw [hd]; simp only [enc]; rw [if_neg c]; rfl
      have hn : (enc (d + 1) m).length = (enc d (m / 128)).length + 1 := by simp only [enc]; rw [if_neg c]; rfl
      clear hd
      obtain ⟨q1, q2, q3⟩ := drop_head hd'
      have em : m * P = (m / 128) * (128 * P) + (m % 128) * P := by
        rw [← Int.mul_assoc, ← Int.add_mul]
        congr 1
        omega
      have hq0 : 0 ≤ (m / 128) * (128 * P) := Int.mul_nonneg (by omega) (by omega)
      have hb0 : 0 ≤ (m % 128) * P := Int.mul_nonneg (by omega) (by omega)
      have hb1 : (m % 128) * P ≤ 127 * P := Int.mul_le_mul_of_nonneg_right (by omega) (by omega)
      have hm0 : 0 ≤ m % 128 := by omega
      have hm2 : m % 128 < 128 := by omega
      have g1 : 0 ≤ m / 128 := by omega
      have g2 : m / 128 < lim d := by simp only [lim] at h1; omega
      have g3 : 0 < m / 128 := by omega
      have S1 := SH (m % 128) hm0 (by omega)
      have O1 := OR (m % 128) hm0 (by omega)
      rw [hn, l0_go (k + 1) x0 acc i q1 hi9, j1_more k x0 acc (m % 128) P i q1 hi9 q2 hm0 hm2 S1 O1]
      rw [em] at hs ⊢
      generalize m % 128 = b at *
      generalize m / 128 = q at *
      clear SH OR S1 O1 em
      have h2 := ih k (i + 1) (acc + b * P) q (128 * P) (by omega) q3 g1 g2 (Or.inr g3) (by omega) (by omega) hP' (by omega) (by omega)
      rw [h2]
      congr 2
      · omega
      · congr 1; omega
theorem number_enc (k : Nat) (n : Int) (rest : List Int) (h0 : 0 ≤ n) (h1 : n < 2 ^ 64) (hl : (enc 9 n ++ rest).length ≤ 100000) (hk : 20 ≤ k) :
    octet_number.f k (enc 9 n ++ rest) = some (n, ((enc 9 n).length : Int)) := by
  have := number_ok rest (enc 9 n ++ rest) 9 k 0 0 n 1 rfl rfl h0 (by rw [lim9]; omega) (.inl rfl) (by omega) (by decide) (by decide) (by omega) (by omega)
  rw [Int.mul_one, Int.zero_add, Nat.zero_add] at this
  exact this
end Go.Proofs.Ytgjcbpeliimhaaa.POct
