/- A number at the beginning of bytes: what the program's reader and the document's one tell of it. -/
import Derived.Test.YtgfkcmmhnibaiaaRwOct
import Derived.Test.YtgfkcmmhnibaiaaRwNum
import Derived.Test.YtgfkcmmhnibaiaaRwRefNum2
import Derived.Laws.BitsLemmas
import Derived.Laws.BitsLemmas
namespace Go.Proofs.Ytgfkcmmhnibaiaa.PRw
open Go.RowKit Go.Proofs.YtgfkcmmhnibaiaaW.PrintWords Go.Proofs.YtgfkcmmhnibaiaaW.PrintLast Go.Proofs.YtgfkcmmhnibaiaaW.PrintMore
set_option linter.unusedVariables false
set_option linter.unusedSimpArgs false
/-- The number at the beginning, and how many bytes it has; d: how many bytes may follow the first one; z: is it a number's first byte? -/
def pn : Nat → Bool → List Int → Option (Int × Nat)
  | _, _, [] => none
  | 0, z, b :: _ => if 128 ≤ b then none else if z = false ∧ b = 0 then none else if 1 < b then none else some (b, 1)
  | d + 1, z, b :: r => if 128 ≤ b then (pn d false r).bind fun x => some (b - 128 + 128 * x.1, x.2 + 1) else if z = false ∧ b = 0 then none else some (b, 1)
def top : Nat → Int
  | 0 => 2
  | d + 1 => 128 * top d
theorem top9 : top 9 = 18446744073709551616 := by decide +kernel
theorem top_le : ∀ d, top d ≤ lim d
  | 0 => by decide
  | d + 1 => by have := top_le d; simp only [top, lim]; omega
theorem pn_enc : ∀ (d : Nat) (z : Bool) (l : List Int) (m : Int) (c : Nat), Bytes l → pn d z l = some (m, c) → 0 ≤ m ∧ m < top d ∧ (z = false → 0 < m) ∧ c = (enc d m).length ∧ ∃ r, l = enc d m ++ r
  | d, z, [], m, c, hb, h => by cases d <;> simp [pn] at h
  | 0, z, b :: r, m, c, hb, h => by
    have hb0 := hb b (by simp)
    simp only [pn] at h
    by_cases c1 : 128 ≤ b
    · rw [if_pos c1] at h; exact absurd h (by simp)
    rw [if_neg c1] at h
    by_cases c2 : z = false ∧ b = 0
    · rw [if_pos c2] at h; exact absurd h (by simp)
    rw [if_neg c2] at h
    by_cases c3 : 1 < b
    · rw [if_pos c3] at h; exact absurd h (by simp)
    rw [if_neg c3] at h
    simp only [Option.some.injEq, Prod.mk.injEq] at h
    obtain ⟨rfl, rfl⟩ := h
    refine ⟨by omega, by simp only [top]; omega, fun hz => ?_, rfl, r, rfl⟩
    rcases Int.lt_or_le 0 b with h | h
    · exact h
    · exact absurd ⟨hz, by omega⟩ c2
  | d + 1, z, b :: r, m, c, hb, h => by
    have hb0 := hb b (by simp)
    simp only [pn] at h
    by_cases c1 : 128 ≤ b
    · rw [if_pos c1] at h
      obtain ⟨⟨m', c'⟩, h1, h⟩ := Option.bind_eq_some_iff.mp h
      simp only [Option.some.injEq, Prod.mk.injEq] at h
      obtain ⟨rfl, rfl⟩ := h
      obtain ⟨q0, q1, q2, q3, r', hr⟩ := pn_enc d false r m' c' (fun x hx => hb x (by simp [hx])) h1
      have q4 := q2 rfl
      have e1 : (b - 128 + 128 * m') % 128 + 128 = b := by omega
      have e2 : (b - 128 + 128 * m') / 128 = m' := by omega
      have e3 : ¬ (b - 128 + 128 * m') < 128 := by omega
      refine ⟨by omega, by simp only [top]; omega, fun _ => by omega, ?_, r', ?_⟩
      · simp only [enc]; rw [if_neg e3, e2, List.length_cons, q3]
      · simp only [enc]; rw [if_neg e3, e1, e2, hr]; rfl
    rw [if_neg c1] at h
    by_cases c2 : z = false ∧ b = 0
    · rw [if_pos c2] at h; exact absurd h (by simp)
    rw [if_neg c2] at h
    simp only [Option.some.injEq, Prod.mk.injEq] at h
    obtain ⟨rfl, rfl⟩ := h
    have ht : 128 ≤ 128 * top d := by
      have : ∀ d, 1 ≤ top d := fun d => by induction d with
        | zero => decide
        | succ d ih => simp only [top]; omega
      have := this d
      omega
    refine ⟨by omega, by simp only [top]; omega, fun hz => ?_, ?_, r, ?_⟩
    · rcases Int.lt_or_le 0 b with h | h
      · exact h
      · exact absurd ⟨hz, by omega⟩ c2
    · simp only [enc]; rw [if_pos (by omega)]; rfl
    · simp only [enc]; rw [if_pos (by omega)]; rfl
theorem enc_pn : ∀ (d : Nat) (z : Bool) (m : Int) (r : List Int), 0 ≤ m → m < top d → (z = false → 0 < m) → pn d z (enc d m ++ r) = some (m, (enc d m).length)
  | 0, z, m, r, h0, h1, hz => by
    simp only [top] at h1
    have c2 : ¬ (z = false ∧ m = 0) := fun h => by have := hz h.1; omega
    simp only [enc, List.cons_append, List.nil_append, pn]
    rw [if_neg (by omega), if_neg c2, if_neg (by omega)]; rfl
  | d + 1, z, m, r, h0, h1, hz => by
    simp only [top] at h1
    have c2 : ¬ (z = false ∧ m = 0) := fun h => by have := hz h.1; omega
    simp only [enc]
    by_cases c : m < 128
    · rw [if_pos c]
      simp only [List.cons_append, List.nil_append, pn]
      rw [if_neg (by omega), if_neg c2]; rfl
    · rw [if_neg c]
      simp only [List.cons_append, pn]
      rw [if_pos (by omega), enc_pn d false (m / 128) r (by omega) (by omega) (fun _ => by omega), Option.bind_some, List.length_cons]
      congr 2
      omega
theorem or_comm64 (x y : Int) : Go.bits .or .u64 x y = Go.bits .or .u64 y x := by
  show IntKind.u64.wrap ((BitVec.ofInt 64 x ||| BitVec.ofInt 64 y).toNat : Int) = IntKind.u64.wrap ((BitVec.ofInt 64 y ||| BitVec.ofInt 64 x).toNat : Int)
  rw [BitVec.or_comm]
theorem or_add (acc b : Int) (i : Nat) (h0 : 0 ≤ acc) (h1 : acc < 2 ^ i) (hb : 0 ≤ b) (hs : acc + b * 2 ^ i < 2 ^ 64) (hi : i ≤ 63) :
    Go.bits .or .u64 acc (b * 2 ^ i) = acc + b * 2 ^ i := by
  have hP : (0 : Int) < 2 ^ i := Int.pow_pos (by decide)
  have hx0 : 0 ≤ b * 2 ^ i := Int.mul_nonneg hb (by omega)
  rw [or_comm64, bits_join .u64 64 (by decide) (fun n a b => u64_wrap n a b) i _ _ hx0 (Int.mul_emod_left _ _) (by omega) h0 h1 (by omega)]
  omega
theorem shl_is (b : Int) (i : Nat) (hb : 0 ≤ b) (hi : i ≤ 63) (hs : b * 2 ^ i < 2 ^ 64) : shl .u64 b (i : Int) = b * 2 ^ i := by
  have hP : (0 : Int) < 2 ^ i := Int.pow_pos (by decide)
  have hx0 : 0 ≤ b * 2 ^ i := Int.mul_nonneg hb (by omega)
  have hm : min (i : Int).toNat IntKind.u64.bits = i := by
    rw [Int.toNat_natCast]
    exact Nat.min_eq_left (by show i ≤ 64; omega)
  unfold shl
  rw [hm, u64_wrap _ hx0 hs]
theorem drop_head {x0 r : List Int} {i : Nat} {x : Int} (h : x0.drop i = x :: r) : i < x0.length ∧ rd x0 (i : Int) = x ∧ x0.drop (i + 1) = r := by
  have hlen : i < x0.length := by
    have := congrArg List.length h
    simp only [List.length_drop, List.length_cons] at this
    omega
  rw [List.drop_eq_getElem_cons hlen] at h
  simp only [List.cons.injEq] at h
  exact ⟨hlen, by rw [rd_nth x0 i hlen]; exact h.1, h.2⟩
theorem l0_go (k : Nat) (x0 : List Int) (acc : Int) (i : Nat) (h : i < x0.length) (hi : i ≤ 9) : octet_number.l0 (k + 1) x0 acc (i : Int) = octet_number.j1 k x0 acc (i : Int) true := by
  simp only [octet_number.l0]
  rw [if_pos (by omega), decide_eq_true (by omega)]
/-- A byte with the high bit: on. -/
theorem j1_more (k : Nat) (x0 : List Int) (acc b P : Int) (i : Nat) (h : i < x0.length) (hi : i ≤ 9) (hr : rd x0 (i : Int) = b + 128) (hb0 : 0 ≤ b) (hb : b < 128)
    (e4 : shl .u64 b ((7 * i : Nat) : Int) = b * P) (e5 : Go.bits .or .u64 acc (b * P) = acc + b * P) :
    octet_number.j1 (k + 1) x0 acc (i : Int) true = octet_number.l0 k x0 (acc + b * P) ((i + 1 : Nat) : Int) := by
  have e1 : wrap64 (7 * (i : Int)) = ((7 * i : Nat) : Int) := by unfold wrap64; omega
  have e3 : wrap64 ((i : Int) + 1) = ((i + 1 : Nat) : Int) := by unfold wrap64; omega
  have e2 : IntKind.u64.wrap (Int.tmod (b + 128) 128) = b := by
    rw [Int.tmod_eq_emod_of_nonneg (by omega), u64_wrap _ (by omega) (by omega)]; omega
  have q3 : (0 : Int) ≤ ((7 * i : Nat) : Int) := Int.natCast_nonneg _
  have q4 : b + 128 ≥ 128 := by omega
  clear hb0 hb
  simp only [octet_number.j1]
  rw [if_pos trivial, if_pos (by omega), if_pos (by omega), e1, hr, e2, e3, if_pos q3, if_pos q4, e4, e5]
/-- The last byte. -/
theorem j1_last (k : Nat) (x0 : List Int) (acc b P : Int) (i : Nat) (h : i < x0.length) (hi : i ≤ 9) (hr : rd x0 (i : Int) = b) (hb0 : 0 ≤ b) (hb : b < 128) (hz : i = 0 ∨ 0 < b) (h9 : i = 9 → b ≤ 1)
    (e4 : shl .u64 b ((7 * i : Nat) : Int) = b * P) (e5 : Go.bits .or .u64 acc (b * P) = acc + b * P) :
    octet_number.j1 (k + 1) x0 acc (i : Int) true = some (acc + b * P, ((i + 1 : Nat) : Int)) := by
  have e1 : wrap64 (7 * (i : Int)) = ((7 * i : Nat) : Int) := by unfold wrap64; omega
  have e3 : wrap64 ((i : Int) + 1) = ((i + 1 : Nat) : Int) := by unfold wrap64; omega
  have e2 : IntKind.u64.wrap (Int.tmod b 128) = b := by
    rw [Int.tmod_eq_emod_of_nonneg (by omega), u64_wrap _ (by omega) (by omega)]; omega
  have q3 : (0 : Int) ≤ ((7 * i : Nat) : Int) := Int.natCast_nonneg _
  have q4 : ¬ b ≥ 128 := by omega
  have p1 : (i : Int) > 0 → ¬ b = 0 := by omega
  have p2 : (i : Int) = 9 → ¬ b > 1 := by omega
  clear hb0 hb hz h9
  simp only [octet_number.j1]
  rw [if_pos trivial, if_pos (by omega), if_pos (by omega), e1, hr, e2, e3, if_pos q3, if_neg q4, e4, e5]
  by_cases c : (i : Int) > 0
  · rw [if_pos c, if_neg (p1 c)]
    by_cases c9 : (i : Int) = 9
    · rw [if_pos c9, if_neg (p2 c9)]
    · rw [if_neg c9]
  · rw [if_neg c]
    by_cases c9 : (i : Int) = 9
    · rw [if_pos c9, if_neg (p2 c9)]
    · rw [if_neg c9]
theorem low_small (P m : Int) (h0 : 0 ≤ m) (hP : P = 9223372036854775808) (h : m * P < 18446744073709551616) : m ≤ 1 := by subst hP; omega
theorem number_ok (rest x0 : List Int) : ∀ (d k i : Nat) (acc m P : Int), i + d = 9 → x0.drop i = enc d m ++ rest → 0 ≤ m → m < lim d → (i = 0 ∨ 0 < m) → 0 ≤ acc → acc < P → P = 2 ^ (7 * i) → acc + m * P < 2 ^ 64 → 2 * d + 2 ≤ k →
    octet_number.l0 k x0 acc (i : Int) = some (acc + m * P, ((i + (enc d m).length : Nat) : Int)) := by
  intro d
  induction d with
  | zero =>
    intro k i acc m P hi hd h0 h1 hz ha ha1 hP hs hk
    obtain ⟨k, rfl⟩ : ∃ q, k = q + 2 := ⟨k - 2, by omega⟩
    have hi9 : i ≤ 9 := by omega
    have hi63 : 7 * i ≤ 63 := by omega
    have SH : ∀ b : Int, 0 ≤ b → b * P < 2 ^ 64 → shl .u64 b ((7 * i : Nat) : Int) = b * P := fun b hb h => by subst hP; exact shl_is b (7 * i) hb hi63 h
    have OR : ∀ b : Int, 0 ≤ b → acc + b * P < 2 ^ 64 → Go.bits .or .u64 acc (b * P) = acc + b * P := fun b hb h => by subst hP; exact or_add acc b (7 * i) ha ha1 hb h hi63
    have hP9 : P = 9223372036854775808 := by obtain rfl : i = 9 := by omega
                                             rw [hP]; decide
    clear hP
    obtain ⟨q1, q2, q3⟩ := drop_head (x := m) (r := rest) hd
    have hm1 := low_small P m h0 hP9 (by omega)
    rw [l0_go (k + 1) x0 acc i q1 hi9, j1_last k x0 acc m P i q1 hi9 q2 h0 (by omega) hz (fun _ => hm1) (SH m h0 (by omega)) (OR m h0 hs)]
    rfl
  | succ d ih =>
    intro k i acc m P hi hd h0 h1 hz ha ha1 hP hs hk
    obtain ⟨k, rfl⟩ : ∃ q, k = q + 2 := ⟨k - 2, by omega⟩
    have hi9 : i ≤ 9 := by omega
    have hi63 : 7 * i ≤ 63 := by omega
    have SH : ∀ b : Int, 0 ≤ b → b * P < 2 ^ 64 → shl .u64 b ((7 * i : Nat) : Int) = b * P := fun b hb h => by subst hP; exact shl_is b (7 * i) hb hi63 h
    have OR : ∀ b : Int, 0 ≤ b → acc + b * P < 2 ^ 64 → Go.bits .or .u64 acc (b * P) = acc + b * P := fun b hb h => by subst hP; exact or_add acc b (7 * i) ha ha1 hb h hi63
    have hP0 : (0 : Int) < P := by rw [hP]; exact Int.pow_pos (by decide)
    have hP' : 128 * P = 2 ^ (7 * (i + 1)) := by
      rw [show 7 * (i + 1) = 7 * i + 7 from by omega, Int.pow_add, ← hP, Int.mul_comm]
      rfl
    clear hP
    by_cases c : m < 128
    · have hd' : x0.drop i = m :: rest := by rw [hd]; simp only [enc]; rw [if_pos c]; rfl
      have hn : (enc (d + 1) m).length = 1 := by simp only [enc]; rw [if_pos c]; rfl
      clear hd
      obtain ⟨q1, q2, q3⟩ := drop_head hd'
      rw [hn, l0_go (k + 1) x0 acc i q1 hi9, j1_last k x0 acc m P i q1 hi9 q2 h0 c hz (by omega) (SH m h0 (by omega)) (OR m h0 hs)]
    · have hd' : x0.drop i = (m % 128 + 128) :: (enc d (m / 128) ++ rest) := by rw [hd]; simp only [enc]; rw [if_neg c]; rfl
      have hn : (enc (d + 1) m).length = (enc d (m / 128)).length + 1 := by simp only [enc]; rw [if_neg c]; rfl
      clear hd
      obtain ⟨q1, q2, q3⟩ := drop_head hd'
      have em : m * P = (m / 128) * (128 * P) + (m % 128) * P := by
        rw [← Int.mul_assoc, ← Int.add_mul]
        congr 1
        omega
      have hq0 : 0 ≤ (m / 128) * (128 * P) := Int.mul_nonneg (by omega) (by omega)
      have hb0 : 0 ≤ (m % 128) * P := Int.mul_nonneg (by omega) (by omega)
      have hb1 : (m % 128) * P ≤ 127 * P := Int.mul_le_mul_of_nonneg_right (by omega) (by omega)
      have hm0 : 0 ≤ m % 128 := by omega
      have hm2 : m % 128 < 128 := by omega
      have g1 : 0 ≤ m / 128 := by omega
      have g2 : m / 128 < lim d := by simp only [lim] at h1; omega
      have g3 : 0 < m / 128 := by omega
      have S1 := SH (m % 128) hm0 (by omega)
      have O1 := OR (m % 128) hm0 (by omega)
      rw [hn, l0_go (k + 1) x0 acc i q1 hi9, j1_more k x0 acc (m % 128) P i q1 hi9 q2 hm0 hm2 S1 O1]
      rw [em] at hs ⊢
      generalize m % 128 = b at *
      generalize m / 128 = q at *
      clear SH OR S1 O1 em
      have h2 := ih k (i + 1) (acc + b * P) q (128 * P) (by omega) q3 g1 g2 (Or.inr g3) (by omega) (by omega) hP' (by omega) (by omega)
      rw [h2]
      congr 2
      · omega
      · congr 1; omega

theorem l0_end (k : Nat) (x0 : List Int) (acc : Int) (i : Nat) (h : x0.length ≤ i) : octet_number.l0 (k + 2) x0 acc (i : Int) = some (0, 0) := by
  simp only [octet_number.l0]
  rw [if_neg (by omega)]
  simp only [octet_number.j1]
  rw [if_neg (by decide)]
theorem l0_ten (k : Nat) (x0 : List Int) (acc : Int) : octet_number.l0 (k + 2) x0 acc 10 = some (0, 0) := by
  simp only [octet_number.l0]
  by_cases h : (10 : Int) < (x0.length : Int)
  · rw [if_pos h, decide_eq_false (by decide)]
    simp only [octet_number.j1]
    rw [if_neg (by decide)]
  · rw [if_neg h]
    simp only [octet_number.j1]
    rw [if_neg (by decide)]
/-- A byte with the high bit: on, whatever was read. -/
theorem j1_on (k : Nat) (x0 : List Int) (acc : Int) (i : Nat) (h : i < x0.length) (hi : i ≤ 9) (hr : 128 ≤ rd x0 (i : Int)) :
    ∃ acc', octet_number.j1 (k + 1) x0 acc (i : Int) true = octet_number.l0 k x0 acc' ((i + 1 : Nat) : Int) := by
  have e1 : wrap64 (7 * (i : Int)) = ((7 * i : Nat) : Int) := by unfold wrap64; omega
  have e3 : wrap64 ((i : Int) + 1) = ((i + 1 : Nat) : Int) := by unfold wrap64; omega
  have q3 : (0 : Int) ≤ ((7 * i : Nat) : Int) := Int.natCast_nonneg _
  refine ⟨Go.bits .or .u64 acc (shl .u64 (IntKind.u64.wrap (Int.tmod (rd x0 (i : Int)) 128)) ((7 * i : Nat) : Int)), ?_⟩
  simp only [octet_number.j1]
  rw [if_pos trivial, if_pos (by omega), if_pos (by omega), e1, e3, if_pos q3, if_pos hr]
theorem j1_bad (k : Nat) (x0 : List Int) (acc : Int) (i : Nat) (h : i < x0.length) (hi : i ≤ 9) (hr : ¬ 128 ≤ rd x0 (i : Int)) (hb : (0 < i ∧ rd x0 (i : Int) = 0) ∨ (i = 9 ∧ 1 < rd x0 (i : Int))) :
    octet_number.j1 (k + 1) x0 acc (i : Int) true = some (0, 0) := by
  have e1 : wrap64 (7 * (i : Int)) = ((7 * i : Nat) : Int) := by unfold wrap64; omega
  have q3 : (0 : Int) ≤ ((7 * i : Nat) : Int) := Int.natCast_nonneg _
  simp only [octet_number.j1]
  rw [if_pos trivial, if_pos (by omega), if_pos (by omega), e1, if_pos q3, if_neg (by omega)]
  by_cases c : (i : Int) > 0
  · rw [if_pos c]
    by_cases c2 : rd x0 (i : Int) = 0
    · rw [if_pos c2]
    · rw [if_neg c2]
      rw [if_pos (by omega), if_pos (by omega)]
  · rw [if_neg c, if_pos (by omega), if_pos (by omega)]
theorem number_no (x0 : List Int) : ∀ (d k i : Nat) (acc : Int), i + d = 9 → pn d (decide (i = 0)) (x0.drop i) = none → 2 * d + 4 ≤ k → octet_number.l0 k x0 acc (i : Int) = some (0, 0) := by
  intro d
  induction d with
  | zero =>
    intro k i acc hi hp hk
    obtain ⟨k, rfl⟩ : ∃ q, k = q + 4 := ⟨k - 4, by omega⟩
    by_cases hl : i < x0.length
    · have hr : rd x0 (i : Int) = x0[i] := rd_nth x0 i hl
      rw [List.drop_eq_getElem_cons hl] at hp
      simp only [pn] at hp
      rw [l0_go (k + 3) x0 acc i hl (by omega)]
      by_cases c1 : 128 ≤ rd x0 (i : Int)
      · obtain ⟨acc', h⟩ := j1_on (k + 2) x0 acc i hl (by omega) c1
        rw [h, show i + 1 = 10 by omega]
        exact l0_ten k x0 acc'
      · refine j1_bad (k + 2) x0 acc i hl (by omega) c1 ?_
        rw [← hr, if_neg c1] at hp
        by_cases c2 : rd x0 (i : Int) = 0
        · exact .inl ⟨by omega, c2⟩
        · rw [if_neg (fun h => c2 h.2)] at hp
          by_cases c3 : 1 < rd x0 (i : Int)
          · exact .inr ⟨by omega, c3⟩
          · rw [if_neg c3] at hp; exact absurd hp (by simp)
    · exact l0_end (k + 2) x0 acc i (by omega)
  | succ d ih =>
    intro k i acc hi hp hk
    obtain ⟨k, rfl⟩ : ∃ q, k = q + 4 := ⟨k - 4, by omega⟩
    by_cases hl : i < x0.length
    · have hr : rd x0 (i : Int) = x0[i] := rd_nth x0 i hl
      rw [List.drop_eq_getElem_cons hl] at hp
      simp only [pn] at hp
      rw [← hr] at hp
      rw [l0_go (k + 3) x0 acc i hl (by omega)]
      by_cases c1 : 128 ≤ rd x0 (i : Int)
      · obtain ⟨acc', h⟩ := j1_on (k + 2) x0 acc i hl (by omega) c1
        rw [h]
        refine ih (k + 2) (i + 1) acc' (by omega) ?_ (by omega)
        rw [if_pos c1] at hp
        rw [decide_eq_false (by omega)]
        exact Option.eq_none_iff_forall_ne_some.mpr (fun x hx => by rw [hx, Option.bind_some] at hp; exact absurd hp (by simp))
      · rw [if_neg c1] at hp
        by_cases c2 : decide (i = 0) = false ∧ rd x0 (i : Int) = 0
        · exact j1_bad (k + 2) x0 acc i hl (by omega) c1 (.inl ⟨by have := of_decide_eq_false c2.1; omega, c2.2⟩)
        · rw [if_neg c2] at hp; exact absurd hp (by simp)
    · exact l0_end (k + 2) x0 acc i (by omega)
theorem number_is (k : Nat) (l : List Int) (hb : Bytes l) (hk : 30 ≤ k) : octet_number.f k l = some (match pn 9 true l with | some (m, c) => (m, (c : Int)) | none => (0, 0)) := by
  cases h : pn 9 true l with
  | none => exact number_no l 9 k 0 0 rfl (by rw [List.drop_zero]; exact h) (by omega)
  | some x =>
    obtain ⟨m, c⟩ := x
    obtain ⟨h0, h1, _, rfl, r, hr⟩ := pn_enc 9 true l m c hb h
    rw [top9] at h1
    have := number_ok r l 9 k 0 0 m 1 rfl (by rw [List.drop_zero]; exact hr) h0 (by rw [lim9]; omega) (.inl rfl) (by omega) (by decide) (by decide) (by omega) (by omega)
    rw [Int.mul_one, Int.zero_add, Nat.zero_add] at this
    exact this
/-- A number that is read, plainly: the number, the bytes that are left, the first error. -/
def rnum (l : List Int) (er limit : Int) : Int × List Int × Int :=
  if er = 0 then match pn 9 true l with
    | none => (0, [], 3)
    | some (m, c) => if limit < m then (0, [], 5) else (m, l.drop c, 0)
  else (0, l, er)
theorem rdNum_is (k : Nat) (l : List Int) (er limit : Int) (hb : Bytes l) (hk : 30 ≤ k) : rdNum k l er limit = some (rnum l er limit) := by
  unfold rdNum rnum
  by_cases he : er = 0
  · rw [if_pos he, if_pos he, number_is k l hb hk, Option.bind_some]
    cases h : pn 9 true l with
    | none => rfl
    | some x =>
      obtain ⟨m, c⟩ := x
      obtain ⟨h0, h1, _, rfl, r, hr⟩ := pn_enc 9 true l m c hb h
      have hl := (enc_len 9 m).1
      have hl2 : (enc 9 m).length ≤ l.length := by
        have := congrArg List.length hr
        rw [List.length_append] at this
        omega
      dsimp only
      rw [if_neg (by omega)]
      by_cases c1 : limit < m
      · rw [if_pos c1, if_pos c1]
      · rw [if_neg c1, if_neg c1, if_pos (by omega), Int.toNat_natCast]
  · rw [if_neg he, if_neg he]
end Go.Proofs.Ytgfkcmmhnibaiaa.PRw
