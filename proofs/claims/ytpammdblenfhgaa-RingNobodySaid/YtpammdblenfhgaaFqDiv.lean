/- bits.Div64 is the division of a double word by a word, and what hangs on it: MulDiv, Ceil, and the page's examples. -/
import Derived.Test.YtpammdblenfhgaaFqPure
namespace Go.Proofs.Ytpammdblenfhgaa.PRg
open Go.RowKit Go.Proofs.YtpammdblenfhgaaW.PrintWords Go.Proofs.YtpammdblenfhgaaW.PrintLast Go.Proofs.YtpammdblenfhgaaW.PrintMore FqMath
set_option linter.unusedVariables false

theorem tab_bt (T : ByteArray) (hs : T.size = 256) (hT : ∀ (i : Nat) (h : i < T.size), (T[i]'h).toNat = bitLen i) (i : Nat) (h : i < 256) : bt T (i : Int) = ((bitLen i : Nat) : Int) := by
  unfold bt
  rw [dif_pos (by rw [Int.toNat_natCast, hs]; exact h)]
  simp only [Int.toNat_natCast]
  rw [hT]
theorem len64_j0 (m : Nat) (h : m < 4294967296) (n : Int) (hn0 : 0 ≤ n) (hn : n ≤ 32) (k : Nat) : bits_Len64.j0 (k + 1) (m : Int) n = some (n + ((bitLen m : Nat) : Int)) := by
  have key : ∀ (i : Nat) (_ : i < 256), bt _ (i : Int) = ((bitLen i : Nat) : Int) := fun i hi => tab_bt _ (by kernel_rfl) len8tab_get i hi
  have w : ∀ z : Int, 0 ≤ z → z ≤ 200 → wrap64 z = z := fun z h0 h1 => by unfold wrap64; omega
  have b8 : ∀ (i : Nat) (_ : i < 256), bitLen i ≤ 8 := bitLen_le8
  rw [bits_Len64.j0]
  by_cases h1 : 65536 ≤ m
  · rw [if_pos (by omega)]
    by_cases h2 : 16777216 ≤ m
    · rw [if_pos (by omega), if_pos (by omega), if_pos (by omega), show (m : Int) / 65536 / 256 % 256 = ((m / 16777216 : Nat) : Int) by omega, key _ (by omega)]
      have := b8 (m / 16777216) (by omega)
      rw [w ((bitLen (m / 16777216) : Nat) : Int) (by omega) (by omega), w (n + 16) (by omega) (by omega), w (n + 16 + 8) (by omega) (by omega), w _ (by omega) (by omega)]
      have hs := bitLen_shift m 24 (by have e : (2 : Nat) ^ 24 = 16777216 := by decide
                                       rw [e]; omega)
      rw [hs, show (2 : Nat) ^ 24 = 16777216 by decide]
      congr 1
      omega
    · rw [if_neg (by omega), if_pos (by omega), if_pos (by omega), show (m : Int) / 65536 % 256 = ((m / 65536 : Nat) : Int) by omega, key _ (by omega)]
      have := b8 (m / 65536) (by omega)
      rw [w ((bitLen (m / 65536) : Nat) : Int) (by omega) (by omega), w (n + 16) (by omega) (by omega), w _ (by omega) (by omega)]
      have hs := bitLen_shift m 16 (by have e : (2 : Nat) ^ 16 = 65536 := by decide
                                       rw [e]; omega)
      rw [hs, show (2 : Nat) ^ 16 = 65536 by decide]
      congr 1
      omega
  · rw [if_neg (by omega)]
    by_cases h2 : 256 ≤ m
    · rw [if_pos (by omega), if_pos (by omega), if_pos (by omega), show (m : Int) / 256 % 256 = ((m / 256 : Nat) : Int) by omega, key _ (by omega)]
      have := b8 (m / 256) (by omega)
      rw [w ((bitLen (m / 256) : Nat) : Int) (by omega) (by omega), w (n + 8) (by omega) (by omega), w _ (by omega) (by omega)]
      have hs := bitLen_shift m 8 (by have e : (2 : Nat) ^ 8 = 256 := by decide
                                      rw [e]; omega)
      rw [hs, show (2 : Nat) ^ 8 = 256 by decide]
      congr 1
      omega
    · rw [if_neg (by omega), if_pos (by omega), if_pos (by omega), show (m : Int) % 256 = (m : Int) by omega, key _ (by omega)]
      have := b8 m (by omega)
      rw [w ((bitLen m : Nat) : Int) (by omega) (by omega), w _ (by omega) (by omega)]
theorem len64 (m : Nat) (h1 : m < 18446744073709551616) (k : Nat) : bits_Len64.f (k + 1) (m : Int) = some ((bitLen m : Nat) : Int) := by
  unfold bits_Len64.f
  by_cases h : 4294967296 ≤ m
  · rw [if_pos (by omega), show (m : Int) / 4294967296 = ((m / 4294967296 : Nat) : Int) by omega, len64_j0 _ (by omega) _ (by omega) (by omega)]
    have hs := bitLen_shift m 32 (by have e : (2 : Nat) ^ 32 = 4294967296 := by decide
                                     rw [e]; omega)
    rw [hs, show (2 : Nat) ^ 32 = 4294967296 by decide]
    congr 1
  · rw [if_neg (by omega), len64_j0 _ (by omega) _ (by omega) (by omega), Int.zero_add]

/-- What Div64's second digit ends in. -/
def endOf (y s q1 u un0 q0 : Int) : Option (Int × Int) :=
  some (IntKind.u64.wrap (IntKind.u64.wrap (q1 * 4294967296) + q0), shr .u64 (IntKind.u64.wrap (IntKind.u64.wrap (IntKind.u64.wrap (u * 4294967296) + un0) - IntKind.u64.wrap (q0 * y))) s)

theorem digit0 (y y1 y0 s q1 u v N : Int) (hs : 0 ≤ s) (hy : y = y1 * 4294967296 + y0) (hN : N = u * 4294967296 + v) (hy1 : 2147483648 ≤ y1) (hy1' : y1 < 4294967296) (hy0 : 0 ≤ y0) (hy0' : y0 < 4294967296)
    (hv0 : 0 ≤ v) (hv : v < 4294967296) (hu0 : 0 ≤ u) (hu : u < y) (m : Nat) : ∀ (k : Nat) (q r : Int), 2 * m + 2 ≤ k → q ≤ N / y + m → N / y ≤ q → q ≤ 4294967297 → 0 ≤ r → r < 4294967296 → q * y1 + r = u →
    bits_Div64.l1 k y s y1 y0 v q1 r u q = endOf y s q1 u v (N / y) := by
  have ht := top_digit u v y N hN hv hu (by omega)
  have hq0 : 0 ≤ N / y := Int.ediv_nonneg (by omega) (by omega)
  have hle := Int.ediv_mul_le N (show y ≠ 0 by omega)
  have hlt : N < (N / y + 1) * y := by
    have := Int.lt_ediv_add_one_mul_self N (show 0 < y by omega)
    simpa using this
  have stop : ∀ (k : Nat) (q r : Int), q = N / y → 0 ≤ r → r < 4294967296 → q * y1 + r = u → bits_Div64.l1 (k + 1 + 1) y s y1 y0 v q1 r u q = endOf y s q1 u v (N / y) := by
    intro k q r he r0 r1 hr
    have hkn := knuth u v y1 y0 q r N y hN hy hr
    have hsp := small_prod q y0 (by omega) (by omega) hy0 hy0'
    simp only [bits_Div64.l1, bits_Div64.j4]
    rw [if_neg (by omega)]
    have hc : ¬ (IntKind.u64.wrap (q * y0) > IntKind.u64.wrap (IntKind.u64.wrap (4294967296 * r) + v)) := by
      simp only [uw]
      rw [he] at *
      generalize N / y * y = A at *
      generalize N / y * y0 = B at *
      omega
    simp only [hc, decide_false]
    rw [if_neg (by simp), if_pos hs, he]
    rfl
  induction m with
  | zero =>
    intro k q r hk hq1 hq2 hq3 r0 r1 hr
    obtain ⟨k, rfl⟩ : ∃ m, k = m + 1 + 1 := ⟨k - 2, by omega⟩
    exact stop k q r (by omega) r0 r1 hr
  | succ m ih =>
    intro k q r hk hq1 hq2 hq3 r0 r1 hr
    obtain ⟨k, rfl⟩ : ∃ m, k = m + 1 + 1 := ⟨k - 2, by omega⟩
    have hkn := knuth u v y1 y0 q r N y hN hy hr
    by_cases he : q = N / y
    · exact stop k q r he r0 r1 hr
    · -- the digit is too great
      have hgt : N / y + 1 ≤ q := by omega
      have hbig : N < q * y := Int.lt_of_lt_of_le hlt (Int.mul_le_mul_of_nonneg_right hgt (by omega))
      have hr' : (q - 1) * y1 + (r + y1) = u := by rw [← hr]; grind
      have step : bits_Div64.j4 (k + 1) y s y1 y0 v q1 r u q true = endOf y s q1 u v (N / y) := by
        simp only [bits_Div64.j4, if_true]
        have e1 : IntKind.u64.wrap (r + y1) = r + y1 := uw_id (by omega) (by omega)
        have e2 : IntKind.u64.wrap (q - 1) = q - 1 := uw_id (by omega) (by omega)
        rw [e1, e2]
        by_cases hb : r + y1 ≥ 4294967296
        · rw [if_pos hb, if_pos hs]
          have hq' : q - 1 = N / y := by
            have hkn' := knuth u v y1 y0 (q - 1) (r + y1) N y hN hy hr'
            have hsp := small_prod (q - 1) y0 (by omega) (by omega) hy0 hy0'
            have h1 : (q - 1) * y ≤ N := by omega
            have h2 := (Int.le_ediv_iff_mul_le (show 0 < y by omega)).2 h1
            omega
          rw [hq']
          rfl
        · rw [if_neg hb]
          exact ih k (q - 1) (r + y1) (by omega) (by omega) (by omega) (by omega) (by omega) (by omega) hr'
      simp only [bits_Div64.l1]
      by_cases hb : q ≥ 4294967296
      · rw [if_pos hb]; exact step
      · rw [if_neg hb]
        have hsp := small_prod q y0 (by omega) (by omega) hy0 hy0'
        have hc : IntKind.u64.wrap (q * y0) > IntKind.u64.wrap (IntKind.u64.wrap (4294967296 * r) + v) := by
          simp only [uw]
          generalize q * y = A at *
          generalize q * y0 = B at *
          omega
        simp only [hc, decide_true]
        exact step

theorem digit1 (y y1 y0 s u v un0 N : Int) (hs : 0 ≤ s) (hy : y = y1 * 4294967296 + y0) (hN : N = u * 4294967296 + v) (hy1 : 2147483648 ≤ y1) (hy1' : y1 < 4294967296) (hy0 : 0 ≤ y0) (hy0' : y0 < 4294967296)
    (hv0 : 0 ≤ v) (hv : v < 4294967296) (hu0 : 0 ≤ u) (hu : u < y) (K : Nat) (res : Option (Int × Int)) (hres : ∀ k, K ≤ k → bits_Div64.j2 k y s y1 y0 u v un0 (N / y) = res) (m : Nat) :
    ∀ (k : Nat) (q r : Int), K + 2 * m + 2 ≤ k → q ≤ N / y + m → N / y ≤ q → q ≤ 4294967297 → 0 ≤ r → r < 4294967296 → q * y1 + r = u →
    bits_Div64.l0 k y s y1 y0 u v un0 q r = res := by
  have ht := top_digit u v y N hN hv hu (by omega)
  have hq0 : 0 ≤ N / y := Int.ediv_nonneg (by omega) (by omega)
  have hle := Int.ediv_mul_le N (show y ≠ 0 by omega)
  have hlt : N < (N / y + 1) * y := by
    have := Int.lt_ediv_add_one_mul_self N (show 0 < y by omega)
    simpa using this
  have stop : ∀ (k : Nat) (q r : Int), K ≤ k → q = N / y → 0 ≤ r → r < 4294967296 → q * y1 + r = u → bits_Div64.l0 (k + 1 + 1) y s y1 y0 u v un0 q r = res := by
    intro k q r hk he r0 r1 hr
    have hkn := knuth u v y1 y0 q r N y hN hy hr
    have hsp := small_prod q y0 (by omega) (by omega) hy0 hy0'
    simp only [bits_Div64.l0, bits_Div64.j1]
    rw [if_neg (by omega)]
    have hc : ¬ (IntKind.u64.wrap (q * y0) > IntKind.u64.wrap (IntKind.u64.wrap (4294967296 * r) + v)) := by
      simp only [uw]
      rw [he] at *
      generalize N / y * y = A at *
      generalize N / y * y0 = B at *
      omega
    simp only [hc, decide_false]
    rw [if_neg (by simp), he]
    exact hres k hk
  induction m with
  | zero =>
    intro k q r hk hq1 hq2 hq3 r0 r1 hr
    obtain ⟨k, rfl⟩ : ∃ m, k = m + 1 + 1 := ⟨k - 2, by omega⟩
    exact stop k q r (by omega) (by omega) r0 r1 hr
  | succ m ih =>
    intro k q r hk hq1 hq2 hq3 r0 r1 hr
    obtain ⟨k, rfl⟩ : ∃ m, k = m + 1 + 1 := ⟨k - 2, by omega⟩
    have hkn := knuth u v y1 y0 q r N y hN hy hr
    by_cases he : q = N / y
    · exact stop k q r (by omega) he r0 r1 hr
    · have hgt : N / y + 1 ≤ q := by omega
      have hbig : N < q * y := Int.lt_of_lt_of_le hlt (Int.mul_le_mul_of_nonneg_right hgt (by omega))
      have hr' : (q - 1) * y1 + (r + y1) = u := by rw [← hr]; grind
      have step : bits_Div64.j1 (k + 1) y s y1 y0 u v un0 q r true = res := by
        simp only [bits_Div64.j1, if_true]
        have e1 : IntKind.u64.wrap (r + y1) = r + y1 := uw_id (by omega) (by omega)
        have e2 : IntKind.u64.wrap (q - 1) = q - 1 := uw_id (by omega) (by omega)
        rw [e1, e2]
        by_cases hb : r + y1 ≥ 4294967296
        · rw [if_pos hb]
          have hq' : q - 1 = N / y := by
            have hkn' := knuth u v y1 y0 (q - 1) (r + y1) N y hN hy hr'
            have hsp := small_prod (q - 1) y0 (by omega) (by omega) hy0 hy0'
            have h1 : (q - 1) * y ≤ N := by omega
            have h2 := (Int.le_ediv_iff_mul_le (show 0 < y by omega)).2 h1
            omega
          rw [hq']
          exact hres k (by omega)
        · rw [if_neg hb]
          exact ih k (q - 1) (r + y1) (by omega) (by omega) (by omega) (by omega) (by omega) (by omega) hr'
      simp only [bits_Div64.l0]
      by_cases hb : q ≥ 4294967296
      · rw [if_pos hb]; exact step
      · rw [if_neg hb]
        have hsp := small_prod q y0 (by omega) (by omega) hy0 hy0'
        have hc : IntKind.u64.wrap (q * y0) > IntKind.u64.wrap (IntKind.u64.wrap (4294967296 * r) + v) := by
          simp only [uw]
          generalize q * y = A at *
          generalize q * y0 = B at *
          omega
        simp only [hc, decide_true]
        exact step

/-- A word that is shifted to its top. -/
theorem norm (m : Nat) (h0 : 0 < m) (h1 : m < 18446744073709551616) : 1 ≤ bitLen m ∧ bitLen m ≤ 64 ∧ (m : Int) * 2 ^ (64 - bitLen m) < 18446744073709551616 ∧ 9223372036854775808 ≤ (m : Int) * 2 ^ (64 - bitLen m) := by
  have hs := bitLen_spec m
  have hL : bitLen m ≤ 64 := by
    have h2 := hs.2 (by omega)
    rcases Nat.lt_or_ge 64 (bitLen m) with h | h
    · have : (2 : Nat) ^ 64 ≤ 2 ^ (bitLen m - 1) := Nat.pow_le_pow_right (by omega) (by omega)
      omega
    · exact h
  have hL1 : 1 ≤ bitLen m := by
    rcases Nat.eq_zero_or_pos (bitLen m) with h | h
    · have := hs.1; rw [h] at this; omega
    · exact h
  refine ⟨hL1, hL, ?_, ?_⟩
  · have : m * 2 ^ (64 - bitLen m) < 2 ^ bitLen m * 2 ^ (64 - bitLen m) := Nat.mul_lt_mul_of_pos_right hs.1 (Nat.two_pow_pos _)
    rw [← Nat.pow_add, show bitLen m + (64 - bitLen m) = 64 by omega] at this
    have h3 : ((m * 2 ^ (64 - bitLen m) : Nat) : Int) < 18446744073709551616 := by omega
    simpa using h3
  · have : 2 ^ (bitLen m - 1) * 2 ^ (64 - bitLen m) ≤ m * 2 ^ (64 - bitLen m) := Nat.mul_le_mul_right _ (hs.2 (by omega))
    rw [← Nat.pow_add, show bitLen m - 1 + (64 - bitLen m) = 63 by omega] at this
    have h3 : (9223372036854775808 : Int) ≤ ((m * 2 ^ (64 - bitLen m) : Nat) : Int) := by omega
    simpa using h3

set_option maxRecDepth 100000 in
theorem div64 (k : Nat) (hi lo y : Int) (hk : 1099511627776 ≤ k) (h0 : 0 ≤ hi) (h1 : hi < y) (h2 : y < 18446744073709551616) (l0 : 0 ≤ lo) (l1 : lo < 18446744073709551616) :
    bits_Div64.f k hi lo y = some ((hi * 18446744073709551616 + lo) / y, (hi * 18446744073709551616 + lo) % y) := by
  unfold bits_Div64.f
  rw [if_neg (by omega), if_neg (by omega)]
  by_cases hz : hi = 0
  · rw [if_pos hz]
    subst hz
    have hle := Int.ediv_le_self y l0
    have hn := Int.ediv_nonneg l0 (show 0 ≤ y by omega)
    rw [Int.tdiv_eq_ediv_of_nonneg l0, Int.tmod_eq_emod_of_nonneg l0, uw_id hn (by omega)]
    simp
  · rw [if_neg hz]
    obtain ⟨m, rfl⟩ := Int.eq_ofNat_of_zero_le (show 0 ≤ y by omega)
    obtain ⟨n1, n2, n3, n4⟩ := norm m (by omega) (by omega)
    obtain ⟨k', rfl⟩ : ∃ j, k = j + 1 := ⟨k - 1, by omega⟩
    have hlz : bits_LeadingZeros64.f (k' + 1) (m : Int) = some (((64 - bitLen m : Nat) : Nat) : Int) := by
      unfold bits_LeadingZeros64.f
      rw [len64 m (by omega)]
      simp only [Option.bind_some]
      congr 1
      unfold wrap64
      omega
    rw [hlz]
    simp only [Option.bind_some]
    obtain ⟨s, hs⟩ : ∃ s, s = 64 - bitLen m := ⟨_, rfl⟩
    rw [← hs] at n3 n4 ⊢
    have hs64 : s ≤ 63 := by omega
    clear hlz
    rw [uw_id (n := (s : Int)) (by omega) (by omega), uw_id (n := 64 - (s : Int)) (by omega) (by omega), if_pos (by omega), if_pos (by omega)]
    rw [shl_id _ _ (by omega), shl_id _ _ (by omega), shl_id _ _ (by omega), shr_id _ _ (by omega), Int.toNat_natCast, show (64 - (s : Int)).toNat = 64 - s by omega]
    have hps := pow_pos s
    have e1 : (m : Int) * 2 ^ s % 18446744073709551616 = (m : Int) * 2 ^ s := by
      refine Int.emod_eq_of_lt ?_ n3
      omega
    rw [e1]
    have hhi : hi * 2 ^ s + 2 ^ s ≤ (m : Int) * 2 ^ s := by
      have := Int.mul_le_mul_of_nonneg_right (show hi + 1 ≤ (m : Int) by omega) (Int.le_of_lt hps)
      rw [Int.add_mul, Int.one_mul] at this
      exact this
    have hhi0 : 0 ≤ hi * 2 ^ s := Int.mul_nonneg h0 (Int.le_of_lt hps)
    have e2 : hi * 2 ^ s % 18446744073709551616 = hi * 2 ^ s := Int.emod_eq_of_lt hhi0 (by omega)
    rw [e2]
    obtain ⟨g0, g1⟩ := shift_low lo l0 l1 s (by omega)
    have hpart := shift_part lo l0 s (by omega)
    rw [orj s (hi * 2 ^ s) (lo / 2 ^ (64 - s)) hhi0 (Int.mul_emod_left _ _) (by omega) g0 g1 (by omega)]
    have eU : (hi * 2 ^ s + lo / 2 ^ (64 - s)) * 18446744073709551616 + lo * 2 ^ s % 18446744073709551616 = (hi * 18446744073709551616 + lo) * 2 ^ s := by
      have : (hi * 18446744073709551616 + lo) * 2 ^ s = hi * 2 ^ s * 18446744073709551616 + lo * 2 ^ s := by grind
      rw [this]
      generalize hi * 2 ^ s = A at *
      generalize lo * 2 ^ s = B at *
      generalize lo / 2 ^ (64 - s) = C at *
      omega
    -- from here on: numbers of the normed division alone
    have uY : hi * 2 ^ s + lo / 2 ^ (64 - s) < (m : Int) * 2 ^ s := by omega
    have u0 : 0 ≤ hi * 2 ^ s + lo / 2 ^ (64 - s) := by omega
    have v0 : 0 ≤ lo * 2 ^ s % 18446744073709551616 := by omega
    have v1 : lo * 2 ^ s % 18446744073709551616 < 18446744073709551616 := by omega
    clear hpart e1 e2 hhi hhi0 g0 g1
    obtain ⟨Y, hY⟩ : ∃ Y, (m : Int) * 2 ^ s = Y := ⟨_, rfl⟩
    obtain ⟨u, hu⟩ : ∃ u, hi * 2 ^ s + lo / 2 ^ (64 - s) = u := ⟨_, rfl⟩
    obtain ⟨v, hv⟩ : ∃ v, lo * 2 ^ s % 18446744073709551616 = v := ⟨_, rfl⟩
    rw [hY] at n3 n4 uY ⊢
    rw [hu] at uY u0 eU ⊢
    rw [hv] at v0 v1 eU ⊢
    rw [if_neg (by omega), and_low32 Y (by omega) (by omega), and_low32 v v0 v1]
    have hYp : Y = Y / 4294967296 * 4294967296 + Y % 4294967296 := by omega
    have hy1 : 2147483648 ≤ Y / 4294967296 := by omega
    have hy1' : Y / 4294967296 < 4294967296 := by omega
    have hy0 : 0 ≤ Y % 4294967296 := by omega
    have hy0' : Y % 4294967296 < 4294967296 := by omega
    have hd : ∀ z, 0 ≤ z → z < Y → 0 ≤ z / (Y / 4294967296) ∧ z / (Y / 4294967296) ≤ 4294967297 ∧ z / (Y / 4294967296) * (Y / 4294967296) ≤ z ∧ z < z / (Y / 4294967296) * (Y / 4294967296) + Y / 4294967296 := fun z z0 z1 =>
      ⟨Int.ediv_nonneg z0 (by omega), digit_top z _ _ Y hYp hy0' hy1 z0 z1, Int.ediv_mul_le _ (by omega), by
        have := Int.lt_ediv_add_one_mul_self z (show 0 < Y / 4294967296 by omega)
        rw [Int.add_mul, Int.one_mul] at this
        exact this⟩
    have first : ∀ z, 0 ≤ z → z < Y → IntKind.u64.wrap (Int.tdiv z (Y / 4294967296)) = z / (Y / 4294967296) ∧
        IntKind.u64.wrap (z - IntKind.u64.wrap (IntKind.u64.wrap (Int.tdiv z (Y / 4294967296)) * (Y / 4294967296))) = z - z / (Y / 4294967296) * (Y / 4294967296) := by
      intro z z0 z1
      obtain ⟨d0, d1, d2, d3⟩ := hd z z0 z1
      have a : IntKind.u64.wrap (Int.tdiv z (Y / 4294967296)) = z / (Y / 4294967296) := by
        rw [Int.tdiv_eq_ediv_of_nonneg z0]
        exact uw_id d0 (by omega)
      have b : 0 ≤ z / (Y / 4294967296) * (Y / 4294967296) := Int.mul_nonneg d0 (by omega)
      refine ⟨a, ?_⟩
      rw [a, uw_id b (by omega), uw_id (by omega) (by omega)]
    obtain ⟨f1, f2⟩ := first u u0 uY
    rw [f2, f1]
    have hN1 : ∀ z, 0 ≤ z → z < Y → ∀ x, 0 ≤ x → x < 4294967296 → (z * 4294967296 + x) / Y < 4294967296 ∧ 0 ≤ (z * 4294967296 + x) / Y ∧ (z * 4294967296 + x) / Y * Y ≤ z * 4294967296 + x ∧ z * 4294967296 + x < (z * 4294967296 + x) / Y * Y + Y := fun z z0 z1 x x0 x1 =>
      ⟨top_digit z x Y _ rfl x1 z1 (by omega), Int.ediv_nonneg (by omega) (by omega), Int.ediv_mul_le _ (by omega), by
        have := Int.lt_ediv_add_one_mul_self (z * 4294967296 + x) (show 0 < Y by omega)
        rw [Int.add_mul, Int.one_mul] at this
        exact this⟩
    obtain ⟨q1, hq1⟩ : ∃ q, q = (u * 4294967296 + v / 4294967296) / Y := ⟨_, rfl⟩
    obtain ⟨a1, a2, a3, a4⟩ := hN1 u u0 uY (v / 4294967296) (by omega) (by omega)
    rw [← hq1] at a1 a2 a3 a4
    obtain ⟨u2, hu2⟩ : ∃ q, q = u * 4294967296 + v / 4294967296 - q1 * Y := ⟨_, rfl⟩
    obtain ⟨q0, hq0⟩ : ∃ q, q = (u2 * 4294967296 + v % 4294967296) / Y := ⟨_, rfl⟩
    obtain ⟨b1, b2, b3, b4⟩ := hN1 u2 (by omega) (by omega) (v % 4294967296) (by omega) (by omega)
    rw [← hq0] at b1 b2 b3 b4
    have second : ∀ k, 10000000000 ≤ k → bits_Div64.j2 k Y s (Y / 4294967296) (Y % 4294967296) u (v / 4294967296) (v % 4294967296) ((u * 4294967296 + v / 4294967296) / Y) = endOf Y s q1 u2 (v % 4294967296) q0 := by
      intro k hk
      obtain ⟨k, rfl⟩ : ∃ j, k = j + 1 := ⟨k - 1, by omega⟩
      rw [← hq1]
      simp only [bits_Div64.j2]
      have e21 : IntKind.u64.wrap (IntKind.u64.wrap (IntKind.u64.wrap (u * 4294967296) + v / 4294967296) - IntKind.u64.wrap (q1 * Y)) = u2 := by
        simp only [uw]
        generalize q1 * Y = T at *
        omega
      rw [if_neg (by omega), e21]
      obtain ⟨f3, f4⟩ := first u2 (by omega) (by omega)
      rw [f4, f3]
      obtain ⟨d0, d1, d2, d3⟩ := hd u2 (by omega) (by omega)
      rw [hq0]
      exact digit0 Y _ _ s q1 u2 (v % 4294967296) _ (by omega) hYp rfl hy1 hy1' hy0 hy0' (by omega) (by omega) (by omega) (by omega) 4294967297 k _ _ (by omega) (by rw [← hq0]; omega)
        (digit_le u2 (v % 4294967296) _ _ _ Y rfl hYp (by omega) (by omega) (by omega) hy0 (by omega)) d1 (by omega) (by omega) (by omega)
    obtain ⟨d0, d1, d2, d3⟩ := hd u u0 uY
    rw [digit1 Y _ _ s u (v / 4294967296) (v % 4294967296) _ (by omega) hYp rfl hy1 hy1' hy0 hy0' (by omega) (by omega) u0 uY 10000000000 _ second 4294967297 (k' + 1) _ _ (by omega) (by rw [← hq1]; omega)
        (digit_le u (v / 4294967296) _ _ _ Y rfl hYp (by omega) (by omega) (by omega) hy0 u0) d1 (by omega) (by omega) (by omega)]
    unfold endOf
    rw [shr_id _ _ (by omega), Int.toNat_natCast]
    have r1 : IntKind.u64.wrap (IntKind.u64.wrap (q1 * 4294967296) + q0) = q1 * 4294967296 + q0 := by simp only [uw]; omega
    have r2 : IntKind.u64.wrap (IntKind.u64.wrap (IntKind.u64.wrap (u2 * 4294967296) + v % 4294967296) - IntKind.u64.wrap (q0 * Y)) = u2 * 4294967296 + v % 4294967296 - q0 * Y := by
      simp only [uw]
      generalize q0 * Y = T at *
      omega
    rw [r1, r2]
    -- the two digits are the quotient
    have tot : (hi * 18446744073709551616 + lo) * 2 ^ s = (q1 * 4294967296 + q0) * Y + (u2 * 4294967296 + v % 4294967296 - q0 * Y) := by
      have : (q1 * 4294967296 + q0) * Y = q1 * Y * 4294967296 + q0 * Y := by grind
      rw [this, ← eU]
      generalize q1 * Y = T1 at *
      generalize q0 * Y = T0 at *
      omega
    have rest : u2 * 4294967296 + v % 4294967296 - q0 * Y = (hi * 18446744073709551616 + lo - (q1 * 4294967296 + q0) * (m : Int)) * 2 ^ s := by
      have : (hi * 18446744073709551616 + lo - (q1 * 4294967296 + q0) * (m : Int)) * 2 ^ s = (hi * 18446744073709551616 + lo) * 2 ^ s - (q1 * 4294967296 + q0) * ((m : Int) * 2 ^ s) := by grind
      rw [this, hY, tot]
      omega
    have hR0 : 0 ≤ u2 * 4294967296 + v % 4294967296 - q0 * Y := by omega
    have hR1 : u2 * 4294967296 + v % 4294967296 - q0 * Y < (m : Int) * 2 ^ s := by rw [hY]; omega
    rw [rest] at hR0 hR1 ⊢
    rw [Int.mul_ediv_cancel _ (by omega)]
    have z0 : 0 ≤ hi * 18446744073709551616 + lo - (q1 * 4294967296 + q0) * (m : Int) := by
      rcases Int.lt_or_le (hi * 18446744073709551616 + lo - (q1 * 4294967296 + q0) * (m : Int)) 0 with h | h
      · have := Int.mul_neg_of_neg_of_pos h hps
        omega
      · exact h
    have z1 : hi * 18446744073709551616 + lo - (q1 * 4294967296 + q0) * (m : Int) < (m : Int) := Int.lt_of_mul_lt_mul_right hR1 (Int.le_of_lt hps)
    have hq : q1 * 4294967296 + q0 = (hi * 18446744073709551616 + lo) / (m : Int) := quot_eq _ _ _ (by omega) (by omega) (by rw [Int.add_mul, Int.one_mul]; omega)
    have hr : (hi * 18446744073709551616 + lo) % (m : Int) = hi * 18446744073709551616 + lo - (q1 * 4294967296 + q0) * (m : Int) := by
      rw [hq]
      have := Int.mul_ediv_add_emod (hi * 18446744073709551616 + lo) (m : Int)
      rw [Int.mul_comm] at this
      omega
    rw [hr, ← hq]

theorem muldiv (k : Nat) (a b c : Int) (hk : 1099511627776 ≤ k) (ha0 : 0 ≤ a) (ha : a < 18446744073709551616) (hb0 : 0 ≤ b) (hb : b < 18446744073709551616) (hc0 : 0 ≤ c) (hc : c < 18446744073709551616) :
    fixq_MulDiv.f k a b c = some (if c = 0 then (0, 0, 1) else if c ≤ a * b / 18446744073709551616 then (0, 0, 5) else (a * b / c, a * b % c, 0)) := by
  unfold fixq_MulDiv.f
  have hm := mul_bound a b ha0 ha hb0 hb
  by_cases h : c = 0
  · rw [if_pos h, if_pos h]
  · rw [if_neg h, if_neg h, mul64 a b ha0 ha hb0 hb]
    simp only [Option.bind_some]
    by_cases h2 : c ≤ a * b / 18446744073709551616
    · rw [if_pos h2, if_pos h2]
    · rw [if_neg (by omega), if_neg h2, div64 k _ _ c hk (by omega) (by omega) hc (by omega) (by omega)]
      simp only [Option.bind_some]
      rw [show a * b / 18446744073709551616 * 18446744073709551616 + a * b % 18446744073709551616 = a * b by omega]
end Go.Proofs.Ytpammdblenfhgaa.PRg
