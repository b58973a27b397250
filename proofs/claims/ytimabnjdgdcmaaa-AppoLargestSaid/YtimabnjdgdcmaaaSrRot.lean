/- slices.swapRangeCmpFunc and rotateCmpFunc, walked. -/
import Derived.Test.YtimabnjdgdcmaaaSrCmp
namespace Go.Proofs.Ytimabnjdgdcmaaa.PApp
open Go Go.Proofs Go.Shelf Go.RowKit Go.Lib Go.Sort Go.Proofs.YtimabnjdgdcmaaaW.PrintWords Go.Proofs.YtimabnjdgdcmaaaW.PrintLast Go.Proofs.YtimabnjdgdcmaaaW.PrintMore
set_option linter.unusedVariables false
set_option linter.unusedSimpArgs false
section
variable {α : Type} [Inhabited α]
def swpR (a b : Nat) : Nat → Nat → Array α → Array α
  | 0, _, d => d
  | n + 1, i, d => swpR a b n (i + 1) (swp d (a + i) (b + i))
theorem swpR_size (a b : Nat) : ∀ (n i : Nat) (d : Array α), (swpR a b n i d).size = d.size
  | 0, _, d => rfl
  | n + 1, i, d => by
    show (swpR a b n (i + 1) (swp d (a + i) (b + i))).size = _
    rw [swpR_size a b n, size_swp]
def rotF (m : Nat) : Nat → Nat → Nat → Array α → Array α
  | 0, _, _, d => d
  | f + 1, i, j, d =>
    if i = j then swpR (m - i) m i 0 d
    else if j < i then rotF m f (i - j) j (swpR (m - i) m j 0 d)
    else rotF m f i (j - i) (swpR (m - i) (m + j - i) i 0 d)
theorem rotF_size (m : Nat) : ∀ (f i j : Nat) (d : Array α), (rotF m f i j d).size = d.size
  | 0, _, _, d => rfl
  | f + 1, i, j, d => by
    rw [rotF]
    split
    · exact swpR_size _ _ _ _ _
    · split
      · rw [rotF_size m f, swpR_size]
      · rw [rotF_size m f, swpR_size]
def rotA (d : Array α) (a m b : Nat) : Array α := rotF m (b - a) (m - a) (b - m) d
theorem rotA_size (d : Array α) (a m b : Nat) : (rotA d a m b).size = d.size := rotF_size _ _ _ _ _
/-- The worlds that the sort passes through. -/
def Wd (enc : α → Value) (w : World) (blk off : Nat) (d : Array α) (n : Nat) : World := (putRow enc w blk off d).drewN n
end
theorem wrapA (x y z : Nat) (h : z = x + y) (hz : z < 4611686018427387904) : IntKind.i64.wrap ((x : Int) + (y : Int)) = (z : Int) := by rw [IntKind.wrap_i64]; omega
theorem wrapB (x y z : Nat) (h : z = x + y) (hz : z < 4611686018427387904) : wrap64 ((x : Int) + (y : Int)) = (z : Int) := by unfold wrap64; omega
theorem wrapC (x y z : Nat) (h : x = z + y) (hz : x < 4611686018427387904) : IntKind.i64.wrap ((x : Int) - (y : Int)) = (z : Int) := by rw [IntKind.wrap_i64]; omega
theorem wrapD (x y z : Nat) (h : x = z + y) (hz : x < 4611686018427387904) : wrap64 ((x : Int) - (y : Int)) = (z : Int) := by unfold wrap64; omega
theorem castLt {x y : Nat} (h : x < y) : (x : Int) < (y : Int) := by omega
theorem castNn (x : Nat) : (0 : Int) ≤ (x : Int) := by omega
set_option maxHeartbeats 4000000 in
set_option maxRecDepth 1000000 in
theorem swap65 {α : Type} [Inhabited α] (enc : α → Value) (hO : OneCell enc) (blk off cap a b c : Nat) (F : Value) (d0 d : Array α) (m0 : Nat) (w : World)
    (hH : Holds enc w blk off d0) (hs : d.size = d0.size) (ha : a + c ≤ d.size) (hb : b + c ≤ d.size) (hab : a ≠ b) (hsz : d.size < 4611686018427387904) :
    Calls Try.prog 65 #[.slice (some ⟨blk, off, none⟩) d.size cap, .int .i64 a, .int .i64 b, .int .i64 c, F] (Wd enc w blk off d m0) fun e w' =>
      e = .returned (.tuple #[]) ∧ ∃ n, w' = Wd enc w blk off (swpR a b c 0 d) n := by
  have hcl0 := hO.cells
  simp only [Value.cells] at hcl0
  have hst := hO.store Try.prog
  have HH : Hid (Holds enc w blk off d0) := hH
  clear hH
  go_enter Try.func65, Try.ntmps65
  go_wp2
  go_loopg [10] (c + 1) (fun kq v10 wr => ∃ (i n : Nat) (dk : Array α), v10 = .int .i64 i ∧ Hid (i ≤ c) ∧ Hid (i + kq = c + 1) ∧ Hid (dk.size = d.size) ∧ wr = Wd enc w blk off dk n ∧ Hid (swpR a b (c - i) i dk = swpR a b c 0 d))
  case atStart => exact ⟨0, m0, d, rfl, (show _ ≤ _ by omega), (show _ = _ by omega), rfl, rfl, rfl⟩
  case round =>
    obtain ⟨i, n, dk, rfl, HI, HK, HS, rfl, HE⟩ := hrel
    cases gk with
    | zero => exact absurd HK.out (by have := HI.out; omega)
    | succ k1 =>
      by_cases hlt : i < c
      · have d1 : decide ((i : Int) < (c : Int)) = true := decide_eq_true (by omega)
        have d2 : decide (i < c) = true := decide_eq_true hlt
        have hHj := holds_putRow enc w blk off d0 dk HH.out (by rw [HS.out, hs])
        obtain ⟨p, hp⟩ : ∃ p, p = a + i := ⟨_, rfl⟩
        obtain ⟨q, hq⟩ : ∃ q, q = b + i := ⟨_, rfl⟩
        have hIS : dk.size = d.size := HS.out
        have hpd : p < d.size := by omega
        have hqd : q < d.size := by omega
        have hpz : p < dk.size := by omega
        have hqz : q < dk.size := by omega
        have hpB : p < 4611686018427387904 := by omega
        have hqB : q < 4611686018427387904 := by omega
        have n1 : (off + p = off + q) = False := eq_false (by omega)
        have n2 : (off + q = off + p) = False := eq_false (by omega)
        have n3 : (p = q) = False := eq_false (by omega)
        have n4 : (q = p) = False := eq_false (by omega)
        obtain ⟨cp, fp⟩ := hHj p hpz
        obtain ⟨cq, fq⟩ := hHj q hqz
        obtain ⟨xp, hxp⟩ : ∃ x, dk[p]! = x := ⟨_, rfl⟩
        obtain ⟨xq, hxq⟩ : ∃ x, dk[q]! = x := ⟨_, rfl⟩
        rw [hxp] at cp
        rw [hxq] at cq
        have z1 := castLt hpd
        have z2 := castLt hqd
        have y1 := castNn p
        have y2 := castNn q
        have wp1 := wrapA a i p hp hpB
        have wq1 := wrapA b i q hq hqB
        clear hIS hpd hqd hpB hqB
        have cp' : (Wd enc w blk off dk n).cell? ⟨blk, off + p, none⟩ = some (enc xp) := cp
        have cq' : (Wd enc w blk off dk n).cell? ⟨blk, off + q, none⟩ = some (enc xq) := cq
        have fp' : (Wd enc w blk off dk n).frozen? ⟨blk, off + p, none⟩ = false := fp
        have fq' : (Wd enc w blk off dk n).frozen? ⟨blk, off + q, none⟩ = false := fq
        have HP : Hid (p = a + i ∧ q = b + i ∧ p < dk.size ∧ q < dk.size ∧ dk[p]! = xp ∧ dk[q]! = xq ∧ i < c) := ⟨hp, hq, hpz, hqz, hxp, hxq, hlt⟩
        clear hHj cp cq fp fq hp hq hpz hqz hxp hxq hlt
        generalize hwq : Wd enc w blk off dk n = wq at cp' cq' fp' fq' ⊢
        have HW : Hid (Wd enc w blk off dk n = wq) := hwq
        clear hwq
        go_wp2_with fail
        go_big_region
        all_goals go_wp2
        go_roundg k1
        case measure => clear wp1 wq1; omega
        case rel =>
          clear wp1 wq1
          obtain ⟨e1, e2, e3, e4, e5, e6, e7⟩ := HP.out
          have hIK := HK.out
          have hIS := HS.out
          refine ⟨i + 1, n + 1, swp dk p q, by first | rfl | go_num | (congr 1; unfold wrap64; omega), (show _ ≤ _ by omega), (show _ = _ by omega), (show _ = _ by rw [size_swp]; exact hIS), ?_, (show _ = _ from ?_)⟩
          · rw [← HW.out, ← e5, ← e6]
            exact swap_worldC enc w blk off dk n p q e3 e4
          · rw [← HE.out, show c - i = (c - (i + 1)) + 1 by omega]
            show _ = swpR a b (c - (i + 1)) (i + 1) (swp dk (a + i) (b + i))
            rw [e1, e2]
      · have d1 : decide ((i : Int) < (c : Int)) = false := decide_eq_false (by omega)
        have d2 : decide (i < c) = false := decide_eq_false hlt
        have he := HE.out
        rw [show c - i = 0 by omega] at he
        have HE2 : Hid (dk = swpR a b c 0 d) := he
        clear he hlt
        go_wp2
        go_end0
        exact ⟨rfl, n, by rw [← HE2.out]⟩
theorem swap65' {α : Type} [Inhabited α] (enc : α → Value) (hO : OneCell enc) (blk off cap a b c : Nat) (F : Value) (d0 d : Array α) (m0 : Nat) (w : World)
    (hH : Holds enc w blk off d0) (hs : d.size = d0.size) (ha : a + c ≤ d0.size) (hb : b + c ≤ d0.size) (hab : a ≠ b) (hsz : d0.size < 4611686018427387904) :
    Calls Try.prog 65 #[.slice (some ⟨blk, off, none⟩) d0.size cap, .int .i64 a, .int .i64 b, .int .i64 c, F] (Wd enc w blk off d m0) fun e w' =>
      e = .returned (.tuple #[]) ∧ ∃ n, w' = Wd enc w blk off (swpR a b c 0 d) n := by
  have h := swap65 enc hO blk off cap a b c F d0 d m0 w hH hs (by omega) (by omega) hab (by omega)
  rw [hs] at h
  exact h
theorem rotF_eq {α : Type} [Inhabited α] (m f i : Nat) (d : Array α) (hi : 0 < i) (hf : i + i ≤ f) : rotF m f i i d = swpR (m - i) m i 0 d := by
  obtain ⟨f, rfl⟩ : ∃ g, f = g + 1 := ⟨f - 1, by omega⟩
  rw [rotF, if_pos rfl]
set_option maxHeartbeats 4000000 in
set_option maxRecDepth 1000000 in
theorem rot64 {α : Type} [Inhabited α] (enc : α → Value) (hO : OneCell enc) (blk off cap a m b : Nat) (F : Value) (d0 d : Array α) (m0 : Nat) (w : World)
    (hH : Holds enc w blk off d0) (hs : d.size = d0.size) (ham : a < m) (hmb : m < b) (hb : b ≤ d0.size) (hsz : d0.size < 4611686018427387904) :
    Calls Try.prog 64 #[.slice (some ⟨blk, off, none⟩) d0.size cap, .int .i64 a, .int .i64 m, .int .i64 b, F] (Wd enc w blk off d m0) fun e w' =>
      e = .returned (.tuple #[]) ∧ ∃ n, w' = Wd enc w blk off (rotA d a m b) n := by
  have HH : Hid (Holds enc w blk off d0) := hH
  have HB : Hid (d.size = d0.size ∧ a < m ∧ m < b ∧ b ≤ d0.size ∧ d0.size < 4611686018427387904) := ⟨hs, ham, hmb, hb, hsz⟩
  have W : wrap64 ((m : Int) - (a : Int)) = ((m - a : Nat) : Int) ∧ wrap64 ((b : Int) - (m : Int)) = ((b - m : Nat) : Int) := ⟨wrapD m a (m - a) (by omega) (by omega), wrapD b m (b - m) (by omega) (by omega)⟩
  clear hH hs ham hmb hb hsz
  obtain ⟨w1, w2⟩ := W
  go_enter Try.func64, Try.ntmps64
  go_wp2
  go_loopg [10, 11] (b - a) (fun kq v10 v11 wr => ∃ (i j n : Nat) (dk : Array α), v10 = .int .i64 i ∧ v11 = .int .i64 j ∧ Hid (0 < i ∧ 0 < j ∧ i ≤ m - a ∧ j ≤ b - m ∧ i + j ≤ kq ∧ dk.size = d0.size) ∧ wr = Wd enc w blk off dk n ∧ Hid (rotF m kq i j dk = rotA d a m b))
  case atStart =>
    refine ⟨m - a, b - m, m0, d, by first | rfl | (rw [w1]), by first | rfl | (rw [w2]), ?_, rfl, rfl⟩
    clear w1 w2
    obtain ⟨hs, ham, hmb, hb, hsz⟩ := HB.out
    exact ⟨by omega, by omega, Nat.le_refl _, Nat.le_refl _, by omega, hs⟩
  case round =>
    clear w1 w2
    obtain ⟨i, j, n, dk, rfl, rfl, HI, rfl, HE⟩ := hrel
    obtain ⟨hs, ham, hmb, hb, hsz⟩ := HB.out
    obtain ⟨hi0, hj0, hi1, hj1, hk, hdk⟩ := HI.out
    cases gk with
    | zero => exact absurd hk (by omega)
    | succ k1 =>
      by_cases hij : i = j
      · subst hij
        have hE := HE.out
        rw [rotF_eq m _ i dk hi0 hk] at hE
        have hc := swap65' enc hO blk off cap (m - i) m i F d0 dk n w HH.out hdk (by omega) (by omega) (by omega) hsz
        rw [hE] at hc
        have HC := Aside0.mk hc
        have e1 : ((i : Int) == (i : Int)) = true := beq_self_eq_true _
        have e2 : ((i : Int) != (i : Int)) = false := by simp
        have w3 := wrapD m i (m - i) (by omega) (by omega)
        clear hE hc hs ham hmb hb hsz hi0 hj0 hi1 hj1 hk hdk
        go_wp2_with (go_at_call 65; refine HC.out.mono ?_; rintro e w2 ⟨rfl, n2, rfl⟩)
        go_end0
        exact ⟨rfl, n2, rfl⟩
      · have e1 : ((i : Int) == (j : Int)) = false := beq_eq_false_iff_ne.mpr (by omega)
        have e2 : ((i : Int) != (j : Int)) = true := bne_iff_ne.mpr (by omega)
        have hE := HE.out
        rw [rotF, if_neg hij] at hE
        by_cases hji : j < i
        · rw [if_pos hji] at hE
          have d1 : decide ((j : Int) < (i : Int)) = true := decide_eq_true (by omega)
          have d2 : decide (j < i) = true := decide_eq_true hji
          have hc := swap65' enc hO blk off cap (m - i) m j F d0 dk n w HH.out hdk (by omega) (by omega) (by omega) hsz
          have HC := Aside0.mk hc
          have W : wrap64 ((m : Int) - (i : Int)) = ((m - i : Nat) : Int) ∧ wrap64 ((i : Int) - (j : Int)) = ((i - j : Nat) : Int) := ⟨wrapD m i (m - i) (by omega) (by omega), wrapD i j (i - j) (by omega) (by omega)⟩
          have HE2 : Hid _ := hE
          have HJ : Hid (j < i) := hji
          clear hE hc hs ham hmb hb hsz hi0 hj0 hi1 hj1 hk hdk hji hij
          obtain ⟨w3, w4⟩ := W
          go_wp2_with (go_at_call 65; refine HC.out.mono ?_; rintro e w2 ⟨rfl, n2, rfl⟩)
          have W4 : Hid _ := w4
          clear w3 w4
          go_roundg k1
          case measure => omega
          case rel =>
            obtain ⟨hi0, hj0, hi1, hj1, hk, hdk⟩ := HI.out
            have := HJ.out
            exact ⟨i - j, j, n2, _, by first | rfl | (rw [W4.out]), rfl, ⟨by omega, hj0, by omega, hj1, by omega, by rw [swpR_size]; exact hdk⟩, rfl, HE2⟩
        · rw [if_neg hji] at hE
          have d1 : decide ((j : Int) < (i : Int)) = false := decide_eq_false (by omega)
          have d2 : decide (j < i) = false := decide_eq_false hji
          obtain ⟨s, hs1⟩ : ∃ s, s = m + j := ⟨_, rfl⟩
          obtain ⟨q, hq⟩ : ∃ q, s = q + i := ⟨s - i, by omega⟩
          obtain ⟨p, hp⟩ : ∃ p, m = p + i := ⟨m - i, by omega⟩
          obtain ⟨r, hr⟩ : ∃ r, j = r + i := ⟨j - i, by omega⟩
          rw [show m - i = p by omega, show m + j - i = q by omega, show j - i = r by omega] at hE
          have hc := swap65' enc hO blk off cap p q i F d0 dk n w HH.out hdk (by omega) (by omega) (by omega) hsz
          have HC := Aside0.mk hc
          have HJ : Hid (i < j ∧ j = r + i) := by show i < j ∧ j = r + i; omega
          have W : wrap64 ((m : Int) - (i : Int)) = (p : Int) ∧ wrap64 ((j : Int) - (i : Int)) = (r : Int) ∧ wrap64 ((m : Int) + (j : Int)) = (s : Int) ∧ wrap64 ((s : Int) - (i : Int)) = (q : Int) :=
            ⟨wrapD m i p hp (by omega), wrapD j i r hr (by omega), wrapB m j s hs1 (by omega), wrapD s i q hq (by omega)⟩
          clear hs1 hq hp hr
          have HE2 : Hid _ := hE
          clear hE hc hs ham hmb hb hsz hi0 hj0 hi1 hj1 hk hdk hji hij
          obtain ⟨w3, w4, w5, w6⟩ := W
          go_wp2_with (go_at_call 65; refine HC.out.mono ?_; rintro e w2 ⟨rfl, n2, rfl⟩)
          have W4 : Hid _ := w4
          clear w3 w4 w5 w6
          go_roundg k1
          case measure => omega
          case rel =>
            obtain ⟨hi0, hj0, hi1, hj1, hk, hdk⟩ := HI.out
            have := HJ.out
            exact ⟨i, r, n2, _, rfl, by first | rfl | (rw [W4.out]), ⟨hi0, by omega, hi1, by omega, by omega, by rw [swpR_size]; exact hdk⟩, rfl, HE2⟩
end Go.Proofs.Ytimabnjdgdcmaaa.PApp
