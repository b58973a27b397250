/- slices.stableCmpFunc and SortStableFunc, walked at any length. -/
import Derived.Test.YtimabnjdgdcmaaaSrSymR
namespace Go.Proofs.Ytimabnjdgdcmaaa.PApp
open Go Go.Proofs Go.Shelf Go.RowKit Go.Lib Go.Sort Go.Proofs.YtimabnjdgdcmaaaW.PrintWords Go.Proofs.YtimabnjdgdcmaaaW.PrintLast Go.Proofs.YtimabnjdgdcmaaaW.PrintMore
set_option linter.unusedVariables false
set_option linter.unusedSimpArgs false
section
variable {α : Type} [Inhabited α]
theorem insInner_size (lt : α → α → Bool) (a : Nat) : ∀ j (d : Array α), (insInner lt a j d).size = d.size
  | 0, d => by rw [insInner]
  | j + 1, d => by
    rw [insInner]
    split
    · rw [insInner_size lt a j, size_swp]
    · rfl
theorem insOuter_size (lt : α → α → Bool) (a b : Nat) : ∀ (n i : Nat) (d : Array α), b - i = n → (insOuter lt a b i d).size = d.size
  | 0, i, d, h => by rw [insOuter, if_neg (by omega)]
  | n + 1, i, d, h => by rw [insOuter, if_pos (by omega), insOuter_size lt a b n (i + 1) _ (by omega), insInner_size]
theorem insSize (lt : α → α → Bool) (d : Array α) (a b : Nat) : (Sort.insertionSort lt d a b).size = d.size := insOuter_size lt a b _ _ _ rfl
end
theorem sym63 {α : Type} [Inhabited α] (enc : α → Value) (hO : OneCell enc) (cf : α → α → Int) (g : Nat) (cb : Array Value) (blk off cap : Nat) (d0 : Array α) (w : World)
    (eg : ∀ args w, (callFunc g args).run Try.prog w = .ok (.enter g args) w) (hcmp : CmpReads Try.prog g cb enc cf blk off d0.size w)
    (hH : Holds enc w blk off d0) (hsz : d0.size < 1152921504606846976) : ∀ (f a m b : Nat) (d : Array α) (n : Nat), a < m → m < b → b ≤ d0.size → b - a ≤ f → d.size = d0.size →
    Calls Try.prog 63 #[.slice (some ⟨blk, off, none⟩) d0.size cap, .int .i64 a, .int .i64 m, .int .i64 b, .func (.func g) #[] cb] (Wd enc w blk off d n) fun e w' =>
      e = .returned (.tuple #[]) ∧ ∃ n, w' = Wd enc w blk off (symF (ltOf cf) f a m b d) n := by
  intro f
  induction f with
  | zero => intro a m b d n h1 h2 h3 h4; omega
  | succ f ih =>
    intro a m b d n h1 h2 h3 h4 hs
    by_cases c1 : m = a + 1
    · exact sym63_up enc hO cf g cb blk off cap a m b f d0 d n w eg hcmp hH hs c1 h2 h3 hsz
    · by_cases c2 : b = m + 1
      · exact sym63_down enc hO cf g cb blk off cap a m b f d0 d n w eg hcmp hH hs (by omega) c2 h3 hsz
      · exact sym63_rec enc hO cf g cb blk off cap a m b f d0 d n w eg hcmp hH hs (by omega) (by omega) h3 hsz h4 ih
theorem reads_Wd {α : Type} [Inhabited α] {enc : α → Value} {cf : α → α → Int} {g : Nat} {cb : Array Value} {blk off size : Nat} {w : World} (hcmp : CmpReads Try.prog g cb enc cf blk off size w) (d : Array α) (hs : d.size = size) (m : Nat) :
    CmpReads Try.prog g cb enc cf blk off size (Wd enc w blk off d m) := by
  intro m' os dk hk x y
  have e : sortWorld enc (Wd enc w blk off d m) blk off m' dk os = sortWorld enc w blk off (m + m') dk os := by
    unfold sortWorld
    congr 1
    exact putRow_ahead_putRow enc w m m' blk off d dk (by omega)
  rw [e]
  exact hcmp (m + m') os dk hk x y
theorem insW {α : Type} [Inhabited α] (enc : α → Value) (hO : OneCell enc) (cf : α → α → Int) (g : Nat) (cb : Array Value) (blk off cap : Nat) (d0 : Array α) (w : World)
    (eg : ∀ args w, (callFunc g args).run Try.prog w = .ok (.enter g args) w) (hcmp : CmpReads Try.prog g cb enc cf blk off d0.size w)
    (hH : Holds enc w blk off d0) (hsz : d0.size < 1152921504606846976) (a b : Nat) (d : Array α) (n : Nat) (hab : a ≤ b) (hb : b ≤ d0.size) (hs : d.size = d0.size) :
    Calls Try.prog 62 #[.slice (some ⟨blk, off, none⟩) d0.size cap, .int .i64 a, .int .i64 b, .func (.func g) #[] cb] (Wd enc w blk off d n) fun e w' =>
      e = .returned (.tuple #[]) ∧ ∃ n, w' = Wd enc w blk off (Sort.insertionSort (ltOf cf) d a b) n := by
  have hc := ins62 enc hO cf g cb blk off cap a b d (Wd enc w blk off d n) eg (by rw [hs]; exact reads_Wd hcmp d hs n) (holds_putRow enc w blk off d0 d hH hs) hab (by omega) (by omega)
  rw [hs] at hc
  refine hc.mono ?_
  rintro e w' ⟨rfl, q, rfl⟩
  exact ⟨rfl, n + q, putRow_ahead_putRow enc w n q blk off d _ (insSize _ _ _ _)⟩
section
variable {α : Type} [Inhabited α]
def symA (lt : α → α → Bool) (d : Array α) (a m b : Nat) : Array α := symF lt (b - a) a m b d
/-- Blocks of 20, each sorted by itself: how far, and the row. -/
def blkF (lt : α → α → Bool) (n : Nat) : Nat → Nat → Array α → Nat × Array α
  | 0, a, d => (a, d)
  | f + 1, a, d => if a + 20 ≤ n then blkF lt n f (a + 20) (Sort.insertionSort lt d a (a + 20)) else (a, d)
/-- Neighbours of B elements each, merged. -/
def mrgF (lt : α → α → Bool) (n B : Nat) : Nat → Nat → Array α → Nat × Array α
  | 0, a, d => (a, d)
  | f + 1, a, d => if a + 2 * B ≤ n then mrgF lt n B f (a + 2 * B) (symA lt d a (a + B) (a + 2 * B)) else (a, d)
def mrgEnd (lt : α → α → Bool) (n B : Nat) (x : Nat × Array α) : Array α := if x.1 + B < n then symA lt x.2 x.1 (x.1 + B) n else x.2
def allF (lt : α → α → Bool) (n : Nat) : Nat → Nat → Array α → Array α
  | 0, _, d => d
  | f + 1, B, d => if B < n then allF lt n f (2 * B) (mrgEnd lt n B (mrgF lt n B (n + 1) 0 d)) else d
def stableA (lt : α → α → Bool) (d : Array α) : Array α :=
  let x := blkF lt d.size (d.size + 1) 0 d
  allF lt d.size (d.size + 1) 20 (Sort.insertionSort lt x.2 x.1 d.size)
theorem symA_size (lt : α → α → Bool) (d : Array α) (a m b : Nat) : (symA lt d a m b).size = d.size := symF_size _ _ _ _ _ _
theorem blkF_end (lt : α → α → Bool) (n f a : Nat) (d : Array α) (h : n < a + 20) : blkF lt n f a d = (a, d) := by
  cases f with
  | zero => rfl
  | succ f => rw [blkF, if_neg (by omega)]
theorem mrgF_end (lt : α → α → Bool) (n B f a : Nat) (d : Array α) (h : n < a + 2 * B) : mrgF lt n B f a d = (a, d) := by
  cases f with
  | zero => rfl
  | succ f => rw [mrgF, if_neg (by omega)]
theorem allF_end (lt : α → α → Bool) (n B f : Nat) (d : Array α) (h : ¬ B < n) : allF lt n f B d = d := by
  cases f with
  | zero => rfl
  | succ f => rw [allF, if_neg h]
end
theorem wrap2 (B C : Nat) (h : C = 2 * B) (hb : C < 4611686018427387904) : wrap64 (2 * (B : Int)) = (C : Int) := by unfold wrap64; omega
theorem wrap2' (B C : Nat) (h : C = 2 * B) (hb : C < 4611686018427387904) : wrap64 ((B : Int) * 2) = (C : Int) := by unfold wrap64; omega
theorem castLe {x y : Nat} (h : x ≤ y) : (x : Int) ≤ (y : Int) := by omega
set_option maxHeartbeats 8000000 in
set_option maxRecDepth 1000000 in
theorem stable59A {α : Type} [Inhabited α] (enc : α → Value) (hO : OneCell enc) (cf : α → α → Int) (g : Nat) (cb : Array Value) (blk off cap : Nat) (d0 : Array α) (w : World)
    (eg : ∀ args w, (callFunc g args).run Try.prog w = .ok (.enter g args) w) (hcmp : CmpReads Try.prog g cb enc cf blk off d0.size w)
    (hH : Holds enc w blk off d0) (hsz : d0.size < 1152921504606846976) :
    Calls Try.prog 59 #[.slice (some ⟨blk, off, none⟩) d0.size cap, .int .i64 d0.size, .func (.func g) #[] cb] w fun e w' =>
      e = .returned (.tuple #[]) ∧ ∃ n, w' = Wd enc w blk off (stableA (ltOf cf) d0) n := by
  have HI : Aside _ := insW enc hO cf g cb blk off cap d0 w eg hcmp hH hsz
  have HS : Aside _ := sym63 enc hO cf g cb blk off cap d0 w eg hcmp hH hsz
  have HST : Hid (w = Wd enc w blk off d0 0) := (putRow_self enc w blk off d0 hH).symm
  have HZ : Hid (d0.size < 1152921504606846976) := hsz
  clear hcmp hH hsz
  go_enter Try.func59, Try.ntmps59
  go_wp2
  go_loopg [7, 8] (d0.size + 1) (fun kq v7 v8 wr => ∃ (a b n : Nat) (dk : Array α), v7 = .int .i64 a ∧ v8 = .int .i64 b ∧ Hid (b = a + 20 ∧ a ≤ d0.size ∧ d0.size < a + kq ∧ dk.size = d0.size) ∧ wr = Wd enc w blk off dk n ∧ Hid (blkF (ltOf cf) d0.size kq a dk = blkF (ltOf cf) d0.size (d0.size + 1) 0 d0))
  case atStart => exact ⟨0, 20, 0, d0, rfl, rfl, ⟨by omega, by omega, by omega, rfl⟩, HST.out, rfl⟩
  case round =>
    obtain ⟨a, b, n, dk, rfl, rfl, HV, rfl, HE⟩ := hrel
    obtain ⟨v1, v2, v3, v4⟩ := HV.out
    have hz := HZ.out
    by_cases hb : b ≤ d0.size
    · cases gk with
      | zero => exact absurd v3 (by omega)
      | succ k1 =>
        have d1 : decide ((b : Int) ≤ (d0.size : Int)) = true := decide_eq_true (castLe hb)
        have d2 : decide (b ≤ d0.size) = true := decide_eq_true hb
        have hc := HI.out a b dk n (by omega) hb v4
        have hE := HE.out
        rw [blkF, if_pos (by omega), ← v1] at hE
        have HE2 : Hid _ := hE
        have HC := Aside0.mk hc
        obtain ⟨b2, hb2⟩ : ∃ b2, b2 = b + 20 := ⟨_, rfl⟩
        have HB2 : Hid (b2 = b + 20 ∧ b ≤ d0.size) := ⟨hb2, hb⟩
        have W := wrapB b 20 b2 hb2 (by omega)
        clear v1 v2 v3 v4 hz hb hE hc HE hb2
        go_wp2_with (go_at_call 62; (with_reducible refine HC.out.mono ?_); rintro e w2 ⟨rfl, n2, rfl⟩)
        have W' : Hid _ := W
        clear W
        go_roundg k1
        case measure => omega
        case rel =>
          obtain ⟨v1, v2, v3, v4⟩ := HV.out
          obtain ⟨u1, u2⟩ := HB2.out
          exact ⟨b, b2, n2, _, rfl, by first | rfl | rw [← W'.out]; rfl, ⟨u1, u2, by omega, by rw [insSize]; exact v4⟩, rfl, HE2⟩
    · have d1 : decide ((b : Int) ≤ (d0.size : Int)) = false := decide_eq_false (fun h => hb (by omega))
      have d2 : decide (b ≤ d0.size) = false := decide_eq_false hb
      have hE := HE.out
      rw [blkF_end _ _ _ _ _ (by omega)] at hE
      have hc := HI.out a d0.size dk n v2 (Nat.le_refl _) v4
      have HC := Aside0.mk hc
      have HR : Hid (stableA (ltOf cf) d0 = allF (ltOf cf) d0.size (d0.size + 1) 20 (Sort.insertionSort (ltOf cf) dk a d0.size)) := by
        show _ = _
        unfold stableA
        rw [← hE]
      have HN : Hid ((Sort.insertionSort (ltOf cf) dk a d0.size).size = d0.size) := by show _ = _; rw [insSize]; exact v4
      clear v1 v2 v3 v4 hz hb hE hc HE HV
      go_wp2_with (go_at_call 62; (with_reducible refine HC.out.mono ?_); rintro e w2 ⟨rfl, n2, rfl⟩)
      clear HC
      generalize Sort.insertionSort (ltOf cf) dk a d0.size = dd at HR HN ⊢
      go_loopg [6, 7, 8, 9] (d0.size + 1) (fun kq v6 v7 v8 v9 wr => ∃ (B n : Nat) (dk : Array α), v6 = .int .i64 B ∧ Hid (20 ≤ B ∧ d0.size < B + kq ∧ B < 2305843009213693952 ∧ dk.size = d0.size) ∧ wr = Wd enc w blk off dk n ∧ Hid (allF (ltOf cf) d0.size kq B dk = stableA (ltOf cf) d0))
      case atStart => exact ⟨20, n2, dd, rfl, ⟨by omega, by omega, by omega, HN.out⟩, rfl, HR.out.symm⟩
      case round =>
        clear HR HN
        obtain ⟨B, n3, dk3, rfl, HV, rfl, HE⟩ := hrel
        obtain ⟨v1, v2, v3, v4⟩ := HV.out
        have hz := HZ.out
        by_cases hB : B < d0.size
        · cases gk with
          | zero => exact absurd v2 (by omega)
          | succ k1 =>
            have d1 : decide ((B : Int) < (d0.size : Int)) = true := decide_eq_true (castLt hB)
            have d2 : decide (B < d0.size) = true := decide_eq_true hB
            obtain ⟨C, hC⟩ : ∃ C, C = 2 * B := ⟨_, rfl⟩
            have hE := HE.out
            rw [allF, if_pos hB, ← hC] at hE
            have HE2 : Hid _ := hE
            have HCB : Hid (C = 2 * B ∧ B < d0.size ∧ 20 ≤ B ∧ C < 4611686018427387904) := ⟨hC, hB, v1, by omega⟩
            have HK : Hid (d0.size < C + k1) := by show d0.size < C + k1; omega
            have HN : Hid (dk3.size = d0.size) := v4
            have W2 : Hid (wrap64 (2 * (B : Int)) = (C : Int)) := wrap2 B C hC (by omega)
            have W2' : Hid (wrap64 ((B : Int) * 2) = (C : Int)) := wrap2' B C hC (by omega)
            clear v1 v2 v3 v4 hz hB hC hE HE HV
            go_wp2
            go_loopg [7, 8] (d0.size + 1) (fun kq v7 v8 wr => ∃ (a b n : Nat) (dk : Array α), v7 = .int .i64 a ∧ v8 = .int .i64 b ∧ Hid (b = a + C ∧ a ≤ d0.size ∧ d0.size < a + kq ∧ dk.size = d0.size) ∧ wr = Wd enc w blk off dk n ∧ Hid (mrgF (ltOf cf) d0.size B kq a dk = mrgF (ltOf cf) d0.size B (d0.size + 1) 0 dk3))
            case atStart => exact ⟨0, C, n3, dk3, rfl, by rw [W2.out], ⟨by omega, by omega, by omega, HN.out⟩, rfl, rfl⟩
            case round =>
              obtain ⟨a, b, n4, dk4, rfl, rfl, HV4, rfl, HE4⟩ := hrel
              obtain ⟨u1, u2, u3, u4⟩ := HV4.out
              obtain ⟨c1, c2, c3, c4⟩ := HCB.out
              have hz := HZ.out
              obtain ⟨m, hm⟩ : ∃ m, m = a + B := ⟨_, rfl⟩
              have W5 : Hid (wrap64 ((a : Int) + (B : Int)) = (m : Int)) := wrapB a B m hm (by omega)
              by_cases hb : b ≤ d0.size
              · cases gk with
                | zero => exact absurd u3 (by omega)
                | succ kk =>
                  have d3 : decide ((b : Int) ≤ (d0.size : Int)) = true := decide_eq_true (castLe hb)
                  have d4 : decide (b ≤ d0.size) = true := decide_eq_true hb
                  have hc := HS.out (b - a) a m b dk4 n4 (by omega) (by omega) hb (Nat.le_refl _) u4
                  have HC := Aside0.mk hc
                  have hE := HE4.out
                  rw [mrgF, if_pos (by omega), ← c1, ← u1, ← hm] at hE
                  have HE5 : Hid _ := hE
                  obtain ⟨b2, hb2⟩ : ∃ b2, b2 = b + C := ⟨_, rfl⟩
                  have HB2 : Hid (b2 = b + C ∧ b ≤ d0.size ∧ b = a + C ∧ 20 ≤ C) := ⟨hb2, hb, u1, by omega⟩
                  have W6 : Hid (wrap64 ((b : Int) + (C : Int)) = (b2 : Int)) := wrapB b C b2 hb2 (by omega)
                  clear u1 u2 u3 u4 c1 c2 c3 c4 hz hm hb hc hE HE4 hb2
                  have w5 := W5.out
                  go_wp2_with (go_at_call 63; (with_reducible refine HC.out.mono ?_); rintro e w2 ⟨rfl, n5, rfl⟩)
                  clear w5
                  go_roundg kk
                  case measure => omega
                  case rel =>
                    obtain ⟨u1, u2, u3, u4⟩ := HV4.out
                    obtain ⟨x1, x2, x3, x4⟩ := HB2.out
                    exact ⟨b, b2, n5, _, rfl, by rw [W2.out, W6.out], ⟨x1, x2, by omega, by rw [symF_size]; exact u4⟩, rfl, HE5⟩
              · have d3 : decide ((b : Int) ≤ (d0.size : Int)) = false := decide_eq_false (fun h => hb (by omega))
                have d4 : decide (b ≤ d0.size) = false := decide_eq_false hb
                have hE := HE4.out
                rw [mrgF_end _ _ _ _ _ _ (by omega)] at hE
                by_cases hmn : m < d0.size
                · have d5 : decide ((m : Int) < (d0.size : Int)) = true := decide_eq_true (castLt hmn)
                  have d6 : decide (m < d0.size) = true := decide_eq_true hmn
                  have hc := HS.out (d0.size - a) a m d0.size dk4 n4 (by omega) hmn (Nat.le_refl _) (Nat.le_refl _) u4
                  have HC := Aside0.mk hc
                  have HF : Hid (mrgEnd (ltOf cf) d0.size B (mrgF (ltOf cf) d0.size B (d0.size + 1) 0 dk3) = symF (ltOf cf) (d0.size - a) a m d0.size dk4) := by
                    show _ = _
                    unfold mrgEnd
                    rw [← hE]
                    dsimp only
                    rw [← hm, if_pos hmn]
                    rfl
                  have HN4 : Hid (dk4.size = d0.size) := u4
                  clear u1 u2 u3 u4 c1 c2 c3 c4 hz hm hb hmn hc hE HE4 HV4
                  have w5 := W5.out
                  go_wp2_with (go_at_call 63; (with_reducible refine HC.out.mono ?_); rintro e w2 ⟨rfl, n5, rfl⟩)
                  clear w5
                  go_roundg k1
                  case measure => omega
                  case rel =>
                    obtain ⟨c1, c2, c3, c4⟩ := HCB.out
                    have hz := HZ.out
                    have hk := HK.out
                    exact ⟨C, n5, _, by rw [W2'.out], ⟨by omega, hk, by omega, by rw [symF_size]; exact HN4.out⟩, rfl, by rw [← HF.out]; exact HE2⟩
                · have d5 : decide ((m : Int) < (d0.size : Int)) = false := decide_eq_false (fun h => hmn (by omega))
                  have d6 : decide (m < d0.size) = false := decide_eq_false hmn
                  have HF : Hid (mrgEnd (ltOf cf) d0.size B (mrgF (ltOf cf) d0.size B (d0.size + 1) 0 dk3) = dk4) := by
                    show _ = _
                    unfold mrgEnd
                    rw [← hE]
                    dsimp only
                    rw [← hm, if_neg hmn]
                  have HN4 : Hid (dk4.size = d0.size) := u4
                  clear u1 u2 u3 u4 c1 c2 c3 c4 hz hm hb hmn hE HE4 HV4
                  have w5 := W5.out
                  go_wp2
                  clear w5
                  go_roundg k1
                  case measure => omega
                  case rel =>
                    obtain ⟨c1, c2, c3, c4⟩ := HCB.out
                    have hz := HZ.out
                    have hk := HK.out
                    exact ⟨C, n4, dk4, by rw [W2'.out], ⟨by omega, hk, by omega, HN4.out⟩, rfl, by rw [← HF.out]; exact HE2⟩
        · have d1 : decide ((B : Int) < (d0.size : Int)) = false := decide_eq_false (fun h => hB (by omega))
          have d2 : decide (B < d0.size) = false := decide_eq_false hB
          have hE := HE.out
          rw [allF_end _ _ _ _ _ hB] at hE
          have HF : Hid (stableA (ltOf cf) d0 = dk3) := hE.symm
          clear v1 v2 v3 v4 hz hB hE HE HV
          go_wp2
          go_end0
          exact ⟨rfl, n3, by rw [HF.out]⟩
set_option maxHeartbeats 4000000 in
theorem sort54A {α : Type} [Inhabited α] (enc : α → Value) (hO : OneCell enc) (cf : α → α → Int) (g : Nat) (cb : Array Value) (blk off cap : Nat) (d0 : Array α) (w : World)
    (eg : ∀ args w, (callFunc g args).run Try.prog w = .ok (.enter g args) w) (hcmp : CmpReads Try.prog g cb enc cf blk off d0.size w)
    (hH : Holds enc w blk off d0) (hsz : d0.size < 1152921504606846976) :
    Calls Try.prog 54 #[.slice (some ⟨blk, off, none⟩) d0.size cap, .func (.func g) #[] cb] w fun e w' =>
      e = .returned (.tuple #[]) ∧ ∃ n, w' = (putRow enc w blk off (stableA (ltOf cf) d0)).drewN n := by
  have HC := Aside0.mk (stable59A enc hO cf g cb blk off cap d0 w eg hcmp hH hsz)
  clear hcmp hH hsz
  go_enter Try.func54, Try.ntmps54
  go_wp2_with (go_at_call 59; refine HC.out.mono ?_; rintro e w1 ⟨rfl, n, rfl⟩)
  go_end0
  exact ⟨rfl, n, rfl⟩
end Go.Proofs.Ytimabnjdgdcmaaa.PApp
