/- slices.symMergeCmpFunc, the second case, walked. -/
import Derived.Test.YtimabnjdgdcmaaaSrSym
namespace Go.Proofs.Ytimabnjdgdcmaaa.PApp
open Go Go.Proofs Go.Shelf Go.RowKit Go.Lib Go.Sort Go.Proofs.YtimabnjdgdcmaaaW.PrintWords Go.Proofs.YtimabnjdgdcmaaaW.PrintLast Go.Proofs.YtimabnjdgdcmaaaW.PrintMore
set_option linter.unusedVariables false
set_option linter.unusedSimpArgs false
set_option maxHeartbeats 8000000 in
set_option maxRecDepth 1000000 in
theorem sym63_down {α : Type} [Inhabited α] (enc : α → Value) (hO : OneCell enc) (cf : α → α → Int) (g : Nat) (cb : Array Value) (blk off cap a m b f : Nat) (d0 d : Array α) (m0 : Nat) (w : World)
    (eg : ∀ args w, (callFunc g args).run Try.prog w = .ok (.enter g args) w) (hcmp : CmpReads Try.prog g cb enc cf blk off d0.size w)
    (hH : Holds enc w blk off d0) (hs : d.size = d0.size) (ham : a + 1 < m) (hmb : b = m + 1) (hb : b ≤ d0.size) (hsz : d0.size < 1152921504606846976) :
    Calls Try.prog 63 #[.slice (some ⟨blk, off, none⟩) d0.size cap, .int .i64 a, .int .i64 m, .int .i64 b, .func (.func g) #[] cb] (Wd enc w blk off d m0) fun e w' =>
      e = .returned (.tuple #[]) ∧ ∃ n, w' = Wd enc w blk off (symF (ltOf cf) (f + 1) a m b d) n := by
  have hcl0 := hO.cells
  simp only [Value.cells] at hcl0
  have hst := hO.store Try.prog
  obtain ⟨x, hx⟩ : ∃ x, m = x + a := ⟨m - a, by omega⟩
  have W : wrap64 ((m : Int) - (a : Int)) = (x : Int) ∧ wrap64 ((b : Int) - (m : Int)) = 1 := ⟨wrapD m a x hx (by omega), by unfold wrap64; omega⟩
  have hx1 : ((x : Int) == 1) = false := beq_eq_false_iff_ne.mpr (by clear W; omega)
  have HR : Hid (symF (ltOf cf) (f + 1) a m b d = downF (m - bsP (fun h => !ltOf cf d[m]! d[h]!) (m - a) a m) m d) := by
    show _ = _
    clear W
    rw [symF, if_neg (by omega), if_pos (by omega)]
  have HH : Hid (Holds enc w blk off d0) := hH
  have HC : Aside (CmpReads Try.prog g cb enc cf blk off d0.size w) := hcmp
  have HB : Hid (d.size = d0.size ∧ a + 1 < m ∧ b = m + 1 ∧ b ≤ d0.size ∧ d0.size < 1152921504606846976) := ⟨hs, ham, hmb, hb, hsz⟩
  clear hcmp hH hs ham hmb hb hsz hx
  obtain ⟨hc1, hc2⟩ := W
  go_enter Try.func63, Try.ntmps63
  go_wp2
  clear hc1 hc2 hx1
  go_loopg [14, 15, 16] (m - a) (fun kq v14 v15 v16 wr => ∃ (i j n : Nat), v14 = .int .i64 i ∧ v15 = .int .i64 j ∧ Hid (a ≤ i ∧ i ≤ j ∧ j ≤ m ∧ j - i ≤ kq) ∧ wr = Wd enc w blk off d n ∧ Hid (bsP (fun h => !ltOf cf d[m]! d[h]!) kq i j = bsP (fun h => !ltOf cf d[m]! d[h]!) (m - a) a m))
  case atStart =>
    obtain ⟨hs, ham, hmb, hb, hsz⟩ := HB.out
    exact ⟨a, m, m0, rfl, rfl, ⟨Nat.le_refl _, by omega, Nat.le_refl _, Nat.le_refl _⟩, rfl, rfl⟩
  case round =>
    obtain ⟨i, j, n, rfl, rfl, HI, rfl, HE⟩ := hrel
    obtain ⟨hs, ham, hmb, hb, hsz⟩ := HB.out
    obtain ⟨i0, i1, i2, i3⟩ := HI.out
    by_cases hij : i < j
    · cases gk with
      | zero => exact absurd i3 (by omega)
      | succ k1 =>
        have d1 : decide ((i : Int) < (j : Int)) = true := decide_eq_true (by omega)
        have d2 : decide (i < j) = true := decide_eq_true hij
        obtain ⟨h, hh⟩ : ∃ h, h = (i + j) / 2 := ⟨_, rfl⟩
        have hhb : h < d0.size := by omega
        have hab : m < d0.size := by omega
        obtain ⟨ch, _⟩ := cell_Wd (enc := enc) (off := off) HH.out hs n h hhb
        obtain ⟨ca, _⟩ := cell_Wd (enc := enc) (off := off) HH.out hs n m hab
        have hE := HE.out
        rw [bsP, if_pos hij, ← hh] at hE
        obtain ⟨xh, hxh⟩ : ∃ x, d[h]! = x := ⟨_, rfl⟩
        obtain ⟨xa, hxa⟩ : ∃ x, d[m]! = x := ⟨_, rfl⟩
        have hPv : ltOf cf d[m]! d[h]! = decide (cf xa xh < 0) := by rw [← hxh, ← hxa]; rfl
        rw [hPv] at hE
        rw [hxh] at ch
        rw [hxa] at ca
        have hc := cmp_Wd HC.out hs n xa xh
        have z1 := castLt hhb
        have z2 := castLt hab
        have y1 := castNn h
        have y2 := castNn m
        have hq1 : i + j < 4611686018427387904 := by omega
        have hq2 : h + 1 < 4611686018427387904 := by omega
        have W := halfA i j h hh hq1
        have HP : Hid (h = (i + j) / 2 ∧ i < j ∧ h + 1 < 4611686018427387904) := ⟨hh, hij, hq2⟩
        have HE1 : Hid _ := hE
        clear hs ham hmb hb hsz i0 i1 i2 i3 hij hh hhb hab hxh hxa hq1 hq2 hE hPv HE
        generalize hwq : Wd enc w blk off d n = wq at ch ca hc ⊢
        have HW : Hid (Wd enc w blk off d n = wq) := hwq
        clear hwq
        by_cases hlv : ¬ cf xa xh < 0
        · have hE := HE1.out
          rw [if_pos (by rw [decide_eq_false hlv]; rfl)] at hE
          have hd0 : (!decide (cf xa xh < 0)) = true := by rw [decide_eq_false hlv]; rfl
          have HE2 : Hid _ := hE
          clear hE HE1
          go_wp2_with fail
          try rw [W]
          clear W
          go_quiet (first | (go_at_fn g; refine Calls.quiet_of (hc _)))
          go_wp2
          go_roundg k1
          case measure => omega
          case rel =>
            obtain ⟨e1, e2, e3⟩ := HP.out
            obtain ⟨i0, i1, i2, i3⟩ := HI.out
            exact ⟨h + 1, j, n + nq, by rw [wrS h (by omega)], rfl, ⟨by omega, by omega, i2, by omega⟩, by rw [← HW.out, Wd_drewN], HE2⟩
        · have hE := HE1.out
          replace hlv := Decidable.not_not.mp hlv
          rw [if_neg (by rw [decide_eq_true hlv]; decide)] at hE
          have hd0 : (!decide (cf xa xh < 0)) = false := by rw [decide_eq_true hlv]; rfl
          have HE2 : Hid _ := hE
          clear hE HE1
          go_wp2_with fail
          try rw [W]
          clear W
          go_quiet (first | (go_at_fn g; refine Calls.quiet_of (hc _)))
          go_wp2
          go_roundg k1
          case measure => omega
          case rel =>
            obtain ⟨e1, e2, e3⟩ := HP.out
            obtain ⟨i0, i1, i2, i3⟩ := HI.out
            exact ⟨i, h, n + nq, rfl, rfl, ⟨by omega, by omega, by omega, by omega⟩, by rw [← HW.out, Wd_drewN], HE2⟩
    · have d1 : decide ((i : Int) < (j : Int)) = false := decide_eq_false (by omega)
      have d2 : decide (i < j) = false := decide_eq_false hij
      obtain rfl : i = j := by omega
      have hE := HE.out
      rw [bsP_end] at hE
      have hR := HR.out
      rw [← hE] at hR
      have HR2 : Hid _ := hR
      have HI2 : Hid (a ≤ i ∧ i ≤ m) := ⟨i0, i2⟩
      clear hs ham hmb hb hsz i0 i1 i2 i3 hij hE hR HE HI HR
      go_wp2
      go_loopg [17] (m - i + 1) (fun kq v17 wr => ∃ (k n : Nat) (dk : Array α), v17 = .int .i64 k ∧ Hid (i ≤ k ∧ k ≤ m ∧ k + 1 = i + kq ∧ dk.size = d0.size) ∧ wr = Wd enc w blk off dk n ∧ Hid (downF (k - i) k dk = downF (m - i) m d))
      case atStart =>
        obtain ⟨hs, ham, hmb, hb, hsz⟩ := HB.out
        obtain ⟨j0, j1⟩ := HI2.out
        exact ⟨m, n, d, rfl, ⟨j1, Nat.le_refl _, by omega, hs⟩, rfl, rfl⟩
      case round =>
        obtain ⟨k, n2, dk, rfl, HI3, rfl, HE3⟩ := hrel
        obtain ⟨hs, ham, hmb, hb, hsz⟩ := HB.out
        obtain ⟨j0, j1⟩ := HI2.out
        obtain ⟨k0, k1', k2, k3⟩ := HI3.out
        by_cases hke : i < k
        · cases gk with
          | zero => exact absurd k2 (by omega)
          | succ kk =>
            have d3 : decide ((i : Int) < (k : Int)) = true := decide_eq_true (by omega)
            have d4 : decide (i < k) = true := decide_eq_true hke
            obtain ⟨q, hq⟩ : ∃ q, k = q + 1 := ⟨k - 1, by omega⟩
            have hkz : k < d0.size := by omega
            have hqz : q < d0.size := by omega
            obtain ⟨ck, fk⟩ := cell_Wd (enc := enc) (off := off) HH.out k3 n2 k hkz
            obtain ⟨cq, fq⟩ := cell_Wd (enc := enc) (off := off) HH.out k3 n2 q hqz
            obtain ⟨xk, hxk⟩ : ∃ x, dk[k]! = x := ⟨_, rfl⟩
            obtain ⟨xq, hxq⟩ : ∃ x, dk[q]! = x := ⟨_, rfl⟩
            rw [hxk] at ck
            rw [hxq] at cq
            have z1 := castLt hkz
            have z2 := castLt hqz
            have y1 := castNn k
            have y2 := castNn q
            have n1 : (off + k = off + q) = False := eq_false (by omega)
            have n2' : (off + q = off + k) = False := eq_false (by omega)
            have n3 : (k = q) = False := eq_false (by omega)
            have n4 : (q = k) = False := eq_false (by omega)
            have hkb : k < 4611686018427387904 := by omega
            have hE := HE3.out
            rw [show k - i = (q - i) + 1 by omega, downF, show k - 1 = q by omega] at hE
            have HE4 : Hid (downF (q - i) q (swp dk k q) = downF (m - i) m d) := hE
            have HP3 : Hid (k = q + 1 ∧ i < k ∧ dk[k]! = xk ∧ dk[q]! = xq ∧ k < dk.size ∧ q < dk.size ∧ k < 4611686018427387904) := ⟨hq, hke, hxk, hxq, by omega, by omega, hkb⟩
            have V2 := wrPA k q hq hkb
            clear hs ham hmb hb hsz j0 j1 k0 k1' k2 k3 hke hq hkz hqz hxk hxq hE HE3 hkb
            generalize hwq : Wd enc w blk off dk n2 = wq at ck cq fk fq ⊢
            have HW : Hid (Wd enc w blk off dk n2 = wq) := hwq
            clear hwq
            go_wp2_with fail
            go_big_region
            all_goals go_wp2
            clear V2
            go_roundg kk
            case measure => omega
            case rel =>
              obtain ⟨p1, p2, p3, p4, p5, p6, p7⟩ := HP3.out
              obtain ⟨k0, k1', k2, k3⟩ := HI3.out
              exact ⟨q, n2 + 1, swp dk k q, by first | rw [wrP k q p1 p7] | rfl, ⟨by omega, by omega, by omega, by rw [size_swp]; exact k3⟩, by rw [← HW.out, ← p3, ← p4]; exact swap_worldC enc w blk off dk n2 k q p5 p6, HE4⟩
        · have d3 : decide ((i : Int) < (k : Int)) = false := decide_eq_false (by omega)
          have d4 : decide (i < k) = false := decide_eq_false hke
          have hE := HE3.out
          rw [show k - i = 0 by omega] at hE
          have HF : Hid (symF (ltOf cf) (f + 1) a m b d = dk) := by show _ = _; rw [HR2.out, ← hE]; rfl
          clear hs ham hmb hb hsz j0 j1 k0 k1' k2 k3 hke hE HE3
          go_wp2
          (try simp only [Exit.inBlock, Exit.then])
          refine bodyPost_ret (results_none rfl _ _ _) rfl ?_
          exact ⟨rfl, n2, by rw [HF.out]⟩
end Go.Proofs.Ytimabnjdgdcmaaa.PApp
