/- slices.symMergeCmpFunc, the third case, walked. -/
import Derived.Test.YtimabnjdgdcmaaaSrSymD
namespace Go.Proofs.Ytimabnjdgdcmaaa.PApp
open Go Go.Proofs Go.Shelf Go.RowKit Go.Lib Go.Sort Go.Proofs.YtimabnjdgdcmaaaW.PrintWords Go.Proofs.YtimabnjdgdcmaaaW.PrintLast Go.Proofs.YtimabnjdgdcmaaaW.PrintMore
set_option linter.unusedVariables false
set_option linter.unusedSimpArgs false
set_option maxHeartbeats 8000000 in
set_option maxRecDepth 1000000 in
theorem sym63_rec {α : Type} [Inhabited α] (enc : α → Value) (hO : OneCell enc) (cf : α → α → Int) (g : Nat) (cb : Array Value) (blk off cap a m b f : Nat) (d0 d : Array α) (m0 : Nat) (w : World)
    (eg : ∀ args w, (callFunc g args).run Try.prog w = .ok (.enter g args) w) (hcmp : CmpReads Try.prog g cb enc cf blk off d0.size w)
    (hH : Holds enc w blk off d0) (hs : d.size = d0.size) (ham : a + 1 < m) (hmb : m + 1 < b) (hb : b ≤ d0.size) (hsz : d0.size < 1152921504606846976) (hf : b - a ≤ f + 1)
    (IH : ∀ (a m b : Nat) (d : Array α) (n : Nat), a < m → m < b → b ≤ d0.size → b - a ≤ f → d.size = d0.size →
      Calls Try.prog 63 #[.slice (some ⟨blk, off, none⟩) d0.size cap, .int .i64 a, .int .i64 m, .int .i64 b, .func (.func g) #[] cb] (Wd enc w blk off d n) fun e w' =>
        e = .returned (.tuple #[]) ∧ ∃ n, w' = Wd enc w blk off (symF (ltOf cf) f a m b d) n) :
    Calls Try.prog 63 #[.slice (some ⟨blk, off, none⟩) d0.size cap, .int .i64 a, .int .i64 m, .int .i64 b, .func (.func g) #[] cb] (Wd enc w blk off d m0) fun e w' =>
      e = .returned (.tuple #[]) ∧ ∃ n, w' = Wd enc w blk off (symF (ltOf cf) (f + 1) a m b d) n := by
  have hcl0 := hO.cells
  simp only [Value.cells] at hcl0
  have hst := hO.store Try.prog
  obtain ⟨x, hx⟩ : ∃ x, m = x + a := ⟨m - a, by omega⟩
  obtain ⟨y, hy⟩ : ∃ y, b = y + m := ⟨b - m, by omega⟩
  obtain ⟨mid, hmid⟩ : ∃ mid, mid = (a + b) / 2 := ⟨_, rfl⟩
  obtain ⟨nn, hnn⟩ : ∃ nn, nn = mid + m := ⟨_, rfl⟩
  obtain ⟨p, hp⟩ : ∃ p, nn = p + 1 := ⟨nn - 1, by omega⟩
  obtain ⟨s0, hs0⟩ : ∃ s0, s0 = if mid < m then nn - b else a := ⟨_, rfl⟩
  obtain ⟨r0, hr0⟩ : ∃ r0, r0 = if mid < m then mid else m := ⟨_, rfl⟩
  have hx1 : ((x : Int) == 1) = false := beq_eq_false_iff_ne.mpr (by omega)
  have hy1 : ((y : Int) == 1) = false := beq_eq_false_iff_ne.mpr (by omega)
  obtain ⟨start, hstart⟩ : ∃ s, s = bsP (fun c => !ltOf cf d[p - c]! d[c]!) (r0 - s0) s0 r0 := ⟨_, rfl⟩
  have hsr : s0 ≤ r0 ∧ a ≤ s0 ∧ r0 ≤ m ∧ r0 ≤ mid ∧ nn ≤ s0 + b ∧ nn ≤ p + 1 := by
    by_cases h : mid < m
    · rw [if_pos h] at hs0 hr0; omega
    · rw [if_neg h] at hs0 hr0; omega
  have hst2 := bsP_range (fun c => !ltOf cf d[p - c]! d[c]!) (r0 - s0) s0 r0 hsr.1
  rw [← hstart] at hst2
  obtain ⟨en, hen⟩ : ∃ en, nn = en + start := ⟨nn - start, by omega⟩
  obtain ⟨dd1, hdd1⟩ : ∃ dd, dd = if start < m ∧ m < en then rotA d start m en else d := ⟨_, rfl⟩
  obtain ⟨dd2, hdd2⟩ : ∃ dd, dd = if a < start ∧ start < mid then symF (ltOf cf) f a start mid dd1 else dd1 := ⟨_, rfl⟩
  have HR : Hid (symF (ltOf cf) (f + 1) a m b d = if mid < en ∧ en < b then symF (ltOf cf) f mid en b dd2 else dd2) := by
    show _ = _
    rw [symF, if_neg (by omega), if_neg (by omega)]
    dsimp only
    rw [← hmid, ← hnn, ← hs0, ← hr0, show nn - 1 = p by omega, ← hstart, show nn - start = en by omega, ← hdd1, ← hdd2]
  have W : wrap64 ((m : Int) - (a : Int)) = (x : Int) ∧ wrap64 ((b : Int) - (m : Int)) = (y : Int) := ⟨wrapD m a x hx (by omega), wrapD b m y hy (by omega)⟩
  have WM : Hid (wrap64 (IntKind.u64.wrap (wrap64 ((a : Int) + (b : Int))) / 2) = (mid : Int)) := halfA a b mid hmid (by clear W; omega)
  have WN : Hid (wrap64 ((mid : Int) + (m : Int)) = (nn : Int)) := wrapB mid m nn hnn (by clear W; omega)
  have WP : Hid (wrap64 ((nn : Int) - 1) = (p : Int)) := wrP nn p hp (by clear W; omega)
  have WE : Hid (wrap64 ((nn : Int) - (start : Int)) = (en : Int)) := wrapD nn start en hen (by clear W; omega)
  have HH : Hid (Holds enc w blk off d0) := hH
  have HC : Aside (CmpReads Try.prog g cb enc cf blk off d0.size w) := hcmp
  have HIH : Aside _ := IH
  have HB : Hid (d.size = d0.size ∧ a + 1 < m ∧ m + 1 < b ∧ b ≤ d0.size ∧ d0.size < 1152921504606846976 ∧ b - a ≤ f + 1) := ⟨hs, ham, hmb, hb, hsz, hf⟩
  have HV : Hid (mid = (a + b) / 2 ∧ nn = mid + m ∧ nn = p + 1 ∧ nn = en + start ∧ s0 ≤ start ∧ start ≤ r0) := ⟨hmid, hnn, hp, hen, hst2.1, hst2.2⟩
  have HS : Hid (s0 ≤ r0 ∧ a ≤ s0 ∧ r0 ≤ m ∧ r0 ≤ mid ∧ nn ≤ s0 + b) := ⟨hsr.1, hsr.2.1, hsr.2.2.1, hsr.2.2.2.1, hsr.2.2.2.2.1⟩
  have HS0 : Hid (s0 = if mid < m then nn - b else a) := hs0
  have HR0 : Hid (r0 = if mid < m then mid else m) := hr0
  have HST : Hid (start = bsP (fun c => !ltOf cf d[p - c]! d[c]!) (r0 - s0) s0 r0) := hstart
  have HD1 : Hid (dd1 = if start < m ∧ m < en then rotA d start m en else d) := hdd1
  have HD2 : Hid (dd2 = if a < start ∧ start < mid then symF (ltOf cf) f a start mid dd1 else dd1) := hdd2
  clear IH hcmp hH hs ham hmb hb hsz hf hx hy hmid hnn hp hs0 hr0 hstart hsr hst2 hen hdd1 hdd2
  obtain ⟨hc1, hc2⟩ := W
  go_enter Try.func63, Try.ntmps63
  go_upto_region 25 with (fail)
  (try rw [WM.out])
  clear hc1 hc2 hx1 hy1
  go_upto_region 27 with (fail)
  (try rw [WN.out])
  go_upto_if 140 with (fail)
  go_cut [20, 21] (fun v20 v21 wc => v20 = .int .i64 s0 ∧ v21 = .int .i64 r0 ∧ wc = Wd enc w blk off d m0)
  case first =>
    by_cases hmm : mid < m
    · have d1 : decide ((mid : Int) < (m : Int)) = true := decide_eq_true (by omega)
      have d2 : decide (mid < m) = true := decide_eq_true hmm
      have hs0 := HS0.out
      have hr0 := HR0.out
      rw [if_pos hmm] at hs0 hr0
      have W3 : wrap64 ((nn : Int) - (b : Int)) = (s0 : Int) := wrapD nn b s0 (by obtain ⟨q1, q2, q3, q4, q5, q6⟩ := HV.out; have := HB.out; omega) (by obtain ⟨q1, q2, q3, q4, q5, q6⟩ := HV.out; have := HB.out; omega)
      have HM : Hid (r0 = mid) := hr0
      clear hs0 hr0 hmm
      (first | rw [d1] | rw [d2])
      go_wp2
      go_meet
      case rel => exact ⟨by first | rfl | rw [W3], by rw [HM.out], rfl⟩
    · have d1 : decide ((mid : Int) < (m : Int)) = false := decide_eq_false (by omega)
      have d2 : decide (mid < m) = false := decide_eq_false hmm
      have hs0 := HS0.out
      have hr0 := HR0.out
      rw [if_neg hmm] at hs0 hr0
      have HM : Hid (s0 = a ∧ r0 = m) := ⟨hs0, hr0⟩
      clear hs0 hr0 hmm
      (first | rw [d1] | rw [d2])
      go_wp2
      go_meet
      case rel => exact ⟨by rw [HM.out.1], by rw [HM.out.2], rfl⟩
  case rest =>
    obtain ⟨rfl, rfl, rfl⟩ := hcut
    go_upto_region 33 with (fail)
    (try rw [WP.out])
    go_loopg [20, 21, 23] (r0 - s0) (fun kq v20 v21 v23 wr => ∃ (i j n : Nat), v20 = .int .i64 i ∧ v21 = .int .i64 j ∧ Hid (s0 ≤ i ∧ i ≤ j ∧ j ≤ r0 ∧ j - i ≤ kq) ∧ wr = Wd enc w blk off d n ∧ Hid (bsP (fun c => !ltOf cf d[p - c]! d[c]!) kq i j = start))
    case atStart => exact ⟨s0, r0, m0, rfl, rfl, ⟨Nat.le_refl _, HS.out.1, Nat.le_refl _, Nat.le_refl _⟩, rfl, HST.out.symm⟩
    case round =>
      obtain ⟨i, j, n, rfl, rfl, HI, rfl, HE⟩ := hrel
      obtain ⟨hs, ham, hmb, hb, hsz, hf⟩ := HB.out
      obtain ⟨q1, q2, q3, q4, q5, q6⟩ := HV.out
      obtain ⟨g1, g2, g3, g4, g5⟩ := HS.out
      obtain ⟨i0, i1, i2, i3⟩ := HI.out
      by_cases hij : i < j
      · cases gk with
        | zero => exact absurd i3 (by omega)
        | succ k1 =>
          have d1 : decide ((i : Int) < (j : Int)) = true := decide_eq_true (by omega)
          have d2 : decide (i < j) = true := decide_eq_true hij
          obtain ⟨h, hh⟩ : ∃ h, h = (i + j) / 2 := ⟨_, rfl⟩
          obtain ⟨t, htp⟩ : ∃ t, p = t + h := ⟨p - h, by omega⟩
          have hhb : h < d0.size := by omega
          have hab : t < d0.size := by omega
          obtain ⟨ch, _⟩ := cell_Wd (enc := enc) (off := off) HH.out hs n h hhb
          obtain ⟨ca, _⟩ := cell_Wd (enc := enc) (off := off) HH.out hs n t hab
          have hE := HE.out
          rw [bsP, if_pos hij, ← hh, show p - h = t by omega] at hE
          obtain ⟨xh, hxh⟩ : ∃ x, d[h]! = x := ⟨_, rfl⟩
          obtain ⟨xa, hxa⟩ : ∃ x, d[t]! = x := ⟨_, rfl⟩
          have hPv : ltOf cf d[t]! d[h]! = decide (cf xa xh < 0) := by rw [← hxh, ← hxa]; rfl
          rw [hPv] at hE
          rw [hxh] at ch
          rw [hxa] at ca
          have hc := cmp_Wd HC.out hs n xa xh
          have z1 := castLt hhb
          have z2 := castLt hab
          have y1 := castNn h
          have y2 := castNn t
          have hq1 : i + j < 4611686018427387904 := by omega
          have hq2 : h + 1 < 4611686018427387904 := by omega
          have hq3 : p < 4611686018427387904 := by omega
          have W := halfA i j h hh hq1
          have HP : Hid (h = (i + j) / 2 ∧ i < j ∧ h + 1 < 4611686018427387904) := ⟨hh, hij, hq2⟩
          have HE1 : Hid _ := hE
          have W9 := wrapC p h t htp hq3
          have W9' : Hid _ := W9
          clear W9
          clear hs ham hmb hb hsz hf q1 q2 q3 q4 q5 q6 g1 g2 g3 g4 g5 i0 i1 i2 i3 hij hh hhb hab hxh hxa hq1 hq2 hq3 hE hPv HE htp
          generalize hwq : Wd enc w blk off d n = wq at ch ca hc ⊢
          have HW : Hid (Wd enc w blk off d n = wq) := hwq
          clear hwq
          by_cases hlv : ¬ cf xa xh < 0
          · have hE := HE1.out
            rw [if_pos (by rw [decide_eq_false hlv]; rfl)] at hE
            have hd0 : (!decide (cf xa xh < 0)) = true := by rw [decide_eq_false hlv]; rfl
            have HE2 : Hid _ := hE
            clear hE HE1
            go_wp2_with fail
            try rw [W]
            clear W
            have W9 := W9'.out
            go_quiet (first | (go_at_fn g; refine Calls.quiet_of (hc _)))
            clear W9
            go_wp2
            go_roundg k1
            case measure => omega
            case rel =>
              obtain ⟨e1, e2, e3⟩ := HP.out
              obtain ⟨i0, i1, i2, i3⟩ := HI.out
              exact ⟨h + 1, j, n + nq, by rw [wrS h (by omega)], rfl, ⟨by omega, by omega, i2, by omega⟩, by rw [← HW.out, Wd_drewN], HE2⟩
          · have hE := HE1.out
            replace hlv := Decidable.not_not.mp hlv
            rw [if_neg (by rw [decide_eq_true hlv]; decide)] at hE
            have hd0 : (!decide (cf xa xh < 0)) = false := by rw [decide_eq_true hlv]; rfl
            have HE2 : Hid _ := hE
            clear hE HE1
            go_wp2_with fail
            try rw [W]
            clear W
            have W9 := W9'.out
            go_quiet (first | (go_at_fn g; refine Calls.quiet_of (hc _)))
            clear W9
            go_wp2
            go_roundg k1
            case measure => omega
            case rel =>
              obtain ⟨e1, e2, e3⟩ := HP.out
              obtain ⟨i0, i1, i2, i3⟩ := HI.out
              exact ⟨i, h, n + nq, rfl, rfl, ⟨by omega, by omega, by omega, by omega⟩, by rw [← HW.out, Wd_drewN], HE2⟩
      · have d1 : decide ((i : Int) < (j : Int)) = false := decide_eq_false (by omega)
        have d2 : decide (i < j) = false := decide_eq_false hij
        obtain rfl : i = j := by omega
        have hE := HE.out
        rw [bsP_end] at hE
        subst hE
        have K64 : Aside (i < m ∧ m < en → ∀ n, Calls Try.prog 64 #[.slice (some ⟨blk, off, none⟩) d0.size cap, .int .i64 i, .int .i64 m, .int .i64 en, .func (.func g) #[] cb] (Wd enc w blk off d n) fun e w' => e = .returned (.tuple #[]) ∧ ∃ n, w' = Wd enc w blk off dd1 n) := fun hc n => by
          have := rot64 enc hO blk off cap i m en (.func (.func g) #[] cb) d0 d n w HH.out hs hc.1 hc.2 (by omega) (by omega)
          rw [HD1.out, if_pos hc]
          exact this
        have hz1 : dd1.size = d0.size := by rw [HD1.out]; split; rw [rotA_size]; exact hs; exact hs
        have K63a : Aside (a < i ∧ i < mid → ∀ n, Calls Try.prog 63 #[.slice (some ⟨blk, off, none⟩) d0.size cap, .int .i64 a, .int .i64 i, .int .i64 mid, .func (.func g) #[] cb] (Wd enc w blk off dd1 n) fun e w' => e = .returned (.tuple #[]) ∧ ∃ n, w' = Wd enc w blk off dd2 n) := fun hc n => by
          have := HIH.out a i mid dd1 n hc.1 hc.2 (by omega) (by omega) hz1
          rw [HD2.out, if_pos hc]
          exact this
        have hz2 : dd2.size = d0.size := by rw [HD2.out]; split; rw [symF_size]; exact hz1; exact hz1
        have K63b : Aside (mid < en ∧ en < b → ∀ n, Calls Try.prog 63 #[.slice (some ⟨blk, off, none⟩) d0.size cap, .int .i64 mid, .int .i64 en, .int .i64 b, .func (.func g) #[] cb] (Wd enc w blk off dd2 n) fun e w' => e = .returned (.tuple #[]) ∧ ∃ n, w' = Wd enc w blk off (symF (ltOf cf) f mid en b dd2) n) := fun hc n =>
          HIH.out mid en b dd2 n hc.1 hc.2 hb (by omega) hz2
        clear hs ham hmb hb hsz hf q1 q2 q3 q4 q5 q6 g1 g2 g3 g4 g5 i0 i1 i2 i3 hij HE HI HS0 HR0 HST HB HV HS hz1 hz2 HIH HC
        go_upto_region 39 with (fail)
        (try rw [WE.out])
        by_cases u1 : i < m
        · have da1 : decide ((i : Int) < (m : Int)) = true := decide_eq_true (castLt u1)
          have db1 : decide (i < m) = true := decide_eq_true u1
          by_cases v1 : m < en
          · have dc1 : decide ((m : Int) < (en : Int)) = true := decide_eq_true (castLt v1)
            have de1 : decide (m < en) = true := decide_eq_true v1
            have H64 := Aside0.mk (K64.out ⟨u1, v1⟩)
            clear u1 v1
            by_cases u2 : a < i
            · have da2 : decide ((a : Int) < (i : Int)) = true := decide_eq_true (castLt u2)
              have db2 : decide (a < i) = true := decide_eq_true u2
              by_cases v2 : i < mid
              · have dc2 : decide ((i : Int) < (mid : Int)) = true := decide_eq_true (castLt v2)
                have de2 : decide (i < mid) = true := decide_eq_true v2
                have H63a := Aside0.mk (K63a.out ⟨u2, v2⟩)
                clear u2 v2
                by_cases u3 : mid < en
                · have da3 : decide ((mid : Int) < (en : Int)) = true := decide_eq_true (castLt u3)
                  have db3 : decide (mid < en) = true := decide_eq_true u3
                  by_cases v3 : en < b
                  · have dc3 : decide ((en : Int) < (b : Int)) = true := decide_eq_true (castLt v3)
                    have de3 : decide (en < b) = true := decide_eq_true v3
                    have H63b := Aside0.mk (K63b.out ⟨u3, v3⟩)
                    have hR := HR.out
                    rw [if_pos ⟨u3, v3⟩] at hR
                    have HF : Hid _ := hR
                    clear u3 v3 hR
                    go_wp2_with (first | (go_at_call 64; (with_reducible refine (H64.out _).mono ?_); rintro e w2 ⟨rfl, n2, rfl⟩) | (go_at_call 63; (with_reducible refine (H63a.out _).mono ?_); rintro e w2 ⟨rfl, n3, rfl⟩) | (go_at_call 63; (with_reducible refine (H63b.out _).mono ?_); rintro e w2 ⟨rfl, n4, rfl⟩))
                    go_end0
                    exact ⟨rfl, n4, by rw [HF.out]⟩
                  · have dc3 : decide ((en : Int) < (b : Int)) = false := decide_eq_false (fun h => v3 (by omega))
                    have de3 : decide (en < b) = false := decide_eq_false v3
                    have hR := HR.out
                    rw [if_neg (fun h => v3 h.2)] at hR
                    have HF : Hid _ := hR
                    clear hR
                    clear u3 v3
                    go_wp2_with (first | (go_at_call 64; (with_reducible refine (H64.out _).mono ?_); rintro e w2 ⟨rfl, n2, rfl⟩) | (go_at_call 63; (with_reducible refine (H63a.out _).mono ?_); rintro e w2 ⟨rfl, n3, rfl⟩))
                    go_end0
                    exact ⟨rfl, n3, by rw [HF.out]⟩
                · have da3 : decide ((mid : Int) < (en : Int)) = false := decide_eq_false (fun h => u3 (by omega))
                  have db3 : decide (mid < en) = false := decide_eq_false u3
                  have hR := HR.out
                  rw [if_neg (fun h => u3 h.1)] at hR
                  have HF : Hid _ := hR
                  clear hR
                  clear u3
                  go_wp2_with (first | (go_at_call 64; (with_reducible refine (H64.out _).mono ?_); rintro e w2 ⟨rfl, n2, rfl⟩) | (go_at_call 63; (with_reducible refine (H63a.out _).mono ?_); rintro e w2 ⟨rfl, n3, rfl⟩))
                  go_end0
                  exact ⟨rfl, n3, by rw [HF.out]⟩
              · have dc2 : decide ((i : Int) < (mid : Int)) = false := decide_eq_false (fun h => v2 (by omega))
                have de2 : decide (i < mid) = false := decide_eq_false v2
                have hd := HD2.out
                rw [if_neg (fun h => v2 h.2)] at hd
                subst hd
                clear u2 v2
                by_cases u3 : mid < en
                · have da3 : decide ((mid : Int) < (en : Int)) = true := decide_eq_true (castLt u3)
                  have db3 : decide (mid < en) = true := decide_eq_true u3
                  by_cases v3 : en < b
                  · have dc3 : decide ((en : Int) < (b : Int)) = true := decide_eq_true (castLt v3)
                    have de3 : decide (en < b) = true := decide_eq_true v3
                    have H63b := Aside0.mk (K63b.out ⟨u3, v3⟩)
                    have hR := HR.out
                    rw [if_pos ⟨u3, v3⟩] at hR
                    have HF : Hid _ := hR
                    clear u3 v3 hR
                    go_wp2_with (first | (go_at_call 64; (with_reducible refine (H64.out _).mono ?_); rintro e w2 ⟨rfl, n2, rfl⟩) | (go_at_call 63; (with_reducible refine (H63b.out _).mono ?_); rintro e w2 ⟨rfl, n4, rfl⟩))
                    go_end0
                    exact ⟨rfl, n4, by rw [HF.out]⟩
                  · have dc3 : decide ((en : Int) < (b : Int)) = false := decide_eq_false (fun h => v3 (by omega))
                    have de3 : decide (en < b) = false := decide_eq_false v3
                    have hR := HR.out
                    rw [if_neg (fun h => v3 h.2)] at hR
                    have HF : Hid _ := hR
                    clear hR
                    clear u3 v3
                    go_wp2_with (first | (go_at_call 64; (with_reducible refine (H64.out _).mono ?_); rintro e w2 ⟨rfl, n2, rfl⟩))
                    go_end0
                    exact ⟨rfl, n2, by rw [HF.out]⟩
                · have da3 : decide ((mid : Int) < (en : Int)) = false := decide_eq_false (fun h => u3 (by omega))
                  have db3 : decide (mid < en) = false := decide_eq_false u3
                  have hR := HR.out
                  rw [if_neg (fun h => u3 h.1)] at hR
                  have HF : Hid _ := hR
                  clear hR
                  clear u3
                  go_wp2_with (first | (go_at_call 64; (with_reducible refine (H64.out _).mono ?_); rintro e w2 ⟨rfl, n2, rfl⟩))
                  go_end0
                  exact ⟨rfl, n2, by rw [HF.out]⟩
            · have da2 : decide ((a : Int) < (i : Int)) = false := decide_eq_false (fun h => u2 (by omega))
              have db2 : decide (a < i) = false := decide_eq_false u2
              have hd := HD2.out
              rw [if_neg (fun h => u2 h.1)] at hd
              subst hd
              clear u2
              by_cases u3 : mid < en
              · have da3 : decide ((mid : Int) < (en : Int)) = true := decide_eq_true (castLt u3)
                have db3 : decide (mid < en) = true := decide_eq_true u3
                by_cases v3 : en < b
                · have dc3 : decide ((en : Int) < (b : Int)) = true := decide_eq_true (castLt v3)
                  have de3 : decide (en < b) = true := decide_eq_true v3
                  have H63b := Aside0.mk (K63b.out ⟨u3, v3⟩)
                  have hR := HR.out
                  rw [if_pos ⟨u3, v3⟩] at hR
                  have HF : Hid _ := hR
                  clear u3 v3 hR
                  go_wp2_with (first | (go_at_call 64; (with_reducible refine (H64.out _).mono ?_); rintro e w2 ⟨rfl, n2, rfl⟩) | (go_at_call 63; (with_reducible refine (H63b.out _).mono ?_); rintro e w2 ⟨rfl, n4, rfl⟩))
                  go_end0
                  exact ⟨rfl, n4, by rw [HF.out]⟩
                · have dc3 : decide ((en : Int) < (b : Int)) = false := decide_eq_false (fun h => v3 (by omega))
                  have de3 : decide (en < b) = false := decide_eq_false v3
                  have hR := HR.out
                  rw [if_neg (fun h => v3 h.2)] at hR
                  have HF : Hid _ := hR
                  clear hR
                  clear u3 v3
                  go_wp2_with (first | (go_at_call 64; (with_reducible refine (H64.out _).mono ?_); rintro e w2 ⟨rfl, n2, rfl⟩))
                  go_end0
                  exact ⟨rfl, n2, by rw [HF.out]⟩
              · have da3 : decide ((mid : Int) < (en : Int)) = false := decide_eq_false (fun h => u3 (by omega))
                have db3 : decide (mid < en) = false := decide_eq_false u3
                have hR := HR.out
                rw [if_neg (fun h => u3 h.1)] at hR
                have HF : Hid _ := hR
                clear hR
                clear u3
                go_wp2_with (first | (go_at_call 64; (with_reducible refine (H64.out _).mono ?_); rintro e w2 ⟨rfl, n2, rfl⟩))
                go_end0
                exact ⟨rfl, n2, by rw [HF.out]⟩
          · have dc1 : decide ((m : Int) < (en : Int)) = false := decide_eq_false (fun h => v1 (by omega))
            have de1 : decide (m < en) = false := decide_eq_false v1
            have hd := HD1.out
            rw [if_neg (fun h => v1 h.2)] at hd
            subst hd
            clear u1 v1
            by_cases u2 : a < i
            · have da2 : decide ((a : Int) < (i : Int)) = true := decide_eq_true (castLt u2)
              have db2 : decide (a < i) = true := decide_eq_true u2
              by_cases v2 : i < mid
              · have dc2 : decide ((i : Int) < (mid : Int)) = true := decide_eq_true (castLt v2)
                have de2 : decide (i < mid) = true := decide_eq_true v2
                have H63a := Aside0.mk (K63a.out ⟨u2, v2⟩)
                clear u2 v2
                by_cases u3 : mid < en
                · have da3 : decide ((mid : Int) < (en : Int)) = true := decide_eq_true (castLt u3)
                  have db3 : decide (mid < en) = true := decide_eq_true u3
                  by_cases v3 : en < b
                  · have dc3 : decide ((en : Int) < (b : Int)) = true := decide_eq_true (castLt v3)
                    have de3 : decide (en < b) = true := decide_eq_true v3
                    have H63b := Aside0.mk (K63b.out ⟨u3, v3⟩)
                    have hR := HR.out
                    rw [if_pos ⟨u3, v3⟩] at hR
                    have HF : Hid _ := hR
                    clear u3 v3 hR
                    go_wp2_with (first | (go_at_call 63; (with_reducible refine (H63a.out _).mono ?_); rintro e w2 ⟨rfl, n3, rfl⟩) | (go_at_call 63; (with_reducible refine (H63b.out _).mono ?_); rintro e w2 ⟨rfl, n4, rfl⟩))
                    go_end0
                    exact ⟨rfl, n4, by rw [HF.out]⟩
                  · have dc3 : decide ((en : Int) < (b : Int)) = false := decide_eq_false (fun h => v3 (by omega))
                    have de3 : decide (en < b) = false := decide_eq_false v3
                    have hR := HR.out
                    rw [if_neg (fun h => v3 h.2)] at hR
                    have HF : Hid _ := hR
                    clear hR
                    clear u3 v3
                    go_wp2_with (first | (go_at_call 63; (with_reducible refine (H63a.out _).mono ?_); rintro e w2 ⟨rfl, n3, rfl⟩))
                    go_end0
                    exact ⟨rfl, n3, by rw [HF.out]⟩
                · have da3 : decide ((mid : Int) < (en : Int)) = false := decide_eq_false (fun h => u3 (by omega))
                  have db3 : decide (mid < en) = false := decide_eq_false u3
                  have hR := HR.out
                  rw [if_neg (fun h => u3 h.1)] at hR
                  have HF : Hid _ := hR
                  clear hR
                  clear u3
                  go_wp2_with (first | (go_at_call 63; (with_reducible refine (H63a.out _).mono ?_); rintro e w2 ⟨rfl, n3, rfl⟩))
                  go_end0
                  exact ⟨rfl, n3, by rw [HF.out]⟩
              · have dc2 : decide ((i : Int) < (mid : Int)) = false := decide_eq_false (fun h => v2 (by omega))
                have de2 : decide (i < mid) = false := decide_eq_false v2
                have hd := HD2.out
                rw [if_neg (fun h => v2 h.2)] at hd
                subst hd
                clear u2 v2
                by_cases u3 : mid < en
                · have da3 : decide ((mid : Int) < (en : Int)) = true := decide_eq_true (castLt u3)
                  have db3 : decide (mid < en) = true := decide_eq_true u3
                  by_cases v3 : en < b
                  · have dc3 : decide ((en : Int) < (b : Int)) = true := decide_eq_true (castLt v3)
                    have de3 : decide (en < b) = true := decide_eq_true v3
                    have H63b := Aside0.mk (K63b.out ⟨u3, v3⟩)
                    have hR := HR.out
                    rw [if_pos ⟨u3, v3⟩] at hR
                    have HF : Hid _ := hR
                    clear u3 v3 hR
                    go_wp2_with (first | (go_at_call 63; (with_reducible refine (H63b.out _).mono ?_); rintro e w2 ⟨rfl, n4, rfl⟩))
                    go_end0
                    exact ⟨rfl, n4, by rw [HF.out]⟩
                  · have dc3 : decide ((en : Int) < (b : Int)) = false := decide_eq_false (fun h => v3 (by omega))
                    have de3 : decide (en < b) = false := decide_eq_false v3
                    have hR := HR.out
                    rw [if_neg (fun h => v3 h.2)] at hR
                    have HF : Hid _ := hR
                    clear hR
                    clear u3 v3
                    go_wp2
                    go_end0
                    exact ⟨rfl, n, by rw [HF.out]⟩
                · have da3 : decide ((mid : Int) < (en : Int)) = false := decide_eq_false (fun h => u3 (by omega))
                  have db3 : decide (mid < en) = false := decide_eq_false u3
                  have hR := HR.out
                  rw [if_neg (fun h => u3 h.1)] at hR
                  have HF : Hid _ := hR
                  clear hR
                  clear u3
                  go_wp2
                  go_end0
                  exact ⟨rfl, n, by rw [HF.out]⟩
            · have da2 : decide ((a : Int) < (i : Int)) = false := decide_eq_false (fun h => u2 (by omega))
              have db2 : decide (a < i) = false := decide_eq_false u2
              have hd := HD2.out
              rw [if_neg (fun h => u2 h.1)] at hd
              subst hd
              clear u2
              by_cases u3 : mid < en
              · have da3 : decide ((mid : Int) < (en : Int)) = true := decide_eq_true (castLt u3)
                have db3 : decide (mid < en) = true := decide_eq_true u3
                by_cases v3 : en < b
                · have dc3 : decide ((en : Int) < (b : Int)) = true := decide_eq_true (castLt v3)
                  have de3 : decide (en < b) = true := decide_eq_true v3
                  have H63b := Aside0.mk (K63b.out ⟨u3, v3⟩)
                  have hR := HR.out
                  rw [if_pos ⟨u3, v3⟩] at hR
                  have HF : Hid _ := hR
                  clear u3 v3 hR
                  go_wp2_with (first | (go_at_call 63; (with_reducible refine (H63b.out _).mono ?_); rintro e w2 ⟨rfl, n4, rfl⟩))
                  go_end0
                  exact ⟨rfl, n4, by rw [HF.out]⟩
                · have dc3 : decide ((en : Int) < (b : Int)) = false := decide_eq_false (fun h => v3 (by omega))
                  have de3 : decide (en < b) = false := decide_eq_false v3
                  have hR := HR.out
                  rw [if_neg (fun h => v3 h.2)] at hR
                  have HF : Hid _ := hR
                  clear hR
                  clear u3 v3
                  go_wp2
                  go_end0
                  exact ⟨rfl, n, by rw [HF.out]⟩
              · have da3 : decide ((mid : Int) < (en : Int)) = false := decide_eq_false (fun h => u3 (by omega))
                have db3 : decide (mid < en) = false := decide_eq_false u3
                have hR := HR.out
                rw [if_neg (fun h => u3 h.1)] at hR
                have HF : Hid _ := hR
                clear hR
                clear u3
                go_wp2
                go_end0
                exact ⟨rfl, n, by rw [HF.out]⟩
        · have da1 : decide ((i : Int) < (m : Int)) = false := decide_eq_false (fun h => u1 (by omega))
          have db1 : decide (i < m) = false := decide_eq_false u1
          have hd := HD1.out
          rw [if_neg (fun h => u1 h.1)] at hd
          subst hd
          clear u1
          by_cases u2 : a < i
          · have da2 : decide ((a : Int) < (i : Int)) = true := decide_eq_true (castLt u2)
            have db2 : decide (a < i) = true := decide_eq_true u2
            by_cases v2 : i < mid
            · have dc2 : decide ((i : Int) < (mid : Int)) = true := decide_eq_true (castLt v2)
              have de2 : decide (i < mid) = true := decide_eq_true v2
              have H63a := Aside0.mk (K63a.out ⟨u2, v2⟩)
              clear u2 v2
              by_cases u3 : mid < en
              · have da3 : decide ((mid : Int) < (en : Int)) = true := decide_eq_true (castLt u3)
                have db3 : decide (mid < en) = true := decide_eq_true u3
                by_cases v3 : en < b
                · have dc3 : decide ((en : Int) < (b : Int)) = true := decide_eq_true (castLt v3)
                  have de3 : decide (en < b) = true := decide_eq_true v3
                  have H63b := Aside0.mk (K63b.out ⟨u3, v3⟩)
                  have hR := HR.out
                  rw [if_pos ⟨u3, v3⟩] at hR
                  have HF : Hid _ := hR
                  clear u3 v3 hR
                  go_wp2_with (first | (go_at_call 63; (with_reducible refine (H63a.out _).mono ?_); rintro e w2 ⟨rfl, n3, rfl⟩) | (go_at_call 63; (with_reducible refine (H63b.out _).mono ?_); rintro e w2 ⟨rfl, n4, rfl⟩))
                  go_end0
                  exact ⟨rfl, n4, by rw [HF.out]⟩
                · have dc3 : decide ((en : Int) < (b : Int)) = false := decide_eq_false (fun h => v3 (by omega))
                  have de3 : decide (en < b) = false := decide_eq_false v3
                  have hR := HR.out
                  rw [if_neg (fun h => v3 h.2)] at hR
                  have HF : Hid _ := hR
                  clear hR
                  clear u3 v3
                  go_wp2_with (first | (go_at_call 63; (with_reducible refine (H63a.out _).mono ?_); rintro e w2 ⟨rfl, n3, rfl⟩))
                  go_end0
                  exact ⟨rfl, n3, by rw [HF.out]⟩
              · have da3 : decide ((mid : Int) < (en : Int)) = false := decide_eq_false (fun h => u3 (by omega))
                have db3 : decide (mid < en) = false := decide_eq_false u3
                have hR := HR.out
                rw [if_neg (fun h => u3 h.1)] at hR
                have HF : Hid _ := hR
                clear hR
                clear u3
                go_wp2_with (first | (go_at_call 63; (with_reducible refine (H63a.out _).mono ?_); rintro e w2 ⟨rfl, n3, rfl⟩))
                go_end0
                exact ⟨rfl, n3, by rw [HF.out]⟩
            · have dc2 : decide ((i : Int) < (mid : Int)) = false := decide_eq_false (fun h => v2 (by omega))
              have de2 : decide (i < mid) = false := decide_eq_false v2
              have hd := HD2.out
              rw [if_neg (fun h => v2 h.2)] at hd
              subst hd
              clear u2 v2
              by_cases u3 : mid < en
              · have da3 : decide ((mid : Int) < (en : Int)) = true := decide_eq_true (castLt u3)
                have db3 : decide (mid < en) = true := decide_eq_true u3
                by_cases v3 : en < b
                · have dc3 : decide ((en : Int) < (b : Int)) = true := decide_eq_true (castLt v3)
                  have de3 : decide (en < b) = true := decide_eq_true v3
                  have H63b := Aside0.mk (K63b.out ⟨u3, v3⟩)
                  have hR := HR.out
                  rw [if_pos ⟨u3, v3⟩] at hR
                  have HF : Hid _ := hR
                  clear u3 v3 hR
                  go_wp2_with (first | (go_at_call 63; (with_reducible refine (H63b.out _).mono ?_); rintro e w2 ⟨rfl, n4, rfl⟩))
                  go_end0
                  exact ⟨rfl, n4, by rw [HF.out]⟩
                · have dc3 : decide ((en : Int) < (b : Int)) = false := decide_eq_false (fun h => v3 (by omega))
                  have de3 : decide (en < b) = false := decide_eq_false v3
                  have hR := HR.out
                  rw [if_neg (fun h => v3 h.2)] at hR
                  have HF : Hid _ := hR
                  clear hR
                  clear u3 v3
                  go_wp2
                  go_end0
                  exact ⟨rfl, n, by rw [HF.out]⟩
              · have da3 : decide ((mid : Int) < (en : Int)) = false := decide_eq_false (fun h => u3 (by omega))
                have db3 : decide (mid < en) = false := decide_eq_false u3
                have hR := HR.out
                rw [if_neg (fun h => u3 h.1)] at hR
                have HF : Hid _ := hR
                clear hR
                clear u3
                go_wp2
                go_end0
                exact ⟨rfl, n, by rw [HF.out]⟩
          · have da2 : decide ((a : Int) < (i : Int)) = false := decide_eq_false (fun h => u2 (by omega))
            have db2 : decide (a < i) = false := decide_eq_false u2
            have hd := HD2.out
            rw [if_neg (fun h => u2 h.1)] at hd
            subst hd
            clear u2
            by_cases u3 : mid < en
            · have da3 : decide ((mid : Int) < (en : Int)) = true := decide_eq_true (castLt u3)
              have db3 : decide (mid < en) = true := decide_eq_true u3
              by_cases v3 : en < b
              · have dc3 : decide ((en : Int) < (b : Int)) = true := decide_eq_true (castLt v3)
                have de3 : decide (en < b) = true := decide_eq_true v3
                have H63b := Aside0.mk (K63b.out ⟨u3, v3⟩)
                have hR := HR.out
                rw [if_pos ⟨u3, v3⟩] at hR
                have HF : Hid _ := hR
                clear u3 v3 hR
                go_wp2_with (first | (go_at_call 63; (with_reducible refine (H63b.out _).mono ?_); rintro e w2 ⟨rfl, n4, rfl⟩))
                go_end0
                exact ⟨rfl, n4, by rw [HF.out]⟩
              · have dc3 : decide ((en : Int) < (b : Int)) = false := decide_eq_false (fun h => v3 (by omega))
                have de3 : decide (en < b) = false := decide_eq_false v3
                have hR := HR.out
                rw [if_neg (fun h => v3 h.2)] at hR
                have HF : Hid _ := hR
                clear hR
                clear u3 v3
                go_wp2
                go_end0
                exact ⟨rfl, n, by rw [HF.out]⟩
            · have da3 : decide ((mid : Int) < (en : Int)) = false := decide_eq_false (fun h => u3 (by omega))
              have db3 : decide (mid < en) = false := decide_eq_false u3
              have hR := HR.out
              rw [if_neg (fun h => u3 h.1)] at hR
              have HF : Hid _ := hR
              clear hR
              clear u3
              go_wp2
              go_end0
              exact ⟨rfl, n, by rw [HF.out]⟩
end Go.Proofs.Ytimabnjdgdcmaaa.PApp
