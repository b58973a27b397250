/- AccountCounts, walked by hand. -/
import Derived.Test.YtgfkcmmhnibaiaaAco
namespace Go.Proofs.Ytgfkcmmhnibaiaa.Ac
open Go.RowKit Go.Proofs.YtgfkcmmhnibaiaaW.PrintWords Go.Proofs.YtgfkcmmhnibaiaaW.PrintLast Go.Proofs.YtgfkcmmhnibaiaaW.PrintMore Pt
set_option linter.unusedVariables false
set_option linter.unusedSimpArgs false
set_option maxHeartbeats 16000000 in
set_option maxRecDepth 100000 in
theorem counts_p (a0 : Int) (A1 : Option Addr) (c1 : Nat) (l1 : List (List Int)) (fg id core : Int) (w : World) (hr : Kd.C (Kd.slice 3 (Kd.int .i64)) w A1 l1.length l1) (hm : l1.length ≤ maxLen) (hid : IsInt id) (hI : 1 ≤ id ∧ id ≤ 200) :
    Calls Try.prog 6 #[.int .i64 a0, .slice A1 l1.length c1, .int .i64 fg, .int .i64 id, .int .i64 core] w fun e w' => e = .returned (.bool true) ∧ Below w.heap.size w w' := by
  have HR := Aside0.mk hr
  have HM := Aside0.mk hm
  have HID := Aside0.mk hid
  have HIQ := Aside0.mk hI
  clear hr hm hid hI
  by_cases c0 : a0 < 2 ∨ 64 < a0
  · have HN := Aside0.mk c0
    by_cases c2 : a0 < 2
    · have d1 : decide (a0 < 2) = true := decide_eq_true c2
      clear c0 c2
      go_enter Try.func6, Try.ntmps6
      go_wp2_with (first
        | (go_at_call 26; (with_reducible refine (new_bad a0 HN.out _).mono ?_); rintro e w1 ⟨rfl, rfl⟩)
        | (go_at_call 27; (with_reducible refine (awake _).mono ?_); rintro e w1 ⟨rfl, hb⟩; have HB := Aside0.mk hb; clear hb))
      go_ret
      exact ⟨rfl, HB.out⟩
    · have d1 : decide (a0 < 2) = false := decide_eq_false c2
      have d2 : decide (64 < a0) = true := decide_eq_true (by omega)
      clear c0 c2
      go_enter Try.func6, Try.ntmps6
      go_wp2_with (first
        | (go_at_call 26; (with_reducible refine (new_bad a0 HN.out _).mono ?_); rintro e w1 ⟨rfl, rfl⟩)
        | (go_at_call 27; (with_reducible refine (awake _).mono ?_); rintro e w1 ⟨rfl, hb⟩; have HB := Aside0.mk hb; clear hb))
      go_ret
      exact ⟨rfl, HB.out⟩
  obtain ⟨f, hfa⟩ : ∃ f : Nat, a0 = (f : Int) := ⟨a0.toNat, by omega⟩
  have HFA := Aside0.mk hfa
  have H1 := Aside0.mk (show 2 ≤ (f : Int) by omega)
  have H2 := Aside0.mk (show (f : Int) ≤ 64 by omega)
  have H1' := Aside0.mk (show 2 ≤ a0 by omega)
  have H2' := Aside0.mk (show a0 ≤ 64 by omega)
  have d1 : decide (a0 < 2) = false := decide_eq_false (by omega)
  have d2 : decide (64 < a0) = false := decide_eq_false (by omega)
  clear c0 hfa
  go_enter Try.func6, Try.ntmps6
  go_wp2_with (go_at_call 26; (with_reducible refine (new_ok a0 H1'.out H2'.out _).mono ?_); rintro e w1 ⟨g, rfl, hr1, hb1⟩; have HR1 := Aside0.mk hr1.bound; have HB1 := Aside0.mk hb1; clear hr1 hb1)
  rw [HFA.out] at HR1
  have HX1 : Aside0 (CwE w w1 g (newA (f : Int)) (.slice none 0 0) []) := ⟨fun k => w.heap.size ≤ k ∧ k < w1.heap.size, fun _ => False, HR1.out, Kd.R_nil _ _ _ _ _, fun k hk => hk, fun _ _ => _root_.id, fun _ hk => hk.elim, HB1.out⟩
  have HI1 := Aside0.mk (CInv.new f id)
  have HH1 := Aside0.mk (Hds.nil w)
  clear HR1 HB1
  go_loopg [13, 14, 15] 151 (fun kq v13 v14 v15 w' => ∃ (A : Option Addr) (cp a i : Nat) (s : Ac) (hs : List Hd) (l : List (List Int)), v13 = .slice A hs.length cp ∧ v14 = .int .i64 (a : Int) ∧ v15 = .int .i64 (i : Int) ∧ Aside0 (i + kq = 151) ∧ Aside0 (i ≤ 150) ∧ Aside0 (hs.length ≤ i) ∧ Aside0 (CInv s f l a id) ∧ Aside0 (Hds w hs l) ∧ Aside0 (CwE w w' g s (.slice A hs.length cp) hs))
  case atStart => exact ⟨none, 0, 0, 0, _, [], [], rfl, rfl, rfl, ⟨by omega⟩, ⟨by omega⟩, ⟨Nat.le_refl _⟩, HI1, HH1, HX1⟩
  case round =>
    clear HI1 HX1 HH1
    obtain ⟨A, cp, a, i, s, hs, l, rfl, rfl, rfl, HK, HI, HNI, HV, HH, HX⟩ := hrel
    have HLH := Aside0.mk HH.out.len
    obtain ⟨F, P, hcw⟩ := HX.out
    have HC := Aside0.mk hcw
    clear HX hcw
    cases gk with
    | zero => exact absurd HK.out (by have := HI.out; omega)
    | succ k1 =>
      by_cases cc : i < l1.length ∧ i < 150
      · obtain ⟨ca, cb⟩ := cc
        have d3 : decide ((i : Int) < (l1.length : Int)) = true := decide_eq_true (by omega)
        have d4 : decide (i < l1.length) = true := decide_eq_true ca
        have d5 : decide ((i : Int) < 150) = true := decide_eq_true (by omega)
        have d6 : decide (i < 150) = true := decide_eq_true cb
        have p0 := eq_true (show (0 : Int) ≤ (i : Int) by omega)
        have p1 := eq_true (show (i : Int) < (l1.length : Int) by omega)
        have HIL := Aside0.mk cb
        obtain ⟨ad, A0, c0, ead, hx, hl0, hi0⟩ := PAcc.at_L1 (Kd.C_below HR.out HC.out.bl) (i : Int) (by omega) (by omega)
        obtain ⟨ad', A0', c0', ead', hx', hl0', hi0'⟩ := PAcc.at_L1 HR.out (i : Int) (by omega) (by omega)
        cases ead
        cases ead'
        have hxx := (pw_cell_below HC.out.bl hx').symm.trans hx
        rw [Int.toNat_natCast] at hx hx'
        generalize PAcc.rd_L1 l1 (i : Int) = r at *
        cases hxx
        have HX0 := Aside0.mk hx'
        have HL0 := Aside0.mk hl0
        have HI0 := Aside0.mk hi0
        have HI0' := Aside0.mk hi0'
        clear ca cb hx' hl0 hl0' hi0 hi0'
        by_cases c100 : 100 < r.length
        · have d7 : decide (100 < (r.length : Int)) = true := decide_eq_true (by omega)
          have d8 : decide (100 < r.length) = true := decide_eq_true c100
          clear c100
          go_wp2
          go_roundg k1
          case measure => omega
          case rel => exact ⟨A, cp, a, i + 1, s, hs, l, rfl, rfl, (by congr 1; unfold wrap64; have := HIL.out; omega), ⟨by have := HK.out; omega⟩, ⟨by have := HIL.out; omega⟩, ⟨by have := HNI.out; omega⟩, HV, HH, ⟨F, P, HC.out⟩⟩
        · have d7 : decide (100 < (r.length : Int)) = false := decide_eq_false (by omega)
          have d8 : decide (100 < r.length) = false := decide_eq_false c100
          have HRL := Aside0.mk (show r.length ≤ 100 by omega)
          clear c100
          have HT0 := Aside0.mk (show 0 ≤ s.ticks by rw [HV.out.ticks]; omega)
          have HT1 := Aside0.mk (show s.ticks < 1000000 by rw [HV.out.ticks, ← HLH.out]; have := HNI.out; have := HI.out; omega)
          by_cases hrr : rightRow r = true
          · have HRR := Aside0.mk hrr
            clear hrr
            by_cases hfg : (i : Int) = fg
            · have e1 : ((i : Int) == fg) = true := beq_iff_eq.mpr hfg
              clear hfg
              go_wp2_with (first
                | (go_at_call 28; (with_reducible refine (add_yes HC.out.t A0 c0 r HI0.out (came HI0'.out HRR.out HC.out.bl (fun k hk => (HC.out.f0 k hk).1)) HL0.out HRR.out HT0.out HT1.out).mono ?_); rintro e w2 ⟨rfl, hr2, ht2⟩; have HC2 := Aside0.mk (HC.out.acct hr2 ht2); have hx2 := pw_cell_below HC2.out.bl HX0.out; clear hr2 ht2)
                | (go_at_call 32; (with_reducible refine (right_call (by have := HRL.out; omega) A0 c0 _ (Kd.C_below HI0'.out HC2.out.bl) HL0.out true HRR.out).mono ?_); rintro e w3 ⟨rfl, hb3⟩; have HC3 := Aside0.mk (HC2.out.below hb3); have hx3 := pw_cell_below HC3.out.bl HX0.out; clear hb3)
                | ((with_reducible refine gate_builtin (b := .append) (xs := #[.tmp 85, .tmp 90]) rfl ?_); at_builtin; refine Kd.R_append kh (w0 := w) w.heap.size rfl (.tmp 85) (.tmp 90) 34 23 (.slice none 0 0) 24 rfl Try.underlying34 info23 rfl (by decide) (by decide) (.slice A hs.length cp) hs (A0, r.length, c0) [.slice A0 r.length c0] (fun k => P k ∨ w3.heap.size ≤ k) (fun _ => False) rfl rfl rfl (fun _ hk => hk.elim) (fun _ hk => .inr hk) (Kd.R_mono HC3.out.r (fun k hk => .inl hk)) HC3.out.bl HC3.out.bl.size (by have := HNI.out; have := HI.out; omega) ?_; intro v4 w4 ho4 hb4 hg4 hat4; have HC4 := Aside0.mk (HC3.out.app ho4 hg4); obtain ⟨A4, cp4, ev4⟩ := Kd.R_slice ho4; subst ev4; clear ho4 hb4 hg4 hat4)
                | (go_at_call 33; (with_reducible refine (forget_calls HC4.out.t id HID.out).mono ?_); rintro e w5 ⟨rfl, hr5, ht5⟩; have HC5 := Aside0.mk (HC4.out.acct hr5 ht5); clear hr5 ht5))
              go_roundg k1
              case measure => omega
              case rel => exact ⟨A4, cp4, (hs.length + 1), i + 1, _, hs ++ [(A0, r.length, c0)], l ++ [r], (by first | rfl | simp), (by first | rfl | (congr 1; simp; done)), (by congr 1; unfold wrap64; have := HIL.out; omega), ⟨by have := HK.out; omega⟩, ⟨by have := HIL.out; omega⟩, ⟨by have := HNI.out; simp; omega⟩, ⟨CInv.gone' (HV.out.add (by rw [← HLH.out]; have := HNI.out; have := HI.out; omega) HRR.out) _ (by simp [HLH.out])⟩, ⟨HH.out.snoc HL0.out HI0'.out⟩, ⟨_, _, HC5.out⟩⟩
            · have e1 : ((i : Int) == fg) = false := beq_eq_false_iff_ne.mpr hfg
              clear hfg
              go_wp2_with (first
                | (go_at_call 28; (with_reducible refine (add_yes HC.out.t A0 c0 r HI0.out (came HI0'.out HRR.out HC.out.bl (fun k hk => (HC.out.f0 k hk).1)) HL0.out HRR.out HT0.out HT1.out).mono ?_); rintro e w2 ⟨rfl, hr2, ht2⟩; have HC2 := Aside0.mk (HC.out.acct hr2 ht2); have hx2 := pw_cell_below HC2.out.bl HX0.out; clear hr2 ht2)
                | (go_at_call 32; (with_reducible refine (right_call (by have := HRL.out; omega) A0 c0 _ (Kd.C_below HI0'.out HC2.out.bl) HL0.out true HRR.out).mono ?_); rintro e w3 ⟨rfl, hb3⟩; have HC3 := Aside0.mk (HC2.out.below hb3); have hx3 := pw_cell_below HC3.out.bl HX0.out; clear hb3)
                | ((with_reducible refine gate_builtin (b := .append) (xs := #[.tmp 85, .tmp 90]) rfl ?_); at_builtin; refine Kd.R_append kh (w0 := w) w.heap.size rfl (.tmp 85) (.tmp 90) 34 23 (.slice none 0 0) 24 rfl Try.underlying34 info23 rfl (by decide) (by decide) (.slice A hs.length cp) hs (A0, r.length, c0) [.slice A0 r.length c0] (fun k => P k ∨ w3.heap.size ≤ k) (fun _ => False) rfl rfl rfl (fun _ hk => hk.elim) (fun _ hk => .inr hk) (Kd.R_mono HC3.out.r (fun k hk => .inl hk)) HC3.out.bl HC3.out.bl.size (by have := HNI.out; have := HI.out; omega) ?_; intro v4 w4 ho4 hb4 hg4 hat4; have HC4 := Aside0.mk (HC3.out.app ho4 hg4); obtain ⟨A4, cp4, ev4⟩ := Kd.R_slice ho4; subst ev4; clear ho4 hb4 hg4 hat4))
              go_roundg k1
              case measure => omega
              case rel => exact ⟨A4, cp4, a, i + 1, _, hs ++ [(A0, r.length, c0)], l ++ [r], (by first | rfl | simp), (by first | rfl | (congr 1; simp; done)), (by congr 1; unfold wrap64; have := HIL.out; omega), ⟨by have := HK.out; omega⟩, ⟨by have := HIL.out; omega⟩, ⟨by have := HNI.out; simp; omega⟩, ⟨HV.out.add (by rw [← HLH.out]; have := HNI.out; have := HI.out; omega) HRR.out⟩, ⟨HH.out.snoc HL0.out HI0'.out⟩, ⟨_, _, HC4.out⟩⟩
          · have HRR := Aside0.mk (show rightRow r = false by simpa using hrr)
            clear hrr
            by_cases hfg : (i : Int) = fg
            · have e1 : ((i : Int) == fg) = true := beq_iff_eq.mpr hfg
              clear hfg
              go_wp2_with (first
                | (go_at_call 28; (with_reducible refine (add_no HC.out.t A0 c0 r HI0.out HL0.out (by have := HRL.out; omega) HRR.out).mono ?_); rintro e w2 ⟨rfl, rfl⟩; have HC2 := HC)
                | (go_at_call 32; (with_reducible refine (right_call (by have := HRL.out; omega) A0 c0 _ (Kd.C_below HI0'.out HC2.out.bl) HL0.out false HRR.out).mono ?_); rintro e w3 ⟨rfl, hb3⟩; have HC3 := Aside0.mk (HC2.out.below hb3); have hx3 := pw_cell_below HC3.out.bl HX0.out; clear hb3)
                | (go_at_call 33; (with_reducible refine (forget_calls HC3.out.t id HID.out).mono ?_); rintro e w5 ⟨rfl, hr5, ht5⟩; have HC5 := Aside0.mk (HC3.out.acct hr5 ht5); clear hr5 ht5))
              go_roundg k1
              case measure => omega
              case rel => exact ⟨A, cp, hs.length, i + 1, _, hs, l, (by first | rfl | simp), (by first | rfl | (congr 1; simp; done)), (by congr 1; unfold wrap64; have := HIL.out; omega), ⟨by have := HK.out; omega⟩, ⟨by have := HIL.out; omega⟩, ⟨by have := HNI.out; omega⟩, ⟨CInv.gone' HV.out _ HLH.out⟩, HH, ⟨_, _, HC5.out⟩⟩
            · have e1 : ((i : Int) == fg) = false := beq_eq_false_iff_ne.mpr hfg
              clear hfg
              go_wp2_with (first
                | (go_at_call 28; (with_reducible refine (add_no HC.out.t A0 c0 r HI0.out HL0.out (by have := HRL.out; omega) HRR.out).mono ?_); rintro e w2 ⟨rfl, rfl⟩; have HC2 := HC)
                | (go_at_call 32; (with_reducible refine (right_call (by have := HRL.out; omega) A0 c0 _ (Kd.C_below HI0'.out HC2.out.bl) HL0.out false HRR.out).mono ?_); rintro e w3 ⟨rfl, hb3⟩; have HC3 := Aside0.mk (HC2.out.below hb3); have hx3 := pw_cell_below HC3.out.bl HX0.out; clear hb3))
              go_roundg k1
              case measure => omega
              case rel => exact ⟨A, cp, a, i + 1, _, hs, l, (by first | rfl | simp), (by first | rfl | (congr 1; simp; done)), (by congr 1; unfold wrap64; have := HIL.out; omega), ⟨by have := HK.out; omega⟩, ⟨by have := HIL.out; omega⟩, ⟨by have := HNI.out; omega⟩, HV, HH, ⟨_, _, HC3.out⟩⟩
      · have HCC := Aside0.mk cc
        obtain ⟨b1, hb1⟩ : ∃ b, decide (i < l1.length) = b := ⟨_, rfl⟩
        have hb0 : decide ((i : Int) < (l1.length : Int)) = b1 := by rw [← hb1]; simp
        clear cc
        have HTK := Aside0.mk (fun m => ticks_quiet HC.out.t ((hs.length : Nat) : Int) (by rw [HV.out.ticks, HLH.out]) m)
        have HFR := Aside0.mk (fun m => frames_quiet HC.out.t a0 hs.length (HV.out.sf.trans HFA.out.symm) H1'.out (by rw [HV.out.ticks, HLH.out]) (by have := HNI.out; have := HI.out; omega) m)
        have FN0 : (a0 == 0) = false := beq_eq_false_iff_ne.mpr (by have := H1'.out; omega)
        have HHL := Aside0.mk (show hs.length ≤ 150 by have := HNI.out; have := HI.out; omega)
        obtain ⟨t0, t1, t2, t3, t4, hto⟩ : ∃ t0 t1 t2 t3 t4, taskOf s id = ⟨t0, t1, t2, t3, t4⟩ := ⟨_, _, _, _, _, rfl⟩
        obtain ⟨b, d, ch, tk, hco⟩ : ∃ b d ch tk, coreOf s core = ⟨b, d, ch, tk⟩ := ⟨_, _, _, _, rfl⟩
        have HTO := Aside0.mk hto
        have HCO := Aside0.mk hco
        clear hto hco
        have HW := Aside0.mk HC.out.bl
        generalize hn : hs.length = n at *
        have HN := Aside0.mk hn
        clear hn
        cases b1
        rotate_left
        have d5 : decide (i < 150) = false := decide_eq_false (fun q => HCC.out ⟨of_decide_eq_true hb1, q⟩)
        have d6 : decide ((i : Int) < 150) = false := decide_eq_false (fun q => HCC.out ⟨of_decide_eq_true hb1, by omega⟩)
        all_goals
          clear HCC
          have g1 : 2 ≤ a0 := H1'.out
          have g2 : a0 ≤ 64 := H2'.out
          have g3 : (0 : Int) ≤ (n : Int) := by omega
          have g4 : (n : Int) ≤ 150 := by have := HHL.out; omega
          have ew : wrap64 ((n : Int) / a0) = (n : Int) / a0 := by
            have h1 := Int.ediv_nonneg g3 (show 0 ≤ a0 by omega)
            have h2 := Int.ediv_le_self a0 g3
            generalize (n : Int) / a0 = y at *
            unfold wrap64
            omega
          go_wp2
          go_quiet ((first | (go_at_call 30; exact Calls.quiet_of_same (HTK.out _)) | (go_at_call 34; exact Calls.quiet_of (HFR.out _))))
          have HCQ := Aside0.mk (HC.out.below (pw_below_drewN (Below.refl _ _) nq))
          generalize wr.drewN nq = wq at *
          have hu53 := Try.underlying53
          have hu55 := Try.underlying55
          have hrd := Kd.R_reads' HCQ.out.r
          have HRC := Aside0.mk (show Kd.C kh wq A hs.length hs from hrd.2.2)
          have HCAP := Aside0.mk (show l.length ≤ cp by have h1 := HLH.out; have h2 := hrd.2.1; have h3 := HN.out; omega)
          clear hrd
          have hid : 1 ≤ id ∧ id ≤ 200 := HIQ.out
          focus
            have q1 : decide (1 ≤ id) = true := decide_eq_true hid.1
            have q2 : decide (id ≤ 200) = true := decide_eq_true hid.2
            have HIDR := Aside0.mk hid
            clear hid
            go_upto_region 25 with (go_at_call 35; (with_reducible refine (of_call HV.out H1.out H2.out (by rw [← HLH.out]; have := HHL.out; omega) HIDR.out HTO.out a0 HFA.out A n cp HLH.out _ (HH.out.reads (below_step HCQ.out.bl (below_alloc (Below.refl _ _) _)) (Kd.C_below HRC.out (below_alloc (Below.refl _ _) _))) HCAP.out).mono ?_); rintro e w2 ⟨rfl, hb⟩; have hk := (hb.block wq.heap.size (by simp)).trans (heap_alloc_new wq _); have k0 := (blk_cell hk 0).trans rfl; have z0 := blk_frozen hk 0; have k1 := (blk_cell hk 1).trans rfl; have z1 := blk_frozen hk 1; have k2 := (blk_cell hk 2).trans rfl; have z2 := blk_frozen hk 2; have k3 := (blk_cell hk 3).trans rfl; have z3 := blk_frozen hk 3; have k4 := (blk_cell hk 4).trans rfl; have z4 := blk_frozen hk 4; have HK17 := Aside0.mk hk; have HC2 := Aside0.mk ((HCQ.out.below (below_alloc (Below.refl _ _) _)).below hb); clear hb hk)
            obtain ⟨w5, hw5⟩ : ∃ w5, w5 = (((((w2.setCell ⟨wq.heap.size, 0, none⟩ (.int .i64 t0)).setCell ⟨wq.heap.size, 1, none⟩ (.int .i64 t1)).setCell ⟨wq.heap.size, 2, none⟩ (.int .i64 t2)).setCell ⟨wq.heap.size, 3, none⟩ (.int .i64 t3)).setCell ⟨wq.heap.size, 4, none⟩ (.int .i64 t4)) := ⟨_, rfl⟩
            have HK5 : Aside0 (w5.heap[wq.heap.size]? = some (.cells #[.int .i64 t0, .int .i64 t1, .int .i64 t2, .int .i64 t3, .int .i64 t4] 53 (0, 0))) := ⟨by
              rw [hw5]
              exact blk_set (blk_set (blk_set (blk_set (blk_set HK17.out 0 _) 1 _) 2 _) 3 _) 4 _⟩
            have HC5 : Aside0 (Cw w w5 F P g s (.slice A n cp) hs) := ⟨by
              rw [hw5]
              exact (((((HC2.out.setc (p := ⟨wq.heap.size, 0, none⟩) (HCQ.out.fresh _ (Nat.le_refl _)) (.int .i64 t0)).setc (p := ⟨wq.heap.size, 1, none⟩) (HCQ.out.fresh _ (Nat.le_refl _)) (.int .i64 t1)).setc (p := ⟨wq.heap.size, 2, none⟩) (HCQ.out.fresh _ (Nat.le_refl _)) (.int .i64 t2)).setc (p := ⟨wq.heap.size, 3, none⟩) (HCQ.out.fresh _ (Nat.le_refl _)) (.int .i64 t3)).setc (p := ⟨wq.heap.size, 4, none⟩) (HCQ.out.fresh _ (Nat.le_refl _)) (.int .i64 t4))⟩
            rw [← hw5]
            clear hw5 HK17 HC2 k0 k1 k2 k3 k4 z0 z1 z2 z3 z4
          all_goals
            have HF17 := Aside0.mk (HCQ.out.fresh wq.heap.size (Nat.le_refl _))
            generalize wq.heap.size = q at *
            clear HCQ HRC
            have HRC5 := Aside0.mk (show Kd.C kh w5 A hs.length hs from (Kd.R_reads' HC5.out.r).2.2)
            by_cases hcr : 0 ≤ core ∧ core < 16
            focus
              have q3 : decide (0 ≤ core) = true := decide_eq_true hcr.1
              have q4 : decide (core ≤ 15) = true := decide_eq_true (by omega)
              have HCR := Aside0.mk hcr
              clear hcr
              go_upto_region 28 with (go_at_call 36; (with_reducible refine (on_call HV.out (by rw [← HLH.out]; have := HHL.out; omega) HCR.out HCO.out A n cp HLH.out _ (HH.out.reads (below_step HC5.out.bl (below_alloc (Below.refl _ _) _)) (Kd.C_below HRC5.out (below_alloc (Below.refl _ _) _))) HCAP.out).mono ?_); rintro e w6 ⟨rfl, hb⟩; have hk := (hb.block w5.heap.size (by simp)).trans (heap_alloc_new w5 _); have k0 := (blk_cell hk 0).trans rfl; have z0 := blk_frozen hk 0; have k1 := (blk_cell hk 1).trans rfl; have z1 := blk_frozen hk 1; have k2 := (blk_cell hk 2).trans rfl; have z2 := blk_frozen hk 2; have k3 := (blk_cell hk 3).trans rfl; have z3 := blk_frozen hk 3; have HK18 := Aside0.mk hk; have hb6 := (below_alloc (Below.refl w5.heap.size w5) _).trans (hb.mono (by simp)); have HB6 := Aside0.mk hb6; have HC6 := Aside0.mk (HC5.out.below hb6); clear hb hk hb6)
              obtain ⟨w7, hw7⟩ : ∃ w7, w7 = ((((w6.setCell ⟨w5.heap.size, 0, none⟩ (.int .i64 b)).setCell ⟨w5.heap.size, 1, none⟩ (.int .i64 d)).setCell ⟨w5.heap.size, 2, none⟩ (.int .i64 ch)).setCell ⟨w5.heap.size, 3, none⟩ (.int .i64 tk)) := ⟨_, rfl⟩
              have HK8 : Aside0 (w7.heap[w5.heap.size]? = some (.cells #[.int .i64 b, .int .i64 d, .int .i64 ch, .int .i64 tk] 55 (0, 0))) := ⟨by
                rw [hw7]
                exact blk_set (blk_set (blk_set (blk_set HK18.out 0 _) 1 _) 2 _) 3 _⟩
              have HK7 : Aside0 (w7.heap[q]? = some (.cells #[.int .i64 t0, .int .i64 t1, .int .i64 t2, .int .i64 t3, .int .i64 t4] 53 (0, 0))) := ⟨by
                have hne : q ≠ w5.heap.size := by have := blk_lt HK5.out; omega
                rw [hw7]
                exact blk_far (blk_far (blk_far (blk_far ((HB6.out.block q (blk_lt HK5.out)).trans HK5.out) hne _) hne _) hne _) hne _⟩
              have HC7 : Aside0 (Cw w w7 F P g s (.slice A n cp) hs) := ⟨by
                rw [hw7]
                exact ((((HC6.out.setc (p := ⟨w5.heap.size, 0, none⟩) (HC5.out.fresh _ (Nat.le_refl _)) (.int .i64 b)).setc (p := ⟨w5.heap.size, 1, none⟩) (HC5.out.fresh _ (Nat.le_refl _)) (.int .i64 d)).setc (p := ⟨w5.heap.size, 2, none⟩) (HC5.out.fresh _ (Nat.le_refl _)) (.int .i64 ch)).setc (p := ⟨w5.heap.size, 3, none⟩) (HC5.out.fresh _ (Nat.le_refl _)) (.int .i64 tk))⟩
              rw [← hw7]
              clear hw7 HK18 HC6 HB6 k0 k1 k2 k3 z0 z1 z2 z3
            rotate_left
            focus
              have hz : b = 0 ∧ d = 0 ∧ ch = 0 ∧ tk = 0 := by
                have h1 := HCO.out
                unfold coreOf at h1
                rw [if_neg hcr] at h1
                simp only [cr0, Cr.mk.injEq] at h1
                omega
              obtain ⟨w7, hw7⟩ : ∃ w7, w7 = w5.alloc (.cells #[.int .i64 0, .int .i64 0, .int .i64 0, .int .i64 0] 55) := ⟨_, rfl⟩
              have HK8 : Aside0 (w7.heap[w5.heap.size]? = some (.cells #[.int .i64 b, .int .i64 d, .int .i64 ch, .int .i64 tk] 55 (0, 0))) := ⟨by
                rw [hw7, hz.1, hz.2.1, hz.2.2.1, hz.2.2.2]
                exact heap_alloc_new _ _⟩
              have HK7 : Aside0 (w7.heap[q]? = some (.cells #[.int .i64 t0, .int .i64 t1, .int .i64 t2, .int .i64 t3, .int .i64 t4] 53 (0, 0))) := ⟨by
                rw [hw7]
                exact (Below.heap_alloc _ _ _ (blk_lt HK5.out)).trans HK5.out⟩
              have HC7 : Aside0 (Cw w w7 F P g s (.slice A n cp) hs) := ⟨by
                rw [hw7]
                exact HC5.out.below (below_alloc (Below.refl _ _) _)⟩
              clear hz
              obtain ⟨x3, hx3⟩ : ∃ x, decide (0 ≤ core) = x := ⟨_, rfl⟩
              have hx4 : x3 = true → decide (core ≤ 15) = false := fun e => decide_eq_false (fun q => hcr ⟨of_decide_eq_true (hx3.trans e), by omega⟩)
              clear hcr
              cases x3
              focus
                clear hx4
                go_upto_region 28 with (fail)
                rw [← hw7]
                clear hw7
              rotate_left
              focus
                have hx5 := hx4 rfl
                clear hx4
                go_upto_region 28 with (fail)
                rw [← hw7]
                clear hw7
            all_goals
              generalize w5.heap.size = q8 at *
              have LT7 := Aside0.mk (blk_lt HK7.out)
              have LT8 := Aside0.mk (blk_lt HK8.out)
              have C0 := Aside0.mk ((blk_cell HK7.out 0).trans rfl)
              have C1 := Aside0.mk ((blk_cell HK7.out 1).trans rfl)
              have C2 := Aside0.mk ((blk_cell HK7.out 2).trans rfl)
              have C3 := Aside0.mk ((blk_cell HK7.out 3).trans rfl)
              have C4 := Aside0.mk ((blk_cell HK7.out 4).trans rfl)
              have D0 := Aside0.mk ((blk_cell HK8.out 0).trans rfl)
              have D1 := Aside0.mk ((blk_cell HK8.out 1).trans rfl)
              have D2 := Aside0.mk ((blk_cell HK8.out 2).trans rfl)
              have D3 := Aside0.mk ((blk_cell HK8.out 3).trans rfl)
              refine wp_region_held_drew (S := fun w' : World => Below w7.heap.size w7 w') (by kernel_rfl) (below_drew1 (Below.refl _ w7)) (fun hHeld => ?_)
              refine wpAnyH_take (i := 0) (v := ?_) (oi := { dst := some 136, op := Op.move (Operand.tmp 11), type := 40, pos := "law.go:60", after := #[], guard := none }) rfl (by kernel_rfl) (by kernel_rfl) (by kernel_rfl) (fun _ _ _ h => h) (Or.inl ⟨by rfl, ?_⟩) hHeld ?_
              rotate_left
              focus (intro w_ hSw; clear hSw; go_simp; try with_reducible rfl)
              (try simp only [Act.put, List.setIfInBounds_toArray, List.set_cons_zero, List.set_cons_succ])
              refine wpAnyH_take (i := 1) (v := ?_) (oi := { dst := some 137, op := Op.move (Operand.tmp 3), type := 3, pos := "law.go:60", after := #[], guard := none }) rfl (by kernel_rfl) (by kernel_rfl) (by kernel_rfl) (fun _ _ _ h => h) (Or.inl ⟨by rfl, ?_⟩) hHeld ?_
              rotate_left
              focus (intro w_ hSw; clear hSw; go_simp; try with_reducible rfl)
              (try simp only [Act.put, List.setIfInBounds_toArray, List.set_cons_zero, List.set_cons_succ])
              refine wpAnyH_take (i := 3) (v := ?_) (oi := { dst := some 139, op := Op.fieldAddr 53 (Operand.tmp 17) 0, type := 0, pos := "law.go:60", after := #[], guard := none }) rfl (by kernel_rfl) (by kernel_rfl) (by kernel_rfl) (fun _ _ _ h => h) (Or.inl ⟨by rfl, ?_⟩) hHeld ?_
              rotate_left
              focus (intro w_ hSw; clear hSw; go_simp; try with_reducible rfl)
              (try simp only [Act.put, List.setIfInBounds_toArray, List.set_cons_zero, List.set_cons_succ])
              refine wpAnyH_take (i := 4) (v := ?_) (oi := { dst := some 140, op := Op.load 3 (Operand.tmp 139), type := 3, pos := "law.go:60", after := #[{ on := 3, ground := Ground.data }], guard := none }) rfl (by kernel_rfl) (by kernel_rfl) (by kernel_rfl) (fun _ _ _ h => h) (Or.inl ⟨by rfl, ?_⟩) hHeld ?_
              rotate_left
              focus (intro w_ hSw; have d0 := (Below.cell hSw (p := ⟨q, 0, none⟩) LT7.out).trans C0.out; clear hSw; go_simp; try with_reducible rfl)
              (try simp only [Act.put, List.setIfInBounds_toArray, List.set_cons_zero, List.set_cons_succ])
              refine wpAnyH_take (i := 5) (v := ?_) (oi := { dst := some 141, op := Op.fieldAddr 53 (Operand.tmp 17) 1, type := 0, pos := "law.go:60", after := #[], guard := none }) rfl (by kernel_rfl) (by kernel_rfl) (by kernel_rfl) (fun _ _ _ h => h) (Or.inl ⟨by rfl, ?_⟩) hHeld ?_
              rotate_left
              focus (intro w_ hSw; clear hSw; go_simp; try with_reducible rfl)
              (try simp only [Act.put, List.setIfInBounds_toArray, List.set_cons_zero, List.set_cons_succ])
              refine wpAnyH_take (i := 6) (v := ?_) (oi := { dst := some 142, op := Op.load 3 (Operand.tmp 141), type := 3, pos := "law.go:60", after := #[{ on := 5, ground := Ground.data }], guard := none }) rfl (by kernel_rfl) (by kernel_rfl) (by kernel_rfl) (fun _ _ _ h => h) (Or.inl ⟨by rfl, ?_⟩) hHeld ?_
              rotate_left
              focus (intro w_ hSw; have d1 := (Below.cell hSw (p := ⟨q, 1, none⟩) LT7.out).trans C1.out; clear hSw; go_simp; try with_reducible rfl)
              (try simp only [Act.put, List.setIfInBounds_toArray, List.set_cons_zero, List.set_cons_succ])
              refine wpAnyH_take (i := 7) (v := ?_) (oi := { dst := some 143, op := Op.fieldAddr 53 (Operand.tmp 17) 2, type := 0, pos := "law.go:60", after := #[], guard := none }) rfl (by kernel_rfl) (by kernel_rfl) (by kernel_rfl) (fun _ _ _ h => h) (Or.inl ⟨by rfl, ?_⟩) hHeld ?_
              rotate_left
              focus (intro w_ hSw; clear hSw; go_simp; try with_reducible rfl)
              (try simp only [Act.put, List.setIfInBounds_toArray, List.set_cons_zero, List.set_cons_succ])
              refine wpAnyH_take (i := 8) (v := ?_) (oi := { dst := some 144, op := Op.load 3 (Operand.tmp 143), type := 3, pos := "law.go:60", after := #[{ on := 7, ground := Ground.data }], guard := none }) rfl (by kernel_rfl) (by kernel_rfl) (by kernel_rfl) (fun _ _ _ h => h) (Or.inl ⟨by rfl, ?_⟩) hHeld ?_
              rotate_left
              focus (intro w_ hSw; have d2 := (Below.cell hSw (p := ⟨q, 2, none⟩) LT7.out).trans C2.out; clear hSw; go_simp; try with_reducible rfl)
              (try simp only [Act.put, List.setIfInBounds_toArray, List.set_cons_zero, List.set_cons_succ])
              refine wpAnyH_take (i := 9) (v := ?_) (oi := { dst := some 145, op := Op.fieldAddr 53 (Operand.tmp 17) 3, type := 0, pos := "law.go:60", after := #[], guard := none }) rfl (by kernel_rfl) (by kernel_rfl) (by kernel_rfl) (fun _ _ _ h => h) (Or.inl ⟨by rfl, ?_⟩) hHeld ?_
              rotate_left
              focus (intro w_ hSw; clear hSw; go_simp; try with_reducible rfl)
              (try simp only [Act.put, List.setIfInBounds_toArray, List.set_cons_zero, List.set_cons_succ])
              refine wpAnyH_take (i := 10) (v := ?_) (oi := { dst := some 146, op := Op.load 3 (Operand.tmp 145), type := 3, pos := "law.go:60", after := #[{ on := 9, ground := Ground.data }], guard := none }) rfl (by kernel_rfl) (by kernel_rfl) (by kernel_rfl) (fun _ _ _ h => h) (Or.inl ⟨by rfl, ?_⟩) hHeld ?_
              rotate_left
              focus (intro w_ hSw; have d3 := (Below.cell hSw (p := ⟨q, 3, none⟩) LT7.out).trans C3.out; clear hSw; go_simp; try with_reducible rfl)
              (try simp only [Act.put, List.setIfInBounds_toArray, List.set_cons_zero, List.set_cons_succ])
              refine wpAnyH_take (i := 11) (v := ?_) (oi := { dst := some 147, op := Op.fieldAddr 53 (Operand.tmp 17) 4, type := 0, pos := "law.go:60", after := #[], guard := none }) rfl (by kernel_rfl) (by kernel_rfl) (by kernel_rfl) (fun _ _ _ h => h) (Or.inl ⟨by rfl, ?_⟩) hHeld ?_
              rotate_left
              focus (intro w_ hSw; clear hSw; go_simp; try with_reducible rfl)
              (try simp only [Act.put, List.setIfInBounds_toArray, List.set_cons_zero, List.set_cons_succ])
              refine wpAnyH_take (i := 12) (v := ?_) (oi := { dst := some 148, op := Op.load 3 (Operand.tmp 147), type := 3, pos := "law.go:60", after := #[{ on := 11, ground := Ground.data }], guard := none }) rfl (by kernel_rfl) (by kernel_rfl) (by kernel_rfl) (fun _ _ _ h => h) (Or.inl ⟨by rfl, ?_⟩) hHeld ?_
              rotate_left
              focus (intro w_ hSw; have d4 := (Below.cell hSw (p := ⟨q, 4, none⟩) LT7.out).trans C4.out; clear hSw; go_simp; try with_reducible rfl)
              (try simp only [Act.put, List.setIfInBounds_toArray, List.set_cons_zero, List.set_cons_succ])
              refine wpAnyH_take (i := 13) (v := ?_) (oi := { dst := some 149, op := Op.build 49 #[(0, Operand.tmp 140), (1, Operand.tmp 142), (2, Operand.tmp 144), (3, Operand.tmp 146), (4, Operand.tmp 148)], type := 49, pos := "law.go:60", after := #[{ on := 4, ground := Ground.data }, { on := 6, ground := Ground.data }, { on := 8, ground := Ground.data }, { on := 10, ground := Ground.data }, { on := 12, ground := Ground.data }], guard := none }) rfl (by kernel_rfl) (by kernel_rfl) (by kernel_rfl) (fun _ _ _ h => h) (Or.inl ⟨by rfl, ?_⟩) hHeld ?_
              rotate_left
              focus (intro w_ hSw; clear hSw; go_simp; try with_reducible rfl)
              (try simp only [Act.put, List.setIfInBounds_toArray, List.set_cons_zero, List.set_cons_succ])
              refine wpAnyH_ready (rs := [2]) (by kernel_rfl) (by simp) ?_
              refine AllReadyH.cons (o := { dst := some 138, op := Op.call { callee := Callee.value (Operand.func 31), args := #[Operand.tmp 136, Operand.tmp 137], argTypes := #[40, 3] }, type := 49, pos := "law.go:60", after := #[{ on := 0, ground := Ground.data }, { on := 1, ground := Ground.data }], guard := none }) rfl (fun K hK => ?_) AllReadyH.nil
              go_simp
              with_reducible refine (task_lit (HC7.out.below hHeld).t id HTO.out).mono ?_
              rintro e w8 ⟨rfl, hb8⟩
              have HB8 := Aside0.mk (below_step hHeld hb8)
              clear hb8
              refine hK.out _ _ ?_ (fun hHeld => ?_)
              · exact HB8.out
              clear hK K
              (try simp only [Act.put, List.setIfInBounds_toArray, List.set_cons_zero, List.set_cons_succ])
              refine wpAnyH_take (i := 14) (v := ?_) (oi := { dst := some 150, op := Op.binOp BinOp.eql 49 (Operand.tmp 138) (Operand.tmp 149) 49, type := 4, pos := "law.go:60", after := #[{ on := 2, ground := Ground.data }, { on := 13, ground := Ground.data }], guard := none }) rfl (by kernel_rfl) (by kernel_rfl) (by kernel_rfl) (fun _ _ _ h => h) (Or.inl ⟨by rfl, ?_⟩) hHeld ?_
              rotate_left
              focus (intro w_ hSw; clear hSw; go_simp; try with_reducible rfl)
              (try simp only [Act.put, List.setIfInBounds_toArray, List.set_cons_zero, List.set_cons_succ])
              refine wpAnyH_take (i := 15) (v := ?_) (oi := { dst := some 151, op := Op.move (Operand.tmp 150), type := 4, pos := "law.go:60", after := #[{ on := 14, ground := Ground.data }, { on := 2, ground := Ground.chain }], guard := none }) rfl (by kernel_rfl) (by kernel_rfl) (by kernel_rfl) (fun _ _ _ h => h) (Or.inl ⟨by rfl, ?_⟩) hHeld ?_
              rotate_left
              focus (intro w_ hSw; clear hSw; go_simp; try with_reducible rfl)
              (try simp only [Act.put, List.setIfInBounds_toArray, List.set_cons_zero, List.set_cons_succ])
              refine wpAnyH_take (i := 16) (v := ?_) (oi := { dst := some 152, op := Op.move (Operand.tmp 11), type := 40, pos := "law.go:60", after := #[{ on := 15, ground := Ground.guard }], guard := some (15, true) }) rfl (by kernel_rfl) (by kernel_rfl) (by kernel_rfl) (fun _ _ _ h => h) (Or.inl ⟨by rfl, ?_⟩) hHeld ?_
              rotate_left
              focus (intro w_ hSw; clear hSw; go_simp; try with_reducible rfl)
              (try simp only [Act.put, List.setIfInBounds_toArray, List.set_cons_zero, List.set_cons_succ])
              refine wpAnyH_take (i := 17) (v := ?_) (oi := { dst := some 153, op := Op.move (Operand.tmp 4), type := 3, pos := "law.go:60", after := #[{ on := 15, ground := Ground.guard }], guard := some (15, true) }) rfl (by kernel_rfl) (by kernel_rfl) (by kernel_rfl) (fun _ _ _ h => h) (Or.inl ⟨by rfl, ?_⟩) hHeld ?_
              rotate_left
              focus (intro w_ hSw; clear hSw; go_simp; try with_reducible rfl)
              (try simp only [Act.put, List.setIfInBounds_toArray, List.set_cons_zero, List.set_cons_succ])
              refine wpAnyH_take (i := 19) (v := ?_) (oi := { dst := some 155, op := Op.fieldAddr 55 (Operand.tmp 18) 0, type := 0, pos := "law.go:60", after := #[{ on := 15, ground := Ground.guard }], guard := some (15, true) }) rfl (by kernel_rfl) (by kernel_rfl) (by kernel_rfl) (fun _ _ _ h => h) (Or.inl ⟨by rfl, ?_⟩) hHeld ?_
              rotate_left
              focus (intro w_ hSw; clear hSw; go_simp; try with_reducible rfl)
              (try simp only [Act.put, List.setIfInBounds_toArray, List.set_cons_zero, List.set_cons_succ])
              refine wpAnyH_take (i := 20) (v := ?_) (oi := { dst := some 156, op := Op.load 3 (Operand.tmp 155), type := 3, pos := "law.go:60", after := #[{ on := 19, ground := Ground.data }, { on := 15, ground := Ground.guard }], guard := some (15, true) }) rfl (by kernel_rfl) (by kernel_rfl) (by kernel_rfl) (fun _ _ _ h => h) (Or.inl ⟨by rfl, ?_⟩) hHeld ?_
              rotate_left
              focus (intro w_ hSw; have d0 := (Below.cell hSw (p := ⟨q8, 0, none⟩) LT8.out).trans D0.out; clear hSw; go_simp; try with_reducible rfl)
              (try simp only [Act.put, List.setIfInBounds_toArray, List.set_cons_zero, List.set_cons_succ])
              refine wpAnyH_take (i := 21) (v := ?_) (oi := { dst := some 157, op := Op.fieldAddr 55 (Operand.tmp 18) 1, type := 0, pos := "law.go:60", after := #[{ on := 15, ground := Ground.guard }], guard := some (15, true) }) rfl (by kernel_rfl) (by kernel_rfl) (by kernel_rfl) (fun _ _ _ h => h) (Or.inl ⟨by rfl, ?_⟩) hHeld ?_
              rotate_left
              focus (intro w_ hSw; clear hSw; go_simp; try with_reducible rfl)
              (try simp only [Act.put, List.setIfInBounds_toArray, List.set_cons_zero, List.set_cons_succ])
              refine wpAnyH_take (i := 22) (v := ?_) (oi := { dst := some 158, op := Op.load 3 (Operand.tmp 157), type := 3, pos := "law.go:60", after := #[{ on := 21, ground := Ground.data }, { on := 15, ground := Ground.guard }], guard := some (15, true) }) rfl (by kernel_rfl) (by kernel_rfl) (by kernel_rfl) (fun _ _ _ h => h) (Or.inl ⟨by rfl, ?_⟩) hHeld ?_
              rotate_left
              focus (intro w_ hSw; have d1 := (Below.cell hSw (p := ⟨q8, 1, none⟩) LT8.out).trans D1.out; clear hSw; go_simp; try with_reducible rfl)
              (try simp only [Act.put, List.setIfInBounds_toArray, List.set_cons_zero, List.set_cons_succ])
              refine wpAnyH_take (i := 23) (v := ?_) (oi := { dst := some 159, op := Op.fieldAddr 55 (Operand.tmp 18) 2, type := 0, pos := "law.go:60", after := #[{ on := 15, ground := Ground.guard }], guard := some (15, true) }) rfl (by kernel_rfl) (by kernel_rfl) (by kernel_rfl) (fun _ _ _ h => h) (Or.inl ⟨by rfl, ?_⟩) hHeld ?_
              rotate_left
              focus (intro w_ hSw; clear hSw; go_simp; try with_reducible rfl)
              (try simp only [Act.put, List.setIfInBounds_toArray, List.set_cons_zero, List.set_cons_succ])
              refine wpAnyH_take (i := 24) (v := ?_) (oi := { dst := some 160, op := Op.load 3 (Operand.tmp 159), type := 3, pos := "law.go:60", after := #[{ on := 23, ground := Ground.data }, { on := 15, ground := Ground.guard }], guard := some (15, true) }) rfl (by kernel_rfl) (by kernel_rfl) (by kernel_rfl) (fun _ _ _ h => h) (Or.inl ⟨by rfl, ?_⟩) hHeld ?_
              rotate_left
              focus (intro w_ hSw; have d2 := (Below.cell hSw (p := ⟨q8, 2, none⟩) LT8.out).trans D2.out; clear hSw; go_simp; try with_reducible rfl)
              (try simp only [Act.put, List.setIfInBounds_toArray, List.set_cons_zero, List.set_cons_succ])
              refine wpAnyH_take (i := 25) (v := ?_) (oi := { dst := some 161, op := Op.fieldAddr 55 (Operand.tmp 18) 3, type := 0, pos := "law.go:60", after := #[{ on := 15, ground := Ground.guard }], guard := some (15, true) }) rfl (by kernel_rfl) (by kernel_rfl) (by kernel_rfl) (fun _ _ _ h => h) (Or.inl ⟨by rfl, ?_⟩) hHeld ?_
              rotate_left
              focus (intro w_ hSw; clear hSw; go_simp; try with_reducible rfl)
              (try simp only [Act.put, List.setIfInBounds_toArray, List.set_cons_zero, List.set_cons_succ])
              refine wpAnyH_take (i := 26) (v := ?_) (oi := { dst := some 162, op := Op.load 3 (Operand.tmp 161), type := 3, pos := "law.go:60", after := #[{ on := 25, ground := Ground.data }, { on := 15, ground := Ground.guard }], guard := some (15, true) }) rfl (by kernel_rfl) (by kernel_rfl) (by kernel_rfl) (fun _ _ _ h => h) (Or.inl ⟨by rfl, ?_⟩) hHeld ?_
              rotate_left
              focus (intro w_ hSw; have d3 := (Below.cell hSw (p := ⟨q8, 3, none⟩) LT8.out).trans D3.out; clear hSw; go_simp; try with_reducible rfl)
              (try simp only [Act.put, List.setIfInBounds_toArray, List.set_cons_zero, List.set_cons_succ])
              refine wpAnyH_take (i := 27) (v := ?_) (oi := { dst := some 163, op := Op.build 45 #[(0, Operand.tmp 156), (1, Operand.tmp 158), (2, Operand.tmp 160), (3, Operand.tmp 162)], type := 45, pos := "law.go:60", after := #[{ on := 20, ground := Ground.data }, { on := 22, ground := Ground.data }, { on := 24, ground := Ground.data }, { on := 26, ground := Ground.data }, { on := 15, ground := Ground.guard }], guard := some (15, true) }) rfl (by kernel_rfl) (by kernel_rfl) (by kernel_rfl) (fun _ _ _ h => h) (Or.inl ⟨by rfl, ?_⟩) hHeld ?_
              rotate_left
              focus (intro w_ hSw; clear hSw; go_simp; try with_reducible rfl)
              (try simp only [Act.put, List.setIfInBounds_toArray, List.set_cons_zero, List.set_cons_succ])
              refine wpAnyH_ready (rs := [18]) (by kernel_rfl) (by simp) ?_
              refine AllReadyH.cons (o := { dst := some 154, op := Op.call { callee := Callee.value (Operand.func 29), args := #[Operand.tmp 152, Operand.tmp 153], argTypes := #[40, 3] }, type := 45, pos := "law.go:60", after := #[{ on := 16, ground := Ground.data }, { on := 17, ground := Ground.data }, { on := 15, ground := Ground.chain }, { on := 15, ground := Ground.guard }], guard := some (15, true) }) rfl (fun K hK => ?_) AllReadyH.nil
              go_simp
              with_reducible refine (core_lit' (HC7.out.below hHeld).t core HCO.out).mono ?_
              rintro e w9 ⟨rfl, hb9⟩
              have HB9 := Aside0.mk (below_step hHeld hb9)
              clear hb9
              refine hK.out _ _ ?_ (fun hHeld => ?_)
              · exact HB9.out
              clear hK K
              (try simp only [Act.put, List.setIfInBounds_toArray, List.set_cons_zero, List.set_cons_succ])
              refine wpAnyH_take (i := 28) (v := ?_) (oi := { dst := some 164, op := Op.binOp BinOp.eql 45 (Operand.tmp 154) (Operand.tmp 163) 45, type := 4, pos := "law.go:60", after := #[{ on := 18, ground := Ground.data }, { on := 27, ground := Ground.data }, { on := 15, ground := Ground.guard }], guard := some (15, true) }) rfl (by kernel_rfl) (by kernel_rfl) (by kernel_rfl) (fun _ _ _ h => h) (Or.inl ⟨by rfl, ?_⟩) hHeld ?_
              rotate_left
              focus (intro w_ hSw; clear hSw; go_simp; try with_reducible rfl)
              (try simp only [Act.put, List.setIfInBounds_toArray, List.set_cons_zero, List.set_cons_succ])
              refine wpAnyH_take (i := 29) (v := ?_) (oi := { dst := some 165, op := Op.pick (Operand.tmp 151) (Operand.tmp 164) (Operand.const (Value.bool false)), type := 4, pos := "law.go:60", after := #[{ on := 15, ground := Ground.data }, { on := 28, ground := Ground.data }], guard := none }) rfl (by kernel_rfl) (by kernel_rfl) (by kernel_rfl) (fun _ _ _ h => h) (Or.inl ⟨by rfl, ?_⟩) hHeld ?_
              rotate_left
              focus (intro w_ hSw; clear hSw; go_simp; try with_reducible rfl)
              (try simp only [Act.put, List.setIfInBounds_toArray, List.set_cons_zero, List.set_cons_succ])
              refine wpAnyH_take (i := 30) (v := ?_) (oi := { dst := some 166, op := Op.move (Operand.tmp 165), type := 4, pos := "law.go:60", after := #[{ on := 29, ground := Ground.data }, { on := 18, ground := Ground.chain }], guard := none }) rfl (by kernel_rfl) (by kernel_rfl) (by kernel_rfl) (fun _ _ _ h => h) (Or.inl ⟨by rfl, ?_⟩) hHeld ?_
              rotate_left
              focus (intro w_ hSw; clear hSw; go_simp; try with_reducible rfl)
              (try simp only [Act.put, List.setIfInBounds_toArray, List.set_cons_zero, List.set_cons_succ])
              refine wpAnyH_ready (rs := [31]) (by kernel_rfl) (by simp) ?_
              refine AllReadyH.cons (o := { dst := some 167, op := Op.call { callee := Callee.value (Operand.func 27), args := #[], argTypes := #[] }, type := 4, pos := "law.go:60", after := #[{ on := 30, ground := Ground.chain }, { on := 30, ground := Ground.guard }], guard := some (30, true) }) rfl (fun K hK => ?_) AllReadyH.nil
              go_simp
              with_reducible refine (awake _).mono ?_
              rintro e w10 ⟨rfl, hb10⟩
              have HB10 := Aside0.mk (below_step hHeld hb10)
              clear hb10
              refine hK.out _ _ ?_ (fun hHeld => ?_)
              · exact HB10.out
              clear hK K
              (try simp only [Act.put, List.setIfInBounds_toArray, List.set_cons_zero, List.set_cons_succ])
              refine wpAnyH_take (i := 32) (v := ?_) (oi := { dst := some 168, op := Op.pick (Operand.tmp 166) (Operand.tmp 167) (Operand.const (Value.bool false)), type := 4, pos := "law.go:60", after := #[{ on := 30, ground := Ground.data }, { on := 31, ground := Ground.data }], guard := none }) rfl (by kernel_rfl) (by kernel_rfl) (by kernel_rfl) (fun _ _ _ h => h) (Or.inl ⟨by rfl, ?_⟩) hHeld ?_
              rotate_left
              focus (intro w_ hSw; clear hSw; go_simp; try with_reducible rfl)
              (try simp only [Act.put, List.setIfInBounds_toArray, List.set_cons_zero, List.set_cons_succ])
              refine wpAnyH_take (i := 33) (v := ?_) (oi := { dst := some 10, op := Op.assign (Operand.tmp 168), type := 4, pos := "law.go:60", after := #[{ on := 32, ground := Ground.data }, { on := 31, ground := Ground.chain }, { on := 0, ground := Ground.phase }, { on := 1, ground := Ground.phase }, { on := 2, ground := Ground.phase }, { on := 3, ground := Ground.phase }, { on := 4, ground := Ground.phase }, { on := 5, ground := Ground.phase }, { on := 6, ground := Ground.phase }, { on := 7, ground := Ground.phase }, { on := 8, ground := Ground.phase }, { on := 9, ground := Ground.phase }, { on := 10, ground := Ground.phase }, { on := 11, ground := Ground.phase }, { on := 12, ground := Ground.phase }, { on := 13, ground := Ground.phase }, { on := 14, ground := Ground.phase }, { on := 15, ground := Ground.phase }, { on := 16, ground := Ground.phase }, { on := 17, ground := Ground.phase }, { on := 18, ground := Ground.phase }, { on := 19, ground := Ground.phase }, { on := 20, ground := Ground.phase }, { on := 21, ground := Ground.phase }, { on := 22, ground := Ground.phase }, { on := 23, ground := Ground.phase }, { on := 24, ground := Ground.phase }, { on := 25, ground := Ground.phase }, { on := 26, ground := Ground.phase }, { on := 27, ground := Ground.phase }, { on := 28, ground := Ground.phase }, { on := 29, ground := Ground.phase }, { on := 30, ground := Ground.phase }, { on := 31, ground := Ground.phase }, { on := 32, ground := Ground.phase }], guard := none }) rfl (by kernel_rfl) (by kernel_rfl) (by kernel_rfl) (fun _ _ _ h => h) (Or.inl ⟨by rfl, ?_⟩) hHeld ?_
              rotate_left
              focus (intro w_ hSw; clear hSw; go_simp; try with_reducible rfl)
              (try simp only [Act.put, List.setIfInBounds_toArray, List.set_cons_zero, List.set_cons_succ])
              refine wpAnyH_done (by kernel_rfl) ?_ _
              go_wp2
              go_ret
              exact ⟨rfl, below_step HC7.out.bl HB10.out⟩
end Go.Proofs.Ytgfkcmmhnibaiaa.Ac
