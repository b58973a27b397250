/- AccountAll, walked by hand. -/
import Derived.Test.YtgfkcmmhnibaiaaAc5
import Derived.Test.YtgfkcmmhnibaiaaAc7
namespace Go.Proofs.Ytgfkcmmhnibaiaa.Ac
open Go.RowKit Go.Proofs.YtgfkcmmhnibaiaaW.PrintWords Go.Proofs.YtgfkcmmhnibaiaaW.PrintLast Go.Proofs.YtgfkcmmhnibaiaaW.PrintMore Pt
set_option linter.unusedVariables false
set_option linter.unusedSimpArgs false
section
variable {w : World} {F : Nat → Prop} {g m : Nat} {s : Ac}
theorem core_lit (h : Rep w F g s) (j : Nat) {b d ch tk : Int} (hc : coreOf s (j : Int) = ⟨b, d, ch, tk⟩) : Calls Try.prog 29 #[.pointer (some ⟨g, 0, none⟩), .int .i64 (j : Int)] w fun e w' => e = .returned (.agg #[.int .i64 b, .int .i64 d, .int .i64 ch, .int .i64 tk]) ∧ Below w.heap.size w w' := by
  have q := core_of h j
  rw [hc] at q
  exact q
theorem task_lit (h : Rep w F g s) (j : Int) {t0 t1 t2 t3 t4 : Int} (ht : taskOf s j = ⟨t0, t1, t2, t3, t4⟩) : Calls Try.prog 31 #[.pointer (some ⟨g, 0, none⟩), .int .i64 j] w fun e w' => e = .returned (.agg #[.int .i64 t0, .int .i64 t1, .int .i64 t2, .int .i64 t3, .int .i64 t4]) ∧ Below w.heap.size w w' := by
  have q := task_of h j
  rw [ht] at q
  exact q
theorem ticks_quiet (h : Rep w F g s) (t : Int) (ht : s.ticks = t) (n : Nat) : Calls Try.prog 30 #[.pointer (some ⟨g, 0, none⟩)] (w.drewN n) fun e w' => e = .returned (.int .i64 t) ∧ w' = w.drewN n :=
  (ticks_calls (h.drewN n)).mono fun e w' q => ⟨by rw [q.1, ht], q.2.symm⟩
/-- A row that came in lies apart. -/
theorem came {A : Option Addr} {l : List Int} {w0 : World} (hr : Kd.C (Kd.int .i64) w0 A l.length l) (hl : rightRow l = true) (hb : Below w0.heap.size w0 w) (hF : ∀ k, F k → w0.heap.size ≤ k) : ∀ ad, A = some ad → ¬ F ad.block ∧ ad.block < w.heap.size := by
  intro ad e
  obtain ⟨ad', e', hx⟩ := Kd.at_int hr 0 (by omega) (by have := (right_at hl).1; omega)
  cases e.symm.trans e'
  have := World.block_lt_of_cell? w0 _ hx
  rw [add_block] at this
  exact ⟨fun hf => by have := hF _ hf; omega, Nat.lt_of_lt_of_le this hb.size⟩
end
set_option maxHeartbeats 8000000 in
set_option maxRecDepth 100000 in
theorem all (a0 : Int) (A1 : Option Addr) (c1 : Nat) (l1 : List (List Int)) (w : World) (hr : Kd.C (Kd.slice 3 (Kd.int .i64)) w A1 l1.length l1) (hm : l1.length ≤ maxLen) :
    Calls Try.prog 5 #[.int .i64 a0, .slice A1 l1.length c1] w fun e w' => e = .returned (.bool true) ∧ Below w.heap.size w w' := by
  have HR := Aside0.mk hr
  have HM := Aside0.mk hm
  clear hr hm
  by_cases c0 : a0 < 2 ∨ 64 < a0
  · have HN := Aside0.mk c0
    by_cases c2 : a0 < 2
    · have d1 : decide (a0 < 2) = true := decide_eq_true c2
      clear c0 c2
      go_enter Try.func5, Try.ntmps5
      go_wp2_with (first
        | (go_at_call 26; (with_reducible refine (new_bad a0 HN.out _).mono ?_); rintro e w1 ⟨rfl, rfl⟩)
        | (go_at_call 27; (with_reducible refine (awake _).mono ?_); rintro e w1 ⟨rfl, hb⟩; have HB := Aside0.mk hb; clear hb))
      go_ret
      exact ⟨rfl, HB.out⟩
    · have d1 : decide (a0 < 2) = false := decide_eq_false c2
      have d2 : decide (64 < a0) = true := decide_eq_true (by omega)
      clear c0 c2
      go_enter Try.func5, Try.ntmps5
      go_wp2_with (first
        | (go_at_call 26; (with_reducible refine (new_bad a0 HN.out _).mono ?_); rintro e w1 ⟨rfl, rfl⟩)
        | (go_at_call 27; (with_reducible refine (awake _).mono ?_); rintro e w1 ⟨rfl, hb⟩; have HB := Aside0.mk hb; clear hb))
      go_ret
      exact ⟨rfl, HB.out⟩
  have H1 := Aside0.mk (show 2 ≤ a0 by omega)
  have H2 := Aside0.mk (show a0 ≤ 64 by omega)
  clear c0
  go_enter Try.func5, Try.ntmps5
  go_wp2_with (go_at_call 26; (with_reducible refine (new_ok a0 H1.out H2.out _).mono ?_); rintro e w1 ⟨g, rfl, hr1, hb1⟩; have HR1 := Aside0.mk hr1.bound; have HB1 := Aside0.mk hb1; clear hr1 hb1)
  obtain ⟨F, hF⟩ : ∃ F : Nat → Prop, F = fun k => w.heap.size ≤ k ∧ k < w1.heap.size := ⟨_, rfl⟩
  have HF := Aside0.mk (show ∀ k, F k → w.heap.size ≤ k by rw [hF]; exact fun k hk => hk.1)
  rw [← hF] at HR1
  clear hF
  have HI1 := Aside0.mk (InvJ.new a0)
  go_loopg [7] 151 (fun kq v7 w' => ∃ (i n : Nat) (s : Ac), v7 = .int .i64 (i : Int) ∧ Aside0 (i + kq = 151) ∧ Aside0 (i ≤ 150) ∧ Aside0 (n ≤ i) ∧ Aside0 (InvJ s n 0) ∧ Aside0 (Rep w' F g s) ∧ Aside0 (Below w.heap.size w w'))
  case atStart => exact ⟨0, 0, newA a0, rfl, ⟨by omega⟩, ⟨by omega⟩, ⟨Nat.le_refl _⟩, HI1, HR1, HB1⟩
  case round =>
    clear HI1 HR1 HB1
    obtain ⟨i, n, s, rfl, HK, HI, HNI, HV, HX, HB⟩ := hrel
    cases gk with
    | zero => exact absurd HK.out (by have := HI.out; omega)
    | succ k1 =>
      by_cases cc : i < l1.length ∧ i < 150
      · obtain ⟨ca, cb⟩ := cc
        have d3 : decide ((i : Int) < (l1.length : Int)) = true := decide_eq_true (by omega)
        have d4 : decide (i < l1.length) = true := decide_eq_true ca
        have d5 : decide ((i : Int) < 150) = true := decide_eq_true (by omega)
        have d6 : decide (i < 150) = true := decide_eq_true cb
        have p0 := eq_true (show (0 : Int) ≤ (i : Int) by omega)
        have p1 := eq_true (show (i : Int) < (l1.length : Int) by omega)
        have HIL := Aside0.mk cb
        obtain ⟨ad, A0, c0, ead, hx, hl0, hi0⟩ := PAcc.at_L1 (Kd.C_below HR.out HB.out) (i : Int) (by omega) (by omega)
        obtain ⟨ad', A0', c0', ead', hx', hl0', hi0'⟩ := PAcc.at_L1 HR.out (i : Int) (by omega) (by omega)
        cases ead
        cases ead'
        have hxx := (pw_cell_below HB.out hx').symm.trans hx
        rw [Int.toNat_natCast] at hx
        generalize PAcc.rd_L1 l1 (i : Int) = r at *
        cases hxx
        have HL0 := Aside0.mk hl0
        have HI0 := Aside0.mk hi0
        have HI0' := Aside0.mk hi0'
        clear ca cb hx' hl0 hl0' hi0 hi0'
        by_cases c100 : r.length ≤ 100
        · have d7 : decide ((r.length : Int) ≤ 100) = true := decide_eq_true (by omega)
          have d8 : decide (r.length ≤ 100) = true := decide_eq_true c100
          have HRL := Aside0.mk (show r.length ≤ 9223372036854775807 by omega)
          clear c100
          by_cases hrr : rightRow r = true
          · have HRR := Aside0.mk hrr
            have HT0 := Aside0.mk (show 0 ≤ s.ticks by rw [HV.out.ticks]; omega)
            have HT1 := Aside0.mk (show s.ticks < 1000000 by rw [HV.out.ticks]; have := HV.out.few; omega)
            clear hrr
            go_wp2_with (go_at_call 28; (with_reducible refine (add_yes HX.out A0 c0 r HI0.out (came HI0'.out HRR.out HB.out HF.out) HL0.out HRR.out HT0.out HT1.out).mono ?_); rintro e w2 ⟨rfl, hr2, ht2⟩; have HR2 := Aside0.mk hr2; have HT2 := Aside0.mk ht2; clear hr2 ht2)
            go_roundg k1
            case measure => omega
            case rel => exact ⟨i + 1, n + 1, _, (by congr 1; unfold wrap64; have := HIL.out; omega), ⟨by have := HK.out; omega⟩, ⟨by have := HIL.out; omega⟩, ⟨by have := HNI.out; omega⟩, ⟨HV.out.add (by have := HNI.out; have := HI.out; omega) HRR.out⟩, HR2, ⟨HT2.out.to_below HB.out HB.out.size HF.out⟩⟩
          · have HRR := Aside0.mk (show rightRow r = false by simpa using hrr)
            clear hrr
            go_wp2_with (go_at_call 28; (with_reducible refine (add_no HX.out A0 c0 r HI0.out HL0.out HRL.out HRR.out).mono ?_); rintro e w2 ⟨rfl, rfl⟩)
            go_roundg k1
            case measure => omega
            case rel => exact ⟨i + 1, n, _, (by congr 1; unfold wrap64; have := HIL.out; omega), ⟨by have := HK.out; omega⟩, ⟨by have := HIL.out; omega⟩, ⟨by have := HNI.out; omega⟩, HV, HX, HB⟩
        · have d7 : decide ((r.length : Int) ≤ 100) = false := decide_eq_false (by omega)
          have d8 : decide (r.length ≤ 100) = false := decide_eq_false c100
          clear c100
          go_wp2
          go_roundg k1
          case measure => omega
          case rel => exact ⟨i + 1, n, _, (by congr 1; unfold wrap64; have := HIL.out; omega), ⟨by have := HK.out; omega⟩, ⟨by have := HIL.out; omega⟩, ⟨by have := HNI.out; omega⟩, HV, HX, HB⟩
      · have HCC := Aside0.mk cc
        obtain ⟨b1, hb1⟩ : ∃ b, decide (i < l1.length) = b := ⟨_, rfl⟩
        have hb0 : decide ((i : Int) < (l1.length : Int)) = b1 := by rw [← hb1]; simp
        clear cc
        have HS0 := Aside0.mk (show (0 : Int) = sumR (busyAt s) 0 from rfl)
        obtain ⟨wo, hwo⟩ : ∃ wo, wo = wr := ⟨_, rfl⟩
        rw [← hwo] at HX HB
        rw [← hwo]
        clear hwo
        cases b1
        rotate_left
        have d5 : decide (i < 150) = false := decide_eq_false (fun q => HCC.out ⟨of_decide_eq_true hb1, q⟩)
        have d6 : decide ((i : Int) < 150) = false := decide_eq_false (fun q => HCC.out ⟨of_decide_eq_true hb1, by omega⟩)
        all_goals
          clear HCC
          go_wp2
          go_loopg [8, 9] 17 (fun kq v8 v9 w' => ∃ c : Nat, v9 = .int .i64 (c : Int) ∧ v8 = .int .i64 (sumR (busyAt s) c) ∧ Aside0 (c + kq = 17) ∧ Aside0 (c ≤ 16) ∧ Aside0 (Rep w' F g s) ∧ Aside0 (Below w.heap.size w w'))
          case atStart => exact ⟨0, rfl, rfl, ⟨by omega⟩, ⟨by omega⟩, HX, HB⟩
          case round =>
            obtain ⟨c, rfl, rfl, HKc, HIc, HXc, HBc⟩ := hrel
            cases gk with
            | zero => exact absurd HKc.out (by have := HIc.out; omega)
            | succ k2 =>
              by_cases ccc : c < 16
              · have d7 : decide ((c : Int) < 16) = true := decide_eq_true (by omega)
                have d8 : decide (c < 16) = true := decide_eq_true ccc
                have HCI := Aside0.mk ccc
                obtain ⟨x, hx⟩ : ∃ x, coreOf s (c : Int) = x := ⟨_, rfl⟩
                have hx2 : s.C.getD c ⟨0, 0, 0, 0⟩ = x := by rw [← hx]; unfold coreOf; rw [if_pos (by omega)]; rfl
                have hok := HV.out.core c ccc
                rw [hx2, if_neg (by omega), Int.add_zero] at hok
                have HOK := Aside0.mk hok
                have HXX := Aside0.mk hx
                have HBY := Aside0.mk (show busyAt s c = x.busy by unfold busyAt; rw [hx2])
                clear ccc hx hx2 hok
                obtain ⟨b, d, ch, tk⟩ := x
                have HTT := Aside0.mk HV.out.ticks
                have hok := HOK.out
                unfold CoreOk at hok
                dsimp only at hok
                have hfew := HV.out.few
                have hsb : 0 ≤ sumR (busyAt s) c ∧ sumR (busyAt s) c ≤ 16016 := by
                  have h1 := sumR_le (f := fun _ => 0) (g := busyAt s) c (fun j hj => by have := HV.out.core j (by have := HCI.out; omega); unfold CoreOk at this; exact this.1)
                  have h2 := sumR_le (f := busyAt s) (g := fun _ => 1001) c (fun j hj => by have := HV.out.core j (by have := HCI.out; omega); unfold CoreOk at this; unfold busyAt; split at this <;> omega)
                  rw [sumR_const] at h1 h2
                  have := HCI.out
                  omega
                have HSU : Aside0 (Value.int .i64 (sumR (busyAt s) c + b) = .int .i64 (sumR (busyAt s) (c + 1))) := ⟨by rw [sumR, HBY.out]⟩
                have hsum : IntKind.i64.wrap (b + d) = (n : Int) := by
                  have e : b + d = (n : Int) := hok.2.2.2.1
                  rw [e]
                  exact IntWalk.i64_in _ (by omega)
                have HB0 := Aside0.mk hsb
                obtain ⟨hb0, hb3, hb4, hb5, hb6⟩ := hok
                clear HOK
                generalize sumR (busyAt s) c = sb at *
                obtain ⟨hs0, hs1⟩ := hsb
                rcases hb6 with ⟨rfl, rfl, rfl⟩ | ⟨e1, e2, e3⟩
                · obtain rfl : d = (n : Int) := by omega
                  have hs2 : IntKind.i64.wrap (n : Int) = (n : Int) := IntWalk.i64_in _ (by omega)
                  clear hb0 hb3 hb4 hb5 hsum
                  go_wp2_with (go_at_call 29; (with_reducible refine (core_lit HXc.out c HXX.out).mono ?_); rintro e w2 ⟨rfl, hb⟩; have HTK := Aside0.mk (fun (o : Obj) (m : Nat) => ticks_quiet ((HXc.out.below hb).below (below_alloc (Below.refl _ _) o)) (n : Int) HTT.out m); have HB2 := Aside0.mk (below_step HBc.out hb); have HX2 := Aside0.mk (HXc.out.below hb); clear hb)
                  go_quiet ((go_at_call 30; exact Calls.quiet_of_same (HTK.out _ _)))
                  go_wp2
                  go_roundg k2
                  case measure => omega
                  case rel => exact ⟨c + 1, (by congr 1; unfold wrap64; have := HCI.out; omega), (by first | exact HSU.out | (have := HSU.out; rwa [Int.add_zero] at this)), ⟨by have := HKc.out; omega⟩, ⟨by have := HCI.out; omega⟩, ⟨HX2.out.below (pw_below_drewN (below_alloc (Below.refl _ _) _) _)⟩, ⟨pw_below_drewN (below_alloc HB2.out _) _⟩⟩
                · have q1 : decide (0 < b) = true := decide_eq_true e1
                  have q2 : decide (b ≤ ch) = false := decide_eq_false (by omega)
                  have q3 : (tk != 0) = true := bne_iff_ne.mpr e3
                  have HQ := Aside0.mk (show b ≤ 1001 by omega)
                  by_cases e4 : 0 < ch
                  · have q4 : decide (0 < ch) = true := decide_eq_true e4
                    have hb9 : b ≤ 1001 := HQ.out
                    clear e1 e2 e3 e4 hb3 hb4 hb5
                    go_wp2_with (go_at_call 29; (with_reducible refine (core_lit HXc.out c HXX.out).mono ?_); rintro e w2 ⟨rfl, hb⟩; have HTK := Aside0.mk (fun (o : Obj) (m : Nat) => ticks_quiet ((HXc.out.below hb).below (below_alloc (Below.refl _ _) o)) (n : Int) HTT.out m); have HB2 := Aside0.mk (below_step HBc.out hb); have HX2 := Aside0.mk (HXc.out.below hb); clear hb)
                    go_quiet ((go_at_call 30; exact Calls.quiet_of_same (HTK.out _ _)))
                    go_wp2
                    go_roundg k2
                    case measure => omega
                    case rel => exact ⟨c + 1, (by congr 1; unfold wrap64; have := HCI.out; omega), (by first | exact HSU.out | (have := HSU.out; rwa [Int.add_zero] at this)), ⟨by have := HKc.out; omega⟩, ⟨by have := HCI.out; omega⟩, ⟨HX2.out.below (pw_below_drewN (below_alloc (Below.refl _ _) _) _)⟩, ⟨pw_below_drewN (below_alloc HB2.out _) _⟩⟩
                  · have q4 : decide (0 < ch) = false := decide_eq_false e4
                    have hb9 : b ≤ 1001 := HQ.out
                    clear e1 e2 e3 e4 hb3 hb4 hb5
                    go_wp2_with (go_at_call 29; (with_reducible refine (core_lit HXc.out c HXX.out).mono ?_); rintro e w2 ⟨rfl, hb⟩; have HTK := Aside0.mk (fun (o : Obj) (m : Nat) => ticks_quiet ((HXc.out.below hb).below (below_alloc (Below.refl _ _) o)) (n : Int) HTT.out m); have HB2 := Aside0.mk (below_step HBc.out hb); have HX2 := Aside0.mk (HXc.out.below hb); clear hb)
                    go_quiet ((go_at_call 30; exact Calls.quiet_of_same (HTK.out _ _)))
                    go_wp2
                    go_roundg k2
                    case measure => omega
                    case rel => exact ⟨c + 1, (by congr 1; unfold wrap64; have := HCI.out; omega), (by first | exact HSU.out | (have := HSU.out; rwa [Int.add_zero] at this)), ⟨by have := HKc.out; omega⟩, ⟨by have := HCI.out; omega⟩, ⟨HX2.out.below (pw_below_drewN (below_alloc (Below.refl _ _) _) _)⟩, ⟨pw_below_drewN (below_alloc HB2.out _) _⟩⟩
              · have d7 : decide ((c : Int) < 16) = false := decide_eq_false (by omega)
                have d8 : decide (c < 16) = false := decide_eq_false ccc
                have HS1 : Aside0 (sumR (busyAt s) c = sumR (ticksAt s) 201 - sumR (ticksAt s) 1) := ⟨by
                  have e0 : ticksAt s 0 = 0 := by
                    unfold ticksAt
                    cases hm : s.M ((0 : Nat) : Int) with
                    | none => rfl
                    | some t => exact absurd (HV.out.dom 0 (by rw [show (0 : Int) = ((0 : Nat) : Int) from rfl, hm]; simp)).1 (by omega)
                  have e1 : sumR (ticksAt s) 1 = 0 := by rw [sumR, sumR, e0]; rfl
                  rw [e1, show c = 16 by have := HIc.out; omega, HV.out.sum]
                  omega⟩
                clear ccc
                obtain ⟨wp, hwp⟩ : ∃ wp, wp = wr := ⟨_, rfl⟩
                rw [← hwp] at HXc HBc
                rw [← hwp]
                clear hwp
                go_wp2
                go_loopg [8, 11] 201 (fun kq v8 v11 w' => ∃ x : Nat, v11 = .int .i64 ((x : Int) + 1) ∧ v8 = .int .i64 (sumR (ticksAt s) 201 - sumR (ticksAt s) (x + 1)) ∧ Aside0 (x + kq = 201) ∧ Aside0 (x ≤ 200) ∧ Aside0 (Rep w' F g s) ∧ Aside0 (Below w.heap.size w w'))
                case atStart => exact ⟨0, rfl, by rw [HS1.out], ⟨by omega⟩, ⟨by omega⟩, HXc, HBc⟩
                case round =>
                  obtain ⟨x, rfl, rfl, HKx, HIx, HXx, HBx⟩ := hrel
                  cases gk with
                  | zero => exact absurd HKx.out (by have := HIx.out; omega)
                  | succ k3 =>
                    by_cases cx : x < 200
                    · have d9 : decide ((x : Int) + 1 ≤ 200) = true := decide_eq_true (by omega)
                      have HXI := Aside0.mk cx
                      have hx0 : (0 : Int) ≤ x := by omega
                      have hx1 : (x : Int) < 200 := by omega
                      have hto := HV.out.total
                      have hmo := sumR_mono (f := ticksAt s) (fun i => ticksAt_pos HV.out i) (x + 1) 201 (by omega)
                      have hm1 := sumR_mono (f := ticksAt s) (fun i => ticksAt_pos HV.out i) (x + 1 + 1) 201 (by omega)
                      have hsu : sumR (ticksAt s) (x + 1 + 1) = sumR (ticksAt s) (x + 1) + ticksAt s (x + 1) := rfl
                      have hxx : (((x + 1 : Nat)) : Int) = (x : Int) + 1 := by omega
                      cases hM : s.M ((x : Int) + 1) with
                      | none =>
                        have HTO : Aside0 (taskOf s ((x : Int) + 1) = ⟨0, 0, 0, 0, -1⟩) := ⟨by unfold taskOf; rw [if_pos (by omega), hM]; rfl⟩
                        have HSU : Aside0 (Value.int .i64 (sumR (ticksAt s) 201 - sumR (ticksAt s) (x + 1) - 0) = .int .i64 (sumR (ticksAt s) 201 - sumR (ticksAt s) (x + 1 + 1))) := ⟨by rw [hsu]; unfold ticksAt; rw [hxx, hM]; simp⟩
                        clear hM hsu cx hxx
                        generalize sumR (ticksAt s) (x + 1) = z at *
                        generalize sumR (ticksAt s) 201 = S at *
                        clear hm1
                        go_wp2_with (go_at_call 31; (with_reducible refine (task_lit HXx.out _ HTO.out).mono ?_); rintro e w2 ⟨rfl, hb⟩; have HB2 := Aside0.mk (below_step HBx.out hb); have HX2 := Aside0.mk (HXx.out.below hb); clear hb)
                        go_roundg k3
                        case measure => omega
                        case rel => exact ⟨x + 1, (by first | (congr 1; done) | (congr 1; unfold wrap64; have := HXI.out; omega)), (by first | exact HSU.out | (have := HSU.out; rwa [Int.sub_zero] at this)), ⟨by have := HKx.out; omega⟩, ⟨by have := HXI.out; omega⟩, ⟨HX2.out.below (below_alloc (Below.refl _ _) _)⟩, ⟨below_alloc HB2.out _⟩⟩
                      | some t =>
                        obtain ⟨t0, t1, t2, t3, t4⟩ := t
                        have HTO : Aside0 (taskOf s ((x : Int) + 1) = ⟨t0, t1, t2, t3, t4⟩) := ⟨by unfold taskOf; rw [if_pos (by omega), hM]; rfl⟩
                        have HSU : Aside0 (Value.int .i64 (sumR (ticksAt s) 201 - sumR (ticksAt s) (x + 1) - t0) = .int .i64 (sumR (ticksAt s) 201 - sumR (ticksAt s) (x + 1 + 1))) := ⟨by
                          have e : ticksAt s (x + 1) = t0 := by unfold ticksAt; rw [hxx, hM]; rfl
                          rw [hsu, e]
                          congr 1
                          omega⟩
                        have ht := HV.out.task _ _ hM
                        have hb9 : t0 ≤ 16016 := HV.out.tbound hM
                        unfold TaskOk at ht
                        dsimp only at ht
                        obtain ⟨g1, g2, g3, g4, g5, g6, g7⟩ := ht
                        have q1 : decide (0 < t0) = true := decide_eq_true g1
                        have q2 : decide (t0 ≤ t3) = false := decide_eq_false (by omega)
                        have q3 : decide (t0 < t1 + t2) = false := decide_eq_false (by omega)
                        have q4 : decide (0 ≤ t4) = true := decide_eq_true g7
                        have h12 : 0 ≤ t1 + t2 := by omega
                        have h13 : t1 + t2 ≤ 16016 := by omega
                        clear hM hsu cx hxx
                        generalize sumR (ticksAt s) (x + 1) = z at *
                        generalize sumR (ticksAt s) 201 = S at *
                        clear hm1
                        by_cases e4 : 0 < t3
                        · have q5 : decide (0 < t3) = true := decide_eq_true e4
                          clear e4 g2 g3 g6 g7
                          go_wp2_with (go_at_call 31; (with_reducible refine (task_lit HXx.out _ HTO.out).mono ?_); rintro e w2 ⟨rfl, hb⟩; have HB2 := Aside0.mk (below_step HBx.out hb); have HX2 := Aside0.mk (HXx.out.below hb); clear hb)
                          go_roundg k3
                          case measure => omega
                          case rel => exact ⟨x + 1, (by first | (congr 1; done) | (congr 1; unfold wrap64; have := HXI.out; omega)), (by first | exact HSU.out | (have := HSU.out; rwa [Int.sub_zero] at this)), ⟨by have := HKx.out; omega⟩, ⟨by have := HXI.out; omega⟩, ⟨HX2.out.below (below_alloc (Below.refl _ _) _)⟩, ⟨below_alloc HB2.out _⟩⟩
                        · have q5 : decide (0 < t3) = false := decide_eq_false e4
                          clear e4 g2 g3 g6 g7
                          go_wp2_with (go_at_call 31; (with_reducible refine (task_lit HXx.out _ HTO.out).mono ?_); rintro e w2 ⟨rfl, hb⟩; have HB2 := Aside0.mk (below_step HBx.out hb); have HX2 := Aside0.mk (HXx.out.below hb); clear hb)
                          go_roundg k3
                          case measure => omega
                          case rel => exact ⟨x + 1, (by first | (congr 1; done) | (congr 1; unfold wrap64; have := HXI.out; omega)), (by first | exact HSU.out | (have := HSU.out; rwa [Int.sub_zero] at this)), ⟨by have := HKx.out; omega⟩, ⟨by have := HXI.out; omega⟩, ⟨HX2.out.below (below_alloc (Below.refl _ _) _)⟩, ⟨below_alloc HB2.out _⟩⟩
                    · have d9 : decide ((x : Int) + 1 ≤ 200) = false := decide_eq_false (by omega)
                      have HZ : sumR (ticksAt s) 201 - sumR (ticksAt s) (x + 1) = 0 := by
                        rw [show x + 1 = 201 by have := HIx.out; omega]
                        exact Int.sub_self _
                      rw [HZ]
                      clear HZ cx
                      go_wp2_with (go_at_call 27; (with_reducible refine (awake _).mono ?_); rintro e w2 ⟨rfl, hb⟩; have HBZ := Aside0.mk hb; clear hb)
                      go_ret
                      exact ⟨rfl, below_step HBx.out HBZ.out⟩
end Go.Proofs.Ytgfkcmmhnibaiaa.Ac
