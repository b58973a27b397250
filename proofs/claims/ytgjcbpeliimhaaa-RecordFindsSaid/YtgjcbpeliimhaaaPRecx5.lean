-- Written by a program for this seat's family Rec (wip/tools of this session's repo).
import Derived.Test.YtgjcbpeliimhaaaPRecx0
import Derived.Test.YtgjcbpeliimhaaaPRecx2
import Derived.Test.YtgjcbpeliimhaaaGvAwake10
namespace Go.Proofs.Ytgjcbpeliimhaaa.PRec
open Go.RowKit Go.Proofs.YtgjcbpeliimhaaaW.PrintWords Go.Proofs.YtgjcbpeliimhaaaW.PrintLast Go.Proofs.YtgjcbpeliimhaaaW.PrintMore
attribute [local go_sem] max2_int min2_int max_two min_two max_three min_three max_four min_four   -- for this text's walks alone
set_option linter.unusedVariables false
set_option linter.unusedSimpArgs false

-- NOT PRINTED: function 5 (dogwatchlaw10_RecordBack)

/-! ### dogwatchlaw10_RecordAll: function 6 -/
def dogwatchlaw10_RecordAll.l0 : Nat → List Int → List (S47) → Int → Int → Option (Bool)
  | 0, _, _, _, _ => none
  | k + 1, x0, x3, x4, x5 => if x5 < (x3.length : Int) then (if 0 ≤ x5 then (if ((rd_T47 x3 x5).f0) = x4 then (if ((rd_T47 x3 x5).f1) < 1 then (some false) else (if ((rd_T47 x3 x5).f1) > (wrap64 ((x0.length : Int) - x4)) then (some false) else (dogwatchlaw10_RecordAll.l0 k x0 x3 (wrap64 (x4 + ((rd_T47 x3 x5).f1))) (wrap64 (x5 + 1))))) else (some false)) else (none)) else (if x4 = (x0.length : Int) then ((dogwatchlaw10_awake.f).bind fun t232 => (some t232)) else (some false))
def dogwatchlaw10_RecordAll.f (k : Nat) (l0 : List Int) : Option (Bool) := if (l0.length : Int) > 3000 then ((dogwatchlaw10_awake.f).bind fun t224 => (some t224)) else ((record_Split.f k l0).bind fun t225 => (dogwatchlaw10_RecordAll.l0 k l0 t225 0 0))
theorem dogwatchlaw10_RecordAll.mono_l : ∀ k, (∀ y0 y1 y2 y3, LeO (dogwatchlaw10_RecordAll.l0 k y0 y1 y2 y3) (dogwatchlaw10_RecordAll.l0 (k + 1) y0 y1 y2 y3))
  | 0 => fun _ _ _ _ r h => by simp [dogwatchlaw10_RecordAll.l0] at h
  | k + 1 => by
    have ih0 := dogwatchlaw10_RecordAll.mono_l k
    · intro y0 y1 y2 y3
      unfold dogwatchlaw10_RecordAll.l0
      repeat' first
      | (with_reducible exact ih0 _ _ _ _)
      | (with_reducible exact record_Split.mono _ _)
      | (with_reducible exact LeO.refl _)
      | (with_reducible exact LeO.none _)
      | (with_reducible refine LeO.ite ?_ ?_)
      | (with_reducible refine LeO.bind ?_ (fun _ => ?_))
      | exact ih0 _ _ _ _
      | exact record_Split.mono _ _
      | exact LeO.none _
      | refine LeO.ite ?_ ?_
      | refine LeO.bind ?_ (fun _ => ?_)
theorem dogwatchlaw10_RecordAll.mono : ∀ a0 k, LeO (dogwatchlaw10_RecordAll.f k a0) (dogwatchlaw10_RecordAll.f (k + 1) a0) := by
  intro a0 k
  have ih0 := dogwatchlaw10_RecordAll.mono_l k
  unfold dogwatchlaw10_RecordAll.f
  repeat' first
      | (with_reducible exact ih0 _ _ _ _)
      | (with_reducible exact record_Split.mono _ _)
      | (with_reducible exact LeO.refl _)
      | (with_reducible exact LeO.none _)
      | (with_reducible refine LeO.ite ?_ ?_)
      | (with_reducible refine LeO.bind ?_ (fun _ => ?_))
      | exact ih0 _ _ _ _
      | exact record_Split.mono _ _
      | exact LeO.none _
      | refine LeO.ite ?_ ?_
      | refine LeO.bind ?_ (fun _ => ?_)
set_option maxHeartbeats 8000000 in
set_option maxRecDepth 100000 in
theorem dogwatchlaw10_RecordAll.calls (k : Nat) (A0 : Option Addr) (c0 : Nat) (l0 : List Int) (r : Bool) (w : World) (hr0 : Kd.C (Kd.int .u8) w A0 l0.length l0) (hc0 : l0.length ≤ c0) (h : dogwatchlaw10_RecordAll.f k l0 = some r) :
    Calls Try.prog 6 #[.slice A0 l0.length c0] w fun e w' => e = .returned (.bool r) ∧ Below w.heap.size w w' := by
  have HR0 := Aside0.mk hr0
  have HC0 := Aside0.mk hc0
  clear hr0 hc0
  have HB := Aside0.mk (Below.refl w.heap.size w)
  have H : (if (l0.length : Int) > 3000 then ((dogwatchlaw10_awake.f).bind fun t224 => (some t224)) else ((record_Split.f k l0).bind fun t225 => (dogwatchlaw10_RecordAll.l0 k l0 t225 0 0))) = some r := h
  clear h
  by_cases c2 : (l0.length : Int) > 3000
  · rw [if_pos c2] at H
    have c2b0 : decide (3000 < (l0.length : Int)) = true := decide_eq_true c2
    have c2b1 : decide (3000 < l0.length) = true := decide_eq_true (by omega)
    clear c2
    replace H := Option.bind_eq_some_iff.mp H
    obtain ⟨t224, A30, H⟩ := H
    replace H : (some t224) = some r := H
    have A3 := Aside0.mk A30
    clear A30
    obtain rfl := Option.some.inj H
    go_enter Try.func6, Try.ntmps6
    go_wp2_with (first | ((with_reducible refine gate_callee (f := 21) rfl ?_); refine goesL_ (some 9) rfl rfl Try.func21 (by kernel_rfl) rfl #[] rfl (by (try simp only [List.map_toArray, List.map_cons, List.map_nil]); first | done | rfl | (simp only [List.length_drop, List.length_take]; rfl)) ?_; (with_reducible refine (dogwatchlaw10_awake.calls  t224 _ A3.out).mono ?_); rintro e w4 ⟨rfl, hb⟩; refine ⟨_, rfl, ?_⟩; have n0_ := Aside0.mk (below_step (by repeat (first | (with_reducible first | exact HB.out | apply below_alloc | apply pw_below_drewN | apply below_drew1) | exact HB.out)) hb); clear HB; have HB := n0_; clear n0_; (try clear hb); (try clear hb2); (try clear hk); (try clear hi)))
    go_ret
    exact ⟨by first | rfl | (simp [errW_none, errW_some] <;> rfl) | (simp [*, errW_none, errW_some] <;> rfl), by repeat (first | (with_reducible first | exact HB.out | apply below_alloc | apply pw_below_drewN | apply below_drew1) | exact HB.out)⟩
  · rw [if_neg c2] at H
    have c2b0 : decide (3000 < (l0.length : Int)) = false := decide_eq_false c2
    have c2b1 : decide (3000 < l0.length) = false := decide_eq_false (by omega)
    clear c2
    replace H := Option.bind_eq_some_iff.mp H
    obtain ⟨t225, A50, H⟩ := H
    replace H : (dogwatchlaw10_RecordAll.l0 k l0 t225 0 0) = some r := H
    have A5 := Aside0.mk A50
    clear A50
    have H' := Aside0.mk H
    clear H
    go_enter Try.func6, Try.ntmps6
    go_wp2_with (first | ((with_reducible refine gate_callee (f := 22) rfl ?_); refine goesL_ (some 11) rfl rfl Try.func22 (by kernel_rfl) rfl #[.slice A0 l0.length c0] rfl (by (try simp only [List.map_toArray, List.map_cons, List.map_nil]); first | done | rfl | (simp only [List.length_drop, List.length_take]; rfl)) ?_; (with_reducible refine (record_Split.calls k _ _ l0 t225 _ ?side1 ?side2 A5.out).mono ?_); (case side1 => repeat (first | exact HR0.out | (with_reducible refine Kd.C_alloc ?_ _) | (with_reducible refine Kd.C_drewN ?_ _) | (with_reducible refine Kd.C_drew ?_))); (case side2 => exact HC0.out); rintro e w6 ⟨v226, rfl, ho0, hb⟩; refine ⟨_, rfl, ?_⟩; have n0_ := Aside0.mk (Kd.S_lower ho0 (below_size (by repeat (first | (with_reducible first | exact HB.out | apply below_alloc | apply pw_below_drewN | apply below_drew1) | exact HB.out)))); have n1_ := Aside0.mk (below_step (by repeat (first | (with_reducible first | exact HB.out | apply below_alloc | apply pw_below_drewN | apply below_drew1) | exact HB.out)) hb); clear HB; have HO227 := n0_; have HB := n1_; clear n0_ n1_; (try clear hb); (try clear hb2); (try clear hk); (try clear hi); (try clear ho0)))
    go_loopg [4, 5] k (fun kq v4 v5 w' => ∃ (x4_1 : Int) (x5_1 : Int), v4 = .int .i64 x4_1 ∧ v5 = .int .i64 x5_1 ∧ Aside0 (dogwatchlaw10_RecordAll.l0 kq l0 t225 x4_1 x5_1 = some r) ∧ Aside0 (kq ≤ k) ∧ Aside0 (Kd.S k47 47 w' w.heap.size (fun _ => True) v226 t225) ∧ Aside0 (Below w.heap.size w w'))
    case atStart => exact ⟨(0), (0), (by first | rfl | (simp; done) | (simp [*]; done)), (by first | rfl | (simp; done) | (simp [*]; done)), H', ⟨Nat.le_refl _⟩, ⟨by (with_reducible repeat (first | apply Kd.S_alloc | apply Kd.S_drewN | apply Kd.S_drew)); exact HO227.out⟩, ⟨by repeat (first | (with_reducible first | exact HB.out | apply below_alloc | apply pw_below_drewN | apply below_drew1) | exact HB.out)⟩⟩
    case round =>
      clear H'
      try clear c2
      try clear c2b0
      try clear c2b1
      try clear p2
      try clear c6
      obtain ⟨x4_1, x5_1, rfl, rfl, HA, HK1, HO_3, HB⟩ := hrel
      cases gk with
      | zero => exact absurd HA.out (by simp [dogwatchlaw10_RecordAll.l0])
      | succ k1 =>
        have H := HA.out
        clear HA
        simp only [dogwatchlaw10_RecordAll.l0] at H
        by_cases c7 : x5_1 < (t225.length : Int)
        · rw [if_pos c7] at H
          have c7b0 : decide (x5_1 < (t225.length : Int)) = true := decide_eq_true c7
          clear c7
          by_cases c8 : 0 ≤ x5_1
          · rw [if_pos c8] at H
            have c8b0 : decide (0 ≤ x5_1) = true := decide_eq_true c8
            clear c8
            by_cases c9 : ((rd_T47 t225 x5_1).f0) = x4_1
            · rw [if_pos c9] at H
              have c9b0 : (((rd_T47 t225 x5_1).f0) == x4_1) = true := beq_iff_eq.mpr c9
              have c9b1 : (((rd_T47 t225 x5_1).f0) != x4_1) = false := bne_eq_false_iff_eq.mpr c9
              clear c9
              by_cases c10 : ((rd_T47 t225 x5_1).f1) < 1
              · rw [if_pos c10] at H
                have c10b0 : decide (((rd_T47 t225 x5_1).f1) < 1) = true := decide_eq_true c10
                clear c10
                obtain rfl := Option.some.inj H
                obtain ⟨Ao11, co11, eo11⟩ := Kd.S_slice HO_3.out
                subst eo11
                have p228 : 0 ≤ (x5_1 : Int) := of_decide_eq_true (by first | (with_reducible assumption) | assumption)
                have q228 : x5_1 < (t225.length : Int) := of_decide_eq_true (by first | (with_reducible assumption) | assumption)
                obtain ⟨ad228, A228_2, c228_2, e228, hx228_0, hx228_1, hx228_2, hx228_3, hl228_2, hi228_2⟩ := at_T47 (Kd.S_reads' HO_3.out).2.2 x5_1 p228 q228
                cases e228
                obtain ⟨ce228, hce228, hMe228, hcc228⟩ := Kd.S_get HO_3.out z47 x5_1 p228 (by first | exact q228 | exact of_decide_eq_true (by first | (with_reducible assumption) | assumption) | (have e_ := (Kd.S_reads' HO_3.out).1; omega))
                obtain ⟨ve228_2, rfl, ge228_2⟩ := k47_openM hMe228
                have hv228_2 := hcc228 2 _ rfl
                rw [add_field _ _ 2 (by omega)] at hv228_2
                replace hv228_2 := Option.some.inj (hv228_2.symm.trans hx228_2)
                rw [hv228_2] at ge228_2
                have HL228_2 := Aside0.mk (show Kd.R (Kd.int .u8) 5 _ _ _ _ ((rd_T47 t225 x5_1).f2) from ge228_2)
                clear hv228_2 ge228_2
                clear hcc228 hce228
                have HR228_2 := Aside0.mk hi228_2
                have HC228_2 := Aside0.mk hl228_2
                clear hi228_2 hl228_2
                replace p228 := eq_true p228
                replace q228 := eq_true q228
                have p229 : 0 ≤ (x5_1 : Int) := of_decide_eq_true (by first | (with_reducible assumption) | assumption)
                have q229 : x5_1 < (t225.length : Int) := of_decide_eq_true (by first | (with_reducible assumption) | assumption)
                obtain ⟨ad229, A229_2, c229_2, e229, hx229_0, hx229_1, hx229_2, hx229_3, hl229_2, hi229_2⟩ := at_T47 (Kd.S_reads' HO_3.out).2.2 x5_1 p229 q229
                obtain rfl : ad228 = ad229 := (by injection e229)
                obtain ⟨ce229, hce229, hMe229, hcc229⟩ := Kd.S_get HO_3.out z47 x5_1 p229 (by first | exact q229 | exact of_decide_eq_true (by first | (with_reducible assumption) | assumption) | (have e_ := (Kd.S_reads' HO_3.out).1; omega))
                obtain ⟨ve229_2, rfl, ge229_2⟩ := k47_openM hMe229
                have hv229_2 := hcc229 2 _ rfl
                rw [add_field _ _ 2 (by omega)] at hv229_2
                replace hv229_2 := Option.some.inj (hv229_2.symm.trans hx229_2)
                rw [hv229_2] at ge229_2
                have HL229_2 := Aside0.mk (show Kd.R (Kd.int .u8) 5 _ _ _ _ ((rd_T47 t225 x5_1).f2) from ge229_2)
                clear hv229_2 ge229_2
                clear hcc229 hce229
                have HR229_2 := Aside0.mk hi229_2
                have HC229_2 := Aside0.mk hl229_2
                clear hi229_2 hl229_2
                replace p229 := eq_true p229
                replace q229 := eq_true q229
                have ea_ := Option.some.inj (hx228_2.symm.trans hx229_2)
                injection ea_ with ea_ en_ ec_
                subst ea_
                subst ec_
                clear en_
                go_wp2
                go_ret
                exact ⟨by first | rfl | (simp [errW_none, errW_some] <;> rfl) | (simp [*, errW_none, errW_some] <;> rfl), by repeat (first | (with_reducible first | exact HB.out | apply below_alloc | apply pw_below_drewN | apply below_drew1) | exact HB.out)⟩
              · rw [if_neg c10] at H
                have c10b0 : decide (((rd_T47 t225 x5_1).f1) < 1) = false := decide_eq_false c10
                clear c10
                by_cases c12 : ((rd_T47 t225 x5_1).f1) > (wrap64 ((l0.length : Int) - x4_1))
                · rw [if_pos c12] at H
                  have c12b0 : decide ((wrap64 ((l0.length : Int) - x4_1)) < ((rd_T47 t225 x5_1).f1)) = true := decide_eq_true c12
                  clear c12
                  obtain rfl := Option.some.inj H
                  obtain ⟨Ao13, co13, eo13⟩ := Kd.S_slice HO_3.out
                  subst eo13
                  have p228 : 0 ≤ (x5_1 : Int) := of_decide_eq_true (by first | (with_reducible assumption) | assumption)
                  have q228 : x5_1 < (t225.length : Int) := of_decide_eq_true (by first | (with_reducible assumption) | assumption)
                  obtain ⟨ad228, A228_2, c228_2, e228, hx228_0, hx228_1, hx228_2, hx228_3, hl228_2, hi228_2⟩ := at_T47 (Kd.S_reads' HO_3.out).2.2 x5_1 p228 q228
                  cases e228
                  obtain ⟨ce228, hce228, hMe228, hcc228⟩ := Kd.S_get HO_3.out z47 x5_1 p228 (by first | exact q228 | exact of_decide_eq_true (by first | (with_reducible assumption) | assumption) | (have e_ := (Kd.S_reads' HO_3.out).1; omega))
                  obtain ⟨ve228_2, rfl, ge228_2⟩ := k47_openM hMe228
                  have hv228_2 := hcc228 2 _ rfl
                  rw [add_field _ _ 2 (by omega)] at hv228_2
                  replace hv228_2 := Option.some.inj (hv228_2.symm.trans hx228_2)
                  rw [hv228_2] at ge228_2
                  have HL228_2 := Aside0.mk (show Kd.R (Kd.int .u8) 5 _ _ _ _ ((rd_T47 t225 x5_1).f2) from ge228_2)
                  clear hv228_2 ge228_2
                  clear hcc228 hce228
                  have HR228_2 := Aside0.mk hi228_2
                  have HC228_2 := Aside0.mk hl228_2
                  clear hi228_2 hl228_2
                  replace p228 := eq_true p228
                  replace q228 := eq_true q228
                  have p229 : 0 ≤ (x5_1 : Int) := of_decide_eq_true (by first | (with_reducible assumption) | assumption)
                  have q229 : x5_1 < (t225.length : Int) := of_decide_eq_true (by first | (with_reducible assumption) | assumption)
                  obtain ⟨ad229, A229_2, c229_2, e229, hx229_0, hx229_1, hx229_2, hx229_3, hl229_2, hi229_2⟩ := at_T47 (Kd.S_reads' HO_3.out).2.2 x5_1 p229 q229
                  obtain rfl : ad228 = ad229 := (by injection e229)
                  obtain ⟨ce229, hce229, hMe229, hcc229⟩ := Kd.S_get HO_3.out z47 x5_1 p229 (by first | exact q229 | exact of_decide_eq_true (by first | (with_reducible assumption) | assumption) | (have e_ := (Kd.S_reads' HO_3.out).1; omega))
                  obtain ⟨ve229_2, rfl, ge229_2⟩ := k47_openM hMe229
                  have hv229_2 := hcc229 2 _ rfl
                  rw [add_field _ _ 2 (by omega)] at hv229_2
                  replace hv229_2 := Option.some.inj (hv229_2.symm.trans hx229_2)
                  rw [hv229_2] at ge229_2
                  have HL229_2 := Aside0.mk (show Kd.R (Kd.int .u8) 5 _ _ _ _ ((rd_T47 t225 x5_1).f2) from ge229_2)
                  clear hv229_2 ge229_2
                  clear hcc229 hce229
                  have HR229_2 := Aside0.mk hi229_2
                  have HC229_2 := Aside0.mk hl229_2
                  clear hi229_2 hl229_2
                  replace p229 := eq_true p229
                  replace q229 := eq_true q229
                  have ea_ := Option.some.inj (hx228_2.symm.trans hx229_2)
                  injection ea_ with ea_ en_ ec_
                  subst ea_
                  subst ec_
                  clear en_
                  have p230 : 0 ≤ (x5_1 : Int) := of_decide_eq_true (by first | (with_reducible assumption) | assumption)
                  have q230 : x5_1 < (t225.length : Int) := of_decide_eq_true (by first | (with_reducible assumption) | assumption)
                  obtain ⟨ad230, A230_2, c230_2, e230, hx230_0, hx230_1, hx230_2, hx230_3, hl230_2, hi230_2⟩ := at_T47 (Kd.S_reads' HO_3.out).2.2 x5_1 p230 q230
                  obtain rfl : ad228 = ad230 := (by injection e230)
                  obtain ⟨ce230, hce230, hMe230, hcc230⟩ := Kd.S_get HO_3.out z47 x5_1 p230 (by first | exact q230 | exact of_decide_eq_true (by first | (with_reducible assumption) | assumption) | (have e_ := (Kd.S_reads' HO_3.out).1; omega))
                  obtain ⟨ve230_2, rfl, ge230_2⟩ := k47_openM hMe230
                  have hv230_2 := hcc230 2 _ rfl
                  rw [add_field _ _ 2 (by omega)] at hv230_2
                  replace hv230_2 := Option.some.inj (hv230_2.symm.trans hx230_2)
                  rw [hv230_2] at ge230_2
                  have HL230_2 := Aside0.mk (show Kd.R (Kd.int .u8) 5 _ _ _ _ ((rd_T47 t225 x5_1).f2) from ge230_2)
                  clear hv230_2 ge230_2
                  clear hcc230 hce230
                  have HR230_2 := Aside0.mk hi230_2
                  have HC230_2 := Aside0.mk hl230_2
                  clear hi230_2 hl230_2
                  replace p230 := eq_true p230
                  replace q230 := eq_true q230
                  have ea_ := Option.some.inj (hx228_2.symm.trans hx230_2)
                  injection ea_ with ea_ en_ ec_
                  subst ea_
                  subst ec_
                  clear en_
                  go_wp2
                  go_ret
                  exact ⟨by first | rfl | (simp [errW_none, errW_some] <;> rfl) | (simp [*, errW_none, errW_some] <;> rfl), by repeat (first | (with_reducible first | exact HB.out | apply below_alloc | apply pw_below_drewN | apply below_drew1) | exact HB.out)⟩
                · rw [if_neg c12] at H
                  have c12b0 : decide ((wrap64 ((l0.length : Int) - x4_1)) < ((rd_T47 t225 x5_1).f1)) = false := decide_eq_false c12
                  clear c12
                  have H' := Aside0.mk H
                  clear H
                  obtain ⟨Ao14, co14, eo14⟩ := Kd.S_slice HO_3.out
                  subst eo14
                  have p228 : 0 ≤ (x5_1 : Int) := of_decide_eq_true (by first | (with_reducible assumption) | assumption)
                  have q228 : x5_1 < (t225.length : Int) := of_decide_eq_true (by first | (with_reducible assumption) | assumption)
                  obtain ⟨ad228, A228_2, c228_2, e228, hx228_0, hx228_1, hx228_2, hx228_3, hl228_2, hi228_2⟩ := at_T47 (Kd.S_reads' HO_3.out).2.2 x5_1 p228 q228
                  cases e228
                  obtain ⟨ce228, hce228, hMe228, hcc228⟩ := Kd.S_get HO_3.out z47 x5_1 p228 (by first | exact q228 | exact of_decide_eq_true (by first | (with_reducible assumption) | assumption) | (have e_ := (Kd.S_reads' HO_3.out).1; omega))
                  obtain ⟨ve228_2, rfl, ge228_2⟩ := k47_openM hMe228
                  have hv228_2 := hcc228 2 _ rfl
                  rw [add_field _ _ 2 (by omega)] at hv228_2
                  replace hv228_2 := Option.some.inj (hv228_2.symm.trans hx228_2)
                  rw [hv228_2] at ge228_2
                  have HL228_2 := Aside0.mk (show Kd.R (Kd.int .u8) 5 _ _ _ _ ((rd_T47 t225 x5_1).f2) from ge228_2)
                  clear hv228_2 ge228_2
                  clear hcc228 hce228
                  have HR228_2 := Aside0.mk hi228_2
                  have HC228_2 := Aside0.mk hl228_2
                  clear hi228_2 hl228_2
                  replace p228 := eq_true p228
                  replace q228 := eq_true q228
                  have p229 : 0 ≤ (x5_1 : Int) := of_decide_eq_true (by first | (with_reducible assumption) | assumption)
                  have q229 : x5_1 < (t225.length : Int) := of_decide_eq_true (by first | (with_reducible assumption) | assumption)
                  obtain ⟨ad229, A229_2, c229_2, e229, hx229_0, hx229_1, hx229_2, hx229_3, hl229_2, hi229_2⟩ := at_T47 (Kd.S_reads' HO_3.out).2.2 x5_1 p229 q229
                  obtain rfl : ad228 = ad229 := (by injection e229)
                  obtain ⟨ce229, hce229, hMe229, hcc229⟩ := Kd.S_get HO_3.out z47 x5_1 p229 (by first | exact q229 | exact of_decide_eq_true (by first | (with_reducible assumption) | assumption) | (have e_ := (Kd.S_reads' HO_3.out).1; omega))
                  obtain ⟨ve229_2, rfl, ge229_2⟩ := k47_openM hMe229
                  have hv229_2 := hcc229 2 _ rfl
                  rw [add_field _ _ 2 (by omega)] at hv229_2
                  replace hv229_2 := Option.some.inj (hv229_2.symm.trans hx229_2)
                  rw [hv229_2] at ge229_2
                  have HL229_2 := Aside0.mk (show Kd.R (Kd.int .u8) 5 _ _ _ _ ((rd_T47 t225 x5_1).f2) from ge229_2)
                  clear hv229_2 ge229_2
                  clear hcc229 hce229
                  have HR229_2 := Aside0.mk hi229_2
                  have HC229_2 := Aside0.mk hl229_2
                  clear hi229_2 hl229_2
                  replace p229 := eq_true p229
                  replace q229 := eq_true q229
                  have ea_ := Option.some.inj (hx228_2.symm.trans hx229_2)
                  injection ea_ with ea_ en_ ec_
                  subst ea_
                  subst ec_
                  clear en_
                  have p230 : 0 ≤ (x5_1 : Int) := of_decide_eq_true (by first | (with_reducible assumption) | assumption)
                  have q230 : x5_1 < (t225.length : Int) := of_decide_eq_true (by first | (with_reducible assumption) | assumption)
                  obtain ⟨ad230, A230_2, c230_2, e230, hx230_0, hx230_1, hx230_2, hx230_3, hl230_2, hi230_2⟩ := at_T47 (Kd.S_reads' HO_3.out).2.2 x5_1 p230 q230
                  obtain rfl : ad228 = ad230 := (by injection e230)
                  obtain ⟨ce230, hce230, hMe230, hcc230⟩ := Kd.S_get HO_3.out z47 x5_1 p230 (by first | exact q230 | exact of_decide_eq_true (by first | (with_reducible assumption) | assumption) | (have e_ := (Kd.S_reads' HO_3.out).1; omega))
                  obtain ⟨ve230_2, rfl, ge230_2⟩ := k47_openM hMe230
                  have hv230_2 := hcc230 2 _ rfl
                  rw [add_field _ _ 2 (by omega)] at hv230_2
                  replace hv230_2 := Option.some.inj (hv230_2.symm.trans hx230_2)
                  rw [hv230_2] at ge230_2
                  have HL230_2 := Aside0.mk (show Kd.R (Kd.int .u8) 5 _ _ _ _ ((rd_T47 t225 x5_1).f2) from ge230_2)
                  clear hv230_2 ge230_2
                  clear hcc230 hce230
                  have HR230_2 := Aside0.mk hi230_2
                  have HC230_2 := Aside0.mk hl230_2
                  clear hi230_2 hl230_2
                  replace p230 := eq_true p230
                  replace q230 := eq_true q230
                  have ea_ := Option.some.inj (hx228_2.symm.trans hx230_2)
                  injection ea_ with ea_ en_ ec_
                  subst ea_
                  subst ec_
                  clear en_
                  have p231 : 0 ≤ (x5_1 : Int) := of_decide_eq_true (by first | (with_reducible assumption) | assumption)
                  have q231 : x5_1 < (t225.length : Int) := of_decide_eq_true (by first | (with_reducible assumption) | assumption)
                  obtain ⟨ad231, A231_2, c231_2, e231, hx231_0, hx231_1, hx231_2, hx231_3, hl231_2, hi231_2⟩ := at_T47 (Kd.S_reads' HO_3.out).2.2 x5_1 p231 q231
                  obtain rfl : ad228 = ad231 := (by injection e231)
                  obtain ⟨ce231, hce231, hMe231, hcc231⟩ := Kd.S_get HO_3.out z47 x5_1 p231 (by first | exact q231 | exact of_decide_eq_true (by first | (with_reducible assumption) | assumption) | (have e_ := (Kd.S_reads' HO_3.out).1; omega))
                  obtain ⟨ve231_2, rfl, ge231_2⟩ := k47_openM hMe231
                  have hv231_2 := hcc231 2 _ rfl
                  rw [add_field _ _ 2 (by omega)] at hv231_2
                  replace hv231_2 := Option.some.inj (hv231_2.symm.trans hx231_2)
                  rw [hv231_2] at ge231_2
                  have HL231_2 := Aside0.mk (show Kd.R (Kd.int .u8) 5 _ _ _ _ ((rd_T47 t225 x5_1).f2) from ge231_2)
                  clear hv231_2 ge231_2
                  clear hcc231 hce231
                  have HR231_2 := Aside0.mk hi231_2
                  have HC231_2 := Aside0.mk hl231_2
                  clear hi231_2 hl231_2
                  replace p231 := eq_true p231
                  replace q231 := eq_true q231
                  have ea_ := Option.some.inj (hx228_2.symm.trans hx231_2)
                  injection ea_ with ea_ en_ ec_
                  subst ea_
                  subst ec_
                  clear en_
                  go_wp2
                  go_roundg k1
                  case measure => have := HK1.out; omega
                  case rel => exact ⟨(wrap64 (x4_1 + ((rd_T47 t225 x5_1).f1))), (wrap64 (x5_1 + 1)), (by first | rfl | (simp; done) | (simp [*]; done)), (by first | rfl | (simp; done) | (simp [*]; done)), H', ⟨by have := HK1.out; omega⟩, ⟨by (with_reducible repeat (first | apply Kd.S_alloc | apply Kd.S_drewN | apply Kd.S_drew)); exact HO_3.out⟩, ⟨by repeat (first | (with_reducible first | exact HB.out | apply below_alloc | apply pw_below_drewN | apply below_drew1) | exact HB.out)⟩⟩
            · rw [if_neg c9] at H
              have c9b0 : (((rd_T47 t225 x5_1).f0) == x4_1) = false := beq_eq_false_iff_ne.mpr c9
              have c9b1 : (((rd_T47 t225 x5_1).f0) != x4_1) = true := bne_iff_ne.mpr c9
              obtain rfl := Option.some.inj H
              obtain ⟨Ao15, co15, eo15⟩ := Kd.S_slice HO_3.out
              subst eo15
              have p228 : 0 ≤ (x5_1 : Int) := of_decide_eq_true (by first | (with_reducible assumption) | assumption)
              have q228 : x5_1 < (t225.length : Int) := of_decide_eq_true (by first | (with_reducible assumption) | assumption)
              obtain ⟨ad228, A228_2, c228_2, e228, hx228_0, hx228_1, hx228_2, hx228_3, hl228_2, hi228_2⟩ := at_T47 (Kd.S_reads' HO_3.out).2.2 x5_1 p228 q228
              cases e228
              obtain ⟨ce228, hce228, hMe228, hcc228⟩ := Kd.S_get HO_3.out z47 x5_1 p228 (by first | exact q228 | exact of_decide_eq_true (by first | (with_reducible assumption) | assumption) | (have e_ := (Kd.S_reads' HO_3.out).1; omega))
              obtain ⟨ve228_2, rfl, ge228_2⟩ := k47_openM hMe228
              have hv228_2 := hcc228 2 _ rfl
              rw [add_field _ _ 2 (by omega)] at hv228_2
              replace hv228_2 := Option.some.inj (hv228_2.symm.trans hx228_2)
              rw [hv228_2] at ge228_2
              have HL228_2 := Aside0.mk (show Kd.R (Kd.int .u8) 5 _ _ _ _ ((rd_T47 t225 x5_1).f2) from ge228_2)
              clear hv228_2 ge228_2
              clear hcc228 hce228
              have HR228_2 := Aside0.mk hi228_2
              have HC228_2 := Aside0.mk hl228_2
              clear hi228_2 hl228_2
              replace p228 := eq_true p228
              replace q228 := eq_true q228
              go_wp2
              go_ret
              exact ⟨by first | rfl | (simp [errW_none, errW_some] <;> rfl) | (simp [*, errW_none, errW_some] <;> rfl), by repeat (first | (with_reducible first | exact HB.out | apply below_alloc | apply pw_below_drewN | apply below_drew1) | exact HB.out)⟩
          · rw [if_neg c8] at H
            exact absurd H (by simp)
        · rw [if_neg c7] at H
          have c7b0 : decide (x5_1 < (t225.length : Int)) = false := decide_eq_false c7
          clear c7
          by_cases c16 : x4_1 = (l0.length : Int)
          · rw [if_pos c16] at H
            have c16b0 : (x4_1 == (l0.length : Int)) = true := beq_iff_eq.mpr c16
            have c16b1 : (x4_1 != (l0.length : Int)) = false := bne_eq_false_iff_eq.mpr c16
            clear c16
            replace H := Option.bind_eq_some_iff.mp H
            obtain ⟨t232, A170, H⟩ := H
            replace H : (some t232) = some r := H
            have A17 := Aside0.mk A170
            clear A170
            obtain rfl := Option.some.inj H
            obtain ⟨Ao18, co18, eo18⟩ := Kd.S_slice HO_3.out
            subst eo18
            go_wp2_with (first | (go_at_call 21; (with_reducible refine (dogwatchlaw10_awake.calls  t232 _ A17.out).mono ?_); rintro e w19 ⟨rfl, hb⟩; have n0_ := Aside0.mk (Kd.S_below (by (with_reducible repeat (first | apply Kd.S_alloc | apply Kd.S_drewN | apply Kd.S_drew)); exact HO_3.out) hb); have n1_ := Aside0.mk (below_step (by repeat (first | (with_reducible first | exact HB.out | apply below_alloc | apply pw_below_drewN | apply below_drew1) | exact HB.out)) hb); clear HO_3; clear HB; have HO_3 := n0_; have HB := n1_; clear n0_ n1_; (try clear hb); (try clear hb2); (try clear hk); (try clear hi)))
            go_ret
            exact ⟨by first | rfl | (simp [errW_none, errW_some] <;> rfl) | (simp [*, errW_none, errW_some] <;> rfl), by repeat (first | (with_reducible first | exact HB.out | apply below_alloc | apply pw_below_drewN | apply below_drew1) | exact HB.out)⟩
          · rw [if_neg c16] at H
            have c16b0 : (x4_1 == (l0.length : Int)) = false := beq_eq_false_iff_ne.mpr c16
            have c16b1 : (x4_1 != (l0.length : Int)) = true := bne_iff_ne.mpr c16
            obtain rfl := Option.some.inj H
            obtain ⟨Ao20, co20, eo20⟩ := Kd.S_slice HO_3.out
            subst eo20
            go_wp2
            go_ret
            exact ⟨by first | rfl | (simp [errW_none, errW_some] <;> rfl) | (simp [*, errW_none, errW_some] <;> rfl), by repeat (first | (with_reducible first | exact HB.out | apply below_alloc | apply pw_below_drewN | apply below_drew1) | exact HB.out)⟩

/-- THE ONE PURE STATEMENT of dogwatchlaw10_RecordAll: yours. -/
def dogwatchlaw10_RecordAll.Pure : Prop := ∀ (l0 : List Int), l0.length ≤ maxLen → l0.length * 1 ≤ 140737488351232 → (∀ x ∈ l0, (Lit.int .u8 x).wf = true) → ∃ k, dogwatchlaw10_RecordAll.f k l0 = some true
theorem dogwatchlaw10_RecordAll.walk (P : dogwatchlaw10_RecordAll.Pure) (a0 : Option Addr) (len0 cap0 : Nat) (z0 : List Int) (w : World) (w0 : (a0 = none ∧ len0 = 0 ∧ cap0 = 0 ∧ z0 = []) ∨ ∃ x, a0 = some x ∧ len0 ≤ cap0 ∧ cap0 ≤ maxLen ∧ z0.length = cap0 ∧ (∀ i, i < z0.length → w.cell? (x.add i) = some (.int .u8 (z0.getD i 0))) ∧ ∀ n ∈ z0, (Lit.int .u8 n).wf = true) (y0 : len0 * 1 ≤ 140737488351232) :
    Calls Try.prog 6 #[.slice a0 len0 cap0] w fun e w' => e = .returned (.bool true) ∧ Below w.heap.size w w' := by
  obtain ⟨l0, rfl, hr0, hm0, hw0, hc0⟩ := ReadsInt.ofRowC w0
  obtain ⟨k, h⟩ := P l0 hm0 y0 hw0
  refine (dogwatchlaw10_RecordAll.calls k _ _ l0 true w (Kd.C_of_reads (d := (0 : Int)) (h1 := fun _ => rfl) hr0) hc0 h).mono ?_
  rintro e w' ⟨rfl, hd⟩
  exact ⟨rfl, hd⟩

/-! ### dogwatchlaw10_RecordFinds: function 7 -/
def dogwatchlaw10_RecordFinds.f (k : Nat) (l0 : List Int) (a1 : Int) (a2 : Int) : Option (Bool) := (record_Seal.f k l0).bind fun bt233 => (if bt233.2 = 0 then (if (bt233.1.length : Int) = (wrap64 ((l0.length : Int) + 2)) then (if (wrap64 ((bt233.1.length : Int) - 1)) = 0 then (none) else ((some (([] : List Int) : List Int)).bind fun y239 => (if y239.length + bt233.1.length < 140737488355328 then ((some (y239 ++ bt233.1 : List Int)).bind fun y242 => (if 0 ≤ (wrap64 (1 + (Int.tmod (wrap64 (a1)) (wrap64 ((bt233.1.length : Int) - 1))))) then (if (wrap64 (1 + (Int.tmod (wrap64 (a1)) (wrap64 ((bt233.1.length : Int) - 1))))) < (y242.length : Int) then ((record_Split.f k (y242.set ((wrap64 (1 + (Int.tmod (wrap64 (a1)) (wrap64 ((bt233.1.length : Int) - 1))))) : Int).toNat (Go.bits .xor .u8 (rd y242 (wrap64 (1 + (Int.tmod (wrap64 (a1)) (wrap64 ((bt233.1.length : Int) - 1)))))) a2))).bind fun t247 => (if (t247.length : Int) = 1 then (if 0 < (t247.length : Int) then (if ((((rd_T47 t247 0).f3) == 0) == (a2 == 0)) = true then ((dogwatchlaw10_awake.f).bind fun t251 => (some t251)) else (some false)) else (none)) else (some false))) else (none)) else (none))) else (none)))) else (some false)) else (if (l0.length : Int) < 1 then (if (bt233.1.length : Int) = 0 then ((dogwatchlaw10_awake.f).bind fun t237 => (some t237)) else (some false)) else (if (l0.length : Int) > 120 then (if (bt233.1.length : Int) = 0 then ((dogwatchlaw10_awake.f).bind fun t238 => (some t238)) else (some false)) else (some false))))
theorem dogwatchlaw10_RecordFinds.mono : ∀ a0 a1 a2 k, LeO (dogwatchlaw10_RecordFinds.f k a0 a1 a2) (dogwatchlaw10_RecordFinds.f (k + 1) a0 a1 a2) := by
  intro a0 a1 a2 k
  unfold dogwatchlaw10_RecordFinds.f
  repeat' first
      | (with_reducible exact record_Seal.mono _ _)
      | (with_reducible exact record_Split.mono _ _)
      | (with_reducible exact LeO.refl _)
      | (with_reducible exact LeO.none _)
      | (with_reducible refine LeO.ite ?_ ?_)
      | (with_reducible refine LeO.bind ?_ (fun _ => ?_))
      | exact record_Seal.mono _ _
      | exact record_Split.mono _ _
      | exact LeO.none _
      | refine LeO.ite ?_ ?_
      | refine LeO.bind ?_ (fun _ => ?_)
set_option maxHeartbeats 8000000 in
set_option maxRecDepth 100000 in
theorem dogwatchlaw10_RecordFinds.calls (k : Nat) (A0 : Option Addr) (c0 : Nat) (l0 : List Int) (a1 : Int) (a2 : Int) (r : Bool) (w : World) (hr0 : Kd.C (Kd.int .u8) w A0 l0.length l0) (hc0 : l0.length ≤ c0) (h : dogwatchlaw10_RecordFinds.f k l0 a1 a2 = some r) :
    Calls Try.prog 7 #[.slice A0 l0.length c0, .int .u8 a1, .int .u8 a2] w fun e w' => e = .returned (.bool r) ∧ Below w.heap.size w w' := by
  have HR0 := Aside0.mk hr0
  have HC0 := Aside0.mk hc0
  clear hr0 hc0
  have HB := Aside0.mk (Below.refl w.heap.size w)
  have H : ((record_Seal.f k l0).bind fun bt233 => (if bt233.2 = 0 then (if (bt233.1.length : Int) = (wrap64 ((l0.length : Int) + 2)) then (if (wrap64 ((bt233.1.length : Int) - 1)) = 0 then (none) else ((some (([] : List Int) : List Int)).bind fun y239 => (if y239.length + bt233.1.length < 140737488355328 then ((some (y239 ++ bt233.1 : List Int)).bind fun y242 => (if 0 ≤ (wrap64 (1 + (Int.tmod (wrap64 (a1)) (wrap64 ((bt233.1.length : Int) - 1))))) then (if (wrap64 (1 + (Int.tmod (wrap64 (a1)) (wrap64 ((bt233.1.length : Int) - 1))))) < (y242.length : Int) then ((record_Split.f k (y242.set ((wrap64 (1 + (Int.tmod (wrap64 (a1)) (wrap64 ((bt233.1.length : Int) - 1))))) : Int).toNat (Go.bits .xor .u8 (rd y242 (wrap64 (1 + (Int.tmod (wrap64 (a1)) (wrap64 ((bt233.1.length : Int) - 1)))))) a2))).bind fun t247 => (if (t247.length : Int) = 1 then (if 0 < (t247.length : Int) then (if ((((rd_T47 t247 0).f3) == 0) == (a2 == 0)) = true then ((dogwatchlaw10_awake.f).bind fun t251 => (some t251)) else (some false)) else (none)) else (some false))) else (none)) else (none))) else (none)))) else (some false)) else (if (l0.length : Int) < 1 then (if (bt233.1.length : Int) = 0 then ((dogwatchlaw10_awake.f).bind fun t237 => (some t237)) else (some false)) else (if (l0.length : Int) > 120 then (if (bt233.1.length : Int) = 0 then ((dogwatchlaw10_awake.f).bind fun t238 => (some t238)) else (some false)) else (some false))))) = some r := h
  clear h
  replace H := Option.bind_eq_some_iff.mp H
  obtain ⟨⟨t233, t234⟩, A40, H⟩ := H
  replace H : (if t234 = 0 then (if (t233.length : Int) = (wrap64 ((l0.length : Int) + 2)) then (if (wrap64 ((t233.length : Int) - 1)) = 0 then (none) else ((some (([] : List Int) : List Int)).bind fun y239 => (if y239.length + t233.length < 140737488355328 then ((some (y239 ++ t233 : List Int)).bind fun y242 => (if 0 ≤ (wrap64 (1 + (Int.tmod (wrap64 (a1)) (wrap64 ((t233.length : Int) - 1))))) then (if (wrap64 (1 + (Int.tmod (wrap64 (a1)) (wrap64 ((t233.length : Int) - 1))))) < (y242.length : Int) then ((record_Split.f k (y242.set ((wrap64 (1 + (Int.tmod (wrap64 (a1)) (wrap64 ((t233.length : Int) - 1))))) : Int).toNat (Go.bits .xor .u8 (rd y242 (wrap64 (1 + (Int.tmod (wrap64 (a1)) (wrap64 ((t233.length : Int) - 1)))))) a2))).bind fun t247 => (if (t247.length : Int) = 1 then (if 0 < (t247.length : Int) then (if ((((rd_T47 t247 0).f3) == 0) == (a2 == 0)) = true then ((dogwatchlaw10_awake.f).bind fun t251 => (some t251)) else (some false)) else (none)) else (some false))) else (none)) else (none))) else (none)))) else (some false)) else (if (l0.length : Int) < 1 then (if (t233.length : Int) = 0 then ((dogwatchlaw10_awake.f).bind fun t237 => (some t237)) else (some false)) else (if (l0.length : Int) > 120 then (if (t233.length : Int) = 0 then ((dogwatchlaw10_awake.f).bind fun t238 => (some t238)) else (some false)) else (some false)))) = some r := H
  have A4 := Aside0.mk A40
  clear A40
  by_cases c5 : t234 = 0
  · rw [if_pos c5] at H
    have c5b0 : (t234 == 0) = true := beq_iff_eq.mpr c5
    have c5b1 : (t234 != 0) = false := bne_eq_false_iff_eq.mpr c5
    clear c5
    by_cases c6 : (t233.length : Int) = (wrap64 ((l0.length : Int) + 2))
    · rw [if_pos c6] at H
      have c6b0 : ((t233.length : Int) == (wrap64 ((l0.length : Int) + 2))) = true := beq_iff_eq.mpr c6
      have c6b1 : ((t233.length : Int) != (wrap64 ((l0.length : Int) + 2))) = false := bne_eq_false_iff_eq.mpr c6
      clear c6
      by_cases c7 : (wrap64 ((t233.length : Int) - 1)) = 0
      · rw [if_pos c7] at H
        exact absurd H (by simp)
      · rw [if_neg c7] at H
        have c7b0 : ((wrap64 ((t233.length : Int) - 1)) == 0) = false := beq_eq_false_iff_ne.mpr c7
        have c7b1 : ((wrap64 ((t233.length : Int) - 1)) != 0) = true := bne_iff_ne.mpr c7
        obtain ⟨y239, hy239⟩ : ∃ y_ : List Int, y_ = (([] : List Int)) := ⟨_, rfl⟩
        replace H : (if y239.length + t233.length < 140737488355328 then ((some (y239 ++ t233 : List Int)).bind fun y242 => (if 0 ≤ (wrap64 (1 + (Int.tmod (wrap64 (a1)) (wrap64 ((t233.length : Int) - 1))))) then (if (wrap64 (1 + (Int.tmod (wrap64 (a1)) (wrap64 ((t233.length : Int) - 1))))) < (y242.length : Int) then ((record_Split.f k (y242.set ((wrap64 (1 + (Int.tmod (wrap64 (a1)) (wrap64 ((t233.length : Int) - 1))))) : Int).toNat (Go.bits .xor .u8 (rd y242 (wrap64 (1 + (Int.tmod (wrap64 (a1)) (wrap64 ((t233.length : Int) - 1)))))) a2))).bind fun t247 => (if (t247.length : Int) = 1 then (if 0 < (t247.length : Int) then (if ((((rd_T47 t247 0).f3) == 0) == (a2 == 0)) = true then ((dogwatchlaw10_awake.f).bind fun t251 => (some t251)) else (some false)) else (none)) else (some false))) else (none)) else (none))) else (none)) = some r := by first | (rw [hy239]; with_reducible exact H) | (have H2_ := (Option.bind_some _ _).symm.trans H; rw [hy239]; with_reducible exact H2_) | (have H2_ := (Option.bind_some _ _).symm.trans H; with_reducible exact H2_) | with_reducible exact H | (rw [hy239]; exact H) | exact H
        have Ny239 := Aside0.mk hy239
        clear hy239
        by_cases c8 : y239.length + t233.length < 140737488355328
        · rw [if_pos c8] at H
          have LMc8 := Aside0.mk c8
          clear c8
          obtain ⟨y242, hy242⟩ : ∃ y_ : List Int, y_ = (y239 ++ t233) := ⟨_, rfl⟩
          replace H : (if 0 ≤ (wrap64 (1 + (Int.tmod (wrap64 (a1)) (wrap64 ((t233.length : Int) - 1))))) then (if (wrap64 (1 + (Int.tmod (wrap64 (a1)) (wrap64 ((t233.length : Int) - 1))))) < (y242.length : Int) then ((record_Split.f k (y242.set ((wrap64 (1 + (Int.tmod (wrap64 (a1)) (wrap64 ((t233.length : Int) - 1))))) : Int).toNat (Go.bits .xor .u8 (rd y242 (wrap64 (1 + (Int.tmod (wrap64 (a1)) (wrap64 ((t233.length : Int) - 1)))))) a2))).bind fun t247 => (if (t247.length : Int) = 1 then (if 0 < (t247.length : Int) then (if ((((rd_T47 t247 0).f3) == 0) == (a2 == 0)) = true then ((dogwatchlaw10_awake.f).bind fun t251 => (some t251)) else (some false)) else (none)) else (some false))) else (none)) else (none)) = some r := by first | (rw [hy242]; with_reducible exact H) | (have H2_ := (Option.bind_some _ _).symm.trans H; rw [hy242]; with_reducible exact H2_) | (have H2_ := (Option.bind_some _ _).symm.trans H; with_reducible exact H2_) | with_reducible exact H | (rw [hy242]; exact H) | exact H
          have Ny242 := Aside0.mk hy242
          clear hy242
          obtain ⟨ji9, hji9⟩ : ∃ j_ : Int, (wrap64 (1 + (Int.tmod (wrap64 (a1)) (wrap64 ((t233.length : Int) - 1))))) = j_ := ⟨_, rfl⟩
          replace H : (if 0 ≤ (ji9) then (if (ji9) < (y242.length : Int) then ((record_Split.f k (y242.set ((ji9) : Int).toNat (Go.bits .xor .u8 (rd y242 (ji9)) a2))).bind fun t247 => (if (t247.length : Int) = 1 then (if 0 < (t247.length : Int) then (if ((((rd_T47 t247 0).f3) == 0) == (a2 == 0)) = true then ((dogwatchlaw10_awake.f).bind fun t251 => (some t251)) else (some false)) else (none)) else (some false))) else (none)) else (none)) = some r := by first | (rw [hji9] at H; exact H) | (simp only [hji9] at H ⊢; exact H)
          (try rw [hji9] at A4)
          have hji9w : (IntKind.i64.wrap (1 + (Int.tmod (wrap64 (a1)) (wrap64 ((t233.length : Int) - 1))))) = ji9 := (i64_w _).trans hji9
          by_cases c10 : 0 ≤ (ji9)
          · rw [if_pos c10] at H
            have c10b0 : decide (0 ≤ (ji9)) = true := decide_eq_true c10
            clear c10
            by_cases c11 : (ji9) < (y242.length : Int)
            · rw [if_pos c11] at H
              have c11b0 : decide ((ji9) < (y242.length : Int)) = true := decide_eq_true c11
              clear c11
              obtain ⟨y246, hy246⟩ : ∃ y_ : List Int, y_ = (y242.set ((ji9) : Int).toNat (Go.bits .xor .u8 (rd y242 (ji9)) a2)) := ⟨_, rfl⟩
              replace H : ((record_Split.f k y246).bind fun t247 => (if (t247.length : Int) = 1 then (if 0 < (t247.length : Int) then (if ((((rd_T47 t247 0).f3) == 0) == (a2 == 0)) = true then ((dogwatchlaw10_awake.f).bind fun t251 => (some t251)) else (some false)) else (none)) else (some false))) = some r := by first | (rw [hy246]; with_reducible exact H) | (have H2_ := (Option.bind_some _ _).symm.trans H; rw [hy246]; with_reducible exact H2_) | (have H2_ := (Option.bind_some _ _).symm.trans H; with_reducible exact H2_) | with_reducible exact H | (rw [hy246]; exact H) | exact H
              have Ny246 := Aside0.mk hy246
              clear hy246
              replace H := Option.bind_eq_some_iff.mp H
              obtain ⟨t247, A130, H⟩ := H
              replace H : (if (t247.length : Int) = 1 then (if 0 < (t247.length : Int) then (if ((((rd_T47 t247 0).f3) == 0) == (a2 == 0)) = true then ((dogwatchlaw10_awake.f).bind fun t251 => (some t251)) else (some false)) else (none)) else (some false)) = some r := H
              have A13 := Aside0.mk A130
              clear A130
              by_cases c14 : (t247.length : Int) = 1
              · rw [if_pos c14] at H
                have c14b0 : ((t247.length : Int) == 1) = true := beq_iff_eq.mpr c14
                have c14b1 : ((t247.length : Int) != 1) = false := bne_eq_false_iff_eq.mpr c14
                clear c14
                by_cases c15 : 0 < (t247.length : Int)
                · rw [if_pos c15] at H
                  have c15b0 : decide (0 < (t247.length : Int)) = true := decide_eq_true c15
                  have c15b1 : decide (0 < t247.length) = true := decide_eq_true (by omega)
                  clear c15
                  by_cases c16 : ((((rd_T47 t247 0).f3) == 0) == (a2 == 0)) = true
                  · rw [if_pos c16] at H
                    have c16b0 : ((((rd_T47 t247 0).f3) == 0) == (a2 == 0)) = true := c16
                    (try (have c16b1 : decide ((((rd_T47 t247 0).f3) == 0) = (a2 == 0)) = true := by simpa using c16))
                    (try (have c16b2 : ((((rd_T47 t247 0).f3) == 0) == (a2 == 0)) = true := by simpa using c16))
                    clear c16
                    replace H := Option.bind_eq_some_iff.mp H
                    obtain ⟨t251, A170, H⟩ := H
                    replace H : (some t251) = some r := H
                    have A17 := Aside0.mk A170
                    clear A170
                    obtain rfl := Option.some.inj H
                    go_enter Try.func7, Try.ntmps7
                    go_wp2_with (first | ((with_reducible refine gate_callee (f := 27) rfl ?_); refine goesL_ (some 14) rfl rfl Try.func27 (by kernel_rfl) rfl #[.slice A0 l0.length c0] rfl (by (try simp only [List.map_toArray, List.map_cons, List.map_nil]); first | done | rfl | (simp only [List.length_drop, List.length_take]; rfl)) ?_; (with_reducible refine (record_Seal.calls k _ _ l0 t233 t234 _ ?side1 ?side2 A4.out).mono ?_); (case side1 => repeat (first | exact HR0.out | (with_reducible refine Kd.C_alloc ?_ _) | (with_reducible refine Kd.C_drewN ?_ _) | (with_reducible refine Kd.C_drew ?_))); (case side2 => exact HC0.out); rintro e w18 ⟨v235, rfl, ho0, hb⟩; refine ⟨_, rfl, ?_⟩; have n0_ := Aside0.mk (Kd.R_lower ho0 (below_size (by repeat (first | (with_reducible first | exact HB.out | apply below_alloc | apply pw_below_drewN | apply below_drew1) | exact HB.out)))); have n1_ := Aside0.mk (below_step (by repeat (first | (with_reducible first | exact HB.out | apply below_alloc | apply pw_below_drewN | apply below_drew1) | exact HB.out)) hb); clear HB; have HO236 := n0_; have HB := n1_; clear n0_ n1_; (try clear hb); (try clear hb2); (try clear hk); (try clear hi); (try clear ho0); obtain ⟨Ao19, co19, eo19⟩ := Kd.R_slice HO236.out; subst eo19) | ((with_reducible refine gate_dst (N := 48) rfl ?_); (try (refine gate_guard (by rfl) ?_; dsimp only)); refine Kd.R_lit (Kd.int .u8) _ 5 ?hg (N := 48) ?hd (xs := ([] : List Int)) (inner := []) (ok := fun _ => True) (okp := fun _ => True) ?hr ?hp (fun _ hk => hk) trivial (Below.refl _ _) (Nat.le_refl _) (by simp) ?_; (case hd => rfl); (case hg => rfl); (case hr => first | (go_simp; done) | (go_simp; rfl)); (case hp => exact (Reps.none _ _)); intro v240 w20 ho21 hb hg_ hnew_; clear hg_ hnew_; (first | rw [← Ny239.out] at ho21 | (simp only [Int.reduceToNat] at ho21; rw [← Ny239.out] at ho21)); have n0_ := Aside0.mk (Kd.R_elder' (by (with_reducible repeat (first | apply Kd.R_alloc | apply Kd.R_drewN | apply Kd.R_drew)); exact HO236.out) (Kd.R_base ho21) hb); have n1_ := Aside0.mk (Kd.R_lower (Kd.R_new' ho21 (Kd.R_lt (by (with_reducible repeat (first | apply Kd.R_alloc | apply Kd.R_drewN | apply Kd.R_drew)); exact HO236.out))) (below_size (by repeat (first | (with_reducible first | exact HB.out | apply below_alloc | apply pw_below_drewN | apply below_drew1) | exact HB.out)))); have n2_ := Aside0.mk (below_step (by repeat (first | (with_reducible first | exact HB.out | apply below_alloc | apply pw_below_drewN | apply below_drew1) | exact HB.out)) hb); clear HO236; clear HB; have HO236 := n0_; have HO241 := n1_; have HB := n2_; clear n0_ n1_ n2_; clear hb ho21) | ((with_reducible refine gate_builtin (b := .append) (xs := #[.tmp 48, .tmp 49]) rfl ?_); (try (refine gate_guard (by rfl) ?_; dsimp only)); at_builtin; refine Kd.R_append_rows (Kd.int .u8) (w0 := w) w.heap.size rfl (.tmp 48) (.tmp 49) 38 5 (.int .u8 0) 1 rfl Try.underlying38 info5 rfl (by decide) (by omega) v240 y239 t233 _ _ _ (fun k_ => some k_ ≠ (.slice Ao19 t233.length co19 : Value).ownBlock) (fun _ => False) rfl rfl ?aO ?aR (fun _ _ h => h) (fun _ h => h.elim) ?aF ?aB ?aS ?aL ?_; (case aR => repeat (first | exact (Kd.R_reads' HO236.out).2.2 | (with_reducible refine Kd.C_alloc ?_ _) | (with_reducible refine Kd.C_drewN ?_ _) | (with_reducible refine Kd.C_drew ?_))); (case aB => exact (by repeat (first | (with_reducible first | exact HB.out | apply below_alloc | apply pw_below_drewN | apply below_drew1) | exact HB.out))); (case aF => exact (fun k_ hk => Kd.fresh' (Kd.R_lt (by (with_reducible repeat (first | apply Kd.R_alloc | apply Kd.R_drewN | apply Kd.R_drew)); exact HO236.out)) k_ hk)); (case aO => exact (by (with_reducible repeat (first | apply Kd.R_alloc | apply Kd.R_drewN | apply Kd.R_drew)); exact Kd.R_mono HO241.out (fun _ hk => hk.2))); (case aS => exact (below_size (by repeat (first | (with_reducible first | exact HB.out | apply below_alloc | apply pw_below_drewN | apply below_drew1) | exact HB.out)))); (case aL => have := LMc8.out; omega); intro v243 w22 ho hb hg hat; rw [← Ny242.out] at ho; have n0_ := Aside0.mk (Kd.R_after (ok := (fun _ => True)) (by (with_reducible repeat (first | apply Kd.R_alloc | apply Kd.R_drewN | apply Kd.R_drew)); exact HO236.out) hg hat); have n1_ := Aside0.mk (hb); have n2_ := Aside0.mk (ho); clear HO236; clear HB; clear HO241; have HO236 := n0_; have HB := n1_; have HO244 := n2_; clear n0_ n1_ n2_; clear ho hb hg hat; obtain ⟨Ao23, co23, eo23⟩ := Kd.R_slice HO244.out; subst eo23; have p245 : 0 ≤ ((ji9) : Int) := of_decide_eq_true (by first | (with_reducible assumption) | assumption); have q245 : (ji9) < (y242.length : Int) := of_decide_eq_true (by first | (with_reducible assumption) | assumption); obtain ⟨ad245, e245, hx245_0⟩ := Kd.at_int (Kd.R_reads' HO244.out).2.2 (ji9) p245 q245; cases e245; replace p245 := eq_true p245; replace q245 := eq_true q245; have p12 : 0 ≤ ((ji9) : Int) := of_decide_eq_true (by first | (with_reducible assumption) | assumption); have q12 : ((ji9) : Int) < ((y242.length : Int) : Int) := of_decide_eq_true (by first | (with_reducible assumption) | assumption); obtain ⟨go12, co12, eo12, gb12, gl12, cl12, HG12⟩ := Kd.R_form HO244.out (by omega); (first | cases eo12 | (injection eo12 with ea_ en_ ec_; (first | subst ea_ | (injection ea_ with ea_; subst ea_)); subst ec_; clear en_)); have GB12 := Aside0.mk gb12; have GG12 := Aside0.mk HG12; clear gb12 gl12 HG12; (first | simp only [add_plain] at hx245_0 | skip); obtain ⟨hx12_0, hf12_0⟩ := Kd.R_celln 0 HO244.out ((ji9) : Int) p12 q12; replace p12 := eq_true p12; replace q12 := eq_true q12; obtain ⟨hy24_, hz24_⟩ := Kd.R_celln 0 HO244.out ((ji9) : Int) (of_decide_eq_true (by first | (with_reducible assumption) | assumption)) (of_decide_eq_true (by first | (with_reducible assumption) | assumption)); have HP24 := Kd.R_putg HO244.out ((ji9) : Int) (Go.bits .xor .u8 (rd y242 (ji9)) a2)) | ((with_reducible refine gate_store (t := 5) (p := 59) rfl ?_); refine store_event (t := 5) (p := 59) (v := ?vo_w25) (w1 := (w22.setCell ⟨go12, ((ji9) : Int).toNat, none⟩ (.int .u8 (Go.bits .xor .u8 (rd y242 (ji9)) a2)))) ?hg ?ho ?hn ?hr ?_; (case ho => rfl); (case hg => rfl); (case hn => rfl); (case hr => first | (go_simp; done) | (go_simp; rfl)); intro w25 hw; have hg : w22.grownBy w25 (some go12) := (by rw [hw]; exact HP24.2); have hp_ : Kd.R (Kd.int .u8) 5 w25 w.heap.size (fun k_ => some k_ ≠ (.slice Ao19 t233.length co19 : Value).ownBlock) (.slice (some ⟨go12, 0, none⟩) y242.length co23) y246 := (by rw [hw, Ny246.out]; exact HP24.1); clear HP24; have n0_ := Aside0.mk (Kd.R_after (v := (.slice (some ⟨go12, 0, none⟩) y242.length co23)) (v1 := (.slice (some ⟨go12, 0, none⟩) y242.length co23)) (ok := (fun _ => True)) (by (with_reducible repeat (first | apply Kd.R_alloc | apply Kd.R_drewN | apply Kd.R_drew)); exact HO236.out) hg (.inl rfl)); have n1_ := Aside0.mk (hp_); have n2_ := Aside0.mk ((by rw [hw]; exact below_set (HB.out) GB12.out : Below w.heap.size w w25)); clear HO236; clear HO244; clear HB; have HO236 := n0_; have HO244 := n1_; have HB := n2_; clear n0_ n1_ n2_; clear hg hw hp_) | ((with_reducible refine gate_callee (f := 22) rfl ?_); refine goesL_ (some 61) rfl rfl Try.func22 (by kernel_rfl) rfl #[.slice (some ⟨go12, 0, none⟩) y246.length co23] rfl (by (try simp only [List.map_toArray, List.map_cons, List.map_nil]); first | done | (rw [show y246.length = y242.length from (Kd.R_reads' HO244.out).1.symm] <;> rfl) | rfl | (simp only [List.length_drop, List.length_take]; rfl)) ?_; (with_reducible refine (record_Split.calls k _ _ y246 t247 _ ?side1 ?side2 A13.out).mono ?_); (case side1 => repeat (first | exact (Kd.R_reads' HO244.out).2.2 | (with_reducible refine Kd.C_alloc ?_ _) | (with_reducible refine Kd.C_drewN ?_ _) | (with_reducible refine Kd.C_drew ?_))); (case side2 => rw [show y246.length = y242.length from (Kd.R_reads' HO244.out).1.symm]; exact (Kd.R_reads' HO244.out).2.1); rintro e w26 ⟨v248, rfl, ho0, hb⟩; refine ⟨_, rfl, ?_⟩; have n0_ := Aside0.mk (Kd.R_below (by (with_reducible repeat (first | apply Kd.R_alloc | apply Kd.R_drewN | apply Kd.R_drew)); exact HO236.out) hb); have n1_ := Aside0.mk (Kd.R_below (by (with_reducible repeat (first | apply Kd.R_alloc | apply Kd.R_drewN | apply Kd.R_drew)); exact HO244.out) hb); have n2_ := Aside0.mk (Kd.S_lower (Kd.S_new' (Kd.S_new' ho0 (Kd.R_lt (by (with_reducible repeat (first | apply Kd.R_alloc | apply Kd.R_drewN | apply Kd.R_drew)); exact HO236.out))) (Kd.R_lt (by (with_reducible repeat (first | apply Kd.R_alloc | apply Kd.R_drewN | apply Kd.R_drew)); exact HO244.out))) (below_size (by repeat (first | (with_reducible first | exact HB.out | apply below_alloc | apply pw_below_drewN | apply below_drew1) | exact HB.out)))); have n3_ := Aside0.mk (below_step (by repeat (first | (with_reducible first | exact HB.out | apply below_alloc | apply pw_below_drewN | apply below_drew1) | exact HB.out)) hb); clear HO236; clear HO244; clear HB; have HO236 := n0_; have HO244 := n1_; have HO249 := n2_; have HB := n3_; clear n0_ n1_ n2_ n3_; (try clear hb); (try clear hb2); (try clear hk); (try clear hi); (try clear ho0); obtain ⟨Ao27, co27, eo27⟩ := Kd.S_slice HO249.out; subst eo27; have p250 : 0 ≤ (0 : Int) := (by omega); have q250 : 0 < (t247.length : Int) := of_decide_eq_true (by first | (with_reducible assumption) | assumption); obtain ⟨ad250, A250_2, c250_2, e250, hx250_0, hx250_1, hx250_2, hx250_3, hl250_2, hi250_2⟩ := at_T47 (Kd.S_reads' HO249.out).2.2 0 p250 q250; cases e250; obtain ⟨ce250, hce250, hMe250, hcc250⟩ := Kd.S_get HO249.out z47 0 p250 (by first | exact q250 | exact of_decide_eq_true (by first | (with_reducible assumption) | assumption) | (have e_ := (Kd.S_reads' HO249.out).1; omega)); obtain ⟨ve250_2, rfl, ge250_2⟩ := k47_openM hMe250; have hv250_2 := hcc250 2 _ rfl; rw [add_field _ _ 2 (by omega)] at hv250_2; replace hv250_2 := Option.some.inj (hv250_2.symm.trans hx250_2); rw [hv250_2] at ge250_2; have HL250_2 := Aside0.mk (show Kd.R (Kd.int .u8) 5 _ _ _ _ ((rd_T47 t247 0).f2) from ge250_2); clear hv250_2 ge250_2; clear hcc250 hce250; have qi250 : (0 < t247.length) = True := eq_true (by omega); (try rw [show ((0 : Int)).toNat = 0 from rfl] at hx250_0); (try rw [show 0 * 4 = 0 from rfl] at hx250_0); (try rw [Addr.add_zero'] at hx250_0); (try rw [show ((0 : Int)).toNat = 0 from rfl] at hx250_1); (try rw [show 0 * 4 = 0 from rfl] at hx250_1); (try rw [Addr.add_zero'] at hx250_1); (try rw [show ((0 : Int)).toNat = 0 from rfl] at hx250_2); (try rw [show 0 * 4 = 0 from rfl] at hx250_2); (try rw [Addr.add_zero'] at hx250_2); (try rw [show ((0 : Int)).toNat = 0 from rfl] at hx250_3); (try rw [show 0 * 4 = 0 from rfl] at hx250_3); (try rw [Addr.add_zero'] at hx250_3); have HR250_2 := Aside0.mk hi250_2; have HC250_2 := Aside0.mk hl250_2; clear hi250_2 hl250_2; replace p250 := eq_true p250; replace q250 := eq_true q250) | (go_at_call 21; (with_reducible refine (dogwatchlaw10_awake.calls  t251 _ A17.out).mono ?_); rintro e w28 ⟨rfl, hb⟩; have n0_ := Aside0.mk (Kd.R_below (by (with_reducible repeat (first | apply Kd.R_alloc | apply Kd.R_drewN | apply Kd.R_drew)); exact HO236.out) hb); have n1_ := Aside0.mk (Kd.R_below (by (with_reducible repeat (first | apply Kd.R_alloc | apply Kd.R_drewN | apply Kd.R_drew)); exact HO244.out) hb); have n2_ := Aside0.mk (Kd.S_below (by (with_reducible repeat (first | apply Kd.S_alloc | apply Kd.S_drewN | apply Kd.S_drew)); exact HO249.out) hb); have n3_ := Aside0.mk (Kd.R_below (by (with_reducible repeat (first | apply Kd.R_alloc | apply Kd.R_drewN | apply Kd.R_drew)); exact HL250_2.out) hb); have n4_ := Aside0.mk (Kd.C_below (by repeat (first | (with_reducible exact HR250_2.out) | (with_reducible refine Kd.C_alloc ?_ _) | (with_reducible refine Kd.C_drewN ?_ _) | (with_reducible refine Kd.C_drew ?_) | exact HR250_2.out)) hb); have n5_ := Aside0.mk (below_step (by repeat (first | (with_reducible first | exact HB.out | apply below_alloc | apply pw_below_drewN | apply below_drew1) | exact HB.out)) hb); clear HO236; clear HO244; clear HO249; clear HL250_2; clear HR250_2; clear HB; have HO236 := n0_; have HO244 := n1_; have HO249 := n2_; have HL250_2 := n3_; have HR250_2 := n4_; have HB := n5_; clear n0_ n1_ n2_ n3_ n4_ n5_; (try clear hb); (try clear hb2); (try clear hk); (try clear hi)))
                    go_ret
                    exact ⟨by first | rfl | (simp [errW_none, errW_some] <;> rfl) | (simp only [← hji9]; first | rfl | (simp [errW_none, errW_some] <;> rfl)) | (simp [*, errW_none, errW_some] <;> rfl), by repeat (first | (with_reducible first | exact HB.out | apply below_alloc | apply pw_below_drewN | apply below_drew1) | exact HB.out)⟩
                  · rw [if_neg c16] at H
                    have c16b0 : ((((rd_T47 t247 0).f3) == 0) == (a2 == 0)) = false := by simpa using c16
                    (try (have c16b1 : decide ((((rd_T47 t247 0).f3) == 0) = (a2 == 0)) = false := by simpa using c16))
                    (try (have c16b2 : ((((rd_T47 t247 0).f3) == 0) == (a2 == 0)) = false := by simpa using c16))
                    (try (have c16b3 : ¬ ((((rd_T47 t247 0).f3) == 0) = (a2 == 0)) := by simpa using c16))
                    clear c16
                    obtain rfl := Option.some.inj H
                    go_enter Try.func7, Try.ntmps7
                    go_wp2_with (first | ((with_reducible refine gate_callee (f := 27) rfl ?_); refine goesL_ (some 14) rfl rfl Try.func27 (by kernel_rfl) rfl #[.slice A0 l0.length c0] rfl (by (try simp only [List.map_toArray, List.map_cons, List.map_nil]); first | done | rfl | (simp only [List.length_drop, List.length_take]; rfl)) ?_; (with_reducible refine (record_Seal.calls k _ _ l0 t233 t234 _ ?side1 ?side2 A4.out).mono ?_); (case side1 => repeat (first | exact HR0.out | (with_reducible refine Kd.C_alloc ?_ _) | (with_reducible refine Kd.C_drewN ?_ _) | (with_reducible refine Kd.C_drew ?_))); (case side2 => exact HC0.out); rintro e w29 ⟨v235, rfl, ho0, hb⟩; refine ⟨_, rfl, ?_⟩; have n0_ := Aside0.mk (Kd.R_lower ho0 (below_size (by repeat (first | (with_reducible first | exact HB.out | apply below_alloc | apply pw_below_drewN | apply below_drew1) | exact HB.out)))); have n1_ := Aside0.mk (below_step (by repeat (first | (with_reducible first | exact HB.out | apply below_alloc | apply pw_below_drewN | apply below_drew1) | exact HB.out)) hb); clear HB; have HO236 := n0_; have HB := n1_; clear n0_ n1_; (try clear hb); (try clear hb2); (try clear hk); (try clear hi); (try clear ho0); obtain ⟨Ao30, co30, eo30⟩ := Kd.R_slice HO236.out; subst eo30) | ((with_reducible refine gate_dst (N := 48) rfl ?_); (try (refine gate_guard (by rfl) ?_; dsimp only)); refine Kd.R_lit (Kd.int .u8) _ 5 ?hg (N := 48) ?hd (xs := ([] : List Int)) (inner := []) (ok := fun _ => True) (okp := fun _ => True) ?hr ?hp (fun _ hk => hk) trivial (Below.refl _ _) (Nat.le_refl _) (by simp) ?_; (case hd => rfl); (case hg => rfl); (case hr => first | (go_simp; done) | (go_simp; rfl)); (case hp => exact (Reps.none _ _)); intro v240 w31 ho32 hb hg_ hnew_; clear hg_ hnew_; (first | rw [← Ny239.out] at ho32 | (simp only [Int.reduceToNat] at ho32; rw [← Ny239.out] at ho32)); have n0_ := Aside0.mk (Kd.R_elder' (by (with_reducible repeat (first | apply Kd.R_alloc | apply Kd.R_drewN | apply Kd.R_drew)); exact HO236.out) (Kd.R_base ho32) hb); have n1_ := Aside0.mk (Kd.R_lower (Kd.R_new' ho32 (Kd.R_lt (by (with_reducible repeat (first | apply Kd.R_alloc | apply Kd.R_drewN | apply Kd.R_drew)); exact HO236.out))) (below_size (by repeat (first | (with_reducible first | exact HB.out | apply below_alloc | apply pw_below_drewN | apply below_drew1) | exact HB.out)))); have n2_ := Aside0.mk (below_step (by repeat (first | (with_reducible first | exact HB.out | apply below_alloc | apply pw_below_drewN | apply below_drew1) | exact HB.out)) hb); clear HO236; clear HB; have HO236 := n0_; have HO241 := n1_; have HB := n2_; clear n0_ n1_ n2_; clear hb ho32) | ((with_reducible refine gate_builtin (b := .append) (xs := #[.tmp 48, .tmp 49]) rfl ?_); (try (refine gate_guard (by rfl) ?_; dsimp only)); at_builtin; refine Kd.R_append_rows (Kd.int .u8) (w0 := w) w.heap.size rfl (.tmp 48) (.tmp 49) 38 5 (.int .u8 0) 1 rfl Try.underlying38 info5 rfl (by decide) (by omega) v240 y239 t233 _ _ _ (fun k_ => some k_ ≠ (.slice Ao30 t233.length co30 : Value).ownBlock) (fun _ => False) rfl rfl ?aO ?aR (fun _ _ h => h) (fun _ h => h.elim) ?aF ?aB ?aS ?aL ?_; (case aR => repeat (first | exact (Kd.R_reads' HO236.out).2.2 | (with_reducible refine Kd.C_alloc ?_ _) | (with_reducible refine Kd.C_drewN ?_ _) | (with_reducible refine Kd.C_drew ?_))); (case aB => exact (by repeat (first | (with_reducible first | exact HB.out | apply below_alloc | apply pw_below_drewN | apply below_drew1) | exact HB.out))); (case aF => exact (fun k_ hk => Kd.fresh' (Kd.R_lt (by (with_reducible repeat (first | apply Kd.R_alloc | apply Kd.R_drewN | apply Kd.R_drew)); exact HO236.out)) k_ hk)); (case aO => exact (by (with_reducible repeat (first | apply Kd.R_alloc | apply Kd.R_drewN | apply Kd.R_drew)); exact Kd.R_mono HO241.out (fun _ hk => hk.2))); (case aS => exact (below_size (by repeat (first | (with_reducible first | exact HB.out | apply below_alloc | apply pw_below_drewN | apply below_drew1) | exact HB.out)))); (case aL => have := LMc8.out; omega); intro v243 w33 ho hb hg hat; rw [← Ny242.out] at ho; have n0_ := Aside0.mk (Kd.R_after (ok := (fun _ => True)) (by (with_reducible repeat (first | apply Kd.R_alloc | apply Kd.R_drewN | apply Kd.R_drew)); exact HO236.out) hg hat); have n1_ := Aside0.mk (hb); have n2_ := Aside0.mk (ho); clear HO236; clear HB; clear HO241; have HO236 := n0_; have HB := n1_; have HO244 := n2_; clear n0_ n1_ n2_; clear ho hb hg hat; obtain ⟨Ao34, co34, eo34⟩ := Kd.R_slice HO244.out; subst eo34; have p245 : 0 ≤ ((ji9) : Int) := of_decide_eq_true (by first | (with_reducible assumption) | assumption); have q245 : (ji9) < (y242.length : Int) := of_decide_eq_true (by first | (with_reducible assumption) | assumption); obtain ⟨ad245, e245, hx245_0⟩ := Kd.at_int (Kd.R_reads' HO244.out).2.2 (ji9) p245 q245; cases e245; replace p245 := eq_true p245; replace q245 := eq_true q245; have p12 : 0 ≤ ((ji9) : Int) := of_decide_eq_true (by first | (with_reducible assumption) | assumption); have q12 : ((ji9) : Int) < ((y242.length : Int) : Int) := of_decide_eq_true (by first | (with_reducible assumption) | assumption); obtain ⟨go12, co12, eo12, gb12, gl12, cl12, HG12⟩ := Kd.R_form HO244.out (by omega); (first | cases eo12 | (injection eo12 with ea_ en_ ec_; (first | subst ea_ | (injection ea_ with ea_; subst ea_)); subst ec_; clear en_)); have GB12 := Aside0.mk gb12; have GG12 := Aside0.mk HG12; clear gb12 gl12 HG12; (first | simp only [add_plain] at hx245_0 | skip); obtain ⟨hx12_0, hf12_0⟩ := Kd.R_celln 0 HO244.out ((ji9) : Int) p12 q12; replace p12 := eq_true p12; replace q12 := eq_true q12; obtain ⟨hy35_, hz35_⟩ := Kd.R_celln 0 HO244.out ((ji9) : Int) (of_decide_eq_true (by first | (with_reducible assumption) | assumption)) (of_decide_eq_true (by first | (with_reducible assumption) | assumption)); have HP35 := Kd.R_putg HO244.out ((ji9) : Int) (Go.bits .xor .u8 (rd y242 (ji9)) a2)) | ((with_reducible refine gate_store (t := 5) (p := 59) rfl ?_); refine store_event (t := 5) (p := 59) (v := ?vo_w36) (w1 := (w33.setCell ⟨go12, ((ji9) : Int).toNat, none⟩ (.int .u8 (Go.bits .xor .u8 (rd y242 (ji9)) a2)))) ?hg ?ho ?hn ?hr ?_; (case ho => rfl); (case hg => rfl); (case hn => rfl); (case hr => first | (go_simp; done) | (go_simp; rfl)); intro w36 hw; have hg : w33.grownBy w36 (some go12) := (by rw [hw]; exact HP35.2); have hp_ : Kd.R (Kd.int .u8) 5 w36 w.heap.size (fun k_ => some k_ ≠ (.slice Ao30 t233.length co30 : Value).ownBlock) (.slice (some ⟨go12, 0, none⟩) y242.length co34) y246 := (by rw [hw, Ny246.out]; exact HP35.1); clear HP35; have n0_ := Aside0.mk (Kd.R_after (v := (.slice (some ⟨go12, 0, none⟩) y242.length co34)) (v1 := (.slice (some ⟨go12, 0, none⟩) y242.length co34)) (ok := (fun _ => True)) (by (with_reducible repeat (first | apply Kd.R_alloc | apply Kd.R_drewN | apply Kd.R_drew)); exact HO236.out) hg (.inl rfl)); have n1_ := Aside0.mk (hp_); have n2_ := Aside0.mk ((by rw [hw]; exact below_set (HB.out) GB12.out : Below w.heap.size w w36)); clear HO236; clear HO244; clear HB; have HO236 := n0_; have HO244 := n1_; have HB := n2_; clear n0_ n1_ n2_; clear hg hw hp_) | ((with_reducible refine gate_callee (f := 22) rfl ?_); refine goesL_ (some 61) rfl rfl Try.func22 (by kernel_rfl) rfl #[.slice (some ⟨go12, 0, none⟩) y246.length co34] rfl (by (try simp only [List.map_toArray, List.map_cons, List.map_nil]); first | done | (rw [show y246.length = y242.length from (Kd.R_reads' HO244.out).1.symm] <;> rfl) | rfl | (simp only [List.length_drop, List.length_take]; rfl)) ?_; (with_reducible refine (record_Split.calls k _ _ y246 t247 _ ?side1 ?side2 A13.out).mono ?_); (case side1 => repeat (first | exact (Kd.R_reads' HO244.out).2.2 | (with_reducible refine Kd.C_alloc ?_ _) | (with_reducible refine Kd.C_drewN ?_ _) | (with_reducible refine Kd.C_drew ?_))); (case side2 => rw [show y246.length = y242.length from (Kd.R_reads' HO244.out).1.symm]; exact (Kd.R_reads' HO244.out).2.1); rintro e w37 ⟨v248, rfl, ho0, hb⟩; refine ⟨_, rfl, ?_⟩; have n0_ := Aside0.mk (Kd.R_below (by (with_reducible repeat (first | apply Kd.R_alloc | apply Kd.R_drewN | apply Kd.R_drew)); exact HO236.out) hb); have n1_ := Aside0.mk (Kd.R_below (by (with_reducible repeat (first | apply Kd.R_alloc | apply Kd.R_drewN | apply Kd.R_drew)); exact HO244.out) hb); have n2_ := Aside0.mk (Kd.S_lower (Kd.S_new' (Kd.S_new' ho0 (Kd.R_lt (by (with_reducible repeat (first | apply Kd.R_alloc | apply Kd.R_drewN | apply Kd.R_drew)); exact HO236.out))) (Kd.R_lt (by (with_reducible repeat (first | apply Kd.R_alloc | apply Kd.R_drewN | apply Kd.R_drew)); exact HO244.out))) (below_size (by repeat (first | (with_reducible first | exact HB.out | apply below_alloc | apply pw_below_drewN | apply below_drew1) | exact HB.out)))); have n3_ := Aside0.mk (below_step (by repeat (first | (with_reducible first | exact HB.out | apply below_alloc | apply pw_below_drewN | apply below_drew1) | exact HB.out)) hb); clear HO236; clear HO244; clear HB; have HO236 := n0_; have HO244 := n1_; have HO249 := n2_; have HB := n3_; clear n0_ n1_ n2_ n3_; (try clear hb); (try clear hb2); (try clear hk); (try clear hi); (try clear ho0); obtain ⟨Ao38, co38, eo38⟩ := Kd.S_slice HO249.out; subst eo38; have p250 : 0 ≤ (0 : Int) := (by omega); have q250 : 0 < (t247.length : Int) := of_decide_eq_true (by first | (with_reducible assumption) | assumption); obtain ⟨ad250, A250_2, c250_2, e250, hx250_0, hx250_1, hx250_2, hx250_3, hl250_2, hi250_2⟩ := at_T47 (Kd.S_reads' HO249.out).2.2 0 p250 q250; cases e250; obtain ⟨ce250, hce250, hMe250, hcc250⟩ := Kd.S_get HO249.out z47 0 p250 (by first | exact q250 | exact of_decide_eq_true (by first | (with_reducible assumption) | assumption) | (have e_ := (Kd.S_reads' HO249.out).1; omega)); obtain ⟨ve250_2, rfl, ge250_2⟩ := k47_openM hMe250; have hv250_2 := hcc250 2 _ rfl; rw [add_field _ _ 2 (by omega)] at hv250_2; replace hv250_2 := Option.some.inj (hv250_2.symm.trans hx250_2); rw [hv250_2] at ge250_2; have HL250_2 := Aside0.mk (show Kd.R (Kd.int .u8) 5 _ _ _ _ ((rd_T47 t247 0).f2) from ge250_2); clear hv250_2 ge250_2; clear hcc250 hce250; have qi250 : (0 < t247.length) = True := eq_true (by omega); (try rw [show ((0 : Int)).toNat = 0 from rfl] at hx250_0); (try rw [show 0 * 4 = 0 from rfl] at hx250_0); (try rw [Addr.add_zero'] at hx250_0); (try rw [show ((0 : Int)).toNat = 0 from rfl] at hx250_1); (try rw [show 0 * 4 = 0 from rfl] at hx250_1); (try rw [Addr.add_zero'] at hx250_1); (try rw [show ((0 : Int)).toNat = 0 from rfl] at hx250_2); (try rw [show 0 * 4 = 0 from rfl] at hx250_2); (try rw [Addr.add_zero'] at hx250_2); (try rw [show ((0 : Int)).toNat = 0 from rfl] at hx250_3); (try rw [show 0 * 4 = 0 from rfl] at hx250_3); (try rw [Addr.add_zero'] at hx250_3); have HR250_2 := Aside0.mk hi250_2; have HC250_2 := Aside0.mk hl250_2; clear hi250_2 hl250_2; replace p250 := eq_true p250; replace q250 := eq_true q250))
                    go_ret
                    exact ⟨by first | rfl | (simp [errW_none, errW_some] <;> rfl) | (simp only [← hji9]; first | rfl | (simp [errW_none, errW_some] <;> rfl)) | (simp [*, errW_none, errW_some] <;> rfl), by repeat (first | (with_reducible first | exact HB.out | apply below_alloc | apply pw_below_drewN | apply below_drew1) | exact HB.out)⟩
                · rw [if_neg c15] at H
                  exact absurd H (by simp)
              · rw [if_neg c14] at H
                have c14b0 : ((t247.length : Int) == 1) = false := beq_eq_false_iff_ne.mpr c14
                have c14b1 : ((t247.length : Int) != 1) = true := bne_iff_ne.mpr c14
                obtain rfl := Option.some.inj H
                go_enter Try.func7, Try.ntmps7
                go_wp2_with (first | ((with_reducible refine gate_callee (f := 27) rfl ?_); refine goesL_ (some 14) rfl rfl Try.func27 (by kernel_rfl) rfl #[.slice A0 l0.length c0] rfl (by (try simp only [List.map_toArray, List.map_cons, List.map_nil]); first | done | rfl | (simp only [List.length_drop, List.length_take]; rfl)) ?_; (with_reducible refine (record_Seal.calls k _ _ l0 t233 t234 _ ?side1 ?side2 A4.out).mono ?_); (case side1 => repeat (first | exact HR0.out | (with_reducible refine Kd.C_alloc ?_ _) | (with_reducible refine Kd.C_drewN ?_ _) | (with_reducible refine Kd.C_drew ?_))); (case side2 => exact HC0.out); rintro e w39 ⟨v235, rfl, ho0, hb⟩; refine ⟨_, rfl, ?_⟩; have n0_ := Aside0.mk (Kd.R_lower ho0 (below_size (by repeat (first | (with_reducible first | exact HB.out | apply below_alloc | apply pw_below_drewN | apply below_drew1) | exact HB.out)))); have n1_ := Aside0.mk (below_step (by repeat (first | (with_reducible first | exact HB.out | apply below_alloc | apply pw_below_drewN | apply below_drew1) | exact HB.out)) hb); clear HB; have HO236 := n0_; have HB := n1_; clear n0_ n1_; (try clear hb); (try clear hb2); (try clear hk); (try clear hi); (try clear ho0); obtain ⟨Ao40, co40, eo40⟩ := Kd.R_slice HO236.out; subst eo40) | ((with_reducible refine gate_dst (N := 48) rfl ?_); (try (refine gate_guard (by rfl) ?_; dsimp only)); refine Kd.R_lit (Kd.int .u8) _ 5 ?hg (N := 48) ?hd (xs := ([] : List Int)) (inner := []) (ok := fun _ => True) (okp := fun _ => True) ?hr ?hp (fun _ hk => hk) trivial (Below.refl _ _) (Nat.le_refl _) (by simp) ?_; (case hd => rfl); (case hg => rfl); (case hr => first | (go_simp; done) | (go_simp; rfl)); (case hp => exact (Reps.none _ _)); intro v240 w41 ho42 hb hg_ hnew_; clear hg_ hnew_; (first | rw [← Ny239.out] at ho42 | (simp only [Int.reduceToNat] at ho42; rw [← Ny239.out] at ho42)); have n0_ := Aside0.mk (Kd.R_elder' (by (with_reducible repeat (first | apply Kd.R_alloc | apply Kd.R_drewN | apply Kd.R_drew)); exact HO236.out) (Kd.R_base ho42) hb); have n1_ := Aside0.mk (Kd.R_lower (Kd.R_new' ho42 (Kd.R_lt (by (with_reducible repeat (first | apply Kd.R_alloc | apply Kd.R_drewN | apply Kd.R_drew)); exact HO236.out))) (below_size (by repeat (first | (with_reducible first | exact HB.out | apply below_alloc | apply pw_below_drewN | apply below_drew1) | exact HB.out)))); have n2_ := Aside0.mk (below_step (by repeat (first | (with_reducible first | exact HB.out | apply below_alloc | apply pw_below_drewN | apply below_drew1) | exact HB.out)) hb); clear HO236; clear HB; have HO236 := n0_; have HO241 := n1_; have HB := n2_; clear n0_ n1_ n2_; clear hb ho42) | ((with_reducible refine gate_builtin (b := .append) (xs := #[.tmp 48, .tmp 49]) rfl ?_); (try (refine gate_guard (by rfl) ?_; dsimp only)); at_builtin; refine Kd.R_append_rows (Kd.int .u8) (w0 := w) w.heap.size rfl (.tmp 48) (.tmp 49) 38 5 (.int .u8 0) 1 rfl Try.underlying38 info5 rfl (by decide) (by omega) v240 y239 t233 _ _ _ (fun k_ => some k_ ≠ (.slice Ao40 t233.length co40 : Value).ownBlock) (fun _ => False) rfl rfl ?aO ?aR (fun _ _ h => h) (fun _ h => h.elim) ?aF ?aB ?aS ?aL ?_; (case aR => repeat (first | exact (Kd.R_reads' HO236.out).2.2 | (with_reducible refine Kd.C_alloc ?_ _) | (with_reducible refine Kd.C_drewN ?_ _) | (with_reducible refine Kd.C_drew ?_))); (case aB => exact (by repeat (first | (with_reducible first | exact HB.out | apply below_alloc | apply pw_below_drewN | apply below_drew1) | exact HB.out))); (case aF => exact (fun k_ hk => Kd.fresh' (Kd.R_lt (by (with_reducible repeat (first | apply Kd.R_alloc | apply Kd.R_drewN | apply Kd.R_drew)); exact HO236.out)) k_ hk)); (case aO => exact (by (with_reducible repeat (first | apply Kd.R_alloc | apply Kd.R_drewN | apply Kd.R_drew)); exact Kd.R_mono HO241.out (fun _ hk => hk.2))); (case aS => exact (below_size (by repeat (first | (with_reducible first | exact HB.out | apply below_alloc | apply pw_below_drewN | apply below_drew1) | exact HB.out)))); (case aL => have := LMc8.out; omega); intro v243 w43 ho hb hg hat; rw [← Ny242.out] at ho; have n0_ := Aside0.mk (Kd.R_after (ok := (fun _ => True)) (by (with_reducible repeat (first | apply Kd.R_alloc | apply Kd.R_drewN | apply Kd.R_drew)); exact HO236.out) hg hat); have n1_ := Aside0.mk (hb); have n2_ := Aside0.mk (ho); clear HO236; clear HB; clear HO241; have HO236 := n0_; have HB := n1_; have HO244 := n2_; clear n0_ n1_ n2_; clear ho hb hg hat; obtain ⟨Ao44, co44, eo44⟩ := Kd.R_slice HO244.out; subst eo44; have p245 : 0 ≤ ((ji9) : Int) := of_decide_eq_true (by first | (with_reducible assumption) | assumption); have q245 : (ji9) < (y242.length : Int) := of_decide_eq_true (by first | (with_reducible assumption) | assumption); obtain ⟨ad245, e245, hx245_0⟩ := Kd.at_int (Kd.R_reads' HO244.out).2.2 (ji9) p245 q245; cases e245; replace p245 := eq_true p245; replace q245 := eq_true q245; have p12 : 0 ≤ ((ji9) : Int) := of_decide_eq_true (by first | (with_reducible assumption) | assumption); have q12 : ((ji9) : Int) < ((y242.length : Int) : Int) := of_decide_eq_true (by first | (with_reducible assumption) | assumption); obtain ⟨go12, co12, eo12, gb12, gl12, cl12, HG12⟩ := Kd.R_form HO244.out (by omega); (first | cases eo12 | (injection eo12 with ea_ en_ ec_; (first | subst ea_ | (injection ea_ with ea_; subst ea_)); subst ec_; clear en_)); have GB12 := Aside0.mk gb12; have GG12 := Aside0.mk HG12; clear gb12 gl12 HG12; (first | simp only [add_plain] at hx245_0 | skip); obtain ⟨hx12_0, hf12_0⟩ := Kd.R_celln 0 HO244.out ((ji9) : Int) p12 q12; replace p12 := eq_true p12; replace q12 := eq_true q12; obtain ⟨hy45_, hz45_⟩ := Kd.R_celln 0 HO244.out ((ji9) : Int) (of_decide_eq_true (by first | (with_reducible assumption) | assumption)) (of_decide_eq_true (by first | (with_reducible assumption) | assumption)); have HP45 := Kd.R_putg HO244.out ((ji9) : Int) (Go.bits .xor .u8 (rd y242 (ji9)) a2)) | ((with_reducible refine gate_store (t := 5) (p := 59) rfl ?_); refine store_event (t := 5) (p := 59) (v := ?vo_w46) (w1 := (w43.setCell ⟨go12, ((ji9) : Int).toNat, none⟩ (.int .u8 (Go.bits .xor .u8 (rd y242 (ji9)) a2)))) ?hg ?ho ?hn ?hr ?_; (case ho => rfl); (case hg => rfl); (case hn => rfl); (case hr => first | (go_simp; done) | (go_simp; rfl)); intro w46 hw; have hg : w43.grownBy w46 (some go12) := (by rw [hw]; exact HP45.2); have hp_ : Kd.R (Kd.int .u8) 5 w46 w.heap.size (fun k_ => some k_ ≠ (.slice Ao40 t233.length co40 : Value).ownBlock) (.slice (some ⟨go12, 0, none⟩) y242.length co44) y246 := (by rw [hw, Ny246.out]; exact HP45.1); clear HP45; have n0_ := Aside0.mk (Kd.R_after (v := (.slice (some ⟨go12, 0, none⟩) y242.length co44)) (v1 := (.slice (some ⟨go12, 0, none⟩) y242.length co44)) (ok := (fun _ => True)) (by (with_reducible repeat (first | apply Kd.R_alloc | apply Kd.R_drewN | apply Kd.R_drew)); exact HO236.out) hg (.inl rfl)); have n1_ := Aside0.mk (hp_); have n2_ := Aside0.mk ((by rw [hw]; exact below_set (HB.out) GB12.out : Below w.heap.size w w46)); clear HO236; clear HO244; clear HB; have HO236 := n0_; have HO244 := n1_; have HB := n2_; clear n0_ n1_ n2_; clear hg hw hp_) | ((with_reducible refine gate_callee (f := 22) rfl ?_); refine goesL_ (some 61) rfl rfl Try.func22 (by kernel_rfl) rfl #[.slice (some ⟨go12, 0, none⟩) y246.length co44] rfl (by (try simp only [List.map_toArray, List.map_cons, List.map_nil]); first | done | (rw [show y246.length = y242.length from (Kd.R_reads' HO244.out).1.symm] <;> rfl) | rfl | (simp only [List.length_drop, List.length_take]; rfl)) ?_; (with_reducible refine (record_Split.calls k _ _ y246 t247 _ ?side1 ?side2 A13.out).mono ?_); (case side1 => repeat (first | exact (Kd.R_reads' HO244.out).2.2 | (with_reducible refine Kd.C_alloc ?_ _) | (with_reducible refine Kd.C_drewN ?_ _) | (with_reducible refine Kd.C_drew ?_))); (case side2 => rw [show y246.length = y242.length from (Kd.R_reads' HO244.out).1.symm]; exact (Kd.R_reads' HO244.out).2.1); rintro e w47 ⟨v248, rfl, ho0, hb⟩; refine ⟨_, rfl, ?_⟩; have n0_ := Aside0.mk (Kd.R_below (by (with_reducible repeat (first | apply Kd.R_alloc | apply Kd.R_drewN | apply Kd.R_drew)); exact HO236.out) hb); have n1_ := Aside0.mk (Kd.R_below (by (with_reducible repeat (first | apply Kd.R_alloc | apply Kd.R_drewN | apply Kd.R_drew)); exact HO244.out) hb); have n2_ := Aside0.mk (Kd.S_lower (Kd.S_new' (Kd.S_new' ho0 (Kd.R_lt (by (with_reducible repeat (first | apply Kd.R_alloc | apply Kd.R_drewN | apply Kd.R_drew)); exact HO236.out))) (Kd.R_lt (by (with_reducible repeat (first | apply Kd.R_alloc | apply Kd.R_drewN | apply Kd.R_drew)); exact HO244.out))) (below_size (by repeat (first | (with_reducible first | exact HB.out | apply below_alloc | apply pw_below_drewN | apply below_drew1) | exact HB.out)))); have n3_ := Aside0.mk (below_step (by repeat (first | (with_reducible first | exact HB.out | apply below_alloc | apply pw_below_drewN | apply below_drew1) | exact HB.out)) hb); clear HO236; clear HO244; clear HB; have HO236 := n0_; have HO244 := n1_; have HO249 := n2_; have HB := n3_; clear n0_ n1_ n2_ n3_; (try clear hb); (try clear hb2); (try clear hk); (try clear hi); (try clear ho0); obtain ⟨Ao48, co48, eo48⟩ := Kd.S_slice HO249.out; subst eo48))
                go_ret
                exact ⟨by first | rfl | (simp [errW_none, errW_some] <;> rfl) | (simp only [← hji9]; first | rfl | (simp [errW_none, errW_some] <;> rfl)) | (simp [*, errW_none, errW_some] <;> rfl), by repeat (first | (with_reducible first | exact HB.out | apply below_alloc | apply pw_below_drewN | apply below_drew1) | exact HB.out)⟩
            · rw [if_neg c11] at H
              exact absurd H (by simp)
          · rw [if_neg c10] at H
            exact absurd H (by simp)
        · rw [if_neg c8] at H
          exact absurd H (by simp)
    · rw [if_neg c6] at H
      have c6b0 : ((t233.length : Int) == (wrap64 ((l0.length : Int) + 2))) = false := beq_eq_false_iff_ne.mpr c6
      have c6b1 : ((t233.length : Int) != (wrap64 ((l0.length : Int) + 2))) = true := bne_iff_ne.mpr c6
      obtain rfl := Option.some.inj H
      go_enter Try.func7, Try.ntmps7
      go_wp2_with (first | ((with_reducible refine gate_callee (f := 27) rfl ?_); refine goesL_ (some 14) rfl rfl Try.func27 (by kernel_rfl) rfl #[.slice A0 l0.length c0] rfl (by (try simp only [List.map_toArray, List.map_cons, List.map_nil]); first | done | rfl | (simp only [List.length_drop, List.length_take]; rfl)) ?_; (with_reducible refine (record_Seal.calls k _ _ l0 t233 t234 _ ?side1 ?side2 A4.out).mono ?_); (case side1 => repeat (first | exact HR0.out | (with_reducible refine Kd.C_alloc ?_ _) | (with_reducible refine Kd.C_drewN ?_ _) | (with_reducible refine Kd.C_drew ?_))); (case side2 => exact HC0.out); rintro e w49 ⟨v235, rfl, ho0, hb⟩; refine ⟨_, rfl, ?_⟩; have n0_ := Aside0.mk (Kd.R_lower ho0 (below_size (by repeat (first | (with_reducible first | exact HB.out | apply below_alloc | apply pw_below_drewN | apply below_drew1) | exact HB.out)))); have n1_ := Aside0.mk (below_step (by repeat (first | (with_reducible first | exact HB.out | apply below_alloc | apply pw_below_drewN | apply below_drew1) | exact HB.out)) hb); clear HB; have HO236 := n0_; have HB := n1_; clear n0_ n1_; (try clear hb); (try clear hb2); (try clear hk); (try clear hi); (try clear ho0); obtain ⟨Ao50, co50, eo50⟩ := Kd.R_slice HO236.out; subst eo50))
      go_ret
      exact ⟨by first | rfl | (simp [errW_none, errW_some] <;> rfl) | (simp [*, errW_none, errW_some] <;> rfl), by repeat (first | (with_reducible first | exact HB.out | apply below_alloc | apply pw_below_drewN | apply below_drew1) | exact HB.out)⟩
  · rw [if_neg c5] at H
    have c5b0 : (t234 == 0) = false := beq_eq_false_iff_ne.mpr c5
    have c5b1 : (t234 != 0) = true := bne_iff_ne.mpr c5
    by_cases c51 : (l0.length : Int) < 1
    · rw [if_pos c51] at H
      have c51b0 : decide ((l0.length : Int) < 1) = true := decide_eq_true c51
      have c51b1 : decide (l0.length < 1) = true := decide_eq_true (by omega)
      clear c51
      by_cases c52 : (t233.length : Int) = 0
      · rw [if_pos c52] at H
        have c52b0 : ((t233.length : Int) == 0) = true := beq_iff_eq.mpr c52
        have c52b1 : ((t233.length : Int) != 0) = false := bne_eq_false_iff_eq.mpr c52
        clear c52
        replace H := Option.bind_eq_some_iff.mp H
        obtain ⟨t237, A530, H⟩ := H
        replace H : (some t237) = some r := H
        have A53 := Aside0.mk A530
        clear A530
        obtain rfl := Option.some.inj H
        go_enter Try.func7, Try.ntmps7
        go_wp2_with (first | ((with_reducible refine gate_callee (f := 27) rfl ?_); refine goesL_ (some 14) rfl rfl Try.func27 (by kernel_rfl) rfl #[.slice A0 l0.length c0] rfl (by (try simp only [List.map_toArray, List.map_cons, List.map_nil]); first | done | rfl | (simp only [List.length_drop, List.length_take]; rfl)) ?_; (with_reducible refine (record_Seal.calls k _ _ l0 t233 t234 _ ?side1 ?side2 A4.out).mono ?_); (case side1 => repeat (first | exact HR0.out | (with_reducible refine Kd.C_alloc ?_ _) | (with_reducible refine Kd.C_drewN ?_ _) | (with_reducible refine Kd.C_drew ?_))); (case side2 => exact HC0.out); rintro e w54 ⟨v235, rfl, ho0, hb⟩; refine ⟨_, rfl, ?_⟩; have n0_ := Aside0.mk (Kd.R_lower ho0 (below_size (by repeat (first | (with_reducible first | exact HB.out | apply below_alloc | apply pw_below_drewN | apply below_drew1) | exact HB.out)))); have n1_ := Aside0.mk (below_step (by repeat (first | (with_reducible first | exact HB.out | apply below_alloc | apply pw_below_drewN | apply below_drew1) | exact HB.out)) hb); clear HB; have HO236 := n0_; have HB := n1_; clear n0_ n1_; (try clear hb); (try clear hb2); (try clear hk); (try clear hi); (try clear ho0); obtain ⟨Ao55, co55, eo55⟩ := Kd.R_slice HO236.out; subst eo55) | (go_at_call 21; (with_reducible refine (dogwatchlaw10_awake.calls  t237 _ A53.out).mono ?_); rintro e w56 ⟨rfl, hb⟩; have n0_ := Aside0.mk (Kd.R_below (by (with_reducible repeat (first | apply Kd.R_alloc | apply Kd.R_drewN | apply Kd.R_drew)); exact HO236.out) hb); have n1_ := Aside0.mk (below_step (by repeat (first | (with_reducible first | exact HB.out | apply below_alloc | apply pw_below_drewN | apply below_drew1) | exact HB.out)) hb); clear HO236; clear HB; have HO236 := n0_; have HB := n1_; clear n0_ n1_; (try clear hb); (try clear hb2); (try clear hk); (try clear hi)))
        go_ret
        exact ⟨by first | rfl | (simp [errW_none, errW_some] <;> rfl) | (simp [*, errW_none, errW_some] <;> rfl), by repeat (first | (with_reducible first | exact HB.out | apply below_alloc | apply pw_below_drewN | apply below_drew1) | exact HB.out)⟩
      · rw [if_neg c52] at H
        have c52b0 : ((t233.length : Int) == 0) = false := beq_eq_false_iff_ne.mpr c52
        have c52b1 : ((t233.length : Int) != 0) = true := bne_iff_ne.mpr c52
        have c52b2 : ¬ (t233 = []) := fun h_ => c52 (by rw [h_]; rfl)
        obtain rfl := Option.some.inj H
        go_enter Try.func7, Try.ntmps7
        go_wp2_with (first | ((with_reducible refine gate_callee (f := 27) rfl ?_); refine goesL_ (some 14) rfl rfl Try.func27 (by kernel_rfl) rfl #[.slice A0 l0.length c0] rfl (by (try simp only [List.map_toArray, List.map_cons, List.map_nil]); first | done | rfl | (simp only [List.length_drop, List.length_take]; rfl)) ?_; (with_reducible refine (record_Seal.calls k _ _ l0 t233 t234 _ ?side1 ?side2 A4.out).mono ?_); (case side1 => repeat (first | exact HR0.out | (with_reducible refine Kd.C_alloc ?_ _) | (with_reducible refine Kd.C_drewN ?_ _) | (with_reducible refine Kd.C_drew ?_))); (case side2 => exact HC0.out); rintro e w57 ⟨v235, rfl, ho0, hb⟩; refine ⟨_, rfl, ?_⟩; have n0_ := Aside0.mk (Kd.R_lower ho0 (below_size (by repeat (first | (with_reducible first | exact HB.out | apply below_alloc | apply pw_below_drewN | apply below_drew1) | exact HB.out)))); have n1_ := Aside0.mk (below_step (by repeat (first | (with_reducible first | exact HB.out | apply below_alloc | apply pw_below_drewN | apply below_drew1) | exact HB.out)) hb); clear HB; have HO236 := n0_; have HB := n1_; clear n0_ n1_; (try clear hb); (try clear hb2); (try clear hk); (try clear hi); (try clear ho0); obtain ⟨Ao58, co58, eo58⟩ := Kd.R_slice HO236.out; subst eo58))
        go_ret
        exact ⟨by first | rfl | (simp [errW_none, errW_some] <;> rfl) | (simp [*, errW_none, errW_some] <;> rfl), by repeat (first | (with_reducible first | exact HB.out | apply below_alloc | apply pw_below_drewN | apply below_drew1) | exact HB.out)⟩
    · rw [if_neg c51] at H
      have c51b0 : decide ((l0.length : Int) < 1) = false := decide_eq_false c51
      have c51b1 : decide (l0.length < 1) = false := decide_eq_false (by omega)
      clear c51
      by_cases c59 : (l0.length : Int) > 120
      · rw [if_pos c59] at H
        have c59b0 : decide (120 < (l0.length : Int)) = true := decide_eq_true c59
        have c59b1 : decide (120 < l0.length) = true := decide_eq_true (by omega)
        clear c59
        by_cases c60 : (t233.length : Int) = 0
        · rw [if_pos c60] at H
          have c60b0 : ((t233.length : Int) == 0) = true := beq_iff_eq.mpr c60
          have c60b1 : ((t233.length : Int) != 0) = false := bne_eq_false_iff_eq.mpr c60
          clear c60
          replace H := Option.bind_eq_some_iff.mp H
          obtain ⟨t238, A610, H⟩ := H
          replace H : (some t238) = some r := H
          have A61 := Aside0.mk A610
          clear A610
          obtain rfl := Option.some.inj H
          go_enter Try.func7, Try.ntmps7
          go_wp2_with (first | ((with_reducible refine gate_callee (f := 27) rfl ?_); refine goesL_ (some 14) rfl rfl Try.func27 (by kernel_rfl) rfl #[.slice A0 l0.length c0] rfl (by (try simp only [List.map_toArray, List.map_cons, List.map_nil]); first | done | rfl | (simp only [List.length_drop, List.length_take]; rfl)) ?_; (with_reducible refine (record_Seal.calls k _ _ l0 t233 t234 _ ?side1 ?side2 A4.out).mono ?_); (case side1 => repeat (first | exact HR0.out | (with_reducible refine Kd.C_alloc ?_ _) | (with_reducible refine Kd.C_drewN ?_ _) | (with_reducible refine Kd.C_drew ?_))); (case side2 => exact HC0.out); rintro e w62 ⟨v235, rfl, ho0, hb⟩; refine ⟨_, rfl, ?_⟩; have n0_ := Aside0.mk (Kd.R_lower ho0 (below_size (by repeat (first | (with_reducible first | exact HB.out | apply below_alloc | apply pw_below_drewN | apply below_drew1) | exact HB.out)))); have n1_ := Aside0.mk (below_step (by repeat (first | (with_reducible first | exact HB.out | apply below_alloc | apply pw_below_drewN | apply below_drew1) | exact HB.out)) hb); clear HB; have HO236 := n0_; have HB := n1_; clear n0_ n1_; (try clear hb); (try clear hb2); (try clear hk); (try clear hi); (try clear ho0); obtain ⟨Ao63, co63, eo63⟩ := Kd.R_slice HO236.out; subst eo63) | (go_at_call 21; (with_reducible refine (dogwatchlaw10_awake.calls  t238 _ A61.out).mono ?_); rintro e w64 ⟨rfl, hb⟩; have n0_ := Aside0.mk (Kd.R_below (by (with_reducible repeat (first | apply Kd.R_alloc | apply Kd.R_drewN | apply Kd.R_drew)); exact HO236.out) hb); have n1_ := Aside0.mk (below_step (by repeat (first | (with_reducible first | exact HB.out | apply below_alloc | apply pw_below_drewN | apply below_drew1) | exact HB.out)) hb); clear HO236; clear HB; have HO236 := n0_; have HB := n1_; clear n0_ n1_; (try clear hb); (try clear hb2); (try clear hk); (try clear hi)))
          go_ret
          exact ⟨by first | rfl | (simp [errW_none, errW_some] <;> rfl) | (simp [*, errW_none, errW_some] <;> rfl), by repeat (first | (with_reducible first | exact HB.out | apply below_alloc | apply pw_below_drewN | apply below_drew1) | exact HB.out)⟩
        · rw [if_neg c60] at H
          have c60b0 : ((t233.length : Int) == 0) = false := beq_eq_false_iff_ne.mpr c60
          have c60b1 : ((t233.length : Int) != 0) = true := bne_iff_ne.mpr c60
          have c60b2 : ¬ (t233 = []) := fun h_ => c60 (by rw [h_]; rfl)
          obtain rfl := Option.some.inj H
          go_enter Try.func7, Try.ntmps7
          go_wp2_with (first | ((with_reducible refine gate_callee (f := 27) rfl ?_); refine goesL_ (some 14) rfl rfl Try.func27 (by kernel_rfl) rfl #[.slice A0 l0.length c0] rfl (by (try simp only [List.map_toArray, List.map_cons, List.map_nil]); first | done | rfl | (simp only [List.length_drop, List.length_take]; rfl)) ?_; (with_reducible refine (record_Seal.calls k _ _ l0 t233 t234 _ ?side1 ?side2 A4.out).mono ?_); (case side1 => repeat (first | exact HR0.out | (with_reducible refine Kd.C_alloc ?_ _) | (with_reducible refine Kd.C_drewN ?_ _) | (with_reducible refine Kd.C_drew ?_))); (case side2 => exact HC0.out); rintro e w65 ⟨v235, rfl, ho0, hb⟩; refine ⟨_, rfl, ?_⟩; have n0_ := Aside0.mk (Kd.R_lower ho0 (below_size (by repeat (first | (with_reducible first | exact HB.out | apply below_alloc | apply pw_below_drewN | apply below_drew1) | exact HB.out)))); have n1_ := Aside0.mk (below_step (by repeat (first | (with_reducible first | exact HB.out | apply below_alloc | apply pw_below_drewN | apply below_drew1) | exact HB.out)) hb); clear HB; have HO236 := n0_; have HB := n1_; clear n0_ n1_; (try clear hb); (try clear hb2); (try clear hk); (try clear hi); (try clear ho0); obtain ⟨Ao66, co66, eo66⟩ := Kd.R_slice HO236.out; subst eo66))
          go_ret
          exact ⟨by first | rfl | (simp [errW_none, errW_some] <;> rfl) | (simp [*, errW_none, errW_some] <;> rfl), by repeat (first | (with_reducible first | exact HB.out | apply below_alloc | apply pw_below_drewN | apply below_drew1) | exact HB.out)⟩
      · rw [if_neg c59] at H
        have c59b0 : decide (120 < (l0.length : Int)) = false := decide_eq_false c59
        have c59b1 : decide (120 < l0.length) = false := decide_eq_false (by omega)
        clear c59
        obtain rfl := Option.some.inj H
        go_enter Try.func7, Try.ntmps7
        go_wp2_with (first | ((with_reducible refine gate_callee (f := 27) rfl ?_); refine goesL_ (some 14) rfl rfl Try.func27 (by kernel_rfl) rfl #[.slice A0 l0.length c0] rfl (by (try simp only [List.map_toArray, List.map_cons, List.map_nil]); first | done | rfl | (simp only [List.length_drop, List.length_take]; rfl)) ?_; (with_reducible refine (record_Seal.calls k _ _ l0 t233 t234 _ ?side1 ?side2 A4.out).mono ?_); (case side1 => repeat (first | exact HR0.out | (with_reducible refine Kd.C_alloc ?_ _) | (with_reducible refine Kd.C_drewN ?_ _) | (with_reducible refine Kd.C_drew ?_))); (case side2 => exact HC0.out); rintro e w67 ⟨v235, rfl, ho0, hb⟩; refine ⟨_, rfl, ?_⟩; have n0_ := Aside0.mk (Kd.R_lower ho0 (below_size (by repeat (first | (with_reducible first | exact HB.out | apply below_alloc | apply pw_below_drewN | apply below_drew1) | exact HB.out)))); have n1_ := Aside0.mk (below_step (by repeat (first | (with_reducible first | exact HB.out | apply below_alloc | apply pw_below_drewN | apply below_drew1) | exact HB.out)) hb); clear HB; have HO236 := n0_; have HB := n1_; clear n0_ n1_; (try clear hb); (try clear hb2); (try clear hk); (try clear hi); (try clear ho0)))
        go_ret
        exact ⟨by first | rfl | (simp [errW_none, errW_some] <;> rfl) | (simp [*, errW_none, errW_some] <;> rfl), by repeat (first | (with_reducible first | exact HB.out | apply below_alloc | apply pw_below_drewN | apply below_drew1) | exact HB.out)⟩

/-- THE ONE PURE STATEMENT of dogwatchlaw10_RecordFinds: yours. -/
def dogwatchlaw10_RecordFinds.Pure : Prop := ∀ (l0 : List Int) (a1 : Int) (a2 : Int), l0.length ≤ maxLen → l0.length * 1 ≤ 140737488351232 → (∀ x ∈ l0, (Lit.int .u8 x).wf = true) → (Lit.int .u8 a1).wf = true → (Lit.int .u8 a2).wf = true → ∃ k, dogwatchlaw10_RecordFinds.f k l0 a1 a2 = some true
theorem dogwatchlaw10_RecordFinds.walk (P : dogwatchlaw10_RecordFinds.Pure) (a0 : Option Addr) (len0 cap0 : Nat) (z0 : List Int) (a1 : Int) (a2 : Int) (w : World) (w0 : (a0 = none ∧ len0 = 0 ∧ cap0 = 0 ∧ z0 = []) ∨ ∃ x, a0 = some x ∧ len0 ≤ cap0 ∧ cap0 ≤ maxLen ∧ z0.length = cap0 ∧ (∀ i, i < z0.length → w.cell? (x.add i) = some (.int .u8 (z0.getD i 0))) ∧ ∀ n ∈ z0, (Lit.int .u8 n).wf = true) (y0 : len0 * 1 ≤ 140737488351232) (w1 : (Lit.int .u8 a1).wf = true) (w2 : (Lit.int .u8 a2).wf = true) :
    Calls Try.prog 7 #[.slice a0 len0 cap0, .int .u8 a1, .int .u8 a2] w fun e w' => e = .returned (.bool true) ∧ Below w.heap.size w w' := by
  obtain ⟨l0, rfl, hr0, hm0, hw0, hc0⟩ := ReadsInt.ofRowC w0
  obtain ⟨k, h⟩ := P l0 a1 a2 hm0 y0 hw0 w1 w2
  refine (dogwatchlaw10_RecordFinds.calls k _ _ l0 a1 a2 true w (Kd.C_of_reads (d := (0 : Int)) (h1 := fun _ => rfl) hr0) hc0 h).mono ?_
  rintro e w' ⟨rfl, hd⟩
  exact ⟨rfl, hd⟩

end Go.Proofs.Ytgjcbpeliimhaaa.PRec
