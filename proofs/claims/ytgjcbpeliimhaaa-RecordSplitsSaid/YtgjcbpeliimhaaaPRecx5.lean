-- Written by a program for this seat's family Rec (wip/tools of this session's repo).
import Derived.Test.YtgjcbpeliimhaaaPRecx0
import Derived.Test.YtgjcbpeliimhaaaPRecx1
import Derived.Test.YtgjcbpeliimhaaaPRecx2
import Derived.Test.YtgjcbpeliimhaaaPRecx4
import Derived.Test.YtgjcbpeliimhaaaGvAwake10
namespace Go.Proofs.Ytgjcbpeliimhaaa.PRec
open Go.RowKit Go.Proofs.YtgjcbpeliimhaaaW.PrintWords Go.Proofs.YtgjcbpeliimhaaaW.PrintLast Go.Proofs.YtgjcbpeliimhaaaW.PrintMore
attribute [local go_sem] max2_int min2_int max_two min_two max_three min_three max_four min_four   -- for this text's walks alone
set_option linter.unusedVariables false
set_option linter.unusedSimpArgs false

/-! ### dogwatchlaw10_RecordSplits: function 4 -/
mutual
def dogwatchlaw10_RecordSplits.j0 : Nat → List (S47) → List (S49) → Int → Bool → Option (Bool)
  | 0, _, _, _, _ => none
  | k + 1, x3, x4, x5, x41 => if x41 = true then (some false) else (dogwatchlaw10_RecordSplits.l0 k x3 x4 x5 0 0)
def dogwatchlaw10_RecordSplits.l0 : Nat → List (S47) → List (S49) → Int → Int → Int → Option (Bool)
  | 0, _, _, _, _, _ => none
  | k + 1, x3, x4, x5, x7, x8 => if x8 < (x4.length : Int) then (if 0 ≤ x8 then (if x8 < (x3.length : Int) then (if ((rd_T47 x3 x8).f0) = ((rd_T49 x4 x8).f0) then (if ((rd_T47 x3 x8).f1) = ((rd_T49 x4 x8).f1) then (if ((((rd_T47 x3 x8).f3) == 0) != ((rd_T49 x4 x8).f3)) = true then (dogwatchlaw10_RecordSplits.j2 k x3 x4 x5 x7 x8 true) else (if ((rd_T47 x3 x8).f3) = 0 then (dogwatchlaw10_RecordSplits.j2 k x3 x4 x5 x7 x8 ((strOfNums ((rd_T47 x3 x8).f2)).toList != (strOfNums ((rd_T49 x4 x8).f2)).toList)) else (if ((rd_T47 x3 x8).f3) = 3 then (dogwatchlaw10_RecordSplits.j2 k x3 x4 x5 x7 x8 ((strOfNums ((rd_T47 x3 x8).f2)).toList != (strOfNums ((rd_T49 x4 x8).f2)).toList)) else (dogwatchlaw10_RecordSplits.j2 k x3 x4 x5 x7 x8 true)))) else (dogwatchlaw10_RecordSplits.j2 k x3 x4 x5 x7 x8 true)) else (dogwatchlaw10_RecordSplits.j2 k x3 x4 x5 x7 x8 true)) else (none)) else (none)) else (if x5 = x7 then ((dogwatchlaw10_awake.f).bind fun t238 => (some t238)) else (some false))
def dogwatchlaw10_RecordSplits.j2 : Nat → List (S47) → List (S49) → Int → Int → Int → Bool → Option (Bool)
  | 0, _, _, _, _, _, _ => none
  | k + 1, x3, x4, x5, x7, x8, x116 => if x116 = true then (some false) else (if 0 ≤ x8 then (if x8 < (x4.length : Int) then (if (rd_T49 x4 x8).f3 = true then (dogwatchlaw10_RecordSplits.l0 k x3 x4 x5 (wrap64 (x7 + 1)) (wrap64 (x8 + 1))) else (dogwatchlaw10_RecordSplits.l0 k x3 x4 x5 x7 (wrap64 (x8 + 1)))) else (none)) else (none))
end
def dogwatchlaw10_RecordSplits.f (k : Nat) (l0 : List Int) : Option (Bool) := if (l0.length : Int) > 3000 then ((dogwatchlaw10_awake.f).bind fun t227 => (some t227)) else ((record_Split.f k l0).bind fun t228 => ((dogwatchref10_Split.f k l0).bind fun t231 => ((record_Count.f k l0).bind fun bt234 => (if (t228.length : Int) = (t231.length : Int) then (if (wrap64 (bt234.1 + bt234.2)) = (t231.length : Int) then ((record_Sum.f k l0).bind fun t236 => ((dogwatchref10_Sum.f k l0).bind fun t237 => (dogwatchlaw10_RecordSplits.j0 k t228 t231 bt234.1 (t236 != t237)))) else (dogwatchlaw10_RecordSplits.j0 k t228 t231 bt234.1 true)) else (dogwatchlaw10_RecordSplits.j0 k t228 t231 bt234.1 true)))))
theorem dogwatchlaw10_RecordSplits.mono_l : ∀ k, (∀ y0 y1 y2 y3, LeO (dogwatchlaw10_RecordSplits.j0 k y0 y1 y2 y3) (dogwatchlaw10_RecordSplits.j0 (k + 1) y0 y1 y2 y3)) ∧ (∀ y0 y1 y2 y3 y4, LeO (dogwatchlaw10_RecordSplits.l0 k y0 y1 y2 y3 y4) (dogwatchlaw10_RecordSplits.l0 (k + 1) y0 y1 y2 y3 y4)) ∧ (∀ y0 y1 y2 y3 y4 y5, LeO (dogwatchlaw10_RecordSplits.j2 k y0 y1 y2 y3 y4 y5) (dogwatchlaw10_RecordSplits.j2 (k + 1) y0 y1 y2 y3 y4 y5))
  | 0 => ⟨fun _ _ _ _ r h => by simp [dogwatchlaw10_RecordSplits.j0] at h, fun _ _ _ _ _ r h => by simp [dogwatchlaw10_RecordSplits.l0] at h, fun _ _ _ _ _ _ r h => by simp [dogwatchlaw10_RecordSplits.j2] at h⟩
  | k + 1 => by
    obtain ⟨ih0, ih1, ih2⟩ := dogwatchlaw10_RecordSplits.mono_l k
    refine ⟨?_, ?_, ?_⟩
    · intro y0 y1 y2 y3
      unfold dogwatchlaw10_RecordSplits.j0
      repeat' first
      | (with_reducible exact ih0 _ _ _ _)
      | (with_reducible exact ih1 _ _ _ _ _)
      | (with_reducible exact ih2 _ _ _ _ _ _)
      | (with_reducible exact dogwatchref10_Split.mono _ _)
      | (with_reducible exact dogwatchref10_Sum.mono _ _)
      | (with_reducible exact record_Count.mono _ _)
      | (with_reducible exact record_Split.mono _ _)
      | (with_reducible exact record_Sum.mono _ _)
      | (with_reducible exact LeO.refl _)
      | (with_reducible exact LeO.none _)
      | (with_reducible refine LeO.ite ?_ ?_)
      | (with_reducible refine LeO.bind ?_ (fun _ => ?_))
      | exact ih0 _ _ _ _
      | exact ih1 _ _ _ _ _
      | exact ih2 _ _ _ _ _ _
      | exact dogwatchref10_Split.mono _ _
      | exact dogwatchref10_Sum.mono _ _
      | exact record_Count.mono _ _
      | exact record_Split.mono _ _
      | exact record_Sum.mono _ _
      | exact LeO.none _
      | refine LeO.ite ?_ ?_
      | refine LeO.bind ?_ (fun _ => ?_)
    · intro y0 y1 y2 y3 y4
      unfold dogwatchlaw10_RecordSplits.l0
      repeat' first
      | (with_reducible exact ih0 _ _ _ _)
      | (with_reducible exact ih1 _ _ _ _ _)
      | (with_reducible exact ih2 _ _ _ _ _ _)
      | (with_reducible exact dogwatchref10_Split.mono _ _)
      | (with_reducible exact dogwatchref10_Sum.mono _ _)
      | (with_reducible exact record_Count.mono _ _)
      | (with_reducible exact record_Split.mono _ _)
      | (with_reducible exact record_Sum.mono _ _)
      | (with_reducible exact LeO.refl _)
      | (with_reducible exact LeO.none _)
      | (with_reducible refine LeO.ite ?_ ?_)
      | (with_reducible refine LeO.bind ?_ (fun _ => ?_))
      | exact ih0 _ _ _ _
      | exact ih1 _ _ _ _ _
      | exact ih2 _ _ _ _ _ _
      | exact dogwatchref10_Split.mono _ _
      | exact dogwatchref10_Sum.mono _ _
      | exact record_Count.mono _ _
      | exact record_Split.mono _ _
      | exact record_Sum.mono _ _
      | exact LeO.none _
      | refine LeO.ite ?_ ?_
      | refine LeO.bind ?_ (fun _ => ?_)
    · intro y0 y1 y2 y3 y4 y5
      unfold dogwatchlaw10_RecordSplits.j2
      repeat' first
      | (with_reducible exact ih0 _ _ _ _)
      | (with_reducible exact ih1 _ _ _ _ _)
      | (with_reducible exact ih2 _ _ _ _ _ _)
      | (with_reducible exact dogwatchref10_Split.mono _ _)
      | (with_reducible exact dogwatchref10_Sum.mono _ _)
      | (with_reducible exact record_Count.mono _ _)
      | (with_reducible exact record_Split.mono _ _)
      | (with_reducible exact record_Sum.mono _ _)
      | (with_reducible exact LeO.refl _)
      | (with_reducible exact LeO.none _)
      | (with_reducible refine LeO.ite ?_ ?_)
      | (with_reducible refine LeO.bind ?_ (fun _ => ?_))
      | exact ih0 _ _ _ _
      | exact ih1 _ _ _ _ _
      | exact ih2 _ _ _ _ _ _
      | exact dogwatchref10_Split.mono _ _
      | exact dogwatchref10_Sum.mono _ _
      | exact record_Count.mono _ _
      | exact record_Split.mono _ _
      | exact record_Sum.mono _ _
      | exact LeO.none _
      | refine LeO.ite ?_ ?_
      | refine LeO.bind ?_ (fun _ => ?_)
theorem dogwatchlaw10_RecordSplits.mono : ∀ a0 k, LeO (dogwatchlaw10_RecordSplits.f k a0) (dogwatchlaw10_RecordSplits.f (k + 1) a0) := by
  intro a0 k
  obtain ⟨ih0, ih1, ih2⟩ := dogwatchlaw10_RecordSplits.mono_l k
  unfold dogwatchlaw10_RecordSplits.f
  repeat' first
      | (with_reducible exact ih0 _ _ _ _)
      | (with_reducible exact ih1 _ _ _ _ _)
      | (with_reducible exact ih2 _ _ _ _ _ _)
      | (with_reducible exact dogwatchref10_Split.mono _ _)
      | (with_reducible exact dogwatchref10_Sum.mono _ _)
      | (with_reducible exact record_Count.mono _ _)
      | (with_reducible exact record_Split.mono _ _)
      | (with_reducible exact record_Sum.mono _ _)
      | (with_reducible exact LeO.refl _)
      | (with_reducible exact LeO.none _)
      | (with_reducible refine LeO.ite ?_ ?_)
      | (with_reducible refine LeO.bind ?_ (fun _ => ?_))
      | exact ih0 _ _ _ _
      | exact ih1 _ _ _ _ _
      | exact ih2 _ _ _ _ _ _
      | exact dogwatchref10_Split.mono _ _
      | exact dogwatchref10_Sum.mono _ _
      | exact record_Count.mono _ _
      | exact record_Split.mono _ _
      | exact record_Sum.mono _ _
      | exact LeO.none _
      | refine LeO.ite ?_ ?_
      | refine LeO.bind ?_ (fun _ => ?_)
theorem tkA {P : Program} {md : Region.Mode} {ops : Array Oper} {Q : Exit → Act → World → Prop} {S : World → Prop} {i : Nat} {oi : Oper} {v : Value} {fuel : Nat} {listed : Array Bool} {a : Act} {w : World} (hi : ops[i]? = some oi) (hB : (Region.noSelect ops && Region.free md ops listed i && (Region.ready md ops listed).contains i) = true)
    (hQ : ∀ c a w, Q (.panic c) (a.put oi.dst v) w → Q (.panic c) a w) (hy : YieldsIf P ops S oi v a) (hS : S w) (h : wpAnyH P md ops Q S fuel (listed.setIfInBounds i true) (a.put oi.dst v) w) : wpAnyH P md ops Q S (fuel + 1) listed a w := by
  rw [Bool.and_eq_true, Bool.and_eq_true] at hB
  exact wpAnyH_take hi hB.1.1 hB.1.2 hB.2 hQ hy hS h
set_option maxHeartbeats 40000000 in
set_option maxRecDepth 100000 in
theorem dogwatchlaw10_RecordSplits.calls (k : Nat) (A0 : Option Addr) (c0 : Nat) (l0 : List Int) (r : Bool) (w : World) (hr0 : Kd.C (Kd.int .u8) w A0 l0.length l0) (hc0 : l0.length ≤ c0) (h : dogwatchlaw10_RecordSplits.f k l0 = some r) :
    Calls Try.prog 4 #[.slice A0 l0.length c0] w fun e w' => e = .returned (.bool r) ∧ Below w.heap.size w w' := by
  have HR0 := Aside0.mk hr0
  have HC0 := Aside0.mk hc0
  clear hr0 hc0
  have HB := Aside0.mk (Below.refl w.heap.size w)
  have H : (if (l0.length : Int) > 3000 then ((dogwatchlaw10_awake.f).bind fun t227 => (some t227)) else ((record_Split.f k l0).bind fun t228 => ((dogwatchref10_Split.f k l0).bind fun t231 => ((record_Count.f k l0).bind fun bt234 => (if (t228.length : Int) = (t231.length : Int) then (if (wrap64 (bt234.1 + bt234.2)) = (t231.length : Int) then ((record_Sum.f k l0).bind fun t236 => ((dogwatchref10_Sum.f k l0).bind fun t237 => (dogwatchlaw10_RecordSplits.j0 k t228 t231 bt234.1 (t236 != t237)))) else (dogwatchlaw10_RecordSplits.j0 k t228 t231 bt234.1 true)) else (dogwatchlaw10_RecordSplits.j0 k t228 t231 bt234.1 true)))))) = some r := h
  clear h
  by_cases c2 : (l0.length : Int) > 3000
  · rw [if_pos c2] at H
    have c2b0 : decide (3000 < (l0.length : Int)) = true := decide_eq_true c2
    have c2b1 : decide (3000 < l0.length) = true := decide_eq_true (by omega)
    clear c2
    replace H := Option.bind_eq_some_iff.mp H
    obtain ⟨t227, A30, H⟩ := H
    replace H : (some t227) = some r := H
    have A3 := Aside0.mk A30
    clear A30
    obtain rfl := Option.some.inj H
    go_enter Try.func4, Try.ntmps4
    go_wp2_with (first | (go_at_call 21; (with_reducible refine (dogwatchlaw10_awake.calls  t227 _ A3.out).mono ?_); rintro e w4 ⟨rfl, hb⟩; have n0_ := Aside0.mk (below_step (by repeat (first | (with_reducible first | exact HB.out | apply below_alloc | apply pw_below_drewN | apply below_drew1) | exact HB.out)) hb); clear HB; have HB := n0_; clear n0_; (try clear hb); (try clear hb2); (try clear hk); (try clear hi)))
    repeat (go_quiet (first | (go_at_call 21; (with_reducible refine (dogwatchlaw10_awake.calls  t227 _ A3.out).mono ?_); rintro e w4 ⟨rfl, hb⟩; have n0_ := Aside0.mk (below_step (by repeat (first | (with_reducible first | exact HB.out | apply below_alloc | apply pw_below_drewN | apply below_drew1) | exact HB.out)) hb); clear HB; have HB := n0_; clear n0_; (try clear hb); (try clear hb2); (try clear hk); (try clear hi))); try go_wp2_with (first | (go_at_call 21; (with_reducible refine (dogwatchlaw10_awake.calls  t227 _ A3.out).mono ?_); rintro e w4 ⟨rfl, hb⟩; have n0_ := Aside0.mk (below_step (by repeat (first | (with_reducible first | exact HB.out | apply below_alloc | apply pw_below_drewN | apply below_drew1) | exact HB.out)) hb); clear HB; have HB := n0_; clear n0_; (try clear hb); (try clear hb2); (try clear hk); (try clear hi))))
    go_ret
    exact ⟨by first | rfl | (simp [errW_none, errW_some] <;> rfl) | (simp [*, errW_none, errW_some] <;> rfl), by repeat (first | (with_reducible first | exact HB.out | apply below_alloc | apply pw_below_drewN | apply below_drew1) | exact HB.out)⟩
  · rw [if_neg c2] at H
    have c2b0 : decide (3000 < (l0.length : Int)) = false := decide_eq_false c2
    have c2b1 : decide (3000 < l0.length) = false := decide_eq_false (by omega)
    clear c2
    replace H := Option.bind_eq_some_iff.mp H
    obtain ⟨t228, A50, H⟩ := H
    replace H : ((dogwatchref10_Split.f k l0).bind fun t231 => ((record_Count.f k l0).bind fun bt234 => (if (t228.length : Int) = (t231.length : Int) then (if (wrap64 (bt234.1 + bt234.2)) = (t231.length : Int) then ((record_Sum.f k l0).bind fun t236 => ((dogwatchref10_Sum.f k l0).bind fun t237 => (dogwatchlaw10_RecordSplits.j0 k t228 t231 bt234.1 (t236 != t237)))) else (dogwatchlaw10_RecordSplits.j0 k t228 t231 bt234.1 true)) else (dogwatchlaw10_RecordSplits.j0 k t228 t231 bt234.1 true)))) = some r := H
    have A5 := Aside0.mk A50
    clear A50
    replace H := Option.bind_eq_some_iff.mp H
    obtain ⟨t231, A60, H⟩ := H
    replace H : ((record_Count.f k l0).bind fun bt234 => (if (t228.length : Int) = (t231.length : Int) then (if (wrap64 (bt234.1 + bt234.2)) = (t231.length : Int) then ((record_Sum.f k l0).bind fun t236 => ((dogwatchref10_Sum.f k l0).bind fun t237 => (dogwatchlaw10_RecordSplits.j0 k t228 t231 bt234.1 (t236 != t237)))) else (dogwatchlaw10_RecordSplits.j0 k t228 t231 bt234.1 true)) else (dogwatchlaw10_RecordSplits.j0 k t228 t231 bt234.1 true))) = some r := H
    have A6 := Aside0.mk A60
    clear A60
    replace H := Option.bind_eq_some_iff.mp H
    obtain ⟨⟨t234, t235⟩, A70, H⟩ := H
    replace H : (if (t228.length : Int) = (t231.length : Int) then (if (wrap64 (t234 + t235)) = (t231.length : Int) then ((record_Sum.f k l0).bind fun t236 => ((dogwatchref10_Sum.f k l0).bind fun t237 => (dogwatchlaw10_RecordSplits.j0 k t228 t231 t234 (t236 != t237)))) else (dogwatchlaw10_RecordSplits.j0 k t228 t231 t234 true)) else (dogwatchlaw10_RecordSplits.j0 k t228 t231 t234 true)) = some r := H
    have A7 := Aside0.mk A70
    clear A70
    have HC8 := Aside0.mk H
    clear H
    go_enter Try.func4, Try.ntmps4
    go_upto_region 6 with (first | (go_at_call 22; (with_reducible refine (record_Split.calls k _ _ l0 t228 _ ?side1 ?side2 A5.out).mono ?_); (case side1 => repeat (first | exact HR0.out | (with_reducible refine Kd.C_alloc ?_ _) | (with_reducible refine Kd.C_drewN ?_ _) | (with_reducible refine Kd.C_drew ?_))); (case side2 => exact HC0.out); rintro e w9 ⟨v229, rfl, ho0, hb⟩; have n0_ := Aside0.mk (Kd.N_lower (Kd.N_mono (ok' := fun k_ => True) (Kd.S_N (Kd.S_bound ho0)) (fun k_ hk_ => trivial)) (below_size (by repeat (first | (with_reducible first | exact HB.out | apply below_alloc | apply pw_below_drewN | apply below_drew1) | exact HB.out)))); have n1_ := Aside0.mk (below_step (by repeat (first | (with_reducible first | exact HB.out | apply below_alloc | apply pw_below_drewN | apply below_drew1) | exact HB.out)) hb); clear HB; have HO230 := n0_; have HB := n1_; clear n0_ n1_; (try clear hb); (try clear hb2); (try clear hk); (try clear hi); (try clear ho0)) | (go_at_call 23; (with_reducible refine (dogwatchref10_Split.calls k (fun k_ => k_ < w.heap.size) _ _ l0 t231 _ ?side1 A6.out).mono ?_); (case side1 => exact Kd.V_mk HC0.out (Kd.F_below (Kd.C_F (Kd.heap_int .u8) HR0.out) (by repeat (first | (with_reducible first | exact HB.out | apply below_alloc | apply pw_below_drewN | apply below_drew1) | exact HB.out)))); rintro e w10 ⟨v232, rfl, ho0, hb⟩; have n0_ := Aside0.mk (Kd.N_elder' (by (with_reducible repeat (first | apply Kd.N_alloc | apply Kd.N_drewN | apply Kd.N_drew)); exact HO230.out) (Kd.N_base ho0) hb); have n1_ := Aside0.mk (Kd.N_lower (Kd.N_mono (ok' := fun k_ => some k_ ≠ (v229 : Value).ownBlock) ho0 (fun k_ hk_ => Or.elim hk_ (fun hs_ => fun e_ => Nat.not_le.2 hs_ (Kd.N_base HO230.out k_ e_.symm)) (fun hn_ => (Kd.fresh' (Kd.N_lt (by (with_reducible repeat (first | apply Kd.N_alloc | apply Kd.N_drewN | apply Kd.N_drew)); exact HO230.out)) k_ hn_)))) (below_size (by repeat (first | (with_reducible first | exact HB.out | apply below_alloc | apply pw_below_drewN | apply below_drew1) | exact HB.out)))); have n2_ := Aside0.mk (below_step (by repeat (first | (with_reducible first | exact HB.out | apply below_alloc | apply pw_below_drewN | apply below_drew1) | exact HB.out)) hb); clear HO230; clear HB; have HO230 := n0_; have HO233 := n1_; have HB := n2_; clear n0_ n1_ n2_; (try clear hb); (try clear hb2); (try clear hk); (try clear hi); (try clear ho0)) | (go_at_call 24; (with_reducible refine (record_Count.calls k _ _ l0 t234 t235 _ ?side1 ?side2 A7.out).mono ?_); (case side1 => repeat (first | exact (Kd.C_below HR0.out HB.out) | (with_reducible refine Kd.C_alloc ?_ _) | (with_reducible refine Kd.C_drewN ?_ _) | (with_reducible refine Kd.C_drew ?_))); (case side2 => exact HC0.out); rintro e w11 ⟨rfl, hb⟩; have n0_ := Aside0.mk (Kd.N_below (by (with_reducible repeat (first | apply Kd.N_alloc | apply Kd.N_drewN | apply Kd.N_drew)); exact HO230.out) hb); have n1_ := Aside0.mk (Kd.N_below (by (with_reducible repeat (first | apply Kd.N_alloc | apply Kd.N_drewN | apply Kd.N_drew)); exact HO233.out) hb); have n2_ := Aside0.mk (below_step (by repeat (first | (with_reducible first | exact HB.out | apply below_alloc | apply pw_below_drewN | apply below_drew1) | exact HB.out)) hb); clear HO230; clear HO233; clear HB; have HO230 := n0_; have HO233 := n1_; have HB := n2_; clear n0_ n1_ n2_; (try clear hb); (try clear hb2); (try clear hk); (try clear hi)))
    repeat (go_quiet (first | (go_at_call 22; (with_reducible refine (record_Split.calls k _ _ l0 t228 _ ?side1 ?side2 A5.out).mono ?_); (case side1 => repeat (first | exact HR0.out | (with_reducible refine Kd.C_alloc ?_ _) | (with_reducible refine Kd.C_drewN ?_ _) | (with_reducible refine Kd.C_drew ?_))); (case side2 => exact HC0.out); rintro e w9 ⟨v229, rfl, ho0, hb⟩; have n0_ := Aside0.mk (Kd.N_lower (Kd.N_mono (ok' := fun k_ => True) (Kd.S_N (Kd.S_bound ho0)) (fun k_ hk_ => trivial)) (below_size (by repeat (first | (with_reducible first | exact HB.out | apply below_alloc | apply pw_below_drewN | apply below_drew1) | exact HB.out)))); have n1_ := Aside0.mk (below_step (by repeat (first | (with_reducible first | exact HB.out | apply below_alloc | apply pw_below_drewN | apply below_drew1) | exact HB.out)) hb); clear HB; have HO230 := n0_; have HB := n1_; clear n0_ n1_; (try clear hb); (try clear hb2); (try clear hk); (try clear hi); (try clear ho0)) | (go_at_call 23; (with_reducible refine (dogwatchref10_Split.calls k (fun k_ => k_ < w.heap.size) _ _ l0 t231 _ ?side1 A6.out).mono ?_); (case side1 => exact Kd.V_mk HC0.out (Kd.F_below (Kd.C_F (Kd.heap_int .u8) HR0.out) (by repeat (first | (with_reducible first | exact HB.out | apply below_alloc | apply pw_below_drewN | apply below_drew1) | exact HB.out)))); rintro e w10 ⟨v232, rfl, ho0, hb⟩; have n0_ := Aside0.mk (Kd.N_elder' (by (with_reducible repeat (first | apply Kd.N_alloc | apply Kd.N_drewN | apply Kd.N_drew)); exact HO230.out) (Kd.N_base ho0) hb); have n1_ := Aside0.mk (Kd.N_lower (Kd.N_mono (ok' := fun k_ => some k_ ≠ (v229 : Value).ownBlock) ho0 (fun k_ hk_ => Or.elim hk_ (fun hs_ => fun e_ => Nat.not_le.2 hs_ (Kd.N_base HO230.out k_ e_.symm)) (fun hn_ => (Kd.fresh' (Kd.N_lt (by (with_reducible repeat (first | apply Kd.N_alloc | apply Kd.N_drewN | apply Kd.N_drew)); exact HO230.out)) k_ hn_)))) (below_size (by repeat (first | (with_reducible first | exact HB.out | apply below_alloc | apply pw_below_drewN | apply below_drew1) | exact HB.out)))); have n2_ := Aside0.mk (below_step (by repeat (first | (with_reducible first | exact HB.out | apply below_alloc | apply pw_below_drewN | apply below_drew1) | exact HB.out)) hb); clear HO230; clear HB; have HO230 := n0_; have HO233 := n1_; have HB := n2_; clear n0_ n1_ n2_; (try clear hb); (try clear hb2); (try clear hk); (try clear hi); (try clear ho0)) | (go_at_call 24; (with_reducible refine (record_Count.calls k _ _ l0 t234 t235 _ ?side1 ?side2 A7.out).mono ?_); (case side1 => repeat (first | exact (Kd.C_below HR0.out HB.out) | (with_reducible refine Kd.C_alloc ?_ _) | (with_reducible refine Kd.C_drewN ?_ _) | (with_reducible refine Kd.C_drew ?_))); (case side2 => exact HC0.out); rintro e w11 ⟨rfl, hb⟩; have n0_ := Aside0.mk (Kd.N_below (by (with_reducible repeat (first | apply Kd.N_alloc | apply Kd.N_drewN | apply Kd.N_drew)); exact HO230.out) hb); have n1_ := Aside0.mk (Kd.N_below (by (with_reducible repeat (first | apply Kd.N_alloc | apply Kd.N_drewN | apply Kd.N_drew)); exact HO233.out) hb); have n2_ := Aside0.mk (below_step (by repeat (first | (with_reducible first | exact HB.out | apply below_alloc | apply pw_below_drewN | apply below_drew1) | exact HB.out)) hb); clear HO230; clear HO233; clear HB; have HO230 := n0_; have HO233 := n1_; have HB := n2_; clear n0_ n1_ n2_; (try clear hb); (try clear hb2); (try clear hk); (try clear hi))); go_upto_region 6 with (first | (go_at_call 22; (with_reducible refine (record_Split.calls k _ _ l0 t228 _ ?side1 ?side2 A5.out).mono ?_); (case side1 => repeat (first | exact HR0.out | (with_reducible refine Kd.C_alloc ?_ _) | (with_reducible refine Kd.C_drewN ?_ _) | (with_reducible refine Kd.C_drew ?_))); (case side2 => exact HC0.out); rintro e w9 ⟨v229, rfl, ho0, hb⟩; have n0_ := Aside0.mk (Kd.N_lower (Kd.N_mono (ok' := fun k_ => True) (Kd.S_N (Kd.S_bound ho0)) (fun k_ hk_ => trivial)) (below_size (by repeat (first | (with_reducible first | exact HB.out | apply below_alloc | apply pw_below_drewN | apply below_drew1) | exact HB.out)))); have n1_ := Aside0.mk (below_step (by repeat (first | (with_reducible first | exact HB.out | apply below_alloc | apply pw_below_drewN | apply below_drew1) | exact HB.out)) hb); clear HB; have HO230 := n0_; have HB := n1_; clear n0_ n1_; (try clear hb); (try clear hb2); (try clear hk); (try clear hi); (try clear ho0)) | (go_at_call 23; (with_reducible refine (dogwatchref10_Split.calls k (fun k_ => k_ < w.heap.size) _ _ l0 t231 _ ?side1 A6.out).mono ?_); (case side1 => exact Kd.V_mk HC0.out (Kd.F_below (Kd.C_F (Kd.heap_int .u8) HR0.out) (by repeat (first | (with_reducible first | exact HB.out | apply below_alloc | apply pw_below_drewN | apply below_drew1) | exact HB.out)))); rintro e w10 ⟨v232, rfl, ho0, hb⟩; have n0_ := Aside0.mk (Kd.N_elder' (by (with_reducible repeat (first | apply Kd.N_alloc | apply Kd.N_drewN | apply Kd.N_drew)); exact HO230.out) (Kd.N_base ho0) hb); have n1_ := Aside0.mk (Kd.N_lower (Kd.N_mono (ok' := fun k_ => some k_ ≠ (v229 : Value).ownBlock) ho0 (fun k_ hk_ => Or.elim hk_ (fun hs_ => fun e_ => Nat.not_le.2 hs_ (Kd.N_base HO230.out k_ e_.symm)) (fun hn_ => (Kd.fresh' (Kd.N_lt (by (with_reducible repeat (first | apply Kd.N_alloc | apply Kd.N_drewN | apply Kd.N_drew)); exact HO230.out)) k_ hn_)))) (below_size (by repeat (first | (with_reducible first | exact HB.out | apply below_alloc | apply pw_below_drewN | apply below_drew1) | exact HB.out)))); have n2_ := Aside0.mk (below_step (by repeat (first | (with_reducible first | exact HB.out | apply below_alloc | apply pw_below_drewN | apply below_drew1) | exact HB.out)) hb); clear HO230; clear HB; have HO230 := n0_; have HO233 := n1_; have HB := n2_; clear n0_ n1_ n2_; (try clear hb); (try clear hb2); (try clear hk); (try clear hi); (try clear ho0)) | (go_at_call 24; (with_reducible refine (record_Count.calls k _ _ l0 t234 t235 _ ?side1 ?side2 A7.out).mono ?_); (case side1 => repeat (first | exact (Kd.C_below HR0.out HB.out) | (with_reducible refine Kd.C_alloc ?_ _) | (with_reducible refine Kd.C_drewN ?_ _) | (with_reducible refine Kd.C_drew ?_))); (case side2 => exact HC0.out); rintro e w11 ⟨rfl, hb⟩; have n0_ := Aside0.mk (Kd.N_below (by (with_reducible repeat (first | apply Kd.N_alloc | apply Kd.N_drewN | apply Kd.N_drew)); exact HO230.out) hb); have n1_ := Aside0.mk (Kd.N_below (by (with_reducible repeat (first | apply Kd.N_alloc | apply Kd.N_drewN | apply Kd.N_drew)); exact HO233.out) hb); have n2_ := Aside0.mk (below_step (by repeat (first | (with_reducible first | exact HB.out | apply below_alloc | apply pw_below_drewN | apply below_drew1) | exact HB.out)) hb); clear HO230; clear HO233; clear HB; have HO230 := n0_; have HO233 := n1_; have HB := n2_; clear n0_ n1_ n2_; (try clear hb); (try clear hb2); (try clear hk); (try clear hi))))
    (try simp only [Act.put, List.setIfInBounds_toArray, List.set_cons_zero, List.set_cons_succ])
    go_cut [41] (fun v41 wc => ∃ (kq : Nat) (x41_7 : Bool), v41 = .bool x41_7 ∧ Aside0 (dogwatchlaw10_RecordSplits.j0 kq t228 t231 t234 x41_7 = some r) ∧ Aside0 (kq ≤ k) ∧ Aside0 (Kd.N k47 47 wc w.heap.size (fun k_ => some k_ ≠ (v232 : Value).ownBlock) v229 t228) ∧ Aside0 (Kd.N k49 49 wc w.heap.size (fun k_ => some k_ ≠ (v229 : Value).ownBlock) v232 t231) ∧ Aside0 (Below w.heap.size w wc))
    case first =>
      have H := HC8.out
      clear HC8
      by_cases c12 : (t228.length : Int) = (t231.length : Int)
      · rw [if_pos c12] at H
        have c12b0 : ((t228.length : Int) == (t231.length : Int)) = true := beq_iff_eq.mpr c12
        have c12b1 : ((t228.length : Int) != (t231.length : Int)) = false := bne_eq_false_iff_eq.mpr c12
        have c12b2 : (t228.length == t231.length) = true := by first | simpa using c12 | (simp at c12 ⊢; omega)
        clear c12
        (first | rw [c12b0] | (simp only [i64_w, i32_w]; rw [c12b0]) | skip)
        by_cases c13 : (wrap64 (t234 + t235)) = (t231.length : Int)
        · rw [if_pos c13] at H
          have c13b0 : ((wrap64 (t234 + t235)) == (t231.length : Int)) = true := beq_iff_eq.mpr c13
          have c13b1 : ((wrap64 (t234 + t235)) != (t231.length : Int)) = false := bne_eq_false_iff_eq.mpr c13
          clear c13
          replace H := Option.bind_eq_some_iff.mp H
          obtain ⟨t236, A140, H⟩ := H
          replace H : ((dogwatchref10_Sum.f k l0).bind fun t237 => (dogwatchlaw10_RecordSplits.j0 k t228 t231 t234 (t236 != t237))) = some r := H
          have A14 := Aside0.mk A140
          clear A140
          replace H := Option.bind_eq_some_iff.mp H
          obtain ⟨t237, A150, H⟩ := H
          replace H : (dogwatchlaw10_RecordSplits.j0 k t228 t231 t234 (t236 != t237)) = some r := H
          have A15 := Aside0.mk A150
          clear A150
          have H' := Aside0.mk H
          clear H
          obtain ⟨Ao16, co16, eo16⟩ := Kd.N_slice HO230.out
          subst eo16
          obtain ⟨Ao17, co17, eo17⟩ := Kd.N_slice HO233.out
          subst eo17
          go_wp2_with (first | (go_at_call 25; (with_reducible refine (record_Sum.calls k _ _ l0 t236 _ ?side1 ?side2 A14.out).mono ?_); (case side1 => repeat (first | exact (Kd.C_below HR0.out HB.out) | (with_reducible refine Kd.C_alloc ?_ _) | (with_reducible refine Kd.C_drewN ?_ _) | (with_reducible refine Kd.C_drew ?_))); (case side2 => exact HC0.out); rintro e w' ⟨rfl, ⟨nd, rfl⟩⟩; (try first | exact ⟨rfl, _, World.drewN_drewN _ _ _⟩ | exact ⟨rfl, _, Eq.trans (World.drewN_drewN _ _ _) (congrArg (World.drewN _) (Nat.add_assoc _ _ _))⟩)) | (go_at_call 26; (with_reducible refine (dogwatchref10_Sum.calls k _ _ l0 t237 _ ?side1 ?side2 A15.out).mono ?_); (case side1 => repeat (first | exact (Kd.C_below HR0.out (by repeat (first | (with_reducible first | exact HB.out | apply below_alloc | apply pw_below_drewN | apply below_drew1) | exact HB.out))) | (with_reducible refine Kd.C_alloc ?_ _) | (with_reducible refine Kd.C_drewN ?_ _) | (with_reducible refine Kd.C_drew ?_))); (case side2 => exact HC0.out); rintro e w' ⟨rfl, ⟨nd, rfl⟩⟩; (try first | exact ⟨rfl, _, World.drewN_drewN _ _ _⟩ | exact ⟨rfl, _, Eq.trans (World.drewN_drewN _ _ _) (congrArg (World.drewN _) (Nat.add_assoc _ _ _))⟩)))
          repeat (go_quiet (first | (go_at_call 25; (with_reducible refine (record_Sum.calls k _ _ l0 t236 _ ?side1 ?side2 A14.out).mono ?_); (case side1 => repeat (first | exact (Kd.C_below HR0.out HB.out) | (with_reducible refine Kd.C_alloc ?_ _) | (with_reducible refine Kd.C_drewN ?_ _) | (with_reducible refine Kd.C_drew ?_))); (case side2 => exact HC0.out); rintro e w' ⟨rfl, ⟨nd, rfl⟩⟩; (try first | exact ⟨rfl, _, World.drewN_drewN _ _ _⟩ | exact ⟨rfl, _, Eq.trans (World.drewN_drewN _ _ _) (congrArg (World.drewN _) (Nat.add_assoc _ _ _))⟩)) | (go_at_call 26; (with_reducible refine (dogwatchref10_Sum.calls k _ _ l0 t237 _ ?side1 ?side2 A15.out).mono ?_); (case side1 => repeat (first | exact (Kd.C_below HR0.out (by repeat (first | (with_reducible first | exact HB.out | apply below_alloc | apply pw_below_drewN | apply below_drew1) | exact HB.out))) | (with_reducible refine Kd.C_alloc ?_ _) | (with_reducible refine Kd.C_drewN ?_ _) | (with_reducible refine Kd.C_drew ?_))); (case side2 => exact HC0.out); rintro e w' ⟨rfl, ⟨nd, rfl⟩⟩; (try first | exact ⟨rfl, _, World.drewN_drewN _ _ _⟩ | exact ⟨rfl, _, Eq.trans (World.drewN_drewN _ _ _) (congrArg (World.drewN _) (Nat.add_assoc _ _ _))⟩))); try go_wp2_with (first | (go_at_call 25; (with_reducible refine (record_Sum.calls k _ _ l0 t236 _ ?side1 ?side2 A14.out).mono ?_); (case side1 => repeat (first | exact (Kd.C_below HR0.out HB.out) | (with_reducible refine Kd.C_alloc ?_ _) | (with_reducible refine Kd.C_drewN ?_ _) | (with_reducible refine Kd.C_drew ?_))); (case side2 => exact HC0.out); rintro e w' ⟨rfl, ⟨nd, rfl⟩⟩; (try first | exact ⟨rfl, _, World.drewN_drewN _ _ _⟩ | exact ⟨rfl, _, Eq.trans (World.drewN_drewN _ _ _) (congrArg (World.drewN _) (Nat.add_assoc _ _ _))⟩)) | (go_at_call 26; (with_reducible refine (dogwatchref10_Sum.calls k _ _ l0 t237 _ ?side1 ?side2 A15.out).mono ?_); (case side1 => repeat (first | exact (Kd.C_below HR0.out (by repeat (first | (with_reducible first | exact HB.out | apply below_alloc | apply pw_below_drewN | apply below_drew1) | exact HB.out))) | (with_reducible refine Kd.C_alloc ?_ _) | (with_reducible refine Kd.C_drewN ?_ _) | (with_reducible refine Kd.C_drew ?_))); (case side2 => exact HC0.out); rintro e w' ⟨rfl, ⟨nd, rfl⟩⟩; (try first | exact ⟨rfl, _, World.drewN_drewN _ _ _⟩ | exact ⟨rfl, _, Eq.trans (World.drewN_drewN _ _ _) (congrArg (World.drewN _) (Nat.add_assoc _ _ _))⟩))))
          go_meet
          case rel => exact ⟨_, ((t236 != t237)), (by first | rfl | (simp; done) | (simp [*]; done)), H', ⟨by first | omega | exact Nat.le_refl _⟩, ⟨by (with_reducible repeat (first | apply Kd.N_alloc | apply Kd.N_drewN | apply Kd.N_drew)); exact Kd.N_mono HO230.out (fun _ hk => hk.2)⟩, ⟨by (with_reducible repeat (first | apply Kd.N_alloc | apply Kd.N_drewN | apply Kd.N_drew)); exact HO233.out⟩, ⟨by repeat (first | (with_reducible first | exact HB.out | apply below_alloc | apply pw_below_drewN | apply below_drew1) | exact HB.out)⟩⟩
        · rw [if_neg c13] at H
          have c13b0 : ((wrap64 (t234 + t235)) == (t231.length : Int)) = false := beq_eq_false_iff_ne.mpr c13
          have c13b1 : ((wrap64 (t234 + t235)) != (t231.length : Int)) = true := bne_iff_ne.mpr c13
          have H' := Aside0.mk H
          clear H
          obtain ⟨Ao18, co18, eo18⟩ := Kd.N_slice HO230.out
          subst eo18
          obtain ⟨Ao19, co19, eo19⟩ := Kd.N_slice HO233.out
          subst eo19
          go_wp2
          repeat (go_quiet (fail); try go_wp2)
          go_meet
          case rel => exact ⟨_, (true), (by first | rfl | (simp; done) | (simp [*]; done)), H', ⟨by first | omega | exact Nat.le_refl _⟩, ⟨by (with_reducible repeat (first | apply Kd.N_alloc | apply Kd.N_drewN | apply Kd.N_drew)); exact Kd.N_mono HO230.out (fun _ hk => hk.2)⟩, ⟨by (with_reducible repeat (first | apply Kd.N_alloc | apply Kd.N_drewN | apply Kd.N_drew)); exact HO233.out⟩, ⟨by repeat (first | (with_reducible first | exact HB.out | apply below_alloc | apply pw_below_drewN | apply below_drew1) | exact HB.out)⟩⟩
      · rw [if_neg c12] at H
        have c12b0 : ((t228.length : Int) == (t231.length : Int)) = false := beq_eq_false_iff_ne.mpr c12
        have c12b1 : ((t228.length : Int) != (t231.length : Int)) = true := bne_iff_ne.mpr c12
        have c12b2 : (t228.length == t231.length) = false := by first | simpa using c12 | (simp at c12 ⊢; omega)
        (first | rw [c12b0] | (simp only [i64_w, i32_w]; rw [c12b0]) | skip)
        have H' := Aside0.mk H
        clear H
        obtain ⟨Ao20, co20, eo20⟩ := Kd.N_slice HO230.out
        subst eo20
        obtain ⟨Ao21, co21, eo21⟩ := Kd.N_slice HO233.out
        subst eo21
        go_wp2
        repeat (go_quiet (fail); try go_wp2)
        go_meet
        case rel => exact ⟨_, (true), (by first | rfl | (simp; done) | (simp [*]; done)), H', ⟨by first | omega | exact Nat.le_refl _⟩, ⟨by (with_reducible repeat (first | apply Kd.N_alloc | apply Kd.N_drewN | apply Kd.N_drew)); exact Kd.N_mono HO230.out (fun _ hk => hk.2)⟩, ⟨by (with_reducible repeat (first | apply Kd.N_alloc | apply Kd.N_drewN | apply Kd.N_drew)); exact HO233.out⟩, ⟨by repeat (first | (with_reducible first | exact HB.out | apply below_alloc | apply pw_below_drewN | apply below_drew1) | exact HB.out)⟩⟩
    case rest =>
      clear HC8
      try clear c1
      try clear c2
      try clear c2b0
      try clear c2b1
      try clear p2
      try clear c4
      try clear p6
      try clear c12
      try clear c12b0
      try clear c12b1
      try clear c12b2
      try clear c13
      try clear c13b0
      try clear c13b1
      obtain ⟨kq, x41_7, rfl, HA, HJ7, HO_3, HO_4, HB⟩ := hcut
      cases kq with
      | zero => exact absurd HA.out (by simp [dogwatchlaw10_RecordSplits.j0])
      | succ kj7 =>
        have H := HA.out
        clear HA
        simp only [dogwatchlaw10_RecordSplits.j0] at H
        by_cases c22 : x41_7 = true
        · subst c22
          have H1 : (some false) = some r := by rw [if_pos rfl] at H; exact H
          clear H
          have H := H1
          clear H1
          obtain rfl := Option.some.inj H
          go_wp2
          repeat (go_quiet (fail); try go_wp2)
          go_ret
          exact ⟨by first | rfl | (simp [errW_none, errW_some] <;> rfl) | (simp [*, errW_none, errW_some] <;> rfl), by repeat (first | (with_reducible first | exact HB.out | apply below_alloc | apply pw_below_drewN | apply below_drew1) | exact HB.out)⟩
        · replace c22 := Bool.eq_false_iff.mpr c22
          subst c22
          have H1 : (dogwatchlaw10_RecordSplits.l0 kj7 t228 t231 t234 0 0) = some r := by rw [if_neg (show ¬ (false = true) by decide)] at H; exact H
          clear H
          have H := H1
          clear H1
          have H' := Aside0.mk H
          clear H
          go_wp2
          repeat (go_quiet (fail); try go_wp2)
          go_loopg [7, 8] kj7 (fun kq v7 v8 w' => ∃ (x7_2 : Int) (x8_2 : Int), v7 = .int .i64 x7_2 ∧ v8 = .int .i64 x8_2 ∧ Aside0 (dogwatchlaw10_RecordSplits.l0 kq t228 t231 t234 x7_2 x8_2 = some r) ∧ Aside0 (kq ≤ kj7) ∧ Aside0 (Kd.N k47 47 w' w.heap.size (fun k_ => some k_ ≠ (v232 : Value).ownBlock) v229 t228) ∧ Aside0 (Kd.N k49 49 w' w.heap.size (fun k_ => some k_ ≠ (v229 : Value).ownBlock) v232 t231) ∧ Aside0 (Below w.heap.size w w'))
          case atStart => exact ⟨(0), (0), (by first | rfl | (simp; done) | (simp [*]; done)), (by first | rfl | (simp; done) | (simp [*]; done)), H', ⟨Nat.le_refl _⟩, ⟨by (with_reducible repeat (first | apply Kd.N_alloc | apply Kd.N_drewN | apply Kd.N_drew)); exact HO_3.out⟩, ⟨by (with_reducible repeat (first | apply Kd.N_alloc | apply Kd.N_drewN | apply Kd.N_drew)); exact HO_4.out⟩, ⟨by repeat (first | (with_reducible first | exact HB.out | apply below_alloc | apply pw_below_drewN | apply below_drew1) | exact HB.out)⟩⟩
          case round =>
            clear H'
            try clear c1
            try clear c2
            try clear c2b0
            try clear c2b1
            try clear p2
            try clear c4
            try clear p6
            try clear c12
            try clear c12b0
            try clear c12b1
            try clear c12b2
            try clear c13
            try clear c13b0
            try clear c13b1
            try clear c22
            try clear p2
            try clear p6
            obtain ⟨x7_2, x8_2, rfl, rfl, HA, HK2, HO_3, HO_4, HB⟩ := hrel
            cases gk with
            | zero => exact absurd HA.out (by simp [dogwatchlaw10_RecordSplits.l0])
            | succ k2 =>
              have H := HA.out
              clear HA
              simp only [dogwatchlaw10_RecordSplits.l0] at H
              by_cases c23 : x8_2 < (t231.length : Int)
              · rw [if_pos c23] at H
                have c23b0 : decide (x8_2 < (t231.length : Int)) = true := decide_eq_true c23
                clear c23
                have HC24 := Aside0.mk H
                clear H
                obtain ⟨Ao25, co25, eo25⟩ := Kd.N_slice HO_4.out
                subst eo25
                go_upto_region 12 with (fail)
                repeat (go_quiet (fail); go_upto_region 12 with (fail))
                go_cut [116] (fun v116 wc => ∃ (kq : Nat) (x116_23 : Bool), v116 = .bool x116_23 ∧ Aside0 (dogwatchlaw10_RecordSplits.j2 kq t228 t231 t234 x7_2 x8_2 x116_23 = some r) ∧ Aside0 (kq ≤ k2) ∧ Aside0 (Kd.N k47 47 wc w.heap.size (fun k_ => some k_ ≠ ((.slice Ao25 t231.length co25) : Value).ownBlock) v229 t228) ∧ Aside0 (Kd.N k49 49 wc w.heap.size (fun k_ => some k_ ≠ (v229 : Value).ownBlock) (.slice Ao25 t231.length co25) t231) ∧ Aside0 (Below w.heap.size w wc))
                case first =>
                  have H := HC24.out
                  clear HC24
                  by_cases c26 : 0 ≤ x8_2
                  · rw [if_pos c26] at H
                    have c26b0 : decide (0 ≤ x8_2) = true := decide_eq_true c26
                    clear c26
                    (first | rw [c26b0] | (simp only [i64_w, i32_w]; rw [c26b0]) | skip)
                    by_cases c27 : x8_2 < (t228.length : Int)
                    · rw [if_pos c27] at H
                      have c27b0 : decide (x8_2 < (t228.length : Int)) = true := decide_eq_true c27
                      clear c27
                      by_cases c28 : ((rd_T47 t228 x8_2).f0) = ((rd_T49 t231 x8_2).f0)
                      · rw [if_pos c28] at H
                        have c28b0 : (((rd_T47 t228 x8_2).f0) == ((rd_T49 t231 x8_2).f0)) = true := beq_iff_eq.mpr c28
                        have c28b1 : (((rd_T47 t228 x8_2).f0) != ((rd_T49 t231 x8_2).f0)) = false := bne_eq_false_iff_eq.mpr c28
                        clear c28
                        by_cases c29 : ((rd_T47 t228 x8_2).f1) = ((rd_T49 t231 x8_2).f1)
                        · rw [if_pos c29] at H
                          have c29b0 : (((rd_T47 t228 x8_2).f1) == ((rd_T49 t231 x8_2).f1)) = true := beq_iff_eq.mpr c29
                          have c29b1 : (((rd_T47 t228 x8_2).f1) != ((rd_T49 t231 x8_2).f1)) = false := bne_eq_false_iff_eq.mpr c29
                          clear c29
                          by_cases c30 : ((((rd_T47 t228 x8_2).f3) == 0) != ((rd_T49 t231 x8_2).f3)) = true
                          · rw [if_pos c30] at H
                            have c30b0 : ((((rd_T47 t228 x8_2).f3) == 0) != ((rd_T49 t231 x8_2).f3)) = true := c30
                            (try (have c30b1 : decide ((((rd_T47 t228 x8_2).f3) == 0) = ((rd_T49 t231 x8_2).f3)) = false := by simpa using c30))
                            (try (have c30b2 : ((((rd_T47 t228 x8_2).f3) == 0) == ((rd_T49 t231 x8_2).f3)) = false := by simpa using c30))
                            (try (have c30b3 : ¬ ((((rd_T47 t228 x8_2).f3) == 0) = ((rd_T49 t231 x8_2).f3)) := by simpa using c30))
                            clear c30
                            have H' := Aside0.mk H
                            clear H
                            obtain ⟨Ao31, co31, eo31⟩ := Kd.N_slice HO_3.out
                            subst eo31
                            have p239 : 0 ≤ (x8_2 : Int) := of_decide_eq_true (by first | (with_reducible assumption) | assumption)
                            have q239 : x8_2 < (t228.length : Int) := of_decide_eq_true (by first | (with_reducible assumption) | assumption)
                            obtain ⟨ad239, A239_2, c239_2, e239, hx239_0, hx239_1, hx239_2, hx239_3, hl239_2, hi239_2⟩ := at_T47 (Kd.N_reads' HO_3.out).2.2 x8_2 p239 q239
                            cases e239
                            obtain ⟨ce239, hce239, hMe239, hcc239⟩ := Kd.N_get HO_3.out z47 x8_2 p239 (by first | exact q239 | exact of_decide_eq_true (by first | (with_reducible assumption) | assumption) | (have e_ := (Kd.N_reads' HO_3.out).1; omega))
                            obtain ⟨ua239_2, uc239_2, rfl, ul239_2, ge239_2⟩ := k47_openF hMe239
                            have hv239_2 := hcc239 2 _ rfl
                            rw [add_field _ _ 2 (by omega)] at hv239_2
                            replace hv239_2 := Option.some.inj (hv239_2.symm.trans hx239_2)
                            injection hv239_2 with hva_ hvn_ hvc_
                            rw [hva_] at ge239_2
                            rw [hvc_] at ul239_2
                            have HL239_2 := Aside0.mk (show Kd.V (Kd.int .u8) 5 _ w.heap.size _ _ ((rd_T47 t228 x8_2).f2) from Kd.V_mk ul239_2 ge239_2)
                            clear hva_ hvn_ hvc_ ge239_2 ul239_2
                            clear hcc239 hce239
                            have HR239_2 := Aside0.mk hi239_2
                            have HC239_2 := Aside0.mk hl239_2
                            clear hi239_2 hl239_2
                            replace p239 := eq_true p239
                            replace q239 := eq_true q239
                            have p240 : 0 ≤ (x8_2 : Int) := of_decide_eq_true (by first | (with_reducible assumption) | assumption)
                            have q240 : x8_2 < (t231.length : Int) := of_decide_eq_true (by first | (with_reducible assumption) | assumption)
                            obtain ⟨ad240, A240_2, c240_2, e240, hx240_0, hx240_1, hx240_2, hx240_3, hl240_2, hi240_2⟩ := at_T49 (Kd.N_reads' HO_4.out).2.2 x8_2 p240 q240
                            cases e240
                            obtain ⟨ce240, hce240, hMe240, hcc240⟩ := Kd.N_get HO_4.out z49 x8_2 p240 (by first | exact q240 | exact of_decide_eq_true (by first | (with_reducible assumption) | assumption) | (have e_ := (Kd.N_reads' HO_4.out).1; omega))
                            obtain ⟨ua240_2, uc240_2, rfl, ul240_2, ge240_2⟩ := k49_openF hMe240
                            have hv240_2 := hcc240 2 _ rfl
                            rw [add_field _ _ 2 (by omega)] at hv240_2
                            replace hv240_2 := Option.some.inj (hv240_2.symm.trans hx240_2)
                            injection hv240_2 with hva_ hvn_ hvc_
                            rw [hva_] at ge240_2
                            rw [hvc_] at ul240_2
                            have HL240_2 := Aside0.mk (show Kd.V (Kd.int .u8) 5 _ w.heap.size _ _ ((rd_T49 t231 x8_2).f2) from Kd.V_mk ul240_2 ge240_2)
                            clear hva_ hvn_ hvc_ ge240_2 ul240_2
                            clear hcc240 hce240
                            have HR240_2 := Aside0.mk hi240_2
                            have HC240_2 := Aside0.mk hl240_2
                            clear hi240_2 hl240_2
                            replace p240 := eq_true p240
                            replace q240 := eq_true q240
                            go_wp2
                            refine wp_region_held_drew (S := fun w' : World => Drawn0 wr w') (by kernel_rfl) ⟨⟨1, rfl⟩⟩ (fun hHeld => ?_)
                            refine tkA (i := 0) (v := ?vL0_0) (oi := { dst := some 48, op := Op.move (Operand.tmp 3), type := 39, pos := "law.go:30", after := #[], guard := none }) rfl (by kernel_rfl) (fun _ _ _ h => h) (.inl ⟨by rfl, ?yL0_0⟩) hHeld ?rL0_0; case yL0_0 => (intro w_ hSw; obtain ⟨n_, rfl⟩ := hSw.out; clear hSw; go_simp; try with_reducible rfl)
                            refine tkA (i := 1) (v := ?vL0_1) (oi := { dst := some 49, op := Op.move (Operand.tmp 8), type := 3, pos := "law.go:30", after := #[], guard := none }) rfl (by kernel_rfl) (fun _ _ _ h => h) (.inl ⟨by rfl, ?yL0_1⟩) hHeld ?rL0_1; case yL0_1 => (intro w_ hSw; obtain ⟨n_, rfl⟩ := hSw.out; clear hSw; go_simp; try with_reducible rfl)
                            refine tkA (i := 2) (v := ?vL0_2) (oi := { dst := some 50, op := Op.indexAddr 39 (Operand.tmp 48) (Operand.tmp 49), type := 0, pos := "law.go:30", after := #[{ on := 0, ground := Ground.data }, { on := 1, ground := Ground.data }], guard := none }) rfl (by kernel_rfl) (fun _ _ _ h => h) (.inl ⟨by rfl, ?yL0_2⟩) hHeld ?rL0_2; case yL0_2 => (intro w_ hSw; obtain ⟨n_, rfl⟩ := hSw.out; clear hSw; go_simp; try with_reducible rfl)
                            (try simp only [Act.put, List.setIfInBounds_toArray, List.set_cons_zero, List.set_cons_succ])
                            refine tkA (i := 3) (v := ?vL0_3) (oi := { dst := some 51, op := Op.fieldAddr 47 (Operand.tmp 50) 0, type := 0, pos := "law.go:30", after := #[{ on := 2, ground := Ground.data }], guard := none }) rfl (by kernel_rfl) (fun _ _ _ h => h) (.inl ⟨by rfl, ?yL0_3⟩) hHeld ?rL0_3; case yL0_3 => (intro w_ hSw; obtain ⟨n_, rfl⟩ := hSw.out; clear hSw; go_simp; try with_reducible rfl)
                            refine tkA (i := 4) (v := ?vL0_4) (oi := { dst := some 52, op := Op.load 3 (Operand.tmp 51), type := 3, pos := "law.go:30", after := #[{ on := 3, ground := Ground.data }], guard := none }) rfl (by kernel_rfl) (fun _ _ _ h => h) (.inl ⟨by rfl, ?yL0_4⟩) hHeld ?rL0_4; case yL0_4 => (intro w_ hSw; obtain ⟨n_, rfl⟩ := hSw.out; clear hSw; go_simp; try with_reducible rfl)
                            refine tkA (i := 5) (v := ?vL0_5) (oi := { dst := some 53, op := Op.move (Operand.tmp 4), type := 41, pos := "law.go:30", after := #[], guard := none }) rfl (by kernel_rfl) (fun _ _ _ h => h) (.inl ⟨by rfl, ?yL0_5⟩) hHeld ?rL0_5; case yL0_5 => (intro w_ hSw; obtain ⟨n_, rfl⟩ := hSw.out; clear hSw; go_simp; try with_reducible rfl)
                            (try simp only [Act.put, List.setIfInBounds_toArray, List.set_cons_zero, List.set_cons_succ])
                            refine tkA (i := 6) (v := ?vL0_6) (oi := { dst := some 54, op := Op.move (Operand.tmp 8), type := 3, pos := "law.go:30", after := #[], guard := none }) rfl (by kernel_rfl) (fun _ _ _ h => h) (.inl ⟨by rfl, ?yL0_6⟩) hHeld ?rL0_6; case yL0_6 => (intro w_ hSw; obtain ⟨n_, rfl⟩ := hSw.out; clear hSw; go_simp; try with_reducible rfl)
                            refine tkA (i := 7) (v := ?vL0_7) (oi := { dst := some 55, op := Op.indexAddr 41 (Operand.tmp 53) (Operand.tmp 54), type := 0, pos := "law.go:30", after := #[{ on := 5, ground := Ground.data }, { on := 6, ground := Ground.data }], guard := none }) rfl (by kernel_rfl) (fun _ _ _ h => h) (.inl ⟨by rfl, ?yL0_7⟩) hHeld ?rL0_7; case yL0_7 => (intro w_ hSw; obtain ⟨n_, rfl⟩ := hSw.out; clear hSw; go_simp; try with_reducible rfl)
                            refine tkA (i := 8) (v := ?vL0_8) (oi := { dst := some 56, op := Op.fieldAddr 49 (Operand.tmp 55) 0, type := 0, pos := "law.go:30", after := #[{ on := 7, ground := Ground.data }], guard := none }) rfl (by kernel_rfl) (fun _ _ _ h => h) (.inl ⟨by rfl, ?yL0_8⟩) hHeld ?rL0_8; case yL0_8 => (intro w_ hSw; obtain ⟨n_, rfl⟩ := hSw.out; clear hSw; go_simp; try with_reducible rfl)
                            (try simp only [Act.put, List.setIfInBounds_toArray, List.set_cons_zero, List.set_cons_succ])
                            refine tkA (i := 9) (v := ?vL0_9) (oi := { dst := some 57, op := Op.load 3 (Operand.tmp 56), type := 3, pos := "law.go:30", after := #[{ on := 8, ground := Ground.data }], guard := none }) rfl (by kernel_rfl) (fun _ _ _ h => h) (.inl ⟨by rfl, ?yL0_9⟩) hHeld ?rL0_9; case yL0_9 => (intro w_ hSw; obtain ⟨n_, rfl⟩ := hSw.out; clear hSw; go_simp; try with_reducible rfl)
                            refine tkA (i := 10) (v := ?vL0_10) (oi := { dst := some 58, op := Op.binOp BinOp.neq 3 (Operand.tmp 52) (Operand.tmp 57) 3, type := 4, pos := "law.go:30", after := #[{ on := 4, ground := Ground.data }, { on := 9, ground := Ground.data }], guard := none }) rfl (by kernel_rfl) (fun _ _ _ h => h) (.inl ⟨by rfl, ?yL0_10⟩) hHeld ?rL0_10; case yL0_10 => (intro w_ hSw; obtain ⟨n_, rfl⟩ := hSw.out; clear hSw; go_simp; try with_reducible rfl)
                            refine tkA (i := 11) (v := ?vL0_11) (oi := { dst := some 59, op := Op.move (Operand.tmp 58), type := 4, pos := "law.go:30", after := #[{ on := 10, ground := Ground.data }], guard := none }) rfl (by kernel_rfl) (fun _ _ _ h => h) (.inl ⟨by rfl, ?yL0_11⟩) hHeld ?rL0_11; case yL0_11 => (intro w_ hSw; obtain ⟨n_, rfl⟩ := hSw.out; clear hSw; go_simp; try with_reducible rfl)
                            (try simp only [Act.put, List.setIfInBounds_toArray, List.set_cons_zero, List.set_cons_succ])
                            refine tkA (i := 12) (v := ?vL0_12) (oi := { dst := some 60, op := Op.move (Operand.tmp 3), type := 39, pos := "law.go:30", after := #[{ on := 11, ground := Ground.guard }], guard := some (11, false) }) rfl (by kernel_rfl) (fun _ _ _ h => h) (.inl ⟨by rfl, ?yL0_12⟩) hHeld ?rL0_12; case yL0_12 => (intro w_ hSw; obtain ⟨n_, rfl⟩ := hSw.out; clear hSw; go_simp; try with_reducible rfl)
                            refine tkA (i := 13) (v := ?vL0_13) (oi := { dst := some 61, op := Op.move (Operand.tmp 8), type := 3, pos := "law.go:30", after := #[{ on := 11, ground := Ground.guard }], guard := some (11, false) }) rfl (by kernel_rfl) (fun _ _ _ h => h) (.inl ⟨by rfl, ?yL0_13⟩) hHeld ?rL0_13; case yL0_13 => (intro w_ hSw; obtain ⟨n_, rfl⟩ := hSw.out; clear hSw; go_simp; try with_reducible rfl)
                            refine tkA (i := 14) (v := ?vL0_14) (oi := { dst := some 62, op := Op.indexAddr 39 (Operand.tmp 60) (Operand.tmp 61), type := 0, pos := "law.go:30", after := #[{ on := 12, ground := Ground.data }, { on := 13, ground := Ground.data }, { on := 11, ground := Ground.guard }], guard := some (11, false) }) rfl (by kernel_rfl) (fun _ _ _ h => h) (.inl ⟨by rfl, ?yL0_14⟩) hHeld ?rL0_14; case yL0_14 => (intro w_ hSw; obtain ⟨n_, rfl⟩ := hSw.out; clear hSw; go_simp; try with_reducible rfl)
                            (try simp only [Act.put, List.setIfInBounds_toArray, List.set_cons_zero, List.set_cons_succ])
                            refine tkA (i := 15) (v := ?vL0_15) (oi := { dst := some 63, op := Op.fieldAddr 47 (Operand.tmp 62) 1, type := 0, pos := "law.go:30", after := #[{ on := 14, ground := Ground.data }, { on := 11, ground := Ground.guard }], guard := some (11, false) }) rfl (by kernel_rfl) (fun _ _ _ h => h) (.inl ⟨by rfl, ?yL0_15⟩) hHeld ?rL0_15; case yL0_15 => (intro w_ hSw; obtain ⟨n_, rfl⟩ := hSw.out; clear hSw; go_simp; try with_reducible rfl)
                            refine tkA (i := 16) (v := ?vL0_16) (oi := { dst := some 64, op := Op.load 3 (Operand.tmp 63), type := 3, pos := "law.go:30", after := #[{ on := 15, ground := Ground.data }, { on := 11, ground := Ground.guard }], guard := some (11, false) }) rfl (by kernel_rfl) (fun _ _ _ h => h) (.inl ⟨by rfl, ?yL0_16⟩) hHeld ?rL0_16; case yL0_16 => (intro w_ hSw; obtain ⟨n_, rfl⟩ := hSw.out; clear hSw; go_simp; try with_reducible rfl)
                            refine tkA (i := 17) (v := ?vL0_17) (oi := { dst := some 65, op := Op.move (Operand.tmp 4), type := 41, pos := "law.go:30", after := #[{ on := 11, ground := Ground.guard }], guard := some (11, false) }) rfl (by kernel_rfl) (fun _ _ _ h => h) (.inl ⟨by rfl, ?yL0_17⟩) hHeld ?rL0_17; case yL0_17 => (intro w_ hSw; obtain ⟨n_, rfl⟩ := hSw.out; clear hSw; go_simp; try with_reducible rfl)
                            (try simp only [Act.put, List.setIfInBounds_toArray, List.set_cons_zero, List.set_cons_succ])
                            refine tkA (i := 18) (v := ?vL0_18) (oi := { dst := some 66, op := Op.move (Operand.tmp 8), type := 3, pos := "law.go:30", after := #[{ on := 11, ground := Ground.guard }], guard := some (11, false) }) rfl (by kernel_rfl) (fun _ _ _ h => h) (.inl ⟨by rfl, ?yL0_18⟩) hHeld ?rL0_18; case yL0_18 => (intro w_ hSw; obtain ⟨n_, rfl⟩ := hSw.out; clear hSw; go_simp; try with_reducible rfl)
                            refine tkA (i := 19) (v := ?vL0_19) (oi := { dst := some 67, op := Op.indexAddr 41 (Operand.tmp 65) (Operand.tmp 66), type := 0, pos := "law.go:30", after := #[{ on := 17, ground := Ground.data }, { on := 18, ground := Ground.data }, { on := 11, ground := Ground.guard }], guard := some (11, false) }) rfl (by kernel_rfl) (fun _ _ _ h => h) (.inl ⟨by rfl, ?yL0_19⟩) hHeld ?rL0_19; case yL0_19 => (intro w_ hSw; obtain ⟨n_, rfl⟩ := hSw.out; clear hSw; go_simp; try with_reducible rfl)
                            refine tkA (i := 20) (v := ?vL0_20) (oi := { dst := some 68, op := Op.fieldAddr 49 (Operand.tmp 67) 1, type := 0, pos := "law.go:30", after := #[{ on := 19, ground := Ground.data }, { on := 11, ground := Ground.guard }], guard := some (11, false) }) rfl (by kernel_rfl) (fun _ _ _ h => h) (.inl ⟨by rfl, ?yL0_20⟩) hHeld ?rL0_20; case yL0_20 => (intro w_ hSw; obtain ⟨n_, rfl⟩ := hSw.out; clear hSw; go_simp; try with_reducible rfl)
                            (try simp only [Act.put, List.setIfInBounds_toArray, List.set_cons_zero, List.set_cons_succ])
                            refine tkA (i := 21) (v := ?vL0_21) (oi := { dst := some 69, op := Op.load 3 (Operand.tmp 68), type := 3, pos := "law.go:30", after := #[{ on := 20, ground := Ground.data }, { on := 11, ground := Ground.guard }], guard := some (11, false) }) rfl (by kernel_rfl) (fun _ _ _ h => h) (.inl ⟨by rfl, ?yL0_21⟩) hHeld ?rL0_21; case yL0_21 => (intro w_ hSw; obtain ⟨n_, rfl⟩ := hSw.out; clear hSw; go_simp; try with_reducible rfl)
                            refine tkA (i := 22) (v := ?vL0_22) (oi := { dst := some 70, op := Op.binOp BinOp.neq 3 (Operand.tmp 64) (Operand.tmp 69) 3, type := 4, pos := "law.go:30", after := #[{ on := 16, ground := Ground.data }, { on := 21, ground := Ground.data }, { on := 11, ground := Ground.guard }], guard := some (11, false) }) rfl (by kernel_rfl) (fun _ _ _ h => h) (.inl ⟨by rfl, ?yL0_22⟩) hHeld ?rL0_22; case yL0_22 => (intro w_ hSw; obtain ⟨n_, rfl⟩ := hSw.out; clear hSw; go_simp; try with_reducible rfl)
                            refine tkA (i := 23) (v := ?vL0_23) (oi := { dst := some 71, op := Op.pick (Operand.tmp 59) (Operand.const (Value.bool true)) (Operand.tmp 70), type := 4, pos := "law.go:30", after := #[{ on := 11, ground := Ground.data }, { on := 22, ground := Ground.data }], guard := none }) rfl (by kernel_rfl) (fun _ _ _ h => h) (.inl ⟨by rfl, ?yL0_23⟩) hHeld ?rL0_23; case yL0_23 => (intro w_ hSw; obtain ⟨n_, rfl⟩ := hSw.out; clear hSw; go_simp; try with_reducible rfl)
                            (try simp only [Act.put, List.setIfInBounds_toArray, List.set_cons_zero, List.set_cons_succ])
                            refine tkA (i := 24) (v := ?vL0_24) (oi := { dst := some 72, op := Op.move (Operand.tmp 71), type := 4, pos := "law.go:30", after := #[{ on := 23, ground := Ground.data }, { on := 11, ground := Ground.chain }], guard := none }) rfl (by kernel_rfl) (fun _ _ _ h => h) (.inl ⟨by rfl, ?yL0_24⟩) hHeld ?rL0_24; case yL0_24 => (intro w_ hSw; obtain ⟨n_, rfl⟩ := hSw.out; clear hSw; go_simp; try with_reducible rfl)
                            refine tkA (i := 25) (v := ?vL0_25) (oi := { dst := some 73, op := Op.move (Operand.tmp 3), type := 39, pos := "law.go:30", after := #[{ on := 24, ground := Ground.guard }], guard := some (24, false) }) rfl (by kernel_rfl) (fun _ _ _ h => h) (.inl ⟨by rfl, ?yL0_25⟩) hHeld ?rL0_25; case yL0_25 => (intro w_ hSw; obtain ⟨n_, rfl⟩ := hSw.out; clear hSw; go_simp; try with_reducible rfl)
                            refine tkA (i := 26) (v := ?vL0_26) (oi := { dst := some 74, op := Op.move (Operand.tmp 8), type := 3, pos := "law.go:30", after := #[{ on := 24, ground := Ground.guard }], guard := some (24, false) }) rfl (by kernel_rfl) (fun _ _ _ h => h) (.inl ⟨by rfl, ?yL0_26⟩) hHeld ?rL0_26; case yL0_26 => (intro w_ hSw; obtain ⟨n_, rfl⟩ := hSw.out; clear hSw; go_simp; try with_reducible rfl)
                            (try simp only [Act.put, List.setIfInBounds_toArray, List.set_cons_zero, List.set_cons_succ])
                            refine tkA (i := 27) (v := ?vL0_27) (oi := { dst := some 75, op := Op.indexAddr 39 (Operand.tmp 73) (Operand.tmp 74), type := 0, pos := "law.go:30", after := #[{ on := 25, ground := Ground.data }, { on := 26, ground := Ground.data }, { on := 24, ground := Ground.guard }], guard := some (24, false) }) rfl (by kernel_rfl) (fun _ _ _ h => h) (.inl ⟨by rfl, ?yL0_27⟩) hHeld ?rL0_27; case yL0_27 => (intro w_ hSw; obtain ⟨n_, rfl⟩ := hSw.out; clear hSw; go_simp; try with_reducible rfl)
                            refine tkA (i := 28) (v := ?vL0_28) (oi := { dst := some 76, op := Op.fieldAddr 47 (Operand.tmp 75) 3, type := 0, pos := "law.go:30", after := #[{ on := 27, ground := Ground.data }, { on := 24, ground := Ground.guard }], guard := some (24, false) }) rfl (by kernel_rfl) (fun _ _ _ h => h) (.inl ⟨by rfl, ?yL0_28⟩) hHeld ?rL0_28; case yL0_28 => (intro w_ hSw; obtain ⟨n_, rfl⟩ := hSw.out; clear hSw; go_simp; try with_reducible rfl)
                            refine tkA (i := 29) (v := ?vL0_29) (oi := { dst := some 77, op := Op.load 24 (Operand.tmp 76), type := 24, pos := "law.go:30", after := #[{ on := 28, ground := Ground.data }, { on := 24, ground := Ground.guard }], guard := some (24, false) }) rfl (by kernel_rfl) (fun _ _ _ h => h) (.inl ⟨by rfl, ?yL0_29⟩) hHeld ?rL0_29; case yL0_29 => (intro w_ hSw; obtain ⟨n_, rfl⟩ := hSw.out; clear hSw; go_simp; try with_reducible rfl)
                            (try simp only [Act.put, List.setIfInBounds_toArray, List.set_cons_zero, List.set_cons_succ])
                            refine tkA (i := 30) (v := ?vL0_30) (oi := { dst := some 78, op := Op.binOp BinOp.eql 24 (Operand.tmp 77) (Operand.const (Value.int IntKind.i64 0)) 24, type := 4, pos := "law.go:30", after := #[{ on := 29, ground := Ground.data }, { on := 24, ground := Ground.guard }], guard := some (24, false) }) rfl (by kernel_rfl) (fun _ _ _ h => h) (.inl ⟨by rfl, ?yL0_30⟩) hHeld ?rL0_30; case yL0_30 => (intro w_ hSw; obtain ⟨n_, rfl⟩ := hSw.out; clear hSw; go_simp; try with_reducible rfl)
                            refine tkA (i := 31) (v := ?vL0_31) (oi := { dst := some 79, op := Op.move (Operand.tmp 4), type := 41, pos := "law.go:30", after := #[{ on := 24, ground := Ground.guard }], guard := some (24, false) }) rfl (by kernel_rfl) (fun _ _ _ h => h) (.inl ⟨by rfl, ?yL0_31⟩) hHeld ?rL0_31; case yL0_31 => (intro w_ hSw; obtain ⟨n_, rfl⟩ := hSw.out; clear hSw; go_simp; try with_reducible rfl)
                            refine tkA (i := 32) (v := ?vL0_32) (oi := { dst := some 80, op := Op.move (Operand.tmp 8), type := 3, pos := "law.go:30", after := #[{ on := 24, ground := Ground.guard }], guard := some (24, false) }) rfl (by kernel_rfl) (fun _ _ _ h => h) (.inl ⟨by rfl, ?yL0_32⟩) hHeld ?rL0_32; case yL0_32 => (intro w_ hSw; obtain ⟨n_, rfl⟩ := hSw.out; clear hSw; go_simp; try with_reducible rfl)
                            (try simp only [Act.put, List.setIfInBounds_toArray, List.set_cons_zero, List.set_cons_succ])
                            refine tkA (i := 33) (v := ?vL0_33) (oi := { dst := some 81, op := Op.indexAddr 41 (Operand.tmp 79) (Operand.tmp 80), type := 0, pos := "law.go:30", after := #[{ on := 31, ground := Ground.data }, { on := 32, ground := Ground.data }, { on := 24, ground := Ground.guard }], guard := some (24, false) }) rfl (by kernel_rfl) (fun _ _ _ h => h) (.inl ⟨by rfl, ?yL0_33⟩) hHeld ?rL0_33; case yL0_33 => (intro w_ hSw; obtain ⟨n_, rfl⟩ := hSw.out; clear hSw; go_simp; try with_reducible rfl)
                            refine tkA (i := 34) (v := ?vL0_34) (oi := { dst := some 82, op := Op.fieldAddr 49 (Operand.tmp 81) 3, type := 0, pos := "law.go:30", after := #[{ on := 33, ground := Ground.data }, { on := 24, ground := Ground.guard }], guard := some (24, false) }) rfl (by kernel_rfl) (fun _ _ _ h => h) (.inl ⟨by rfl, ?yL0_34⟩) hHeld ?rL0_34; case yL0_34 => (intro w_ hSw; obtain ⟨n_, rfl⟩ := hSw.out; clear hSw; go_simp; try with_reducible rfl)
                            refine tkA (i := 35) (v := ?vL0_35) (oi := { dst := some 83, op := Op.load 4 (Operand.tmp 82), type := 4, pos := "law.go:30", after := #[{ on := 34, ground := Ground.data }, { on := 24, ground := Ground.guard }], guard := some (24, false) }) rfl (by kernel_rfl) (fun _ _ _ h => h) (.inl ⟨by rfl, ?yL0_35⟩) hHeld ?rL0_35; case yL0_35 => (intro w_ hSw; obtain ⟨n_, rfl⟩ := hSw.out; clear hSw; go_simp; try with_reducible rfl)
                            (try simp only [Act.put, List.setIfInBounds_toArray, List.set_cons_zero, List.set_cons_succ])
                            refine tkA (i := 36) (v := ?vL0_36) (oi := { dst := some 84, op := Op.binOp BinOp.neq 4 (Operand.tmp 78) (Operand.tmp 83) 4, type := 4, pos := "law.go:30", after := #[{ on := 30, ground := Ground.data }, { on := 35, ground := Ground.data }, { on := 24, ground := Ground.guard }], guard := some (24, false) }) rfl (by kernel_rfl) (fun _ _ _ h => h) (.inl ⟨by rfl, ?yL0_36⟩) hHeld ?rL0_36; case yL0_36 => (intro w_ hSw; obtain ⟨n_, rfl⟩ := hSw.out; clear hSw; go_simp; try with_reducible rfl)
                            refine tkA (i := 37) (v := ?vL0_37) (oi := { dst := some 85, op := Op.pick (Operand.tmp 72) (Operand.const (Value.bool true)) (Operand.tmp 84), type := 4, pos := "law.go:30", after := #[{ on := 24, ground := Ground.data }, { on := 36, ground := Ground.data }], guard := none }) rfl (by kernel_rfl) (fun _ _ _ h => h) (.inl ⟨by rfl, ?yL0_37⟩) hHeld ?rL0_37; case yL0_37 => (intro w_ hSw; obtain ⟨n_, rfl⟩ := hSw.out; clear hSw; go_simp; try with_reducible rfl)
                            refine tkA (i := 38) (v := ?vL0_38) (oi := { dst := some 86, op := Op.move (Operand.tmp 85), type := 4, pos := "law.go:30", after := #[{ on := 37, ground := Ground.data }, { on := 24, ground := Ground.chain }], guard := none }) rfl (by kernel_rfl) (fun _ _ _ h => h) (.inl ⟨by rfl, ?yL0_38⟩) hHeld ?rL0_38; case yL0_38 => (intro w_ hSw; obtain ⟨n_, rfl⟩ := hSw.out; clear hSw; go_simp; try with_reducible rfl)
                            (try simp only [Act.put, List.setIfInBounds_toArray, List.set_cons_zero, List.set_cons_succ])
                            refine tkA (i := 39) (v := undef) (oi := { dst := some 87, op := Op.move (Operand.tmp 3), type := 39, pos := "law.go:30", after := #[{ on := 38, ground := Ground.guard }], guard := some (38, false) }) rfl (by kernel_rfl) (fun _ _ _ h => h) (.inr ⟨by rfl, rfl⟩) hHeld ?rL0_39
                            refine tkA (i := 40) (v := undef) (oi := { dst := some 88, op := Op.move (Operand.tmp 8), type := 3, pos := "law.go:30", after := #[{ on := 38, ground := Ground.guard }], guard := some (38, false) }) rfl (by kernel_rfl) (fun _ _ _ h => h) (.inr ⟨by rfl, rfl⟩) hHeld ?rL0_40
                            refine tkA (i := 41) (v := undef) (oi := { dst := some 89, op := Op.indexAddr 39 (Operand.tmp 87) (Operand.tmp 88), type := 0, pos := "law.go:30", after := #[{ on := 39, ground := Ground.data }, { on := 40, ground := Ground.data }, { on := 38, ground := Ground.guard }], guard := some (38, false) }) rfl (by kernel_rfl) (fun _ _ _ h => h) (.inr ⟨by rfl, rfl⟩) hHeld ?rL0_41
                            (try simp only [Act.put, List.setIfInBounds_toArray, List.set_cons_zero, List.set_cons_succ])
                            refine tkA (i := 42) (v := undef) (oi := { dst := some 90, op := Op.fieldAddr 47 (Operand.tmp 89) 3, type := 0, pos := "law.go:30", after := #[{ on := 41, ground := Ground.data }, { on := 38, ground := Ground.guard }], guard := some (38, false) }) rfl (by kernel_rfl) (fun _ _ _ h => h) (.inr ⟨by rfl, rfl⟩) hHeld ?rL0_42
                            refine tkA (i := 43) (v := undef) (oi := { dst := some 91, op := Op.load 24 (Operand.tmp 90), type := 24, pos := "law.go:30", after := #[{ on := 42, ground := Ground.data }, { on := 38, ground := Ground.guard }], guard := some (38, false) }) rfl (by kernel_rfl) (fun _ _ _ h => h) (.inr ⟨by rfl, rfl⟩) hHeld ?rL0_43
                            refine tkA (i := 44) (v := undef) (oi := { dst := some 92, op := Op.binOp BinOp.neq 24 (Operand.tmp 91) (Operand.const (Value.int IntKind.i64 0)) 24, type := 4, pos := "law.go:30", after := #[{ on := 43, ground := Ground.data }, { on := 38, ground := Ground.guard }], guard := some (38, false) }) rfl (by kernel_rfl) (fun _ _ _ h => h) (.inr ⟨by rfl, rfl⟩) hHeld ?rL0_44
                            (try simp only [Act.put, List.setIfInBounds_toArray, List.set_cons_zero, List.set_cons_succ])
                            refine tkA (i := 45) (v := undef) (oi := { dst := some 93, op := Op.move (Operand.tmp 92), type := 4, pos := "law.go:30", after := #[{ on := 44, ground := Ground.data }, { on := 38, ground := Ground.chain }, { on := 38, ground := Ground.guard }], guard := some (38, false) }) rfl (by kernel_rfl) (fun _ _ _ h => h) (.inr ⟨by rfl, rfl⟩) hHeld ?rL0_45
                            refine tkA (i := 46) (v := undef) (oi := { dst := some 94, op := Op.move (Operand.tmp 3), type := 39, pos := "law.go:30", after := #[{ on := 45, ground := Ground.guard }], guard := some (45, true) }) rfl (by kernel_rfl) (fun _ _ _ h => h) (.inr ⟨by rfl, rfl⟩) hHeld ?rL0_46
                            refine tkA (i := 47) (v := undef) (oi := { dst := some 95, op := Op.move (Operand.tmp 8), type := 3, pos := "law.go:30", after := #[{ on := 45, ground := Ground.guard }], guard := some (45, true) }) rfl (by kernel_rfl) (fun _ _ _ h => h) (.inr ⟨by rfl, rfl⟩) hHeld ?rL0_47
                            (try simp only [Act.put, List.setIfInBounds_toArray, List.set_cons_zero, List.set_cons_succ])
                            refine tkA (i := 48) (v := undef) (oi := { dst := some 96, op := Op.indexAddr 39 (Operand.tmp 94) (Operand.tmp 95), type := 0, pos := "law.go:30", after := #[{ on := 46, ground := Ground.data }, { on := 47, ground := Ground.data }, { on := 45, ground := Ground.guard }], guard := some (45, true) }) rfl (by kernel_rfl) (fun _ _ _ h => h) (.inr ⟨by rfl, rfl⟩) hHeld ?rL0_48
                            refine tkA (i := 49) (v := undef) (oi := { dst := some 97, op := Op.fieldAddr 47 (Operand.tmp 96) 3, type := 0, pos := "law.go:30", after := #[{ on := 48, ground := Ground.data }, { on := 45, ground := Ground.guard }], guard := some (45, true) }) rfl (by kernel_rfl) (fun _ _ _ h => h) (.inr ⟨by rfl, rfl⟩) hHeld ?rL0_49
                            refine tkA (i := 50) (v := undef) (oi := { dst := some 98, op := Op.load 24 (Operand.tmp 97), type := 24, pos := "law.go:30", after := #[{ on := 49, ground := Ground.data }, { on := 45, ground := Ground.guard }], guard := some (45, true) }) rfl (by kernel_rfl) (fun _ _ _ h => h) (.inr ⟨by rfl, rfl⟩) hHeld ?rL0_50
                            (try simp only [Act.put, List.setIfInBounds_toArray, List.set_cons_zero, List.set_cons_succ])
                            refine tkA (i := 51) (v := undef) (oi := { dst := some 99, op := Op.binOp BinOp.neq 24 (Operand.tmp 98) (Operand.const (Value.int IntKind.i64 3)) 24, type := 4, pos := "law.go:30", after := #[{ on := 50, ground := Ground.data }, { on := 45, ground := Ground.guard }], guard := some (45, true) }) rfl (by kernel_rfl) (fun _ _ _ h => h) (.inr ⟨by rfl, rfl⟩) hHeld ?rL0_51
                            refine tkA (i := 52) (v := undef) (oi := { dst := some 100, op := Op.pick (Operand.tmp 93) (Operand.tmp 99) (Operand.const (Value.bool false)), type := 4, pos := "law.go:30", after := #[{ on := 45, ground := Ground.data }, { on := 51, ground := Ground.data }, { on := 38, ground := Ground.guard }], guard := some (38, false) }) rfl (by kernel_rfl) (fun _ _ _ h => h) (.inr ⟨by rfl, rfl⟩) hHeld ?rL0_52
                            refine tkA (i := 53) (v := ?vL0_53) (oi := { dst := some 101, op := Op.pick (Operand.tmp 86) (Operand.const (Value.bool true)) (Operand.tmp 100), type := 4, pos := "law.go:30", after := #[{ on := 38, ground := Ground.data }, { on := 52, ground := Ground.data }], guard := none }) rfl (by kernel_rfl) (fun _ _ _ h => h) (.inl ⟨by rfl, ?yL0_53⟩) hHeld ?rL0_53; case yL0_53 => (intro w_ hSw; obtain ⟨n_, rfl⟩ := hSw.out; clear hSw; go_simp; try with_reducible rfl)
                            (try simp only [Act.put, List.setIfInBounds_toArray, List.set_cons_zero, List.set_cons_succ])
                            refine tkA (i := 54) (v := ?vL0_54) (oi := { dst := some 102, op := Op.move (Operand.tmp 101), type := 4, pos := "law.go:30", after := #[{ on := 53, ground := Ground.data }, { on := 45, ground := Ground.chain }], guard := none }) rfl (by kernel_rfl) (fun _ _ _ h => h) (.inl ⟨by rfl, ?yL0_54⟩) hHeld ?rL0_54; case yL0_54 => (intro w_ hSw; obtain ⟨n_, rfl⟩ := hSw.out; clear hSw; go_simp; try with_reducible rfl)
                            refine tkA (i := 55) (v := undef) (oi := { dst := some 103, op := Op.move (Operand.tmp 3), type := 39, pos := "law.go:30", after := #[{ on := 54, ground := Ground.guard }], guard := some (54, false) }) rfl (by kernel_rfl) (fun _ _ _ h => h) (.inr ⟨by rfl, rfl⟩) hHeld ?rL0_55
                            refine tkA (i := 56) (v := undef) (oi := { dst := some 104, op := Op.move (Operand.tmp 8), type := 3, pos := "law.go:30", after := #[{ on := 54, ground := Ground.guard }], guard := some (54, false) }) rfl (by kernel_rfl) (fun _ _ _ h => h) (.inr ⟨by rfl, rfl⟩) hHeld ?rL0_56
                            (try simp only [Act.put, List.setIfInBounds_toArray, List.set_cons_zero, List.set_cons_succ])
                            refine tkA (i := 57) (v := undef) (oi := { dst := some 105, op := Op.indexAddr 39 (Operand.tmp 103) (Operand.tmp 104), type := 0, pos := "law.go:30", after := #[{ on := 55, ground := Ground.data }, { on := 56, ground := Ground.data }, { on := 54, ground := Ground.guard }], guard := some (54, false) }) rfl (by kernel_rfl) (fun _ _ _ h => h) (.inr ⟨by rfl, rfl⟩) hHeld ?rL0_57
                            refine tkA (i := 58) (v := undef) (oi := { dst := some 106, op := Op.fieldAddr 47 (Operand.tmp 105) 2, type := 0, pos := "law.go:30", after := #[{ on := 57, ground := Ground.data }, { on := 54, ground := Ground.guard }], guard := some (54, false) }) rfl (by kernel_rfl) (fun _ _ _ h => h) (.inr ⟨by rfl, rfl⟩) hHeld ?rL0_58
                            refine tkA (i := 59) (v := undef) (oi := { dst := some 107, op := Op.load 38 (Operand.tmp 106), type := 38, pos := "law.go:30", after := #[{ on := 58, ground := Ground.data }, { on := 54, ground := Ground.guard }], guard := some (54, false) }) rfl (by kernel_rfl) (fun _ _ _ h => h) (.inr ⟨by rfl, rfl⟩) hHeld ?rL0_59
                            (try simp only [Act.put, List.setIfInBounds_toArray, List.set_cons_zero, List.set_cons_succ])
                            refine tkA (i := 60) (v := undef) (oi := { dst := some 108, op := Op.convert 38 9 (Operand.tmp 107), type := 9, pos := "law.go:30", after := #[{ on := 59, ground := Ground.data }, { on := 54, ground := Ground.guard }], guard := some (54, false) }) rfl (by kernel_rfl) (fun _ _ _ h => h) (.inr ⟨by rfl, rfl⟩) hHeld ?rL0_60
                            refine tkA (i := 61) (v := undef) (oi := { dst := some 109, op := Op.move (Operand.tmp 4), type := 41, pos := "law.go:30", after := #[{ on := 54, ground := Ground.guard }], guard := some (54, false) }) rfl (by kernel_rfl) (fun _ _ _ h => h) (.inr ⟨by rfl, rfl⟩) hHeld ?rL0_61
                            refine tkA (i := 62) (v := undef) (oi := { dst := some 110, op := Op.move (Operand.tmp 8), type := 3, pos := "law.go:30", after := #[{ on := 54, ground := Ground.guard }], guard := some (54, false) }) rfl (by kernel_rfl) (fun _ _ _ h => h) (.inr ⟨by rfl, rfl⟩) hHeld ?rL0_62
                            (try simp only [Act.put, List.setIfInBounds_toArray, List.set_cons_zero, List.set_cons_succ])
                            refine tkA (i := 63) (v := undef) (oi := { dst := some 111, op := Op.indexAddr 41 (Operand.tmp 109) (Operand.tmp 110), type := 0, pos := "law.go:30", after := #[{ on := 61, ground := Ground.data }, { on := 62, ground := Ground.data }, { on := 54, ground := Ground.guard }], guard := some (54, false) }) rfl (by kernel_rfl) (fun _ _ _ h => h) (.inr ⟨by rfl, rfl⟩) hHeld ?rL0_63
                            refine tkA (i := 64) (v := undef) (oi := { dst := some 112, op := Op.fieldAddr 49 (Operand.tmp 111) 2, type := 0, pos := "law.go:30", after := #[{ on := 63, ground := Ground.data }, { on := 54, ground := Ground.guard }], guard := some (54, false) }) rfl (by kernel_rfl) (fun _ _ _ h => h) (.inr ⟨by rfl, rfl⟩) hHeld ?rL0_64
                            refine tkA (i := 65) (v := undef) (oi := { dst := some 113, op := Op.load 38 (Operand.tmp 112), type := 38, pos := "law.go:30", after := #[{ on := 64, ground := Ground.data }, { on := 54, ground := Ground.guard }], guard := some (54, false) }) rfl (by kernel_rfl) (fun _ _ _ h => h) (.inr ⟨by rfl, rfl⟩) hHeld ?rL0_65
                            (try simp only [Act.put, List.setIfInBounds_toArray, List.set_cons_zero, List.set_cons_succ])
                            refine tkA (i := 66) (v := undef) (oi := { dst := some 114, op := Op.convert 38 9 (Operand.tmp 113), type := 9, pos := "law.go:30", after := #[{ on := 65, ground := Ground.data }, { on := 54, ground := Ground.guard }], guard := some (54, false) }) rfl (by kernel_rfl) (fun _ _ _ h => h) (.inr ⟨by rfl, rfl⟩) hHeld ?rL0_66
                            refine tkA (i := 67) (v := undef) (oi := { dst := some 115, op := Op.binOp BinOp.neq 9 (Operand.tmp 108) (Operand.tmp 114) 9, type := 4, pos := "law.go:30", after := #[{ on := 60, ground := Ground.data }, { on := 66, ground := Ground.data }, { on := 54, ground := Ground.guard }], guard := some (54, false) }) rfl (by kernel_rfl) (fun _ _ _ h => h) (.inr ⟨by rfl, rfl⟩) hHeld ?rL0_67
                            refine tkA (i := 68) (v := ?vL0_68) (oi := { dst := some 116, op := Op.pick (Operand.tmp 102) (Operand.const (Value.bool true)) (Operand.tmp 115), type := 4, pos := "law.go:30", after := #[{ on := 54, ground := Ground.data }, { on := 67, ground := Ground.data }], guard := none }) rfl (by kernel_rfl) (fun _ _ _ h => h) (.inl ⟨by rfl, ?yL0_68⟩) hHeld ?rL0_68; case yL0_68 => (intro w_ hSw; obtain ⟨n_, rfl⟩ := hSw.out; clear hSw; go_simp; try with_reducible rfl)
                            (try simp only [Act.put, List.setIfInBounds_toArray, List.set_cons_zero, List.set_cons_succ])
                            refine wpAnyH_done (by kernel_rfl) ?_ _
                            go_wp2
                            go_meet
                            case rel => exact ⟨_, (true), (by first | rfl | (simp; done) | (simp [*]; done)), H', ⟨by have := HJ7.out; have := HK2.out; first | omega | exact Nat.le_refl _⟩, ⟨by (with_reducible repeat (first | apply Kd.N_alloc | apply Kd.N_drewN | apply Kd.N_drew)); exact HO_3.out⟩, ⟨by (with_reducible repeat (first | apply Kd.N_alloc | apply Kd.N_drewN | apply Kd.N_drew)); exact HO_4.out⟩, ⟨by repeat (first | (with_reducible first | exact HB.out | apply below_alloc | apply pw_below_drewN | apply below_drew1) | exact HB.out)⟩⟩
                          · rw [if_neg c30] at H
                            have c30b0 : ((((rd_T47 t228 x8_2).f3) == 0) != ((rd_T49 t231 x8_2).f3)) = false := by simpa using c30
                            (try (have c30b1 : decide ((((rd_T47 t228 x8_2).f3) == 0) = ((rd_T49 t231 x8_2).f3)) = true := by simpa using c30))
                            (try (have c30b2 : ((((rd_T47 t228 x8_2).f3) == 0) == ((rd_T49 t231 x8_2).f3)) = true := by simpa using c30))
                            clear c30
                            by_cases c32 : ((rd_T47 t228 x8_2).f3) = 0
                            · rw [if_pos c32] at H
                              have c32b0 : (((rd_T47 t228 x8_2).f3) == 0) = true := beq_iff_eq.mpr c32
                              have c32b1 : (((rd_T47 t228 x8_2).f3) != 0) = false := bne_eq_false_iff_eq.mpr c32
                              have hr_ : ((rd_T49 t231 x8_2).f3) = true := by rw [c32b0] at c30b0; simpa using c30b0
                              clear c32
                              have H' := Aside0.mk H
                              clear H
                              obtain ⟨Ao33, co33, eo33⟩ := Kd.N_slice HO_3.out
                              subst eo33
                              have p239 : 0 ≤ (x8_2 : Int) := of_decide_eq_true (by first | (with_reducible assumption) | assumption)
                              have q239 : x8_2 < (t228.length : Int) := of_decide_eq_true (by first | (with_reducible assumption) | assumption)
                              obtain ⟨ad239, A239_2, c239_2, e239, hx239_0, hx239_1, hx239_2, hx239_3, hl239_2, hi239_2⟩ := at_T47 (Kd.N_reads' HO_3.out).2.2 x8_2 p239 q239
                              cases e239
                              obtain ⟨ce239, hce239, hMe239, hcc239⟩ := Kd.N_get HO_3.out z47 x8_2 p239 (by first | exact q239 | exact of_decide_eq_true (by first | (with_reducible assumption) | assumption) | (have e_ := (Kd.N_reads' HO_3.out).1; omega))
                              obtain ⟨ua239_2, uc239_2, rfl, ul239_2, ge239_2⟩ := k47_openF hMe239
                              have hv239_2 := hcc239 2 _ rfl
                              rw [add_field _ _ 2 (by omega)] at hv239_2
                              replace hv239_2 := Option.some.inj (hv239_2.symm.trans hx239_2)
                              injection hv239_2 with hva_ hvn_ hvc_
                              rw [hva_] at ge239_2
                              rw [hvc_] at ul239_2
                              have HL239_2 := Aside0.mk (show Kd.V (Kd.int .u8) 5 _ w.heap.size _ _ ((rd_T47 t228 x8_2).f2) from Kd.V_mk ul239_2 ge239_2)
                              clear hva_ hvn_ hvc_ ge239_2 ul239_2
                              clear hcc239 hce239
                              have HR239_2 := Aside0.mk hi239_2
                              have HC239_2 := Aside0.mk hl239_2
                              clear hi239_2 hl239_2
                              replace p239 := eq_true p239
                              replace q239 := eq_true q239
                              have p240 : 0 ≤ (x8_2 : Int) := of_decide_eq_true (by first | (with_reducible assumption) | assumption)
                              have q240 : x8_2 < (t231.length : Int) := of_decide_eq_true (by first | (with_reducible assumption) | assumption)
                              obtain ⟨ad240, A240_2, c240_2, e240, hx240_0, hx240_1, hx240_2, hx240_3, hl240_2, hi240_2⟩ := at_T49 (Kd.N_reads' HO_4.out).2.2 x8_2 p240 q240
                              cases e240
                              obtain ⟨ce240, hce240, hMe240, hcc240⟩ := Kd.N_get HO_4.out z49 x8_2 p240 (by first | exact q240 | exact of_decide_eq_true (by first | (with_reducible assumption) | assumption) | (have e_ := (Kd.N_reads' HO_4.out).1; omega))
                              obtain ⟨ua240_2, uc240_2, rfl, ul240_2, ge240_2⟩ := k49_openF hMe240
                              have hv240_2 := hcc240 2 _ rfl
                              rw [add_field _ _ 2 (by omega)] at hv240_2
                              replace hv240_2 := Option.some.inj (hv240_2.symm.trans hx240_2)
                              injection hv240_2 with hva_ hvn_ hvc_
                              rw [hva_] at ge240_2
                              rw [hvc_] at ul240_2
                              have HL240_2 := Aside0.mk (show Kd.V (Kd.int .u8) 5 _ w.heap.size _ _ ((rd_T49 t231 x8_2).f2) from Kd.V_mk ul240_2 ge240_2)
                              clear hva_ hvn_ hvc_ ge240_2 ul240_2
                              clear hcc240 hce240
                              have HR240_2 := Aside0.mk hi240_2
                              have HC240_2 := Aside0.mk hl240_2
                              clear hi240_2 hl240_2
                              replace p240 := eq_true p240
                              replace q240 := eq_true q240
                              have hcv34 := Kd.C_string (P := Try.prog) (A := A239_2) (c := c239_2) Try.underlying38 Try.underlying5 Try.underlying9 (by repeat (first | (with_reducible exact HR239_2.out) | (with_reducible refine Kd.C_alloc ?_ _) | (with_reducible refine Kd.C_drewN ?_ _) | (with_reducible refine Kd.C_drew ?_) | exact HR239_2.out))
                              have hcv35 := Kd.C_string (P := Try.prog) (A := A240_2) (c := c240_2) Try.underlying38 Try.underlying5 Try.underlying9 (by repeat (first | (with_reducible exact HR240_2.out) | (with_reducible refine Kd.C_alloc ?_ _) | (with_reducible refine Kd.C_drewN ?_ _) | (with_reducible refine Kd.C_drew ?_) | exact HR240_2.out))
                              go_wp2
                              refine wp_region_held_drew (S := fun w' : World => Drawn0 wr w') (by kernel_rfl) ⟨⟨1, rfl⟩⟩ (fun hHeld => ?_)
                              refine tkA (i := 0) (v := ?vL1_0) (oi := { dst := some 48, op := Op.move (Operand.tmp 3), type := 39, pos := "law.go:30", after := #[], guard := none }) rfl (by kernel_rfl) (fun _ _ _ h => h) (.inl ⟨by rfl, ?yL1_0⟩) hHeld ?rL1_0; case yL1_0 => (intro w_ hSw; obtain ⟨n_, rfl⟩ := hSw.out; clear hSw; go_simp; try with_reducible rfl)
                              refine tkA (i := 1) (v := ?vL1_1) (oi := { dst := some 49, op := Op.move (Operand.tmp 8), type := 3, pos := "law.go:30", after := #[], guard := none }) rfl (by kernel_rfl) (fun _ _ _ h => h) (.inl ⟨by rfl, ?yL1_1⟩) hHeld ?rL1_1; case yL1_1 => (intro w_ hSw; obtain ⟨n_, rfl⟩ := hSw.out; clear hSw; go_simp; try with_reducible rfl)
                              refine tkA (i := 2) (v := ?vL1_2) (oi := { dst := some 50, op := Op.indexAddr 39 (Operand.tmp 48) (Operand.tmp 49), type := 0, pos := "law.go:30", after := #[{ on := 0, ground := Ground.data }, { on := 1, ground := Ground.data }], guard := none }) rfl (by kernel_rfl) (fun _ _ _ h => h) (.inl ⟨by rfl, ?yL1_2⟩) hHeld ?rL1_2; case yL1_2 => (intro w_ hSw; obtain ⟨n_, rfl⟩ := hSw.out; clear hSw; go_simp; try with_reducible rfl)
                              (try simp only [Act.put, List.setIfInBounds_toArray, List.set_cons_zero, List.set_cons_succ])
                              refine tkA (i := 3) (v := ?vL1_3) (oi := { dst := some 51, op := Op.fieldAddr 47 (Operand.tmp 50) 0, type := 0, pos := "law.go:30", after := #[{ on := 2, ground := Ground.data }], guard := none }) rfl (by kernel_rfl) (fun _ _ _ h => h) (.inl ⟨by rfl, ?yL1_3⟩) hHeld ?rL1_3; case yL1_3 => (intro w_ hSw; obtain ⟨n_, rfl⟩ := hSw.out; clear hSw; go_simp; try with_reducible rfl)
                              refine tkA (i := 4) (v := ?vL1_4) (oi := { dst := some 52, op := Op.load 3 (Operand.tmp 51), type := 3, pos := "law.go:30", after := #[{ on := 3, ground := Ground.data }], guard := none }) rfl (by kernel_rfl) (fun _ _ _ h => h) (.inl ⟨by rfl, ?yL1_4⟩) hHeld ?rL1_4; case yL1_4 => (intro w_ hSw; obtain ⟨n_, rfl⟩ := hSw.out; clear hSw; go_simp; try with_reducible rfl)
                              refine tkA (i := 5) (v := ?vL1_5) (oi := { dst := some 53, op := Op.move (Operand.tmp 4), type := 41, pos := "law.go:30", after := #[], guard := none }) rfl (by kernel_rfl) (fun _ _ _ h => h) (.inl ⟨by rfl, ?yL1_5⟩) hHeld ?rL1_5; case yL1_5 => (intro w_ hSw; obtain ⟨n_, rfl⟩ := hSw.out; clear hSw; go_simp; try with_reducible rfl)
                              (try simp only [Act.put, List.setIfInBounds_toArray, List.set_cons_zero, List.set_cons_succ])
                              refine tkA (i := 6) (v := ?vL1_6) (oi := { dst := some 54, op := Op.move (Operand.tmp 8), type := 3, pos := "law.go:30", after := #[], guard := none }) rfl (by kernel_rfl) (fun _ _ _ h => h) (.inl ⟨by rfl, ?yL1_6⟩) hHeld ?rL1_6; case yL1_6 => (intro w_ hSw; obtain ⟨n_, rfl⟩ := hSw.out; clear hSw; go_simp; try with_reducible rfl)
                              refine tkA (i := 7) (v := ?vL1_7) (oi := { dst := some 55, op := Op.indexAddr 41 (Operand.tmp 53) (Operand.tmp 54), type := 0, pos := "law.go:30", after := #[{ on := 5, ground := Ground.data }, { on := 6, ground := Ground.data }], guard := none }) rfl (by kernel_rfl) (fun _ _ _ h => h) (.inl ⟨by rfl, ?yL1_7⟩) hHeld ?rL1_7; case yL1_7 => (intro w_ hSw; obtain ⟨n_, rfl⟩ := hSw.out; clear hSw; go_simp; try with_reducible rfl)
                              refine tkA (i := 8) (v := ?vL1_8) (oi := { dst := some 56, op := Op.fieldAddr 49 (Operand.tmp 55) 0, type := 0, pos := "law.go:30", after := #[{ on := 7, ground := Ground.data }], guard := none }) rfl (by kernel_rfl) (fun _ _ _ h => h) (.inl ⟨by rfl, ?yL1_8⟩) hHeld ?rL1_8; case yL1_8 => (intro w_ hSw; obtain ⟨n_, rfl⟩ := hSw.out; clear hSw; go_simp; try with_reducible rfl)
                              (try simp only [Act.put, List.setIfInBounds_toArray, List.set_cons_zero, List.set_cons_succ])
                              refine tkA (i := 9) (v := ?vL1_9) (oi := { dst := some 57, op := Op.load 3 (Operand.tmp 56), type := 3, pos := "law.go:30", after := #[{ on := 8, ground := Ground.data }], guard := none }) rfl (by kernel_rfl) (fun _ _ _ h => h) (.inl ⟨by rfl, ?yL1_9⟩) hHeld ?rL1_9; case yL1_9 => (intro w_ hSw; obtain ⟨n_, rfl⟩ := hSw.out; clear hSw; go_simp; try with_reducible rfl)
                              refine tkA (i := 10) (v := ?vL1_10) (oi := { dst := some 58, op := Op.binOp BinOp.neq 3 (Operand.tmp 52) (Operand.tmp 57) 3, type := 4, pos := "law.go:30", after := #[{ on := 4, ground := Ground.data }, { on := 9, ground := Ground.data }], guard := none }) rfl (by kernel_rfl) (fun _ _ _ h => h) (.inl ⟨by rfl, ?yL1_10⟩) hHeld ?rL1_10; case yL1_10 => (intro w_ hSw; obtain ⟨n_, rfl⟩ := hSw.out; clear hSw; go_simp; try with_reducible rfl)
                              refine tkA (i := 11) (v := ?vL1_11) (oi := { dst := some 59, op := Op.move (Operand.tmp 58), type := 4, pos := "law.go:30", after := #[{ on := 10, ground := Ground.data }], guard := none }) rfl (by kernel_rfl) (fun _ _ _ h => h) (.inl ⟨by rfl, ?yL1_11⟩) hHeld ?rL1_11; case yL1_11 => (intro w_ hSw; obtain ⟨n_, rfl⟩ := hSw.out; clear hSw; go_simp; try with_reducible rfl)
                              (try simp only [Act.put, List.setIfInBounds_toArray, List.set_cons_zero, List.set_cons_succ])
                              refine tkA (i := 12) (v := ?vL1_12) (oi := { dst := some 60, op := Op.move (Operand.tmp 3), type := 39, pos := "law.go:30", after := #[{ on := 11, ground := Ground.guard }], guard := some (11, false) }) rfl (by kernel_rfl) (fun _ _ _ h => h) (.inl ⟨by rfl, ?yL1_12⟩) hHeld ?rL1_12; case yL1_12 => (intro w_ hSw; obtain ⟨n_, rfl⟩ := hSw.out; clear hSw; go_simp; try with_reducible rfl)
                              refine tkA (i := 13) (v := ?vL1_13) (oi := { dst := some 61, op := Op.move (Operand.tmp 8), type := 3, pos := "law.go:30", after := #[{ on := 11, ground := Ground.guard }], guard := some (11, false) }) rfl (by kernel_rfl) (fun _ _ _ h => h) (.inl ⟨by rfl, ?yL1_13⟩) hHeld ?rL1_13; case yL1_13 => (intro w_ hSw; obtain ⟨n_, rfl⟩ := hSw.out; clear hSw; go_simp; try with_reducible rfl)
                              refine tkA (i := 14) (v := ?vL1_14) (oi := { dst := some 62, op := Op.indexAddr 39 (Operand.tmp 60) (Operand.tmp 61), type := 0, pos := "law.go:30", after := #[{ on := 12, ground := Ground.data }, { on := 13, ground := Ground.data }, { on := 11, ground := Ground.guard }], guard := some (11, false) }) rfl (by kernel_rfl) (fun _ _ _ h => h) (.inl ⟨by rfl, ?yL1_14⟩) hHeld ?rL1_14; case yL1_14 => (intro w_ hSw; obtain ⟨n_, rfl⟩ := hSw.out; clear hSw; go_simp; try with_reducible rfl)
                              (try simp only [Act.put, List.setIfInBounds_toArray, List.set_cons_zero, List.set_cons_succ])
                              refine tkA (i := 15) (v := ?vL1_15) (oi := { dst := some 63, op := Op.fieldAddr 47 (Operand.tmp 62) 1, type := 0, pos := "law.go:30", after := #[{ on := 14, ground := Ground.data }, { on := 11, ground := Ground.guard }], guard := some (11, false) }) rfl (by kernel_rfl) (fun _ _ _ h => h) (.inl ⟨by rfl, ?yL1_15⟩) hHeld ?rL1_15; case yL1_15 => (intro w_ hSw; obtain ⟨n_, rfl⟩ := hSw.out; clear hSw; go_simp; try with_reducible rfl)
                              refine tkA (i := 16) (v := ?vL1_16) (oi := { dst := some 64, op := Op.load 3 (Operand.tmp 63), type := 3, pos := "law.go:30", after := #[{ on := 15, ground := Ground.data }, { on := 11, ground := Ground.guard }], guard := some (11, false) }) rfl (by kernel_rfl) (fun _ _ _ h => h) (.inl ⟨by rfl, ?yL1_16⟩) hHeld ?rL1_16; case yL1_16 => (intro w_ hSw; obtain ⟨n_, rfl⟩ := hSw.out; clear hSw; go_simp; try with_reducible rfl)
                              refine tkA (i := 17) (v := ?vL1_17) (oi := { dst := some 65, op := Op.move (Operand.tmp 4), type := 41, pos := "law.go:30", after := #[{ on := 11, ground := Ground.guard }], guard := some (11, false) }) rfl (by kernel_rfl) (fun _ _ _ h => h) (.inl ⟨by rfl, ?yL1_17⟩) hHeld ?rL1_17; case yL1_17 => (intro w_ hSw; obtain ⟨n_, rfl⟩ := hSw.out; clear hSw; go_simp; try with_reducible rfl)
                              (try simp only [Act.put, List.setIfInBounds_toArray, List.set_cons_zero, List.set_cons_succ])
                              refine tkA (i := 18) (v := ?vL1_18) (oi := { dst := some 66, op := Op.move (Operand.tmp 8), type := 3, pos := "law.go:30", after := #[{ on := 11, ground := Ground.guard }], guard := some (11, false) }) rfl (by kernel_rfl) (fun _ _ _ h => h) (.inl ⟨by rfl, ?yL1_18⟩) hHeld ?rL1_18; case yL1_18 => (intro w_ hSw; obtain ⟨n_, rfl⟩ := hSw.out; clear hSw; go_simp; try with_reducible rfl)
                              refine tkA (i := 19) (v := ?vL1_19) (oi := { dst := some 67, op := Op.indexAddr 41 (Operand.tmp 65) (Operand.tmp 66), type := 0, pos := "law.go:30", after := #[{ on := 17, ground := Ground.data }, { on := 18, ground := Ground.data }, { on := 11, ground := Ground.guard }], guard := some (11, false) }) rfl (by kernel_rfl) (fun _ _ _ h => h) (.inl ⟨by rfl, ?yL1_19⟩) hHeld ?rL1_19; case yL1_19 => (intro w_ hSw; obtain ⟨n_, rfl⟩ := hSw.out; clear hSw; go_simp; try with_reducible rfl)
                              refine tkA (i := 20) (v := ?vL1_20) (oi := { dst := some 68, op := Op.fieldAddr 49 (Operand.tmp 67) 1, type := 0, pos := "law.go:30", after := #[{ on := 19, ground := Ground.data }, { on := 11, ground := Ground.guard }], guard := some (11, false) }) rfl (by kernel_rfl) (fun _ _ _ h => h) (.inl ⟨by rfl, ?yL1_20⟩) hHeld ?rL1_20; case yL1_20 => (intro w_ hSw; obtain ⟨n_, rfl⟩ := hSw.out; clear hSw; go_simp; try with_reducible rfl)
                              (try simp only [Act.put, List.setIfInBounds_toArray, List.set_cons_zero, List.set_cons_succ])
                              refine tkA (i := 21) (v := ?vL1_21) (oi := { dst := some 69, op := Op.load 3 (Operand.tmp 68), type := 3, pos := "law.go:30", after := #[{ on := 20, ground := Ground.data }, { on := 11, ground := Ground.guard }], guard := some (11, false) }) rfl (by kernel_rfl) (fun _ _ _ h => h) (.inl ⟨by rfl, ?yL1_21⟩) hHeld ?rL1_21; case yL1_21 => (intro w_ hSw; obtain ⟨n_, rfl⟩ := hSw.out; clear hSw; go_simp; try with_reducible rfl)
                              refine tkA (i := 22) (v := ?vL1_22) (oi := { dst := some 70, op := Op.binOp BinOp.neq 3 (Operand.tmp 64) (Operand.tmp 69) 3, type := 4, pos := "law.go:30", after := #[{ on := 16, ground := Ground.data }, { on := 21, ground := Ground.data }, { on := 11, ground := Ground.guard }], guard := some (11, false) }) rfl (by kernel_rfl) (fun _ _ _ h => h) (.inl ⟨by rfl, ?yL1_22⟩) hHeld ?rL1_22; case yL1_22 => (intro w_ hSw; obtain ⟨n_, rfl⟩ := hSw.out; clear hSw; go_simp; try with_reducible rfl)
                              refine tkA (i := 23) (v := ?vL1_23) (oi := { dst := some 71, op := Op.pick (Operand.tmp 59) (Operand.const (Value.bool true)) (Operand.tmp 70), type := 4, pos := "law.go:30", after := #[{ on := 11, ground := Ground.data }, { on := 22, ground := Ground.data }], guard := none }) rfl (by kernel_rfl) (fun _ _ _ h => h) (.inl ⟨by rfl, ?yL1_23⟩) hHeld ?rL1_23; case yL1_23 => (intro w_ hSw; obtain ⟨n_, rfl⟩ := hSw.out; clear hSw; go_simp; try with_reducible rfl)
                              (try simp only [Act.put, List.setIfInBounds_toArray, List.set_cons_zero, List.set_cons_succ])
                              refine tkA (i := 24) (v := ?vL1_24) (oi := { dst := some 72, op := Op.move (Operand.tmp 71), type := 4, pos := "law.go:30", after := #[{ on := 23, ground := Ground.data }, { on := 11, ground := Ground.chain }], guard := none }) rfl (by kernel_rfl) (fun _ _ _ h => h) (.inl ⟨by rfl, ?yL1_24⟩) hHeld ?rL1_24; case yL1_24 => (intro w_ hSw; obtain ⟨n_, rfl⟩ := hSw.out; clear hSw; go_simp; try with_reducible rfl)
                              refine tkA (i := 25) (v := ?vL1_25) (oi := { dst := some 73, op := Op.move (Operand.tmp 3), type := 39, pos := "law.go:30", after := #[{ on := 24, ground := Ground.guard }], guard := some (24, false) }) rfl (by kernel_rfl) (fun _ _ _ h => h) (.inl ⟨by rfl, ?yL1_25⟩) hHeld ?rL1_25; case yL1_25 => (intro w_ hSw; obtain ⟨n_, rfl⟩ := hSw.out; clear hSw; go_simp; try with_reducible rfl)
                              refine tkA (i := 26) (v := ?vL1_26) (oi := { dst := some 74, op := Op.move (Operand.tmp 8), type := 3, pos := "law.go:30", after := #[{ on := 24, ground := Ground.guard }], guard := some (24, false) }) rfl (by kernel_rfl) (fun _ _ _ h => h) (.inl ⟨by rfl, ?yL1_26⟩) hHeld ?rL1_26; case yL1_26 => (intro w_ hSw; obtain ⟨n_, rfl⟩ := hSw.out; clear hSw; go_simp; try with_reducible rfl)
                              (try simp only [Act.put, List.setIfInBounds_toArray, List.set_cons_zero, List.set_cons_succ])
                              refine tkA (i := 27) (v := ?vL1_27) (oi := { dst := some 75, op := Op.indexAddr 39 (Operand.tmp 73) (Operand.tmp 74), type := 0, pos := "law.go:30", after := #[{ on := 25, ground := Ground.data }, { on := 26, ground := Ground.data }, { on := 24, ground := Ground.guard }], guard := some (24, false) }) rfl (by kernel_rfl) (fun _ _ _ h => h) (.inl ⟨by rfl, ?yL1_27⟩) hHeld ?rL1_27; case yL1_27 => (intro w_ hSw; obtain ⟨n_, rfl⟩ := hSw.out; clear hSw; go_simp; try with_reducible rfl)
                              refine tkA (i := 28) (v := ?vL1_28) (oi := { dst := some 76, op := Op.fieldAddr 47 (Operand.tmp 75) 3, type := 0, pos := "law.go:30", after := #[{ on := 27, ground := Ground.data }, { on := 24, ground := Ground.guard }], guard := some (24, false) }) rfl (by kernel_rfl) (fun _ _ _ h => h) (.inl ⟨by rfl, ?yL1_28⟩) hHeld ?rL1_28; case yL1_28 => (intro w_ hSw; obtain ⟨n_, rfl⟩ := hSw.out; clear hSw; go_simp; try with_reducible rfl)
                              refine tkA (i := 29) (v := ?vL1_29) (oi := { dst := some 77, op := Op.load 24 (Operand.tmp 76), type := 24, pos := "law.go:30", after := #[{ on := 28, ground := Ground.data }, { on := 24, ground := Ground.guard }], guard := some (24, false) }) rfl (by kernel_rfl) (fun _ _ _ h => h) (.inl ⟨by rfl, ?yL1_29⟩) hHeld ?rL1_29; case yL1_29 => (intro w_ hSw; obtain ⟨n_, rfl⟩ := hSw.out; clear hSw; go_simp; try with_reducible rfl)
                              (try simp only [Act.put, List.setIfInBounds_toArray, List.set_cons_zero, List.set_cons_succ])
                              refine tkA (i := 30) (v := ?vL1_30) (oi := { dst := some 78, op := Op.binOp BinOp.eql 24 (Operand.tmp 77) (Operand.const (Value.int IntKind.i64 0)) 24, type := 4, pos := "law.go:30", after := #[{ on := 29, ground := Ground.data }, { on := 24, ground := Ground.guard }], guard := some (24, false) }) rfl (by kernel_rfl) (fun _ _ _ h => h) (.inl ⟨by rfl, ?yL1_30⟩) hHeld ?rL1_30; case yL1_30 => (intro w_ hSw; obtain ⟨n_, rfl⟩ := hSw.out; clear hSw; go_simp; try with_reducible rfl)
                              refine tkA (i := 31) (v := ?vL1_31) (oi := { dst := some 79, op := Op.move (Operand.tmp 4), type := 41, pos := "law.go:30", after := #[{ on := 24, ground := Ground.guard }], guard := some (24, false) }) rfl (by kernel_rfl) (fun _ _ _ h => h) (.inl ⟨by rfl, ?yL1_31⟩) hHeld ?rL1_31; case yL1_31 => (intro w_ hSw; obtain ⟨n_, rfl⟩ := hSw.out; clear hSw; go_simp; try with_reducible rfl)
                              refine tkA (i := 32) (v := ?vL1_32) (oi := { dst := some 80, op := Op.move (Operand.tmp 8), type := 3, pos := "law.go:30", after := #[{ on := 24, ground := Ground.guard }], guard := some (24, false) }) rfl (by kernel_rfl) (fun _ _ _ h => h) (.inl ⟨by rfl, ?yL1_32⟩) hHeld ?rL1_32; case yL1_32 => (intro w_ hSw; obtain ⟨n_, rfl⟩ := hSw.out; clear hSw; go_simp; try with_reducible rfl)
                              (try simp only [Act.put, List.setIfInBounds_toArray, List.set_cons_zero, List.set_cons_succ])
                              refine tkA (i := 33) (v := ?vL1_33) (oi := { dst := some 81, op := Op.indexAddr 41 (Operand.tmp 79) (Operand.tmp 80), type := 0, pos := "law.go:30", after := #[{ on := 31, ground := Ground.data }, { on := 32, ground := Ground.data }, { on := 24, ground := Ground.guard }], guard := some (24, false) }) rfl (by kernel_rfl) (fun _ _ _ h => h) (.inl ⟨by rfl, ?yL1_33⟩) hHeld ?rL1_33; case yL1_33 => (intro w_ hSw; obtain ⟨n_, rfl⟩ := hSw.out; clear hSw; go_simp; try with_reducible rfl)
                              refine tkA (i := 34) (v := ?vL1_34) (oi := { dst := some 82, op := Op.fieldAddr 49 (Operand.tmp 81) 3, type := 0, pos := "law.go:30", after := #[{ on := 33, ground := Ground.data }, { on := 24, ground := Ground.guard }], guard := some (24, false) }) rfl (by kernel_rfl) (fun _ _ _ h => h) (.inl ⟨by rfl, ?yL1_34⟩) hHeld ?rL1_34; case yL1_34 => (intro w_ hSw; obtain ⟨n_, rfl⟩ := hSw.out; clear hSw; go_simp; try with_reducible rfl)
                              refine tkA (i := 35) (v := ?vL1_35) (oi := { dst := some 83, op := Op.load 4 (Operand.tmp 82), type := 4, pos := "law.go:30", after := #[{ on := 34, ground := Ground.data }, { on := 24, ground := Ground.guard }], guard := some (24, false) }) rfl (by kernel_rfl) (fun _ _ _ h => h) (.inl ⟨by rfl, ?yL1_35⟩) hHeld ?rL1_35; case yL1_35 => (intro w_ hSw; obtain ⟨n_, rfl⟩ := hSw.out; clear hSw; go_simp; try with_reducible rfl)
                              (try simp only [Act.put, List.setIfInBounds_toArray, List.set_cons_zero, List.set_cons_succ])
                              refine tkA (i := 36) (v := ?vL1_36) (oi := { dst := some 84, op := Op.binOp BinOp.neq 4 (Operand.tmp 78) (Operand.tmp 83) 4, type := 4, pos := "law.go:30", after := #[{ on := 30, ground := Ground.data }, { on := 35, ground := Ground.data }, { on := 24, ground := Ground.guard }], guard := some (24, false) }) rfl (by kernel_rfl) (fun _ _ _ h => h) (.inl ⟨by rfl, ?yL1_36⟩) hHeld ?rL1_36; case yL1_36 => (intro w_ hSw; obtain ⟨n_, rfl⟩ := hSw.out; clear hSw; go_simp; try with_reducible rfl)
                              refine tkA (i := 37) (v := ?vL1_37) (oi := { dst := some 85, op := Op.pick (Operand.tmp 72) (Operand.const (Value.bool true)) (Operand.tmp 84), type := 4, pos := "law.go:30", after := #[{ on := 24, ground := Ground.data }, { on := 36, ground := Ground.data }], guard := none }) rfl (by kernel_rfl) (fun _ _ _ h => h) (.inl ⟨by rfl, ?yL1_37⟩) hHeld ?rL1_37; case yL1_37 => (intro w_ hSw; obtain ⟨n_, rfl⟩ := hSw.out; clear hSw; go_simp; try with_reducible rfl)
                              refine tkA (i := 38) (v := ?vL1_38) (oi := { dst := some 86, op := Op.move (Operand.tmp 85), type := 4, pos := "law.go:30", after := #[{ on := 37, ground := Ground.data }, { on := 24, ground := Ground.chain }], guard := none }) rfl (by kernel_rfl) (fun _ _ _ h => h) (.inl ⟨by rfl, ?yL1_38⟩) hHeld ?rL1_38; case yL1_38 => (intro w_ hSw; obtain ⟨n_, rfl⟩ := hSw.out; clear hSw; go_simp; try with_reducible rfl)
                              (try simp only [Act.put, List.setIfInBounds_toArray, List.set_cons_zero, List.set_cons_succ])
                              refine tkA (i := 39) (v := ?vL1_39) (oi := { dst := some 87, op := Op.move (Operand.tmp 3), type := 39, pos := "law.go:30", after := #[{ on := 38, ground := Ground.guard }], guard := some (38, false) }) rfl (by kernel_rfl) (fun _ _ _ h => h) (.inl ⟨by rfl, ?yL1_39⟩) hHeld ?rL1_39; case yL1_39 => (intro w_ hSw; obtain ⟨n_, rfl⟩ := hSw.out; clear hSw; go_simp; try with_reducible rfl)
                              refine tkA (i := 40) (v := ?vL1_40) (oi := { dst := some 88, op := Op.move (Operand.tmp 8), type := 3, pos := "law.go:30", after := #[{ on := 38, ground := Ground.guard }], guard := some (38, false) }) rfl (by kernel_rfl) (fun _ _ _ h => h) (.inl ⟨by rfl, ?yL1_40⟩) hHeld ?rL1_40; case yL1_40 => (intro w_ hSw; obtain ⟨n_, rfl⟩ := hSw.out; clear hSw; go_simp; try with_reducible rfl)
                              refine tkA (i := 41) (v := ?vL1_41) (oi := { dst := some 89, op := Op.indexAddr 39 (Operand.tmp 87) (Operand.tmp 88), type := 0, pos := "law.go:30", after := #[{ on := 39, ground := Ground.data }, { on := 40, ground := Ground.data }, { on := 38, ground := Ground.guard }], guard := some (38, false) }) rfl (by kernel_rfl) (fun _ _ _ h => h) (.inl ⟨by rfl, ?yL1_41⟩) hHeld ?rL1_41; case yL1_41 => (intro w_ hSw; obtain ⟨n_, rfl⟩ := hSw.out; clear hSw; go_simp; try with_reducible rfl)
                              (try simp only [Act.put, List.setIfInBounds_toArray, List.set_cons_zero, List.set_cons_succ])
                              refine tkA (i := 42) (v := ?vL1_42) (oi := { dst := some 90, op := Op.fieldAddr 47 (Operand.tmp 89) 3, type := 0, pos := "law.go:30", after := #[{ on := 41, ground := Ground.data }, { on := 38, ground := Ground.guard }], guard := some (38, false) }) rfl (by kernel_rfl) (fun _ _ _ h => h) (.inl ⟨by rfl, ?yL1_42⟩) hHeld ?rL1_42; case yL1_42 => (intro w_ hSw; obtain ⟨n_, rfl⟩ := hSw.out; clear hSw; go_simp; try with_reducible rfl)
                              refine tkA (i := 43) (v := ?vL1_43) (oi := { dst := some 91, op := Op.load 24 (Operand.tmp 90), type := 24, pos := "law.go:30", after := #[{ on := 42, ground := Ground.data }, { on := 38, ground := Ground.guard }], guard := some (38, false) }) rfl (by kernel_rfl) (fun _ _ _ h => h) (.inl ⟨by rfl, ?yL1_43⟩) hHeld ?rL1_43; case yL1_43 => (intro w_ hSw; obtain ⟨n_, rfl⟩ := hSw.out; clear hSw; go_simp; try with_reducible rfl)
                              refine tkA (i := 44) (v := ?vL1_44) (oi := { dst := some 92, op := Op.binOp BinOp.neq 24 (Operand.tmp 91) (Operand.const (Value.int IntKind.i64 0)) 24, type := 4, pos := "law.go:30", after := #[{ on := 43, ground := Ground.data }, { on := 38, ground := Ground.guard }], guard := some (38, false) }) rfl (by kernel_rfl) (fun _ _ _ h => h) (.inl ⟨by rfl, ?yL1_44⟩) hHeld ?rL1_44; case yL1_44 => (intro w_ hSw; obtain ⟨n_, rfl⟩ := hSw.out; clear hSw; go_simp; try with_reducible rfl)
                              (try simp only [Act.put, List.setIfInBounds_toArray, List.set_cons_zero, List.set_cons_succ])
                              refine tkA (i := 45) (v := ?vL1_45) (oi := { dst := some 93, op := Op.move (Operand.tmp 92), type := 4, pos := "law.go:30", after := #[{ on := 44, ground := Ground.data }, { on := 38, ground := Ground.chain }, { on := 38, ground := Ground.guard }], guard := some (38, false) }) rfl (by kernel_rfl) (fun _ _ _ h => h) (.inl ⟨by rfl, ?yL1_45⟩) hHeld ?rL1_45; case yL1_45 => (intro w_ hSw; obtain ⟨n_, rfl⟩ := hSw.out; clear hSw; go_simp; try with_reducible rfl)
                              refine tkA (i := 46) (v := undef) (oi := { dst := some 94, op := Op.move (Operand.tmp 3), type := 39, pos := "law.go:30", after := #[{ on := 45, ground := Ground.guard }], guard := some (45, true) }) rfl (by kernel_rfl) (fun _ _ _ h => h) (.inr ⟨by rfl, rfl⟩) hHeld ?rL1_46
                              refine tkA (i := 47) (v := undef) (oi := { dst := some 95, op := Op.move (Operand.tmp 8), type := 3, pos := "law.go:30", after := #[{ on := 45, ground := Ground.guard }], guard := some (45, true) }) rfl (by kernel_rfl) (fun _ _ _ h => h) (.inr ⟨by rfl, rfl⟩) hHeld ?rL1_47
                              (try simp only [Act.put, List.setIfInBounds_toArray, List.set_cons_zero, List.set_cons_succ])
                              refine tkA (i := 48) (v := undef) (oi := { dst := some 96, op := Op.indexAddr 39 (Operand.tmp 94) (Operand.tmp 95), type := 0, pos := "law.go:30", after := #[{ on := 46, ground := Ground.data }, { on := 47, ground := Ground.data }, { on := 45, ground := Ground.guard }], guard := some (45, true) }) rfl (by kernel_rfl) (fun _ _ _ h => h) (.inr ⟨by rfl, rfl⟩) hHeld ?rL1_48
                              refine tkA (i := 49) (v := undef) (oi := { dst := some 97, op := Op.fieldAddr 47 (Operand.tmp 96) 3, type := 0, pos := "law.go:30", after := #[{ on := 48, ground := Ground.data }, { on := 45, ground := Ground.guard }], guard := some (45, true) }) rfl (by kernel_rfl) (fun _ _ _ h => h) (.inr ⟨by rfl, rfl⟩) hHeld ?rL1_49
                              refine tkA (i := 50) (v := undef) (oi := { dst := some 98, op := Op.load 24 (Operand.tmp 97), type := 24, pos := "law.go:30", after := #[{ on := 49, ground := Ground.data }, { on := 45, ground := Ground.guard }], guard := some (45, true) }) rfl (by kernel_rfl) (fun _ _ _ h => h) (.inr ⟨by rfl, rfl⟩) hHeld ?rL1_50
                              (try simp only [Act.put, List.setIfInBounds_toArray, List.set_cons_zero, List.set_cons_succ])
                              refine tkA (i := 51) (v := undef) (oi := { dst := some 99, op := Op.binOp BinOp.neq 24 (Operand.tmp 98) (Operand.const (Value.int IntKind.i64 3)) 24, type := 4, pos := "law.go:30", after := #[{ on := 50, ground := Ground.data }, { on := 45, ground := Ground.guard }], guard := some (45, true) }) rfl (by kernel_rfl) (fun _ _ _ h => h) (.inr ⟨by rfl, rfl⟩) hHeld ?rL1_51
                              refine tkA (i := 52) (v := ?vL1_52) (oi := { dst := some 100, op := Op.pick (Operand.tmp 93) (Operand.tmp 99) (Operand.const (Value.bool false)), type := 4, pos := "law.go:30", after := #[{ on := 45, ground := Ground.data }, { on := 51, ground := Ground.data }, { on := 38, ground := Ground.guard }], guard := some (38, false) }) rfl (by kernel_rfl) (fun _ _ _ h => h) (.inl ⟨by rfl, ?yL1_52⟩) hHeld ?rL1_52; case yL1_52 => (intro w_ hSw; obtain ⟨n_, rfl⟩ := hSw.out; clear hSw; go_simp; try with_reducible rfl)
                              refine tkA (i := 53) (v := ?vL1_53) (oi := { dst := some 101, op := Op.pick (Operand.tmp 86) (Operand.const (Value.bool true)) (Operand.tmp 100), type := 4, pos := "law.go:30", after := #[{ on := 38, ground := Ground.data }, { on := 52, ground := Ground.data }], guard := none }) rfl (by kernel_rfl) (fun _ _ _ h => h) (.inl ⟨by rfl, ?yL1_53⟩) hHeld ?rL1_53; case yL1_53 => (intro w_ hSw; obtain ⟨n_, rfl⟩ := hSw.out; clear hSw; go_simp; try with_reducible rfl)
                              (try simp only [Act.put, List.setIfInBounds_toArray, List.set_cons_zero, List.set_cons_succ])
                              refine tkA (i := 54) (v := ?vL1_54) (oi := { dst := some 102, op := Op.move (Operand.tmp 101), type := 4, pos := "law.go:30", after := #[{ on := 53, ground := Ground.data }, { on := 45, ground := Ground.chain }], guard := none }) rfl (by kernel_rfl) (fun _ _ _ h => h) (.inl ⟨by rfl, ?yL1_54⟩) hHeld ?rL1_54; case yL1_54 => (intro w_ hSw; obtain ⟨n_, rfl⟩ := hSw.out; clear hSw; go_simp; try with_reducible rfl)
                              refine tkA (i := 55) (v := ?vL1_55) (oi := { dst := some 103, op := Op.move (Operand.tmp 3), type := 39, pos := "law.go:30", after := #[{ on := 54, ground := Ground.guard }], guard := some (54, false) }) rfl (by kernel_rfl) (fun _ _ _ h => h) (.inl ⟨by rfl, ?yL1_55⟩) hHeld ?rL1_55; case yL1_55 => (intro w_ hSw; obtain ⟨n_, rfl⟩ := hSw.out; clear hSw; go_simp; try with_reducible rfl)
                              refine tkA (i := 56) (v := ?vL1_56) (oi := { dst := some 104, op := Op.move (Operand.tmp 8), type := 3, pos := "law.go:30", after := #[{ on := 54, ground := Ground.guard }], guard := some (54, false) }) rfl (by kernel_rfl) (fun _ _ _ h => h) (.inl ⟨by rfl, ?yL1_56⟩) hHeld ?rL1_56; case yL1_56 => (intro w_ hSw; obtain ⟨n_, rfl⟩ := hSw.out; clear hSw; go_simp; try with_reducible rfl)
                              (try simp only [Act.put, List.setIfInBounds_toArray, List.set_cons_zero, List.set_cons_succ])
                              refine tkA (i := 57) (v := ?vL1_57) (oi := { dst := some 105, op := Op.indexAddr 39 (Operand.tmp 103) (Operand.tmp 104), type := 0, pos := "law.go:30", after := #[{ on := 55, ground := Ground.data }, { on := 56, ground := Ground.data }, { on := 54, ground := Ground.guard }], guard := some (54, false) }) rfl (by kernel_rfl) (fun _ _ _ h => h) (.inl ⟨by rfl, ?yL1_57⟩) hHeld ?rL1_57; case yL1_57 => (intro w_ hSw; obtain ⟨n_, rfl⟩ := hSw.out; clear hSw; go_simp; try with_reducible rfl)
                              refine tkA (i := 58) (v := ?vL1_58) (oi := { dst := some 106, op := Op.fieldAddr 47 (Operand.tmp 105) 2, type := 0, pos := "law.go:30", after := #[{ on := 57, ground := Ground.data }, { on := 54, ground := Ground.guard }], guard := some (54, false) }) rfl (by kernel_rfl) (fun _ _ _ h => h) (.inl ⟨by rfl, ?yL1_58⟩) hHeld ?rL1_58; case yL1_58 => (intro w_ hSw; obtain ⟨n_, rfl⟩ := hSw.out; clear hSw; go_simp; try with_reducible rfl)
                              refine tkA (i := 59) (v := ?vL1_59) (oi := { dst := some 107, op := Op.load 38 (Operand.tmp 106), type := 38, pos := "law.go:30", after := #[{ on := 58, ground := Ground.data }, { on := 54, ground := Ground.guard }], guard := some (54, false) }) rfl (by kernel_rfl) (fun _ _ _ h => h) (.inl ⟨by rfl, ?yL1_59⟩) hHeld ?rL1_59; case yL1_59 => (intro w_ hSw; obtain ⟨n_, rfl⟩ := hSw.out; clear hSw; go_simp; try with_reducible rfl)
                              (try simp only [Act.put, List.setIfInBounds_toArray, List.set_cons_zero, List.set_cons_succ])
                              refine tkA (i := 60) (v := ?vL1_60) (oi := { dst := some 108, op := Op.convert 38 9 (Operand.tmp 107), type := 9, pos := "law.go:30", after := #[{ on := 59, ground := Ground.data }, { on := 54, ground := Ground.guard }], guard := some (54, false) }) rfl (by kernel_rfl) (fun _ _ _ h => h) (.inl ⟨by rfl, ?yL1_60⟩) hHeld ?rL1_60; case yL1_60 => (intro w_ hSw; obtain ⟨n_, rfl⟩ := hSw.out; clear hSw; have hcv_ := Kd.C_string (P := Try.prog) (A := A239_2) (c := c239_2) Try.underlying38 Try.underlying5 Try.underlying9 (Kd.C_drewN HR239_2.out n_); go_simp; try with_reducible rfl)
                              refine tkA (i := 61) (v := ?vL1_61) (oi := { dst := some 109, op := Op.move (Operand.tmp 4), type := 41, pos := "law.go:30", after := #[{ on := 54, ground := Ground.guard }], guard := some (54, false) }) rfl (by kernel_rfl) (fun _ _ _ h => h) (.inl ⟨by rfl, ?yL1_61⟩) hHeld ?rL1_61; case yL1_61 => (intro w_ hSw; obtain ⟨n_, rfl⟩ := hSw.out; clear hSw; go_simp; try with_reducible rfl)
                              refine tkA (i := 62) (v := ?vL1_62) (oi := { dst := some 110, op := Op.move (Operand.tmp 8), type := 3, pos := "law.go:30", after := #[{ on := 54, ground := Ground.guard }], guard := some (54, false) }) rfl (by kernel_rfl) (fun _ _ _ h => h) (.inl ⟨by rfl, ?yL1_62⟩) hHeld ?rL1_62; case yL1_62 => (intro w_ hSw; obtain ⟨n_, rfl⟩ := hSw.out; clear hSw; go_simp; try with_reducible rfl)
                              (try simp only [Act.put, List.setIfInBounds_toArray, List.set_cons_zero, List.set_cons_succ])
                              refine tkA (i := 63) (v := ?vL1_63) (oi := { dst := some 111, op := Op.indexAddr 41 (Operand.tmp 109) (Operand.tmp 110), type := 0, pos := "law.go:30", after := #[{ on := 61, ground := Ground.data }, { on := 62, ground := Ground.data }, { on := 54, ground := Ground.guard }], guard := some (54, false) }) rfl (by kernel_rfl) (fun _ _ _ h => h) (.inl ⟨by rfl, ?yL1_63⟩) hHeld ?rL1_63; case yL1_63 => (intro w_ hSw; obtain ⟨n_, rfl⟩ := hSw.out; clear hSw; go_simp; try with_reducible rfl)
                              refine tkA (i := 64) (v := ?vL1_64) (oi := { dst := some 112, op := Op.fieldAddr 49 (Operand.tmp 111) 2, type := 0, pos := "law.go:30", after := #[{ on := 63, ground := Ground.data }, { on := 54, ground := Ground.guard }], guard := some (54, false) }) rfl (by kernel_rfl) (fun _ _ _ h => h) (.inl ⟨by rfl, ?yL1_64⟩) hHeld ?rL1_64; case yL1_64 => (intro w_ hSw; obtain ⟨n_, rfl⟩ := hSw.out; clear hSw; go_simp; try with_reducible rfl)
                              refine tkA (i := 65) (v := ?vL1_65) (oi := { dst := some 113, op := Op.load 38 (Operand.tmp 112), type := 38, pos := "law.go:30", after := #[{ on := 64, ground := Ground.data }, { on := 54, ground := Ground.guard }], guard := some (54, false) }) rfl (by kernel_rfl) (fun _ _ _ h => h) (.inl ⟨by rfl, ?yL1_65⟩) hHeld ?rL1_65; case yL1_65 => (intro w_ hSw; obtain ⟨n_, rfl⟩ := hSw.out; clear hSw; go_simp; try with_reducible rfl)
                              (try simp only [Act.put, List.setIfInBounds_toArray, List.set_cons_zero, List.set_cons_succ])
                              refine tkA (i := 66) (v := ?vL1_66) (oi := { dst := some 114, op := Op.convert 38 9 (Operand.tmp 113), type := 9, pos := "law.go:30", after := #[{ on := 65, ground := Ground.data }, { on := 54, ground := Ground.guard }], guard := some (54, false) }) rfl (by kernel_rfl) (fun _ _ _ h => h) (.inl ⟨by rfl, ?yL1_66⟩) hHeld ?rL1_66; case yL1_66 => (intro w_ hSw; obtain ⟨n_, rfl⟩ := hSw.out; clear hSw; have hcv_ := Kd.C_string (P := Try.prog) (A := A240_2) (c := c240_2) Try.underlying38 Try.underlying5 Try.underlying9 (Kd.C_drewN HR240_2.out n_); go_simp; try with_reducible rfl)
                              refine tkA (i := 67) (v := ?vL1_67) (oi := { dst := some 115, op := Op.binOp BinOp.neq 9 (Operand.tmp 108) (Operand.tmp 114) 9, type := 4, pos := "law.go:30", after := #[{ on := 60, ground := Ground.data }, { on := 66, ground := Ground.data }, { on := 54, ground := Ground.guard }], guard := some (54, false) }) rfl (by kernel_rfl) (fun _ _ _ h => h) (.inl ⟨by rfl, ?yL1_67⟩) hHeld ?rL1_67; case yL1_67 => (intro w_ hSw; obtain ⟨n_, rfl⟩ := hSw.out; clear hSw; go_simp; try with_reducible rfl)
                              refine tkA (i := 68) (v := ?vL1_68) (oi := { dst := some 116, op := Op.pick (Operand.tmp 102) (Operand.const (Value.bool true)) (Operand.tmp 115), type := 4, pos := "law.go:30", after := #[{ on := 54, ground := Ground.data }, { on := 67, ground := Ground.data }], guard := none }) rfl (by kernel_rfl) (fun _ _ _ h => h) (.inl ⟨by rfl, ?yL1_68⟩) hHeld ?rL1_68; case yL1_68 => (intro w_ hSw; obtain ⟨n_, rfl⟩ := hSw.out; clear hSw; go_simp; try with_reducible rfl)
                              (try simp only [Act.put, List.setIfInBounds_toArray, List.set_cons_zero, List.set_cons_succ])
                              refine wpAnyH_done (by kernel_rfl) ?_ _
                              go_wp2
                              go_meet
                              case rel => exact ⟨_, (((strOfNums ((rd_T47 t228 x8_2).f2)).toList != (strOfNums ((rd_T49 t231 x8_2).f2)).toList)), (by first | rfl | (simp; done) | (simp [*]; done)), H', ⟨by have := HJ7.out; have := HK2.out; first | omega | exact Nat.le_refl _⟩, ⟨by (with_reducible repeat (first | apply Kd.N_alloc | apply Kd.N_drewN | apply Kd.N_drew)); exact HO_3.out⟩, ⟨by (with_reducible repeat (first | apply Kd.N_alloc | apply Kd.N_drewN | apply Kd.N_drew)); exact HO_4.out⟩, ⟨by repeat (first | (with_reducible first | exact HB.out | apply below_alloc | apply pw_below_drewN | apply below_drew1) | exact HB.out)⟩⟩
                            · rw [if_neg c32] at H
                              have c32b0 : (((rd_T47 t228 x8_2).f3) == 0) = false := beq_eq_false_iff_ne.mpr c32
                              have c32b1 : (((rd_T47 t228 x8_2).f3) != 0) = true := bne_iff_ne.mpr c32
                              have hr_ : ((rd_T49 t231 x8_2).f3) = false := by rw [c32b0] at c30b0; simpa using c30b0
                              by_cases c36 : ((rd_T47 t228 x8_2).f3) = 3
                              · rw [if_pos c36] at H
                                have c36b0 : (((rd_T47 t228 x8_2).f3) == 3) = true := beq_iff_eq.mpr c36
                                have c36b1 : (((rd_T47 t228 x8_2).f3) != 3) = false := bne_eq_false_iff_eq.mpr c36
                                clear c36
                                have H' := Aside0.mk H
                                clear H
                                obtain ⟨Ao37, co37, eo37⟩ := Kd.N_slice HO_3.out
                                subst eo37
                                have p239 : 0 ≤ (x8_2 : Int) := of_decide_eq_true (by first | (with_reducible assumption) | assumption)
                                have q239 : x8_2 < (t228.length : Int) := of_decide_eq_true (by first | (with_reducible assumption) | assumption)
                                obtain ⟨ad239, A239_2, c239_2, e239, hx239_0, hx239_1, hx239_2, hx239_3, hl239_2, hi239_2⟩ := at_T47 (Kd.N_reads' HO_3.out).2.2 x8_2 p239 q239
                                cases e239
                                obtain ⟨ce239, hce239, hMe239, hcc239⟩ := Kd.N_get HO_3.out z47 x8_2 p239 (by first | exact q239 | exact of_decide_eq_true (by first | (with_reducible assumption) | assumption) | (have e_ := (Kd.N_reads' HO_3.out).1; omega))
                                obtain ⟨ua239_2, uc239_2, rfl, ul239_2, ge239_2⟩ := k47_openF hMe239
                                have hv239_2 := hcc239 2 _ rfl
                                rw [add_field _ _ 2 (by omega)] at hv239_2
                                replace hv239_2 := Option.some.inj (hv239_2.symm.trans hx239_2)
                                injection hv239_2 with hva_ hvn_ hvc_
                                rw [hva_] at ge239_2
                                rw [hvc_] at ul239_2
                                have HL239_2 := Aside0.mk (show Kd.V (Kd.int .u8) 5 _ w.heap.size _ _ ((rd_T47 t228 x8_2).f2) from Kd.V_mk ul239_2 ge239_2)
                                clear hva_ hvn_ hvc_ ge239_2 ul239_2
                                clear hcc239 hce239
                                have HR239_2 := Aside0.mk hi239_2
                                have HC239_2 := Aside0.mk hl239_2
                                clear hi239_2 hl239_2
                                replace p239 := eq_true p239
                                replace q239 := eq_true q239
                                have p240 : 0 ≤ (x8_2 : Int) := of_decide_eq_true (by first | (with_reducible assumption) | assumption)
                                have q240 : x8_2 < (t231.length : Int) := of_decide_eq_true (by first | (with_reducible assumption) | assumption)
                                obtain ⟨ad240, A240_2, c240_2, e240, hx240_0, hx240_1, hx240_2, hx240_3, hl240_2, hi240_2⟩ := at_T49 (Kd.N_reads' HO_4.out).2.2 x8_2 p240 q240
                                cases e240
                                obtain ⟨ce240, hce240, hMe240, hcc240⟩ := Kd.N_get HO_4.out z49 x8_2 p240 (by first | exact q240 | exact of_decide_eq_true (by first | (with_reducible assumption) | assumption) | (have e_ := (Kd.N_reads' HO_4.out).1; omega))
                                obtain ⟨ua240_2, uc240_2, rfl, ul240_2, ge240_2⟩ := k49_openF hMe240
                                have hv240_2 := hcc240 2 _ rfl
                                rw [add_field _ _ 2 (by omega)] at hv240_2
                                replace hv240_2 := Option.some.inj (hv240_2.symm.trans hx240_2)
                                injection hv240_2 with hva_ hvn_ hvc_
                                rw [hva_] at ge240_2
                                rw [hvc_] at ul240_2
                                have HL240_2 := Aside0.mk (show Kd.V (Kd.int .u8) 5 _ w.heap.size _ _ ((rd_T49 t231 x8_2).f2) from Kd.V_mk ul240_2 ge240_2)
                                clear hva_ hvn_ hvc_ ge240_2 ul240_2
                                clear hcc240 hce240
                                have HR240_2 := Aside0.mk hi240_2
                                have HC240_2 := Aside0.mk hl240_2
                                clear hi240_2 hl240_2
                                replace p240 := eq_true p240
                                replace q240 := eq_true q240
                                have hcv38 := Kd.C_string (P := Try.prog) (A := A239_2) (c := c239_2) Try.underlying38 Try.underlying5 Try.underlying9 (by repeat (first | (with_reducible exact HR239_2.out) | (with_reducible refine Kd.C_alloc ?_ _) | (with_reducible refine Kd.C_drewN ?_ _) | (with_reducible refine Kd.C_drew ?_) | exact HR239_2.out))
                                have hcv39 := Kd.C_string (P := Try.prog) (A := A240_2) (c := c240_2) Try.underlying38 Try.underlying5 Try.underlying9 (by repeat (first | (with_reducible exact HR240_2.out) | (with_reducible refine Kd.C_alloc ?_ _) | (with_reducible refine Kd.C_drewN ?_ _) | (with_reducible refine Kd.C_drew ?_) | exact HR240_2.out))
                                go_wp2
                                refine wp_region_held_drew (S := fun w' : World => Drawn0 wr w') (by kernel_rfl) ⟨⟨1, rfl⟩⟩ (fun hHeld => ?_)
                                refine tkA (i := 0) (v := ?vL2_0) (oi := { dst := some 48, op := Op.move (Operand.tmp 3), type := 39, pos := "law.go:30", after := #[], guard := none }) rfl (by kernel_rfl) (fun _ _ _ h => h) (.inl ⟨by rfl, ?yL2_0⟩) hHeld ?rL2_0; case yL2_0 => (intro w_ hSw; obtain ⟨n_, rfl⟩ := hSw.out; clear hSw; go_simp; try with_reducible rfl)
                                refine tkA (i := 1) (v := ?vL2_1) (oi := { dst := some 49, op := Op.move (Operand.tmp 8), type := 3, pos := "law.go:30", after := #[], guard := none }) rfl (by kernel_rfl) (fun _ _ _ h => h) (.inl ⟨by rfl, ?yL2_1⟩) hHeld ?rL2_1; case yL2_1 => (intro w_ hSw; obtain ⟨n_, rfl⟩ := hSw.out; clear hSw; go_simp; try with_reducible rfl)
                                refine tkA (i := 2) (v := ?vL2_2) (oi := { dst := some 50, op := Op.indexAddr 39 (Operand.tmp 48) (Operand.tmp 49), type := 0, pos := "law.go:30", after := #[{ on := 0, ground := Ground.data }, { on := 1, ground := Ground.data }], guard := none }) rfl (by kernel_rfl) (fun _ _ _ h => h) (.inl ⟨by rfl, ?yL2_2⟩) hHeld ?rL2_2; case yL2_2 => (intro w_ hSw; obtain ⟨n_, rfl⟩ := hSw.out; clear hSw; go_simp; try with_reducible rfl)
                                (try simp only [Act.put, List.setIfInBounds_toArray, List.set_cons_zero, List.set_cons_succ])
                                refine tkA (i := 3) (v := ?vL2_3) (oi := { dst := some 51, op := Op.fieldAddr 47 (Operand.tmp 50) 0, type := 0, pos := "law.go:30", after := #[{ on := 2, ground := Ground.data }], guard := none }) rfl (by kernel_rfl) (fun _ _ _ h => h) (.inl ⟨by rfl, ?yL2_3⟩) hHeld ?rL2_3; case yL2_3 => (intro w_ hSw; obtain ⟨n_, rfl⟩ := hSw.out; clear hSw; go_simp; try with_reducible rfl)
                                refine tkA (i := 4) (v := ?vL2_4) (oi := { dst := some 52, op := Op.load 3 (Operand.tmp 51), type := 3, pos := "law.go:30", after := #[{ on := 3, ground := Ground.data }], guard := none }) rfl (by kernel_rfl) (fun _ _ _ h => h) (.inl ⟨by rfl, ?yL2_4⟩) hHeld ?rL2_4; case yL2_4 => (intro w_ hSw; obtain ⟨n_, rfl⟩ := hSw.out; clear hSw; go_simp; try with_reducible rfl)
                                refine tkA (i := 5) (v := ?vL2_5) (oi := { dst := some 53, op := Op.move (Operand.tmp 4), type := 41, pos := "law.go:30", after := #[], guard := none }) rfl (by kernel_rfl) (fun _ _ _ h => h) (.inl ⟨by rfl, ?yL2_5⟩) hHeld ?rL2_5; case yL2_5 => (intro w_ hSw; obtain ⟨n_, rfl⟩ := hSw.out; clear hSw; go_simp; try with_reducible rfl)
                                (try simp only [Act.put, List.setIfInBounds_toArray, List.set_cons_zero, List.set_cons_succ])
                                refine tkA (i := 6) (v := ?vL2_6) (oi := { dst := some 54, op := Op.move (Operand.tmp 8), type := 3, pos := "law.go:30", after := #[], guard := none }) rfl (by kernel_rfl) (fun _ _ _ h => h) (.inl ⟨by rfl, ?yL2_6⟩) hHeld ?rL2_6; case yL2_6 => (intro w_ hSw; obtain ⟨n_, rfl⟩ := hSw.out; clear hSw; go_simp; try with_reducible rfl)
                                refine tkA (i := 7) (v := ?vL2_7) (oi := { dst := some 55, op := Op.indexAddr 41 (Operand.tmp 53) (Operand.tmp 54), type := 0, pos := "law.go:30", after := #[{ on := 5, ground := Ground.data }, { on := 6, ground := Ground.data }], guard := none }) rfl (by kernel_rfl) (fun _ _ _ h => h) (.inl ⟨by rfl, ?yL2_7⟩) hHeld ?rL2_7; case yL2_7 => (intro w_ hSw; obtain ⟨n_, rfl⟩ := hSw.out; clear hSw; go_simp; try with_reducible rfl)
                                refine tkA (i := 8) (v := ?vL2_8) (oi := { dst := some 56, op := Op.fieldAddr 49 (Operand.tmp 55) 0, type := 0, pos := "law.go:30", after := #[{ on := 7, ground := Ground.data }], guard := none }) rfl (by kernel_rfl) (fun _ _ _ h => h) (.inl ⟨by rfl, ?yL2_8⟩) hHeld ?rL2_8; case yL2_8 => (intro w_ hSw; obtain ⟨n_, rfl⟩ := hSw.out; clear hSw; go_simp; try with_reducible rfl)
                                (try simp only [Act.put, List.setIfInBounds_toArray, List.set_cons_zero, List.set_cons_succ])
                                refine tkA (i := 9) (v := ?vL2_9) (oi := { dst := some 57, op := Op.load 3 (Operand.tmp 56), type := 3, pos := "law.go:30", after := #[{ on := 8, ground := Ground.data }], guard := none }) rfl (by kernel_rfl) (fun _ _ _ h => h) (.inl ⟨by rfl, ?yL2_9⟩) hHeld ?rL2_9; case yL2_9 => (intro w_ hSw; obtain ⟨n_, rfl⟩ := hSw.out; clear hSw; go_simp; try with_reducible rfl)
                                refine tkA (i := 10) (v := ?vL2_10) (oi := { dst := some 58, op := Op.binOp BinOp.neq 3 (Operand.tmp 52) (Operand.tmp 57) 3, type := 4, pos := "law.go:30", after := #[{ on := 4, ground := Ground.data }, { on := 9, ground := Ground.data }], guard := none }) rfl (by kernel_rfl) (fun _ _ _ h => h) (.inl ⟨by rfl, ?yL2_10⟩) hHeld ?rL2_10; case yL2_10 => (intro w_ hSw; obtain ⟨n_, rfl⟩ := hSw.out; clear hSw; go_simp; try with_reducible rfl)
                                refine tkA (i := 11) (v := ?vL2_11) (oi := { dst := some 59, op := Op.move (Operand.tmp 58), type := 4, pos := "law.go:30", after := #[{ on := 10, ground := Ground.data }], guard := none }) rfl (by kernel_rfl) (fun _ _ _ h => h) (.inl ⟨by rfl, ?yL2_11⟩) hHeld ?rL2_11; case yL2_11 => (intro w_ hSw; obtain ⟨n_, rfl⟩ := hSw.out; clear hSw; go_simp; try with_reducible rfl)
                                (try simp only [Act.put, List.setIfInBounds_toArray, List.set_cons_zero, List.set_cons_succ])
                                refine tkA (i := 12) (v := ?vL2_12) (oi := { dst := some 60, op := Op.move (Operand.tmp 3), type := 39, pos := "law.go:30", after := #[{ on := 11, ground := Ground.guard }], guard := some (11, false) }) rfl (by kernel_rfl) (fun _ _ _ h => h) (.inl ⟨by rfl, ?yL2_12⟩) hHeld ?rL2_12; case yL2_12 => (intro w_ hSw; obtain ⟨n_, rfl⟩ := hSw.out; clear hSw; go_simp; try with_reducible rfl)
                                refine tkA (i := 13) (v := ?vL2_13) (oi := { dst := some 61, op := Op.move (Operand.tmp 8), type := 3, pos := "law.go:30", after := #[{ on := 11, ground := Ground.guard }], guard := some (11, false) }) rfl (by kernel_rfl) (fun _ _ _ h => h) (.inl ⟨by rfl, ?yL2_13⟩) hHeld ?rL2_13; case yL2_13 => (intro w_ hSw; obtain ⟨n_, rfl⟩ := hSw.out; clear hSw; go_simp; try with_reducible rfl)
                                refine tkA (i := 14) (v := ?vL2_14) (oi := { dst := some 62, op := Op.indexAddr 39 (Operand.tmp 60) (Operand.tmp 61), type := 0, pos := "law.go:30", after := #[{ on := 12, ground := Ground.data }, { on := 13, ground := Ground.data }, { on := 11, ground := Ground.guard }], guard := some (11, false) }) rfl (by kernel_rfl) (fun _ _ _ h => h) (.inl ⟨by rfl, ?yL2_14⟩) hHeld ?rL2_14; case yL2_14 => (intro w_ hSw; obtain ⟨n_, rfl⟩ := hSw.out; clear hSw; go_simp; try with_reducible rfl)
                                (try simp only [Act.put, List.setIfInBounds_toArray, List.set_cons_zero, List.set_cons_succ])
                                refine tkA (i := 15) (v := ?vL2_15) (oi := { dst := some 63, op := Op.fieldAddr 47 (Operand.tmp 62) 1, type := 0, pos := "law.go:30", after := #[{ on := 14, ground := Ground.data }, { on := 11, ground := Ground.guard }], guard := some (11, false) }) rfl (by kernel_rfl) (fun _ _ _ h => h) (.inl ⟨by rfl, ?yL2_15⟩) hHeld ?rL2_15; case yL2_15 => (intro w_ hSw; obtain ⟨n_, rfl⟩ := hSw.out; clear hSw; go_simp; try with_reducible rfl)
                                refine tkA (i := 16) (v := ?vL2_16) (oi := { dst := some 64, op := Op.load 3 (Operand.tmp 63), type := 3, pos := "law.go:30", after := #[{ on := 15, ground := Ground.data }, { on := 11, ground := Ground.guard }], guard := some (11, false) }) rfl (by kernel_rfl) (fun _ _ _ h => h) (.inl ⟨by rfl, ?yL2_16⟩) hHeld ?rL2_16; case yL2_16 => (intro w_ hSw; obtain ⟨n_, rfl⟩ := hSw.out; clear hSw; go_simp; try with_reducible rfl)
                                refine tkA (i := 17) (v := ?vL2_17) (oi := { dst := some 65, op := Op.move (Operand.tmp 4), type := 41, pos := "law.go:30", after := #[{ on := 11, ground := Ground.guard }], guard := some (11, false) }) rfl (by kernel_rfl) (fun _ _ _ h => h) (.inl ⟨by rfl, ?yL2_17⟩) hHeld ?rL2_17; case yL2_17 => (intro w_ hSw; obtain ⟨n_, rfl⟩ := hSw.out; clear hSw; go_simp; try with_reducible rfl)
                                (try simp only [Act.put, List.setIfInBounds_toArray, List.set_cons_zero, List.set_cons_succ])
                                refine tkA (i := 18) (v := ?vL2_18) (oi := { dst := some 66, op := Op.move (Operand.tmp 8), type := 3, pos := "law.go:30", after := #[{ on := 11, ground := Ground.guard }], guard := some (11, false) }) rfl (by kernel_rfl) (fun _ _ _ h => h) (.inl ⟨by rfl, ?yL2_18⟩) hHeld ?rL2_18; case yL2_18 => (intro w_ hSw; obtain ⟨n_, rfl⟩ := hSw.out; clear hSw; go_simp; try with_reducible rfl)
                                refine tkA (i := 19) (v := ?vL2_19) (oi := { dst := some 67, op := Op.indexAddr 41 (Operand.tmp 65) (Operand.tmp 66), type := 0, pos := "law.go:30", after := #[{ on := 17, ground := Ground.data }, { on := 18, ground := Ground.data }, { on := 11, ground := Ground.guard }], guard := some (11, false) }) rfl (by kernel_rfl) (fun _ _ _ h => h) (.inl ⟨by rfl, ?yL2_19⟩) hHeld ?rL2_19; case yL2_19 => (intro w_ hSw; obtain ⟨n_, rfl⟩ := hSw.out; clear hSw; go_simp; try with_reducible rfl)
                                refine tkA (i := 20) (v := ?vL2_20) (oi := { dst := some 68, op := Op.fieldAddr 49 (Operand.tmp 67) 1, type := 0, pos := "law.go:30", after := #[{ on := 19, ground := Ground.data }, { on := 11, ground := Ground.guard }], guard := some (11, false) }) rfl (by kernel_rfl) (fun _ _ _ h => h) (.inl ⟨by rfl, ?yL2_20⟩) hHeld ?rL2_20; case yL2_20 => (intro w_ hSw; obtain ⟨n_, rfl⟩ := hSw.out; clear hSw; go_simp; try with_reducible rfl)
                                (try simp only [Act.put, List.setIfInBounds_toArray, List.set_cons_zero, List.set_cons_succ])
                                refine tkA (i := 21) (v := ?vL2_21) (oi := { dst := some 69, op := Op.load 3 (Operand.tmp 68), type := 3, pos := "law.go:30", after := #[{ on := 20, ground := Ground.data }, { on := 11, ground := Ground.guard }], guard := some (11, false) }) rfl (by kernel_rfl) (fun _ _ _ h => h) (.inl ⟨by rfl, ?yL2_21⟩) hHeld ?rL2_21; case yL2_21 => (intro w_ hSw; obtain ⟨n_, rfl⟩ := hSw.out; clear hSw; go_simp; try with_reducible rfl)
                                refine tkA (i := 22) (v := ?vL2_22) (oi := { dst := some 70, op := Op.binOp BinOp.neq 3 (Operand.tmp 64) (Operand.tmp 69) 3, type := 4, pos := "law.go:30", after := #[{ on := 16, ground := Ground.data }, { on := 21, ground := Ground.data }, { on := 11, ground := Ground.guard }], guard := some (11, false) }) rfl (by kernel_rfl) (fun _ _ _ h => h) (.inl ⟨by rfl, ?yL2_22⟩) hHeld ?rL2_22; case yL2_22 => (intro w_ hSw; obtain ⟨n_, rfl⟩ := hSw.out; clear hSw; go_simp; try with_reducible rfl)
                                refine tkA (i := 23) (v := ?vL2_23) (oi := { dst := some 71, op := Op.pick (Operand.tmp 59) (Operand.const (Value.bool true)) (Operand.tmp 70), type := 4, pos := "law.go:30", after := #[{ on := 11, ground := Ground.data }, { on := 22, ground := Ground.data }], guard := none }) rfl (by kernel_rfl) (fun _ _ _ h => h) (.inl ⟨by rfl, ?yL2_23⟩) hHeld ?rL2_23; case yL2_23 => (intro w_ hSw; obtain ⟨n_, rfl⟩ := hSw.out; clear hSw; go_simp; try with_reducible rfl)
                                (try simp only [Act.put, List.setIfInBounds_toArray, List.set_cons_zero, List.set_cons_succ])
                                refine tkA (i := 24) (v := ?vL2_24) (oi := { dst := some 72, op := Op.move (Operand.tmp 71), type := 4, pos := "law.go:30", after := #[{ on := 23, ground := Ground.data }, { on := 11, ground := Ground.chain }], guard := none }) rfl (by kernel_rfl) (fun _ _ _ h => h) (.inl ⟨by rfl, ?yL2_24⟩) hHeld ?rL2_24; case yL2_24 => (intro w_ hSw; obtain ⟨n_, rfl⟩ := hSw.out; clear hSw; go_simp; try with_reducible rfl)
                                refine tkA (i := 25) (v := ?vL2_25) (oi := { dst := some 73, op := Op.move (Operand.tmp 3), type := 39, pos := "law.go:30", after := #[{ on := 24, ground := Ground.guard }], guard := some (24, false) }) rfl (by kernel_rfl) (fun _ _ _ h => h) (.inl ⟨by rfl, ?yL2_25⟩) hHeld ?rL2_25; case yL2_25 => (intro w_ hSw; obtain ⟨n_, rfl⟩ := hSw.out; clear hSw; go_simp; try with_reducible rfl)
                                refine tkA (i := 26) (v := ?vL2_26) (oi := { dst := some 74, op := Op.move (Operand.tmp 8), type := 3, pos := "law.go:30", after := #[{ on := 24, ground := Ground.guard }], guard := some (24, false) }) rfl (by kernel_rfl) (fun _ _ _ h => h) (.inl ⟨by rfl, ?yL2_26⟩) hHeld ?rL2_26; case yL2_26 => (intro w_ hSw; obtain ⟨n_, rfl⟩ := hSw.out; clear hSw; go_simp; try with_reducible rfl)
                                (try simp only [Act.put, List.setIfInBounds_toArray, List.set_cons_zero, List.set_cons_succ])
                                refine tkA (i := 27) (v := ?vL2_27) (oi := { dst := some 75, op := Op.indexAddr 39 (Operand.tmp 73) (Operand.tmp 74), type := 0, pos := "law.go:30", after := #[{ on := 25, ground := Ground.data }, { on := 26, ground := Ground.data }, { on := 24, ground := Ground.guard }], guard := some (24, false) }) rfl (by kernel_rfl) (fun _ _ _ h => h) (.inl ⟨by rfl, ?yL2_27⟩) hHeld ?rL2_27; case yL2_27 => (intro w_ hSw; obtain ⟨n_, rfl⟩ := hSw.out; clear hSw; go_simp; try with_reducible rfl)
                                refine tkA (i := 28) (v := ?vL2_28) (oi := { dst := some 76, op := Op.fieldAddr 47 (Operand.tmp 75) 3, type := 0, pos := "law.go:30", after := #[{ on := 27, ground := Ground.data }, { on := 24, ground := Ground.guard }], guard := some (24, false) }) rfl (by kernel_rfl) (fun _ _ _ h => h) (.inl ⟨by rfl, ?yL2_28⟩) hHeld ?rL2_28; case yL2_28 => (intro w_ hSw; obtain ⟨n_, rfl⟩ := hSw.out; clear hSw; go_simp; try with_reducible rfl)
                                refine tkA (i := 29) (v := ?vL2_29) (oi := { dst := some 77, op := Op.load 24 (Operand.tmp 76), type := 24, pos := "law.go:30", after := #[{ on := 28, ground := Ground.data }, { on := 24, ground := Ground.guard }], guard := some (24, false) }) rfl (by kernel_rfl) (fun _ _ _ h => h) (.inl ⟨by rfl, ?yL2_29⟩) hHeld ?rL2_29; case yL2_29 => (intro w_ hSw; obtain ⟨n_, rfl⟩ := hSw.out; clear hSw; go_simp; try with_reducible rfl)
                                (try simp only [Act.put, List.setIfInBounds_toArray, List.set_cons_zero, List.set_cons_succ])
                                refine tkA (i := 30) (v := ?vL2_30) (oi := { dst := some 78, op := Op.binOp BinOp.eql 24 (Operand.tmp 77) (Operand.const (Value.int IntKind.i64 0)) 24, type := 4, pos := "law.go:30", after := #[{ on := 29, ground := Ground.data }, { on := 24, ground := Ground.guard }], guard := some (24, false) }) rfl (by kernel_rfl) (fun _ _ _ h => h) (.inl ⟨by rfl, ?yL2_30⟩) hHeld ?rL2_30; case yL2_30 => (intro w_ hSw; obtain ⟨n_, rfl⟩ := hSw.out; clear hSw; go_simp; try with_reducible rfl)
                                refine tkA (i := 31) (v := ?vL2_31) (oi := { dst := some 79, op := Op.move (Operand.tmp 4), type := 41, pos := "law.go:30", after := #[{ on := 24, ground := Ground.guard }], guard := some (24, false) }) rfl (by kernel_rfl) (fun _ _ _ h => h) (.inl ⟨by rfl, ?yL2_31⟩) hHeld ?rL2_31; case yL2_31 => (intro w_ hSw; obtain ⟨n_, rfl⟩ := hSw.out; clear hSw; go_simp; try with_reducible rfl)
                                refine tkA (i := 32) (v := ?vL2_32) (oi := { dst := some 80, op := Op.move (Operand.tmp 8), type := 3, pos := "law.go:30", after := #[{ on := 24, ground := Ground.guard }], guard := some (24, false) }) rfl (by kernel_rfl) (fun _ _ _ h => h) (.inl ⟨by rfl, ?yL2_32⟩) hHeld ?rL2_32; case yL2_32 => (intro w_ hSw; obtain ⟨n_, rfl⟩ := hSw.out; clear hSw; go_simp; try with_reducible rfl)
                                (try simp only [Act.put, List.setIfInBounds_toArray, List.set_cons_zero, List.set_cons_succ])
                                refine tkA (i := 33) (v := ?vL2_33) (oi := { dst := some 81, op := Op.indexAddr 41 (Operand.tmp 79) (Operand.tmp 80), type := 0, pos := "law.go:30", after := #[{ on := 31, ground := Ground.data }, { on := 32, ground := Ground.data }, { on := 24, ground := Ground.guard }], guard := some (24, false) }) rfl (by kernel_rfl) (fun _ _ _ h => h) (.inl ⟨by rfl, ?yL2_33⟩) hHeld ?rL2_33; case yL2_33 => (intro w_ hSw; obtain ⟨n_, rfl⟩ := hSw.out; clear hSw; go_simp; try with_reducible rfl)
                                refine tkA (i := 34) (v := ?vL2_34) (oi := { dst := some 82, op := Op.fieldAddr 49 (Operand.tmp 81) 3, type := 0, pos := "law.go:30", after := #[{ on := 33, ground := Ground.data }, { on := 24, ground := Ground.guard }], guard := some (24, false) }) rfl (by kernel_rfl) (fun _ _ _ h => h) (.inl ⟨by rfl, ?yL2_34⟩) hHeld ?rL2_34; case yL2_34 => (intro w_ hSw; obtain ⟨n_, rfl⟩ := hSw.out; clear hSw; go_simp; try with_reducible rfl)
                                refine tkA (i := 35) (v := ?vL2_35) (oi := { dst := some 83, op := Op.load 4 (Operand.tmp 82), type := 4, pos := "law.go:30", after := #[{ on := 34, ground := Ground.data }, { on := 24, ground := Ground.guard }], guard := some (24, false) }) rfl (by kernel_rfl) (fun _ _ _ h => h) (.inl ⟨by rfl, ?yL2_35⟩) hHeld ?rL2_35; case yL2_35 => (intro w_ hSw; obtain ⟨n_, rfl⟩ := hSw.out; clear hSw; go_simp; try with_reducible rfl)
                                (try simp only [Act.put, List.setIfInBounds_toArray, List.set_cons_zero, List.set_cons_succ])
                                refine tkA (i := 36) (v := ?vL2_36) (oi := { dst := some 84, op := Op.binOp BinOp.neq 4 (Operand.tmp 78) (Operand.tmp 83) 4, type := 4, pos := "law.go:30", after := #[{ on := 30, ground := Ground.data }, { on := 35, ground := Ground.data }, { on := 24, ground := Ground.guard }], guard := some (24, false) }) rfl (by kernel_rfl) (fun _ _ _ h => h) (.inl ⟨by rfl, ?yL2_36⟩) hHeld ?rL2_36; case yL2_36 => (intro w_ hSw; obtain ⟨n_, rfl⟩ := hSw.out; clear hSw; go_simp; try with_reducible rfl)
                                refine tkA (i := 37) (v := ?vL2_37) (oi := { dst := some 85, op := Op.pick (Operand.tmp 72) (Operand.const (Value.bool true)) (Operand.tmp 84), type := 4, pos := "law.go:30", after := #[{ on := 24, ground := Ground.data }, { on := 36, ground := Ground.data }], guard := none }) rfl (by kernel_rfl) (fun _ _ _ h => h) (.inl ⟨by rfl, ?yL2_37⟩) hHeld ?rL2_37; case yL2_37 => (intro w_ hSw; obtain ⟨n_, rfl⟩ := hSw.out; clear hSw; go_simp; try with_reducible rfl)
                                refine tkA (i := 38) (v := ?vL2_38) (oi := { dst := some 86, op := Op.move (Operand.tmp 85), type := 4, pos := "law.go:30", after := #[{ on := 37, ground := Ground.data }, { on := 24, ground := Ground.chain }], guard := none }) rfl (by kernel_rfl) (fun _ _ _ h => h) (.inl ⟨by rfl, ?yL2_38⟩) hHeld ?rL2_38; case yL2_38 => (intro w_ hSw; obtain ⟨n_, rfl⟩ := hSw.out; clear hSw; go_simp; try with_reducible rfl)
                                (try simp only [Act.put, List.setIfInBounds_toArray, List.set_cons_zero, List.set_cons_succ])
                                refine tkA (i := 39) (v := ?vL2_39) (oi := { dst := some 87, op := Op.move (Operand.tmp 3), type := 39, pos := "law.go:30", after := #[{ on := 38, ground := Ground.guard }], guard := some (38, false) }) rfl (by kernel_rfl) (fun _ _ _ h => h) (.inl ⟨by rfl, ?yL2_39⟩) hHeld ?rL2_39; case yL2_39 => (intro w_ hSw; obtain ⟨n_, rfl⟩ := hSw.out; clear hSw; go_simp; try with_reducible rfl)
                                refine tkA (i := 40) (v := ?vL2_40) (oi := { dst := some 88, op := Op.move (Operand.tmp 8), type := 3, pos := "law.go:30", after := #[{ on := 38, ground := Ground.guard }], guard := some (38, false) }) rfl (by kernel_rfl) (fun _ _ _ h => h) (.inl ⟨by rfl, ?yL2_40⟩) hHeld ?rL2_40; case yL2_40 => (intro w_ hSw; obtain ⟨n_, rfl⟩ := hSw.out; clear hSw; go_simp; try with_reducible rfl)
                                refine tkA (i := 41) (v := ?vL2_41) (oi := { dst := some 89, op := Op.indexAddr 39 (Operand.tmp 87) (Operand.tmp 88), type := 0, pos := "law.go:30", after := #[{ on := 39, ground := Ground.data }, { on := 40, ground := Ground.data }, { on := 38, ground := Ground.guard }], guard := some (38, false) }) rfl (by kernel_rfl) (fun _ _ _ h => h) (.inl ⟨by rfl, ?yL2_41⟩) hHeld ?rL2_41; case yL2_41 => (intro w_ hSw; obtain ⟨n_, rfl⟩ := hSw.out; clear hSw; go_simp; try with_reducible rfl)
                                (try simp only [Act.put, List.setIfInBounds_toArray, List.set_cons_zero, List.set_cons_succ])
                                refine tkA (i := 42) (v := ?vL2_42) (oi := { dst := some 90, op := Op.fieldAddr 47 (Operand.tmp 89) 3, type := 0, pos := "law.go:30", after := #[{ on := 41, ground := Ground.data }, { on := 38, ground := Ground.guard }], guard := some (38, false) }) rfl (by kernel_rfl) (fun _ _ _ h => h) (.inl ⟨by rfl, ?yL2_42⟩) hHeld ?rL2_42; case yL2_42 => (intro w_ hSw; obtain ⟨n_, rfl⟩ := hSw.out; clear hSw; go_simp; try with_reducible rfl)
                                refine tkA (i := 43) (v := ?vL2_43) (oi := { dst := some 91, op := Op.load 24 (Operand.tmp 90), type := 24, pos := "law.go:30", after := #[{ on := 42, ground := Ground.data }, { on := 38, ground := Ground.guard }], guard := some (38, false) }) rfl (by kernel_rfl) (fun _ _ _ h => h) (.inl ⟨by rfl, ?yL2_43⟩) hHeld ?rL2_43; case yL2_43 => (intro w_ hSw; obtain ⟨n_, rfl⟩ := hSw.out; clear hSw; go_simp; try with_reducible rfl)
                                refine tkA (i := 44) (v := ?vL2_44) (oi := { dst := some 92, op := Op.binOp BinOp.neq 24 (Operand.tmp 91) (Operand.const (Value.int IntKind.i64 0)) 24, type := 4, pos := "law.go:30", after := #[{ on := 43, ground := Ground.data }, { on := 38, ground := Ground.guard }], guard := some (38, false) }) rfl (by kernel_rfl) (fun _ _ _ h => h) (.inl ⟨by rfl, ?yL2_44⟩) hHeld ?rL2_44; case yL2_44 => (intro w_ hSw; obtain ⟨n_, rfl⟩ := hSw.out; clear hSw; go_simp; try with_reducible rfl)
                                (try simp only [Act.put, List.setIfInBounds_toArray, List.set_cons_zero, List.set_cons_succ])
                                refine tkA (i := 45) (v := ?vL2_45) (oi := { dst := some 93, op := Op.move (Operand.tmp 92), type := 4, pos := "law.go:30", after := #[{ on := 44, ground := Ground.data }, { on := 38, ground := Ground.chain }, { on := 38, ground := Ground.guard }], guard := some (38, false) }) rfl (by kernel_rfl) (fun _ _ _ h => h) (.inl ⟨by rfl, ?yL2_45⟩) hHeld ?rL2_45; case yL2_45 => (intro w_ hSw; obtain ⟨n_, rfl⟩ := hSw.out; clear hSw; go_simp; try with_reducible rfl)
                                refine tkA (i := 46) (v := ?vL2_46) (oi := { dst := some 94, op := Op.move (Operand.tmp 3), type := 39, pos := "law.go:30", after := #[{ on := 45, ground := Ground.guard }], guard := some (45, true) }) rfl (by kernel_rfl) (fun _ _ _ h => h) (.inl ⟨by rfl, ?yL2_46⟩) hHeld ?rL2_46; case yL2_46 => (intro w_ hSw; obtain ⟨n_, rfl⟩ := hSw.out; clear hSw; go_simp; try with_reducible rfl)
                                refine tkA (i := 47) (v := ?vL2_47) (oi := { dst := some 95, op := Op.move (Operand.tmp 8), type := 3, pos := "law.go:30", after := #[{ on := 45, ground := Ground.guard }], guard := some (45, true) }) rfl (by kernel_rfl) (fun _ _ _ h => h) (.inl ⟨by rfl, ?yL2_47⟩) hHeld ?rL2_47; case yL2_47 => (intro w_ hSw; obtain ⟨n_, rfl⟩ := hSw.out; clear hSw; go_simp; try with_reducible rfl)
                                (try simp only [Act.put, List.setIfInBounds_toArray, List.set_cons_zero, List.set_cons_succ])
                                refine tkA (i := 48) (v := ?vL2_48) (oi := { dst := some 96, op := Op.indexAddr 39 (Operand.tmp 94) (Operand.tmp 95), type := 0, pos := "law.go:30", after := #[{ on := 46, ground := Ground.data }, { on := 47, ground := Ground.data }, { on := 45, ground := Ground.guard }], guard := some (45, true) }) rfl (by kernel_rfl) (fun _ _ _ h => h) (.inl ⟨by rfl, ?yL2_48⟩) hHeld ?rL2_48; case yL2_48 => (intro w_ hSw; obtain ⟨n_, rfl⟩ := hSw.out; clear hSw; go_simp; try with_reducible rfl)
                                refine tkA (i := 49) (v := ?vL2_49) (oi := { dst := some 97, op := Op.fieldAddr 47 (Operand.tmp 96) 3, type := 0, pos := "law.go:30", after := #[{ on := 48, ground := Ground.data }, { on := 45, ground := Ground.guard }], guard := some (45, true) }) rfl (by kernel_rfl) (fun _ _ _ h => h) (.inl ⟨by rfl, ?yL2_49⟩) hHeld ?rL2_49; case yL2_49 => (intro w_ hSw; obtain ⟨n_, rfl⟩ := hSw.out; clear hSw; go_simp; try with_reducible rfl)
                                refine tkA (i := 50) (v := ?vL2_50) (oi := { dst := some 98, op := Op.load 24 (Operand.tmp 97), type := 24, pos := "law.go:30", after := #[{ on := 49, ground := Ground.data }, { on := 45, ground := Ground.guard }], guard := some (45, true) }) rfl (by kernel_rfl) (fun _ _ _ h => h) (.inl ⟨by rfl, ?yL2_50⟩) hHeld ?rL2_50; case yL2_50 => (intro w_ hSw; obtain ⟨n_, rfl⟩ := hSw.out; clear hSw; go_simp; try with_reducible rfl)
                                (try simp only [Act.put, List.setIfInBounds_toArray, List.set_cons_zero, List.set_cons_succ])
                                refine tkA (i := 51) (v := ?vL2_51) (oi := { dst := some 99, op := Op.binOp BinOp.neq 24 (Operand.tmp 98) (Operand.const (Value.int IntKind.i64 3)) 24, type := 4, pos := "law.go:30", after := #[{ on := 50, ground := Ground.data }, { on := 45, ground := Ground.guard }], guard := some (45, true) }) rfl (by kernel_rfl) (fun _ _ _ h => h) (.inl ⟨by rfl, ?yL2_51⟩) hHeld ?rL2_51; case yL2_51 => (intro w_ hSw; obtain ⟨n_, rfl⟩ := hSw.out; clear hSw; go_simp; try with_reducible rfl)
                                refine tkA (i := 52) (v := ?vL2_52) (oi := { dst := some 100, op := Op.pick (Operand.tmp 93) (Operand.tmp 99) (Operand.const (Value.bool false)), type := 4, pos := "law.go:30", after := #[{ on := 45, ground := Ground.data }, { on := 51, ground := Ground.data }, { on := 38, ground := Ground.guard }], guard := some (38, false) }) rfl (by kernel_rfl) (fun _ _ _ h => h) (.inl ⟨by rfl, ?yL2_52⟩) hHeld ?rL2_52; case yL2_52 => (intro w_ hSw; obtain ⟨n_, rfl⟩ := hSw.out; clear hSw; go_simp; try with_reducible rfl)
                                refine tkA (i := 53) (v := ?vL2_53) (oi := { dst := some 101, op := Op.pick (Operand.tmp 86) (Operand.const (Value.bool true)) (Operand.tmp 100), type := 4, pos := "law.go:30", after := #[{ on := 38, ground := Ground.data }, { on := 52, ground := Ground.data }], guard := none }) rfl (by kernel_rfl) (fun _ _ _ h => h) (.inl ⟨by rfl, ?yL2_53⟩) hHeld ?rL2_53; case yL2_53 => (intro w_ hSw; obtain ⟨n_, rfl⟩ := hSw.out; clear hSw; go_simp; try with_reducible rfl)
                                (try simp only [Act.put, List.setIfInBounds_toArray, List.set_cons_zero, List.set_cons_succ])
                                refine tkA (i := 54) (v := ?vL2_54) (oi := { dst := some 102, op := Op.move (Operand.tmp 101), type := 4, pos := "law.go:30", after := #[{ on := 53, ground := Ground.data }, { on := 45, ground := Ground.chain }], guard := none }) rfl (by kernel_rfl) (fun _ _ _ h => h) (.inl ⟨by rfl, ?yL2_54⟩) hHeld ?rL2_54; case yL2_54 => (intro w_ hSw; obtain ⟨n_, rfl⟩ := hSw.out; clear hSw; go_simp; try with_reducible rfl)
                                refine tkA (i := 55) (v := ?vL2_55) (oi := { dst := some 103, op := Op.move (Operand.tmp 3), type := 39, pos := "law.go:30", after := #[{ on := 54, ground := Ground.guard }], guard := some (54, false) }) rfl (by kernel_rfl) (fun _ _ _ h => h) (.inl ⟨by rfl, ?yL2_55⟩) hHeld ?rL2_55; case yL2_55 => (intro w_ hSw; obtain ⟨n_, rfl⟩ := hSw.out; clear hSw; go_simp; try with_reducible rfl)
                                refine tkA (i := 56) (v := ?vL2_56) (oi := { dst := some 104, op := Op.move (Operand.tmp 8), type := 3, pos := "law.go:30", after := #[{ on := 54, ground := Ground.guard }], guard := some (54, false) }) rfl (by kernel_rfl) (fun _ _ _ h => h) (.inl ⟨by rfl, ?yL2_56⟩) hHeld ?rL2_56; case yL2_56 => (intro w_ hSw; obtain ⟨n_, rfl⟩ := hSw.out; clear hSw; go_simp; try with_reducible rfl)
                                (try simp only [Act.put, List.setIfInBounds_toArray, List.set_cons_zero, List.set_cons_succ])
                                refine tkA (i := 57) (v := ?vL2_57) (oi := { dst := some 105, op := Op.indexAddr 39 (Operand.tmp 103) (Operand.tmp 104), type := 0, pos := "law.go:30", after := #[{ on := 55, ground := Ground.data }, { on := 56, ground := Ground.data }, { on := 54, ground := Ground.guard }], guard := some (54, false) }) rfl (by kernel_rfl) (fun _ _ _ h => h) (.inl ⟨by rfl, ?yL2_57⟩) hHeld ?rL2_57; case yL2_57 => (intro w_ hSw; obtain ⟨n_, rfl⟩ := hSw.out; clear hSw; go_simp; try with_reducible rfl)
                                refine tkA (i := 58) (v := ?vL2_58) (oi := { dst := some 106, op := Op.fieldAddr 47 (Operand.tmp 105) 2, type := 0, pos := "law.go:30", after := #[{ on := 57, ground := Ground.data }, { on := 54, ground := Ground.guard }], guard := some (54, false) }) rfl (by kernel_rfl) (fun _ _ _ h => h) (.inl ⟨by rfl, ?yL2_58⟩) hHeld ?rL2_58; case yL2_58 => (intro w_ hSw; obtain ⟨n_, rfl⟩ := hSw.out; clear hSw; go_simp; try with_reducible rfl)
                                refine tkA (i := 59) (v := ?vL2_59) (oi := { dst := some 107, op := Op.load 38 (Operand.tmp 106), type := 38, pos := "law.go:30", after := #[{ on := 58, ground := Ground.data }, { on := 54, ground := Ground.guard }], guard := some (54, false) }) rfl (by kernel_rfl) (fun _ _ _ h => h) (.inl ⟨by rfl, ?yL2_59⟩) hHeld ?rL2_59; case yL2_59 => (intro w_ hSw; obtain ⟨n_, rfl⟩ := hSw.out; clear hSw; go_simp; try with_reducible rfl)
                                (try simp only [Act.put, List.setIfInBounds_toArray, List.set_cons_zero, List.set_cons_succ])
                                refine tkA (i := 60) (v := ?vL2_60) (oi := { dst := some 108, op := Op.convert 38 9 (Operand.tmp 107), type := 9, pos := "law.go:30", after := #[{ on := 59, ground := Ground.data }, { on := 54, ground := Ground.guard }], guard := some (54, false) }) rfl (by kernel_rfl) (fun _ _ _ h => h) (.inl ⟨by rfl, ?yL2_60⟩) hHeld ?rL2_60; case yL2_60 => (intro w_ hSw; obtain ⟨n_, rfl⟩ := hSw.out; clear hSw; have hcv_ := Kd.C_string (P := Try.prog) (A := A239_2) (c := c239_2) Try.underlying38 Try.underlying5 Try.underlying9 (Kd.C_drewN HR239_2.out n_); go_simp; try with_reducible rfl)
                                refine tkA (i := 61) (v := ?vL2_61) (oi := { dst := some 109, op := Op.move (Operand.tmp 4), type := 41, pos := "law.go:30", after := #[{ on := 54, ground := Ground.guard }], guard := some (54, false) }) rfl (by kernel_rfl) (fun _ _ _ h => h) (.inl ⟨by rfl, ?yL2_61⟩) hHeld ?rL2_61; case yL2_61 => (intro w_ hSw; obtain ⟨n_, rfl⟩ := hSw.out; clear hSw; go_simp; try with_reducible rfl)
                                refine tkA (i := 62) (v := ?vL2_62) (oi := { dst := some 110, op := Op.move (Operand.tmp 8), type := 3, pos := "law.go:30", after := #[{ on := 54, ground := Ground.guard }], guard := some (54, false) }) rfl (by kernel_rfl) (fun _ _ _ h => h) (.inl ⟨by rfl, ?yL2_62⟩) hHeld ?rL2_62; case yL2_62 => (intro w_ hSw; obtain ⟨n_, rfl⟩ := hSw.out; clear hSw; go_simp; try with_reducible rfl)
                                (try simp only [Act.put, List.setIfInBounds_toArray, List.set_cons_zero, List.set_cons_succ])
                                refine tkA (i := 63) (v := ?vL2_63) (oi := { dst := some 111, op := Op.indexAddr 41 (Operand.tmp 109) (Operand.tmp 110), type := 0, pos := "law.go:30", after := #[{ on := 61, ground := Ground.data }, { on := 62, ground := Ground.data }, { on := 54, ground := Ground.guard }], guard := some (54, false) }) rfl (by kernel_rfl) (fun _ _ _ h => h) (.inl ⟨by rfl, ?yL2_63⟩) hHeld ?rL2_63; case yL2_63 => (intro w_ hSw; obtain ⟨n_, rfl⟩ := hSw.out; clear hSw; go_simp; try with_reducible rfl)
                                refine tkA (i := 64) (v := ?vL2_64) (oi := { dst := some 112, op := Op.fieldAddr 49 (Operand.tmp 111) 2, type := 0, pos := "law.go:30", after := #[{ on := 63, ground := Ground.data }, { on := 54, ground := Ground.guard }], guard := some (54, false) }) rfl (by kernel_rfl) (fun _ _ _ h => h) (.inl ⟨by rfl, ?yL2_64⟩) hHeld ?rL2_64; case yL2_64 => (intro w_ hSw; obtain ⟨n_, rfl⟩ := hSw.out; clear hSw; go_simp; try with_reducible rfl)
                                refine tkA (i := 65) (v := ?vL2_65) (oi := { dst := some 113, op := Op.load 38 (Operand.tmp 112), type := 38, pos := "law.go:30", after := #[{ on := 64, ground := Ground.data }, { on := 54, ground := Ground.guard }], guard := some (54, false) }) rfl (by kernel_rfl) (fun _ _ _ h => h) (.inl ⟨by rfl, ?yL2_65⟩) hHeld ?rL2_65; case yL2_65 => (intro w_ hSw; obtain ⟨n_, rfl⟩ := hSw.out; clear hSw; go_simp; try with_reducible rfl)
                                (try simp only [Act.put, List.setIfInBounds_toArray, List.set_cons_zero, List.set_cons_succ])
                                refine tkA (i := 66) (v := ?vL2_66) (oi := { dst := some 114, op := Op.convert 38 9 (Operand.tmp 113), type := 9, pos := "law.go:30", after := #[{ on := 65, ground := Ground.data }, { on := 54, ground := Ground.guard }], guard := some (54, false) }) rfl (by kernel_rfl) (fun _ _ _ h => h) (.inl ⟨by rfl, ?yL2_66⟩) hHeld ?rL2_66; case yL2_66 => (intro w_ hSw; obtain ⟨n_, rfl⟩ := hSw.out; clear hSw; have hcv_ := Kd.C_string (P := Try.prog) (A := A240_2) (c := c240_2) Try.underlying38 Try.underlying5 Try.underlying9 (Kd.C_drewN HR240_2.out n_); go_simp; try with_reducible rfl)
                                refine tkA (i := 67) (v := ?vL2_67) (oi := { dst := some 115, op := Op.binOp BinOp.neq 9 (Operand.tmp 108) (Operand.tmp 114) 9, type := 4, pos := "law.go:30", after := #[{ on := 60, ground := Ground.data }, { on := 66, ground := Ground.data }, { on := 54, ground := Ground.guard }], guard := some (54, false) }) rfl (by kernel_rfl) (fun _ _ _ h => h) (.inl ⟨by rfl, ?yL2_67⟩) hHeld ?rL2_67; case yL2_67 => (intro w_ hSw; obtain ⟨n_, rfl⟩ := hSw.out; clear hSw; go_simp; try with_reducible rfl)
                                refine tkA (i := 68) (v := ?vL2_68) (oi := { dst := some 116, op := Op.pick (Operand.tmp 102) (Operand.const (Value.bool true)) (Operand.tmp 115), type := 4, pos := "law.go:30", after := #[{ on := 54, ground := Ground.data }, { on := 67, ground := Ground.data }], guard := none }) rfl (by kernel_rfl) (fun _ _ _ h => h) (.inl ⟨by rfl, ?yL2_68⟩) hHeld ?rL2_68; case yL2_68 => (intro w_ hSw; obtain ⟨n_, rfl⟩ := hSw.out; clear hSw; go_simp; try with_reducible rfl)
                                (try simp only [Act.put, List.setIfInBounds_toArray, List.set_cons_zero, List.set_cons_succ])
                                refine wpAnyH_done (by kernel_rfl) ?_ _
                                go_wp2
                                go_meet
                                case rel => exact ⟨_, (((strOfNums ((rd_T47 t228 x8_2).f2)).toList != (strOfNums ((rd_T49 t231 x8_2).f2)).toList)), (by first | rfl | (simp; done) | (simp [*]; done)), H', ⟨by have := HJ7.out; have := HK2.out; first | omega | exact Nat.le_refl _⟩, ⟨by (with_reducible repeat (first | apply Kd.N_alloc | apply Kd.N_drewN | apply Kd.N_drew)); exact HO_3.out⟩, ⟨by (with_reducible repeat (first | apply Kd.N_alloc | apply Kd.N_drewN | apply Kd.N_drew)); exact HO_4.out⟩, ⟨by repeat (first | (with_reducible first | exact HB.out | apply below_alloc | apply pw_below_drewN | apply below_drew1) | exact HB.out)⟩⟩
                              · rw [if_neg c36] at H
                                have c36b0 : (((rd_T47 t228 x8_2).f3) == 3) = false := beq_eq_false_iff_ne.mpr c36
                                have c36b1 : (((rd_T47 t228 x8_2).f3) != 3) = true := bne_iff_ne.mpr c36
                                have H' := Aside0.mk H
                                clear H
                                obtain ⟨Ao40, co40, eo40⟩ := Kd.N_slice HO_3.out
                                subst eo40
                                have p239 : 0 ≤ (x8_2 : Int) := of_decide_eq_true (by first | (with_reducible assumption) | assumption)
                                have q239 : x8_2 < (t228.length : Int) := of_decide_eq_true (by first | (with_reducible assumption) | assumption)
                                obtain ⟨ad239, A239_2, c239_2, e239, hx239_0, hx239_1, hx239_2, hx239_3, hl239_2, hi239_2⟩ := at_T47 (Kd.N_reads' HO_3.out).2.2 x8_2 p239 q239
                                cases e239
                                obtain ⟨ce239, hce239, hMe239, hcc239⟩ := Kd.N_get HO_3.out z47 x8_2 p239 (by first | exact q239 | exact of_decide_eq_true (by first | (with_reducible assumption) | assumption) | (have e_ := (Kd.N_reads' HO_3.out).1; omega))
                                obtain ⟨ua239_2, uc239_2, rfl, ul239_2, ge239_2⟩ := k47_openF hMe239
                                have hv239_2 := hcc239 2 _ rfl
                                rw [add_field _ _ 2 (by omega)] at hv239_2
                                replace hv239_2 := Option.some.inj (hv239_2.symm.trans hx239_2)
                                injection hv239_2 with hva_ hvn_ hvc_
                                rw [hva_] at ge239_2
                                rw [hvc_] at ul239_2
                                have HL239_2 := Aside0.mk (show Kd.V (Kd.int .u8) 5 _ w.heap.size _ _ ((rd_T47 t228 x8_2).f2) from Kd.V_mk ul239_2 ge239_2)
                                clear hva_ hvn_ hvc_ ge239_2 ul239_2
                                clear hcc239 hce239
                                have HR239_2 := Aside0.mk hi239_2
                                have HC239_2 := Aside0.mk hl239_2
                                clear hi239_2 hl239_2
                                replace p239 := eq_true p239
                                replace q239 := eq_true q239
                                have p240 : 0 ≤ (x8_2 : Int) := of_decide_eq_true (by first | (with_reducible assumption) | assumption)
                                have q240 : x8_2 < (t231.length : Int) := of_decide_eq_true (by first | (with_reducible assumption) | assumption)
                                obtain ⟨ad240, A240_2, c240_2, e240, hx240_0, hx240_1, hx240_2, hx240_3, hl240_2, hi240_2⟩ := at_T49 (Kd.N_reads' HO_4.out).2.2 x8_2 p240 q240
                                cases e240
                                obtain ⟨ce240, hce240, hMe240, hcc240⟩ := Kd.N_get HO_4.out z49 x8_2 p240 (by first | exact q240 | exact of_decide_eq_true (by first | (with_reducible assumption) | assumption) | (have e_ := (Kd.N_reads' HO_4.out).1; omega))
                                obtain ⟨ua240_2, uc240_2, rfl, ul240_2, ge240_2⟩ := k49_openF hMe240
                                have hv240_2 := hcc240 2 _ rfl
                                rw [add_field _ _ 2 (by omega)] at hv240_2
                                replace hv240_2 := Option.some.inj (hv240_2.symm.trans hx240_2)
                                injection hv240_2 with hva_ hvn_ hvc_
                                rw [hva_] at ge240_2
                                rw [hvc_] at ul240_2
                                have HL240_2 := Aside0.mk (show Kd.V (Kd.int .u8) 5 _ w.heap.size _ _ ((rd_T49 t231 x8_2).f2) from Kd.V_mk ul240_2 ge240_2)
                                clear hva_ hvn_ hvc_ ge240_2 ul240_2
                                clear hcc240 hce240
                                have HR240_2 := Aside0.mk hi240_2
                                have HC240_2 := Aside0.mk hl240_2
                                clear hi240_2 hl240_2
                                replace p240 := eq_true p240
                                replace q240 := eq_true q240
                                go_wp2
                                refine wp_region_held_drew (S := fun w' : World => Drawn0 wr w') (by kernel_rfl) ⟨⟨1, rfl⟩⟩ (fun hHeld => ?_)
                                refine tkA (i := 0) (v := ?vL3_0) (oi := { dst := some 48, op := Op.move (Operand.tmp 3), type := 39, pos := "law.go:30", after := #[], guard := none }) rfl (by kernel_rfl) (fun _ _ _ h => h) (.inl ⟨by rfl, ?yL3_0⟩) hHeld ?rL3_0; case yL3_0 => (intro w_ hSw; obtain ⟨n_, rfl⟩ := hSw.out; clear hSw; go_simp; try with_reducible rfl)
                                refine tkA (i := 1) (v := ?vL3_1) (oi := { dst := some 49, op := Op.move (Operand.tmp 8), type := 3, pos := "law.go:30", after := #[], guard := none }) rfl (by kernel_rfl) (fun _ _ _ h => h) (.inl ⟨by rfl, ?yL3_1⟩) hHeld ?rL3_1; case yL3_1 => (intro w_ hSw; obtain ⟨n_, rfl⟩ := hSw.out; clear hSw; go_simp; try with_reducible rfl)
                                refine tkA (i := 2) (v := ?vL3_2) (oi := { dst := some 50, op := Op.indexAddr 39 (Operand.tmp 48) (Operand.tmp 49), type := 0, pos := "law.go:30", after := #[{ on := 0, ground := Ground.data }, { on := 1, ground := Ground.data }], guard := none }) rfl (by kernel_rfl) (fun _ _ _ h => h) (.inl ⟨by rfl, ?yL3_2⟩) hHeld ?rL3_2; case yL3_2 => (intro w_ hSw; obtain ⟨n_, rfl⟩ := hSw.out; clear hSw; go_simp; try with_reducible rfl)
                                (try simp only [Act.put, List.setIfInBounds_toArray, List.set_cons_zero, List.set_cons_succ])
                                refine tkA (i := 3) (v := ?vL3_3) (oi := { dst := some 51, op := Op.fieldAddr 47 (Operand.tmp 50) 0, type := 0, pos := "law.go:30", after := #[{ on := 2, ground := Ground.data }], guard := none }) rfl (by kernel_rfl) (fun _ _ _ h => h) (.inl ⟨by rfl, ?yL3_3⟩) hHeld ?rL3_3; case yL3_3 => (intro w_ hSw; obtain ⟨n_, rfl⟩ := hSw.out; clear hSw; go_simp; try with_reducible rfl)
                                refine tkA (i := 4) (v := ?vL3_4) (oi := { dst := some 52, op := Op.load 3 (Operand.tmp 51), type := 3, pos := "law.go:30", after := #[{ on := 3, ground := Ground.data }], guard := none }) rfl (by kernel_rfl) (fun _ _ _ h => h) (.inl ⟨by rfl, ?yL3_4⟩) hHeld ?rL3_4; case yL3_4 => (intro w_ hSw; obtain ⟨n_, rfl⟩ := hSw.out; clear hSw; go_simp; try with_reducible rfl)
                                refine tkA (i := 5) (v := ?vL3_5) (oi := { dst := some 53, op := Op.move (Operand.tmp 4), type := 41, pos := "law.go:30", after := #[], guard := none }) rfl (by kernel_rfl) (fun _ _ _ h => h) (.inl ⟨by rfl, ?yL3_5⟩) hHeld ?rL3_5; case yL3_5 => (intro w_ hSw; obtain ⟨n_, rfl⟩ := hSw.out; clear hSw; go_simp; try with_reducible rfl)
                                (try simp only [Act.put, List.setIfInBounds_toArray, List.set_cons_zero, List.set_cons_succ])
                                refine tkA (i := 6) (v := ?vL3_6) (oi := { dst := some 54, op := Op.move (Operand.tmp 8), type := 3, pos := "law.go:30", after := #[], guard := none }) rfl (by kernel_rfl) (fun _ _ _ h => h) (.inl ⟨by rfl, ?yL3_6⟩) hHeld ?rL3_6; case yL3_6 => (intro w_ hSw; obtain ⟨n_, rfl⟩ := hSw.out; clear hSw; go_simp; try with_reducible rfl)
                                refine tkA (i := 7) (v := ?vL3_7) (oi := { dst := some 55, op := Op.indexAddr 41 (Operand.tmp 53) (Operand.tmp 54), type := 0, pos := "law.go:30", after := #[{ on := 5, ground := Ground.data }, { on := 6, ground := Ground.data }], guard := none }) rfl (by kernel_rfl) (fun _ _ _ h => h) (.inl ⟨by rfl, ?yL3_7⟩) hHeld ?rL3_7; case yL3_7 => (intro w_ hSw; obtain ⟨n_, rfl⟩ := hSw.out; clear hSw; go_simp; try with_reducible rfl)
                                refine tkA (i := 8) (v := ?vL3_8) (oi := { dst := some 56, op := Op.fieldAddr 49 (Operand.tmp 55) 0, type := 0, pos := "law.go:30", after := #[{ on := 7, ground := Ground.data }], guard := none }) rfl (by kernel_rfl) (fun _ _ _ h => h) (.inl ⟨by rfl, ?yL3_8⟩) hHeld ?rL3_8; case yL3_8 => (intro w_ hSw; obtain ⟨n_, rfl⟩ := hSw.out; clear hSw; go_simp; try with_reducible rfl)
                                (try simp only [Act.put, List.setIfInBounds_toArray, List.set_cons_zero, List.set_cons_succ])
                                refine tkA (i := 9) (v := ?vL3_9) (oi := { dst := some 57, op := Op.load 3 (Operand.tmp 56), type := 3, pos := "law.go:30", after := #[{ on := 8, ground := Ground.data }], guard := none }) rfl (by kernel_rfl) (fun _ _ _ h => h) (.inl ⟨by rfl, ?yL3_9⟩) hHeld ?rL3_9; case yL3_9 => (intro w_ hSw; obtain ⟨n_, rfl⟩ := hSw.out; clear hSw; go_simp; try with_reducible rfl)
                                refine tkA (i := 10) (v := ?vL3_10) (oi := { dst := some 58, op := Op.binOp BinOp.neq 3 (Operand.tmp 52) (Operand.tmp 57) 3, type := 4, pos := "law.go:30", after := #[{ on := 4, ground := Ground.data }, { on := 9, ground := Ground.data }], guard := none }) rfl (by kernel_rfl) (fun _ _ _ h => h) (.inl ⟨by rfl, ?yL3_10⟩) hHeld ?rL3_10; case yL3_10 => (intro w_ hSw; obtain ⟨n_, rfl⟩ := hSw.out; clear hSw; go_simp; try with_reducible rfl)
                                refine tkA (i := 11) (v := ?vL3_11) (oi := { dst := some 59, op := Op.move (Operand.tmp 58), type := 4, pos := "law.go:30", after := #[{ on := 10, ground := Ground.data }], guard := none }) rfl (by kernel_rfl) (fun _ _ _ h => h) (.inl ⟨by rfl, ?yL3_11⟩) hHeld ?rL3_11; case yL3_11 => (intro w_ hSw; obtain ⟨n_, rfl⟩ := hSw.out; clear hSw; go_simp; try with_reducible rfl)
                                (try simp only [Act.put, List.setIfInBounds_toArray, List.set_cons_zero, List.set_cons_succ])
                                refine tkA (i := 12) (v := ?vL3_12) (oi := { dst := some 60, op := Op.move (Operand.tmp 3), type := 39, pos := "law.go:30", after := #[{ on := 11, ground := Ground.guard }], guard := some (11, false) }) rfl (by kernel_rfl) (fun _ _ _ h => h) (.inl ⟨by rfl, ?yL3_12⟩) hHeld ?rL3_12; case yL3_12 => (intro w_ hSw; obtain ⟨n_, rfl⟩ := hSw.out; clear hSw; go_simp; try with_reducible rfl)
                                refine tkA (i := 13) (v := ?vL3_13) (oi := { dst := some 61, op := Op.move (Operand.tmp 8), type := 3, pos := "law.go:30", after := #[{ on := 11, ground := Ground.guard }], guard := some (11, false) }) rfl (by kernel_rfl) (fun _ _ _ h => h) (.inl ⟨by rfl, ?yL3_13⟩) hHeld ?rL3_13; case yL3_13 => (intro w_ hSw; obtain ⟨n_, rfl⟩ := hSw.out; clear hSw; go_simp; try with_reducible rfl)
                                refine tkA (i := 14) (v := ?vL3_14) (oi := { dst := some 62, op := Op.indexAddr 39 (Operand.tmp 60) (Operand.tmp 61), type := 0, pos := "law.go:30", after := #[{ on := 12, ground := Ground.data }, { on := 13, ground := Ground.data }, { on := 11, ground := Ground.guard }], guard := some (11, false) }) rfl (by kernel_rfl) (fun _ _ _ h => h) (.inl ⟨by rfl, ?yL3_14⟩) hHeld ?rL3_14; case yL3_14 => (intro w_ hSw; obtain ⟨n_, rfl⟩ := hSw.out; clear hSw; go_simp; try with_reducible rfl)
                                (try simp only [Act.put, List.setIfInBounds_toArray, List.set_cons_zero, List.set_cons_succ])
                                refine tkA (i := 15) (v := ?vL3_15) (oi := { dst := some 63, op := Op.fieldAddr 47 (Operand.tmp 62) 1, type := 0, pos := "law.go:30", after := #[{ on := 14, ground := Ground.data }, { on := 11, ground := Ground.guard }], guard := some (11, false) }) rfl (by kernel_rfl) (fun _ _ _ h => h) (.inl ⟨by rfl, ?yL3_15⟩) hHeld ?rL3_15; case yL3_15 => (intro w_ hSw; obtain ⟨n_, rfl⟩ := hSw.out; clear hSw; go_simp; try with_reducible rfl)
                                refine tkA (i := 16) (v := ?vL3_16) (oi := { dst := some 64, op := Op.load 3 (Operand.tmp 63), type := 3, pos := "law.go:30", after := #[{ on := 15, ground := Ground.data }, { on := 11, ground := Ground.guard }], guard := some (11, false) }) rfl (by kernel_rfl) (fun _ _ _ h => h) (.inl ⟨by rfl, ?yL3_16⟩) hHeld ?rL3_16; case yL3_16 => (intro w_ hSw; obtain ⟨n_, rfl⟩ := hSw.out; clear hSw; go_simp; try with_reducible rfl)
                                refine tkA (i := 17) (v := ?vL3_17) (oi := { dst := some 65, op := Op.move (Operand.tmp 4), type := 41, pos := "law.go:30", after := #[{ on := 11, ground := Ground.guard }], guard := some (11, false) }) rfl (by kernel_rfl) (fun _ _ _ h => h) (.inl ⟨by rfl, ?yL3_17⟩) hHeld ?rL3_17; case yL3_17 => (intro w_ hSw; obtain ⟨n_, rfl⟩ := hSw.out; clear hSw; go_simp; try with_reducible rfl)
                                (try simp only [Act.put, List.setIfInBounds_toArray, List.set_cons_zero, List.set_cons_succ])
                                refine tkA (i := 18) (v := ?vL3_18) (oi := { dst := some 66, op := Op.move (Operand.tmp 8), type := 3, pos := "law.go:30", after := #[{ on := 11, ground := Ground.guard }], guard := some (11, false) }) rfl (by kernel_rfl) (fun _ _ _ h => h) (.inl ⟨by rfl, ?yL3_18⟩) hHeld ?rL3_18; case yL3_18 => (intro w_ hSw; obtain ⟨n_, rfl⟩ := hSw.out; clear hSw; go_simp; try with_reducible rfl)
                                refine tkA (i := 19) (v := ?vL3_19) (oi := { dst := some 67, op := Op.indexAddr 41 (Operand.tmp 65) (Operand.tmp 66), type := 0, pos := "law.go:30", after := #[{ on := 17, ground := Ground.data }, { on := 18, ground := Ground.data }, { on := 11, ground := Ground.guard }], guard := some (11, false) }) rfl (by kernel_rfl) (fun _ _ _ h => h) (.inl ⟨by rfl, ?yL3_19⟩) hHeld ?rL3_19; case yL3_19 => (intro w_ hSw; obtain ⟨n_, rfl⟩ := hSw.out; clear hSw; go_simp; try with_reducible rfl)
                                refine tkA (i := 20) (v := ?vL3_20) (oi := { dst := some 68, op := Op.fieldAddr 49 (Operand.tmp 67) 1, type := 0, pos := "law.go:30", after := #[{ on := 19, ground := Ground.data }, { on := 11, ground := Ground.guard }], guard := some (11, false) }) rfl (by kernel_rfl) (fun _ _ _ h => h) (.inl ⟨by rfl, ?yL3_20⟩) hHeld ?rL3_20; case yL3_20 => (intro w_ hSw; obtain ⟨n_, rfl⟩ := hSw.out; clear hSw; go_simp; try with_reducible rfl)
                                (try simp only [Act.put, List.setIfInBounds_toArray, List.set_cons_zero, List.set_cons_succ])
                                refine tkA (i := 21) (v := ?vL3_21) (oi := { dst := some 69, op := Op.load 3 (Operand.tmp 68), type := 3, pos := "law.go:30", after := #[{ on := 20, ground := Ground.data }, { on := 11, ground := Ground.guard }], guard := some (11, false) }) rfl (by kernel_rfl) (fun _ _ _ h => h) (.inl ⟨by rfl, ?yL3_21⟩) hHeld ?rL3_21; case yL3_21 => (intro w_ hSw; obtain ⟨n_, rfl⟩ := hSw.out; clear hSw; go_simp; try with_reducible rfl)
                                refine tkA (i := 22) (v := ?vL3_22) (oi := { dst := some 70, op := Op.binOp BinOp.neq 3 (Operand.tmp 64) (Operand.tmp 69) 3, type := 4, pos := "law.go:30", after := #[{ on := 16, ground := Ground.data }, { on := 21, ground := Ground.data }, { on := 11, ground := Ground.guard }], guard := some (11, false) }) rfl (by kernel_rfl) (fun _ _ _ h => h) (.inl ⟨by rfl, ?yL3_22⟩) hHeld ?rL3_22; case yL3_22 => (intro w_ hSw; obtain ⟨n_, rfl⟩ := hSw.out; clear hSw; go_simp; try with_reducible rfl)
                                refine tkA (i := 23) (v := ?vL3_23) (oi := { dst := some 71, op := Op.pick (Operand.tmp 59) (Operand.const (Value.bool true)) (Operand.tmp 70), type := 4, pos := "law.go:30", after := #[{ on := 11, ground := Ground.data }, { on := 22, ground := Ground.data }], guard := none }) rfl (by kernel_rfl) (fun _ _ _ h => h) (.inl ⟨by rfl, ?yL3_23⟩) hHeld ?rL3_23; case yL3_23 => (intro w_ hSw; obtain ⟨n_, rfl⟩ := hSw.out; clear hSw; go_simp; try with_reducible rfl)
                                (try simp only [Act.put, List.setIfInBounds_toArray, List.set_cons_zero, List.set_cons_succ])
                                refine tkA (i := 24) (v := ?vL3_24) (oi := { dst := some 72, op := Op.move (Operand.tmp 71), type := 4, pos := "law.go:30", after := #[{ on := 23, ground := Ground.data }, { on := 11, ground := Ground.chain }], guard := none }) rfl (by kernel_rfl) (fun _ _ _ h => h) (.inl ⟨by rfl, ?yL3_24⟩) hHeld ?rL3_24; case yL3_24 => (intro w_ hSw; obtain ⟨n_, rfl⟩ := hSw.out; clear hSw; go_simp; try with_reducible rfl)
                                refine tkA (i := 25) (v := ?vL3_25) (oi := { dst := some 73, op := Op.move (Operand.tmp 3), type := 39, pos := "law.go:30", after := #[{ on := 24, ground := Ground.guard }], guard := some (24, false) }) rfl (by kernel_rfl) (fun _ _ _ h => h) (.inl ⟨by rfl, ?yL3_25⟩) hHeld ?rL3_25; case yL3_25 => (intro w_ hSw; obtain ⟨n_, rfl⟩ := hSw.out; clear hSw; go_simp; try with_reducible rfl)
                                refine tkA (i := 26) (v := ?vL3_26) (oi := { dst := some 74, op := Op.move (Operand.tmp 8), type := 3, pos := "law.go:30", after := #[{ on := 24, ground := Ground.guard }], guard := some (24, false) }) rfl (by kernel_rfl) (fun _ _ _ h => h) (.inl ⟨by rfl, ?yL3_26⟩) hHeld ?rL3_26; case yL3_26 => (intro w_ hSw; obtain ⟨n_, rfl⟩ := hSw.out; clear hSw; go_simp; try with_reducible rfl)
                                (try simp only [Act.put, List.setIfInBounds_toArray, List.set_cons_zero, List.set_cons_succ])
                                refine tkA (i := 27) (v := ?vL3_27) (oi := { dst := some 75, op := Op.indexAddr 39 (Operand.tmp 73) (Operand.tmp 74), type := 0, pos := "law.go:30", after := #[{ on := 25, ground := Ground.data }, { on := 26, ground := Ground.data }, { on := 24, ground := Ground.guard }], guard := some (24, false) }) rfl (by kernel_rfl) (fun _ _ _ h => h) (.inl ⟨by rfl, ?yL3_27⟩) hHeld ?rL3_27; case yL3_27 => (intro w_ hSw; obtain ⟨n_, rfl⟩ := hSw.out; clear hSw; go_simp; try with_reducible rfl)
                                refine tkA (i := 28) (v := ?vL3_28) (oi := { dst := some 76, op := Op.fieldAddr 47 (Operand.tmp 75) 3, type := 0, pos := "law.go:30", after := #[{ on := 27, ground := Ground.data }, { on := 24, ground := Ground.guard }], guard := some (24, false) }) rfl (by kernel_rfl) (fun _ _ _ h => h) (.inl ⟨by rfl, ?yL3_28⟩) hHeld ?rL3_28; case yL3_28 => (intro w_ hSw; obtain ⟨n_, rfl⟩ := hSw.out; clear hSw; go_simp; try with_reducible rfl)
                                refine tkA (i := 29) (v := ?vL3_29) (oi := { dst := some 77, op := Op.load 24 (Operand.tmp 76), type := 24, pos := "law.go:30", after := #[{ on := 28, ground := Ground.data }, { on := 24, ground := Ground.guard }], guard := some (24, false) }) rfl (by kernel_rfl) (fun _ _ _ h => h) (.inl ⟨by rfl, ?yL3_29⟩) hHeld ?rL3_29; case yL3_29 => (intro w_ hSw; obtain ⟨n_, rfl⟩ := hSw.out; clear hSw; go_simp; try with_reducible rfl)
                                (try simp only [Act.put, List.setIfInBounds_toArray, List.set_cons_zero, List.set_cons_succ])
                                refine tkA (i := 30) (v := ?vL3_30) (oi := { dst := some 78, op := Op.binOp BinOp.eql 24 (Operand.tmp 77) (Operand.const (Value.int IntKind.i64 0)) 24, type := 4, pos := "law.go:30", after := #[{ on := 29, ground := Ground.data }, { on := 24, ground := Ground.guard }], guard := some (24, false) }) rfl (by kernel_rfl) (fun _ _ _ h => h) (.inl ⟨by rfl, ?yL3_30⟩) hHeld ?rL3_30; case yL3_30 => (intro w_ hSw; obtain ⟨n_, rfl⟩ := hSw.out; clear hSw; go_simp; try with_reducible rfl)
                                refine tkA (i := 31) (v := ?vL3_31) (oi := { dst := some 79, op := Op.move (Operand.tmp 4), type := 41, pos := "law.go:30", after := #[{ on := 24, ground := Ground.guard }], guard := some (24, false) }) rfl (by kernel_rfl) (fun _ _ _ h => h) (.inl ⟨by rfl, ?yL3_31⟩) hHeld ?rL3_31; case yL3_31 => (intro w_ hSw; obtain ⟨n_, rfl⟩ := hSw.out; clear hSw; go_simp; try with_reducible rfl)
                                refine tkA (i := 32) (v := ?vL3_32) (oi := { dst := some 80, op := Op.move (Operand.tmp 8), type := 3, pos := "law.go:30", after := #[{ on := 24, ground := Ground.guard }], guard := some (24, false) }) rfl (by kernel_rfl) (fun _ _ _ h => h) (.inl ⟨by rfl, ?yL3_32⟩) hHeld ?rL3_32; case yL3_32 => (intro w_ hSw; obtain ⟨n_, rfl⟩ := hSw.out; clear hSw; go_simp; try with_reducible rfl)
                                (try simp only [Act.put, List.setIfInBounds_toArray, List.set_cons_zero, List.set_cons_succ])
                                refine tkA (i := 33) (v := ?vL3_33) (oi := { dst := some 81, op := Op.indexAddr 41 (Operand.tmp 79) (Operand.tmp 80), type := 0, pos := "law.go:30", after := #[{ on := 31, ground := Ground.data }, { on := 32, ground := Ground.data }, { on := 24, ground := Ground.guard }], guard := some (24, false) }) rfl (by kernel_rfl) (fun _ _ _ h => h) (.inl ⟨by rfl, ?yL3_33⟩) hHeld ?rL3_33; case yL3_33 => (intro w_ hSw; obtain ⟨n_, rfl⟩ := hSw.out; clear hSw; go_simp; try with_reducible rfl)
                                refine tkA (i := 34) (v := ?vL3_34) (oi := { dst := some 82, op := Op.fieldAddr 49 (Operand.tmp 81) 3, type := 0, pos := "law.go:30", after := #[{ on := 33, ground := Ground.data }, { on := 24, ground := Ground.guard }], guard := some (24, false) }) rfl (by kernel_rfl) (fun _ _ _ h => h) (.inl ⟨by rfl, ?yL3_34⟩) hHeld ?rL3_34; case yL3_34 => (intro w_ hSw; obtain ⟨n_, rfl⟩ := hSw.out; clear hSw; go_simp; try with_reducible rfl)
                                refine tkA (i := 35) (v := ?vL3_35) (oi := { dst := some 83, op := Op.load 4 (Operand.tmp 82), type := 4, pos := "law.go:30", after := #[{ on := 34, ground := Ground.data }, { on := 24, ground := Ground.guard }], guard := some (24, false) }) rfl (by kernel_rfl) (fun _ _ _ h => h) (.inl ⟨by rfl, ?yL3_35⟩) hHeld ?rL3_35; case yL3_35 => (intro w_ hSw; obtain ⟨n_, rfl⟩ := hSw.out; clear hSw; go_simp; try with_reducible rfl)
                                (try simp only [Act.put, List.setIfInBounds_toArray, List.set_cons_zero, List.set_cons_succ])
                                refine tkA (i := 36) (v := ?vL3_36) (oi := { dst := some 84, op := Op.binOp BinOp.neq 4 (Operand.tmp 78) (Operand.tmp 83) 4, type := 4, pos := "law.go:30", after := #[{ on := 30, ground := Ground.data }, { on := 35, ground := Ground.data }, { on := 24, ground := Ground.guard }], guard := some (24, false) }) rfl (by kernel_rfl) (fun _ _ _ h => h) (.inl ⟨by rfl, ?yL3_36⟩) hHeld ?rL3_36; case yL3_36 => (intro w_ hSw; obtain ⟨n_, rfl⟩ := hSw.out; clear hSw; go_simp; try with_reducible rfl)
                                refine tkA (i := 37) (v := ?vL3_37) (oi := { dst := some 85, op := Op.pick (Operand.tmp 72) (Operand.const (Value.bool true)) (Operand.tmp 84), type := 4, pos := "law.go:30", after := #[{ on := 24, ground := Ground.data }, { on := 36, ground := Ground.data }], guard := none }) rfl (by kernel_rfl) (fun _ _ _ h => h) (.inl ⟨by rfl, ?yL3_37⟩) hHeld ?rL3_37; case yL3_37 => (intro w_ hSw; obtain ⟨n_, rfl⟩ := hSw.out; clear hSw; go_simp; try with_reducible rfl)
                                refine tkA (i := 38) (v := ?vL3_38) (oi := { dst := some 86, op := Op.move (Operand.tmp 85), type := 4, pos := "law.go:30", after := #[{ on := 37, ground := Ground.data }, { on := 24, ground := Ground.chain }], guard := none }) rfl (by kernel_rfl) (fun _ _ _ h => h) (.inl ⟨by rfl, ?yL3_38⟩) hHeld ?rL3_38; case yL3_38 => (intro w_ hSw; obtain ⟨n_, rfl⟩ := hSw.out; clear hSw; go_simp; try with_reducible rfl)
                                (try simp only [Act.put, List.setIfInBounds_toArray, List.set_cons_zero, List.set_cons_succ])
                                refine tkA (i := 39) (v := ?vL3_39) (oi := { dst := some 87, op := Op.move (Operand.tmp 3), type := 39, pos := "law.go:30", after := #[{ on := 38, ground := Ground.guard }], guard := some (38, false) }) rfl (by kernel_rfl) (fun _ _ _ h => h) (.inl ⟨by rfl, ?yL3_39⟩) hHeld ?rL3_39; case yL3_39 => (intro w_ hSw; obtain ⟨n_, rfl⟩ := hSw.out; clear hSw; go_simp; try with_reducible rfl)
                                refine tkA (i := 40) (v := ?vL3_40) (oi := { dst := some 88, op := Op.move (Operand.tmp 8), type := 3, pos := "law.go:30", after := #[{ on := 38, ground := Ground.guard }], guard := some (38, false) }) rfl (by kernel_rfl) (fun _ _ _ h => h) (.inl ⟨by rfl, ?yL3_40⟩) hHeld ?rL3_40; case yL3_40 => (intro w_ hSw; obtain ⟨n_, rfl⟩ := hSw.out; clear hSw; go_simp; try with_reducible rfl)
                                refine tkA (i := 41) (v := ?vL3_41) (oi := { dst := some 89, op := Op.indexAddr 39 (Operand.tmp 87) (Operand.tmp 88), type := 0, pos := "law.go:30", after := #[{ on := 39, ground := Ground.data }, { on := 40, ground := Ground.data }, { on := 38, ground := Ground.guard }], guard := some (38, false) }) rfl (by kernel_rfl) (fun _ _ _ h => h) (.inl ⟨by rfl, ?yL3_41⟩) hHeld ?rL3_41; case yL3_41 => (intro w_ hSw; obtain ⟨n_, rfl⟩ := hSw.out; clear hSw; go_simp; try with_reducible rfl)
                                (try simp only [Act.put, List.setIfInBounds_toArray, List.set_cons_zero, List.set_cons_succ])
                                refine tkA (i := 42) (v := ?vL3_42) (oi := { dst := some 90, op := Op.fieldAddr 47 (Operand.tmp 89) 3, type := 0, pos := "law.go:30", after := #[{ on := 41, ground := Ground.data }, { on := 38, ground := Ground.guard }], guard := some (38, false) }) rfl (by kernel_rfl) (fun _ _ _ h => h) (.inl ⟨by rfl, ?yL3_42⟩) hHeld ?rL3_42; case yL3_42 => (intro w_ hSw; obtain ⟨n_, rfl⟩ := hSw.out; clear hSw; go_simp; try with_reducible rfl)
                                refine tkA (i := 43) (v := ?vL3_43) (oi := { dst := some 91, op := Op.load 24 (Operand.tmp 90), type := 24, pos := "law.go:30", after := #[{ on := 42, ground := Ground.data }, { on := 38, ground := Ground.guard }], guard := some (38, false) }) rfl (by kernel_rfl) (fun _ _ _ h => h) (.inl ⟨by rfl, ?yL3_43⟩) hHeld ?rL3_43; case yL3_43 => (intro w_ hSw; obtain ⟨n_, rfl⟩ := hSw.out; clear hSw; go_simp; try with_reducible rfl)
                                refine tkA (i := 44) (v := ?vL3_44) (oi := { dst := some 92, op := Op.binOp BinOp.neq 24 (Operand.tmp 91) (Operand.const (Value.int IntKind.i64 0)) 24, type := 4, pos := "law.go:30", after := #[{ on := 43, ground := Ground.data }, { on := 38, ground := Ground.guard }], guard := some (38, false) }) rfl (by kernel_rfl) (fun _ _ _ h => h) (.inl ⟨by rfl, ?yL3_44⟩) hHeld ?rL3_44; case yL3_44 => (intro w_ hSw; obtain ⟨n_, rfl⟩ := hSw.out; clear hSw; go_simp; try with_reducible rfl)
                                (try simp only [Act.put, List.setIfInBounds_toArray, List.set_cons_zero, List.set_cons_succ])
                                refine tkA (i := 45) (v := ?vL3_45) (oi := { dst := some 93, op := Op.move (Operand.tmp 92), type := 4, pos := "law.go:30", after := #[{ on := 44, ground := Ground.data }, { on := 38, ground := Ground.chain }, { on := 38, ground := Ground.guard }], guard := some (38, false) }) rfl (by kernel_rfl) (fun _ _ _ h => h) (.inl ⟨by rfl, ?yL3_45⟩) hHeld ?rL3_45; case yL3_45 => (intro w_ hSw; obtain ⟨n_, rfl⟩ := hSw.out; clear hSw; go_simp; try with_reducible rfl)
                                refine tkA (i := 46) (v := ?vL3_46) (oi := { dst := some 94, op := Op.move (Operand.tmp 3), type := 39, pos := "law.go:30", after := #[{ on := 45, ground := Ground.guard }], guard := some (45, true) }) rfl (by kernel_rfl) (fun _ _ _ h => h) (.inl ⟨by rfl, ?yL3_46⟩) hHeld ?rL3_46; case yL3_46 => (intro w_ hSw; obtain ⟨n_, rfl⟩ := hSw.out; clear hSw; go_simp; try with_reducible rfl)
                                refine tkA (i := 47) (v := ?vL3_47) (oi := { dst := some 95, op := Op.move (Operand.tmp 8), type := 3, pos := "law.go:30", after := #[{ on := 45, ground := Ground.guard }], guard := some (45, true) }) rfl (by kernel_rfl) (fun _ _ _ h => h) (.inl ⟨by rfl, ?yL3_47⟩) hHeld ?rL3_47; case yL3_47 => (intro w_ hSw; obtain ⟨n_, rfl⟩ := hSw.out; clear hSw; go_simp; try with_reducible rfl)
                                (try simp only [Act.put, List.setIfInBounds_toArray, List.set_cons_zero, List.set_cons_succ])
                                refine tkA (i := 48) (v := ?vL3_48) (oi := { dst := some 96, op := Op.indexAddr 39 (Operand.tmp 94) (Operand.tmp 95), type := 0, pos := "law.go:30", after := #[{ on := 46, ground := Ground.data }, { on := 47, ground := Ground.data }, { on := 45, ground := Ground.guard }], guard := some (45, true) }) rfl (by kernel_rfl) (fun _ _ _ h => h) (.inl ⟨by rfl, ?yL3_48⟩) hHeld ?rL3_48; case yL3_48 => (intro w_ hSw; obtain ⟨n_, rfl⟩ := hSw.out; clear hSw; go_simp; try with_reducible rfl)
                                refine tkA (i := 49) (v := ?vL3_49) (oi := { dst := some 97, op := Op.fieldAddr 47 (Operand.tmp 96) 3, type := 0, pos := "law.go:30", after := #[{ on := 48, ground := Ground.data }, { on := 45, ground := Ground.guard }], guard := some (45, true) }) rfl (by kernel_rfl) (fun _ _ _ h => h) (.inl ⟨by rfl, ?yL3_49⟩) hHeld ?rL3_49; case yL3_49 => (intro w_ hSw; obtain ⟨n_, rfl⟩ := hSw.out; clear hSw; go_simp; try with_reducible rfl)
                                refine tkA (i := 50) (v := ?vL3_50) (oi := { dst := some 98, op := Op.load 24 (Operand.tmp 97), type := 24, pos := "law.go:30", after := #[{ on := 49, ground := Ground.data }, { on := 45, ground := Ground.guard }], guard := some (45, true) }) rfl (by kernel_rfl) (fun _ _ _ h => h) (.inl ⟨by rfl, ?yL3_50⟩) hHeld ?rL3_50; case yL3_50 => (intro w_ hSw; obtain ⟨n_, rfl⟩ := hSw.out; clear hSw; go_simp; try with_reducible rfl)
                                (try simp only [Act.put, List.setIfInBounds_toArray, List.set_cons_zero, List.set_cons_succ])
                                refine tkA (i := 51) (v := ?vL3_51) (oi := { dst := some 99, op := Op.binOp BinOp.neq 24 (Operand.tmp 98) (Operand.const (Value.int IntKind.i64 3)) 24, type := 4, pos := "law.go:30", after := #[{ on := 50, ground := Ground.data }, { on := 45, ground := Ground.guard }], guard := some (45, true) }) rfl (by kernel_rfl) (fun _ _ _ h => h) (.inl ⟨by rfl, ?yL3_51⟩) hHeld ?rL3_51; case yL3_51 => (intro w_ hSw; obtain ⟨n_, rfl⟩ := hSw.out; clear hSw; go_simp; try with_reducible rfl)
                                refine tkA (i := 52) (v := ?vL3_52) (oi := { dst := some 100, op := Op.pick (Operand.tmp 93) (Operand.tmp 99) (Operand.const (Value.bool false)), type := 4, pos := "law.go:30", after := #[{ on := 45, ground := Ground.data }, { on := 51, ground := Ground.data }, { on := 38, ground := Ground.guard }], guard := some (38, false) }) rfl (by kernel_rfl) (fun _ _ _ h => h) (.inl ⟨by rfl, ?yL3_52⟩) hHeld ?rL3_52; case yL3_52 => (intro w_ hSw; obtain ⟨n_, rfl⟩ := hSw.out; clear hSw; go_simp; try with_reducible rfl)
                                refine tkA (i := 53) (v := ?vL3_53) (oi := { dst := some 101, op := Op.pick (Operand.tmp 86) (Operand.const (Value.bool true)) (Operand.tmp 100), type := 4, pos := "law.go:30", after := #[{ on := 38, ground := Ground.data }, { on := 52, ground := Ground.data }], guard := none }) rfl (by kernel_rfl) (fun _ _ _ h => h) (.inl ⟨by rfl, ?yL3_53⟩) hHeld ?rL3_53; case yL3_53 => (intro w_ hSw; obtain ⟨n_, rfl⟩ := hSw.out; clear hSw; go_simp; try with_reducible rfl)
                                (try simp only [Act.put, List.setIfInBounds_toArray, List.set_cons_zero, List.set_cons_succ])
                                refine tkA (i := 54) (v := ?vL3_54) (oi := { dst := some 102, op := Op.move (Operand.tmp 101), type := 4, pos := "law.go:30", after := #[{ on := 53, ground := Ground.data }, { on := 45, ground := Ground.chain }], guard := none }) rfl (by kernel_rfl) (fun _ _ _ h => h) (.inl ⟨by rfl, ?yL3_54⟩) hHeld ?rL3_54; case yL3_54 => (intro w_ hSw; obtain ⟨n_, rfl⟩ := hSw.out; clear hSw; go_simp; try with_reducible rfl)
                                refine tkA (i := 55) (v := undef) (oi := { dst := some 103, op := Op.move (Operand.tmp 3), type := 39, pos := "law.go:30", after := #[{ on := 54, ground := Ground.guard }], guard := some (54, false) }) rfl (by kernel_rfl) (fun _ _ _ h => h) (.inr ⟨by rfl, rfl⟩) hHeld ?rL3_55
                                refine tkA (i := 56) (v := undef) (oi := { dst := some 104, op := Op.move (Operand.tmp 8), type := 3, pos := "law.go:30", after := #[{ on := 54, ground := Ground.guard }], guard := some (54, false) }) rfl (by kernel_rfl) (fun _ _ _ h => h) (.inr ⟨by rfl, rfl⟩) hHeld ?rL3_56
                                (try simp only [Act.put, List.setIfInBounds_toArray, List.set_cons_zero, List.set_cons_succ])
                                refine tkA (i := 57) (v := undef) (oi := { dst := some 105, op := Op.indexAddr 39 (Operand.tmp 103) (Operand.tmp 104), type := 0, pos := "law.go:30", after := #[{ on := 55, ground := Ground.data }, { on := 56, ground := Ground.data }, { on := 54, ground := Ground.guard }], guard := some (54, false) }) rfl (by kernel_rfl) (fun _ _ _ h => h) (.inr ⟨by rfl, rfl⟩) hHeld ?rL3_57
                                refine tkA (i := 58) (v := undef) (oi := { dst := some 106, op := Op.fieldAddr 47 (Operand.tmp 105) 2, type := 0, pos := "law.go:30", after := #[{ on := 57, ground := Ground.data }, { on := 54, ground := Ground.guard }], guard := some (54, false) }) rfl (by kernel_rfl) (fun _ _ _ h => h) (.inr ⟨by rfl, rfl⟩) hHeld ?rL3_58
                                refine tkA (i := 59) (v := undef) (oi := { dst := some 107, op := Op.load 38 (Operand.tmp 106), type := 38, pos := "law.go:30", after := #[{ on := 58, ground := Ground.data }, { on := 54, ground := Ground.guard }], guard := some (54, false) }) rfl (by kernel_rfl) (fun _ _ _ h => h) (.inr ⟨by rfl, rfl⟩) hHeld ?rL3_59
                                (try simp only [Act.put, List.setIfInBounds_toArray, List.set_cons_zero, List.set_cons_succ])
                                refine tkA (i := 60) (v := undef) (oi := { dst := some 108, op := Op.convert 38 9 (Operand.tmp 107), type := 9, pos := "law.go:30", after := #[{ on := 59, ground := Ground.data }, { on := 54, ground := Ground.guard }], guard := some (54, false) }) rfl (by kernel_rfl) (fun _ _ _ h => h) (.inr ⟨by rfl, rfl⟩) hHeld ?rL3_60
                                refine tkA (i := 61) (v := undef) (oi := { dst := some 109, op := Op.move (Operand.tmp 4), type := 41, pos := "law.go:30", after := #[{ on := 54, ground := Ground.guard }], guard := some (54, false) }) rfl (by kernel_rfl) (fun _ _ _ h => h) (.inr ⟨by rfl, rfl⟩) hHeld ?rL3_61
                                refine tkA (i := 62) (v := undef) (oi := { dst := some 110, op := Op.move (Operand.tmp 8), type := 3, pos := "law.go:30", after := #[{ on := 54, ground := Ground.guard }], guard := some (54, false) }) rfl (by kernel_rfl) (fun _ _ _ h => h) (.inr ⟨by rfl, rfl⟩) hHeld ?rL3_62
                                (try simp only [Act.put, List.setIfInBounds_toArray, List.set_cons_zero, List.set_cons_succ])
                                refine tkA (i := 63) (v := undef) (oi := { dst := some 111, op := Op.indexAddr 41 (Operand.tmp 109) (Operand.tmp 110), type := 0, pos := "law.go:30", after := #[{ on := 61, ground := Ground.data }, { on := 62, ground := Ground.data }, { on := 54, ground := Ground.guard }], guard := some (54, false) }) rfl (by kernel_rfl) (fun _ _ _ h => h) (.inr ⟨by rfl, rfl⟩) hHeld ?rL3_63
                                refine tkA (i := 64) (v := undef) (oi := { dst := some 112, op := Op.fieldAddr 49 (Operand.tmp 111) 2, type := 0, pos := "law.go:30", after := #[{ on := 63, ground := Ground.data }, { on := 54, ground := Ground.guard }], guard := some (54, false) }) rfl (by kernel_rfl) (fun _ _ _ h => h) (.inr ⟨by rfl, rfl⟩) hHeld ?rL3_64
                                refine tkA (i := 65) (v := undef) (oi := { dst := some 113, op := Op.load 38 (Operand.tmp 112), type := 38, pos := "law.go:30", after := #[{ on := 64, ground := Ground.data }, { on := 54, ground := Ground.guard }], guard := some (54, false) }) rfl (by kernel_rfl) (fun _ _ _ h => h) (.inr ⟨by rfl, rfl⟩) hHeld ?rL3_65
                                (try simp only [Act.put, List.setIfInBounds_toArray, List.set_cons_zero, List.set_cons_succ])
                                refine tkA (i := 66) (v := undef) (oi := { dst := some 114, op := Op.convert 38 9 (Operand.tmp 113), type := 9, pos := "law.go:30", after := #[{ on := 65, ground := Ground.data }, { on := 54, ground := Ground.guard }], guard := some (54, false) }) rfl (by kernel_rfl) (fun _ _ _ h => h) (.inr ⟨by rfl, rfl⟩) hHeld ?rL3_66
                                refine tkA (i := 67) (v := undef) (oi := { dst := some 115, op := Op.binOp BinOp.neq 9 (Operand.tmp 108) (Operand.tmp 114) 9, type := 4, pos := "law.go:30", after := #[{ on := 60, ground := Ground.data }, { on := 66, ground := Ground.data }, { on := 54, ground := Ground.guard }], guard := some (54, false) }) rfl (by kernel_rfl) (fun _ _ _ h => h) (.inr ⟨by rfl, rfl⟩) hHeld ?rL3_67
                                refine tkA (i := 68) (v := ?vL3_68) (oi := { dst := some 116, op := Op.pick (Operand.tmp 102) (Operand.const (Value.bool true)) (Operand.tmp 115), type := 4, pos := "law.go:30", after := #[{ on := 54, ground := Ground.data }, { on := 67, ground := Ground.data }], guard := none }) rfl (by kernel_rfl) (fun _ _ _ h => h) (.inl ⟨by rfl, ?yL3_68⟩) hHeld ?rL3_68; case yL3_68 => (intro w_ hSw; obtain ⟨n_, rfl⟩ := hSw.out; clear hSw; go_simp; try with_reducible rfl)
                                (try simp only [Act.put, List.setIfInBounds_toArray, List.set_cons_zero, List.set_cons_succ])
                                refine wpAnyH_done (by kernel_rfl) ?_ _
                                go_wp2
                                go_meet
                                case rel => exact ⟨_, (true), (by first | rfl | (simp; done) | (simp [*]; done)), H', ⟨by have := HJ7.out; have := HK2.out; first | omega | exact Nat.le_refl _⟩, ⟨by (with_reducible repeat (first | apply Kd.N_alloc | apply Kd.N_drewN | apply Kd.N_drew)); exact HO_3.out⟩, ⟨by (with_reducible repeat (first | apply Kd.N_alloc | apply Kd.N_drewN | apply Kd.N_drew)); exact HO_4.out⟩, ⟨by repeat (first | (with_reducible first | exact HB.out | apply below_alloc | apply pw_below_drewN | apply below_drew1) | exact HB.out)⟩⟩
                        · rw [if_neg c29] at H
                          have c29b0 : (((rd_T47 t228 x8_2).f1) == ((rd_T49 t231 x8_2).f1)) = false := beq_eq_false_iff_ne.mpr c29
                          have c29b1 : (((rd_T47 t228 x8_2).f1) != ((rd_T49 t231 x8_2).f1)) = true := bne_iff_ne.mpr c29
                          have H' := Aside0.mk H
                          clear H
                          obtain ⟨Ao41, co41, eo41⟩ := Kd.N_slice HO_3.out
                          subst eo41
                          have p239 : 0 ≤ (x8_2 : Int) := of_decide_eq_true (by first | (with_reducible assumption) | assumption)
                          have q239 : x8_2 < (t228.length : Int) := of_decide_eq_true (by first | (with_reducible assumption) | assumption)
                          obtain ⟨ad239, A239_2, c239_2, e239, hx239_0, hx239_1, hx239_2, hx239_3, hl239_2, hi239_2⟩ := at_T47 (Kd.N_reads' HO_3.out).2.2 x8_2 p239 q239
                          cases e239
                          obtain ⟨ce239, hce239, hMe239, hcc239⟩ := Kd.N_get HO_3.out z47 x8_2 p239 (by first | exact q239 | exact of_decide_eq_true (by first | (with_reducible assumption) | assumption) | (have e_ := (Kd.N_reads' HO_3.out).1; omega))
                          obtain ⟨ua239_2, uc239_2, rfl, ul239_2, ge239_2⟩ := k47_openF hMe239
                          have hv239_2 := hcc239 2 _ rfl
                          rw [add_field _ _ 2 (by omega)] at hv239_2
                          replace hv239_2 := Option.some.inj (hv239_2.symm.trans hx239_2)
                          injection hv239_2 with hva_ hvn_ hvc_
                          rw [hva_] at ge239_2
                          rw [hvc_] at ul239_2
                          have HL239_2 := Aside0.mk (show Kd.V (Kd.int .u8) 5 _ w.heap.size _ _ ((rd_T47 t228 x8_2).f2) from Kd.V_mk ul239_2 ge239_2)
                          clear hva_ hvn_ hvc_ ge239_2 ul239_2
                          clear hcc239 hce239
                          have HR239_2 := Aside0.mk hi239_2
                          have HC239_2 := Aside0.mk hl239_2
                          clear hi239_2 hl239_2
                          replace p239 := eq_true p239
                          replace q239 := eq_true q239
                          have p240 : 0 ≤ (x8_2 : Int) := of_decide_eq_true (by first | (with_reducible assumption) | assumption)
                          have q240 : x8_2 < (t231.length : Int) := of_decide_eq_true (by first | (with_reducible assumption) | assumption)
                          obtain ⟨ad240, A240_2, c240_2, e240, hx240_0, hx240_1, hx240_2, hx240_3, hl240_2, hi240_2⟩ := at_T49 (Kd.N_reads' HO_4.out).2.2 x8_2 p240 q240
                          cases e240
                          obtain ⟨ce240, hce240, hMe240, hcc240⟩ := Kd.N_get HO_4.out z49 x8_2 p240 (by first | exact q240 | exact of_decide_eq_true (by first | (with_reducible assumption) | assumption) | (have e_ := (Kd.N_reads' HO_4.out).1; omega))
                          obtain ⟨ua240_2, uc240_2, rfl, ul240_2, ge240_2⟩ := k49_openF hMe240
                          have hv240_2 := hcc240 2 _ rfl
                          rw [add_field _ _ 2 (by omega)] at hv240_2
                          replace hv240_2 := Option.some.inj (hv240_2.symm.trans hx240_2)
                          injection hv240_2 with hva_ hvn_ hvc_
                          rw [hva_] at ge240_2
                          rw [hvc_] at ul240_2
                          have HL240_2 := Aside0.mk (show Kd.V (Kd.int .u8) 5 _ w.heap.size _ _ ((rd_T49 t231 x8_2).f2) from Kd.V_mk ul240_2 ge240_2)
                          clear hva_ hvn_ hvc_ ge240_2 ul240_2
                          clear hcc240 hce240
                          have HR240_2 := Aside0.mk hi240_2
                          have HC240_2 := Aside0.mk hl240_2
                          clear hi240_2 hl240_2
                          replace p240 := eq_true p240
                          replace q240 := eq_true q240
                          go_wp2
                          refine wp_region_held_drew (S := fun w' : World => Drawn0 wr w') (by kernel_rfl) ⟨⟨1, rfl⟩⟩ (fun hHeld => ?_)
                          refine tkA (i := 0) (v := ?vL4_0) (oi := { dst := some 48, op := Op.move (Operand.tmp 3), type := 39, pos := "law.go:30", after := #[], guard := none }) rfl (by kernel_rfl) (fun _ _ _ h => h) (.inl ⟨by rfl, ?yL4_0⟩) hHeld ?rL4_0; case yL4_0 => (intro w_ hSw; obtain ⟨n_, rfl⟩ := hSw.out; clear hSw; go_simp; try with_reducible rfl)
                          refine tkA (i := 1) (v := ?vL4_1) (oi := { dst := some 49, op := Op.move (Operand.tmp 8), type := 3, pos := "law.go:30", after := #[], guard := none }) rfl (by kernel_rfl) (fun _ _ _ h => h) (.inl ⟨by rfl, ?yL4_1⟩) hHeld ?rL4_1; case yL4_1 => (intro w_ hSw; obtain ⟨n_, rfl⟩ := hSw.out; clear hSw; go_simp; try with_reducible rfl)
                          refine tkA (i := 2) (v := ?vL4_2) (oi := { dst := some 50, op := Op.indexAddr 39 (Operand.tmp 48) (Operand.tmp 49), type := 0, pos := "law.go:30", after := #[{ on := 0, ground := Ground.data }, { on := 1, ground := Ground.data }], guard := none }) rfl (by kernel_rfl) (fun _ _ _ h => h) (.inl ⟨by rfl, ?yL4_2⟩) hHeld ?rL4_2; case yL4_2 => (intro w_ hSw; obtain ⟨n_, rfl⟩ := hSw.out; clear hSw; go_simp; try with_reducible rfl)
                          (try simp only [Act.put, List.setIfInBounds_toArray, List.set_cons_zero, List.set_cons_succ])
                          refine tkA (i := 3) (v := ?vL4_3) (oi := { dst := some 51, op := Op.fieldAddr 47 (Operand.tmp 50) 0, type := 0, pos := "law.go:30", after := #[{ on := 2, ground := Ground.data }], guard := none }) rfl (by kernel_rfl) (fun _ _ _ h => h) (.inl ⟨by rfl, ?yL4_3⟩) hHeld ?rL4_3; case yL4_3 => (intro w_ hSw; obtain ⟨n_, rfl⟩ := hSw.out; clear hSw; go_simp; try with_reducible rfl)
                          refine tkA (i := 4) (v := ?vL4_4) (oi := { dst := some 52, op := Op.load 3 (Operand.tmp 51), type := 3, pos := "law.go:30", after := #[{ on := 3, ground := Ground.data }], guard := none }) rfl (by kernel_rfl) (fun _ _ _ h => h) (.inl ⟨by rfl, ?yL4_4⟩) hHeld ?rL4_4; case yL4_4 => (intro w_ hSw; obtain ⟨n_, rfl⟩ := hSw.out; clear hSw; go_simp; try with_reducible rfl)
                          refine tkA (i := 5) (v := ?vL4_5) (oi := { dst := some 53, op := Op.move (Operand.tmp 4), type := 41, pos := "law.go:30", after := #[], guard := none }) rfl (by kernel_rfl) (fun _ _ _ h => h) (.inl ⟨by rfl, ?yL4_5⟩) hHeld ?rL4_5; case yL4_5 => (intro w_ hSw; obtain ⟨n_, rfl⟩ := hSw.out; clear hSw; go_simp; try with_reducible rfl)
                          (try simp only [Act.put, List.setIfInBounds_toArray, List.set_cons_zero, List.set_cons_succ])
                          refine tkA (i := 6) (v := ?vL4_6) (oi := { dst := some 54, op := Op.move (Operand.tmp 8), type := 3, pos := "law.go:30", after := #[], guard := none }) rfl (by kernel_rfl) (fun _ _ _ h => h) (.inl ⟨by rfl, ?yL4_6⟩) hHeld ?rL4_6; case yL4_6 => (intro w_ hSw; obtain ⟨n_, rfl⟩ := hSw.out; clear hSw; go_simp; try with_reducible rfl)
                          refine tkA (i := 7) (v := ?vL4_7) (oi := { dst := some 55, op := Op.indexAddr 41 (Operand.tmp 53) (Operand.tmp 54), type := 0, pos := "law.go:30", after := #[{ on := 5, ground := Ground.data }, { on := 6, ground := Ground.data }], guard := none }) rfl (by kernel_rfl) (fun _ _ _ h => h) (.inl ⟨by rfl, ?yL4_7⟩) hHeld ?rL4_7; case yL4_7 => (intro w_ hSw; obtain ⟨n_, rfl⟩ := hSw.out; clear hSw; go_simp; try with_reducible rfl)
                          refine tkA (i := 8) (v := ?vL4_8) (oi := { dst := some 56, op := Op.fieldAddr 49 (Operand.tmp 55) 0, type := 0, pos := "law.go:30", after := #[{ on := 7, ground := Ground.data }], guard := none }) rfl (by kernel_rfl) (fun _ _ _ h => h) (.inl ⟨by rfl, ?yL4_8⟩) hHeld ?rL4_8; case yL4_8 => (intro w_ hSw; obtain ⟨n_, rfl⟩ := hSw.out; clear hSw; go_simp; try with_reducible rfl)
                          (try simp only [Act.put, List.setIfInBounds_toArray, List.set_cons_zero, List.set_cons_succ])
                          refine tkA (i := 9) (v := ?vL4_9) (oi := { dst := some 57, op := Op.load 3 (Operand.tmp 56), type := 3, pos := "law.go:30", after := #[{ on := 8, ground := Ground.data }], guard := none }) rfl (by kernel_rfl) (fun _ _ _ h => h) (.inl ⟨by rfl, ?yL4_9⟩) hHeld ?rL4_9; case yL4_9 => (intro w_ hSw; obtain ⟨n_, rfl⟩ := hSw.out; clear hSw; go_simp; try with_reducible rfl)
                          refine tkA (i := 10) (v := ?vL4_10) (oi := { dst := some 58, op := Op.binOp BinOp.neq 3 (Operand.tmp 52) (Operand.tmp 57) 3, type := 4, pos := "law.go:30", after := #[{ on := 4, ground := Ground.data }, { on := 9, ground := Ground.data }], guard := none }) rfl (by kernel_rfl) (fun _ _ _ h => h) (.inl ⟨by rfl, ?yL4_10⟩) hHeld ?rL4_10; case yL4_10 => (intro w_ hSw; obtain ⟨n_, rfl⟩ := hSw.out; clear hSw; go_simp; try with_reducible rfl)
                          refine tkA (i := 11) (v := ?vL4_11) (oi := { dst := some 59, op := Op.move (Operand.tmp 58), type := 4, pos := "law.go:30", after := #[{ on := 10, ground := Ground.data }], guard := none }) rfl (by kernel_rfl) (fun _ _ _ h => h) (.inl ⟨by rfl, ?yL4_11⟩) hHeld ?rL4_11; case yL4_11 => (intro w_ hSw; obtain ⟨n_, rfl⟩ := hSw.out; clear hSw; go_simp; try with_reducible rfl)
                          (try simp only [Act.put, List.setIfInBounds_toArray, List.set_cons_zero, List.set_cons_succ])
                          refine tkA (i := 12) (v := ?vL4_12) (oi := { dst := some 60, op := Op.move (Operand.tmp 3), type := 39, pos := "law.go:30", after := #[{ on := 11, ground := Ground.guard }], guard := some (11, false) }) rfl (by kernel_rfl) (fun _ _ _ h => h) (.inl ⟨by rfl, ?yL4_12⟩) hHeld ?rL4_12; case yL4_12 => (intro w_ hSw; obtain ⟨n_, rfl⟩ := hSw.out; clear hSw; go_simp; try with_reducible rfl)
                          refine tkA (i := 13) (v := ?vL4_13) (oi := { dst := some 61, op := Op.move (Operand.tmp 8), type := 3, pos := "law.go:30", after := #[{ on := 11, ground := Ground.guard }], guard := some (11, false) }) rfl (by kernel_rfl) (fun _ _ _ h => h) (.inl ⟨by rfl, ?yL4_13⟩) hHeld ?rL4_13; case yL4_13 => (intro w_ hSw; obtain ⟨n_, rfl⟩ := hSw.out; clear hSw; go_simp; try with_reducible rfl)
                          refine tkA (i := 14) (v := ?vL4_14) (oi := { dst := some 62, op := Op.indexAddr 39 (Operand.tmp 60) (Operand.tmp 61), type := 0, pos := "law.go:30", after := #[{ on := 12, ground := Ground.data }, { on := 13, ground := Ground.data }, { on := 11, ground := Ground.guard }], guard := some (11, false) }) rfl (by kernel_rfl) (fun _ _ _ h => h) (.inl ⟨by rfl, ?yL4_14⟩) hHeld ?rL4_14; case yL4_14 => (intro w_ hSw; obtain ⟨n_, rfl⟩ := hSw.out; clear hSw; go_simp; try with_reducible rfl)
                          (try simp only [Act.put, List.setIfInBounds_toArray, List.set_cons_zero, List.set_cons_succ])
                          refine tkA (i := 15) (v := ?vL4_15) (oi := { dst := some 63, op := Op.fieldAddr 47 (Operand.tmp 62) 1, type := 0, pos := "law.go:30", after := #[{ on := 14, ground := Ground.data }, { on := 11, ground := Ground.guard }], guard := some (11, false) }) rfl (by kernel_rfl) (fun _ _ _ h => h) (.inl ⟨by rfl, ?yL4_15⟩) hHeld ?rL4_15; case yL4_15 => (intro w_ hSw; obtain ⟨n_, rfl⟩ := hSw.out; clear hSw; go_simp; try with_reducible rfl)
                          refine tkA (i := 16) (v := ?vL4_16) (oi := { dst := some 64, op := Op.load 3 (Operand.tmp 63), type := 3, pos := "law.go:30", after := #[{ on := 15, ground := Ground.data }, { on := 11, ground := Ground.guard }], guard := some (11, false) }) rfl (by kernel_rfl) (fun _ _ _ h => h) (.inl ⟨by rfl, ?yL4_16⟩) hHeld ?rL4_16; case yL4_16 => (intro w_ hSw; obtain ⟨n_, rfl⟩ := hSw.out; clear hSw; go_simp; try with_reducible rfl)
                          refine tkA (i := 17) (v := ?vL4_17) (oi := { dst := some 65, op := Op.move (Operand.tmp 4), type := 41, pos := "law.go:30", after := #[{ on := 11, ground := Ground.guard }], guard := some (11, false) }) rfl (by kernel_rfl) (fun _ _ _ h => h) (.inl ⟨by rfl, ?yL4_17⟩) hHeld ?rL4_17; case yL4_17 => (intro w_ hSw; obtain ⟨n_, rfl⟩ := hSw.out; clear hSw; go_simp; try with_reducible rfl)
                          (try simp only [Act.put, List.setIfInBounds_toArray, List.set_cons_zero, List.set_cons_succ])
                          refine tkA (i := 18) (v := ?vL4_18) (oi := { dst := some 66, op := Op.move (Operand.tmp 8), type := 3, pos := "law.go:30", after := #[{ on := 11, ground := Ground.guard }], guard := some (11, false) }) rfl (by kernel_rfl) (fun _ _ _ h => h) (.inl ⟨by rfl, ?yL4_18⟩) hHeld ?rL4_18; case yL4_18 => (intro w_ hSw; obtain ⟨n_, rfl⟩ := hSw.out; clear hSw; go_simp; try with_reducible rfl)
                          refine tkA (i := 19) (v := ?vL4_19) (oi := { dst := some 67, op := Op.indexAddr 41 (Operand.tmp 65) (Operand.tmp 66), type := 0, pos := "law.go:30", after := #[{ on := 17, ground := Ground.data }, { on := 18, ground := Ground.data }, { on := 11, ground := Ground.guard }], guard := some (11, false) }) rfl (by kernel_rfl) (fun _ _ _ h => h) (.inl ⟨by rfl, ?yL4_19⟩) hHeld ?rL4_19; case yL4_19 => (intro w_ hSw; obtain ⟨n_, rfl⟩ := hSw.out; clear hSw; go_simp; try with_reducible rfl)
                          refine tkA (i := 20) (v := ?vL4_20) (oi := { dst := some 68, op := Op.fieldAddr 49 (Operand.tmp 67) 1, type := 0, pos := "law.go:30", after := #[{ on := 19, ground := Ground.data }, { on := 11, ground := Ground.guard }], guard := some (11, false) }) rfl (by kernel_rfl) (fun _ _ _ h => h) (.inl ⟨by rfl, ?yL4_20⟩) hHeld ?rL4_20; case yL4_20 => (intro w_ hSw; obtain ⟨n_, rfl⟩ := hSw.out; clear hSw; go_simp; try with_reducible rfl)
                          (try simp only [Act.put, List.setIfInBounds_toArray, List.set_cons_zero, List.set_cons_succ])
                          refine tkA (i := 21) (v := ?vL4_21) (oi := { dst := some 69, op := Op.load 3 (Operand.tmp 68), type := 3, pos := "law.go:30", after := #[{ on := 20, ground := Ground.data }, { on := 11, ground := Ground.guard }], guard := some (11, false) }) rfl (by kernel_rfl) (fun _ _ _ h => h) (.inl ⟨by rfl, ?yL4_21⟩) hHeld ?rL4_21; case yL4_21 => (intro w_ hSw; obtain ⟨n_, rfl⟩ := hSw.out; clear hSw; go_simp; try with_reducible rfl)
                          refine tkA (i := 22) (v := ?vL4_22) (oi := { dst := some 70, op := Op.binOp BinOp.neq 3 (Operand.tmp 64) (Operand.tmp 69) 3, type := 4, pos := "law.go:30", after := #[{ on := 16, ground := Ground.data }, { on := 21, ground := Ground.data }, { on := 11, ground := Ground.guard }], guard := some (11, false) }) rfl (by kernel_rfl) (fun _ _ _ h => h) (.inl ⟨by rfl, ?yL4_22⟩) hHeld ?rL4_22; case yL4_22 => (intro w_ hSw; obtain ⟨n_, rfl⟩ := hSw.out; clear hSw; go_simp; try with_reducible rfl)
                          refine tkA (i := 23) (v := ?vL4_23) (oi := { dst := some 71, op := Op.pick (Operand.tmp 59) (Operand.const (Value.bool true)) (Operand.tmp 70), type := 4, pos := "law.go:30", after := #[{ on := 11, ground := Ground.data }, { on := 22, ground := Ground.data }], guard := none }) rfl (by kernel_rfl) (fun _ _ _ h => h) (.inl ⟨by rfl, ?yL4_23⟩) hHeld ?rL4_23; case yL4_23 => (intro w_ hSw; obtain ⟨n_, rfl⟩ := hSw.out; clear hSw; go_simp; try with_reducible rfl)
                          (try simp only [Act.put, List.setIfInBounds_toArray, List.set_cons_zero, List.set_cons_succ])
                          refine tkA (i := 24) (v := ?vL4_24) (oi := { dst := some 72, op := Op.move (Operand.tmp 71), type := 4, pos := "law.go:30", after := #[{ on := 23, ground := Ground.data }, { on := 11, ground := Ground.chain }], guard := none }) rfl (by kernel_rfl) (fun _ _ _ h => h) (.inl ⟨by rfl, ?yL4_24⟩) hHeld ?rL4_24; case yL4_24 => (intro w_ hSw; obtain ⟨n_, rfl⟩ := hSw.out; clear hSw; go_simp; try with_reducible rfl)
                          refine tkA (i := 25) (v := undef) (oi := { dst := some 73, op := Op.move (Operand.tmp 3), type := 39, pos := "law.go:30", after := #[{ on := 24, ground := Ground.guard }], guard := some (24, false) }) rfl (by kernel_rfl) (fun _ _ _ h => h) (.inr ⟨by rfl, rfl⟩) hHeld ?rL4_25
                          refine tkA (i := 26) (v := undef) (oi := { dst := some 74, op := Op.move (Operand.tmp 8), type := 3, pos := "law.go:30", after := #[{ on := 24, ground := Ground.guard }], guard := some (24, false) }) rfl (by kernel_rfl) (fun _ _ _ h => h) (.inr ⟨by rfl, rfl⟩) hHeld ?rL4_26
                          (try simp only [Act.put, List.setIfInBounds_toArray, List.set_cons_zero, List.set_cons_succ])
                          refine tkA (i := 27) (v := undef) (oi := { dst := some 75, op := Op.indexAddr 39 (Operand.tmp 73) (Operand.tmp 74), type := 0, pos := "law.go:30", after := #[{ on := 25, ground := Ground.data }, { on := 26, ground := Ground.data }, { on := 24, ground := Ground.guard }], guard := some (24, false) }) rfl (by kernel_rfl) (fun _ _ _ h => h) (.inr ⟨by rfl, rfl⟩) hHeld ?rL4_27
                          refine tkA (i := 28) (v := undef) (oi := { dst := some 76, op := Op.fieldAddr 47 (Operand.tmp 75) 3, type := 0, pos := "law.go:30", after := #[{ on := 27, ground := Ground.data }, { on := 24, ground := Ground.guard }], guard := some (24, false) }) rfl (by kernel_rfl) (fun _ _ _ h => h) (.inr ⟨by rfl, rfl⟩) hHeld ?rL4_28
                          refine tkA (i := 29) (v := undef) (oi := { dst := some 77, op := Op.load 24 (Operand.tmp 76), type := 24, pos := "law.go:30", after := #[{ on := 28, ground := Ground.data }, { on := 24, ground := Ground.guard }], guard := some (24, false) }) rfl (by kernel_rfl) (fun _ _ _ h => h) (.inr ⟨by rfl, rfl⟩) hHeld ?rL4_29
                          (try simp only [Act.put, List.setIfInBounds_toArray, List.set_cons_zero, List.set_cons_succ])
                          refine tkA (i := 30) (v := undef) (oi := { dst := some 78, op := Op.binOp BinOp.eql 24 (Operand.tmp 77) (Operand.const (Value.int IntKind.i64 0)) 24, type := 4, pos := "law.go:30", after := #[{ on := 29, ground := Ground.data }, { on := 24, ground := Ground.guard }], guard := some (24, false) }) rfl (by kernel_rfl) (fun _ _ _ h => h) (.inr ⟨by rfl, rfl⟩) hHeld ?rL4_30
                          refine tkA (i := 31) (v := undef) (oi := { dst := some 79, op := Op.move (Operand.tmp 4), type := 41, pos := "law.go:30", after := #[{ on := 24, ground := Ground.guard }], guard := some (24, false) }) rfl (by kernel_rfl) (fun _ _ _ h => h) (.inr ⟨by rfl, rfl⟩) hHeld ?rL4_31
                          refine tkA (i := 32) (v := undef) (oi := { dst := some 80, op := Op.move (Operand.tmp 8), type := 3, pos := "law.go:30", after := #[{ on := 24, ground := Ground.guard }], guard := some (24, false) }) rfl (by kernel_rfl) (fun _ _ _ h => h) (.inr ⟨by rfl, rfl⟩) hHeld ?rL4_32
                          (try simp only [Act.put, List.setIfInBounds_toArray, List.set_cons_zero, List.set_cons_succ])
                          refine tkA (i := 33) (v := undef) (oi := { dst := some 81, op := Op.indexAddr 41 (Operand.tmp 79) (Operand.tmp 80), type := 0, pos := "law.go:30", after := #[{ on := 31, ground := Ground.data }, { on := 32, ground := Ground.data }, { on := 24, ground := Ground.guard }], guard := some (24, false) }) rfl (by kernel_rfl) (fun _ _ _ h => h) (.inr ⟨by rfl, rfl⟩) hHeld ?rL4_33
                          refine tkA (i := 34) (v := undef) (oi := { dst := some 82, op := Op.fieldAddr 49 (Operand.tmp 81) 3, type := 0, pos := "law.go:30", after := #[{ on := 33, ground := Ground.data }, { on := 24, ground := Ground.guard }], guard := some (24, false) }) rfl (by kernel_rfl) (fun _ _ _ h => h) (.inr ⟨by rfl, rfl⟩) hHeld ?rL4_34
                          refine tkA (i := 35) (v := undef) (oi := { dst := some 83, op := Op.load 4 (Operand.tmp 82), type := 4, pos := "law.go:30", after := #[{ on := 34, ground := Ground.data }, { on := 24, ground := Ground.guard }], guard := some (24, false) }) rfl (by kernel_rfl) (fun _ _ _ h => h) (.inr ⟨by rfl, rfl⟩) hHeld ?rL4_35
                          (try simp only [Act.put, List.setIfInBounds_toArray, List.set_cons_zero, List.set_cons_succ])
                          refine tkA (i := 36) (v := undef) (oi := { dst := some 84, op := Op.binOp BinOp.neq 4 (Operand.tmp 78) (Operand.tmp 83) 4, type := 4, pos := "law.go:30", after := #[{ on := 30, ground := Ground.data }, { on := 35, ground := Ground.data }, { on := 24, ground := Ground.guard }], guard := some (24, false) }) rfl (by kernel_rfl) (fun _ _ _ h => h) (.inr ⟨by rfl, rfl⟩) hHeld ?rL4_36
                          refine tkA (i := 37) (v := ?vL4_37) (oi := { dst := some 85, op := Op.pick (Operand.tmp 72) (Operand.const (Value.bool true)) (Operand.tmp 84), type := 4, pos := "law.go:30", after := #[{ on := 24, ground := Ground.data }, { on := 36, ground := Ground.data }], guard := none }) rfl (by kernel_rfl) (fun _ _ _ h => h) (.inl ⟨by rfl, ?yL4_37⟩) hHeld ?rL4_37; case yL4_37 => (intro w_ hSw; obtain ⟨n_, rfl⟩ := hSw.out; clear hSw; go_simp; try with_reducible rfl)
                          refine tkA (i := 38) (v := ?vL4_38) (oi := { dst := some 86, op := Op.move (Operand.tmp 85), type := 4, pos := "law.go:30", after := #[{ on := 37, ground := Ground.data }, { on := 24, ground := Ground.chain }], guard := none }) rfl (by kernel_rfl) (fun _ _ _ h => h) (.inl ⟨by rfl, ?yL4_38⟩) hHeld ?rL4_38; case yL4_38 => (intro w_ hSw; obtain ⟨n_, rfl⟩ := hSw.out; clear hSw; go_simp; try with_reducible rfl)
                          (try simp only [Act.put, List.setIfInBounds_toArray, List.set_cons_zero, List.set_cons_succ])
                          refine tkA (i := 39) (v := undef) (oi := { dst := some 87, op := Op.move (Operand.tmp 3), type := 39, pos := "law.go:30", after := #[{ on := 38, ground := Ground.guard }], guard := some (38, false) }) rfl (by kernel_rfl) (fun _ _ _ h => h) (.inr ⟨by rfl, rfl⟩) hHeld ?rL4_39
                          refine tkA (i := 40) (v := undef) (oi := { dst := some 88, op := Op.move (Operand.tmp 8), type := 3, pos := "law.go:30", after := #[{ on := 38, ground := Ground.guard }], guard := some (38, false) }) rfl (by kernel_rfl) (fun _ _ _ h => h) (.inr ⟨by rfl, rfl⟩) hHeld ?rL4_40
                          refine tkA (i := 41) (v := undef) (oi := { dst := some 89, op := Op.indexAddr 39 (Operand.tmp 87) (Operand.tmp 88), type := 0, pos := "law.go:30", after := #[{ on := 39, ground := Ground.data }, { on := 40, ground := Ground.data }, { on := 38, ground := Ground.guard }], guard := some (38, false) }) rfl (by kernel_rfl) (fun _ _ _ h => h) (.inr ⟨by rfl, rfl⟩) hHeld ?rL4_41
                          (try simp only [Act.put, List.setIfInBounds_toArray, List.set_cons_zero, List.set_cons_succ])
                          refine tkA (i := 42) (v := undef) (oi := { dst := some 90, op := Op.fieldAddr 47 (Operand.tmp 89) 3, type := 0, pos := "law.go:30", after := #[{ on := 41, ground := Ground.data }, { on := 38, ground := Ground.guard }], guard := some (38, false) }) rfl (by kernel_rfl) (fun _ _ _ h => h) (.inr ⟨by rfl, rfl⟩) hHeld ?rL4_42
                          refine tkA (i := 43) (v := undef) (oi := { dst := some 91, op := Op.load 24 (Operand.tmp 90), type := 24, pos := "law.go:30", after := #[{ on := 42, ground := Ground.data }, { on := 38, ground := Ground.guard }], guard := some (38, false) }) rfl (by kernel_rfl) (fun _ _ _ h => h) (.inr ⟨by rfl, rfl⟩) hHeld ?rL4_43
                          refine tkA (i := 44) (v := undef) (oi := { dst := some 92, op := Op.binOp BinOp.neq 24 (Operand.tmp 91) (Operand.const (Value.int IntKind.i64 0)) 24, type := 4, pos := "law.go:30", after := #[{ on := 43, ground := Ground.data }, { on := 38, ground := Ground.guard }], guard := some (38, false) }) rfl (by kernel_rfl) (fun _ _ _ h => h) (.inr ⟨by rfl, rfl⟩) hHeld ?rL4_44
                          (try simp only [Act.put, List.setIfInBounds_toArray, List.set_cons_zero, List.set_cons_succ])
                          refine tkA (i := 45) (v := undef) (oi := { dst := some 93, op := Op.move (Operand.tmp 92), type := 4, pos := "law.go:30", after := #[{ on := 44, ground := Ground.data }, { on := 38, ground := Ground.chain }, { on := 38, ground := Ground.guard }], guard := some (38, false) }) rfl (by kernel_rfl) (fun _ _ _ h => h) (.inr ⟨by rfl, rfl⟩) hHeld ?rL4_45
                          refine tkA (i := 46) (v := undef) (oi := { dst := some 94, op := Op.move (Operand.tmp 3), type := 39, pos := "law.go:30", after := #[{ on := 45, ground := Ground.guard }], guard := some (45, true) }) rfl (by kernel_rfl) (fun _ _ _ h => h) (.inr ⟨by rfl, rfl⟩) hHeld ?rL4_46
                          refine tkA (i := 47) (v := undef) (oi := { dst := some 95, op := Op.move (Operand.tmp 8), type := 3, pos := "law.go:30", after := #[{ on := 45, ground := Ground.guard }], guard := some (45, true) }) rfl (by kernel_rfl) (fun _ _ _ h => h) (.inr ⟨by rfl, rfl⟩) hHeld ?rL4_47
                          (try simp only [Act.put, List.setIfInBounds_toArray, List.set_cons_zero, List.set_cons_succ])
                          refine tkA (i := 48) (v := undef) (oi := { dst := some 96, op := Op.indexAddr 39 (Operand.tmp 94) (Operand.tmp 95), type := 0, pos := "law.go:30", after := #[{ on := 46, ground := Ground.data }, { on := 47, ground := Ground.data }, { on := 45, ground := Ground.guard }], guard := some (45, true) }) rfl (by kernel_rfl) (fun _ _ _ h => h) (.inr ⟨by rfl, rfl⟩) hHeld ?rL4_48
                          refine tkA (i := 49) (v := undef) (oi := { dst := some 97, op := Op.fieldAddr 47 (Operand.tmp 96) 3, type := 0, pos := "law.go:30", after := #[{ on := 48, ground := Ground.data }, { on := 45, ground := Ground.guard }], guard := some (45, true) }) rfl (by kernel_rfl) (fun _ _ _ h => h) (.inr ⟨by rfl, rfl⟩) hHeld ?rL4_49
                          refine tkA (i := 50) (v := undef) (oi := { dst := some 98, op := Op.load 24 (Operand.tmp 97), type := 24, pos := "law.go:30", after := #[{ on := 49, ground := Ground.data }, { on := 45, ground := Ground.guard }], guard := some (45, true) }) rfl (by kernel_rfl) (fun _ _ _ h => h) (.inr ⟨by rfl, rfl⟩) hHeld ?rL4_50
                          (try simp only [Act.put, List.setIfInBounds_toArray, List.set_cons_zero, List.set_cons_succ])
                          refine tkA (i := 51) (v := undef) (oi := { dst := some 99, op := Op.binOp BinOp.neq 24 (Operand.tmp 98) (Operand.const (Value.int IntKind.i64 3)) 24, type := 4, pos := "law.go:30", after := #[{ on := 50, ground := Ground.data }, { on := 45, ground := Ground.guard }], guard := some (45, true) }) rfl (by kernel_rfl) (fun _ _ _ h => h) (.inr ⟨by rfl, rfl⟩) hHeld ?rL4_51
                          refine tkA (i := 52) (v := undef) (oi := { dst := some 100, op := Op.pick (Operand.tmp 93) (Operand.tmp 99) (Operand.const (Value.bool false)), type := 4, pos := "law.go:30", after := #[{ on := 45, ground := Ground.data }, { on := 51, ground := Ground.data }, { on := 38, ground := Ground.guard }], guard := some (38, false) }) rfl (by kernel_rfl) (fun _ _ _ h => h) (.inr ⟨by rfl, rfl⟩) hHeld ?rL4_52
                          refine tkA (i := 53) (v := ?vL4_53) (oi := { dst := some 101, op := Op.pick (Operand.tmp 86) (Operand.const (Value.bool true)) (Operand.tmp 100), type := 4, pos := "law.go:30", after := #[{ on := 38, ground := Ground.data }, { on := 52, ground := Ground.data }], guard := none }) rfl (by kernel_rfl) (fun _ _ _ h => h) (.inl ⟨by rfl, ?yL4_53⟩) hHeld ?rL4_53; case yL4_53 => (intro w_ hSw; obtain ⟨n_, rfl⟩ := hSw.out; clear hSw; go_simp; try with_reducible rfl)
                          (try simp only [Act.put, List.setIfInBounds_toArray, List.set_cons_zero, List.set_cons_succ])
                          refine tkA (i := 54) (v := ?vL4_54) (oi := { dst := some 102, op := Op.move (Operand.tmp 101), type := 4, pos := "law.go:30", after := #[{ on := 53, ground := Ground.data }, { on := 45, ground := Ground.chain }], guard := none }) rfl (by kernel_rfl) (fun _ _ _ h => h) (.inl ⟨by rfl, ?yL4_54⟩) hHeld ?rL4_54; case yL4_54 => (intro w_ hSw; obtain ⟨n_, rfl⟩ := hSw.out; clear hSw; go_simp; try with_reducible rfl)
                          refine tkA (i := 55) (v := undef) (oi := { dst := some 103, op := Op.move (Operand.tmp 3), type := 39, pos := "law.go:30", after := #[{ on := 54, ground := Ground.guard }], guard := some (54, false) }) rfl (by kernel_rfl) (fun _ _ _ h => h) (.inr ⟨by rfl, rfl⟩) hHeld ?rL4_55
                          refine tkA (i := 56) (v := undef) (oi := { dst := some 104, op := Op.move (Operand.tmp 8), type := 3, pos := "law.go:30", after := #[{ on := 54, ground := Ground.guard }], guard := some (54, false) }) rfl (by kernel_rfl) (fun _ _ _ h => h) (.inr ⟨by rfl, rfl⟩) hHeld ?rL4_56
                          (try simp only [Act.put, List.setIfInBounds_toArray, List.set_cons_zero, List.set_cons_succ])
                          refine tkA (i := 57) (v := undef) (oi := { dst := some 105, op := Op.indexAddr 39 (Operand.tmp 103) (Operand.tmp 104), type := 0, pos := "law.go:30", after := #[{ on := 55, ground := Ground.data }, { on := 56, ground := Ground.data }, { on := 54, ground := Ground.guard }], guard := some (54, false) }) rfl (by kernel_rfl) (fun _ _ _ h => h) (.inr ⟨by rfl, rfl⟩) hHeld ?rL4_57
                          refine tkA (i := 58) (v := undef) (oi := { dst := some 106, op := Op.fieldAddr 47 (Operand.tmp 105) 2, type := 0, pos := "law.go:30", after := #[{ on := 57, ground := Ground.data }, { on := 54, ground := Ground.guard }], guard := some (54, false) }) rfl (by kernel_rfl) (fun _ _ _ h => h) (.inr ⟨by rfl, rfl⟩) hHeld ?rL4_58
                          refine tkA (i := 59) (v := undef) (oi := { dst := some 107, op := Op.load 38 (Operand.tmp 106), type := 38, pos := "law.go:30", after := #[{ on := 58, ground := Ground.data }, { on := 54, ground := Ground.guard }], guard := some (54, false) }) rfl (by kernel_rfl) (fun _ _ _ h => h) (.inr ⟨by rfl, rfl⟩) hHeld ?rL4_59
                          (try simp only [Act.put, List.setIfInBounds_toArray, List.set_cons_zero, List.set_cons_succ])
                          refine tkA (i := 60) (v := undef) (oi := { dst := some 108, op := Op.convert 38 9 (Operand.tmp 107), type := 9, pos := "law.go:30", after := #[{ on := 59, ground := Ground.data }, { on := 54, ground := Ground.guard }], guard := some (54, false) }) rfl (by kernel_rfl) (fun _ _ _ h => h) (.inr ⟨by rfl, rfl⟩) hHeld ?rL4_60
                          refine tkA (i := 61) (v := undef) (oi := { dst := some 109, op := Op.move (Operand.tmp 4), type := 41, pos := "law.go:30", after := #[{ on := 54, ground := Ground.guard }], guard := some (54, false) }) rfl (by kernel_rfl) (fun _ _ _ h => h) (.inr ⟨by rfl, rfl⟩) hHeld ?rL4_61
                          refine tkA (i := 62) (v := undef) (oi := { dst := some 110, op := Op.move (Operand.tmp 8), type := 3, pos := "law.go:30", after := #[{ on := 54, ground := Ground.guard }], guard := some (54, false) }) rfl (by kernel_rfl) (fun _ _ _ h => h) (.inr ⟨by rfl, rfl⟩) hHeld ?rL4_62
                          (try simp only [Act.put, List.setIfInBounds_toArray, List.set_cons_zero, List.set_cons_succ])
                          refine tkA (i := 63) (v := undef) (oi := { dst := some 111, op := Op.indexAddr 41 (Operand.tmp 109) (Operand.tmp 110), type := 0, pos := "law.go:30", after := #[{ on := 61, ground := Ground.data }, { on := 62, ground := Ground.data }, { on := 54, ground := Ground.guard }], guard := some (54, false) }) rfl (by kernel_rfl) (fun _ _ _ h => h) (.inr ⟨by rfl, rfl⟩) hHeld ?rL4_63
                          refine tkA (i := 64) (v := undef) (oi := { dst := some 112, op := Op.fieldAddr 49 (Operand.tmp 111) 2, type := 0, pos := "law.go:30", after := #[{ on := 63, ground := Ground.data }, { on := 54, ground := Ground.guard }], guard := some (54, false) }) rfl (by kernel_rfl) (fun _ _ _ h => h) (.inr ⟨by rfl, rfl⟩) hHeld ?rL4_64
                          refine tkA (i := 65) (v := undef) (oi := { dst := some 113, op := Op.load 38 (Operand.tmp 112), type := 38, pos := "law.go:30", after := #[{ on := 64, ground := Ground.data }, { on := 54, ground := Ground.guard }], guard := some (54, false) }) rfl (by kernel_rfl) (fun _ _ _ h => h) (.inr ⟨by rfl, rfl⟩) hHeld ?rL4_65
                          (try simp only [Act.put, List.setIfInBounds_toArray, List.set_cons_zero, List.set_cons_succ])
                          refine tkA (i := 66) (v := undef) (oi := { dst := some 114, op := Op.convert 38 9 (Operand.tmp 113), type := 9, pos := "law.go:30", after := #[{ on := 65, ground := Ground.data }, { on := 54, ground := Ground.guard }], guard := some (54, false) }) rfl (by kernel_rfl) (fun _ _ _ h => h) (.inr ⟨by rfl, rfl⟩) hHeld ?rL4_66
                          refine tkA (i := 67) (v := undef) (oi := { dst := some 115, op := Op.binOp BinOp.neq 9 (Operand.tmp 108) (Operand.tmp 114) 9, type := 4, pos := "law.go:30", after := #[{ on := 60, ground := Ground.data }, { on := 66, ground := Ground.data }, { on := 54, ground := Ground.guard }], guard := some (54, false) }) rfl (by kernel_rfl) (fun _ _ _ h => h) (.inr ⟨by rfl, rfl⟩) hHeld ?rL4_67
                          refine tkA (i := 68) (v := ?vL4_68) (oi := { dst := some 116, op := Op.pick (Operand.tmp 102) (Operand.const (Value.bool true)) (Operand.tmp 115), type := 4, pos := "law.go:30", after := #[{ on := 54, ground := Ground.data }, { on := 67, ground := Ground.data }], guard := none }) rfl (by kernel_rfl) (fun _ _ _ h => h) (.inl ⟨by rfl, ?yL4_68⟩) hHeld ?rL4_68; case yL4_68 => (intro w_ hSw; obtain ⟨n_, rfl⟩ := hSw.out; clear hSw; go_simp; try with_reducible rfl)
                          (try simp only [Act.put, List.setIfInBounds_toArray, List.set_cons_zero, List.set_cons_succ])
                          refine wpAnyH_done (by kernel_rfl) ?_ _
                          go_wp2
                          go_meet
                          case rel => exact ⟨_, (true), (by first | rfl | (simp; done) | (simp [*]; done)), H', ⟨by have := HJ7.out; have := HK2.out; first | omega | exact Nat.le_refl _⟩, ⟨by (with_reducible repeat (first | apply Kd.N_alloc | apply Kd.N_drewN | apply Kd.N_drew)); exact HO_3.out⟩, ⟨by (with_reducible repeat (first | apply Kd.N_alloc | apply Kd.N_drewN | apply Kd.N_drew)); exact HO_4.out⟩, ⟨by repeat (first | (with_reducible first | exact HB.out | apply below_alloc | apply pw_below_drewN | apply below_drew1) | exact HB.out)⟩⟩
                      · rw [if_neg c28] at H
                        have c28b0 : (((rd_T47 t228 x8_2).f0) == ((rd_T49 t231 x8_2).f0)) = false := beq_eq_false_iff_ne.mpr c28
                        have c28b1 : (((rd_T47 t228 x8_2).f0) != ((rd_T49 t231 x8_2).f0)) = true := bne_iff_ne.mpr c28
                        have H' := Aside0.mk H
                        clear H
                        obtain ⟨Ao42, co42, eo42⟩ := Kd.N_slice HO_3.out
                        subst eo42
                        have p239 : 0 ≤ (x8_2 : Int) := of_decide_eq_true (by first | (with_reducible assumption) | assumption)
                        have q239 : x8_2 < (t228.length : Int) := of_decide_eq_true (by first | (with_reducible assumption) | assumption)
                        obtain ⟨ad239, A239_2, c239_2, e239, hx239_0, hx239_1, hx239_2, hx239_3, hl239_2, hi239_2⟩ := at_T47 (Kd.N_reads' HO_3.out).2.2 x8_2 p239 q239
                        cases e239
                        obtain ⟨ce239, hce239, hMe239, hcc239⟩ := Kd.N_get HO_3.out z47 x8_2 p239 (by first | exact q239 | exact of_decide_eq_true (by first | (with_reducible assumption) | assumption) | (have e_ := (Kd.N_reads' HO_3.out).1; omega))
                        obtain ⟨ua239_2, uc239_2, rfl, ul239_2, ge239_2⟩ := k47_openF hMe239
                        have hv239_2 := hcc239 2 _ rfl
                        rw [add_field _ _ 2 (by omega)] at hv239_2
                        replace hv239_2 := Option.some.inj (hv239_2.symm.trans hx239_2)
                        injection hv239_2 with hva_ hvn_ hvc_
                        rw [hva_] at ge239_2
                        rw [hvc_] at ul239_2
                        have HL239_2 := Aside0.mk (show Kd.V (Kd.int .u8) 5 _ w.heap.size _ _ ((rd_T47 t228 x8_2).f2) from Kd.V_mk ul239_2 ge239_2)
                        clear hva_ hvn_ hvc_ ge239_2 ul239_2
                        clear hcc239 hce239
                        have HR239_2 := Aside0.mk hi239_2
                        have HC239_2 := Aside0.mk hl239_2
                        clear hi239_2 hl239_2
                        replace p239 := eq_true p239
                        replace q239 := eq_true q239
                        have p240 : 0 ≤ (x8_2 : Int) := of_decide_eq_true (by first | (with_reducible assumption) | assumption)
                        have q240 : x8_2 < (t231.length : Int) := of_decide_eq_true (by first | (with_reducible assumption) | assumption)
                        obtain ⟨ad240, A240_2, c240_2, e240, hx240_0, hx240_1, hx240_2, hx240_3, hl240_2, hi240_2⟩ := at_T49 (Kd.N_reads' HO_4.out).2.2 x8_2 p240 q240
                        cases e240
                        obtain ⟨ce240, hce240, hMe240, hcc240⟩ := Kd.N_get HO_4.out z49 x8_2 p240 (by first | exact q240 | exact of_decide_eq_true (by first | (with_reducible assumption) | assumption) | (have e_ := (Kd.N_reads' HO_4.out).1; omega))
                        obtain ⟨ua240_2, uc240_2, rfl, ul240_2, ge240_2⟩ := k49_openF hMe240
                        have hv240_2 := hcc240 2 _ rfl
                        rw [add_field _ _ 2 (by omega)] at hv240_2
                        replace hv240_2 := Option.some.inj (hv240_2.symm.trans hx240_2)
                        injection hv240_2 with hva_ hvn_ hvc_
                        rw [hva_] at ge240_2
                        rw [hvc_] at ul240_2
                        have HL240_2 := Aside0.mk (show Kd.V (Kd.int .u8) 5 _ w.heap.size _ _ ((rd_T49 t231 x8_2).f2) from Kd.V_mk ul240_2 ge240_2)
                        clear hva_ hvn_ hvc_ ge240_2 ul240_2
                        clear hcc240 hce240
                        have HR240_2 := Aside0.mk hi240_2
                        have HC240_2 := Aside0.mk hl240_2
                        clear hi240_2 hl240_2
                        replace p240 := eq_true p240
                        replace q240 := eq_true q240
                        go_wp2
                        refine wp_region_held_drew (S := fun w' : World => Drawn0 wr w') (by kernel_rfl) ⟨⟨1, rfl⟩⟩ (fun hHeld => ?_)
                        refine tkA (i := 0) (v := ?vL5_0) (oi := { dst := some 48, op := Op.move (Operand.tmp 3), type := 39, pos := "law.go:30", after := #[], guard := none }) rfl (by kernel_rfl) (fun _ _ _ h => h) (.inl ⟨by rfl, ?yL5_0⟩) hHeld ?rL5_0; case yL5_0 => (intro w_ hSw; obtain ⟨n_, rfl⟩ := hSw.out; clear hSw; go_simp; try with_reducible rfl)
                        refine tkA (i := 1) (v := ?vL5_1) (oi := { dst := some 49, op := Op.move (Operand.tmp 8), type := 3, pos := "law.go:30", after := #[], guard := none }) rfl (by kernel_rfl) (fun _ _ _ h => h) (.inl ⟨by rfl, ?yL5_1⟩) hHeld ?rL5_1; case yL5_1 => (intro w_ hSw; obtain ⟨n_, rfl⟩ := hSw.out; clear hSw; go_simp; try with_reducible rfl)
                        refine tkA (i := 2) (v := ?vL5_2) (oi := { dst := some 50, op := Op.indexAddr 39 (Operand.tmp 48) (Operand.tmp 49), type := 0, pos := "law.go:30", after := #[{ on := 0, ground := Ground.data }, { on := 1, ground := Ground.data }], guard := none }) rfl (by kernel_rfl) (fun _ _ _ h => h) (.inl ⟨by rfl, ?yL5_2⟩) hHeld ?rL5_2; case yL5_2 => (intro w_ hSw; obtain ⟨n_, rfl⟩ := hSw.out; clear hSw; go_simp; try with_reducible rfl)
                        (try simp only [Act.put, List.setIfInBounds_toArray, List.set_cons_zero, List.set_cons_succ])
                        refine tkA (i := 3) (v := ?vL5_3) (oi := { dst := some 51, op := Op.fieldAddr 47 (Operand.tmp 50) 0, type := 0, pos := "law.go:30", after := #[{ on := 2, ground := Ground.data }], guard := none }) rfl (by kernel_rfl) (fun _ _ _ h => h) (.inl ⟨by rfl, ?yL5_3⟩) hHeld ?rL5_3; case yL5_3 => (intro w_ hSw; obtain ⟨n_, rfl⟩ := hSw.out; clear hSw; go_simp; try with_reducible rfl)
                        refine tkA (i := 4) (v := ?vL5_4) (oi := { dst := some 52, op := Op.load 3 (Operand.tmp 51), type := 3, pos := "law.go:30", after := #[{ on := 3, ground := Ground.data }], guard := none }) rfl (by kernel_rfl) (fun _ _ _ h => h) (.inl ⟨by rfl, ?yL5_4⟩) hHeld ?rL5_4; case yL5_4 => (intro w_ hSw; obtain ⟨n_, rfl⟩ := hSw.out; clear hSw; go_simp; try with_reducible rfl)
                        refine tkA (i := 5) (v := ?vL5_5) (oi := { dst := some 53, op := Op.move (Operand.tmp 4), type := 41, pos := "law.go:30", after := #[], guard := none }) rfl (by kernel_rfl) (fun _ _ _ h => h) (.inl ⟨by rfl, ?yL5_5⟩) hHeld ?rL5_5; case yL5_5 => (intro w_ hSw; obtain ⟨n_, rfl⟩ := hSw.out; clear hSw; go_simp; try with_reducible rfl)
                        (try simp only [Act.put, List.setIfInBounds_toArray, List.set_cons_zero, List.set_cons_succ])
                        refine tkA (i := 6) (v := ?vL5_6) (oi := { dst := some 54, op := Op.move (Operand.tmp 8), type := 3, pos := "law.go:30", after := #[], guard := none }) rfl (by kernel_rfl) (fun _ _ _ h => h) (.inl ⟨by rfl, ?yL5_6⟩) hHeld ?rL5_6; case yL5_6 => (intro w_ hSw; obtain ⟨n_, rfl⟩ := hSw.out; clear hSw; go_simp; try with_reducible rfl)
                        refine tkA (i := 7) (v := ?vL5_7) (oi := { dst := some 55, op := Op.indexAddr 41 (Operand.tmp 53) (Operand.tmp 54), type := 0, pos := "law.go:30", after := #[{ on := 5, ground := Ground.data }, { on := 6, ground := Ground.data }], guard := none }) rfl (by kernel_rfl) (fun _ _ _ h => h) (.inl ⟨by rfl, ?yL5_7⟩) hHeld ?rL5_7; case yL5_7 => (intro w_ hSw; obtain ⟨n_, rfl⟩ := hSw.out; clear hSw; go_simp; try with_reducible rfl)
                        refine tkA (i := 8) (v := ?vL5_8) (oi := { dst := some 56, op := Op.fieldAddr 49 (Operand.tmp 55) 0, type := 0, pos := "law.go:30", after := #[{ on := 7, ground := Ground.data }], guard := none }) rfl (by kernel_rfl) (fun _ _ _ h => h) (.inl ⟨by rfl, ?yL5_8⟩) hHeld ?rL5_8; case yL5_8 => (intro w_ hSw; obtain ⟨n_, rfl⟩ := hSw.out; clear hSw; go_simp; try with_reducible rfl)
                        (try simp only [Act.put, List.setIfInBounds_toArray, List.set_cons_zero, List.set_cons_succ])
                        refine tkA (i := 9) (v := ?vL5_9) (oi := { dst := some 57, op := Op.load 3 (Operand.tmp 56), type := 3, pos := "law.go:30", after := #[{ on := 8, ground := Ground.data }], guard := none }) rfl (by kernel_rfl) (fun _ _ _ h => h) (.inl ⟨by rfl, ?yL5_9⟩) hHeld ?rL5_9; case yL5_9 => (intro w_ hSw; obtain ⟨n_, rfl⟩ := hSw.out; clear hSw; go_simp; try with_reducible rfl)
                        refine tkA (i := 10) (v := ?vL5_10) (oi := { dst := some 58, op := Op.binOp BinOp.neq 3 (Operand.tmp 52) (Operand.tmp 57) 3, type := 4, pos := "law.go:30", after := #[{ on := 4, ground := Ground.data }, { on := 9, ground := Ground.data }], guard := none }) rfl (by kernel_rfl) (fun _ _ _ h => h) (.inl ⟨by rfl, ?yL5_10⟩) hHeld ?rL5_10; case yL5_10 => (intro w_ hSw; obtain ⟨n_, rfl⟩ := hSw.out; clear hSw; go_simp; try with_reducible rfl)
                        refine tkA (i := 11) (v := ?vL5_11) (oi := { dst := some 59, op := Op.move (Operand.tmp 58), type := 4, pos := "law.go:30", after := #[{ on := 10, ground := Ground.data }], guard := none }) rfl (by kernel_rfl) (fun _ _ _ h => h) (.inl ⟨by rfl, ?yL5_11⟩) hHeld ?rL5_11; case yL5_11 => (intro w_ hSw; obtain ⟨n_, rfl⟩ := hSw.out; clear hSw; go_simp; try with_reducible rfl)
                        (try simp only [Act.put, List.setIfInBounds_toArray, List.set_cons_zero, List.set_cons_succ])
                        refine tkA (i := 12) (v := undef) (oi := { dst := some 60, op := Op.move (Operand.tmp 3), type := 39, pos := "law.go:30", after := #[{ on := 11, ground := Ground.guard }], guard := some (11, false) }) rfl (by kernel_rfl) (fun _ _ _ h => h) (.inr ⟨by rfl, rfl⟩) hHeld ?rL5_12
                        refine tkA (i := 13) (v := undef) (oi := { dst := some 61, op := Op.move (Operand.tmp 8), type := 3, pos := "law.go:30", after := #[{ on := 11, ground := Ground.guard }], guard := some (11, false) }) rfl (by kernel_rfl) (fun _ _ _ h => h) (.inr ⟨by rfl, rfl⟩) hHeld ?rL5_13
                        refine tkA (i := 14) (v := undef) (oi := { dst := some 62, op := Op.indexAddr 39 (Operand.tmp 60) (Operand.tmp 61), type := 0, pos := "law.go:30", after := #[{ on := 12, ground := Ground.data }, { on := 13, ground := Ground.data }, { on := 11, ground := Ground.guard }], guard := some (11, false) }) rfl (by kernel_rfl) (fun _ _ _ h => h) (.inr ⟨by rfl, rfl⟩) hHeld ?rL5_14
                        (try simp only [Act.put, List.setIfInBounds_toArray, List.set_cons_zero, List.set_cons_succ])
                        refine tkA (i := 15) (v := undef) (oi := { dst := some 63, op := Op.fieldAddr 47 (Operand.tmp 62) 1, type := 0, pos := "law.go:30", after := #[{ on := 14, ground := Ground.data }, { on := 11, ground := Ground.guard }], guard := some (11, false) }) rfl (by kernel_rfl) (fun _ _ _ h => h) (.inr ⟨by rfl, rfl⟩) hHeld ?rL5_15
                        refine tkA (i := 16) (v := undef) (oi := { dst := some 64, op := Op.load 3 (Operand.tmp 63), type := 3, pos := "law.go:30", after := #[{ on := 15, ground := Ground.data }, { on := 11, ground := Ground.guard }], guard := some (11, false) }) rfl (by kernel_rfl) (fun _ _ _ h => h) (.inr ⟨by rfl, rfl⟩) hHeld ?rL5_16
                        refine tkA (i := 17) (v := undef) (oi := { dst := some 65, op := Op.move (Operand.tmp 4), type := 41, pos := "law.go:30", after := #[{ on := 11, ground := Ground.guard }], guard := some (11, false) }) rfl (by kernel_rfl) (fun _ _ _ h => h) (.inr ⟨by rfl, rfl⟩) hHeld ?rL5_17
                        (try simp only [Act.put, List.setIfInBounds_toArray, List.set_cons_zero, List.set_cons_succ])
                        refine tkA (i := 18) (v := undef) (oi := { dst := some 66, op := Op.move (Operand.tmp 8), type := 3, pos := "law.go:30", after := #[{ on := 11, ground := Ground.guard }], guard := some (11, false) }) rfl (by kernel_rfl) (fun _ _ _ h => h) (.inr ⟨by rfl, rfl⟩) hHeld ?rL5_18
                        refine tkA (i := 19) (v := undef) (oi := { dst := some 67, op := Op.indexAddr 41 (Operand.tmp 65) (Operand.tmp 66), type := 0, pos := "law.go:30", after := #[{ on := 17, ground := Ground.data }, { on := 18, ground := Ground.data }, { on := 11, ground := Ground.guard }], guard := some (11, false) }) rfl (by kernel_rfl) (fun _ _ _ h => h) (.inr ⟨by rfl, rfl⟩) hHeld ?rL5_19
                        refine tkA (i := 20) (v := undef) (oi := { dst := some 68, op := Op.fieldAddr 49 (Operand.tmp 67) 1, type := 0, pos := "law.go:30", after := #[{ on := 19, ground := Ground.data }, { on := 11, ground := Ground.guard }], guard := some (11, false) }) rfl (by kernel_rfl) (fun _ _ _ h => h) (.inr ⟨by rfl, rfl⟩) hHeld ?rL5_20
                        (try simp only [Act.put, List.setIfInBounds_toArray, List.set_cons_zero, List.set_cons_succ])
                        refine tkA (i := 21) (v := undef) (oi := { dst := some 69, op := Op.load 3 (Operand.tmp 68), type := 3, pos := "law.go:30", after := #[{ on := 20, ground := Ground.data }, { on := 11, ground := Ground.guard }], guard := some (11, false) }) rfl (by kernel_rfl) (fun _ _ _ h => h) (.inr ⟨by rfl, rfl⟩) hHeld ?rL5_21
                        refine tkA (i := 22) (v := undef) (oi := { dst := some 70, op := Op.binOp BinOp.neq 3 (Operand.tmp 64) (Operand.tmp 69) 3, type := 4, pos := "law.go:30", after := #[{ on := 16, ground := Ground.data }, { on := 21, ground := Ground.data }, { on := 11, ground := Ground.guard }], guard := some (11, false) }) rfl (by kernel_rfl) (fun _ _ _ h => h) (.inr ⟨by rfl, rfl⟩) hHeld ?rL5_22
                        refine tkA (i := 23) (v := ?vL5_23) (oi := { dst := some 71, op := Op.pick (Operand.tmp 59) (Operand.const (Value.bool true)) (Operand.tmp 70), type := 4, pos := "law.go:30", after := #[{ on := 11, ground := Ground.data }, { on := 22, ground := Ground.data }], guard := none }) rfl (by kernel_rfl) (fun _ _ _ h => h) (.inl ⟨by rfl, ?yL5_23⟩) hHeld ?rL5_23; case yL5_23 => (intro w_ hSw; obtain ⟨n_, rfl⟩ := hSw.out; clear hSw; go_simp; try with_reducible rfl)
                        (try simp only [Act.put, List.setIfInBounds_toArray, List.set_cons_zero, List.set_cons_succ])
                        refine tkA (i := 24) (v := ?vL5_24) (oi := { dst := some 72, op := Op.move (Operand.tmp 71), type := 4, pos := "law.go:30", after := #[{ on := 23, ground := Ground.data }, { on := 11, ground := Ground.chain }], guard := none }) rfl (by kernel_rfl) (fun _ _ _ h => h) (.inl ⟨by rfl, ?yL5_24⟩) hHeld ?rL5_24; case yL5_24 => (intro w_ hSw; obtain ⟨n_, rfl⟩ := hSw.out; clear hSw; go_simp; try with_reducible rfl)
                        refine tkA (i := 25) (v := undef) (oi := { dst := some 73, op := Op.move (Operand.tmp 3), type := 39, pos := "law.go:30", after := #[{ on := 24, ground := Ground.guard }], guard := some (24, false) }) rfl (by kernel_rfl) (fun _ _ _ h => h) (.inr ⟨by rfl, rfl⟩) hHeld ?rL5_25
                        refine tkA (i := 26) (v := undef) (oi := { dst := some 74, op := Op.move (Operand.tmp 8), type := 3, pos := "law.go:30", after := #[{ on := 24, ground := Ground.guard }], guard := some (24, false) }) rfl (by kernel_rfl) (fun _ _ _ h => h) (.inr ⟨by rfl, rfl⟩) hHeld ?rL5_26
                        (try simp only [Act.put, List.setIfInBounds_toArray, List.set_cons_zero, List.set_cons_succ])
                        refine tkA (i := 27) (v := undef) (oi := { dst := some 75, op := Op.indexAddr 39 (Operand.tmp 73) (Operand.tmp 74), type := 0, pos := "law.go:30", after := #[{ on := 25, ground := Ground.data }, { on := 26, ground := Ground.data }, { on := 24, ground := Ground.guard }], guard := some (24, false) }) rfl (by kernel_rfl) (fun _ _ _ h => h) (.inr ⟨by rfl, rfl⟩) hHeld ?rL5_27
                        refine tkA (i := 28) (v := undef) (oi := { dst := some 76, op := Op.fieldAddr 47 (Operand.tmp 75) 3, type := 0, pos := "law.go:30", after := #[{ on := 27, ground := Ground.data }, { on := 24, ground := Ground.guard }], guard := some (24, false) }) rfl (by kernel_rfl) (fun _ _ _ h => h) (.inr ⟨by rfl, rfl⟩) hHeld ?rL5_28
                        refine tkA (i := 29) (v := undef) (oi := { dst := some 77, op := Op.load 24 (Operand.tmp 76), type := 24, pos := "law.go:30", after := #[{ on := 28, ground := Ground.data }, { on := 24, ground := Ground.guard }], guard := some (24, false) }) rfl (by kernel_rfl) (fun _ _ _ h => h) (.inr ⟨by rfl, rfl⟩) hHeld ?rL5_29
                        (try simp only [Act.put, List.setIfInBounds_toArray, List.set_cons_zero, List.set_cons_succ])
                        refine tkA (i := 30) (v := undef) (oi := { dst := some 78, op := Op.binOp BinOp.eql 24 (Operand.tmp 77) (Operand.const (Value.int IntKind.i64 0)) 24, type := 4, pos := "law.go:30", after := #[{ on := 29, ground := Ground.data }, { on := 24, ground := Ground.guard }], guard := some (24, false) }) rfl (by kernel_rfl) (fun _ _ _ h => h) (.inr ⟨by rfl, rfl⟩) hHeld ?rL5_30
                        refine tkA (i := 31) (v := undef) (oi := { dst := some 79, op := Op.move (Operand.tmp 4), type := 41, pos := "law.go:30", after := #[{ on := 24, ground := Ground.guard }], guard := some (24, false) }) rfl (by kernel_rfl) (fun _ _ _ h => h) (.inr ⟨by rfl, rfl⟩) hHeld ?rL5_31
                        refine tkA (i := 32) (v := undef) (oi := { dst := some 80, op := Op.move (Operand.tmp 8), type := 3, pos := "law.go:30", after := #[{ on := 24, ground := Ground.guard }], guard := some (24, false) }) rfl (by kernel_rfl) (fun _ _ _ h => h) (.inr ⟨by rfl, rfl⟩) hHeld ?rL5_32
                        (try simp only [Act.put, List.setIfInBounds_toArray, List.set_cons_zero, List.set_cons_succ])
                        refine tkA (i := 33) (v := undef) (oi := { dst := some 81, op := Op.indexAddr 41 (Operand.tmp 79) (Operand.tmp 80), type := 0, pos := "law.go:30", after := #[{ on := 31, ground := Ground.data }, { on := 32, ground := Ground.data }, { on := 24, ground := Ground.guard }], guard := some (24, false) }) rfl (by kernel_rfl) (fun _ _ _ h => h) (.inr ⟨by rfl, rfl⟩) hHeld ?rL5_33
                        refine tkA (i := 34) (v := undef) (oi := { dst := some 82, op := Op.fieldAddr 49 (Operand.tmp 81) 3, type := 0, pos := "law.go:30", after := #[{ on := 33, ground := Ground.data }, { on := 24, ground := Ground.guard }], guard := some (24, false) }) rfl (by kernel_rfl) (fun _ _ _ h => h) (.inr ⟨by rfl, rfl⟩) hHeld ?rL5_34
                        refine tkA (i := 35) (v := undef) (oi := { dst := some 83, op := Op.load 4 (Operand.tmp 82), type := 4, pos := "law.go:30", after := #[{ on := 34, ground := Ground.data }, { on := 24, ground := Ground.guard }], guard := some (24, false) }) rfl (by kernel_rfl) (fun _ _ _ h => h) (.inr ⟨by rfl, rfl⟩) hHeld ?rL5_35
                        (try simp only [Act.put, List.setIfInBounds_toArray, List.set_cons_zero, List.set_cons_succ])
                        refine tkA (i := 36) (v := undef) (oi := { dst := some 84, op := Op.binOp BinOp.neq 4 (Operand.tmp 78) (Operand.tmp 83) 4, type := 4, pos := "law.go:30", after := #[{ on := 30, ground := Ground.data }, { on := 35, ground := Ground.data }, { on := 24, ground := Ground.guard }], guard := some (24, false) }) rfl (by kernel_rfl) (fun _ _ _ h => h) (.inr ⟨by rfl, rfl⟩) hHeld ?rL5_36
                        refine tkA (i := 37) (v := ?vL5_37) (oi := { dst := some 85, op := Op.pick (Operand.tmp 72) (Operand.const (Value.bool true)) (Operand.tmp 84), type := 4, pos := "law.go:30", after := #[{ on := 24, ground := Ground.data }, { on := 36, ground := Ground.data }], guard := none }) rfl (by kernel_rfl) (fun _ _ _ h => h) (.inl ⟨by rfl, ?yL5_37⟩) hHeld ?rL5_37; case yL5_37 => (intro w_ hSw; obtain ⟨n_, rfl⟩ := hSw.out; clear hSw; go_simp; try with_reducible rfl)
                        refine tkA (i := 38) (v := ?vL5_38) (oi := { dst := some 86, op := Op.move (Operand.tmp 85), type := 4, pos := "law.go:30", after := #[{ on := 37, ground := Ground.data }, { on := 24, ground := Ground.chain }], guard := none }) rfl (by kernel_rfl) (fun _ _ _ h => h) (.inl ⟨by rfl, ?yL5_38⟩) hHeld ?rL5_38; case yL5_38 => (intro w_ hSw; obtain ⟨n_, rfl⟩ := hSw.out; clear hSw; go_simp; try with_reducible rfl)
                        (try simp only [Act.put, List.setIfInBounds_toArray, List.set_cons_zero, List.set_cons_succ])
                        refine tkA (i := 39) (v := undef) (oi := { dst := some 87, op := Op.move (Operand.tmp 3), type := 39, pos := "law.go:30", after := #[{ on := 38, ground := Ground.guard }], guard := some (38, false) }) rfl (by kernel_rfl) (fun _ _ _ h => h) (.inr ⟨by rfl, rfl⟩) hHeld ?rL5_39
                        refine tkA (i := 40) (v := undef) (oi := { dst := some 88, op := Op.move (Operand.tmp 8), type := 3, pos := "law.go:30", after := #[{ on := 38, ground := Ground.guard }], guard := some (38, false) }) rfl (by kernel_rfl) (fun _ _ _ h => h) (.inr ⟨by rfl, rfl⟩) hHeld ?rL5_40
                        refine tkA (i := 41) (v := undef) (oi := { dst := some 89, op := Op.indexAddr 39 (Operand.tmp 87) (Operand.tmp 88), type := 0, pos := "law.go:30", after := #[{ on := 39, ground := Ground.data }, { on := 40, ground := Ground.data }, { on := 38, ground := Ground.guard }], guard := some (38, false) }) rfl (by kernel_rfl) (fun _ _ _ h => h) (.inr ⟨by rfl, rfl⟩) hHeld ?rL5_41
                        (try simp only [Act.put, List.setIfInBounds_toArray, List.set_cons_zero, List.set_cons_succ])
                        refine tkA (i := 42) (v := undef) (oi := { dst := some 90, op := Op.fieldAddr 47 (Operand.tmp 89) 3, type := 0, pos := "law.go:30", after := #[{ on := 41, ground := Ground.data }, { on := 38, ground := Ground.guard }], guard := some (38, false) }) rfl (by kernel_rfl) (fun _ _ _ h => h) (.inr ⟨by rfl, rfl⟩) hHeld ?rL5_42
                        refine tkA (i := 43) (v := undef) (oi := { dst := some 91, op := Op.load 24 (Operand.tmp 90), type := 24, pos := "law.go:30", after := #[{ on := 42, ground := Ground.data }, { on := 38, ground := Ground.guard }], guard := some (38, false) }) rfl (by kernel_rfl) (fun _ _ _ h => h) (.inr ⟨by rfl, rfl⟩) hHeld ?rL5_43
                        refine tkA (i := 44) (v := undef) (oi := { dst := some 92, op := Op.binOp BinOp.neq 24 (Operand.tmp 91) (Operand.const (Value.int IntKind.i64 0)) 24, type := 4, pos := "law.go:30", after := #[{ on := 43, ground := Ground.data }, { on := 38, ground := Ground.guard }], guard := some (38, false) }) rfl (by kernel_rfl) (fun _ _ _ h => h) (.inr ⟨by rfl, rfl⟩) hHeld ?rL5_44
                        (try simp only [Act.put, List.setIfInBounds_toArray, List.set_cons_zero, List.set_cons_succ])
                        refine tkA (i := 45) (v := undef) (oi := { dst := some 93, op := Op.move (Operand.tmp 92), type := 4, pos := "law.go:30", after := #[{ on := 44, ground := Ground.data }, { on := 38, ground := Ground.chain }, { on := 38, ground := Ground.guard }], guard := some (38, false) }) rfl (by kernel_rfl) (fun _ _ _ h => h) (.inr ⟨by rfl, rfl⟩) hHeld ?rL5_45
                        refine tkA (i := 46) (v := undef) (oi := { dst := some 94, op := Op.move (Operand.tmp 3), type := 39, pos := "law.go:30", after := #[{ on := 45, ground := Ground.guard }], guard := some (45, true) }) rfl (by kernel_rfl) (fun _ _ _ h => h) (.inr ⟨by rfl, rfl⟩) hHeld ?rL5_46
                        refine tkA (i := 47) (v := undef) (oi := { dst := some 95, op := Op.move (Operand.tmp 8), type := 3, pos := "law.go:30", after := #[{ on := 45, ground := Ground.guard }], guard := some (45, true) }) rfl (by kernel_rfl) (fun _ _ _ h => h) (.inr ⟨by rfl, rfl⟩) hHeld ?rL5_47
                        (try simp only [Act.put, List.setIfInBounds_toArray, List.set_cons_zero, List.set_cons_succ])
                        refine tkA (i := 48) (v := undef) (oi := { dst := some 96, op := Op.indexAddr 39 (Operand.tmp 94) (Operand.tmp 95), type := 0, pos := "law.go:30", after := #[{ on := 46, ground := Ground.data }, { on := 47, ground := Ground.data }, { on := 45, ground := Ground.guard }], guard := some (45, true) }) rfl (by kernel_rfl) (fun _ _ _ h => h) (.inr ⟨by rfl, rfl⟩) hHeld ?rL5_48
                        refine tkA (i := 49) (v := undef) (oi := { dst := some 97, op := Op.fieldAddr 47 (Operand.tmp 96) 3, type := 0, pos := "law.go:30", after := #[{ on := 48, ground := Ground.data }, { on := 45, ground := Ground.guard }], guard := some (45, true) }) rfl (by kernel_rfl) (fun _ _ _ h => h) (.inr ⟨by rfl, rfl⟩) hHeld ?rL5_49
                        refine tkA (i := 50) (v := undef) (oi := { dst := some 98, op := Op.load 24 (Operand.tmp 97), type := 24, pos := "law.go:30", after := #[{ on := 49, ground := Ground.data }, { on := 45, ground := Ground.guard }], guard := some (45, true) }) rfl (by kernel_rfl) (fun _ _ _ h => h) (.inr ⟨by rfl, rfl⟩) hHeld ?rL5_50
                        (try simp only [Act.put, List.setIfInBounds_toArray, List.set_cons_zero, List.set_cons_succ])
                        refine tkA (i := 51) (v := undef) (oi := { dst := some 99, op := Op.binOp BinOp.neq 24 (Operand.tmp 98) (Operand.const (Value.int IntKind.i64 3)) 24, type := 4, pos := "law.go:30", after := #[{ on := 50, ground := Ground.data }, { on := 45, ground := Ground.guard }], guard := some (45, true) }) rfl (by kernel_rfl) (fun _ _ _ h => h) (.inr ⟨by rfl, rfl⟩) hHeld ?rL5_51
                        refine tkA (i := 52) (v := undef) (oi := { dst := some 100, op := Op.pick (Operand.tmp 93) (Operand.tmp 99) (Operand.const (Value.bool false)), type := 4, pos := "law.go:30", after := #[{ on := 45, ground := Ground.data }, { on := 51, ground := Ground.data }, { on := 38, ground := Ground.guard }], guard := some (38, false) }) rfl (by kernel_rfl) (fun _ _ _ h => h) (.inr ⟨by rfl, rfl⟩) hHeld ?rL5_52
                        refine tkA (i := 53) (v := ?vL5_53) (oi := { dst := some 101, op := Op.pick (Operand.tmp 86) (Operand.const (Value.bool true)) (Operand.tmp 100), type := 4, pos := "law.go:30", after := #[{ on := 38, ground := Ground.data }, { on := 52, ground := Ground.data }], guard := none }) rfl (by kernel_rfl) (fun _ _ _ h => h) (.inl ⟨by rfl, ?yL5_53⟩) hHeld ?rL5_53; case yL5_53 => (intro w_ hSw; obtain ⟨n_, rfl⟩ := hSw.out; clear hSw; go_simp; try with_reducible rfl)
                        (try simp only [Act.put, List.setIfInBounds_toArray, List.set_cons_zero, List.set_cons_succ])
                        refine tkA (i := 54) (v := ?vL5_54) (oi := { dst := some 102, op := Op.move (Operand.tmp 101), type := 4, pos := "law.go:30", after := #[{ on := 53, ground := Ground.data }, { on := 45, ground := Ground.chain }], guard := none }) rfl (by kernel_rfl) (fun _ _ _ h => h) (.inl ⟨by rfl, ?yL5_54⟩) hHeld ?rL5_54; case yL5_54 => (intro w_ hSw; obtain ⟨n_, rfl⟩ := hSw.out; clear hSw; go_simp; try with_reducible rfl)
                        refine tkA (i := 55) (v := undef) (oi := { dst := some 103, op := Op.move (Operand.tmp 3), type := 39, pos := "law.go:30", after := #[{ on := 54, ground := Ground.guard }], guard := some (54, false) }) rfl (by kernel_rfl) (fun _ _ _ h => h) (.inr ⟨by rfl, rfl⟩) hHeld ?rL5_55
                        refine tkA (i := 56) (v := undef) (oi := { dst := some 104, op := Op.move (Operand.tmp 8), type := 3, pos := "law.go:30", after := #[{ on := 54, ground := Ground.guard }], guard := some (54, false) }) rfl (by kernel_rfl) (fun _ _ _ h => h) (.inr ⟨by rfl, rfl⟩) hHeld ?rL5_56
                        (try simp only [Act.put, List.setIfInBounds_toArray, List.set_cons_zero, List.set_cons_succ])
                        refine tkA (i := 57) (v := undef) (oi := { dst := some 105, op := Op.indexAddr 39 (Operand.tmp 103) (Operand.tmp 104), type := 0, pos := "law.go:30", after := #[{ on := 55, ground := Ground.data }, { on := 56, ground := Ground.data }, { on := 54, ground := Ground.guard }], guard := some (54, false) }) rfl (by kernel_rfl) (fun _ _ _ h => h) (.inr ⟨by rfl, rfl⟩) hHeld ?rL5_57
                        refine tkA (i := 58) (v := undef) (oi := { dst := some 106, op := Op.fieldAddr 47 (Operand.tmp 105) 2, type := 0, pos := "law.go:30", after := #[{ on := 57, ground := Ground.data }, { on := 54, ground := Ground.guard }], guard := some (54, false) }) rfl (by kernel_rfl) (fun _ _ _ h => h) (.inr ⟨by rfl, rfl⟩) hHeld ?rL5_58
                        refine tkA (i := 59) (v := undef) (oi := { dst := some 107, op := Op.load 38 (Operand.tmp 106), type := 38, pos := "law.go:30", after := #[{ on := 58, ground := Ground.data }, { on := 54, ground := Ground.guard }], guard := some (54, false) }) rfl (by kernel_rfl) (fun _ _ _ h => h) (.inr ⟨by rfl, rfl⟩) hHeld ?rL5_59
                        (try simp only [Act.put, List.setIfInBounds_toArray, List.set_cons_zero, List.set_cons_succ])
                        refine tkA (i := 60) (v := undef) (oi := { dst := some 108, op := Op.convert 38 9 (Operand.tmp 107), type := 9, pos := "law.go:30", after := #[{ on := 59, ground := Ground.data }, { on := 54, ground := Ground.guard }], guard := some (54, false) }) rfl (by kernel_rfl) (fun _ _ _ h => h) (.inr ⟨by rfl, rfl⟩) hHeld ?rL5_60
                        refine tkA (i := 61) (v := undef) (oi := { dst := some 109, op := Op.move (Operand.tmp 4), type := 41, pos := "law.go:30", after := #[{ on := 54, ground := Ground.guard }], guard := some (54, false) }) rfl (by kernel_rfl) (fun _ _ _ h => h) (.inr ⟨by rfl, rfl⟩) hHeld ?rL5_61
                        refine tkA (i := 62) (v := undef) (oi := { dst := some 110, op := Op.move (Operand.tmp 8), type := 3, pos := "law.go:30", after := #[{ on := 54, ground := Ground.guard }], guard := some (54, false) }) rfl (by kernel_rfl) (fun _ _ _ h => h) (.inr ⟨by rfl, rfl⟩) hHeld ?rL5_62
                        (try simp only [Act.put, List.setIfInBounds_toArray, List.set_cons_zero, List.set_cons_succ])
                        refine tkA (i := 63) (v := undef) (oi := { dst := some 111, op := Op.indexAddr 41 (Operand.tmp 109) (Operand.tmp 110), type := 0, pos := "law.go:30", after := #[{ on := 61, ground := Ground.data }, { on := 62, ground := Ground.data }, { on := 54, ground := Ground.guard }], guard := some (54, false) }) rfl (by kernel_rfl) (fun _ _ _ h => h) (.inr ⟨by rfl, rfl⟩) hHeld ?rL5_63
                        refine tkA (i := 64) (v := undef) (oi := { dst := some 112, op := Op.fieldAddr 49 (Operand.tmp 111) 2, type := 0, pos := "law.go:30", after := #[{ on := 63, ground := Ground.data }, { on := 54, ground := Ground.guard }], guard := some (54, false) }) rfl (by kernel_rfl) (fun _ _ _ h => h) (.inr ⟨by rfl, rfl⟩) hHeld ?rL5_64
                        refine tkA (i := 65) (v := undef) (oi := { dst := some 113, op := Op.load 38 (Operand.tmp 112), type := 38, pos := "law.go:30", after := #[{ on := 64, ground := Ground.data }, { on := 54, ground := Ground.guard }], guard := some (54, false) }) rfl (by kernel_rfl) (fun _ _ _ h => h) (.inr ⟨by rfl, rfl⟩) hHeld ?rL5_65
                        (try simp only [Act.put, List.setIfInBounds_toArray, List.set_cons_zero, List.set_cons_succ])
                        refine tkA (i := 66) (v := undef) (oi := { dst := some 114, op := Op.convert 38 9 (Operand.tmp 113), type := 9, pos := "law.go:30", after := #[{ on := 65, ground := Ground.data }, { on := 54, ground := Ground.guard }], guard := some (54, false) }) rfl (by kernel_rfl) (fun _ _ _ h => h) (.inr ⟨by rfl, rfl⟩) hHeld ?rL5_66
                        refine tkA (i := 67) (v := undef) (oi := { dst := some 115, op := Op.binOp BinOp.neq 9 (Operand.tmp 108) (Operand.tmp 114) 9, type := 4, pos := "law.go:30", after := #[{ on := 60, ground := Ground.data }, { on := 66, ground := Ground.data }, { on := 54, ground := Ground.guard }], guard := some (54, false) }) rfl (by kernel_rfl) (fun _ _ _ h => h) (.inr ⟨by rfl, rfl⟩) hHeld ?rL5_67
                        refine tkA (i := 68) (v := ?vL5_68) (oi := { dst := some 116, op := Op.pick (Operand.tmp 102) (Operand.const (Value.bool true)) (Operand.tmp 115), type := 4, pos := "law.go:30", after := #[{ on := 54, ground := Ground.data }, { on := 67, ground := Ground.data }], guard := none }) rfl (by kernel_rfl) (fun _ _ _ h => h) (.inl ⟨by rfl, ?yL5_68⟩) hHeld ?rL5_68; case yL5_68 => (intro w_ hSw; obtain ⟨n_, rfl⟩ := hSw.out; clear hSw; go_simp; try with_reducible rfl)
                        (try simp only [Act.put, List.setIfInBounds_toArray, List.set_cons_zero, List.set_cons_succ])
                        refine wpAnyH_done (by kernel_rfl) ?_ _
                        go_wp2
                        go_meet
                        case rel => exact ⟨_, (true), (by first | rfl | (simp; done) | (simp [*]; done)), H', ⟨by have := HJ7.out; have := HK2.out; first | omega | exact Nat.le_refl _⟩, ⟨by (with_reducible repeat (first | apply Kd.N_alloc | apply Kd.N_drewN | apply Kd.N_drew)); exact HO_3.out⟩, ⟨by (with_reducible repeat (first | apply Kd.N_alloc | apply Kd.N_drewN | apply Kd.N_drew)); exact HO_4.out⟩, ⟨by repeat (first | (with_reducible first | exact HB.out | apply below_alloc | apply pw_below_drewN | apply below_drew1) | exact HB.out)⟩⟩
                    · rw [if_neg c27] at H
                      exact absurd H (by simp)
                  · rw [if_neg c26] at H
                    exact absurd H (by simp)
                case rest =>
                  clear HC24
                  try clear c2
                  try clear p2
                  try clear q2
                  try clear hx2
                  try clear c3
                  try clear hcv3
                  try clear c23
                  try clear p23
                  try clear q23
                  try clear hx23
                  try clear c24
                  try clear p24
                  try clear q24
                  try clear hx24
                  try clear c25
                  try clear p25
                  try clear q25
                  try clear hx25
                  try clear c26
                  try clear c27
                  try clear c28
                  try clear c28b0
                  try clear c28b1
                  try clear c29
                  try clear c29b0
                  try clear c29b1
                  try clear c36
                  try clear c36b0
                  try clear c36b1
                  try clear hcv38
                  try clear hcv39
                  try clear hx239_0
                  try clear hx239_1
                  try clear hx239_2
                  try clear hx239_3
                  try clear hx240_0
                  try clear hx240_1
                  try clear hx240_2
                  try clear hx240_3
                  try clear hx241_0
                  try clear hx241_1
                  try clear hx241_2
                  try clear hx241_3
                  try clear hx242_0
                  try clear hx242_1
                  try clear hx242_2
                  try clear hx242_3
                  try clear hx243_0
                  try clear hx243_1
                  try clear hx243_2
                  try clear hx243_3
                  try clear hx244_0
                  try clear hx244_1
                  try clear hx244_2
                  try clear hx244_3
                  try clear hx245_0
                  try clear hx245_1
                  try clear hx245_2
                  try clear hx245_3
                  try clear hx248_0
                  try clear hx248_1
                  try clear hx248_2
                  try clear hx248_3
                  try clear hx249_0
                  try clear hx249_1
                  try clear hx249_2
                  try clear hx249_3
                  try clear hx250_0
                  try clear hx250_1
                  try clear hx250_2
                  try clear hx250_3
                  try clear p239
                  try clear p240
                  try clear p241
                  try clear p242
                  try clear p243
                  try clear p244
                  try clear p245
                  try clear p248
                  try clear p249
                  try clear p250
                  try clear q239
                  try clear q240
                  try clear q241
                  try clear q242
                  try clear q243
                  try clear q244
                  try clear q245
                  try clear q248
                  try clear q249
                  try clear q250
                  obtain ⟨kq, x116_23, rfl, HA, HJ23, HO_3, HO_4, HB⟩ := hcut
                  cases kq with
                  | zero => exact absurd HA.out (by simp [dogwatchlaw10_RecordSplits.j2])
                  | succ kj23 =>
                    have H := HA.out
                    clear HA
                    simp only [dogwatchlaw10_RecordSplits.j2] at H
                    by_cases c43 : x116_23 = true
                    · subst c43
                      have H1 : (some false) = some r := by rw [if_pos rfl] at H; exact H
                      clear H
                      have H := H1
                      clear H1
                      obtain rfl := Option.some.inj H
                      go_wp2
                      repeat (go_quiet (fail); try go_wp2)
                      go_ret
                      exact ⟨by first | rfl | (simp [errW_none, errW_some] <;> rfl) | (simp [*, errW_none, errW_some] <;> rfl), by repeat (first | (with_reducible first | exact HB.out | apply below_alloc | apply pw_below_drewN | apply below_drew1) | exact HB.out)⟩
                    · replace c43 := Bool.eq_false_iff.mpr c43
                      subst c43
                      have H1 : (if 0 ≤ x8_2 then (if x8_2 < (t231.length : Int) then (if (rd_T49 t231 x8_2).f3 = true then (dogwatchlaw10_RecordSplits.l0 kj23 t228 t231 t234 (wrap64 (x7_2 + 1)) (wrap64 (x8_2 + 1))) else (dogwatchlaw10_RecordSplits.l0 kj23 t228 t231 t234 x7_2 (wrap64 (x8_2 + 1)))) else (none)) else (none)) = some r := by rw [if_neg (show ¬ (false = true) by decide)] at H; exact H
                      clear H
                      have H := H1
                      clear H1
                      by_cases c44 : 0 ≤ x8_2
                      · rw [if_pos c44] at H
                        have c44b0 : decide (0 ≤ x8_2) = true := decide_eq_true c44
                        clear c44
                        by_cases c45 : x8_2 < (t231.length : Int)
                        · rw [if_pos c45] at H
                          have c45b0 : decide (x8_2 < (t231.length : Int)) = true := decide_eq_true c45
                          clear c45
                          obtain ⟨bq46, hbq46⟩ : ∃ b_ : Bool, b_ = ((rd_T49 t231 x8_2).f3) := ⟨_, rfl⟩
                          replace H : (if bq46 = true then (dogwatchlaw10_RecordSplits.l0 kj23 t228 t231 t234 (wrap64 (x7_2 + 1)) (wrap64 (x8_2 + 1))) else (dogwatchlaw10_RecordSplits.l0 kj23 t228 t231 t234 x7_2 (wrap64 (x8_2 + 1)))) = some r := by rw [← hbq46] at H; exact H
                          have Nbq46 := Aside0.mk hbq46
                          clear hbq46
                          by_cases c47 : bq46 = true
                          · subst c47
                            have H1 : (dogwatchlaw10_RecordSplits.l0 kj23 t228 t231 t234 (wrap64 (x7_2 + 1)) (wrap64 (x8_2 + 1))) = some r := by rw [if_pos rfl] at H; exact H
                            clear H
                            have H := H1
                            clear H1
                            have H' := Aside0.mk H
                            clear H
                            have p251 : 0 ≤ (x8_2 : Int) := of_decide_eq_true (by first | (with_reducible assumption) | assumption)
                            have q251 : x8_2 < (t231.length : Int) := of_decide_eq_true (by first | (with_reducible assumption) | assumption)
                            obtain ⟨ad251, A251_2, c251_2, e251, hx251_0, hx251_1, hx251_2, hx251_3, hl251_2, hi251_2⟩ := at_T49 (Kd.N_reads' HO_4.out).2.2 x8_2 p251 q251
                            (try rw [← Nbq46.out] at hx251_3)
                            cases e251
                            obtain ⟨ce251, hce251, hMe251, hcc251⟩ := Kd.N_get HO_4.out z49 x8_2 p251 (by first | exact q251 | exact of_decide_eq_true (by first | (with_reducible assumption) | assumption) | (have e_ := (Kd.N_reads' HO_4.out).1; omega))
                            obtain ⟨ua251_2, uc251_2, rfl, ul251_2, ge251_2⟩ := k49_openF hMe251
                            have hv251_2 := hcc251 2 _ rfl
                            rw [add_field _ _ 2 (by omega)] at hv251_2
                            replace hv251_2 := Option.some.inj (hv251_2.symm.trans hx251_2)
                            injection hv251_2 with hva_ hvn_ hvc_
                            rw [hva_] at ge251_2
                            rw [hvc_] at ul251_2
                            have HL251_2 := Aside0.mk (show Kd.V (Kd.int .u8) 5 _ w.heap.size _ _ ((rd_T49 t231 x8_2).f2) from Kd.V_mk ul251_2 ge251_2)
                            clear hva_ hvn_ hvc_ ge251_2 ul251_2
                            clear hcc251 hce251
                            have HR251_2 := Aside0.mk hi251_2
                            have HC251_2 := Aside0.mk hl251_2
                            clear hi251_2 hl251_2
                            replace p251 := eq_true p251
                            replace q251 := eq_true q251
                            go_wp2
                            repeat (go_quiet (fail); try go_wp2)
                            go_roundg kj23
                            case measure => have := HJ7.out; have := HK2.out; have := HJ23.out; omega
                            case rel => exact ⟨(wrap64 (x7_2 + 1)), (wrap64 (x8_2 + 1)), (by first | rfl | (simp; done) | (simp [*]; done)), (by first | rfl | (simp; done) | (simp [*]; done)), H', ⟨by have := HJ7.out; have := HK2.out; have := HJ23.out; omega⟩, ⟨by (with_reducible repeat (first | apply Kd.N_alloc | apply Kd.N_drewN | apply Kd.N_drew)); exact HO_3.out⟩, ⟨by (with_reducible repeat (first | apply Kd.N_alloc | apply Kd.N_drewN | apply Kd.N_drew)); exact HO_4.out⟩, ⟨by repeat (first | (with_reducible first | exact HB.out | apply below_alloc | apply pw_below_drewN | apply below_drew1) | exact HB.out)⟩⟩
                          · replace c47 := Bool.eq_false_iff.mpr c47
                            subst c47
                            have H1 : (dogwatchlaw10_RecordSplits.l0 kj23 t228 t231 t234 x7_2 (wrap64 (x8_2 + 1))) = some r := by rw [if_neg (show ¬ (false = true) by decide)] at H; exact H
                            clear H
                            have H := H1
                            clear H1
                            have H' := Aside0.mk H
                            clear H
                            have p251 : 0 ≤ (x8_2 : Int) := of_decide_eq_true (by first | (with_reducible assumption) | assumption)
                            have q251 : x8_2 < (t231.length : Int) := of_decide_eq_true (by first | (with_reducible assumption) | assumption)
                            obtain ⟨ad251, A251_2, c251_2, e251, hx251_0, hx251_1, hx251_2, hx251_3, hl251_2, hi251_2⟩ := at_T49 (Kd.N_reads' HO_4.out).2.2 x8_2 p251 q251
                            (try rw [← Nbq46.out] at hx251_3)
                            cases e251
                            obtain ⟨ce251, hce251, hMe251, hcc251⟩ := Kd.N_get HO_4.out z49 x8_2 p251 (by first | exact q251 | exact of_decide_eq_true (by first | (with_reducible assumption) | assumption) | (have e_ := (Kd.N_reads' HO_4.out).1; omega))
                            obtain ⟨ua251_2, uc251_2, rfl, ul251_2, ge251_2⟩ := k49_openF hMe251
                            have hv251_2 := hcc251 2 _ rfl
                            rw [add_field _ _ 2 (by omega)] at hv251_2
                            replace hv251_2 := Option.some.inj (hv251_2.symm.trans hx251_2)
                            injection hv251_2 with hva_ hvn_ hvc_
                            rw [hva_] at ge251_2
                            rw [hvc_] at ul251_2
                            have HL251_2 := Aside0.mk (show Kd.V (Kd.int .u8) 5 _ w.heap.size _ _ ((rd_T49 t231 x8_2).f2) from Kd.V_mk ul251_2 ge251_2)
                            clear hva_ hvn_ hvc_ ge251_2 ul251_2
                            clear hcc251 hce251
                            have HR251_2 := Aside0.mk hi251_2
                            have HC251_2 := Aside0.mk hl251_2
                            clear hi251_2 hl251_2
                            replace p251 := eq_true p251
                            replace q251 := eq_true q251
                            go_wp2
                            repeat (go_quiet (fail); try go_wp2)
                            go_roundg kj23
                            case measure => have := HJ7.out; have := HK2.out; have := HJ23.out; omega
                            case rel => exact ⟨(x7_2), (wrap64 (x8_2 + 1)), (by first | rfl | (simp; done) | (simp [*]; done)), (by first | rfl | (simp; done) | (simp [*]; done)), H', ⟨by have := HJ7.out; have := HK2.out; have := HJ23.out; omega⟩, ⟨by (with_reducible repeat (first | apply Kd.N_alloc | apply Kd.N_drewN | apply Kd.N_drew)); exact HO_3.out⟩, ⟨by (with_reducible repeat (first | apply Kd.N_alloc | apply Kd.N_drewN | apply Kd.N_drew)); exact HO_4.out⟩, ⟨by repeat (first | (with_reducible first | exact HB.out | apply below_alloc | apply pw_below_drewN | apply below_drew1) | exact HB.out)⟩⟩
                        · rw [if_neg c45] at H
                          exact absurd H (by simp)
                      · rw [if_neg c44] at H
                        exact absurd H (by simp)
              · rw [if_neg c23] at H
                have c23b0 : decide (x8_2 < (t231.length : Int)) = false := decide_eq_false c23
                clear c23
                by_cases c48 : t234 = x7_2
                · rw [if_pos c48] at H
                  have c48b0 : (t234 == x7_2) = true := beq_iff_eq.mpr c48
                  have c48b1 : (t234 != x7_2) = false := bne_eq_false_iff_eq.mpr c48
                  clear c48
                  replace H := Option.bind_eq_some_iff.mp H
                  obtain ⟨t238, A490, H⟩ := H
                  replace H : (some t238) = some r := H
                  have A49 := Aside0.mk A490
                  clear A490
                  obtain rfl := Option.some.inj H
                  obtain ⟨Ao50, co50, eo50⟩ := Kd.N_slice HO_4.out
                  subst eo50
                  go_wp2_with (first | (go_at_call 21; (with_reducible refine (dogwatchlaw10_awake.calls  t238 _ A49.out).mono ?_); rintro e w51 ⟨rfl, hb⟩; have n0_ := Aside0.mk (Kd.N_below (by (with_reducible repeat (first | apply Kd.N_alloc | apply Kd.N_drewN | apply Kd.N_drew)); exact HO_3.out) hb); have n1_ := Aside0.mk (Kd.N_below (by (with_reducible repeat (first | apply Kd.N_alloc | apply Kd.N_drewN | apply Kd.N_drew)); exact HO_4.out) hb); have n2_ := Aside0.mk (below_step (by repeat (first | (with_reducible first | exact HB.out | apply below_alloc | apply pw_below_drewN | apply below_drew1) | exact HB.out)) hb); clear HO_3; clear HO_4; clear HB; have HO_3 := n0_; have HO_4 := n1_; have HB := n2_; clear n0_ n1_ n2_; (try clear hb); (try clear hb2); (try clear hk); (try clear hi)))
                  repeat (go_quiet (first | (go_at_call 21; (with_reducible refine (dogwatchlaw10_awake.calls  t238 _ A49.out).mono ?_); rintro e w51 ⟨rfl, hb⟩; have n0_ := Aside0.mk (Kd.N_below (by (with_reducible repeat (first | apply Kd.N_alloc | apply Kd.N_drewN | apply Kd.N_drew)); exact HO_3.out) hb); have n1_ := Aside0.mk (Kd.N_below (by (with_reducible repeat (first | apply Kd.N_alloc | apply Kd.N_drewN | apply Kd.N_drew)); exact HO_4.out) hb); have n2_ := Aside0.mk (below_step (by repeat (first | (with_reducible first | exact HB.out | apply below_alloc | apply pw_below_drewN | apply below_drew1) | exact HB.out)) hb); clear HO_3; clear HO_4; clear HB; have HO_3 := n0_; have HO_4 := n1_; have HB := n2_; clear n0_ n1_ n2_; (try clear hb); (try clear hb2); (try clear hk); (try clear hi))); try go_wp2_with (first | (go_at_call 21; (with_reducible refine (dogwatchlaw10_awake.calls  t238 _ A49.out).mono ?_); rintro e w51 ⟨rfl, hb⟩; have n0_ := Aside0.mk (Kd.N_below (by (with_reducible repeat (first | apply Kd.N_alloc | apply Kd.N_drewN | apply Kd.N_drew)); exact HO_3.out) hb); have n1_ := Aside0.mk (Kd.N_below (by (with_reducible repeat (first | apply Kd.N_alloc | apply Kd.N_drewN | apply Kd.N_drew)); exact HO_4.out) hb); have n2_ := Aside0.mk (below_step (by repeat (first | (with_reducible first | exact HB.out | apply below_alloc | apply pw_below_drewN | apply below_drew1) | exact HB.out)) hb); clear HO_3; clear HO_4; clear HB; have HO_3 := n0_; have HO_4 := n1_; have HB := n2_; clear n0_ n1_ n2_; (try clear hb); (try clear hb2); (try clear hk); (try clear hi))))
                  go_ret
                  exact ⟨by first | rfl | (simp [errW_none, errW_some] <;> rfl) | (simp [*, errW_none, errW_some] <;> rfl), by repeat (first | (with_reducible first | exact HB.out | apply below_alloc | apply pw_below_drewN | apply below_drew1) | exact HB.out)⟩
                · rw [if_neg c48] at H
                  have c48b0 : (t234 == x7_2) = false := beq_eq_false_iff_ne.mpr c48
                  have c48b1 : (t234 != x7_2) = true := bne_iff_ne.mpr c48
                  obtain rfl := Option.some.inj H
                  obtain ⟨Ao52, co52, eo52⟩ := Kd.N_slice HO_4.out
                  subst eo52
                  go_wp2
                  repeat (go_quiet (fail); try go_wp2)
                  go_ret
                  exact ⟨by first | rfl | (simp [errW_none, errW_some] <;> rfl) | (simp [*, errW_none, errW_some] <;> rfl), by repeat (first | (with_reducible first | exact HB.out | apply below_alloc | apply pw_below_drewN | apply below_drew1) | exact HB.out)⟩

/-- THE ONE PURE STATEMENT of dogwatchlaw10_RecordSplits: yours. -/
def dogwatchlaw10_RecordSplits.Pure : Prop := ∀ (l0 : List Int), l0.length ≤ maxLen → l0.length * 1 ≤ 140737488351232 → (∀ x ∈ l0, (Lit.int .u8 x).wf = true) → ∃ k, dogwatchlaw10_RecordSplits.f k l0 = some true
theorem dogwatchlaw10_RecordSplits.walk (P : dogwatchlaw10_RecordSplits.Pure) (a0 : Option Addr) (len0 cap0 : Nat) (z0 : List Int) (w : World) (w0 : (a0 = none ∧ len0 = 0 ∧ cap0 = 0 ∧ z0 = []) ∨ ∃ x, a0 = some x ∧ len0 ≤ cap0 ∧ cap0 ≤ maxLen ∧ z0.length = cap0 ∧ (∀ i, i < z0.length → w.cell? (x.add i) = some (.int .u8 (z0.getD i 0))) ∧ ∀ n ∈ z0, (Lit.int .u8 n).wf = true) (y0 : len0 * 1 ≤ 140737488351232) :
    Calls Try.prog 4 #[.slice a0 len0 cap0] w fun e w' => e = .returned (.bool true) ∧ Below w.heap.size w w' := by
  obtain ⟨l0, rfl, hr0, hm0, hw0, hc0⟩ := ReadsInt.ofRowC w0
  obtain ⟨k, h⟩ := P l0 hm0 y0 hw0
  refine (dogwatchlaw10_RecordSplits.calls k _ _ l0 true w (Kd.C_of_reads (d := (0 : Int)) (h1 := fun _ => rfl) hr0) hc0 h).mono ?_
  rintro e w' ⟨rfl, hd⟩
  exact ⟨rfl, hd⟩

end Go.Proofs.Ytgjcbpeliimhaaa.PRec
