-- Written by a program for this seat's family Rec (wip/tools of this session's repo).
import Derived.Test.YtgjcbpeliimhaaaPRecx0
import Derived.Test.YtgjcbpeliimhaaaPRecx2
namespace Go.Proofs.Ytgjcbpeliimhaaa.PRec
open Go.RowKit Go.Proofs.YtgjcbpeliimhaaaW.PrintWords Go.Proofs.YtgjcbpeliimhaaaW.PrintLast Go.Proofs.YtgjcbpeliimhaaaW.PrintMore
attribute [local go_sem] max2_int min2_int max_two min_two max_three min_three max_four min_four   -- for this text's walks alone
set_option linter.unusedVariables false
set_option linter.unusedSimpArgs false

/-! ### dogwatchref10_Split: function 23 -/
mutual
def dogwatchref10_Split.l0 : Nat → List Int → List (S49) → Int → Option ((List (S49)))
  | 0, _, _, _ => none
  | k + 1, x0, x3, x4 => if x4 < (x0.length : Int) then (if 0 ≤ x4 then (if (wrap64 (rd x0 x4)) ≥ 1 then (dogwatchref10_Split.j1 k x0 x3 x4 (wrap64 (rd x0 x4)) (decide ((wrap64 (rd x0 x4)) ≤ 120)) x4 1 false) else (dogwatchref10_Split.j1 k x0 x3 x4 (wrap64 (rd x0 x4)) false x4 1 false)) else (none)) else (some x3)
def dogwatchref10_Split.j1 : Nat → List Int → List (S49) → Int → Int → Bool → Int → Int → Bool → Option ((List (S49)))
  | 0, _, _, _, _, _, _, _, _ => none
  | k + 1, x0, x3, x4, x5, x24, x187000, x187001, x187003 => if x24 = true then (if (wrap64 ((x0.length : Int) - x4)) < (wrap64 (x5 + 2)) then (if x187003 = true then (if 0 ≤ (wrap64 (x4 + 1)) then (if (wrap64 (x4 + 1)) ≤ (wrap64 ((wrap64 (x4 + x5)) + 1)) then (if (wrap64 ((wrap64 (x4 + x5)) + 1)) ≤ (x0.length : Int) then (if x3.length < 2932031007402 then (dogwatchref10_Split.l0 k x0 (x3 ++ [(⟨x187000, wrap64 ((x0.length : Int) - x4), ((x0.take ((wrap64 ((wrap64 (x4 + x5)) + 1)) : Int).toNat).drop ((wrap64 (x4 + 1)) : Int).toNat), x187003⟩ : S49)]) (wrap64 (x4 + (wrap64 ((x0.length : Int) - x4))))) else (none)) else (none)) else (none)) else (none)) else (if x3.length < 2932031007402 then (dogwatchref10_Split.l0 k x0 (x3 ++ [(⟨x187000, wrap64 ((x0.length : Int) - x4), ([] : List Int), x187003⟩ : S49)]) (wrap64 (x4 + (wrap64 ((x0.length : Int) - x4))))) else (none))) else (if 0 ≤ x4 then (if x4 ≤ (wrap64 ((wrap64 (x4 + x5)) + 1)) then (if (wrap64 ((wrap64 (x4 + x5)) + 1)) ≤ (x0.length : Int) then ((dogwatchref10_Sum.f k ((x0.take ((wrap64 ((wrap64 (x4 + x5)) + 1)) : Int).toNat).drop (x4 : Int).toNat)).bind fun t203 => (if 0 ≤ (wrap64 ((wrap64 (x4 + x5)) + 1)) then (if (wrap64 ((wrap64 (x4 + x5)) + 1)) < (x0.length : Int) then (if t203 = (rd x0 (wrap64 ((wrap64 (x4 + x5)) + 1))) then (if 0 ≤ (wrap64 (x4 + 1)) then (if (wrap64 (x4 + 1)) ≤ (wrap64 ((wrap64 (x4 + x5)) + 1)) then (if x3.length < 2932031007402 then (dogwatchref10_Split.l0 k x0 (x3 ++ [(⟨x187000, wrap64 (x5 + 2), ((x0.take ((wrap64 ((wrap64 (x4 + x5)) + 1)) : Int).toNat).drop ((wrap64 (x4 + 1)) : Int).toNat), (t203 == (rd x0 (wrap64 ((wrap64 (x4 + x5)) + 1))))⟩ : S49)]) (wrap64 (x4 + (wrap64 (x5 + 2))))) else (none)) else (none)) else (none)) else (if x3.length < 2932031007402 then (dogwatchref10_Split.l0 k x0 (x3 ++ [(⟨x187000, wrap64 (x5 + 2), ([] : List Int), (t203 == (rd x0 (wrap64 ((wrap64 (x4 + x5)) + 1))))⟩ : S49)]) (wrap64 (x4 + (wrap64 (x5 + 2))))) else (none))) else (none)) else (none))) else (none)) else (none)) else (none))) else (if x187003 = true then (if 0 ≤ (wrap64 (x4 + 1)) then (if (wrap64 (x4 + 1)) ≤ (wrap64 ((wrap64 (x4 + x5)) + 1)) then (if (wrap64 ((wrap64 (x4 + x5)) + 1)) ≤ (x0.length : Int) then (if x3.length < 2932031007402 then (dogwatchref10_Split.l0 k x0 (x3 ++ [(⟨x187000, x187001, ((x0.take ((wrap64 ((wrap64 (x4 + x5)) + 1)) : Int).toNat).drop ((wrap64 (x4 + 1)) : Int).toNat), x187003⟩ : S49)]) (wrap64 (x4 + x187001))) else (none)) else (none)) else (none)) else (none)) else (if x3.length < 2932031007402 then (dogwatchref10_Split.l0 k x0 (x3 ++ [(⟨x187000, x187001, ([] : List Int), x187003⟩ : S49)]) (wrap64 (x4 + x187001))) else (none)))
end
def dogwatchref10_Split.f (k : Nat) (l0 : List Int) : Option ((List (S49))) := dogwatchref10_Split.l0 k l0 (([] : List (S49))) 0
theorem dogwatchref10_Split.mono_l : ∀ k, (∀ y0 y1 y2, LeO (dogwatchref10_Split.l0 k y0 y1 y2) (dogwatchref10_Split.l0 (k + 1) y0 y1 y2)) ∧ (∀ y0 y1 y2 y3 y4 y5 y6 y7, LeO (dogwatchref10_Split.j1 k y0 y1 y2 y3 y4 y5 y6 y7) (dogwatchref10_Split.j1 (k + 1) y0 y1 y2 y3 y4 y5 y6 y7))
  | 0 => ⟨fun _ _ _ r h => by simp [dogwatchref10_Split.l0] at h, fun _ _ _ _ _ _ _ _ r h => by simp [dogwatchref10_Split.j1] at h⟩
  | k + 1 => by
    obtain ⟨ih0, ih1⟩ := dogwatchref10_Split.mono_l k
    refine ⟨?_, ?_⟩
    · intro y0 y1 y2
      unfold dogwatchref10_Split.l0
      repeat' first
      | (with_reducible exact ih0 _ _ _)
      | (with_reducible exact ih1 _ _ _ _ _ _ _ _)
      | (with_reducible exact dogwatchref10_Sum.mono _ _)
      | (with_reducible exact LeO.refl _)
      | (with_reducible exact LeO.none _)
      | (with_reducible refine LeO.ite ?_ ?_)
      | (with_reducible refine LeO.bind ?_ (fun _ => ?_))
      | exact ih0 _ _ _
      | exact ih1 _ _ _ _ _ _ _ _
      | exact dogwatchref10_Sum.mono _ _
      | exact LeO.none _
      | refine LeO.ite ?_ ?_
      | refine LeO.bind ?_ (fun _ => ?_)
    · intro y0 y1 y2 y3 y4 y5 y6 y7
      unfold dogwatchref10_Split.j1
      repeat' first
      | (with_reducible exact ih0 _ _ _)
      | (with_reducible exact ih1 _ _ _ _ _ _ _ _)
      | (with_reducible exact dogwatchref10_Sum.mono _ _)
      | (with_reducible exact LeO.refl _)
      | (with_reducible exact LeO.none _)
      | (with_reducible refine LeO.ite ?_ ?_)
      | (with_reducible refine LeO.bind ?_ (fun _ => ?_))
      | exact ih0 _ _ _
      | exact ih1 _ _ _ _ _ _ _ _
      | exact dogwatchref10_Sum.mono _ _
      | exact LeO.none _
      | refine LeO.ite ?_ ?_
      | refine LeO.bind ?_ (fun _ => ?_)
theorem dogwatchref10_Split.mono : ∀ a0 k, LeO (dogwatchref10_Split.f k a0) (dogwatchref10_Split.f (k + 1) a0) := by
  intro a0 k
  obtain ⟨ih0, ih1⟩ := dogwatchref10_Split.mono_l k
  unfold dogwatchref10_Split.f
  repeat' first
      | (with_reducible exact ih0 _ _ _)
      | (with_reducible exact ih1 _ _ _ _ _ _ _ _)
      | (with_reducible exact dogwatchref10_Sum.mono _ _)
      | (with_reducible exact LeO.refl _)
      | (with_reducible exact LeO.none _)
      | (with_reducible refine LeO.ite ?_ ?_)
      | (with_reducible refine LeO.bind ?_ (fun _ => ?_))
      | exact ih0 _ _ _
      | exact ih1 _ _ _ _ _ _ _ _
      | exact dogwatchref10_Sum.mono _ _
      | exact LeO.none _
      | refine LeO.ite ?_ ?_
      | refine LeO.bind ?_ (fun _ => ?_)
def dogwatchref10_Split.T10 : Bool × List (List Nat × List Nat) := (true, [([], []), ([], []), ([], []), ([], []), ([2, 3], [2, 3]), ([4], [4]), ([0, 1, 5], [0, 1, 5]), ([6], [6]), ([], []), ([], []), ([], []), ([9, 10], [9, 10]), ([11], [11]), ([8, 12], [8, 12]), ([13], [13]), ([7, 14], [7, 14]), ([0, 1, 2, 3, 4, 5, 6, 7, 8, 9, 10, 11, 12, 13, 14, 15], []), ([16, 15, 7, 0, 1, 2, 3, 4, 5, 6, 7, 8, 9, 10, 11, 12, 13, 14, 15], [15, 16])])
def dogwatchref10_Split.B10 : List Nat := [0, 0, 0, 0, 12, 28, 63, 127, 0, 0, 0, 1536, 3584, 7936, 16128, 32767, 65535, 131071]
theorem dogwatchref10_Split.tab10 : rtab .any (opsOf Try.f23 10) = dogwatchref10_Split.T10 := by kernel_rfl
theorem dogwatchref10_Split.bits10 : waitsOk dogwatchref10_Split.T10.2 dogwatchref10_Split.B10 = true := by kernel_rfl
theorem v_away {ok : Nat → Prop} {e base c g : Nat} {ad : Addr} {W : World} {xs : List Int} (h : Kd.V (Kd.int .u8) e W base ok (.slice (some ad) xs.length c) xs) (hn : 0 < xs.length) (hok : ∀ k, ok k → k ≠ g) : ad.block ≠ g := hok _ (Kd.F_in (Kd.V_F h) rfl hn (by decide))
set_option maxHeartbeats 8000000 in
set_option maxRecDepth 100000 in
theorem dogwatchref10_Split.calls (k : Nat) (P0_ : Nat → Prop) (A0 : Option Addr) (c0 : Nat) (l0 : List Int) (r : List (S49)) (w : World) (hs0 : Kd.V (Kd.int .u8) 5 w w.heap.size (fun k_ => P0_ k_) (.slice A0 l0.length c0) l0) (h : dogwatchref10_Split.f k l0 = some r) :
    Calls Try.prog 23 #[.slice A0 l0.length c0] w fun e w' => ∃ v0_ : Value, e = .returned (v0_) ∧ Kd.N k49 49 w' w.heap.size (fun k_ => (P0_ k_ ∨ w.heap.size ≤ k_)) v0_ r ∧ Below w.heap.size w w' := by
  have hu49 := Try.underlying49
  have HO0 := Aside0.mk (show Kd.V (Kd.int .u8) 5 w w.heap.size (fun k_ => (P0_ k_ ∨ w.heap.size ≤ k_)) (.slice A0 l0.length c0) l0 from Kd.V_mono hs0 (fun k_ hk => .inl hk))
  have HB := Aside0.mk (Below.refl w.heap.size w)
  have H : (dogwatchref10_Split.l0 k l0 (([] : List (S49))) 0) = some r := h
  clear h
  obtain ⟨y182, hy182⟩ : ∃ y_ : List (S49), y_ = (([] : List (S49))) := ⟨_, rfl⟩
  replace H : (dogwatchref10_Split.l0 k l0 y182 0) = some r := by first | (rw [hy182]; with_reducible exact H) | (have H2_ := (Option.bind_some _ _).symm.trans H; rw [hy182]; with_reducible exact H2_) | (have H2_ := (Option.bind_some _ _).symm.trans H; with_reducible exact H2_) | with_reducible exact H | (rw [hy182]; exact H) | exact H
  have Ny182 := Aside0.mk hy182
  clear hy182
  have H' := Aside0.mk H
  clear H
  go_enter Try.func23, Try.ntmps23
  go_wp2_with (first | ((with_reducible refine gate_dst (N := 7) rfl ?_); refine Kd.N_lit k49 _ 49 ?hg (N' := 7) ?hd (xs := ([] : List (S49))) (inner := []) (ok := (fun k_ => (P0_ k_ ∨ w.heap.size ≤ k_))) (okp := (fun k_ => (P0_ k_ ∨ w.heap.size ≤ k_))) ?hr ?hp (fun _ hk => hk) ((show ∀ k_, w.heap.size ≤ k_ → (fun k_ => (P0_ k_ ∨ w.heap.size ≤ k_)) k_ from fun k_ hk => (.inr (Nat.le_trans (below_size (by repeat (first | (with_reducible first | exact HB.out | apply below_alloc | apply pw_below_drewN | apply below_drew1) | exact HB.out))) hk))) _ (Nat.le_refl _)) (Below.refl _ _) (Nat.le_refl _) (by simp) ?_; (case hd => rfl); (case hg => rfl); (case hr => first | (go_simp; done) | (go_simp; rfl)); (case hp => exact (Reps.none _ _)); intro v183 w2 ho3 hb hg_ hnew_; clear hg_ hnew_; (first | rw [← Ny182.out] at ho3 | (simp only [Int.reduceToNat] at ho3; rw [← Ny182.out] at ho3)); have n0_ := Aside0.mk (Kd.V_elder' (by (with_reducible repeat (first | apply Kd.V_alloc | apply Kd.V_drewN | apply Kd.V_drew)); exact HO0.out) (Kd.N_base ho3) hb); have n1_ := Aside0.mk (Kd.N_lower ho3 (below_size (by repeat (first | (with_reducible first | exact HB.out | apply below_alloc | apply pw_below_drewN | apply below_drew1) | exact HB.out)))); have n2_ := Aside0.mk (below_step (by repeat (first | (with_reducible first | exact HB.out | apply below_alloc | apply pw_below_drewN | apply below_drew1) | exact HB.out)) hb); clear HO0; clear HB; have HO0 := n0_; have HO184 := n1_; have HB := n2_; clear n0_ n1_ n2_; clear hb ho3))
  go_loopg [3, 4] k (fun kq v3 v4 w' => ∃ (x3_1 : List (S49)) (x4_1 : Int), v4 = .int .i64 x4_1 ∧ Aside0 (dogwatchref10_Split.l0 kq l0 x3_1 x4_1 = some r) ∧ Aside0 (kq ≤ k) ∧ Aside0 (Kd.V (Kd.int .u8) 5 w' w.heap.size (fun k_ => (P0_ k_ ∨ w.heap.size ≤ k_) ∧ some k_ ≠ (v3 : Value).ownBlock) (.slice A0 l0.length c0) l0) ∧ Aside0 (Kd.N k49 49 w' w.heap.size (fun k_ => (P0_ k_ ∨ w.heap.size ≤ k_)) v3 x3_1) ∧ Aside0 (Below w.heap.size w w'))
  case atStart => exact ⟨(y182), (0), (by first | rfl | (simp; done) | (simp [*]; done)), H', ⟨Nat.le_refl _⟩, ⟨by (with_reducible repeat (first | apply Kd.V_alloc | apply Kd.V_drewN | apply Kd.V_drew)); exact HO0.out⟩, ⟨by (with_reducible repeat (first | apply Kd.N_alloc | apply Kd.N_drewN | apply Kd.N_drew)); exact HO184.out⟩, ⟨by repeat (first | (with_reducible first | exact HB.out | apply below_alloc | apply pw_below_drewN | apply below_drew1) | exact HB.out)⟩⟩
  case round =>
    clear H'
    try clear c2
    try clear p2
    obtain ⟨x3_1, x4_1, rfl, HA, HK1, HO_0, HO_3, HB⟩ := hrel
    cases gk with
    | zero => exact absurd HA.out (by simp [dogwatchref10_Split.l0])
    | succ k1 =>
      have H := HA.out
      clear HA
      simp only [dogwatchref10_Split.l0] at H
      by_cases c4 : x4_1 < (l0.length : Int)
      · rw [if_pos c4] at H
        have c4b0 : decide (x4_1 < (l0.length : Int)) = true := decide_eq_true c4
        clear c4
        by_cases c5 : 0 ≤ x4_1
        · rw [if_pos c5] at H
          have c5b0 : decide (0 ≤ x4_1) = true := decide_eq_true c5
          clear c5
          have HC6 := Aside0.mk H
          clear H
          have p185 : 0 ≤ (x4_1 : Int) := of_decide_eq_true (by first | (with_reducible assumption) | assumption)
          have q185 : x4_1 < (l0.length : Int) := of_decide_eq_true (by first | (with_reducible assumption) | assumption)
          obtain ⟨ad185, e185, hx185_0⟩ := Kd.at_int (Kd.V_reads' HO_0.out).2.2 x4_1 p185 q185
          cases e185
          replace p185 := eq_true p185
          replace q185 := eq_true q185
          go_upto_region 6 with (first | ((with_reducible refine gate_dst (N := 6) rfl ?_); refine box_event ?hg (N := 6) ?hd (cs := #[.int .i64 0, .int .i64 0, .slice none 0 0, .bool false]) (t := 49) ?hr ?_; (case hd => rfl); (case hg => rfl); (case hr => first | (go_simp; done) | (go_simp; rfl)); intro gb186 hg w7 hbox hb; have n0_ := Aside0.mk (Kd.V_below (Kd.V_elderB (by (with_reducible repeat (first | apply Kd.V_alloc | apply Kd.V_drewN | apply Kd.V_drew)); exact HO_0.out) gb186 (Nat.le_of_eq hg.symm)) hb); have n1_ := Aside0.mk (Kd.N_below (Kd.N_elderB (by (with_reducible repeat (first | apply Kd.N_alloc | apply Kd.N_drewN | apply Kd.N_drew)); exact HO_3.out) gb186 (Nat.le_of_eq hg.symm)) hb); have n2_ := Aside0.mk (below_step (by repeat (first | (with_reducible first | exact HB.out | apply below_alloc | apply pw_below_drewN | apply below_drew1) | exact HB.out)) hb); have n3_ := Aside0.mk (hbox); have n4_ := Aside0.mk ((by rw [hg]; exact (below_size (by repeat (first | (with_reducible first | exact HB.out | apply below_alloc | apply pw_below_drewN | apply below_drew1) | exact HB.out))) : w.heap.size ≤ gb186)); have n5_ := Aside0.mk ((by rw [hg]; exact (below_size (by repeat (first | (with_reducible first | exact HB.out | apply below_alloc | apply pw_below_drewN | apply below_drew1) | exact HB.out))) : w.heap.size ≤ gb186)); clear HO_0; clear HO_3; clear HB; have HO_0 := n0_; have HO_3 := n1_; have HB := n2_; have BK186 := n3_; have GW186 := n4_; have GE186 := n5_; clear n0_ n1_ n2_ n3_ n4_ n5_; clear hb hbox hg; have hcz8_0 : w7.cell? ⟨gb186, 0, none⟩ = some (.int .i64 0) := (blk_cell BK186.out 0).trans rfl; have hcz8_1 : w7.cell? ⟨gb186, 1, none⟩ = some (.int .i64 0) := (blk_cell BK186.out 1).trans rfl; have hcz8_2 : w7.cell? ⟨gb186, 2, none⟩ = some (.slice none 0 0) := (blk_cell BK186.out 2).trans rfl; have hcz8_3 : w7.cell? ⟨gb186, 3, none⟩ = some (.bool false) := (blk_cell BK186.out 3).trans rfl; have hfz8_0 := blk_frozen BK186.out 0; have hfz8_1 := blk_frozen BK186.out 1; have hfz8_2 := blk_frozen BK186.out 2; have hfz8_3 := blk_frozen BK186.out 3))
          (try simp only [Act.put, List.setIfInBounds_toArray, List.set_cons_zero, List.set_cons_succ])
          go_cut [24] (fun v24 wc => ∃ (kq : Nat) (x24_5 : Bool), v24 = .bool x24_5 ∧ Aside0 (dogwatchref10_Split.j1 kq l0 x3_1 x4_1 (wrap64 (rd l0 x4_1)) x24_5 x4_1 1 false = some r) ∧ Aside0 (kq ≤ k1) ∧ Aside0 (Kd.V (Kd.int .u8) 5 wc w.heap.size (fun k_ => (P0_ k_ ∨ w.heap.size ≤ k_) ∧ some k_ ≠ (u3 : Value).ownBlock ∧ k_ ≠ gb186) (.slice (some ad185) l0.length c0) l0) ∧ Aside0 (Kd.N k49 49 wc w.heap.size (fun k_ => (P0_ k_ ∨ w.heap.size ≤ k_) ∧ k_ ≠ gb186) u3 x3_1) ∧ Aside0 (wc.heap[gb186]? = some (.cells #[.int .i64 x4_1, .int .i64 1, (.slice none 0 0), .bool false] 49 (0, 0))) ∧ Aside0 (Below w.heap.size w wc))
          case first =>
            have H := HC6.out
            clear HC6
            by_cases c9 : (wrap64 (rd l0 x4_1)) ≥ 1
            · rw [if_pos c9] at H
              have c9b0 : decide (1 ≤ (wrap64 (rd l0 x4_1))) = true := decide_eq_true c9
              clear c9
              (first | rw [c9b0] | (simp only [i64_w, i32_w]; rw [c9b0]) | skip)
              have H' := Aside0.mk H
              clear H
              go_wp2
              go_meet
              case rel => exact ⟨_, (decide ((wrap64 (rd l0 x4_1)) ≤ 120)), (by first | rfl | (simp; done) | (simp [*]; done)), H', ⟨by have := HK1.out; first | omega | exact Nat.le_refl _⟩, ⟨by (with_reducible repeat (first | apply Kd.V_alloc | apply Kd.V_drewN | apply Kd.V_drew)); exact Kd.V_mono (Kd.V_far (p := ⟨gb186, 3, none⟩) (Kd.V_far (p := ⟨gb186, 2, none⟩) (Kd.V_far (p := ⟨gb186, 1, none⟩) (Kd.V_far (p := ⟨gb186, 0, none⟩) (Kd.V_mono HO_0.out (fun k_ hk => (⟨hk, hk.2⟩ : _ ∧ k_ ≠ gb186))) (fun _ hk => hk.2) (.int .i64 x4_1)) (fun _ hk => hk.2) (.int .i64 1)) (fun _ hk => hk.2) (.slice none 0 0)) (fun _ hk => hk.2) (.bool false)) (fun _ hk => ⟨hk.1.1.1, ⟨hk.1.1.2, hk.1.2⟩⟩)⟩, ⟨by (with_reducible repeat (first | apply Kd.N_alloc | apply Kd.N_drewN | apply Kd.N_drew)); exact Kd.N_mono (Kd.N_far (p := ⟨gb186, 3, none⟩) (Kd.N_far (p := ⟨gb186, 2, none⟩) (Kd.N_far (p := ⟨gb186, 1, none⟩) (Kd.N_far (p := ⟨gb186, 0, none⟩) (Kd.N_mono HO_3.out (fun k_ hk => (⟨hk, hk.2⟩ : _ ∧ k_ ≠ gb186))) (fun _ hk => hk.2) (.int .i64 x4_1)) (fun _ hk => hk.2) (.int .i64 1)) (fun _ hk => hk.2) (.slice none 0 0)) (fun _ hk => hk.2) (.bool false)) (fun _ hk => ⟨hk.1.1, hk.1.2⟩)⟩, ⟨by (with_reducible repeat (first | refine blk_drewN ?_ _ | refine blk_drew ?_ | refine blk_alloc ?_ _)); refine blk_put (cs := #[.int .i64 x4_1, .int .i64 1, .slice none 0 0, .bool false]) ?_ 3 _ rfl; (with_reducible repeat (first | refine blk_drewN ?_ _ | refine blk_drew ?_ | refine blk_alloc ?_ _)); refine blk_put (cs := #[.int .i64 x4_1, .int .i64 1, .slice none 0 0, .bool false]) ?_ 2 _ rfl; (with_reducible repeat (first | refine blk_drewN ?_ _ | refine blk_drew ?_ | refine blk_alloc ?_ _)); refine blk_put (cs := #[.int .i64 x4_1, .int .i64 0, .slice none 0 0, .bool false]) ?_ 1 _ rfl; (with_reducible repeat (first | refine blk_drewN ?_ _ | refine blk_drew ?_ | refine blk_alloc ?_ _)); refine blk_put (cs := #[.int .i64 0, .int .i64 0, .slice none 0 0, .bool false]) ?_ 0 _ rfl; (with_reducible repeat (first | refine blk_drewN ?_ _ | refine blk_drew ?_ | refine blk_alloc ?_ _)); exact BK186.out⟩, ⟨by repeat (first | (with_reducible first | exact HB.out | apply below_alloc | apply pw_below_drewN | apply below_drew1 | refine below_set ?_ GE186.out) | exact HB.out)⟩⟩
            · rw [if_neg c9] at H
              have c9b0 : decide (1 ≤ (wrap64 (rd l0 x4_1))) = false := decide_eq_false c9
              clear c9
              (first | rw [c9b0] | (simp only [i64_w, i32_w]; rw [c9b0]) | skip)
              have H' := Aside0.mk H
              clear H
              go_wp2
              go_meet
              case rel => exact ⟨_, (false), (by first | rfl | (simp; done) | (simp [*]; done)), H', ⟨by have := HK1.out; first | omega | exact Nat.le_refl _⟩, ⟨by (with_reducible repeat (first | apply Kd.V_alloc | apply Kd.V_drewN | apply Kd.V_drew)); exact Kd.V_mono (Kd.V_far (p := ⟨gb186, 3, none⟩) (Kd.V_far (p := ⟨gb186, 2, none⟩) (Kd.V_far (p := ⟨gb186, 1, none⟩) (Kd.V_far (p := ⟨gb186, 0, none⟩) (Kd.V_mono HO_0.out (fun k_ hk => (⟨hk, hk.2⟩ : _ ∧ k_ ≠ gb186))) (fun _ hk => hk.2) (.int .i64 x4_1)) (fun _ hk => hk.2) (.int .i64 1)) (fun _ hk => hk.2) (.slice none 0 0)) (fun _ hk => hk.2) (.bool false)) (fun _ hk => ⟨hk.1.1.1, ⟨hk.1.1.2, hk.1.2⟩⟩)⟩, ⟨by (with_reducible repeat (first | apply Kd.N_alloc | apply Kd.N_drewN | apply Kd.N_drew)); exact Kd.N_mono (Kd.N_far (p := ⟨gb186, 3, none⟩) (Kd.N_far (p := ⟨gb186, 2, none⟩) (Kd.N_far (p := ⟨gb186, 1, none⟩) (Kd.N_far (p := ⟨gb186, 0, none⟩) (Kd.N_mono HO_3.out (fun k_ hk => (⟨hk, hk.2⟩ : _ ∧ k_ ≠ gb186))) (fun _ hk => hk.2) (.int .i64 x4_1)) (fun _ hk => hk.2) (.int .i64 1)) (fun _ hk => hk.2) (.slice none 0 0)) (fun _ hk => hk.2) (.bool false)) (fun _ hk => ⟨hk.1.1, hk.1.2⟩)⟩, ⟨by (with_reducible repeat (first | refine blk_drewN ?_ _ | refine blk_drew ?_ | refine blk_alloc ?_ _)); refine blk_put (cs := #[.int .i64 x4_1, .int .i64 1, .slice none 0 0, .bool false]) ?_ 3 _ rfl; (with_reducible repeat (first | refine blk_drewN ?_ _ | refine blk_drew ?_ | refine blk_alloc ?_ _)); refine blk_put (cs := #[.int .i64 x4_1, .int .i64 1, .slice none 0 0, .bool false]) ?_ 2 _ rfl; (with_reducible repeat (first | refine blk_drewN ?_ _ | refine blk_drew ?_ | refine blk_alloc ?_ _)); refine blk_put (cs := #[.int .i64 x4_1, .int .i64 0, .slice none 0 0, .bool false]) ?_ 1 _ rfl; (with_reducible repeat (first | refine blk_drewN ?_ _ | refine blk_drew ?_ | refine blk_alloc ?_ _)); refine blk_put (cs := #[.int .i64 0, .int .i64 0, .slice none 0 0, .bool false]) ?_ 0 _ rfl; (with_reducible repeat (first | refine blk_drewN ?_ _ | refine blk_drew ?_ | refine blk_alloc ?_ _)); exact BK186.out⟩, ⟨by repeat (first | (with_reducible first | exact HB.out | apply below_alloc | apply pw_below_drewN | apply below_drew1 | refine below_set ?_ GE186.out) | exact HB.out)⟩⟩
          case rest =>
            clear HC6
            try clear p1
            try clear q1
            try clear hx1
            try clear c2
            try clear p2
            try clear c4
            try clear c4b0
            try clear c5
            try clear c5b0
            try clear p6
            try clear c9
            try clear c9b0
            try clear hcz8_0
            try clear hcz8_1
            try clear hcz8_2
            try clear hcz8_3
            try clear hfz8_0
            try clear hfz8_1
            try clear hfz8_2
            try clear hfz8_3
            try clear hx185_0
            try clear p185
            try clear p2
            try clear q185
            obtain ⟨kq, x24_5, rfl, HA, HJ5, HO_0, HO_3, BK186, HB⟩ := hcut
            cases kq with
            | zero => exact absurd HA.out (by simp [dogwatchref10_Split.j1])
            | succ kj5 =>
              have H := HA.out
              clear HA
              simp only [dogwatchref10_Split.j1] at H
              by_cases c10 : x24_5 = true
              · subst c10
                have H1 : (if (wrap64 ((l0.length : Int) - x4_1)) < (wrap64 ((wrap64 (rd l0 x4_1)) + 2)) then (if false = true then (if 0 ≤ (wrap64 (x4_1 + 1)) then (if (wrap64 (x4_1 + 1)) ≤ (wrap64 ((wrap64 (x4_1 + (wrap64 (rd l0 x4_1)))) + 1)) then (if (wrap64 ((wrap64 (x4_1 + (wrap64 (rd l0 x4_1)))) + 1)) ≤ (l0.length : Int) then (if x3_1.length < 2932031007402 then (dogwatchref10_Split.l0 kj5 l0 (x3_1 ++ [(⟨x4_1, wrap64 ((l0.length : Int) - x4_1), ((l0.take ((wrap64 ((wrap64 (x4_1 + (wrap64 (rd l0 x4_1)))) + 1)) : Int).toNat).drop ((wrap64 (x4_1 + 1)) : Int).toNat), false⟩ : S49)]) (wrap64 (x4_1 + (wrap64 ((l0.length : Int) - x4_1))))) else (none)) else (none)) else (none)) else (none)) else (if x3_1.length < 2932031007402 then (dogwatchref10_Split.l0 kj5 l0 (x3_1 ++ [(⟨x4_1, wrap64 ((l0.length : Int) - x4_1), ([] : List Int), false⟩ : S49)]) (wrap64 (x4_1 + (wrap64 ((l0.length : Int) - x4_1))))) else (none))) else (if 0 ≤ x4_1 then (if x4_1 ≤ (wrap64 ((wrap64 (x4_1 + (wrap64 (rd l0 x4_1)))) + 1)) then (if (wrap64 ((wrap64 (x4_1 + (wrap64 (rd l0 x4_1)))) + 1)) ≤ (l0.length : Int) then ((dogwatchref10_Sum.f kj5 ((l0.take ((wrap64 ((wrap64 (x4_1 + (wrap64 (rd l0 x4_1)))) + 1)) : Int).toNat).drop (x4_1 : Int).toNat)).bind fun t203 => (if 0 ≤ (wrap64 ((wrap64 (x4_1 + (wrap64 (rd l0 x4_1)))) + 1)) then (if (wrap64 ((wrap64 (x4_1 + (wrap64 (rd l0 x4_1)))) + 1)) < (l0.length : Int) then (if t203 = (rd l0 (wrap64 ((wrap64 (x4_1 + (wrap64 (rd l0 x4_1)))) + 1))) then (if 0 ≤ (wrap64 (x4_1 + 1)) then (if (wrap64 (x4_1 + 1)) ≤ (wrap64 ((wrap64 (x4_1 + (wrap64 (rd l0 x4_1)))) + 1)) then (if x3_1.length < 2932031007402 then (dogwatchref10_Split.l0 kj5 l0 (x3_1 ++ [(⟨x4_1, wrap64 ((wrap64 (rd l0 x4_1)) + 2), ((l0.take ((wrap64 ((wrap64 (x4_1 + (wrap64 (rd l0 x4_1)))) + 1)) : Int).toNat).drop ((wrap64 (x4_1 + 1)) : Int).toNat), (t203 == (rd l0 (wrap64 ((wrap64 (x4_1 + (wrap64 (rd l0 x4_1)))) + 1))))⟩ : S49)]) (wrap64 (x4_1 + (wrap64 ((wrap64 (rd l0 x4_1)) + 2))))) else (none)) else (none)) else (none)) else (if x3_1.length < 2932031007402 then (dogwatchref10_Split.l0 kj5 l0 (x3_1 ++ [(⟨x4_1, wrap64 ((wrap64 (rd l0 x4_1)) + 2), ([] : List Int), (t203 == (rd l0 (wrap64 ((wrap64 (x4_1 + (wrap64 (rd l0 x4_1)))) + 1))))⟩ : S49)]) (wrap64 (x4_1 + (wrap64 ((wrap64 (rd l0 x4_1)) + 2))))) else (none))) else (none)) else (none))) else (none)) else (none)) else (none))) = some r := by rw [if_pos rfl] at H; exact H
                clear H
                have H := H1
                clear H1
                by_cases c11 : (wrap64 ((l0.length : Int) - x4_1)) < (wrap64 ((wrap64 (rd l0 x4_1)) + 2))
                · rw [if_pos c11] at H
                  have c11b0 : decide ((wrap64 ((l0.length : Int) - x4_1)) < (wrap64 ((wrap64 (rd l0 x4_1)) + 2))) = true := decide_eq_true c11
                  clear c11
                  by_cases c12 : false = true
                  · exact absurd c12 (by decide)
                  · clear c12
                    have H1 : (if x3_1.length < 2932031007402 then (dogwatchref10_Split.l0 kj5 l0 (x3_1 ++ [(⟨x4_1, wrap64 ((l0.length : Int) - x4_1), ([] : List Int), false⟩ : S49)]) (wrap64 (x4_1 + (wrap64 ((l0.length : Int) - x4_1))))) else (none)) = some r := by rw [if_neg (show ¬ (false = true) by decide)] at H; exact H
                    clear H
                    have H := H1
                    clear H1
                    by_cases c28 : x3_1.length < 2932031007402
                    · rw [if_pos c28] at H
                      have LMc28 := Aside0.mk c28
                      clear c28
                      obtain ⟨y195, hy195⟩ : ∃ y_ : List (S49), y_ = (x3_1 ++ [(⟨x4_1, wrap64 ((l0.length : Int) - x4_1), ([] : List Int), false⟩ : S49)]) := ⟨_, rfl⟩
                      replace H : (dogwatchref10_Split.l0 kj5 l0 y195 (wrap64 (x4_1 + (wrap64 ((l0.length : Int) - x4_1))))) = some r := by first | (rw [hy195]; with_reducible exact H) | (have H2_ := (Option.bind_some _ _).symm.trans H; rw [hy195]; with_reducible exact H2_) | (have H2_ := (Option.bind_some _ _).symm.trans H; with_reducible exact H2_) | with_reducible exact H | (rw [hy195]; exact H) | exact H
                      have Ny195 := Aside0.mk hy195
                      clear hy195
                      have H' := Aside0.mk H
                      clear H
                      have hcz29_0 : wc.cell? ⟨gb186, 0, none⟩ = some (.int .i64 x4_1) := (blk_cell BK186.out 0).trans rfl
                      have hcz29_1 : wc.cell? ⟨gb186, 1, none⟩ = some (.int .i64 1) := (blk_cell BK186.out 1).trans rfl
                      have hcz29_2 : wc.cell? ⟨gb186, 2, none⟩ = some (.slice none 0 0) := (blk_cell BK186.out 2).trans rfl
                      have hcz29_3 : wc.cell? ⟨gb186, 3, none⟩ = some (.bool false) := (blk_cell BK186.out 3).trans rfl
                      have hfz29_0 := blk_frozen BK186.out 0
                      have hfz29_1 := blk_frozen BK186.out 1
                      have hfz29_2 := blk_frozen BK186.out 2
                      have hfz29_3 := blk_frozen BK186.out 3
                      go_wp2_with (first | ((with_reducible refine gate_builtin (b := .append) (xs := #[.tmp 68, .tmp 70]) rfl ?_); at_builtin; refine Kd.N_append k49 (w0 := w) w.heap.size rfl (.tmp 68) (.tmp 70) 41 49 (.agg #[(.int .i64 0), (.int .i64 0), (.slice none 0 0), (.bool false)]) 48 rfl Try.underlying41 info49 rfl (by decide) (by omega) u3 x3_1 (⟨x4_1, wrap64 ((l0.length : Int) - x4_1), ([] : List Int), false⟩ : S49) [.int .i64 x4_1, .int .i64 (wrap64 ((l0.length : Int) - x4_1)), .slice none 0 0, .bool false] (fun k_ => (P0_ k_ ∨ w.heap.size ≤ k_) ∧ k_ ≠ gb186) (fun k_ => ((fun k_ => (P0_ k_ ∨ w.heap.size ≤ k_) ∧ k_ ≠ gb186)) k_ ∧ some k_ ≠ (u3 : Value).ownBlock) rfl (by first | (go_simp; done) | (go_simp; rfl)) ?aP (fun _ hk => hk) ?aF ?aO ?aB ?aS ?aL ?_; (case aP => exact (k49_mkF _ _ (⟨x4_1, wrap64 ((l0.length : Int) - x4_1), ([] : List Int), false⟩ : S49) (Nat.le_refl _) (Kd.F_nil _ _ _))); (case aB => exact (by repeat (first | (with_reducible first | exact HB.out | apply below_alloc | apply pw_below_drewN | apply below_drew1 | refine below_set ?_ GE186.out) | exact HB.out))); (case aF => exact (fun k_ hk => ⟨(.inr (Nat.le_trans (below_size (by repeat (first | (with_reducible first | exact HB.out | apply below_alloc | apply pw_below_drewN | apply below_drew1 | refine below_set ?_ GE186.out) | exact HB.out))) hk)), Kd.freshB (g := gb186) (o := .cells #[.int .i64 x4_1, .int .i64 (wrap64 ((l0.length : Int) - x4_1)), .slice none 0 0, .bool false] 49 (0, 0)) (by (with_reducible repeat (first | refine blk_drewN ?_ _ | refine blk_drew ?_ | refine blk_alloc ?_ _)); refine blk_put (cs := #[.int .i64 x4_1, .int .i64 (wrap64 ((wrap64 (rd l0 x4_1)) + 2)), .slice none 0 0, .bool false]) ?_ 1 _ rfl; (with_reducible repeat (first | refine blk_drewN ?_ _ | refine blk_drew ?_ | refine blk_alloc ?_ _)); refine blk_put (cs := #[.int .i64 x4_1, .int .i64 1, .slice none 0 0, .bool false]) ?_ 1 _ rfl; (with_reducible repeat (first | refine blk_drewN ?_ _ | refine blk_drew ?_ | refine blk_alloc ?_ _)); exact BK186.out) k_ hk⟩)); (case aO => exact (by (with_reducible repeat (first | apply Kd.N_alloc | apply Kd.N_drewN | apply Kd.N_drew)); exact Kd.N_mono (Kd.N_far (p := ⟨gb186, 1, none⟩) (Kd.N_far (p := ⟨gb186, 1, none⟩) (Kd.N_mono HO_3.out (fun k_ hk => (⟨hk, hk.2⟩ : _ ∧ k_ ≠ gb186))) (fun _ hk => hk.2) (.int .i64 (wrap64 ((wrap64 (rd l0 x4_1)) + 2)))) (fun _ hk => hk.2) (.int .i64 (wrap64 ((l0.length : Int) - x4_1)))) (fun _ hk => ⟨hk.1.1, hk.1.2⟩))); (case aS => exact (below_size (by repeat (first | (with_reducible first | exact HB.out | apply below_alloc | apply pw_below_drewN | apply below_drew1 | refine below_set ?_ GE186.out) | exact HB.out)))); (case aL => have := LMc28.out; omega); intro v196 w30 ho hb hg hat; rw [← Ny195.out] at ho; have n0_ := Aside0.mk (Kd.V_afterv (ok := (fun k_ => (P0_ k_ ∨ w.heap.size ≤ k_) ∧ k_ ≠ gb186)) (by (with_reducible repeat (first | apply Kd.V_alloc | apply Kd.V_drewN | apply Kd.V_drew)); exact Kd.V_mono (Kd.V_far (p := ⟨gb186, 1, none⟩) (Kd.V_far (p := ⟨gb186, 1, none⟩) (Kd.V_mono HO_0.out (fun k_ hk => (⟨hk, hk.2.2⟩ : _ ∧ k_ ≠ gb186))) (fun _ hk => hk.2) (.int .i64 (wrap64 ((wrap64 (rd l0 x4_1)) + 2)))) (fun _ hk => hk.2) (.int .i64 (wrap64 ((l0.length : Int) - x4_1)))) (fun _ hk => ⟨⟨hk.1.1, hk.1.2.2⟩, hk.1.2.1⟩)) hg hat); have n1_ := Aside0.mk (blk_grown (g := gb186) (o := .cells #[.int .i64 x4_1, .int .i64 (wrap64 ((l0.length : Int) - x4_1)), .slice none 0 0, .bool false] 49 (0, 0)) (by (with_reducible repeat (first | refine blk_drewN ?_ _ | refine blk_drew ?_ | refine blk_alloc ?_ _)); refine blk_put (cs := #[.int .i64 x4_1, .int .i64 (wrap64 ((wrap64 (rd l0 x4_1)) + 2)), .slice none 0 0, .bool false]) ?_ 1 _ rfl; (with_reducible repeat (first | refine blk_drewN ?_ _ | refine blk_drew ?_ | refine blk_alloc ?_ _)); refine blk_put (cs := #[.int .i64 x4_1, .int .i64 1, .slice none 0 0, .bool false]) ?_ 1 _ rfl; (with_reducible repeat (first | refine blk_drewN ?_ _ | refine blk_drew ?_ | refine blk_alloc ?_ _)); exact BK186.out) hg (Kd.N_away HO_3.out (fun _ hk => hk.2))); have n2_ := Aside0.mk (hb); have n3_ := Aside0.mk (ho); clear HO_0; clear BK186; clear HB; clear HO_3; have HO_0 := n0_; have BK186 := n1_; have HB := n2_; have HO197 := n3_; clear n0_ n1_ n2_ n3_; clear ho hb hg hat; have hcz31_0 : w30.cell? ⟨gb186, 0, none⟩ = some (.int .i64 x4_1) := (blk_cell BK186.out 0).trans rfl; have hcz31_1 : w30.cell? ⟨gb186, 1, none⟩ = some (.int .i64 (wrap64 ((l0.length : Int) - x4_1))) := (blk_cell BK186.out 1).trans rfl; have hcz31_2 : w30.cell? ⟨gb186, 2, none⟩ = some (.slice none 0 0) := (blk_cell BK186.out 2).trans rfl; have hcz31_3 : w30.cell? ⟨gb186, 3, none⟩ = some (.bool false) := (blk_cell BK186.out 3).trans rfl; have hfz31_0 := blk_frozen BK186.out 0; have hfz31_1 := blk_frozen BK186.out 1; have hfz31_2 := blk_frozen BK186.out 2; have hfz31_3 := blk_frozen BK186.out 3))
                      go_roundg kj5
                      case measure => have := HK1.out; have := HJ5.out; omega
                      case rel => exact ⟨(y195), (wrap64 (x4_1 + (wrap64 ((l0.length : Int) - x4_1)))), (by first | rfl | (simp; done) | (simp [*]; done)), H', ⟨by have := HK1.out; have := HJ5.out; omega⟩, ⟨by (with_reducible repeat (first | apply Kd.V_alloc | apply Kd.V_drewN | apply Kd.V_drew)); exact Kd.V_mono HO_0.out (fun _ hk => ⟨hk.1.1, hk.2⟩)⟩, ⟨by (with_reducible repeat (first | apply Kd.N_alloc | apply Kd.N_drewN | apply Kd.N_drew)); exact Kd.N_mono HO197.out (fun _ hk => hk.1)⟩, ⟨by repeat (first | (with_reducible first | exact HB.out | apply below_alloc | apply pw_below_drewN | apply below_drew1 | refine below_set ?_ GE186.out) | exact HB.out)⟩⟩
                    · rw [if_neg c28] at H
                      exact absurd H (by simp)
                · rw [if_neg c11] at H
                  have c11b0 : decide ((wrap64 ((l0.length : Int) - x4_1)) < (wrap64 ((wrap64 (rd l0 x4_1)) + 2))) = false := decide_eq_false c11
                  clear c11
                  by_cases c32 : 0 ≤ x4_1
                  · rw [if_pos c32] at H
                    have c32b0 := eq_true c32
                    have c32b1 : decide (0 ≤ x4_1) = true := decide_eq_true c32
                    clear c32
                    by_cases c33 : x4_1 ≤ (wrap64 ((wrap64 (x4_1 + (wrap64 (rd l0 x4_1)))) + 1))
                    · rw [if_pos c33] at H
                      have c33b0 := eq_true c33
                      have c33b1 : decide (x4_1 ≤ (wrap64 ((wrap64 (x4_1 + (wrap64 (rd l0 x4_1)))) + 1))) = true := decide_eq_true c33
                      by_cases c34 : (wrap64 ((wrap64 (x4_1 + (wrap64 (rd l0 x4_1)))) + 1)) ≤ (l0.length : Int)
                      · rw [if_pos c34] at H
                        have c34b0 := eq_true c34
                        have c34b1 : decide ((wrap64 ((wrap64 (x4_1 + (wrap64 (rd l0 x4_1)))) + 1)) ≤ (l0.length : Int)) = true := decide_eq_true c34
                        obtain ⟨y198, hy198⟩ : ∃ y_ : List Int, y_ = ((l0.take ((wrap64 ((wrap64 (x4_1 + (wrap64 (rd l0 x4_1)))) + 1)) : Int).toNat).drop (x4_1 : Int).toNat) := ⟨_, rfl⟩
                        replace H : ((dogwatchref10_Sum.f kj5 y198).bind fun t203 => (if 0 ≤ (wrap64 ((wrap64 (x4_1 + (wrap64 (rd l0 x4_1)))) + 1)) then (if (wrap64 ((wrap64 (x4_1 + (wrap64 (rd l0 x4_1)))) + 1)) < (l0.length : Int) then (if t203 = (rd l0 (wrap64 ((wrap64 (x4_1 + (wrap64 (rd l0 x4_1)))) + 1))) then (if 0 ≤ (wrap64 (x4_1 + 1)) then (if (wrap64 (x4_1 + 1)) ≤ (wrap64 ((wrap64 (x4_1 + (wrap64 (rd l0 x4_1)))) + 1)) then (if x3_1.length < 2932031007402 then (dogwatchref10_Split.l0 kj5 l0 (x3_1 ++ [(⟨x4_1, wrap64 ((wrap64 (rd l0 x4_1)) + 2), ((l0.take ((wrap64 ((wrap64 (x4_1 + (wrap64 (rd l0 x4_1)))) + 1)) : Int).toNat).drop ((wrap64 (x4_1 + 1)) : Int).toNat), (t203 == (rd l0 (wrap64 ((wrap64 (x4_1 + (wrap64 (rd l0 x4_1)))) + 1))))⟩ : S49)]) (wrap64 (x4_1 + (wrap64 ((wrap64 (rd l0 x4_1)) + 2))))) else (none)) else (none)) else (none)) else (if x3_1.length < 2932031007402 then (dogwatchref10_Split.l0 kj5 l0 (x3_1 ++ [(⟨x4_1, wrap64 ((wrap64 (rd l0 x4_1)) + 2), ([] : List Int), (t203 == (rd l0 (wrap64 ((wrap64 (x4_1 + (wrap64 (rd l0 x4_1)))) + 1))))⟩ : S49)]) (wrap64 (x4_1 + (wrap64 ((wrap64 (rd l0 x4_1)) + 2))))) else (none))) else (none)) else (none))) = some r := by first | (rw [hy198]; with_reducible exact H) | (have H2_ := (Option.bind_some _ _).symm.trans H; rw [hy198]; with_reducible exact H2_) | (have H2_ := (Option.bind_some _ _).symm.trans H; with_reducible exact H2_) | with_reducible exact H | (rw [hy198]; exact H) | exact H
                        have Ny198 := Aside0.mk hy198
                        clear hy198
                        replace H := Option.bind_eq_some_iff.mp H
                        obtain ⟨t203, A350, H⟩ := H
                        replace H : (if 0 ≤ (wrap64 ((wrap64 (x4_1 + (wrap64 (rd l0 x4_1)))) + 1)) then (if (wrap64 ((wrap64 (x4_1 + (wrap64 (rd l0 x4_1)))) + 1)) < (l0.length : Int) then (if t203 = (rd l0 (wrap64 ((wrap64 (x4_1 + (wrap64 (rd l0 x4_1)))) + 1))) then (if 0 ≤ (wrap64 (x4_1 + 1)) then (if (wrap64 (x4_1 + 1)) ≤ (wrap64 ((wrap64 (x4_1 + (wrap64 (rd l0 x4_1)))) + 1)) then (if x3_1.length < 2932031007402 then (dogwatchref10_Split.l0 kj5 l0 (x3_1 ++ [(⟨x4_1, wrap64 ((wrap64 (rd l0 x4_1)) + 2), ((l0.take ((wrap64 ((wrap64 (x4_1 + (wrap64 (rd l0 x4_1)))) + 1)) : Int).toNat).drop ((wrap64 (x4_1 + 1)) : Int).toNat), (t203 == (rd l0 (wrap64 ((wrap64 (x4_1 + (wrap64 (rd l0 x4_1)))) + 1))))⟩ : S49)]) (wrap64 (x4_1 + (wrap64 ((wrap64 (rd l0 x4_1)) + 2))))) else (none)) else (none)) else (none)) else (if x3_1.length < 2932031007402 then (dogwatchref10_Split.l0 kj5 l0 (x3_1 ++ [(⟨x4_1, wrap64 ((wrap64 (rd l0 x4_1)) + 2), ([] : List Int), (t203 == (rd l0 (wrap64 ((wrap64 (x4_1 + (wrap64 (rd l0 x4_1)))) + 1))))⟩ : S49)]) (wrap64 (x4_1 + (wrap64 ((wrap64 (rd l0 x4_1)) + 2))))) else (none))) else (none)) else (none)) = some r := H
                        have A35 := Aside0.mk A350
                        clear A350
                        obtain ⟨ji36, hji36⟩ : ∃ j_ : Int, (wrap64 ((wrap64 (x4_1 + (wrap64 (rd l0 x4_1)))) + 1)) = j_ := ⟨_, rfl⟩
                        replace H : (if 0 ≤ (ji36) then (if (ji36) < (l0.length : Int) then (if t203 = (rd l0 (ji36)) then (if 0 ≤ (wrap64 (x4_1 + 1)) then (if (wrap64 (x4_1 + 1)) ≤ (ji36) then (if x3_1.length < 2932031007402 then (dogwatchref10_Split.l0 kj5 l0 (x3_1 ++ [(⟨x4_1, wrap64 ((wrap64 (rd l0 x4_1)) + 2), ((l0.take ((ji36) : Int).toNat).drop ((wrap64 (x4_1 + 1)) : Int).toNat), (t203 == (rd l0 (ji36)))⟩ : S49)]) (wrap64 (x4_1 + (wrap64 ((wrap64 (rd l0 x4_1)) + 2))))) else (none)) else (none)) else (none)) else (if x3_1.length < 2932031007402 then (dogwatchref10_Split.l0 kj5 l0 (x3_1 ++ [(⟨x4_1, wrap64 ((wrap64 (rd l0 x4_1)) + 2), ([] : List Int), (t203 == (rd l0 (ji36)))⟩ : S49)]) (wrap64 (x4_1 + (wrap64 ((wrap64 (rd l0 x4_1)) + 2))))) else (none))) else (none)) else (none)) = some r := by first | (rw [hji36] at H; exact H) | (simp only [hji36] at H ⊢; exact H)
                        (try rw [hji36] at c33b0)
                        (try rw [hji36] at c33b1)
                        (try rw [hji36] at c33)
                        (try rw [hji36] at c34b0)
                        (try rw [hji36] at c34b1)
                        (try rw [hji36] at c34)
                        (try rw [hji36] at Ny198)
                        (try rw [hji36] at A35)
                        have hji36w : (IntKind.i64.wrap ((wrap64 (x4_1 + (wrap64 (rd l0 x4_1)))) + 1)) = ji36 := (i64_w _).trans hji36
                        by_cases c37 : 0 ≤ (ji36)
                        · rw [if_pos c37] at H
                          have c37b0 : decide (0 ≤ (ji36)) = true := decide_eq_true c37
                          clear c37
                          by_cases c38 : (ji36) < (l0.length : Int)
                          · rw [if_pos c38] at H
                            have c38b0 : decide ((ji36) < (l0.length : Int)) = true := decide_eq_true c38
                            clear c38
                            by_cases c39 : t203 = (rd l0 (ji36))
                            · rw [if_pos c39] at H
                              have c39b0 : (t203 == (rd l0 (ji36))) = true := beq_iff_eq.mpr c39
                              rw [c39b0] at H
                              have c39b1 : (t203 != (rd l0 (ji36))) = false := bne_eq_false_iff_eq.mpr c39
                              clear c39
                              obtain ⟨ji40, hji40⟩ : ∃ j_ : Int, (wrap64 (x4_1 + 1)) = j_ := ⟨_, rfl⟩
                              replace H : (if 0 ≤ (ji40) then (if (ji40) ≤ (ji36) then (if x3_1.length < 2932031007402 then (dogwatchref10_Split.l0 kj5 l0 (x3_1 ++ [(⟨x4_1, wrap64 ((wrap64 (rd l0 x4_1)) + 2), ((l0.take ((ji36) : Int).toNat).drop ((ji40) : Int).toNat), true⟩ : S49)]) (wrap64 (x4_1 + (wrap64 ((wrap64 (rd l0 x4_1)) + 2))))) else (none)) else (none)) else (none)) = some r := by first | (rw [hji40] at H; exact H) | (simp only [hji40] at H ⊢; exact H)
                              (try rw [hji40] at A35)
                              have hji40w : (IntKind.i64.wrap (x4_1 + 1)) = ji40 := (i64_w _).trans hji40
                              by_cases c41 : 0 ≤ (ji40)
                              · rw [if_pos c41] at H
                                have c41b0 := eq_true c41
                                have c41b1 : decide (0 ≤ (ji40)) = true := decide_eq_true c41
                                clear c41
                                by_cases c42 : (ji40) ≤ (ji36)
                                · rw [if_pos c42] at H
                                  have c42b0 := eq_true c42
                                  have c42b1 : decide ((ji40) ≤ (ji36)) = true := decide_eq_true c42
                                  clear c42
                                  have c43b0 := eq_true (of_decide_eq_true (by first | (with_reducible assumption) | assumption) : (ji36) ≤ (l0.length : Int))
                                  obtain ⟨y205, hy205⟩ : ∃ y_ : List Int, y_ = ((l0.take ((ji36) : Int).toNat).drop ((ji40) : Int).toNat) := ⟨_, rfl⟩
                                  replace H : (if x3_1.length < 2932031007402 then (dogwatchref10_Split.l0 kj5 l0 (x3_1 ++ [(⟨x4_1, wrap64 ((wrap64 (rd l0 x4_1)) + 2), y205, true⟩ : S49)]) (wrap64 (x4_1 + (wrap64 ((wrap64 (rd l0 x4_1)) + 2))))) else (none)) = some r := by first | (rw [hy205]; with_reducible exact H) | (have H2_ := (Option.bind_some _ _).symm.trans H; rw [hy205]; with_reducible exact H2_) | (have H2_ := (Option.bind_some _ _).symm.trans H; with_reducible exact H2_) | with_reducible exact H | (rw [hy205]; exact H) | exact H
                                  have Ny205 := Aside0.mk hy205
                                  clear hy205
                                  by_cases c44 : x3_1.length < 2932031007402
                                  · rw [if_pos c44] at H
                                    have LMc44 := Aside0.mk c44
                                    clear c44
                                    obtain ⟨y210, hy210⟩ : ∃ y_ : List (S49), y_ = (x3_1 ++ [(⟨x4_1, wrap64 ((wrap64 (rd l0 x4_1)) + 2), y205, true⟩ : S49)]) := ⟨_, rfl⟩
                                    replace H : (dogwatchref10_Split.l0 kj5 l0 y210 (wrap64 (x4_1 + (wrap64 ((wrap64 (rd l0 x4_1)) + 2))))) = some r := by first | (rw [hy210]; with_reducible exact H) | (have H2_ := (Option.bind_some _ _).symm.trans H; rw [hy210]; with_reducible exact H2_) | (have H2_ := (Option.bind_some _ _).symm.trans H; with_reducible exact H2_) | with_reducible exact H | (rw [hy210]; exact H) | exact H
                                    have Ny210 := Aside0.mk hy210
                                    clear hy210
                                    have H' := Aside0.mk H
                                    clear H
                                    have hcz45_0 : wc.cell? ⟨gb186, 0, none⟩ = some (.int .i64 x4_1) := (blk_cell BK186.out 0).trans rfl
                                    have hcz45_1 : wc.cell? ⟨gb186, 1, none⟩ = some (.int .i64 1) := (blk_cell BK186.out 1).trans rfl
                                    have hcz45_2 : wc.cell? ⟨gb186, 2, none⟩ = some (.slice none 0 0) := (blk_cell BK186.out 2).trans rfl
                                    have hcz45_3 : wc.cell? ⟨gb186, 3, none⟩ = some (.bool false) := (blk_cell BK186.out 3).trans rfl
                                    have hfz45_0 := blk_frozen BK186.out 0
                                    have hfz45_1 := blk_frozen BK186.out 1
                                    have hfz45_2 := blk_frozen BK186.out 2
                                    have hfz45_3 := blk_frozen BK186.out 3
                                    try go_wp2
                                    have n0_ : Aside0 (Kd.V (Kd.int .u8) 5 (wc.setCell ⟨gb186, 1, none⟩ (.int .i64 (wrap64 ((wrap64 (rd l0 x4_1)) + 2)))) w.heap.size (fun k_ => (P0_ k_ ∨ w.heap.size ≤ k_) ∧ some k_ ≠ (u3 : Value).ownBlock ∧ k_ ≠ gb186) (.slice (some ad185) l0.length c0) l0) := ⟨by (with_reducible repeat (first | apply Kd.V_alloc | apply Kd.V_drewN | apply Kd.V_drew)); exact Kd.V_mono (Kd.V_far (p := ⟨gb186, 1, none⟩) (Kd.V_mono HO_0.out (fun k_ hk => (⟨hk, hk.2.2⟩ : _ ∧ k_ ≠ gb186))) (fun _ hk => hk.2) (.int .i64 (wrap64 ((wrap64 (rd l0 x4_1)) + 2)))) (fun _ hk => ⟨hk.1.1, ⟨hk.1.2.1, hk.1.2.2⟩⟩)⟩
                                    have n1_ : Aside0 (Kd.N k49 49 (wc.setCell ⟨gb186, 1, none⟩ (.int .i64 (wrap64 ((wrap64 (rd l0 x4_1)) + 2)))) w.heap.size (fun k_ => (P0_ k_ ∨ w.heap.size ≤ k_) ∧ k_ ≠ gb186) u3 x3_1) := ⟨by (with_reducible repeat (first | apply Kd.N_alloc | apply Kd.N_drewN | apply Kd.N_drew)); exact Kd.N_mono (Kd.N_far (p := ⟨gb186, 1, none⟩) (Kd.N_mono HO_3.out (fun k_ hk => (⟨hk, hk.2⟩ : _ ∧ k_ ≠ gb186))) (fun _ hk => hk.2) (.int .i64 (wrap64 ((wrap64 (rd l0 x4_1)) + 2)))) (fun _ hk => ⟨hk.1.1, hk.1.2⟩)⟩
                                    have n2_ : Aside0 ((wc.setCell ⟨gb186, 1, none⟩ (.int .i64 (wrap64 ((wrap64 (rd l0 x4_1)) + 2)))).heap[gb186]? = some (.cells #[.int .i64 x4_1, .int .i64 (wrap64 ((wrap64 (rd l0 x4_1)) + 2)), .slice none 0 0, .bool false] 49 (0, 0))) := ⟨by (with_reducible repeat (first | refine blk_drewN ?_ _ | refine blk_drew ?_ | refine blk_alloc ?_ _)); refine blk_put (cs := #[.int .i64 x4_1, .int .i64 1, .slice none 0 0, .bool false]) ?_ 1 _ rfl; (with_reducible repeat (first | refine blk_drewN ?_ _ | refine blk_drew ?_ | refine blk_alloc ?_ _)); exact BK186.out⟩
                                    have n3_ : Aside0 (Below w.heap.size w (wc.setCell ⟨gb186, 1, none⟩ (.int .i64 (wrap64 ((wrap64 (rd l0 x4_1)) + 2))))) := ⟨by repeat (first | (with_reducible first | exact HB.out | apply below_alloc | apply pw_below_drewN | apply below_drew1 | refine below_set ?_ GE186.out) | exact HB.out)⟩
                                    (try clear HO_0)
                                    (try clear HO_3)
                                    (try clear BK186)
                                    (try clear HB)
                                    generalize (wc.setCell ⟨gb186, 1, none⟩ (.int .i64 (wrap64 ((wrap64 (rd l0 x4_1)) + 2)))) = w46 at n0_ n1_ n2_ n3_ ⊢
                                    have HO_0 := n0_
                                    have HO_3 := n1_
                                    have BK186 := n2_
                                    have HB := n3_
                                    clear n0_ n1_ n2_ n3_
                                    have n0_ := Aside0.mk (Kd.V_drew HO_0.out)
                                    have n1_ := Aside0.mk (Kd.N_drew HO_3.out)
                                    have n2_ := Aside0.mk (blk_drew BK186.out)
                                    have n3_ := Aside0.mk (below_drew1 HB.out)
                                    clear HO_0
                                    clear HO_3
                                    clear BK186
                                    clear HB
                                    have HO_0 := n0_
                                    have HO_3 := n1_
                                    have BK186 := n2_
                                    have HB := n3_
                                    clear n0_ n1_ n2_ n3_
                                    have q48 : ((ji36) : Int) ≤ ((l0.length : Int) : Int) := of_decide_eq_true (by first | (with_reducible assumption) | assumption)
                                    obtain ⟨i048, hi048, _, hsz48, _⟩ := info_parts info5
                                    have hroom48 : l0.length ≤ c0 := (Kd.V_reads' HO_0.out).2.1
                                    have hC48 : Kd.F (Kd.int .u8) _ _ (some ad185) l0.length l0 := (Kd.V_at (base := w.heap.size) HO_0.out).2.2
                                    have ql48 : (x4_1 : Int) ≤ ((ji36) : Int) := of_decide_eq_true (by first | (with_reducible assumption) | assumption)
                                    have q048 : (0 : Int) ≤ (x4_1 : Int) := of_decide_eq_true (by first | (with_reducible assumption) | assumption)
                                    have hcut48 := cut_mid (P := Try.prog) 38 5 .i64 .i64 Try.underlying38 hi048 1 hsz48 (some ad185) l0.length c0 x4_1 (ji36) q048 ql48 q48 hroom48
                                    have hr48 := Kd.F_mid (lo := (x4_1 : Int).toNat) (hi := ((ji36) : Int).toNat) (c := c0) hC48 (by omega) (by omega) hroom48
                                    obtain ⟨A48, hA48⟩ : ∃ A1, A1 = (if c0 = (x4_1 : Int).toNat then (some ad185) else ((some ad185) : Option Addr).map (·.add ((x4_1 : Int).toNat * 1))) := ⟨_, rfl⟩
                                    obtain ⟨c48, hc48⟩ : ∃ c1, c1 = c0 - (x4_1 : Int).toNat := ⟨_, rfl⟩
                                    have hy48 : y198.length = ((ji36) : Int).toNat - (x4_1 : Int).toNat := (by rw [Ny198.out, List.length_drop, List.length_take] <;> omega)
                                    rw [show ((l0).take ((ji36) : Int).toNat).drop (x4_1 : Int).toNat = y198 from Ny198.out.symm] at hr48
                                    replace hr48 : Kd.F (Kd.int .u8) _ _ A48 y198.length y198 := (by rw [hA48]; exact hr48)
                                    rw [← hy48, ← hA48, ← hc48] at hcut48
                                    have HO202 := Aside0.mk (show Kd.V (Kd.int .u8) 5 _ w.heap.size _ (.slice A48 y198.length c48) y198 from Kd.V_mk (by rw [hy48, hc48]; exact Nat.sub_le_sub_right (Nat.le_trans (by omega) hroom48) _) hr48)
                                    have HC202 := Aside0.mk (show y198.length ≤ c48 from by rw [hy48, hc48]; exact Nat.sub_le_sub_right (Nat.le_trans (by omega) hroom48) _)
                                    clear hr48 hC48 hroom48 hi048 hsz48 hc48
                                    have KY48 := Aside0.mk hy48
                                    have KA48 := Aside0.mk hA48
                                    clear hy48 hA48
                                    replace q48 := eq_true q48
                                    have p204 : 0 ≤ ((ji36) : Int) := of_decide_eq_true (by first | (with_reducible assumption) | assumption)
                                    have q204 : (ji36) < (l0.length : Int) := of_decide_eq_true (by first | (with_reducible assumption) | assumption)
                                    obtain ⟨ad204, e204, hx204_0⟩ := Kd.at_int (Kd.V_reads' HO_0.out).2.2 (ji36) p204 q204
                                    obtain rfl : ad185 = ad204 := (by injection e204)
                                    replace p204 := eq_true p204
                                    replace q204 := eq_true q204
                                    refine start_ (n := 18) (S := fun w' => w'.cell? (ad185.add ((ji36)).toNat) = some (.int .u8 (rd l0 (ji36)))) (ds := []) #[false, false, false, false, false, false, false, false, false, false, false, false, false, false, false, false, false, false] (by kernel_rfl) rfl rfl (hx204_0) (fun hHeld => ?_); refine with_tabW dogwatchref10_Split.tab10 dogwatchref10_Split.bits10 (fun HT_ HW_ => ?_)
                                    generalize w46.drew = w47 at HO_0 HO_3 BK186 HB HO202 hx204_0 hHeld ⊢
                                    refine pure_ (i := 0) (N := some 40) (v := ?_) (a' := ?_) #[true, false, false, false, false, false, false, false, false, false, false, false, false, false, false, false, false, false] rfl rfl (any_of HT_.out (by kernel_rfl)) (fun _ _ _ h => h) (Or.inl ⟨by rfl, ?_⟩) ?_ ?_
                                    rotate_left
                                    · intro w'
                                      go_simp
                                      with_reducible rfl
                                    rotate_left
                                    · simp only [Act.put, List.setIfInBounds_toArray, List.set_cons_zero, List.set_cons_succ, i64_w, i32_w]
                                      rfl
                                    refine pure_ (i := 1) (N := some 41) (v := ?_) (a' := ?_) #[true, true, false, false, false, false, false, false, false, false, false, false, false, false, false, false, false, false] rfl rfl (any_of HT_.out (by kernel_rfl)) (fun _ _ _ h => h) (Or.inl ⟨by rfl, ?_⟩) ?_ ?_
                                    rotate_left
                                    · intro w'
                                      go_simp
                                      with_reducible rfl
                                    rotate_left
                                    · simp only [Act.put, List.setIfInBounds_toArray, List.set_cons_zero, List.set_cons_succ, i64_w, i32_w]
                                      rfl
                                    refine pure_ (i := 2) (N := some 42) (v := ?_) (a' := ?_) #[true, true, true, false, false, false, false, false, false, false, false, false, false, false, false, false, false, false] rfl rfl (any_of HT_.out (by kernel_rfl)) (fun _ _ _ h => h) (Or.inl ⟨by rfl, ?_⟩) ?_ ?_
                                    rotate_left
                                    · intro w'
                                      go_simp
                                      with_reducible rfl
                                    rotate_left
                                    · simp only [Act.put, List.setIfInBounds_toArray, List.set_cons_zero, List.set_cons_succ, i64_w, i32_w]
                                      rfl
                                    refine pure_ (i := 3) (N := some 43) (v := ?_) (a' := ?_) #[true, true, true, true, false, false, false, false, false, false, false, false, false, false, false, false, false, false] rfl rfl (any_of HT_.out (by kernel_rfl)) (fun _ _ _ h => h) (Or.inl ⟨by rfl, ?_⟩) ?_ ?_
                                    rotate_left
                                    · intro w'
                                      go_simp
                                      with_reducible rfl
                                    rotate_left
                                    · simp only [Act.put, List.setIfInBounds_toArray, List.set_cons_zero, List.set_cons_succ, i64_w, i32_w]
                                      rfl
                                    refine pure_ (i := 4) (N := some 44) (v := ?_) (a' := ?_) #[true, true, true, true, true, false, false, false, false, false, false, false, false, false, false, false, false, false] rfl rfl (any_of HT_.out (by kernel_rfl)) (fun _ _ _ h => h) (Or.inl ⟨by rfl, ?_⟩) ?_ ?_
                                    rotate_left
                                    · intro w'
                                      go_simp
                                      with_reducible rfl
                                    rotate_left
                                    · simp only [Act.put, List.setIfInBounds_toArray, List.set_cons_zero, List.set_cons_succ, i64_w, i32_w]
                                      rfl
                                    refine pure_ (i := 5) (N := some 45) (v := ?_) (a' := ?_) #[true, true, true, true, true, true, false, false, false, false, false, false, false, false, false, false, false, false] rfl rfl (any_of HT_.out (by kernel_rfl)) (fun _ _ _ h => h) (Or.inl ⟨by rfl, ?_⟩) ?_ ?_
                                    rotate_left
                                    · intro w'
                                      go_simp
                                      with_reducible rfl
                                    rotate_left
                                    · simp only [Act.put, List.setIfInBounds_toArray, List.set_cons_zero, List.set_cons_succ, i64_w, i32_w]
                                      rfl
                                    refine pure_ (i := 6) (N := some 46) (v := ?_) (a' := ?_) #[true, true, true, true, true, true, true, false, false, false, false, false, false, false, false, false, false, false] rfl rfl (any_of HT_.out (by kernel_rfl)) (fun _ _ _ h => h) (Or.inl ⟨by rfl, ?_⟩) ?_ ?_
                                    rotate_left
                                    · intro w'
                                      go_simp
                                      with_reducible rfl
                                    rotate_left
                                    · simp only [Act.put, List.setIfInBounds_toArray, List.set_cons_zero, List.set_cons_succ, i64_w, i32_w]
                                      rfl
                                    refine pure_ (i := 8) (N := some 48) (v := ?_) (a' := ?_) #[true, true, true, true, true, true, true, false, true, false, false, false, false, false, false, false, false, false] rfl rfl (any_of HT_.out (by kernel_rfl)) (fun _ _ _ h => h) (Or.inl ⟨by rfl, ?_⟩) ?_ ?_
                                    rotate_left
                                    · intro w'
                                      go_simp
                                      with_reducible rfl
                                    rotate_left
                                    · simp only [Act.put, List.setIfInBounds_toArray, List.set_cons_zero, List.set_cons_succ, i64_w, i32_w]
                                      rfl
                                    refine pure_ (i := 9) (N := some 49) (v := ?_) (a' := ?_) #[true, true, true, true, true, true, true, false, true, true, false, false, false, false, false, false, false, false] rfl rfl (any_of HT_.out (by kernel_rfl)) (fun _ _ _ h => h) (Or.inl ⟨by rfl, ?_⟩) ?_ ?_
                                    rotate_left
                                    · intro w'
                                      go_simp
                                      with_reducible rfl
                                    rotate_left
                                    · simp only [Act.put, List.setIfInBounds_toArray, List.set_cons_zero, List.set_cons_succ, i64_w, i32_w]
                                      rfl
                                    refine pure_ (i := 10) (N := some 50) (v := ?_) (a' := ?_) #[true, true, true, true, true, true, true, false, true, true, true, false, false, false, false, false, false, false] rfl rfl (any_of HT_.out (by kernel_rfl)) (fun _ _ _ h => h) (Or.inl ⟨by rfl, ?_⟩) ?_ ?_
                                    rotate_left
                                    · intro w'
                                      go_simp
                                      with_reducible rfl
                                    rotate_left
                                    · simp only [Act.put, List.setIfInBounds_toArray, List.set_cons_zero, List.set_cons_succ, i64_w, i32_w]
                                      rfl
                                    refine pure_ (i := 11) (N := some 51) (v := ?_) (a' := ?_) #[true, true, true, true, true, true, true, false, true, true, true, true, false, false, false, false, false, false] rfl rfl (any_of HT_.out (by kernel_rfl)) (fun _ _ _ h => h) (Or.inl ⟨by rfl, ?_⟩) ?_ ?_
                                    rotate_left
                                    · intro w'
                                      go_simp
                                      with_reducible rfl
                                    rotate_left
                                    · simp only [Act.put, List.setIfInBounds_toArray, List.set_cons_zero, List.set_cons_succ, i64_w, i32_w]
                                      rfl
                                    refine pure_ (i := 12) (N := some 52) (v := ?_) (a' := ?_) #[true, true, true, true, true, true, true, false, true, true, true, true, true, false, false, false, false, false] rfl rfl (any_of HT_.out (by kernel_rfl)) (fun _ _ _ h => h) (Or.inl ⟨by rfl, ?_⟩) ?_ ?_
                                    rotate_left
                                    · intro w'
                                      go_simp
                                      with_reducible rfl
                                    rotate_left
                                    · simp only [Act.put, List.setIfInBounds_toArray, List.set_cons_zero, List.set_cons_succ, i64_w, i32_w]
                                      rfl
                                    refine pure_ (i := 13) (N := some 53) (v := ?_) (a' := ?_) #[true, true, true, true, true, true, true, false, true, true, true, true, true, true, false, false, false, false] rfl rfl (any_of HT_.out (by kernel_rfl)) (fun _ _ _ h => h) (Or.inl ⟨by rfl, ?_⟩) ?_ ?_
                                    rotate_left
                                    · intro w'
                                      go_simp
                                      with_reducible rfl
                                    rotate_left
                                    · simp only [Act.put, List.setIfInBounds_toArray, List.set_cons_zero, List.set_cons_succ, i64_w, i32_w]
                                      rfl
                                    refine take_ (i := 14) (N := some 54) (v := ?_) (a' := ?_) #[true, true, true, true, true, true, true, false, true, true, true, true, true, true, true, false, false, false] rfl rfl (take_ofW HT_.out HW_.out (by kernel_rfl)) (fun _ _ _ h => h) (Or.inl ⟨by rfl, ?_⟩) hHeld ?_ ?_
                                    rotate_left
                                    · intro w' s0
                                      go_simp
                                      with_reducible rfl
                                    rotate_left
                                    · simp only [Act.put, List.setIfInBounds_toArray, List.set_cons_zero, List.set_cons_succ, i64_w, i32_w]
                                      rfl
                                    refine one_ (i := 7) (N := some 47) #[true, true, true, true, true, true, true, true, true, true, true, true, true, true, true, false, false, false] rfl rfl (one_of HT_.out (by kernel_rfl)) (by decide) (fun K hK => ?_)
                                    refine goes_ Try.func26 (by kernel_rfl) rfl #[.slice A48 y198.length c48] (by rfl) rfl rfl (by (try simp only [List.map_toArray, List.map_cons, List.map_nil]); first | done | rfl | (simp only [List.length_drop, List.length_take]; rfl)) ?_
                                    with_reducible refine (dogwatchref10_Sum.calls kj5 _ _ y198 t203 _ ?side1 ?side2 A35.out).mono ?_
                                    (case side1 => repeat (first | exact (Kd.V_reads' HO202.out).2.2 | (with_reducible refine Kd.C_alloc ?_ _) | (with_reducible refine Kd.C_drewN ?_ _) | (with_reducible refine Kd.C_drew ?_)))
                                    (case side2 => exact (Kd.V_reads' HO202.out).2.1)
                                    rintro e w' ⟨rfl, ⟨nd, rfl⟩⟩
                                    refine ⟨_, rfl, ?_⟩
                                    refine hK.out _ _ (hHeld) (fun hHeld => ?_)
                                    clear hK K
                                    refine norm_ (a' := ?_) ?_ ?_
                                    rotate_left
                                    · show Act.put _ (some 47) _ = _
                                      simp only [Act.put, List.setIfInBounds_toArray, List.set_cons_zero, List.set_cons_succ, i64_w, i32_w]
                                      rfl
                                    refine pure_ (i := 15) (N := some 55) (v := ?_) (a' := ?_) #[true, true, true, true, true, true, true, true, true, true, true, true, true, true, true, true, false, false] rfl rfl (any_of HT_.out (by kernel_rfl)) (fun _ _ _ h => h) (Or.inl ⟨by rfl, ?_⟩) ?_ ?_
                                    rotate_left
                                    · intro w'
                                      go_simp
                                      with_reducible rfl
                                    rotate_left
                                    · simp only [Act.put, List.setIfInBounds_toArray, List.set_cons_zero, List.set_cons_succ, i64_w, i32_w]
                                      rfl
                                    refine pure_ (i := 16) (N := some 56) (v := ?_) (a' := ?_) #[true, true, true, true, true, true, true, true, true, true, true, true, true, true, true, true, true, false] rfl rfl (any_of HT_.out (by kernel_rfl)) (fun _ _ _ h => h) (Or.inl ⟨by rfl, ?_⟩) ?_ ?_
                                    rotate_left
                                    · intro w'
                                      go_simp
                                      with_reducible rfl
                                    rotate_left
                                    · simp only [Act.put, List.setIfInBounds_toArray, List.set_cons_zero, List.set_cons_succ, i64_w, i32_w]
                                      rfl
                                    refine one_ (i := 17) (N := none) #[true, true, true, true, true, true, true, true, true, true, true, true, true, true, true, true, true, true] rfl rfl (one_of HT_.out (by kernel_rfl)) (by decide) (fun K hK => ?_)
                                    have hs49 : w47.cell? ⟨gb186, 3, none⟩ = some (.bool false) := (blk_cell BK186.out 3).trans rfl
                                    have hfs49 := blk_frozen BK186.out 3
                                    refine skip_ (w1 := ?_) (by rfl) rfl ?_ ?_
                                    rotate_left
                                    · go_simp
                                      rfl
                                    refine hK.out _ _ (((cell_far (p := ⟨gb186, _, none⟩) (by first | exact v_away HO_0.out (by have a_ := of_eq_true p204; have b_ := of_eq_true q204; omega) (fun _ hk => hk.2.2) | (rw [add_block]; exact v_away HO_0.out (by have a_ := of_eq_true p204; have b_ := of_eq_true q204; omega) (fun _ hk => hk.2.2)) | (show (Addr.add _ _).block ≠ _; rw [add_block]; exact v_away HO_0.out (by have a_ := of_eq_true p204; have b_ := of_eq_true q204; omega) (fun _ hk => hk.2.2)) | (dsimp only; exact v_away HO_0.out (by have a_ := of_eq_true p204; have b_ := of_eq_true q204; omega) (fun _ hk => hk.2.2))) _).trans (hHeld))) (fun hHeld => ?_)
                                    clear hK K
                                    refine done_ (done_of HT_.out (by kernel_rfl)) ?_
                                    have n0_ : Aside0 (Kd.V (Kd.int .u8) 5 ((w47.drewN nd).setCell ⟨gb186, 3, none⟩ (.bool true)) w.heap.size (fun k_ => (P0_ k_ ∨ w.heap.size ≤ k_) ∧ some k_ ≠ (u3 : Value).ownBlock ∧ k_ ≠ gb186) (.slice (some ad185) l0.length c0) l0) := ⟨by (with_reducible repeat (first | apply Kd.V_alloc | apply Kd.V_drewN | apply Kd.V_drew)); exact Kd.V_mono (Kd.V_far (p := ⟨gb186, 3, none⟩) (Kd.V_mono (Kd.V_drewN HO_0.out nd) (fun k_ hk => (⟨hk, hk.2.2⟩ : _ ∧ k_ ≠ gb186))) (fun _ hk => hk.2) (.bool true)) (fun _ hk => ⟨hk.1.1, ⟨hk.1.2.1, hk.1.2.2⟩⟩)⟩
                                    have n1_ : Aside0 (Kd.N k49 49 ((w47.drewN nd).setCell ⟨gb186, 3, none⟩ (.bool true)) w.heap.size (fun k_ => (P0_ k_ ∨ w.heap.size ≤ k_) ∧ k_ ≠ gb186) u3 x3_1) := ⟨by (with_reducible repeat (first | apply Kd.N_alloc | apply Kd.N_drewN | apply Kd.N_drew)); exact Kd.N_mono (Kd.N_far (p := ⟨gb186, 3, none⟩) (Kd.N_mono (Kd.N_drewN HO_3.out nd) (fun k_ hk => (⟨hk, hk.2⟩ : _ ∧ k_ ≠ gb186))) (fun _ hk => hk.2) (.bool true)) (fun _ hk => ⟨hk.1.1, hk.1.2⟩)⟩
                                    have n2_ : Aside0 (Kd.V (Kd.int .u8) 5 ((w47.drewN nd).setCell ⟨gb186, 3, none⟩ (.bool true)) w.heap.size (fun k_ => (P0_ k_ ∨ w.heap.size ≤ k_) ∧ some k_ ≠ (u3 : Value).ownBlock ∧ k_ ≠ gb186) (.slice A48 y198.length c48) y198) := ⟨by (with_reducible repeat (first | apply Kd.V_alloc | apply Kd.V_drewN | apply Kd.V_drew)); exact Kd.V_mono (Kd.V_far (p := ⟨gb186, 3, none⟩) (Kd.V_mono (Kd.V_drewN HO202.out nd) (fun k_ hk => (⟨hk, hk.2.2⟩ : _ ∧ k_ ≠ gb186))) (fun _ hk => hk.2) (.bool true)) (fun _ hk => ⟨hk.1.1, ⟨hk.1.2.1, hk.1.2.2⟩⟩)⟩
                                    have n3_ : Aside0 (((w47.drewN nd).setCell ⟨gb186, 3, none⟩ (.bool true)).heap[gb186]? = some (.cells #[.int .i64 x4_1, .int .i64 (wrap64 ((wrap64 (rd l0 x4_1)) + 2)), .slice none 0 0, .bool true] 49 (0, 0))) := ⟨by (with_reducible repeat (first | refine blk_drewN ?_ _ | refine blk_drew ?_ | refine blk_alloc ?_ _)); refine blk_put (cs := #[.int .i64 x4_1, .int .i64 (wrap64 ((wrap64 (rd l0 x4_1)) + 2)), .slice none 0 0, .bool false]) ?_ 3 _ rfl; (with_reducible repeat (first | refine blk_drewN ?_ _ | refine blk_drew ?_ | refine blk_alloc ?_ _)); exact BK186.out⟩
                                    have n4_ : Aside0 (Below w.heap.size w ((w47.drewN nd).setCell ⟨gb186, 3, none⟩ (.bool true))) := ⟨by repeat (first | (with_reducible first | exact HB.out | apply below_alloc | apply pw_below_drewN | apply below_drew1 | refine below_set ?_ GE186.out) | exact HB.out)⟩
                                    (try clear HO_0)
                                    (try clear HO_3)
                                    (try clear HO202)
                                    (try clear BK186)
                                    (try clear HB)
                                    generalize ((w47.drewN nd).setCell ⟨gb186, 3, none⟩ (.bool true)) = w50 at n0_ n1_ n2_ n3_ n4_ ⊢
                                    have HO_0 := n0_
                                    have HO_3 := n1_
                                    have HO202 := n2_
                                    have BK186 := n3_
                                    have HB := n4_
                                    clear n0_ n1_ n2_ n3_ n4_
                                    have hcz51_0 : w50.cell? ⟨gb186, 0, none⟩ = some (.int .i64 x4_1) := (blk_cell BK186.out 0).trans rfl
                                    have hcz51_1 : w50.cell? ⟨gb186, 1, none⟩ = some (.int .i64 (wrap64 ((wrap64 (rd l0 x4_1)) + 2))) := (blk_cell BK186.out 1).trans rfl
                                    have hcz51_2 : w50.cell? ⟨gb186, 2, none⟩ = some (.slice none 0 0) := (blk_cell BK186.out 2).trans rfl
                                    have hcz51_3 : w50.cell? ⟨gb186, 3, none⟩ = some (.bool true) := (blk_cell BK186.out 3).trans rfl
                                    have hfz51_0 := blk_frozen BK186.out 0
                                    have hfz51_1 := blk_frozen BK186.out 1
                                    have hfz51_2 := blk_frozen BK186.out 2
                                    have hfz51_3 := blk_frozen BK186.out 3
                                    have q52 : ((ji36) : Int) ≤ ((l0.length : Int) : Int) := of_decide_eq_true (by first | (with_reducible assumption) | assumption)
                                    obtain ⟨i052, hi052, _, hsz52, _⟩ := info_parts info5
                                    have hroom52 : l0.length ≤ c0 := (Kd.V_reads' HO_0.out).2.1
                                    have hC52 : Kd.F (Kd.int .u8) _ _ (some ad185) l0.length l0 := (Kd.V_at (base := w.heap.size) HO_0.out).2.2
                                    have ql52 : ((ji40) : Int) ≤ ((ji36) : Int) := of_decide_eq_true (by first | (with_reducible assumption) | assumption)
                                    have q052 : (0 : Int) ≤ ((ji40) : Int) := of_decide_eq_true (by first | (with_reducible assumption) | assumption)
                                    have hcut52 := cut_mid (P := Try.prog) 38 5 .i64 .i64 Try.underlying38 hi052 1 hsz52 (some ad185) l0.length c0 (ji40) (ji36) q052 ql52 q52 hroom52
                                    have hr52 := Kd.F_mid (lo := ((ji40) : Int).toNat) (hi := ((ji36) : Int).toNat) (c := c0) hC52 (by omega) (by omega) hroom52
                                    obtain ⟨A52, hA52⟩ : ∃ A1, A1 = (if c0 = ((ji40) : Int).toNat then (some ad185) else ((some ad185) : Option Addr).map (·.add (((ji40) : Int).toNat * 1))) := ⟨_, rfl⟩
                                    obtain ⟨c52, hc52⟩ : ∃ c1, c1 = c0 - ((ji40) : Int).toNat := ⟨_, rfl⟩
                                    have hy52 : y205.length = ((ji36) : Int).toNat - ((ji40) : Int).toNat := (by rw [Ny205.out, List.length_drop, List.length_take] <;> omega)
                                    rw [show ((l0).take ((ji36) : Int).toNat).drop ((ji40) : Int).toNat = y205 from Ny205.out.symm] at hr52
                                    replace hr52 : Kd.F (Kd.int .u8) _ _ A52 y205.length y205 := (by rw [hA52]; exact hr52)
                                    rw [← hy52, ← hA52, ← hc52] at hcut52
                                    have HO209 := Aside0.mk (show Kd.V (Kd.int .u8) 5 _ w.heap.size _ (.slice A52 y205.length c52) y205 from Kd.V_mk (by rw [hy52, hc52]; exact Nat.sub_le_sub_right (Nat.le_trans (by omega) hroom52) _) hr52)
                                    have HC209 := Aside0.mk (show y205.length ≤ c52 from by rw [hy52, hc52]; exact Nat.sub_le_sub_right (Nat.le_trans (by omega) hroom52) _)
                                    clear hr52 hC52 hroom52 hi052 hsz52 hc52
                                    have KY52 := Aside0.mk hy52
                                    have KA52 := Aside0.mk hA52
                                    clear hy52 hA52
                                    replace q52 := eq_true q52
                                    try go_wp2_with (first | ((with_reducible refine gate_store (t := 38) (p := 67) rfl ?_); refine store_event (t := 38) (p := 67) (v := ?vo_w53) (w1 := (w50.setCell ⟨gb186, 2, none⟩ (.slice A52 y205.length c52))) ?hg ?ho ?hn ?hr ?_; (case ho => rfl); (case hg => rfl); (case hn => rfl); (case hr => first | (go_simp; done) | (go_simp; rfl)); intro w53 hw; have n0_ : Aside0 (Kd.V (Kd.int .u8) 5 w53 w.heap.size (fun k_ => (P0_ k_ ∨ w.heap.size ≤ k_) ∧ some k_ ≠ (u3 : Value).ownBlock ∧ k_ ≠ gb186) (.slice (some ad185) l0.length c0) l0) := ⟨(by rw [hw]; exact (by (with_reducible repeat (first | apply Kd.V_alloc | apply Kd.V_drewN | apply Kd.V_drew)); exact Kd.V_mono (Kd.V_far (p := ⟨gb186, 2, none⟩) (Kd.V_mono HO_0.out (fun k_ hk => (⟨hk, hk.2.2⟩ : _ ∧ k_ ≠ gb186))) (fun _ hk => hk.2) (.slice A52 y205.length c52)) (fun _ hk => ⟨hk.1.1, ⟨hk.1.2.1, hk.1.2.2⟩⟩)))⟩; have n1_ : Aside0 (Kd.N k49 49 w53 w.heap.size (fun k_ => (P0_ k_ ∨ w.heap.size ≤ k_) ∧ k_ ≠ gb186) u3 x3_1) := ⟨(by rw [hw]; exact (by (with_reducible repeat (first | apply Kd.N_alloc | apply Kd.N_drewN | apply Kd.N_drew)); exact Kd.N_mono (Kd.N_far (p := ⟨gb186, 2, none⟩) (Kd.N_mono HO_3.out (fun k_ hk => (⟨hk, hk.2⟩ : _ ∧ k_ ≠ gb186))) (fun _ hk => hk.2) (.slice A52 y205.length c52)) (fun _ hk => ⟨hk.1.1, hk.1.2⟩)))⟩; have n2_ : Aside0 (Kd.V (Kd.int .u8) 5 w53 w.heap.size (fun k_ => (P0_ k_ ∨ w.heap.size ≤ k_) ∧ some k_ ≠ (u3 : Value).ownBlock ∧ k_ ≠ gb186) (.slice A48 y198.length c48) y198) := ⟨(by rw [hw]; exact (by (with_reducible repeat (first | apply Kd.V_alloc | apply Kd.V_drewN | apply Kd.V_drew)); exact Kd.V_mono (Kd.V_far (p := ⟨gb186, 2, none⟩) (Kd.V_mono HO202.out (fun k_ hk => (⟨hk, hk.2.2⟩ : _ ∧ k_ ≠ gb186))) (fun _ hk => hk.2) (.slice A52 y205.length c52)) (fun _ hk => ⟨hk.1.1, ⟨hk.1.2.1, hk.1.2.2⟩⟩)))⟩; have n3_ : Aside0 (Kd.V (Kd.int .u8) 5 w53 w.heap.size (fun k_ => (P0_ k_ ∨ w.heap.size ≤ k_) ∧ some k_ ≠ (u3 : Value).ownBlock ∧ k_ ≠ gb186) (.slice A52 y205.length c52) y205) := ⟨(by rw [hw]; exact (by (with_reducible repeat (first | apply Kd.V_alloc | apply Kd.V_drewN | apply Kd.V_drew)); exact Kd.V_mono (Kd.V_far (p := ⟨gb186, 2, none⟩) (Kd.V_mono HO209.out (fun k_ hk => (⟨hk, hk.2.2⟩ : _ ∧ k_ ≠ gb186))) (fun _ hk => hk.2) (.slice A52 y205.length c52)) (fun _ hk => ⟨hk.1.1, ⟨hk.1.2.1, hk.1.2.2⟩⟩)))⟩; have n4_ : Aside0 (w53.heap[gb186]? = some (.cells #[.int .i64 x4_1, .int .i64 (wrap64 ((wrap64 (rd l0 x4_1)) + 2)), .slice A52 y205.length c52, .bool true] 49 (0, 0))) := ⟨(by rw [hw]; exact (by (with_reducible repeat (first | refine blk_drewN ?_ _ | refine blk_drew ?_ | refine blk_alloc ?_ _)); refine blk_put (cs := #[.int .i64 x4_1, .int .i64 (wrap64 ((wrap64 (rd l0 x4_1)) + 2)), .slice none 0 0, .bool true]) ?_ 2 _ rfl; (with_reducible repeat (first | refine blk_drewN ?_ _ | refine blk_drew ?_ | refine blk_alloc ?_ _)); exact BK186.out))⟩; have n5_ : Aside0 (Below w.heap.size w w53) := ⟨(by rw [hw]; exact (by repeat (first | (with_reducible first | exact HB.out | apply below_alloc | apply pw_below_drewN | apply below_drew1 | refine below_set ?_ GE186.out) | exact HB.out)))⟩; clear hw; clear HO_0; clear HO_3; clear HO202; clear HO209; clear BK186; clear HB; have HO_0 := n0_; have HO_3 := n1_; have HO202 := n2_; have HO209 := n3_; have BK186 := n4_; have HB := n5_; clear n0_ n1_ n2_ n3_ n4_ n5_; have hcz54_0 : w53.cell? ⟨gb186, 0, none⟩ = some (.int .i64 x4_1) := (blk_cell BK186.out 0).trans rfl; have hcz54_1 : w53.cell? ⟨gb186, 1, none⟩ = some (.int .i64 (wrap64 ((wrap64 (rd l0 x4_1)) + 2))) := (blk_cell BK186.out 1).trans rfl; have hcz54_2 : w53.cell? ⟨gb186, 2, none⟩ = some (.slice A52 y205.length c52) := (blk_cell BK186.out 2).trans rfl; have hcz54_3 : w53.cell? ⟨gb186, 3, none⟩ = some (.bool true) := (blk_cell BK186.out 3).trans rfl; have hfz54_0 := blk_frozen BK186.out 0; have hfz54_1 := blk_frozen BK186.out 1; have hfz54_2 := blk_frozen BK186.out 2; have hfz54_3 := blk_frozen BK186.out 3) | ((with_reducible refine gate_builtin (b := .append) (xs := #[.tmp 68, .tmp 70]) rfl ?_); at_builtin; refine Kd.N_append k49 (w0 := w) w.heap.size rfl (.tmp 68) (.tmp 70) 41 49 (.agg #[(.int .i64 0), (.int .i64 0), (.slice none 0 0), (.bool false)]) 48 rfl Try.underlying41 info49 rfl (by decide) (by omega) u3 x3_1 (⟨x4_1, wrap64 ((wrap64 (rd l0 x4_1)) + 2), y205, true⟩ : S49) [.int .i64 x4_1, .int .i64 (wrap64 ((wrap64 (rd l0 x4_1)) + 2)), .slice A52 y205.length c52, .bool true] (fun k_ => (P0_ k_ ∨ w.heap.size ≤ k_) ∧ k_ ≠ gb186) (fun k_ => ((fun k_ => (P0_ k_ ∨ w.heap.size ≤ k_) ∧ k_ ≠ gb186)) k_ ∧ some k_ ≠ (u3 : Value).ownBlock) rfl rfl ?aP (fun _ hk => hk) ?aF ?aO ?aB ?aS ?aL ?_; (case aP => exact (k49_mkF _ _ (⟨x4_1, wrap64 ((wrap64 (rd l0 x4_1)) + 2), y205, true⟩ : S49) (Kd.V_reads' (Kd.V_mono (ok' := (fun k_ => ((fun k_ => (P0_ k_ ∨ w.heap.size ≤ k_) ∧ k_ ≠ gb186)) k_ ∧ some k_ ≠ (u3 : Value).ownBlock)) (HO209.out) (fun k_ hk => ⟨⟨hk.1, hk.2.2⟩, hk.2.1⟩))).2.1 (Kd.V_F (Kd.V_mono (ok' := (fun k_ => ((fun k_ => (P0_ k_ ∨ w.heap.size ≤ k_) ∧ k_ ≠ gb186)) k_ ∧ some k_ ≠ (u3 : Value).ownBlock)) (HO209.out) (fun k_ hk => ⟨⟨hk.1, hk.2.2⟩, hk.2.1⟩))))); (case aB => exact (by repeat (first | (with_reducible first | exact HB.out | apply below_alloc | apply pw_below_drewN | apply below_drew1 | refine below_set ?_ GE186.out) | exact HB.out))); (case aF => exact (fun k_ hk => ⟨(.inr (Nat.le_trans (below_size (by repeat (first | (with_reducible first | exact HB.out | apply below_alloc | apply pw_below_drewN | apply below_drew1 | refine below_set ?_ GE186.out) | exact HB.out))) hk)), Kd.freshB (g := gb186) (o := .cells #[.int .i64 x4_1, .int .i64 (wrap64 ((wrap64 (rd l0 x4_1)) + 2)), .slice A52 y205.length c52, .bool true] 49 (0, 0)) (by (with_reducible repeat (first | refine blk_drewN ?_ _ | refine blk_drew ?_ | refine blk_alloc ?_ _)); exact BK186.out) k_ hk⟩)); (case aO => exact (by (with_reducible repeat (first | apply Kd.N_alloc | apply Kd.N_drewN | apply Kd.N_drew)); exact HO_3.out)); (case aS => exact (below_size (by repeat (first | (with_reducible first | exact HB.out | apply below_alloc | apply pw_below_drewN | apply below_drew1 | refine below_set ?_ GE186.out) | exact HB.out)))); (case aL => have := LMc44.out; omega); intro v211 w55 ho hb hg hat; rw [← Ny210.out] at ho; have n0_ := Aside0.mk (Kd.V_afterv (ok := (fun k_ => (P0_ k_ ∨ w.heap.size ≤ k_) ∧ k_ ≠ gb186)) (by (with_reducible repeat (first | apply Kd.V_alloc | apply Kd.V_drewN | apply Kd.V_drew)); exact Kd.V_mono HO_0.out (fun _ hk => ⟨⟨hk.1, hk.2.2⟩, hk.2.1⟩)) hg hat); have n1_ := Aside0.mk (blk_grown (g := gb186) (o := .cells #[.int .i64 x4_1, .int .i64 (wrap64 ((wrap64 (rd l0 x4_1)) + 2)), .slice A52 y205.length c52, .bool true] 49 (0, 0)) (by (with_reducible repeat (first | refine blk_drewN ?_ _ | refine blk_drew ?_ | refine blk_alloc ?_ _)); exact BK186.out) hg (Kd.N_away HO_3.out (fun _ hk => hk.2))); have n2_ := Aside0.mk (Kd.V_afterv (ok := (fun k_ => (P0_ k_ ∨ w.heap.size ≤ k_) ∧ k_ ≠ gb186)) (by (with_reducible repeat (first | apply Kd.V_alloc | apply Kd.V_drewN | apply Kd.V_drew)); exact Kd.V_mono HO202.out (fun _ hk => ⟨⟨hk.1, hk.2.2⟩, hk.2.1⟩)) hg hat); have n3_ := Aside0.mk (Kd.V_afterv (ok := (fun k_ => (P0_ k_ ∨ w.heap.size ≤ k_) ∧ k_ ≠ gb186)) (by (with_reducible repeat (first | apply Kd.V_alloc | apply Kd.V_drewN | apply Kd.V_drew)); exact Kd.V_mono HO209.out (fun _ hk => ⟨⟨hk.1, hk.2.2⟩, hk.2.1⟩)) hg hat); have n4_ := Aside0.mk (hb); have n5_ := Aside0.mk (ho); clear HO_0; clear BK186; clear HO202; clear HO209; clear HB; clear HO_3; have HO_0 := n0_; have BK186 := n1_; have HO202 := n2_; have HO209 := n3_; have HB := n4_; have HO212 := n5_; clear n0_ n1_ n2_ n3_ n4_ n5_; clear ho hb hg hat; have hcz56_0 : w55.cell? ⟨gb186, 0, none⟩ = some (.int .i64 x4_1) := (blk_cell BK186.out 0).trans rfl; have hcz56_1 : w55.cell? ⟨gb186, 1, none⟩ = some (.int .i64 (wrap64 ((wrap64 (rd l0 x4_1)) + 2))) := (blk_cell BK186.out 1).trans rfl; have hcz56_2 : w55.cell? ⟨gb186, 2, none⟩ = some (.slice A52 y205.length c52) := (blk_cell BK186.out 2).trans rfl; have hcz56_3 : w55.cell? ⟨gb186, 3, none⟩ = some (.bool true) := (blk_cell BK186.out 3).trans rfl; have hfz56_0 := blk_frozen BK186.out 0; have hfz56_1 := blk_frozen BK186.out 1; have hfz56_2 := blk_frozen BK186.out 2; have hfz56_3 := blk_frozen BK186.out 3))
                                    go_roundg kj5
                                    case measure => have := HK1.out; have := HJ5.out; omega
                                    case rel => exact ⟨(y210), (wrap64 (x4_1 + (wrap64 ((wrap64 (rd l0 x4_1)) + 2)))), (by first | rfl | (simp; done) | (simp [*]; done)), H', ⟨by have := HK1.out; have := HJ5.out; omega⟩, ⟨by (with_reducible repeat (first | apply Kd.V_alloc | apply Kd.V_drewN | apply Kd.V_drew)); exact Kd.V_mono HO_0.out (fun _ hk => ⟨hk.1.1, hk.2⟩)⟩, ⟨by (with_reducible repeat (first | apply Kd.N_alloc | apply Kd.N_drewN | apply Kd.N_drew)); exact Kd.N_mono HO212.out (fun _ hk => hk.1)⟩, ⟨by repeat (first | (with_reducible first | exact HB.out | apply below_alloc | apply pw_below_drewN | apply below_drew1 | refine below_set ?_ GE186.out) | exact HB.out)⟩⟩
                                  · rw [if_neg c44] at H
                                    exact absurd H (by simp)
                                · rw [if_neg c42] at H
                                  exact absurd H (by simp)
                              · rw [if_neg c41] at H
                                exact absurd H (by simp)
                            · rw [if_neg c39] at H
                              have c39b0 : (t203 == (rd l0 (ji36))) = false := beq_eq_false_iff_ne.mpr c39
                              rw [c39b0] at H
                              have c39b1 : (t203 != (rd l0 (ji36))) = true := bne_iff_ne.mpr c39
                              by_cases c57 : x3_1.length < 2932031007402
                              · rw [if_pos c57] at H
                                have LMc57 := Aside0.mk c57
                                clear c57
                                obtain ⟨y213, hy213⟩ : ∃ y_ : List (S49), y_ = (x3_1 ++ [(⟨x4_1, wrap64 ((wrap64 (rd l0 x4_1)) + 2), ([] : List Int), false⟩ : S49)]) := ⟨_, rfl⟩
                                replace H : (dogwatchref10_Split.l0 kj5 l0 y213 (wrap64 (x4_1 + (wrap64 ((wrap64 (rd l0 x4_1)) + 2))))) = some r := by first | (rw [hy213]; with_reducible exact H) | (have H2_ := (Option.bind_some _ _).symm.trans H; rw [hy213]; with_reducible exact H2_) | (have H2_ := (Option.bind_some _ _).symm.trans H; with_reducible exact H2_) | with_reducible exact H | (rw [hy213]; exact H) | exact H
                                have Ny213 := Aside0.mk hy213
                                clear hy213
                                have H' := Aside0.mk H
                                clear H
                                have hcz58_0 : wc.cell? ⟨gb186, 0, none⟩ = some (.int .i64 x4_1) := (blk_cell BK186.out 0).trans rfl
                                have hcz58_1 : wc.cell? ⟨gb186, 1, none⟩ = some (.int .i64 1) := (blk_cell BK186.out 1).trans rfl
                                have hcz58_2 : wc.cell? ⟨gb186, 2, none⟩ = some (.slice none 0 0) := (blk_cell BK186.out 2).trans rfl
                                have hcz58_3 : wc.cell? ⟨gb186, 3, none⟩ = some (.bool false) := (blk_cell BK186.out 3).trans rfl
                                have hfz58_0 := blk_frozen BK186.out 0
                                have hfz58_1 := blk_frozen BK186.out 1
                                have hfz58_2 := blk_frozen BK186.out 2
                                have hfz58_3 := blk_frozen BK186.out 3
                                try go_wp2
                                have n0_ : Aside0 (Kd.V (Kd.int .u8) 5 (wc.setCell ⟨gb186, 1, none⟩ (.int .i64 (wrap64 ((wrap64 (rd l0 x4_1)) + 2)))) w.heap.size (fun k_ => (P0_ k_ ∨ w.heap.size ≤ k_) ∧ some k_ ≠ (u3 : Value).ownBlock ∧ k_ ≠ gb186) (.slice (some ad185) l0.length c0) l0) := ⟨by (with_reducible repeat (first | apply Kd.V_alloc | apply Kd.V_drewN | apply Kd.V_drew)); exact Kd.V_mono (Kd.V_far (p := ⟨gb186, 1, none⟩) (Kd.V_mono HO_0.out (fun k_ hk => (⟨hk, hk.2.2⟩ : _ ∧ k_ ≠ gb186))) (fun _ hk => hk.2) (.int .i64 (wrap64 ((wrap64 (rd l0 x4_1)) + 2)))) (fun _ hk => ⟨hk.1.1, ⟨hk.1.2.1, hk.1.2.2⟩⟩)⟩
                                have n1_ : Aside0 (Kd.N k49 49 (wc.setCell ⟨gb186, 1, none⟩ (.int .i64 (wrap64 ((wrap64 (rd l0 x4_1)) + 2)))) w.heap.size (fun k_ => (P0_ k_ ∨ w.heap.size ≤ k_) ∧ k_ ≠ gb186) u3 x3_1) := ⟨by (with_reducible repeat (first | apply Kd.N_alloc | apply Kd.N_drewN | apply Kd.N_drew)); exact Kd.N_mono (Kd.N_far (p := ⟨gb186, 1, none⟩) (Kd.N_mono HO_3.out (fun k_ hk => (⟨hk, hk.2⟩ : _ ∧ k_ ≠ gb186))) (fun _ hk => hk.2) (.int .i64 (wrap64 ((wrap64 (rd l0 x4_1)) + 2)))) (fun _ hk => ⟨hk.1.1, hk.1.2⟩)⟩
                                have n2_ : Aside0 ((wc.setCell ⟨gb186, 1, none⟩ (.int .i64 (wrap64 ((wrap64 (rd l0 x4_1)) + 2)))).heap[gb186]? = some (.cells #[.int .i64 x4_1, .int .i64 (wrap64 ((wrap64 (rd l0 x4_1)) + 2)), .slice none 0 0, .bool false] 49 (0, 0))) := ⟨by (with_reducible repeat (first | refine blk_drewN ?_ _ | refine blk_drew ?_ | refine blk_alloc ?_ _)); refine blk_put (cs := #[.int .i64 x4_1, .int .i64 1, .slice none 0 0, .bool false]) ?_ 1 _ rfl; (with_reducible repeat (first | refine blk_drewN ?_ _ | refine blk_drew ?_ | refine blk_alloc ?_ _)); exact BK186.out⟩
                                have n3_ : Aside0 (Below w.heap.size w (wc.setCell ⟨gb186, 1, none⟩ (.int .i64 (wrap64 ((wrap64 (rd l0 x4_1)) + 2))))) := ⟨by repeat (first | (with_reducible first | exact HB.out | apply below_alloc | apply pw_below_drewN | apply below_drew1 | refine below_set ?_ GE186.out) | exact HB.out)⟩
                                (try clear HO_0)
                                (try clear HO_3)
                                (try clear BK186)
                                (try clear HB)
                                generalize (wc.setCell ⟨gb186, 1, none⟩ (.int .i64 (wrap64 ((wrap64 (rd l0 x4_1)) + 2)))) = w59 at n0_ n1_ n2_ n3_ ⊢
                                have HO_0 := n0_
                                have HO_3 := n1_
                                have BK186 := n2_
                                have HB := n3_
                                clear n0_ n1_ n2_ n3_
                                have n0_ := Aside0.mk (Kd.V_drew HO_0.out)
                                have n1_ := Aside0.mk (Kd.N_drew HO_3.out)
                                have n2_ := Aside0.mk (blk_drew BK186.out)
                                have n3_ := Aside0.mk (below_drew1 HB.out)
                                clear HO_0
                                clear HO_3
                                clear BK186
                                clear HB
                                have HO_0 := n0_
                                have HO_3 := n1_
                                have BK186 := n2_
                                have HB := n3_
                                clear n0_ n1_ n2_ n3_
                                have q61 : ((ji36) : Int) ≤ ((l0.length : Int) : Int) := of_decide_eq_true (by first | (with_reducible assumption) | assumption)
                                obtain ⟨i061, hi061, _, hsz61, _⟩ := info_parts info5
                                have hroom61 : l0.length ≤ c0 := (Kd.V_reads' HO_0.out).2.1
                                have hC61 : Kd.F (Kd.int .u8) _ _ (some ad185) l0.length l0 := (Kd.V_at (base := w.heap.size) HO_0.out).2.2
                                have ql61 : (x4_1 : Int) ≤ ((ji36) : Int) := of_decide_eq_true (by first | (with_reducible assumption) | assumption)
                                have q061 : (0 : Int) ≤ (x4_1 : Int) := of_decide_eq_true (by first | (with_reducible assumption) | assumption)
                                have hcut61 := cut_mid (P := Try.prog) 38 5 .i64 .i64 Try.underlying38 hi061 1 hsz61 (some ad185) l0.length c0 x4_1 (ji36) q061 ql61 q61 hroom61
                                have hr61 := Kd.F_mid (lo := (x4_1 : Int).toNat) (hi := ((ji36) : Int).toNat) (c := c0) hC61 (by omega) (by omega) hroom61
                                obtain ⟨A61, hA61⟩ : ∃ A1, A1 = (if c0 = (x4_1 : Int).toNat then (some ad185) else ((some ad185) : Option Addr).map (·.add ((x4_1 : Int).toNat * 1))) := ⟨_, rfl⟩
                                obtain ⟨c61, hc61⟩ : ∃ c1, c1 = c0 - (x4_1 : Int).toNat := ⟨_, rfl⟩
                                have hy61 : y198.length = ((ji36) : Int).toNat - (x4_1 : Int).toNat := (by rw [Ny198.out, List.length_drop, List.length_take] <;> omega)
                                rw [show ((l0).take ((ji36) : Int).toNat).drop (x4_1 : Int).toNat = y198 from Ny198.out.symm] at hr61
                                replace hr61 : Kd.F (Kd.int .u8) _ _ A61 y198.length y198 := (by rw [hA61]; exact hr61)
                                rw [← hy61, ← hA61, ← hc61] at hcut61
                                have HO202 := Aside0.mk (show Kd.V (Kd.int .u8) 5 _ w.heap.size _ (.slice A61 y198.length c61) y198 from Kd.V_mk (by rw [hy61, hc61]; exact Nat.sub_le_sub_right (Nat.le_trans (by omega) hroom61) _) hr61)
                                have HC202 := Aside0.mk (show y198.length ≤ c61 from by rw [hy61, hc61]; exact Nat.sub_le_sub_right (Nat.le_trans (by omega) hroom61) _)
                                clear hr61 hC61 hroom61 hi061 hsz61 hc61
                                have KY61 := Aside0.mk hy61
                                have KA61 := Aside0.mk hA61
                                clear hy61 hA61
                                replace q61 := eq_true q61
                                have p204 : 0 ≤ ((ji36) : Int) := of_decide_eq_true (by first | (with_reducible assumption) | assumption)
                                have q204 : (ji36) < (l0.length : Int) := of_decide_eq_true (by first | (with_reducible assumption) | assumption)
                                obtain ⟨ad204, e204, hx204_0⟩ := Kd.at_int (Kd.V_reads' HO_0.out).2.2 (ji36) p204 q204
                                obtain rfl : ad185 = ad204 := (by injection e204)
                                replace p204 := eq_true p204
                                replace q204 := eq_true q204
                                refine start_ (n := 18) (S := fun w' => w'.cell? (ad185.add ((ji36)).toNat) = some (.int .u8 (rd l0 (ji36)))) (ds := []) #[false, false, false, false, false, false, false, false, false, false, false, false, false, false, false, false, false, false] (by kernel_rfl) rfl rfl (hx204_0) (fun hHeld => ?_); refine with_tabW dogwatchref10_Split.tab10 dogwatchref10_Split.bits10 (fun HT_ HW_ => ?_)
                                generalize w59.drew = w60 at HO_0 HO_3 BK186 HB HO202 hx204_0 hHeld ⊢
                                refine pure_ (i := 0) (N := some 40) (v := ?_) (a' := ?_) #[true, false, false, false, false, false, false, false, false, false, false, false, false, false, false, false, false, false] rfl rfl (any_of HT_.out (by kernel_rfl)) (fun _ _ _ h => h) (Or.inl ⟨by rfl, ?_⟩) ?_ ?_
                                rotate_left
                                · intro w'
                                  go_simp
                                  with_reducible rfl
                                rotate_left
                                · simp only [Act.put, List.setIfInBounds_toArray, List.set_cons_zero, List.set_cons_succ, i64_w, i32_w]
                                  rfl
                                refine pure_ (i := 1) (N := some 41) (v := ?_) (a' := ?_) #[true, true, false, false, false, false, false, false, false, false, false, false, false, false, false, false, false, false] rfl rfl (any_of HT_.out (by kernel_rfl)) (fun _ _ _ h => h) (Or.inl ⟨by rfl, ?_⟩) ?_ ?_
                                rotate_left
                                · intro w'
                                  go_simp
                                  with_reducible rfl
                                rotate_left
                                · simp only [Act.put, List.setIfInBounds_toArray, List.set_cons_zero, List.set_cons_succ, i64_w, i32_w]
                                  rfl
                                refine pure_ (i := 2) (N := some 42) (v := ?_) (a' := ?_) #[true, true, true, false, false, false, false, false, false, false, false, false, false, false, false, false, false, false] rfl rfl (any_of HT_.out (by kernel_rfl)) (fun _ _ _ h => h) (Or.inl ⟨by rfl, ?_⟩) ?_ ?_
                                rotate_left
                                · intro w'
                                  go_simp
                                  with_reducible rfl
                                rotate_left
                                · simp only [Act.put, List.setIfInBounds_toArray, List.set_cons_zero, List.set_cons_succ, i64_w, i32_w]
                                  rfl
                                refine pure_ (i := 3) (N := some 43) (v := ?_) (a' := ?_) #[true, true, true, true, false, false, false, false, false, false, false, false, false, false, false, false, false, false] rfl rfl (any_of HT_.out (by kernel_rfl)) (fun _ _ _ h => h) (Or.inl ⟨by rfl, ?_⟩) ?_ ?_
                                rotate_left
                                · intro w'
                                  go_simp
                                  with_reducible rfl
                                rotate_left
                                · simp only [Act.put, List.setIfInBounds_toArray, List.set_cons_zero, List.set_cons_succ, i64_w, i32_w]
                                  rfl
                                refine pure_ (i := 4) (N := some 44) (v := ?_) (a' := ?_) #[true, true, true, true, true, false, false, false, false, false, false, false, false, false, false, false, false, false] rfl rfl (any_of HT_.out (by kernel_rfl)) (fun _ _ _ h => h) (Or.inl ⟨by rfl, ?_⟩) ?_ ?_
                                rotate_left
                                · intro w'
                                  go_simp
                                  with_reducible rfl
                                rotate_left
                                · simp only [Act.put, List.setIfInBounds_toArray, List.set_cons_zero, List.set_cons_succ, i64_w, i32_w]
                                  rfl
                                refine pure_ (i := 5) (N := some 45) (v := ?_) (a' := ?_) #[true, true, true, true, true, true, false, false, false, false, false, false, false, false, false, false, false, false] rfl rfl (any_of HT_.out (by kernel_rfl)) (fun _ _ _ h => h) (Or.inl ⟨by rfl, ?_⟩) ?_ ?_
                                rotate_left
                                · intro w'
                                  go_simp
                                  with_reducible rfl
                                rotate_left
                                · simp only [Act.put, List.setIfInBounds_toArray, List.set_cons_zero, List.set_cons_succ, i64_w, i32_w]
                                  rfl
                                refine pure_ (i := 6) (N := some 46) (v := ?_) (a' := ?_) #[true, true, true, true, true, true, true, false, false, false, false, false, false, false, false, false, false, false] rfl rfl (any_of HT_.out (by kernel_rfl)) (fun _ _ _ h => h) (Or.inl ⟨by rfl, ?_⟩) ?_ ?_
                                rotate_left
                                · intro w'
                                  go_simp
                                  with_reducible rfl
                                rotate_left
                                · simp only [Act.put, List.setIfInBounds_toArray, List.set_cons_zero, List.set_cons_succ, i64_w, i32_w]
                                  rfl
                                refine pure_ (i := 8) (N := some 48) (v := ?_) (a' := ?_) #[true, true, true, true, true, true, true, false, true, false, false, false, false, false, false, false, false, false] rfl rfl (any_of HT_.out (by kernel_rfl)) (fun _ _ _ h => h) (Or.inl ⟨by rfl, ?_⟩) ?_ ?_
                                rotate_left
                                · intro w'
                                  go_simp
                                  with_reducible rfl
                                rotate_left
                                · simp only [Act.put, List.setIfInBounds_toArray, List.set_cons_zero, List.set_cons_succ, i64_w, i32_w]
                                  rfl
                                refine pure_ (i := 9) (N := some 49) (v := ?_) (a' := ?_) #[true, true, true, true, true, true, true, false, true, true, false, false, false, false, false, false, false, false] rfl rfl (any_of HT_.out (by kernel_rfl)) (fun _ _ _ h => h) (Or.inl ⟨by rfl, ?_⟩) ?_ ?_
                                rotate_left
                                · intro w'
                                  go_simp
                                  with_reducible rfl
                                rotate_left
                                · simp only [Act.put, List.setIfInBounds_toArray, List.set_cons_zero, List.set_cons_succ, i64_w, i32_w]
                                  rfl
                                refine pure_ (i := 10) (N := some 50) (v := ?_) (a' := ?_) #[true, true, true, true, true, true, true, false, true, true, true, false, false, false, false, false, false, false] rfl rfl (any_of HT_.out (by kernel_rfl)) (fun _ _ _ h => h) (Or.inl ⟨by rfl, ?_⟩) ?_ ?_
                                rotate_left
                                · intro w'
                                  go_simp
                                  with_reducible rfl
                                rotate_left
                                · simp only [Act.put, List.setIfInBounds_toArray, List.set_cons_zero, List.set_cons_succ, i64_w, i32_w]
                                  rfl
                                refine pure_ (i := 11) (N := some 51) (v := ?_) (a' := ?_) #[true, true, true, true, true, true, true, false, true, true, true, true, false, false, false, false, false, false] rfl rfl (any_of HT_.out (by kernel_rfl)) (fun _ _ _ h => h) (Or.inl ⟨by rfl, ?_⟩) ?_ ?_
                                rotate_left
                                · intro w'
                                  go_simp
                                  with_reducible rfl
                                rotate_left
                                · simp only [Act.put, List.setIfInBounds_toArray, List.set_cons_zero, List.set_cons_succ, i64_w, i32_w]
                                  rfl
                                refine pure_ (i := 12) (N := some 52) (v := ?_) (a' := ?_) #[true, true, true, true, true, true, true, false, true, true, true, true, true, false, false, false, false, false] rfl rfl (any_of HT_.out (by kernel_rfl)) (fun _ _ _ h => h) (Or.inl ⟨by rfl, ?_⟩) ?_ ?_
                                rotate_left
                                · intro w'
                                  go_simp
                                  with_reducible rfl
                                rotate_left
                                · simp only [Act.put, List.setIfInBounds_toArray, List.set_cons_zero, List.set_cons_succ, i64_w, i32_w]
                                  rfl
                                refine pure_ (i := 13) (N := some 53) (v := ?_) (a' := ?_) #[true, true, true, true, true, true, true, false, true, true, true, true, true, true, false, false, false, false] rfl rfl (any_of HT_.out (by kernel_rfl)) (fun _ _ _ h => h) (Or.inl ⟨by rfl, ?_⟩) ?_ ?_
                                rotate_left
                                · intro w'
                                  go_simp
                                  with_reducible rfl
                                rotate_left
                                · simp only [Act.put, List.setIfInBounds_toArray, List.set_cons_zero, List.set_cons_succ, i64_w, i32_w]
                                  rfl
                                refine take_ (i := 14) (N := some 54) (v := ?_) (a' := ?_) #[true, true, true, true, true, true, true, false, true, true, true, true, true, true, true, false, false, false] rfl rfl (take_ofW HT_.out HW_.out (by kernel_rfl)) (fun _ _ _ h => h) (Or.inl ⟨by rfl, ?_⟩) hHeld ?_ ?_
                                rotate_left
                                · intro w' s0
                                  go_simp
                                  with_reducible rfl
                                rotate_left
                                · simp only [Act.put, List.setIfInBounds_toArray, List.set_cons_zero, List.set_cons_succ, i64_w, i32_w]
                                  rfl
                                refine one_ (i := 7) (N := some 47) #[true, true, true, true, true, true, true, true, true, true, true, true, true, true, true, false, false, false] rfl rfl (one_of HT_.out (by kernel_rfl)) (by decide) (fun K hK => ?_)
                                refine goes_ Try.func26 (by kernel_rfl) rfl #[.slice A61 y198.length c61] (by rfl) rfl rfl (by (try simp only [List.map_toArray, List.map_cons, List.map_nil]); first | done | rfl | (simp only [List.length_drop, List.length_take]; rfl)) ?_
                                with_reducible refine (dogwatchref10_Sum.calls kj5 _ _ y198 t203 _ ?side1 ?side2 A35.out).mono ?_
                                (case side1 => repeat (first | exact (Kd.V_reads' HO202.out).2.2 | (with_reducible refine Kd.C_alloc ?_ _) | (with_reducible refine Kd.C_drewN ?_ _) | (with_reducible refine Kd.C_drew ?_)))
                                (case side2 => exact (Kd.V_reads' HO202.out).2.1)
                                rintro e w' ⟨rfl, ⟨nd, rfl⟩⟩
                                refine ⟨_, rfl, ?_⟩
                                refine hK.out _ _ (hHeld) (fun hHeld => ?_)
                                clear hK K
                                refine norm_ (a' := ?_) ?_ ?_
                                rotate_left
                                · show Act.put _ (some 47) _ = _
                                  simp only [Act.put, List.setIfInBounds_toArray, List.set_cons_zero, List.set_cons_succ, i64_w, i32_w]
                                  rfl
                                refine pure_ (i := 15) (N := some 55) (v := ?_) (a' := ?_) #[true, true, true, true, true, true, true, true, true, true, true, true, true, true, true, true, false, false] rfl rfl (any_of HT_.out (by kernel_rfl)) (fun _ _ _ h => h) (Or.inl ⟨by rfl, ?_⟩) ?_ ?_
                                rotate_left
                                · intro w'
                                  go_simp
                                  with_reducible rfl
                                rotate_left
                                · simp only [Act.put, List.setIfInBounds_toArray, List.set_cons_zero, List.set_cons_succ, i64_w, i32_w]
                                  rfl
                                refine pure_ (i := 16) (N := some 56) (v := ?_) (a' := ?_) #[true, true, true, true, true, true, true, true, true, true, true, true, true, true, true, true, true, false] rfl rfl (any_of HT_.out (by kernel_rfl)) (fun _ _ _ h => h) (Or.inl ⟨by rfl, ?_⟩) ?_ ?_
                                rotate_left
                                · intro w'
                                  go_simp
                                  with_reducible rfl
                                rotate_left
                                · simp only [Act.put, List.setIfInBounds_toArray, List.set_cons_zero, List.set_cons_succ, i64_w, i32_w]
                                  rfl
                                refine one_ (i := 17) (N := none) #[true, true, true, true, true, true, true, true, true, true, true, true, true, true, true, true, true, true] rfl rfl (one_of HT_.out (by kernel_rfl)) (by decide) (fun K hK => ?_)
                                have hs62 : w60.cell? ⟨gb186, 3, none⟩ = some (.bool false) := (blk_cell BK186.out 3).trans rfl
                                have hfs62 := blk_frozen BK186.out 3
                                refine skip_ (w1 := ?_) (by rfl) rfl ?_ ?_
                                rotate_left
                                · go_simp
                                  rfl
                                refine hK.out _ _ (((cell_far (p := ⟨gb186, _, none⟩) (by first | exact v_away HO_0.out (by have a_ := of_eq_true p204; have b_ := of_eq_true q204; omega) (fun _ hk => hk.2.2) | (rw [add_block]; exact v_away HO_0.out (by have a_ := of_eq_true p204; have b_ := of_eq_true q204; omega) (fun _ hk => hk.2.2)) | (show (Addr.add _ _).block ≠ _; rw [add_block]; exact v_away HO_0.out (by have a_ := of_eq_true p204; have b_ := of_eq_true q204; omega) (fun _ hk => hk.2.2)) | (dsimp only; exact v_away HO_0.out (by have a_ := of_eq_true p204; have b_ := of_eq_true q204; omega) (fun _ hk => hk.2.2))) _).trans (hHeld))) (fun hHeld => ?_)
                                clear hK K
                                refine done_ (done_of HT_.out (by kernel_rfl)) ?_
                                have n0_ : Aside0 (Kd.V (Kd.int .u8) 5 ((w60.drewN nd).setCell ⟨gb186, 3, none⟩ (.bool false)) w.heap.size (fun k_ => (P0_ k_ ∨ w.heap.size ≤ k_) ∧ some k_ ≠ (u3 : Value).ownBlock ∧ k_ ≠ gb186) (.slice (some ad185) l0.length c0) l0) := ⟨by (with_reducible repeat (first | apply Kd.V_alloc | apply Kd.V_drewN | apply Kd.V_drew)); exact Kd.V_mono (Kd.V_far (p := ⟨gb186, 3, none⟩) (Kd.V_mono (Kd.V_drewN HO_0.out nd) (fun k_ hk => (⟨hk, hk.2.2⟩ : _ ∧ k_ ≠ gb186))) (fun _ hk => hk.2) (.bool false)) (fun _ hk => ⟨hk.1.1, ⟨hk.1.2.1, hk.1.2.2⟩⟩)⟩
                                have n1_ : Aside0 (Kd.N k49 49 ((w60.drewN nd).setCell ⟨gb186, 3, none⟩ (.bool false)) w.heap.size (fun k_ => (P0_ k_ ∨ w.heap.size ≤ k_) ∧ k_ ≠ gb186) u3 x3_1) := ⟨by (with_reducible repeat (first | apply Kd.N_alloc | apply Kd.N_drewN | apply Kd.N_drew)); exact Kd.N_mono (Kd.N_far (p := ⟨gb186, 3, none⟩) (Kd.N_mono (Kd.N_drewN HO_3.out nd) (fun k_ hk => (⟨hk, hk.2⟩ : _ ∧ k_ ≠ gb186))) (fun _ hk => hk.2) (.bool false)) (fun _ hk => ⟨hk.1.1, hk.1.2⟩)⟩
                                have n2_ : Aside0 (Kd.V (Kd.int .u8) 5 ((w60.drewN nd).setCell ⟨gb186, 3, none⟩ (.bool false)) w.heap.size (fun k_ => (P0_ k_ ∨ w.heap.size ≤ k_) ∧ some k_ ≠ (u3 : Value).ownBlock ∧ k_ ≠ gb186) (.slice A61 y198.length c61) y198) := ⟨by (with_reducible repeat (first | apply Kd.V_alloc | apply Kd.V_drewN | apply Kd.V_drew)); exact Kd.V_mono (Kd.V_far (p := ⟨gb186, 3, none⟩) (Kd.V_mono (Kd.V_drewN HO202.out nd) (fun k_ hk => (⟨hk, hk.2.2⟩ : _ ∧ k_ ≠ gb186))) (fun _ hk => hk.2) (.bool false)) (fun _ hk => ⟨hk.1.1, ⟨hk.1.2.1, hk.1.2.2⟩⟩)⟩
                                have n3_ : Aside0 (((w60.drewN nd).setCell ⟨gb186, 3, none⟩ (.bool false)).heap[gb186]? = some (.cells #[.int .i64 x4_1, .int .i64 (wrap64 ((wrap64 (rd l0 x4_1)) + 2)), .slice none 0 0, .bool false] 49 (0, 0))) := ⟨by (with_reducible repeat (first | refine blk_drewN ?_ _ | refine blk_drew ?_ | refine blk_alloc ?_ _)); refine blk_put (cs := #[.int .i64 x4_1, .int .i64 (wrap64 ((wrap64 (rd l0 x4_1)) + 2)), .slice none 0 0, .bool false]) ?_ 3 _ rfl; (with_reducible repeat (first | refine blk_drewN ?_ _ | refine blk_drew ?_ | refine blk_alloc ?_ _)); exact BK186.out⟩
                                have n4_ : Aside0 (Below w.heap.size w ((w60.drewN nd).setCell ⟨gb186, 3, none⟩ (.bool false))) := ⟨by repeat (first | (with_reducible first | exact HB.out | apply below_alloc | apply pw_below_drewN | apply below_drew1 | refine below_set ?_ GE186.out) | exact HB.out)⟩
                                clear HO_0 HO_3 HO202 BK186 HB
                                generalize ((w60.drewN nd).setCell ⟨gb186, 3, none⟩ (.bool false)) = w63 at n0_ n1_ n2_ n3_ n4_ ⊢
                                have HO_0 := n0_
                                have HO_3 := n1_
                                have HO202 := n2_
                                have BK186 := n3_
                                have HB := n4_
                                clear n0_ n1_ n2_ n3_ n4_
                                have hcz63_0 : w63.cell? ⟨gb186, 0, none⟩ = some (.int .i64 x4_1) := (blk_cell BK186.out 0).trans rfl
                                have hcz63_1 : w63.cell? ⟨gb186, 1, none⟩ = some (.int .i64 (wrap64 ((wrap64 (rd l0 x4_1)) + 2))) := (blk_cell BK186.out 1).trans rfl
                                have hcz63_2 : w63.cell? ⟨gb186, 2, none⟩ = some (.slice none 0 0) := (blk_cell BK186.out 2).trans rfl
                                have hcz63_3 : w63.cell? ⟨gb186, 3, none⟩ = some (.bool false) := (blk_cell BK186.out 3).trans rfl
                                have hfz63_0 := blk_frozen BK186.out 0
                                have hfz63_1 := blk_frozen BK186.out 1
                                have hfz63_2 := blk_frozen BK186.out 2
                                have hfz63_3 := blk_frozen BK186.out 3
                                try go_wp2_with (first | ((with_reducible refine gate_builtin (b := .append) (xs := #[.tmp 68, .tmp 70]) rfl ?_); at_builtin; refine Kd.N_append k49 (w0 := w) w.heap.size rfl (.tmp 68) (.tmp 70) 41 49 (.agg #[(.int .i64 0), (.int .i64 0), (.slice none 0 0), (.bool false)]) 48 rfl Try.underlying41 info49 rfl (by decide) (by omega) u3 x3_1 (⟨x4_1, wrap64 ((wrap64 (rd l0 x4_1)) + 2), ([] : List Int), false⟩ : S49) [.int .i64 x4_1, .int .i64 (wrap64 ((wrap64 (rd l0 x4_1)) + 2)), .slice none 0 0, .bool false] (fun k_ => (P0_ k_ ∨ w.heap.size ≤ k_) ∧ k_ ≠ gb186) (fun k_ => ((fun k_ => (P0_ k_ ∨ w.heap.size ≤ k_) ∧ k_ ≠ gb186)) k_ ∧ some k_ ≠ (u3 : Value).ownBlock) rfl (by first | (go_simp; done) | (go_simp; rfl)) ?aP (fun _ hk => hk) ?aF ?aO ?aB ?aS ?aL ?_; (case aP => exact (k49_mkF _ _ (⟨x4_1, wrap64 ((wrap64 (rd l0 x4_1)) + 2), ([] : List Int), false⟩ : S49) (Nat.le_refl _) (Kd.F_nil _ _ _))); (case aB => exact (by repeat (first | (with_reducible first | exact HB.out | apply below_alloc | apply pw_below_drewN | apply below_drew1 | refine below_set ?_ GE186.out) | exact HB.out))); (case aF => exact (fun k_ hk => ⟨(.inr (Nat.le_trans (below_size (by repeat (first | (with_reducible first | exact HB.out | apply below_alloc | apply pw_below_drewN | apply below_drew1 | refine below_set ?_ GE186.out) | exact HB.out))) hk)), Kd.freshB (g := gb186) (o := .cells #[.int .i64 x4_1, .int .i64 (wrap64 ((wrap64 (rd l0 x4_1)) + 2)), .slice none 0 0, .bool false] 49 (0, 0)) (by (with_reducible repeat (first | refine blk_drewN ?_ _ | refine blk_drew ?_ | refine blk_alloc ?_ _)); exact BK186.out) k_ hk⟩)); (case aO => exact (by (with_reducible repeat (first | apply Kd.N_alloc | apply Kd.N_drewN | apply Kd.N_drew)); exact HO_3.out)); (case aS => exact (below_size (by repeat (first | (with_reducible first | exact HB.out | apply below_alloc | apply pw_below_drewN | apply below_drew1 | refine below_set ?_ GE186.out) | exact HB.out)))); (case aL => have := LMc57.out; omega); intro v214 w64 ho hb hg hat; rw [← Ny213.out] at ho; have n0_ := Aside0.mk (Kd.V_afterv (ok := (fun k_ => (P0_ k_ ∨ w.heap.size ≤ k_) ∧ k_ ≠ gb186)) (by (with_reducible repeat (first | apply Kd.V_alloc | apply Kd.V_drewN | apply Kd.V_drew)); exact Kd.V_mono HO_0.out (fun _ hk => ⟨⟨hk.1, hk.2.2⟩, hk.2.1⟩)) hg hat); have n1_ := Aside0.mk (blk_grown (g := gb186) (o := .cells #[.int .i64 x4_1, .int .i64 (wrap64 ((wrap64 (rd l0 x4_1)) + 2)), .slice none 0 0, .bool false] 49 (0, 0)) (by (with_reducible repeat (first | refine blk_drewN ?_ _ | refine blk_drew ?_ | refine blk_alloc ?_ _)); exact BK186.out) hg (Kd.N_away HO_3.out (fun _ hk => hk.2))); have n2_ := Aside0.mk (Kd.V_afterv (ok := (fun k_ => (P0_ k_ ∨ w.heap.size ≤ k_) ∧ k_ ≠ gb186)) (by (with_reducible repeat (first | apply Kd.V_alloc | apply Kd.V_drewN | apply Kd.V_drew)); exact Kd.V_mono HO202.out (fun _ hk => ⟨⟨hk.1, hk.2.2⟩, hk.2.1⟩)) hg hat); have n3_ := Aside0.mk (hb); have n4_ := Aside0.mk (ho); clear HO_0; clear BK186; clear HO202; clear HB; clear HO_3; have HO_0 := n0_; have BK186 := n1_; have HO202 := n2_; have HB := n3_; have HO215 := n4_; clear n0_ n1_ n2_ n3_ n4_; clear ho hb hg hat; have hcz65_0 : w64.cell? ⟨gb186, 0, none⟩ = some (.int .i64 x4_1) := (blk_cell BK186.out 0).trans rfl; have hcz65_1 : w64.cell? ⟨gb186, 1, none⟩ = some (.int .i64 (wrap64 ((wrap64 (rd l0 x4_1)) + 2))) := (blk_cell BK186.out 1).trans rfl; have hcz65_2 : w64.cell? ⟨gb186, 2, none⟩ = some (.slice none 0 0) := (blk_cell BK186.out 2).trans rfl; have hcz65_3 : w64.cell? ⟨gb186, 3, none⟩ = some (.bool false) := (blk_cell BK186.out 3).trans rfl; have hfz65_0 := blk_frozen BK186.out 0; have hfz65_1 := blk_frozen BK186.out 1; have hfz65_2 := blk_frozen BK186.out 2; have hfz65_3 := blk_frozen BK186.out 3))
                                go_roundg kj5
                                case measure => have := HK1.out; have := HJ5.out; omega
                                case rel => exact ⟨(y213), (wrap64 (x4_1 + (wrap64 ((wrap64 (rd l0 x4_1)) + 2)))), (by first | rfl | (simp; done) | (simp [*]; done)), H', ⟨by have := HK1.out; have := HJ5.out; omega⟩, ⟨by (with_reducible repeat (first | apply Kd.V_alloc | apply Kd.V_drewN | apply Kd.V_drew)); exact Kd.V_mono HO_0.out (fun _ hk => ⟨hk.1.1, hk.2⟩)⟩, ⟨by (with_reducible repeat (first | apply Kd.N_alloc | apply Kd.N_drewN | apply Kd.N_drew)); exact Kd.N_mono HO215.out (fun _ hk => hk.1)⟩, ⟨by repeat (first | (with_reducible first | exact HB.out | apply below_alloc | apply pw_below_drewN | apply below_drew1 | refine below_set ?_ GE186.out) | exact HB.out)⟩⟩
                              · rw [if_neg c57] at H
                                exact absurd H (by simp)
                          · rw [if_neg c38] at H
                            exact absurd H (by simp)
                        · rw [if_neg c37] at H
                          exact absurd H (by simp)
                      · rw [if_neg c34] at H
                        exact absurd H (by simp)
                    · rw [if_neg c33] at H
                      exact absurd H (by simp)
                  · rw [if_neg c32] at H
                    exact absurd H (by simp)
              · replace c10 := Bool.eq_false_iff.mpr c10
                subst c10
                have H1 : (if false = true then (if 0 ≤ (wrap64 (x4_1 + 1)) then (if (wrap64 (x4_1 + 1)) ≤ (wrap64 ((wrap64 (x4_1 + (wrap64 (rd l0 x4_1)))) + 1)) then (if (wrap64 ((wrap64 (x4_1 + (wrap64 (rd l0 x4_1)))) + 1)) ≤ (l0.length : Int) then (if x3_1.length < 2932031007402 then (dogwatchref10_Split.l0 kj5 l0 (x3_1 ++ [(⟨x4_1, 1, ((l0.take ((wrap64 ((wrap64 (x4_1 + (wrap64 (rd l0 x4_1)))) + 1)) : Int).toNat).drop ((wrap64 (x4_1 + 1)) : Int).toNat), false⟩ : S49)]) (wrap64 (x4_1 + 1))) else (none)) else (none)) else (none)) else (none)) else (if x3_1.length < 2932031007402 then (dogwatchref10_Split.l0 kj5 l0 (x3_1 ++ [(⟨x4_1, 1, ([] : List Int), false⟩ : S49)]) (wrap64 (x4_1 + 1))) else (none))) = some r := by rw [if_neg (show ¬ (false = true) by decide)] at H; exact H
                clear H
                have H := H1
                clear H1
                by_cases c66 : false = true
                · exact absurd c66 (by decide)
                · clear c66
                  have H1 : (if x3_1.length < 2932031007402 then (dogwatchref10_Split.l0 kj5 l0 (x3_1 ++ [(⟨x4_1, 1, ([] : List Int), false⟩ : S49)]) (wrap64 (x4_1 + 1))) else (none)) = some r := by rw [if_neg (show ¬ (false = true) by decide)] at H; exact H
                  clear H
                  have H := H1
                  clear H1
                  by_cases c78 : x3_1.length < 2932031007402
                  · rw [if_pos c78] at H
                    have LMc78 := Aside0.mk c78
                    clear c78
                    obtain ⟨y224, hy224⟩ : ∃ y_ : List (S49), y_ = (x3_1 ++ [(⟨x4_1, 1, ([] : List Int), false⟩ : S49)]) := ⟨_, rfl⟩
                    replace H : (dogwatchref10_Split.l0 kj5 l0 y224 (wrap64 (x4_1 + 1))) = some r := by first | (rw [hy224]; with_reducible exact H) | (have H2_ := (Option.bind_some _ _).symm.trans H; rw [hy224]; with_reducible exact H2_) | (have H2_ := (Option.bind_some _ _).symm.trans H; with_reducible exact H2_) | with_reducible exact H | (rw [hy224]; exact H) | exact H
                    have Ny224 := Aside0.mk hy224
                    clear hy224
                    have H' := Aside0.mk H
                    clear H
                    have hcz79_0 : wc.cell? ⟨gb186, 0, none⟩ = some (.int .i64 x4_1) := (blk_cell BK186.out 0).trans rfl
                    have hcz79_1 : wc.cell? ⟨gb186, 1, none⟩ = some (.int .i64 1) := (blk_cell BK186.out 1).trans rfl
                    have hcz79_2 : wc.cell? ⟨gb186, 2, none⟩ = some (.slice none 0 0) := (blk_cell BK186.out 2).trans rfl
                    have hcz79_3 : wc.cell? ⟨gb186, 3, none⟩ = some (.bool false) := (blk_cell BK186.out 3).trans rfl
                    have hfz79_0 := blk_frozen BK186.out 0
                    have hfz79_1 := blk_frozen BK186.out 1
                    have hfz79_2 := blk_frozen BK186.out 2
                    have hfz79_3 := blk_frozen BK186.out 3
                    go_wp2_with (first | ((with_reducible refine gate_builtin (b := .append) (xs := #[.tmp 68, .tmp 70]) rfl ?_); at_builtin; refine Kd.N_append k49 (w0 := w) w.heap.size rfl (.tmp 68) (.tmp 70) 41 49 (.agg #[(.int .i64 0), (.int .i64 0), (.slice none 0 0), (.bool false)]) 48 rfl Try.underlying41 info49 rfl (by decide) (by omega) u3 x3_1 (⟨x4_1, 1, ([] : List Int), false⟩ : S49) [.int .i64 x4_1, .int .i64 1, .slice none 0 0, .bool false] (fun k_ => (P0_ k_ ∨ w.heap.size ≤ k_) ∧ k_ ≠ gb186) (fun k_ => ((fun k_ => (P0_ k_ ∨ w.heap.size ≤ k_) ∧ k_ ≠ gb186)) k_ ∧ some k_ ≠ (u3 : Value).ownBlock) rfl rfl ?aP (fun _ hk => hk) ?aF ?aO ?aB ?aS ?aL ?_; (case aP => exact (k49_mkF _ _ (⟨x4_1, 1, ([] : List Int), false⟩ : S49) (Nat.le_refl _) (Kd.F_nil _ _ _))); (case aB => exact (by repeat (first | (with_reducible first | exact HB.out | apply below_alloc | apply pw_below_drewN | apply below_drew1 | refine below_set ?_ GE186.out) | exact HB.out))); (case aF => exact (fun k_ hk => ⟨(.inr (Nat.le_trans (below_size (by repeat (first | (with_reducible first | exact HB.out | apply below_alloc | apply pw_below_drewN | apply below_drew1 | refine below_set ?_ GE186.out) | exact HB.out))) hk)), Kd.freshB (g := gb186) (o := .cells #[.int .i64 x4_1, .int .i64 1, .slice none 0 0, .bool false] 49 (0, 0)) (by (with_reducible repeat (first | refine blk_drewN ?_ _ | refine blk_drew ?_ | refine blk_alloc ?_ _)); exact BK186.out) k_ hk⟩)); (case aO => exact (by (with_reducible repeat (first | apply Kd.N_alloc | apply Kd.N_drewN | apply Kd.N_drew)); exact HO_3.out)); (case aS => exact (below_size (by repeat (first | (with_reducible first | exact HB.out | apply below_alloc | apply pw_below_drewN | apply below_drew1 | refine below_set ?_ GE186.out) | exact HB.out)))); (case aL => have := LMc78.out; omega); intro v225 w80 ho hb hg hat; rw [← Ny224.out] at ho; have n0_ := Aside0.mk (Kd.V_afterv (ok := (fun k_ => (P0_ k_ ∨ w.heap.size ≤ k_) ∧ k_ ≠ gb186)) (by (with_reducible repeat (first | apply Kd.V_alloc | apply Kd.V_drewN | apply Kd.V_drew)); exact Kd.V_mono HO_0.out (fun _ hk => ⟨⟨hk.1, hk.2.2⟩, hk.2.1⟩)) hg hat); have n1_ := Aside0.mk (blk_grown (g := gb186) (o := .cells #[.int .i64 x4_1, .int .i64 1, .slice none 0 0, .bool false] 49 (0, 0)) (by (with_reducible repeat (first | refine blk_drewN ?_ _ | refine blk_drew ?_ | refine blk_alloc ?_ _)); exact BK186.out) hg (Kd.N_away HO_3.out (fun _ hk => hk.2))); have n2_ := Aside0.mk (hb); have n3_ := Aside0.mk (ho); clear HO_0; clear BK186; clear HB; clear HO_3; have HO_0 := n0_; have BK186 := n1_; have HB := n2_; have HO226 := n3_; clear n0_ n1_ n2_ n3_; clear ho hb hg hat; have hcz81_0 : w80.cell? ⟨gb186, 0, none⟩ = some (.int .i64 x4_1) := (blk_cell BK186.out 0).trans rfl; have hcz81_1 : w80.cell? ⟨gb186, 1, none⟩ = some (.int .i64 1) := (blk_cell BK186.out 1).trans rfl; have hcz81_2 : w80.cell? ⟨gb186, 2, none⟩ = some (.slice none 0 0) := (blk_cell BK186.out 2).trans rfl; have hcz81_3 : w80.cell? ⟨gb186, 3, none⟩ = some (.bool false) := (blk_cell BK186.out 3).trans rfl; have hfz81_0 := blk_frozen BK186.out 0; have hfz81_1 := blk_frozen BK186.out 1; have hfz81_2 := blk_frozen BK186.out 2; have hfz81_3 := blk_frozen BK186.out 3))
                    go_roundg kj5
                    case measure => have := HK1.out; have := HJ5.out; omega
                    case rel => exact ⟨(y224), (wrap64 (x4_1 + 1)), (by first | rfl | (simp; done) | (simp [*]; done)), H', ⟨by have := HK1.out; have := HJ5.out; omega⟩, ⟨by (with_reducible repeat (first | apply Kd.V_alloc | apply Kd.V_drewN | apply Kd.V_drew)); exact Kd.V_mono HO_0.out (fun _ hk => ⟨hk.1.1, hk.2⟩)⟩, ⟨by (with_reducible repeat (first | apply Kd.N_alloc | apply Kd.N_drewN | apply Kd.N_drew)); exact Kd.N_mono HO226.out (fun _ hk => hk.1)⟩, ⟨by repeat (first | (with_reducible first | exact HB.out | apply below_alloc | apply pw_below_drewN | apply below_drew1 | refine below_set ?_ GE186.out) | exact HB.out)⟩⟩
                  · rw [if_neg c78] at H
                    exact absurd H (by simp)
        · rw [if_neg c5] at H
          exact absurd H (by simp)
      · rw [if_neg c4] at H
        have c4b0 : decide (x4_1 < (l0.length : Int)) = false := decide_eq_false c4
        clear c4
        obtain rfl := Option.some.inj H
        go_wp2
        go_ret
        exact ⟨_, by first | rfl | (simp [errW_none, errW_some] <;> rfl) | (simp [*, errW_none, errW_some] <;> rfl), by (with_reducible repeat (first | apply Kd.N_alloc | apply Kd.N_drewN | apply Kd.N_drew)); exact HO_3.out, by repeat (first | (with_reducible first | exact HB.out | apply below_alloc | apply pw_below_drewN | apply below_drew1) | exact HB.out)⟩

end Go.Proofs.Ytgjcbpeliimhaaa.PRec
