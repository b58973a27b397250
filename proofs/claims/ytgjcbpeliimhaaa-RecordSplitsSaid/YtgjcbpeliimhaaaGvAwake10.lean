/- The page's examples of records, walked by hand: they hold. -/
import Derived.Test.YtgjcbpeliimhaaaPRecx2
import Derived.Test.YtgjcbpeliimhaaaGvHeld
namespace Go.Proofs.Ytgjcbpeliimhaaa.PRec
open Go.RowKit Go.Proofs.YtgjcbpeliimhaaaW.PrintWords Go.Proofs.YtgjcbpeliimhaaaW.PrintLast Go.Proofs.YtgjcbpeliimhaaaW.PrintMore Held
set_option linter.unusedVariables false
set_option linter.unusedSimpArgs false

def dogwatchlaw10_awake.f : Option Bool := some true

theorem C_new (w : World) (xs : List Int) (hx : xs.length ≤ 9223372036854775807) : Kd.C (Kd.int .u8) (w.alloc (.cells (nums .u8 xs).toArray 5)) (some ⟨w.heap.size, 0, none⟩) xs.length xs := by
  refine Kd.C_of_reads (d := (0 : Int)) (h1 := fun _ => rfl) ⟨rfl, hx, fun _ => ⟨_, rfl, fun j hj => ?_⟩⟩
  have h := blk_cell (heap_alloc_new w (.cells (nums .u8 xs).toArray 5)) j
  have e : (⟨w.heap.size, 0, none⟩ : Addr).add j = ⟨w.heap.size, j, none⟩ := by simp [Addr.add]; intro h; exact h.symm
  rw [e, h]
  simp [nums, List.getD_eq_getElem?_getD, hj]

set_option maxHeartbeats 4000000 in
set_option maxRecDepth 100000 in
theorem dogwatchlaw10_awake.calls (r : Bool) (w : World) (h : dogwatchlaw10_awake.f = some r) :
    Calls Try.prog 21 #[] w fun e w' => e = .returned (.bool r) ∧ Below w.heap.size w w' := by
  obtain rfl : true = r := Option.some.inj h
  clear h
  obtain ⟨y1, hy1⟩ : ∃ y : List Int, y = [5] := ⟨_, rfl⟩
  obtain ⟨y2, hy2⟩ : ∃ y : List Int, y = [0, 200, 3, 1] := ⟨_, rfl⟩
  obtain ⟨s1, hs1⟩ : ∃ y : List Int, y = [1, 5, 14] := ⟨_, rfl⟩
  have A1 : Aside0 (record_Seal.f 100 y1 = some (s1, 0)) := ⟨by rw [hy1, hs1]; decide +kernel⟩
  have A2 : Aside0 (record_Count.f 100 y2 = some (0, 3)) := ⟨by rw [hy2]; decide +kernel⟩
  have A3 : Aside0 (dogwatchref10_Seal.f 100 y1 = some s1) := ⟨by rw [hy1, hs1]; decide +kernel⟩
  have N1 := Aside0.mk hy1
  have N2 := Aside0.mk hy2
  have L1 := Aside0.mk (show y1.length = 1 by rw [hy1]; rfl)
  clear hy1 hy2 hs1
  have HB := Aside0.mk (Below.refl w.heap.size w)
  go_enter Try.func21, Try.ntmps21
  go_wp2_with (first
    | ((with_reducible refine gate_dst (N := 6) rfl ?_); refine Kd.R_lit (Kd.int .u8) _ 5 ?hg (N := 6) ?hd (xs := ([5] : List Int)) (inner := [.int .u8 5]) (ok := fun _ => True) (okp := fun _ => True) ?hr ?hp (fun _ hk => hk) trivial (Below.refl _ _) (Nat.le_refl _) (by simp) ?_; (case hd => rfl); (case hg => rfl); (case hr => first | (go_simp; done) | (go_simp; rfl)); (case hp => exact (Reps.one (show Kd.M (Kd.int .u8) _ _ _ 5 [.int .u8 5] from rfl) (Reps.none _ _))); intro v1 w1 ho1 hb1 _ _; rw [← N1.out] at ho1; obtain ⟨B1, c1, rfl⟩ := Kd.R_slice ho1; have HO1 := Aside0.mk ho1; have HB1 := Aside0.mk (below_step HB.out hb1); clear ho1 hb1)
    | (go_at_call 27; (with_reducible refine (record_Seal.calls 100 _ _ y1 s1 0 _ ?side1 ?side2 A1.out).mono ?_); (case side1 => exact (Kd.R_reads' HO1.out).2.2); (case side2 => exact (Kd.R_reads' HO1.out).2.1); rintro e w2 ⟨v2, rfl, ho2, hb2⟩; have HO2 := Aside0.mk ho2; have HB2 := Aside0.mk (below_step HB1.out hb2); clear ho2 hb2)
    | ((with_reducible refine gate_dst (N := 11) rfl ?_); refine Kd.R_lit (Kd.int .u8) _ 5 ?hg (N := 11) ?hd (xs := ([0, 200, 3, 1] : List Int)) (inner := [.int .u8 0, .int .u8 200, .int .u8 3, .int .u8 1]) (ok := fun _ => True) (okp := fun _ => True) ?hr ?hp (fun _ hk => hk) trivial (Below.refl _ _) (Nat.le_refl _) (by simp) ?_; (case hd => rfl); (case hg => rfl); (case hr => first | (go_simp; done) | (go_simp; rfl)); (case hp => exact (Reps.one (show Kd.M (Kd.int .u8) _ _ _ 0 [.int .u8 0] from rfl) (Reps.one (show Kd.M (Kd.int .u8) _ _ _ 200 [.int .u8 200] from rfl) (Reps.one (show Kd.M (Kd.int .u8) _ _ _ 3 [.int .u8 3] from rfl) (Reps.one (show Kd.M (Kd.int .u8) _ _ _ 1 [.int .u8 1] from rfl) (Reps.none _ _)))))); intro v3 w3 ho3 hb3 _ _; rw [← N2.out] at ho3; obtain ⟨B3, c3, rfl⟩ := Kd.R_slice ho3; have HO3 := Aside0.mk ho3; have HS3 := Aside0.mk (Kd.R_below HO2.out hb3); have HB3 := Aside0.mk (below_step HB2.out hb3); clear ho3 hb3)
    | (go_at_call 24; (with_reducible refine (record_Count.calls 100 _ _ y2 0 3 _ ?side1 ?side2 A2.out).mono ?_); (case side1 => exact (Kd.R_reads' HO3.out).2.2); (case side2 => exact (Kd.R_reads' HO3.out).2.1); rintro e w4 ⟨rfl, hb4⟩; have HS4 := Aside0.mk (Kd.R_below HS3.out hb4); have HB4 := Aside0.mk (below_step HB3.out hb4); clear hb4))
  have hcv : ∀ w', Below w4.heap.size w4 w' → (convert 38 9 v2).run Try.prog w' = .ok (.string (strOfNums s1)) w' := fun w' hb => own_string (P := Try.prog) Try.underlying38 Try.underlying5 Try.underlying9 (Kd.own_of_R (Kd.R_below HS4.out hb))
  have HCV := Aside0.mk hcv
  clear hcv
  have C28 : ∀ W A c, Kd.C (Kd.int .u8) W A 1 y1 → 1 ≤ c → Calls Try.prog 28 #[.slice A 1 c] W fun e w' => ∃ v0_ : Value, e = .returned (v0_) ∧ Kd.R (Kd.int .u8) 5 w' W.heap.size (fun _ => True) v0_ s1 ∧ Below W.heap.size W w' := by
    intro W A c h1 h2
    have := dogwatchref10_Seal.calls 100 A c y1 s1 W (by rw [L1.out]; exact h1) (by rw [L1.out]; exact h2) A3.out
    rw [L1.out] at this
    exact this
  have CS28 := Aside0.mk C28
  have CN : Aside0 (Kd.C (Kd.int .u8) ((w4.alloc (.cells #[.int .u8 5] 5)).drew) (some ⟨w4.heap.size, 0, none⟩) 1 y1) := ⟨by
    have := C_new w4 [5] (by simp)
    rw [N1.out]
    exact Kd.C_drew this⟩
  have HB5 := Aside0.mk (show Below w4.heap.size w4 ((w4.alloc (.cells #[.int .u8 5] 5)).drew) from Below.drew (Below.alloc (Below.refl _ _) (Nat.le_refl _) _))
  clear C28
  refine wp_region_held_drew (S := fun w' => Below w4.heap.size w4 w' ∧ (convert 38 9 v2).run Try.prog w' = .ok (.string (strOfNums s1)) w') (by kernel_rfl) ⟨(Below.refl _ _).drew, HCV.out _ (Below.refl _ _).drew⟩ (fun hHeld => ?_)
  refine wpAnyH_take (i := 0) (v := ?v0) (oi := { dst := some 15, op := Op.move (Operand.tmp 1), type := 38, pos := "law.go:14", after := #[], guard := none }) rfl (by kernel_rfl) (by kernel_rfl) (by kernel_rfl) (fun _ _ _ h => h) (Or.inl ⟨by rfl, ?hy0⟩) (by assumption) ?rest0
  case hy0 => (intro w hSw; (try dsimp only at hSw); go_split_ands; go_simp; try with_reducible rfl)
  (try simp only [Act.put, List.setIfInBounds_toArray, List.set_cons_zero, List.set_cons_succ])
  refine wpAnyH_take (i := 1) (v := ?v1) (oi := { dst := some 16, op := Op.convert 38 9 (Operand.tmp 15), type := 9, pos := "law.go:14", after := #[{ on := 0, ground := Ground.data }], guard := none }) rfl (by kernel_rfl) (by kernel_rfl) (by kernel_rfl) (fun _ _ _ h => h) (Or.inl ⟨by rfl, ?hy1⟩) (by assumption) ?rest1
  case hy1 => (intro w hSw; (try dsimp only at hSw); go_split_ands; go_simp; try with_reducible rfl)
  (try simp only [Act.put, List.setIfInBounds_toArray, List.set_cons_zero, List.set_cons_succ])
  refine wpAnyH_ready (rs := [2]) (by kernel_rfl) (by simp) ?_
  refine AllReadyH.cons (o := { dst := some 17, op := Op.buildSlice 38 1 #[(0, Operand.const (Value.int IntKind.u8 5))], type := 38, pos := "law.go:14", after := #[], guard := none }) rfl (fun K hK => ?_) AllReadyH.nil
  go_simp
  refine hK.out _ _ ?_ (fun hHeld => ?_)
  · exact ⟨HB5.out, HCV.out _ HB5.out⟩
  clear hK K
  (try simp only [Act.put, List.setIfInBounds_toArray, List.set_cons_zero, List.set_cons_succ])
  refine wpAnyH_ready (rs := [3]) (by kernel_rfl) (by simp) ?_
  refine AllReadyH.cons (o := { dst := some 18, op := Op.call { callee := Callee.value (Operand.func 28), args := #[Operand.tmp 17], argTypes := #[38] }, type := 38, pos := "law.go:14", after := #[{ on := 2, ground := Ground.data }], guard := none }) rfl (fun K hK => ?_) AllReadyH.nil
  go_simp
  refine (CS28.out _ _ _ CN.out (by omega)).mono ?_
  rintro e w5 ⟨v5, rfl, ho5, hb5⟩
  have HS5 := Aside0.mk (below_step HB5.out hb5)
  have hcv5 := own_string (P := Try.prog) Try.underlying38 Try.underlying5 Try.underlying9 (Kd.own_of_R ho5)
  clear ho5 hb5
  refine hK.out _ _ ?_ (fun hHeld => ?_)
  · exact ⟨HS5.out, HCV.out _ HS5.out⟩
  clear hK K
  (try simp only [Act.put, List.setIfInBounds_toArray, List.set_cons_zero, List.set_cons_succ])
  refine held_more (S' := fun w' => (Below w4.heap.size w4 w' ∧ (convert 38 9 v2).run Try.prog w' = .ok (.string (strOfNums s1)) w') ∧ (convert 38 9 v5).run Try.prog w' = .ok (.string (strOfNums s1)) w') (fun _ h => h.1) _ _ _ _ ?_
  have hHeld0 := And.intro hHeld hcv5
  clear hHeld
  have hHeld : (fun w' => (Below w4.heap.size w4 w' ∧ (convert 38 9 v2).run Try.prog w' = .ok (.string (strOfNums s1)) w') ∧ (convert 38 9 v5).run Try.prog w' = .ok (.string (strOfNums s1)) w') _ := ⟨hHeld0.1, hHeld0.2⟩
  refine wpAnyH_take (i := 4) (v := ?v4) (oi := { dst := some 19, op := Op.convert 38 9 (Operand.tmp 18), type := 9, pos := "law.go:14", after := #[{ on := 3, ground := Ground.data }], guard := none }) rfl (by kernel_rfl) (by kernel_rfl) (by kernel_rfl) (fun _ _ _ h => h) (Or.inl ⟨by rfl, ?hy4⟩) (by assumption) ?rest4
  case hy4 => (intro w hSw; (try dsimp only at hSw); go_split_ands; go_simp; try with_reducible rfl)
  (try simp only [Act.put, List.setIfInBounds_toArray, List.set_cons_zero, List.set_cons_succ])
  refine wpAnyH_take (i := 5) (v := ?v5) (oi := { dst := some 20, op := Op.binOp BinOp.eql 9 (Operand.tmp 16) (Operand.tmp 19) 9, type := 4, pos := "law.go:14", after := #[{ on := 1, ground := Ground.data }, { on := 4, ground := Ground.data }], guard := none }) rfl (by kernel_rfl) (by kernel_rfl) (by kernel_rfl) (fun _ _ _ h => h) (Or.inl ⟨by rfl, ?hy5⟩) (by assumption) ?rest5
  case hy5 => (intro w hSw; (try dsimp only at hSw); go_split_ands; go_simp; try with_reducible rfl)
  (try simp only [Act.put, List.setIfInBounds_toArray, List.set_cons_zero, List.set_cons_succ])
  refine wpAnyH_take (i := 6) (v := ?v6) (oi := { dst := some 21, op := Op.move (Operand.tmp 20), type := 4, pos := "law.go:14", after := #[{ on := 5, ground := Ground.data }, { on := 3, ground := Ground.chain }], guard := none }) rfl (by kernel_rfl) (by kernel_rfl) (by kernel_rfl) (fun _ _ _ h => h) (Or.inl ⟨by rfl, ?hy6⟩) (by assumption) ?rest6
  case hy6 => (intro w hSw; (try dsimp only at hSw); go_split_ands; go_simp; try with_reducible rfl)
  (try simp only [Act.put, List.setIfInBounds_toArray, List.set_cons_zero, List.set_cons_succ])
  refine wpAnyH_take (i := 7) (v := ?v7) (oi := { dst := some 22, op := Op.move (Operand.tmp 2), type := 24, pos := "law.go:14", after := #[{ on := 6, ground := Ground.guard }], guard := some (6, true) }) rfl (by kernel_rfl) (by kernel_rfl) (by kernel_rfl) (fun _ _ _ h => h) (Or.inl ⟨by rfl, ?hy7⟩) (by assumption) ?rest7
  case hy7 => (intro w hSw; (try dsimp only at hSw); go_split_ands; go_simp; try with_reducible rfl)
  (try simp only [Act.put, List.setIfInBounds_toArray, List.set_cons_zero, List.set_cons_succ])
  refine wpAnyH_take (i := 8) (v := ?v8) (oi := { dst := some 23, op := Op.binOp BinOp.eql 24 (Operand.tmp 22) (Operand.const (Value.int IntKind.i64 0)) 24, type := 4, pos := "law.go:14", after := #[{ on := 7, ground := Ground.data }, { on := 6, ground := Ground.guard }], guard := some (6, true) }) rfl (by kernel_rfl) (by kernel_rfl) (by kernel_rfl) (fun _ _ _ h => h) (Or.inl ⟨by rfl, ?hy8⟩) (by assumption) ?rest8
  case hy8 => (intro w hSw; (try dsimp only at hSw); go_split_ands; go_simp; try with_reducible rfl)
  (try simp only [Act.put, List.setIfInBounds_toArray, List.set_cons_zero, List.set_cons_succ])
  refine wpAnyH_take (i := 9) (v := ?v9) (oi := { dst := some 24, op := Op.pick (Operand.tmp 21) (Operand.tmp 23) (Operand.const (Value.bool false)), type := 4, pos := "law.go:14", after := #[{ on := 6, ground := Ground.data }, { on := 8, ground := Ground.data }], guard := none }) rfl (by kernel_rfl) (by kernel_rfl) (by kernel_rfl) (fun _ _ _ h => h) (Or.inl ⟨by rfl, ?hy9⟩) (by assumption) ?rest9
  case hy9 => (intro w hSw; (try dsimp only at hSw); go_split_ands; go_simp; try with_reducible rfl)
  (try simp only [Act.put, List.setIfInBounds_toArray, List.set_cons_zero, List.set_cons_succ])
  refine wpAnyH_take (i := 10) (v := ?v10) (oi := { dst := some 25, op := Op.move (Operand.tmp 24), type := 4, pos := "law.go:14", after := #[{ on := 9, ground := Ground.data }, { on := 6, ground := Ground.chain }], guard := none }) rfl (by kernel_rfl) (by kernel_rfl) (by kernel_rfl) (fun _ _ _ h => h) (Or.inl ⟨by rfl, ?hy10⟩) (by assumption) ?rest10
  case hy10 => (intro w hSw; (try dsimp only at hSw); go_split_ands; go_simp; try with_reducible rfl)
  (try simp only [Act.put, List.setIfInBounds_toArray, List.set_cons_zero, List.set_cons_succ])
  refine wpAnyH_take (i := 11) (v := ?v11) (oi := { dst := some 26, op := Op.move (Operand.tmp 3), type := 3, pos := "law.go:14", after := #[{ on := 10, ground := Ground.guard }], guard := some (10, true) }) rfl (by kernel_rfl) (by kernel_rfl) (by kernel_rfl) (fun _ _ _ h => h) (Or.inl ⟨by rfl, ?hy11⟩) (by assumption) ?rest11
  case hy11 => (intro w hSw; (try dsimp only at hSw); go_split_ands; go_simp; try with_reducible rfl)
  (try simp only [Act.put, List.setIfInBounds_toArray, List.set_cons_zero, List.set_cons_succ])
  refine wpAnyH_take (i := 12) (v := ?v12) (oi := { dst := some 27, op := Op.binOp BinOp.eql 3 (Operand.tmp 26) (Operand.const (Value.int IntKind.i64 0)) 3, type := 4, pos := "law.go:14", after := #[{ on := 11, ground := Ground.data }, { on := 10, ground := Ground.guard }], guard := some (10, true) }) rfl (by kernel_rfl) (by kernel_rfl) (by kernel_rfl) (fun _ _ _ h => h) (Or.inl ⟨by rfl, ?hy12⟩) (by assumption) ?rest12
  case hy12 => (intro w hSw; (try dsimp only at hSw); go_split_ands; go_simp; try with_reducible rfl)
  (try simp only [Act.put, List.setIfInBounds_toArray, List.set_cons_zero, List.set_cons_succ])
  refine wpAnyH_take (i := 13) (v := ?v13) (oi := { dst := some 28, op := Op.pick (Operand.tmp 25) (Operand.tmp 27) (Operand.const (Value.bool false)), type := 4, pos := "law.go:14", after := #[{ on := 10, ground := Ground.data }, { on := 12, ground := Ground.data }], guard := none }) rfl (by kernel_rfl) (by kernel_rfl) (by kernel_rfl) (fun _ _ _ h => h) (Or.inl ⟨by rfl, ?hy13⟩) (by assumption) ?rest13
  case hy13 => (intro w hSw; (try dsimp only at hSw); go_split_ands; go_simp; try with_reducible rfl)
  (try simp only [Act.put, List.setIfInBounds_toArray, List.set_cons_zero, List.set_cons_succ])
  refine wpAnyH_take (i := 14) (v := ?v14) (oi := { dst := some 29, op := Op.move (Operand.tmp 28), type := 4, pos := "law.go:14", after := #[{ on := 13, ground := Ground.data }, { on := 10, ground := Ground.chain }], guard := none }) rfl (by kernel_rfl) (by kernel_rfl) (by kernel_rfl) (fun _ _ _ h => h) (Or.inl ⟨by rfl, ?hy14⟩) (by assumption) ?rest14
  case hy14 => (intro w hSw; (try dsimp only at hSw); go_split_ands; go_simp; try with_reducible rfl)
  (try simp only [Act.put, List.setIfInBounds_toArray, List.set_cons_zero, List.set_cons_succ])
  refine wpAnyH_take (i := 15) (v := ?v15) (oi := { dst := some 30, op := Op.move (Operand.tmp 4), type := 3, pos := "law.go:14", after := #[{ on := 14, ground := Ground.guard }], guard := some (14, true) }) rfl (by kernel_rfl) (by kernel_rfl) (by kernel_rfl) (fun _ _ _ h => h) (Or.inl ⟨by rfl, ?hy15⟩) (by assumption) ?rest15
  case hy15 => (intro w hSw; (try dsimp only at hSw); go_split_ands; go_simp; try with_reducible rfl)
  (try simp only [Act.put, List.setIfInBounds_toArray, List.set_cons_zero, List.set_cons_succ])
  refine wpAnyH_take (i := 16) (v := ?v16) (oi := { dst := some 31, op := Op.binOp BinOp.eql 3 (Operand.tmp 30) (Operand.const (Value.int IntKind.i64 3)) 3, type := 4, pos := "law.go:14", after := #[{ on := 15, ground := Ground.data }, { on := 14, ground := Ground.guard }], guard := some (14, true) }) rfl (by kernel_rfl) (by kernel_rfl) (by kernel_rfl) (fun _ _ _ h => h) (Or.inl ⟨by rfl, ?hy16⟩) (by assumption) ?rest16
  case hy16 => (intro w hSw; (try dsimp only at hSw); go_split_ands; go_simp; try with_reducible rfl)
  (try simp only [Act.put, List.setIfInBounds_toArray, List.set_cons_zero, List.set_cons_succ])
  refine wpAnyH_take (i := 17) (v := ?v17) (oi := { dst := some 32, op := Op.pick (Operand.tmp 29) (Operand.tmp 31) (Operand.const (Value.bool false)), type := 4, pos := "law.go:14", after := #[{ on := 14, ground := Ground.data }, { on := 16, ground := Ground.data }], guard := none }) rfl (by kernel_rfl) (by kernel_rfl) (by kernel_rfl) (fun _ _ _ h => h) (Or.inl ⟨by rfl, ?hy17⟩) (by assumption) ?rest17
  case hy17 => (intro w hSw; (try dsimp only at hSw); go_split_ands; go_simp; try with_reducible rfl)
  (try simp only [Act.put, List.setIfInBounds_toArray, List.set_cons_zero, List.set_cons_succ])
  refine wpAnyH_take (i := 18) (v := ?v18) (oi := { dst := some 0, op := Op.assign (Operand.tmp 32), type := 4, pos := "law.go:14", after := #[{ on := 17, ground := Ground.data }, { on := 14, ground := Ground.chain }, { on := 0, ground := Ground.phase }, { on := 1, ground := Ground.phase }, { on := 2, ground := Ground.phase }, { on := 3, ground := Ground.phase }, { on := 4, ground := Ground.phase }, { on := 5, ground := Ground.phase }, { on := 6, ground := Ground.phase }, { on := 7, ground := Ground.phase }, { on := 8, ground := Ground.phase }, { on := 9, ground := Ground.phase }, { on := 10, ground := Ground.phase }, { on := 11, ground := Ground.phase }, { on := 12, ground := Ground.phase }, { on := 13, ground := Ground.phase }, { on := 14, ground := Ground.phase }, { on := 15, ground := Ground.phase }, { on := 16, ground := Ground.phase }, { on := 17, ground := Ground.phase }], guard := none }) rfl (by kernel_rfl) (by kernel_rfl) (by kernel_rfl) (fun _ _ _ h => h) (Or.inl ⟨by rfl, ?hy18⟩) (by assumption) ?rest18
  case hy18 => (intro w hSw; (try dsimp only at hSw); go_split_ands; go_simp; try with_reducible rfl)
  (try simp only [Act.put, List.setIfInBounds_toArray, List.set_cons_zero, List.set_cons_succ])
  refine wpAnyH_done (by kernel_rfl) ?_ _
  go_wp2
  go_ret
  exact ⟨rfl, below_step HB4.out HS5.out⟩
end Go.Proofs.Ytgjcbpeliimhaaa.PRec
