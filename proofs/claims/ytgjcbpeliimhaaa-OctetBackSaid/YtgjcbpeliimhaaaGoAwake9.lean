/- octet's examples, walked by hand: they hold. -/
import Derived.Test.YtgjcbpeliimhaaaGoReader2
import Derived.Test.YtgjcbpeliimhaaaGvHeld
import Derived.Test.YtgjcbpeliimhaaaPOctx1
import Derived.Test.YtgjcbpeliimhaaaPOctx2
namespace Go.Proofs.Ytgjcbpeliimhaaa.POct
open Go.RowKit Go.Proofs.YtgjcbpeliimhaaaW.PrintWords Go.Proofs.YtgjcbpeliimhaaaW.PrintLast Go.Proofs.YtgjcbpeliimhaaaW.PrintMore Held
set_option linter.unusedVariables false
set_option linter.unusedSimpArgs false

def dogwatchlaw09_awake.f : Option Bool := some true
theorem C_new (k : IntKind) (e : Nat) (w : World) (xs : List Int) (hx : xs.length ≤ 9223372036854775807) : Kd.C (Kd.int k) (w.alloc (.cells (nums k xs).toArray e)) (some ⟨w.heap.size, 0, none⟩) xs.length xs := by
  refine Kd.C_of_reads (d := (0 : Int)) (h1 := fun _ => rfl) ⟨rfl, hx, fun _ => ⟨_, rfl, fun j hj => ?_⟩⟩
  have h := blk_cell (heap_alloc_new w (.cells (nums k xs).toArray e)) j
  have e : (⟨w.heap.size, 0, none⟩ : Addr).add j = ⟨w.heap.size, j, none⟩ := by simp [Addr.add]; intro h; exact h.symm
  rw [e, h]
  simp [nums, List.getD_eq_getElem?_getD, hj]

set_option maxHeartbeats 8000000 in
set_option maxRecDepth 100000 in
theorem dogwatchlaw09_awake.calls (r : Bool) (w : World) (h : dogwatchlaw09_awake.f = some r) :
    Calls Try.prog 29 #[] w fun e w' => e = .returned (.bool r) ∧ Below w.heap.size w w' := by
  obtain rfl : true = r := Option.some.inj h
  clear h
  obtain ⟨y1, hy1⟩ : ∃ y : List Int, y = [128, 0] := ⟨_, rfl⟩
  obtain ⟨s2, hs2⟩ : ∃ y : List Int, y = [172, 2] := ⟨_, rfl⟩
  obtain ⟨y7, hy7⟩ : ∃ y : List Int, y = [7] := ⟨_, rfl⟩
  obtain ⟨y8, hy8⟩ : ∃ y : List Int, y = [1, 2] := ⟨_, rfl⟩
  obtain ⟨y9, hy9⟩ : ∃ y : List Int, y = [7, 1, 2] := ⟨_, rfl⟩
  have A1 : Aside0 (octet_number.f 100 y1 = some (0, 0)) := ⟨by rw [hy1]; decide +kernel⟩
  have A2 : Aside0 (octet_Num.f 100 300 = some s2) := ⟨by rw [hs2]; decide +kernel⟩
  have A3 : Aside0 (octet_Put.f 100 y7 y8 = some y9) := ⟨by rw [hy7, hy8, hy9]; decide +kernel⟩
  have N1 := Aside0.mk hy1
  have N2 := Aside0.mk hs2
  have N7 := Aside0.mk hy7
  have N8 := Aside0.mk hy8
  have N9 := Aside0.mk hy9
  have L1 := Aside0.mk (show y1.length < 140737488355328 by rw [hy1]; simp)
  clear hy1 hs2 hy7 hy8 hy9
  have HB := Aside0.mk (Below.refl w.heap.size w)
  go_enter Try.func29, Try.ntmps29
  go_wp2_with (first
    | ((with_reducible refine gate_dst (N := 3) rfl ?_); refine Kd.R_lit (Kd.int .u8) _ 5 ?hg (N := 3) ?hd (xs := ([128, 0] : List Int)) (inner := [.int .u8 128, .int .u8 0]) (ok := fun _ => True) (okp := fun _ => True) ?hr ?hp (fun _ hk => hk) trivial (Below.refl _ _) (Nat.le_refl _) (by simp) ?_; (case hd => rfl); (case hg => rfl); (case hr => first | (go_simp; done) | (go_simp; rfl)); (case hp => exact (Reps.one (show Kd.M (Kd.int .u8) _ _ _ 128 [.int .u8 128] from rfl) (Reps.one (show Kd.M (Kd.int .u8) _ _ _ 0 [.int .u8 0] from rfl) (Reps.none _ _)))); intro v1 w1 ho1 hb1 _ _; rw [← N1.out] at ho1; obtain ⟨B1, c1, rfl⟩ := Kd.R_slice ho1; have HO1 := Aside0.mk ho1; have HB1 := Aside0.mk (below_step HB.out hb1); clear ho1 hb1)
    | (go_at_call 34; (with_reducible refine (open_of _ _ y1 _ (Kd.R_reads' HO1.out).2.2 (Kd.R_reads' HO1.out).2.1 L1.out).mono ?_); rintro e w2 ⟨g, rfl, hr2, hg2, hb2⟩; have HR2 := Aside0.mk hr2; have HG2 := Aside0.mk (show w.heap.size ≤ g from Nat.le_trans HB1.out.size hg2); have HB2 := Aside0.mk (below_step HB1.out hb2); clear hr2 hg2 hb2)
    | (go_at_call 35; (with_reducible refine (num_bad 100 g y1 9 0 _ HR2.out A1.out).mono ?_); rintro e w3 ⟨rfl, hr3, hg3⟩; have HR3 := Aside0.mk hr3; have HB3 := Aside0.mk (show Below w.heap.size w w3 from HB2.out.grown hg3 HB2.out.size (fun k hk => by injection hk with hk; have := HG2.out; omega)); clear hr3 hg3))
  have hcvL : ∀ W : World, (convert 38 9 (.slice (some ⟨W.heap.size, 0, none⟩) 2 2)).run Try.prog (W.alloc (.cells #[.int .u8 172, .int .u8 2] 5)) = .ok (.string (strOfNums s2)) (W.alloc (.cells #[.int .u8 172, .int .u8 2] 5)) := by
    intro W
    rw [N2.out]
    exact Kd.C_string (P := Try.prog) Try.underlying38 Try.underlying5 Try.underlying9 (C_new .u8 5 W [172, 2] (by simp))
  have hcvLb : ∀ W w' : World, Below (W.alloc (.cells #[.int .u8 172, .int .u8 2] 5)).heap.size (W.alloc (.cells #[.int .u8 172, .int .u8 2] 5)) w' → (convert 38 9 (.slice (some ⟨W.heap.size, 0, none⟩) 2 2)).run Try.prog w' = .ok (.string (strOfNums s2)) w' := by
    intro W w' hb
    rw [N2.out]
    exact Kd.C_string (P := Try.prog) Try.underlying38 Try.underlying5 Try.underlying9 (Kd.C_below (C_new .u8 5 W [172, 2] (by simp)) hb)
  have HCL := Aside0.mk hcvLb
  clear hcvL hcvLb
  have C32 : ∀ (W : World) (A B : Option Addr), Kd.C (Kd.int .u8) W A 1 y7 → Kd.C (Kd.int .u64) W B 2 y8 → Calls Try.prog 32 #[.slice A 1 1, .slice B 2 2] W fun e w' => ∃ (A' : Option Addr) (c' : Nat), e = .returned (.slice A' 3 c') ∧ Below W.heap.size W w' := by
    intro W A B h7 h8
    have l7 : y7.length = 1 := by rw [N7.out]; rfl
    have l8 : y8.length = 2 := by rw [N8.out]; rfl
    have l9 : y9.length = 3 := by rw [N9.out]; rfl
    have := octet_Put.calls 100 A 1 y7 B 2 y8 y9 W (by rw [l7]; exact h7) (by omega) (by rw [l8]; exact h8) (by omega) A3.out
    rw [l7, l8] at this
    refine this.mono ?_
    rintro e w' ⟨v, rfl, ho, hb⟩
    obtain ⟨A', c', rfl⟩ := Kd.R_slice ho
    rw [l9]
    exact ⟨A', c', rfl, hb⟩
  have CS32 := Aside0.mk C32
  clear C32
  have C7 : ∀ W : World, Kd.C (Kd.int .u8) (W.alloc (.cells #[.int .u8 7] 5)) (some ⟨W.heap.size, 0, none⟩) 1 y7 := fun W => by rw [N7.out]; exact C_new .u8 5 W [7] (by simp)
  have C8 : ∀ W : World, Kd.C (Kd.int .u64) (W.alloc (.cells #[.int .u64 1, .int .u64 2] 58)) (some ⟨W.heap.size, 0, none⟩) 2 y8 := fun W => by rw [N8.out]; exact C_new .u64 58 W [1, 2] (by simp)
  have HC7 := Aside0.mk C7
  have HC8 := Aside0.mk C8
  clear C7 C8
  refine wp_region_held_drew (S := fun w' => Below w3.heap.size w3 w') (by kernel_rfl) (Below.refl _ _).drew (fun hHeld => ?_)
  refine wpAnyH_ready (rs := [0, 2]) (by kernel_rfl) (by simp) ?_
  refine AllReadyH.cons (o := { dst := some 9, op := Op.call { callee := Callee.value (Operand.func 30), args := #[Operand.const (Value.int IntKind.u64 300)], argTypes := #[58] }, type := 38, pos := "law.go:17", after := #[], guard := none }) rfl (fun K hK => ?_) (AllReadyH.cons (o := { dst := some 11, op := Op.buildSlice 38 2 #[(0, Operand.const (Value.int IntKind.u8 172)), (1, Operand.const (Value.int IntKind.u8 2))], type := 38, pos := "law.go:17", after := #[], guard := none }) rfl (fun K hK => ?_) AllReadyH.nil)
  · go_simp
    refine (octet_Num.calls 100 300 s2 _ A2.out).mono ?_
    rintro e w5 ⟨v5, rfl, ho5, hb5⟩
    have HB5 := Aside0.mk (below_step (show Below w3.heap.size w3 w3.drew from (Below.refl _ _).drew) hb5)
    have hcv5 : ∀ w', Below w5.heap.size w5 w' → (convert 38 9 v5).run Try.prog w' = .ok (.string (strOfNums s2)) w' := fun w' hb => own_string (P := Try.prog) Try.underlying38 Try.underlying5 Try.underlying9 (Kd.own_of_R (Kd.R_below ho5 hb))
    have HC5 := Aside0.mk hcv5
    clear ho5 hb5 hcv5
    refine hK.out _ _ ?_ (fun hHeld => ?_)
    · exact HB5.out
    clear hK K
    (try simp only [Act.put, List.setIfInBounds_toArray, List.set_cons_zero, List.set_cons_succ])
    refine held_more (S' := fun w' => Below w5.heap.size w5 w' ∧ (convert 38 9 v5).run Try.prog w' = .ok (.string (strOfNums s2)) w') (fun _ h => below_step HB5.out h.1) _ _ _ _ ?_
    have hHeld0 : (fun w' => Below w5.heap.size w5 w' ∧ (convert 38 9 v5).run Try.prog w' = .ok (.string (strOfNums s2)) w') _ := ⟨Below.refl _ _, HC5.out _ (Below.refl _ _)⟩
    clear hHeld
    have hHeld := hHeld0
    clear hHeld0
    refine wpAnyH_take (i := 1) (v := ?va1) (oi := { dst := some 10, op := Op.convert 38 9 (Operand.tmp 9), type := 9, pos := "law.go:17", after := #[{ on := 0, ground := Ground.data }], guard := none }) rfl (by kernel_rfl) (by kernel_rfl) (by kernel_rfl) (fun _ _ _ h => h) (Or.inl ⟨by rfl, ?hya1⟩) (by assumption) ?resta1
    case hya1 => (intro w hSw; (try dsimp only at hSw); go_split_ands; go_simp; try with_reducible rfl)
    (try simp only [Act.put, List.setIfInBounds_toArray, List.set_cons_zero, List.set_cons_succ])
    refine wpAnyH_ready (rs := [2]) (by kernel_rfl) (by simp) ?_
    refine AllReadyH.cons (o := { dst := some 11, op := Op.buildSlice 38 2 #[(0, Operand.const (Value.int IntKind.u8 172)), (1, Operand.const (Value.int IntKind.u8 2))], type := 38, pos := "law.go:17", after := #[], guard := none }) rfl (fun K hK => ?_) AllReadyH.nil
    go_simp
    refine hK.out _ _ ?_ (fun hHeld => ?_)
    · exact ⟨(Below.refl _ _).alloc (Nat.le_refl _) _, HC5.out _ ((Below.refl _ _).alloc (Nat.le_refl _) _)⟩
    clear hK K
    (try simp only [Act.put, List.setIfInBounds_toArray, List.set_cons_zero, List.set_cons_succ])
    refine held_more (S' := fun w' => Below (w5.alloc (.cells #[.int .u8 172, .int .u8 2] 5)).heap.size (w5.alloc (.cells #[.int .u8 172, .int .u8 2] 5)) w' ∧ (convert 38 9 (.slice (some ⟨w5.heap.size, 0, none⟩) 2 2)).run Try.prog w' = .ok (.string (strOfNums s2)) w') (fun _ h => ⟨below_step ((Below.refl _ _).alloc (Nat.le_refl _) _) h.1, HC5.out _ (below_step ((Below.refl _ _).alloc (Nat.le_refl _) _) h.1)⟩) _ _ _ _ ?_
    have hHeld0 : (fun w' => Below (w5.alloc (.cells #[.int .u8 172, .int .u8 2] 5)).heap.size (w5.alloc (.cells #[.int .u8 172, .int .u8 2] 5)) w' ∧ (convert 38 9 (.slice (some ⟨w5.heap.size, 0, none⟩) 2 2)).run Try.prog w' = .ok (.string (strOfNums s2)) w') _ := ⟨Below.refl _ _, HCL.out _ _ (Below.refl _ _)⟩
    clear hHeld
    have hHeld := hHeld0
    clear hHeld0
    refine wpAnyH_take (i := 3) (v := ?va3) (oi := { dst := some 12, op := Op.convert 38 9 (Operand.tmp 11), type := 9, pos := "law.go:17", after := #[{ on := 2, ground := Ground.data }], guard := none }) rfl (by kernel_rfl) (by kernel_rfl) (by kernel_rfl) (fun _ _ _ h => h) (Or.inl ⟨by rfl, ?hya3⟩) (by assumption) ?resta3
    case hya3 => (intro w hSw; (try dsimp only at hSw); go_split_ands; go_simp; try with_reducible rfl)
    (try simp only [Act.put, List.setIfInBounds_toArray, List.set_cons_zero, List.set_cons_succ])
    refine wpAnyH_take (i := 4) (v := ?va4) (oi := { dst := some 13, op := Op.binOp BinOp.eql 9 (Operand.tmp 10) (Operand.tmp 12) 9, type := 4, pos := "law.go:17", after := #[{ on := 1, ground := Ground.data }, { on := 3, ground := Ground.data }], guard := none }) rfl (by kernel_rfl) (by kernel_rfl) (by kernel_rfl) (fun _ _ _ h => h) (Or.inl ⟨by rfl, ?hya4⟩) (by assumption) ?resta4
    case hya4 => (intro w hSw; (try dsimp only at hSw); go_split_ands; go_simp; try with_reducible rfl)
    (try simp only [Act.put, List.setIfInBounds_toArray, List.set_cons_zero, List.set_cons_succ])
    refine wpAnyH_take (i := 5) (v := ?va5) (oi := { dst := some 14, op := Op.move (Operand.tmp 13), type := 4, pos := "law.go:17", after := #[{ on := 4, ground := Ground.data }, { on := 0, ground := Ground.chain }], guard := none }) rfl (by kernel_rfl) (by kernel_rfl) (by kernel_rfl) (fun _ _ _ h => h) (Or.inl ⟨by rfl, ?hya5⟩) (by assumption) ?resta5
    case hya5 => (intro w hSw; (try dsimp only at hSw); go_split_ands; go_simp; try with_reducible rfl)
    (try simp only [Act.put, List.setIfInBounds_toArray, List.set_cons_zero, List.set_cons_succ])
    refine wpAnyH_take (i := 6) (v := ?va6) (oi := { dst := some 15, op := Op.move (Operand.tmp 2), type := 58, pos := "law.go:17", after := #[{ on := 5, ground := Ground.guard }], guard := some (5, true) }) rfl (by kernel_rfl) (by kernel_rfl) (by kernel_rfl) (fun _ _ _ h => h) (Or.inl ⟨by rfl, ?hya6⟩) (by assumption) ?resta6
    case hya6 => (intro w hSw; (try dsimp only at hSw); go_split_ands; go_simp; try with_reducible rfl)
    (try simp only [Act.put, List.setIfInBounds_toArray, List.set_cons_zero, List.set_cons_succ])
    refine wpAnyH_take (i := 7) (v := ?va7) (oi := { dst := some 16, op := Op.binOp BinOp.eql 58 (Operand.tmp 15) (Operand.const (Value.int IntKind.u64 0)) 58, type := 4, pos := "law.go:17", after := #[{ on := 6, ground := Ground.data }, { on := 5, ground := Ground.guard }], guard := some (5, true) }) rfl (by kernel_rfl) (by kernel_rfl) (by kernel_rfl) (fun _ _ _ h => h) (Or.inl ⟨by rfl, ?hya7⟩) (by assumption) ?resta7
    case hya7 => (intro w hSw; (try dsimp only at hSw); go_split_ands; go_simp; try with_reducible rfl)
    (try simp only [Act.put, List.setIfInBounds_toArray, List.set_cons_zero, List.set_cons_succ])
    refine wpAnyH_take (i := 8) (v := ?va8) (oi := { dst := some 17, op := Op.pick (Operand.tmp 14) (Operand.tmp 16) (Operand.const (Value.bool false)), type := 4, pos := "law.go:17", after := #[{ on := 5, ground := Ground.data }, { on := 7, ground := Ground.data }], guard := none }) rfl (by kernel_rfl) (by kernel_rfl) (by kernel_rfl) (fun _ _ _ h => h) (Or.inl ⟨by rfl, ?hya8⟩) (by assumption) ?resta8
    case hya8 => (intro w hSw; (try dsimp only at hSw); go_split_ands; go_simp; try with_reducible rfl)
    (try simp only [Act.put, List.setIfInBounds_toArray, List.set_cons_zero, List.set_cons_succ])
    refine wpAnyH_take (i := 9) (v := ?va9) (oi := { dst := some 18, op := Op.move (Operand.tmp 17), type := 4, pos := "law.go:17", after := #[{ on := 8, ground := Ground.data }, { on := 5, ground := Ground.chain }], guard := none }) rfl (by kernel_rfl) (by kernel_rfl) (by kernel_rfl) (fun _ _ _ h => h) (Or.inl ⟨by rfl, ?hya9⟩) (by assumption) ?resta9
    case hya9 => (intro w hSw; (try dsimp only at hSw); go_split_ands; go_simp; try with_reducible rfl)
    (try simp only [Act.put, List.setIfInBounds_toArray, List.set_cons_zero, List.set_cons_succ])
    refine wpAnyH_take (i := 10) (v := ?va10) (oi := { dst := some 19, op := Op.move (Operand.tmp 1), type := 64, pos := "law.go:17", after := #[{ on := 9, ground := Ground.guard }], guard := some (9, true) }) rfl (by kernel_rfl) (by kernel_rfl) (by kernel_rfl) (fun _ _ _ h => h) (Or.inl ⟨by rfl, ?hya10⟩) (by assumption) ?resta10
    case hya10 => (intro w hSw; (try dsimp only at hSw); go_split_ands; go_simp; try with_reducible rfl)
    (try simp only [Act.put, List.setIfInBounds_toArray, List.set_cons_zero, List.set_cons_succ])
    have hHeld1 := hHeld
    refine wpAnyH_ready (rs := [11]) (by kernel_rfl) (by simp) ?_
    refine AllReadyH.cons (o := { dst := some 20, op := Op.call { callee := Callee.value (Operand.func 54), args := #[Operand.tmp 19], argTypes := #[64] }, type := 24, pos := "law.go:17", after := #[{ on := 10, ground := Ground.data }, { on := 9, ground := Ground.chain }, { on := 9, ground := Ground.guard }], guard := some (9, true) }) rfl (fun K hK => ?_) AllReadyH.nil
    go_simp
    refine (err_of g [] 3 _ (HR3.out.below (show Below w3.heap.size w3 (w5.alloc (.cells #[.int .u8 172, .int .u8 2] 5)) from below_step HB5.out ((Below.refl _ _).alloc (Nat.le_refl _) _)))).mono ?_
    rintro e w' ⟨rfl, rfl⟩
    refine hK.out _ _ ?_ (fun hHeld => ?_)
    · exact hHeld1
    clear hK K
    (try simp only [Act.put, List.setIfInBounds_toArray, List.set_cons_zero, List.set_cons_succ])
    clear hHeld1
    refine wpAnyH_take (i := 12) (v := ?va12) (oi := { dst := some 21, op := Op.binOp BinOp.eql 24 (Operand.tmp 20) (Operand.const (Value.int IntKind.i64 3)) 24, type := 4, pos := "law.go:17", after := #[{ on := 11, ground := Ground.data }, { on := 9, ground := Ground.guard }], guard := some (9, true) }) rfl (by kernel_rfl) (by kernel_rfl) (by kernel_rfl) (fun _ _ _ h => h) (Or.inl ⟨by rfl, ?hya12⟩) (by assumption) ?resta12
    case hya12 => (intro w hSw; (try dsimp only at hSw); go_split_ands; go_simp; try with_reducible rfl)
    (try simp only [Act.put, List.setIfInBounds_toArray, List.set_cons_zero, List.set_cons_succ])
    refine wpAnyH_take (i := 13) (v := ?va13) (oi := { dst := some 22, op := Op.pick (Operand.tmp 18) (Operand.tmp 21) (Operand.const (Value.bool false)), type := 4, pos := "law.go:17", after := #[{ on := 9, ground := Ground.data }, { on := 12, ground := Ground.data }], guard := none }) rfl (by kernel_rfl) (by kernel_rfl) (by kernel_rfl) (fun _ _ _ h => h) (Or.inl ⟨by rfl, ?hya13⟩) (by assumption) ?resta13
    case hya13 => (intro w hSw; (try dsimp only at hSw); go_split_ands; go_simp; try with_reducible rfl)
    (try simp only [Act.put, List.setIfInBounds_toArray, List.set_cons_zero, List.set_cons_succ])
    refine wpAnyH_take (i := 14) (v := ?va14) (oi := { dst := some 23, op := Op.move (Operand.tmp 22), type := 4, pos := "law.go:17", after := #[{ on := 13, ground := Ground.data }, { on := 11, ground := Ground.chain }], guard := none }) rfl (by kernel_rfl) (by kernel_rfl) (by kernel_rfl) (fun _ _ _ h => h) (Or.inl ⟨by rfl, ?hya14⟩) (by assumption) ?resta14
    case hya14 => (intro w hSw; (try dsimp only at hSw); go_split_ands; go_simp; try with_reducible rfl)
    (try simp only [Act.put, List.setIfInBounds_toArray, List.set_cons_zero, List.set_cons_succ])
    refine held_more (S' := fun w' => Below (w5.alloc (.cells #[.int .u8 172, .int .u8 2] 5)).heap.size (w5.alloc (.cells #[.int .u8 172, .int .u8 2] 5)) w') (fun _ h => ⟨h, HCL.out _ _ h⟩) _ _ _ _ ?_
    have hHeld0 : (fun w' => Below (w5.alloc (.cells #[.int .u8 172, .int .u8 2] 5)).heap.size (w5.alloc (.cells #[.int .u8 172, .int .u8 2] 5)) w') _ := Below.refl _ _
    clear hHeld
    have hHeld := hHeld0
    clear hHeld0
    refine wpAnyH_ready (rs := [15, 16]) (by kernel_rfl) (by simp) ?_
    refine AllReadyH.cons (o := { dst := some 24, op := Op.buildSlice 38 1 #[(0, Operand.const (Value.int IntKind.u8 7))], type := 38, pos := "law.go:17", after := #[{ on := 14, ground := Ground.guard }], guard := some (14, true) }) rfl (fun K hK => ?_) (AllReadyH.cons (o := { dst := some 25, op := Op.buildSlice 57 2 #[(0, Operand.const (Value.int IntKind.u64 1)), (1, Operand.const (Value.int IntKind.u64 2))], type := 57, pos := "law.go:17", after := #[{ on := 14, ground := Ground.guard }], guard := some (14, true) }) rfl (fun K hK => ?_) AllReadyH.nil)
    · go_simp
      refine hK.out _ _ ?_ (fun hHeld => ?_)
      · exact (Below.refl _ _).alloc (Nat.le_refl _) _
      clear hK K
      (try simp only [Act.put, List.setIfInBounds_toArray, List.set_cons_zero, List.set_cons_succ])
      refine wpAnyH_ready (rs := [16]) (by kernel_rfl) (by simp) ?_
      refine AllReadyH.cons (o := { dst := some 25, op := Op.buildSlice 57 2 #[(0, Operand.const (Value.int IntKind.u64 1)), (1, Operand.const (Value.int IntKind.u64 2))], type := 57, pos := "law.go:17", after := #[{ on := 14, ground := Ground.guard }], guard := some (14, true) }) rfl (fun K hK => ?_) AllReadyH.nil
      go_simp
      refine hK.out _ _ ?_ (fun hHeld => ?_)
      · exact ((Below.refl _ _).alloc (Nat.le_refl _) _).alloc (by simp) _
      clear hK K
      (try simp only [Act.put, List.setIfInBounds_toArray, List.set_cons_zero, List.set_cons_succ])
      refine wpAnyH_ready (rs := [17]) (by kernel_rfl) (by simp) ?_
      refine AllReadyH.cons (o := { dst := some 26, op := Op.call { callee := Callee.value (Operand.func 32), args := #[Operand.tmp 24, Operand.tmp 25], argTypes := #[38, 57] }, type := 38, pos := "law.go:17", after := #[{ on := 15, ground := Ground.data }, { on := 16, ground := Ground.data }, { on := 14, ground := Ground.chain }, { on := 14, ground := Ground.guard }], guard := some (14, true) }) rfl (fun K hK => ?_) AllReadyH.nil
      have hc7 := (Kd.C_alloc (HC7.out (w5.alloc (.cells #[.int .u8 172, .int .u8 2] 5))) (.cells #[.int .u64 1, .int .u64 2] 58))
      have hc8 := (show Kd.C (Kd.int .u64) (((w5.alloc (.cells #[.int .u8 172, .int .u8 2] 5)).alloc (.cells #[.int .u8 7] 5)).alloc (.cells #[.int .u64 1, .int .u64 2] 58)) (some ⟨((w5.alloc (.cells #[.int .u8 172, .int .u8 2] 5)).alloc (.cells #[.int .u8 7] 5)).heap.size, 0, none⟩) 2 y8 from HC8.out _)
      simp only [World.size_alloc] at hc7 hc8
      go_simp
      with_reducible refine (CS32.out _ _ _ hc7 hc8).mono ?_
      clear hc7 hc8
      rintro e w9 ⟨A9, c9, rfl, hb9⟩
      have HB9 := Aside0.mk (below_step (show Below (w5.alloc (.cells #[.int .u8 172, .int .u8 2] 5)).heap.size (w5.alloc (.cells #[.int .u8 172, .int .u8 2] 5)) (((w5.alloc (.cells #[.int .u8 172, .int .u8 2] 5)).alloc (.cells #[.int .u8 7] 5)).alloc (.cells #[.int .u64 1, .int .u64 2] 58)) from ((Below.refl _ _).alloc (Nat.le_refl _) _).alloc (by simp) _) hb9)
      clear hb9
      refine hK.out _ _ ?_ (fun hHeld => ?_)
      · exact HB9.out
      clear hK K
      (try simp only [Act.put, List.setIfInBounds_toArray, List.set_cons_zero, List.set_cons_succ])
      refine wpAnyH_take (i := 18) (v := ?vap18) (oi := { dst := some 27, op := Op.call { callee := Callee.builtin Builtin.len, args := #[Operand.tmp 26], argTypes := #[38] }, type := 3, pos := "law.go:17", after := #[{ on := 17, ground := Ground.data }, { on := 14, ground := Ground.guard }], guard := some (14, true) }) rfl (by kernel_rfl) (by kernel_rfl) (by kernel_rfl) (fun _ _ _ h => h) (Or.inl ⟨by rfl, ?hyap18⟩) (by assumption) ?restap18
      case hyap18 => (intro w hSw; (try dsimp only at hSw); go_split_ands; go_simp; try with_reducible rfl)
      (try simp only [Act.put, List.setIfInBounds_toArray, List.set_cons_zero, List.set_cons_succ])
      refine wpAnyH_take (i := 19) (v := ?vap19) (oi := { dst := some 28, op := Op.binOp BinOp.eql 3 (Operand.tmp 27) (Operand.const (Value.int IntKind.i64 3)) 3, type := 4, pos := "law.go:17", after := #[{ on := 18, ground := Ground.data }, { on := 14, ground := Ground.guard }], guard := some (14, true) }) rfl (by kernel_rfl) (by kernel_rfl) (by kernel_rfl) (fun _ _ _ h => h) (Or.inl ⟨by rfl, ?hyap19⟩) (by assumption) ?restap19
      case hyap19 => (intro w hSw; (try dsimp only at hSw); go_split_ands; go_simp; try with_reducible rfl)
      (try simp only [Act.put, List.setIfInBounds_toArray, List.set_cons_zero, List.set_cons_succ])
      refine wpAnyH_take (i := 20) (v := ?vap20) (oi := { dst := some 29, op := Op.pick (Operand.tmp 23) (Operand.tmp 28) (Operand.const (Value.bool false)), type := 4, pos := "law.go:17", after := #[{ on := 14, ground := Ground.data }, { on := 19, ground := Ground.data }], guard := none }) rfl (by kernel_rfl) (by kernel_rfl) (by kernel_rfl) (fun _ _ _ h => h) (Or.inl ⟨by rfl, ?hyap20⟩) (by assumption) ?restap20
      case hyap20 => (intro w hSw; (try dsimp only at hSw); go_split_ands; go_simp; try with_reducible rfl)
      (try simp only [Act.put, List.setIfInBounds_toArray, List.set_cons_zero, List.set_cons_succ])
      refine wpAnyH_take (i := 21) (v := ?vap21) (oi := { dst := some 0, op := Op.assign (Operand.tmp 29), type := 4, pos := "law.go:17", after := #[{ on := 20, ground := Ground.data }, { on := 17, ground := Ground.chain }, { on := 0, ground := Ground.phase }, { on := 1, ground := Ground.phase }, { on := 2, ground := Ground.phase }, { on := 3, ground := Ground.phase }, { on := 4, ground := Ground.phase }, { on := 5, ground := Ground.phase }, { on := 6, ground := Ground.phase }, { on := 7, ground := Ground.phase }, { on := 8, ground := Ground.phase }, { on := 9, ground := Ground.phase }, { on := 10, ground := Ground.phase }, { on := 11, ground := Ground.phase }, { on := 12, ground := Ground.phase }, { on := 13, ground := Ground.phase }, { on := 14, ground := Ground.phase }, { on := 15, ground := Ground.phase }, { on := 16, ground := Ground.phase }, { on := 17, ground := Ground.phase }, { on := 18, ground := Ground.phase }, { on := 19, ground := Ground.phase }, { on := 20, ground := Ground.phase }], guard := none }) rfl (by kernel_rfl) (by kernel_rfl) (by kernel_rfl) (fun _ _ _ h => h) (Or.inl ⟨by rfl, ?hyap21⟩) (by assumption) ?restap21
      case hyap21 => (intro w hSw; (try dsimp only at hSw); go_split_ands; go_simp; try with_reducible rfl)
      (try simp only [Act.put, List.setIfInBounds_toArray, List.set_cons_zero, List.set_cons_succ])
      refine wpAnyH_done (by kernel_rfl) ?_ _
      go_wp2
      go_ret
      exact ⟨rfl, below_step HB3.out (below_step (show Below w3.heap.size w3 (w5.alloc (.cells #[.int .u8 172, .int .u8 2] 5)) from below_step HB5.out ((Below.refl _ _).alloc (Nat.le_refl _) _)) HB9.out)⟩
    · go_simp
      refine hK.out _ _ ?_ (fun hHeld => ?_)
      · exact (Below.refl _ _).alloc (Nat.le_refl _) _
      clear hK K
      (try simp only [Act.put, List.setIfInBounds_toArray, List.set_cons_zero, List.set_cons_succ])
      refine wpAnyH_ready (rs := [15]) (by kernel_rfl) (by simp) ?_
      refine AllReadyH.cons (o := { dst := some 24, op := Op.buildSlice 38 1 #[(0, Operand.const (Value.int IntKind.u8 7))], type := 38, pos := "law.go:17", after := #[{ on := 14, ground := Ground.guard }], guard := some (14, true) }) rfl (fun K hK => ?_) AllReadyH.nil
      go_simp
      refine hK.out _ _ ?_ (fun hHeld => ?_)
      · exact ((Below.refl _ _).alloc (Nat.le_refl _) _).alloc (by simp) _
      clear hK K
      (try simp only [Act.put, List.setIfInBounds_toArray, List.set_cons_zero, List.set_cons_succ])
      refine wpAnyH_ready (rs := [17]) (by kernel_rfl) (by simp) ?_
      refine AllReadyH.cons (o := { dst := some 26, op := Op.call { callee := Callee.value (Operand.func 32), args := #[Operand.tmp 24, Operand.tmp 25], argTypes := #[38, 57] }, type := 38, pos := "law.go:17", after := #[{ on := 15, ground := Ground.data }, { on := 16, ground := Ground.data }, { on := 14, ground := Ground.chain }, { on := 14, ground := Ground.guard }], guard := some (14, true) }) rfl (fun K hK => ?_) AllReadyH.nil
      have hc7 := (show Kd.C (Kd.int .u8) (((w5.alloc (.cells #[.int .u8 172, .int .u8 2] 5)).alloc (.cells #[.int .u64 1, .int .u64 2] 58)).alloc (.cells #[.int .u8 7] 5)) (some ⟨((w5.alloc (.cells #[.int .u8 172, .int .u8 2] 5)).alloc (.cells #[.int .u64 1, .int .u64 2] 58)).heap.size, 0, none⟩) 1 y7 from HC7.out _)
      have hc8 := (Kd.C_alloc (HC8.out (w5.alloc (.cells #[.int .u8 172, .int .u8 2] 5))) (.cells #[.int .u8 7] 5))
      simp only [World.size_alloc] at hc7 hc8
      go_simp
      with_reducible refine (CS32.out _ _ _ hc7 hc8).mono ?_
      clear hc7 hc8
      rintro e w9 ⟨A9, c9, rfl, hb9⟩
      have HB9 := Aside0.mk (below_step (show Below (w5.alloc (.cells #[.int .u8 172, .int .u8 2] 5)).heap.size (w5.alloc (.cells #[.int .u8 172, .int .u8 2] 5)) (((w5.alloc (.cells #[.int .u8 172, .int .u8 2] 5)).alloc (.cells #[.int .u64 1, .int .u64 2] 58)).alloc (.cells #[.int .u8 7] 5)) from ((Below.refl _ _).alloc (Nat.le_refl _) _).alloc (by simp) _) hb9)
      clear hb9
      refine hK.out _ _ ?_ (fun hHeld => ?_)
      · exact HB9.out
      clear hK K
      (try simp only [Act.put, List.setIfInBounds_toArray, List.set_cons_zero, List.set_cons_succ])
      refine wpAnyH_take (i := 18) (v := ?vaq18) (oi := { dst := some 27, op := Op.call { callee := Callee.builtin Builtin.len, args := #[Operand.tmp 26], argTypes := #[38] }, type := 3, pos := "law.go:17", after := #[{ on := 17, ground := Ground.data }, { on := 14, ground := Ground.guard }], guard := some (14, true) }) rfl (by kernel_rfl) (by kernel_rfl) (by kernel_rfl) (fun _ _ _ h => h) (Or.inl ⟨by rfl, ?hyaq18⟩) (by assumption) ?restaq18
      case hyaq18 => (intro w hSw; (try dsimp only at hSw); go_split_ands; go_simp; try with_reducible rfl)
      (try simp only [Act.put, List.setIfInBounds_toArray, List.set_cons_zero, List.set_cons_succ])
      refine wpAnyH_take (i := 19) (v := ?vaq19) (oi := { dst := some 28, op := Op.binOp BinOp.eql 3 (Operand.tmp 27) (Operand.const (Value.int IntKind.i64 3)) 3, type := 4, pos := "law.go:17", after := #[{ on := 18, ground := Ground.data }, { on := 14, ground := Ground.guard }], guard := some (14, true) }) rfl (by kernel_rfl) (by kernel_rfl) (by kernel_rfl) (fun _ _ _ h => h) (Or.inl ⟨by rfl, ?hyaq19⟩) (by assumption) ?restaq19
      case hyaq19 => (intro w hSw; (try dsimp only at hSw); go_split_ands; go_simp; try with_reducible rfl)
      (try simp only [Act.put, List.setIfInBounds_toArray, List.set_cons_zero, List.set_cons_succ])
      refine wpAnyH_take (i := 20) (v := ?vaq20) (oi := { dst := some 29, op := Op.pick (Operand.tmp 23) (Operand.tmp 28) (Operand.const (Value.bool false)), type := 4, pos := "law.go:17", after := #[{ on := 14, ground := Ground.data }, { on := 19, ground := Ground.data }], guard := none }) rfl (by kernel_rfl) (by kernel_rfl) (by kernel_rfl) (fun _ _ _ h => h) (Or.inl ⟨by rfl, ?hyaq20⟩) (by assumption) ?restaq20
      case hyaq20 => (intro w hSw; (try dsimp only at hSw); go_split_ands; go_simp; try with_reducible rfl)
      (try simp only [Act.put, List.setIfInBounds_toArray, List.set_cons_zero, List.set_cons_succ])
      refine wpAnyH_take (i := 21) (v := ?vaq21) (oi := { dst := some 0, op := Op.assign (Operand.tmp 29), type := 4, pos := "law.go:17", after := #[{ on := 20, ground := Ground.data }, { on := 17, ground := Ground.chain }, { on := 0, ground := Ground.phase }, { on := 1, ground := Ground.phase }, { on := 2, ground := Ground.phase }, { on := 3, ground := Ground.phase }, { on := 4, ground := Ground.phase }, { on := 5, ground := Ground.phase }, { on := 6, ground := Ground.phase }, { on := 7, ground := Ground.phase }, { on := 8, ground := Ground.phase }, { on := 9, ground := Ground.phase }, { on := 10, ground := Ground.phase }, { on := 11, ground := Ground.phase }, { on := 12, ground := Ground.phase }, { on := 13, ground := Ground.phase }, { on := 14, ground := Ground.phase }, { on := 15, ground := Ground.phase }, { on := 16, ground := Ground.phase }, { on := 17, ground := Ground.phase }, { on := 18, ground := Ground.phase }, { on := 19, ground := Ground.phase }, { on := 20, ground := Ground.phase }], guard := none }) rfl (by kernel_rfl) (by kernel_rfl) (by kernel_rfl) (fun _ _ _ h => h) (Or.inl ⟨by rfl, ?hyaq21⟩) (by assumption) ?restaq21
      case hyaq21 => (intro w hSw; (try dsimp only at hSw); go_split_ands; go_simp; try with_reducible rfl)
      (try simp only [Act.put, List.setIfInBounds_toArray, List.set_cons_zero, List.set_cons_succ])
      refine wpAnyH_done (by kernel_rfl) ?_ _
      go_wp2
      go_ret
      exact ⟨rfl, below_step HB3.out (below_step (show Below w3.heap.size w3 (w5.alloc (.cells #[.int .u8 172, .int .u8 2] 5)) from below_step HB5.out ((Below.refl _ _).alloc (Nat.le_refl _) _)) HB9.out)⟩
  · go_simp
    refine hK.out _ _ ?_ (fun hHeld => ?_)
    · exact ((Below.refl _ _).alloc (Nat.le_refl _) _).drew
    clear hK K
    (try simp only [Act.put, List.setIfInBounds_toArray, List.set_cons_zero, List.set_cons_succ])
    refine held_more (S' := fun w' => Below ((w3.alloc (.cells #[.int .u8 172, .int .u8 2] 5)).drew).heap.size ((w3.alloc (.cells #[.int .u8 172, .int .u8 2] 5)).drew) w' ∧ (convert 38 9 (.slice (some ⟨w3.heap.size, 0, none⟩) 2 2)).run Try.prog w' = .ok (.string (strOfNums s2)) w') (fun _ h => below_step (((Below.refl _ _).alloc (Nat.le_refl _) _).drew) h.1) _ _ _ _ ?_
    have hHeld0 : (fun w' => Below ((w3.alloc (.cells #[.int .u8 172, .int .u8 2] 5)).drew).heap.size ((w3.alloc (.cells #[.int .u8 172, .int .u8 2] 5)).drew) w' ∧ (convert 38 9 (.slice (some ⟨w3.heap.size, 0, none⟩) 2 2)).run Try.prog w' = .ok (.string (strOfNums s2)) w') _ := ⟨Below.refl _ _, HCL.out w3 _ ((Below.refl _ _).drew)⟩
    clear hHeld
    have hHeld := hHeld0
    clear hHeld0
    refine wpAnyH_take (i := 3) (v := ?vb3) (oi := { dst := some 12, op := Op.convert 38 9 (Operand.tmp 11), type := 9, pos := "law.go:17", after := #[{ on := 2, ground := Ground.data }], guard := none }) rfl (by kernel_rfl) (by kernel_rfl) (by kernel_rfl) (fun _ _ _ h => h) (Or.inl ⟨by rfl, ?hyb3⟩) (by assumption) ?restb3
    case hyb3 => (intro w hSw; (try dsimp only at hSw); go_split_ands; go_simp; try with_reducible rfl)
    (try simp only [Act.put, List.setIfInBounds_toArray, List.set_cons_zero, List.set_cons_succ])
    refine wpAnyH_ready (rs := [0]) (by kernel_rfl) (by simp) ?_
    refine AllReadyH.cons (o := { dst := some 9, op := Op.call { callee := Callee.value (Operand.func 30), args := #[Operand.const (Value.int IntKind.u64 300)], argTypes := #[58] }, type := 38, pos := "law.go:17", after := #[], guard := none }) rfl (fun K hK => ?_) AllReadyH.nil
    go_simp
    refine (octet_Num.calls 100 300 s2 _ A2.out).mono ?_
    rintro e w5 ⟨v5, rfl, ho5, hb5⟩
    have HB5 := Aside0.mk (show Below ((w3.alloc (.cells #[.int .u8 172, .int .u8 2] 5)).drew).heap.size ((w3.alloc (.cells #[.int .u8 172, .int .u8 2] 5)).drew) w5 from hb5)
    have hcv5 : ∀ w', Below w5.heap.size w5 w' → (convert 38 9 v5).run Try.prog w' = .ok (.string (strOfNums s2)) w' := fun w' hb => own_string (P := Try.prog) Try.underlying38 Try.underlying5 Try.underlying9 (Kd.own_of_R (Kd.R_below ho5 hb))
    have HC5 := Aside0.mk hcv5
    clear ho5 hb5 hcv5
    refine hK.out _ _ ?_ (fun hHeld => ?_)
    · exact ⟨HB5.out, HCL.out w3 _ (show Below (w3.alloc (.cells #[.int .u8 172, .int .u8 2] 5)).heap.size (w3.alloc (.cells #[.int .u8 172, .int .u8 2] 5)) w5 from ⟨HB5.out.os, HB5.out.tape, HB5.out.output, HB5.out.size, HB5.out.block⟩)⟩
    clear hK K
    (try simp only [Act.put, List.setIfInBounds_toArray, List.set_cons_zero, List.set_cons_succ])
    refine held_more (S' := fun w' => Below w5.heap.size w5 w' ∧ (convert 38 9 v5).run Try.prog w' = .ok (.string (strOfNums s2)) w') (fun _ h => ⟨below_step HB5.out h.1, HCL.out w3 _ (below_step (show Below (w3.alloc (.cells #[.int .u8 172, .int .u8 2] 5)).heap.size (w3.alloc (.cells #[.int .u8 172, .int .u8 2] 5)) w5 from ⟨HB5.out.os, HB5.out.tape, HB5.out.output, HB5.out.size, HB5.out.block⟩) h.1)⟩) _ _ _ _ ?_
    have hHeld0 : (fun w' => Below w5.heap.size w5 w' ∧ (convert 38 9 v5).run Try.prog w' = .ok (.string (strOfNums s2)) w') _ := ⟨Below.refl _ _, HC5.out _ (Below.refl _ _)⟩
    clear hHeld
    have hHeld := hHeld0
    clear hHeld0
    refine wpAnyH_take (i := 1) (v := ?vb1) (oi := { dst := some 10, op := Op.convert 38 9 (Operand.tmp 9), type := 9, pos := "law.go:17", after := #[{ on := 0, ground := Ground.data }], guard := none }) rfl (by kernel_rfl) (by kernel_rfl) (by kernel_rfl) (fun _ _ _ h => h) (Or.inl ⟨by rfl, ?hyb1⟩) (by assumption) ?restb1
    case hyb1 => (intro w hSw; (try dsimp only at hSw); go_split_ands; go_simp; try with_reducible rfl)
    (try simp only [Act.put, List.setIfInBounds_toArray, List.set_cons_zero, List.set_cons_succ])
    refine wpAnyH_take (i := 4) (v := ?vb4) (oi := { dst := some 13, op := Op.binOp BinOp.eql 9 (Operand.tmp 10) (Operand.tmp 12) 9, type := 4, pos := "law.go:17", after := #[{ on := 1, ground := Ground.data }, { on := 3, ground := Ground.data }], guard := none }) rfl (by kernel_rfl) (by kernel_rfl) (by kernel_rfl) (fun _ _ _ h => h) (Or.inl ⟨by rfl, ?hyb4⟩) (by assumption) ?restb4
    case hyb4 => (intro w hSw; (try dsimp only at hSw); go_split_ands; go_simp; try with_reducible rfl)
    (try simp only [Act.put, List.setIfInBounds_toArray, List.set_cons_zero, List.set_cons_succ])
    refine wpAnyH_take (i := 5) (v := ?vb5) (oi := { dst := some 14, op := Op.move (Operand.tmp 13), type := 4, pos := "law.go:17", after := #[{ on := 4, ground := Ground.data }, { on := 0, ground := Ground.chain }], guard := none }) rfl (by kernel_rfl) (by kernel_rfl) (by kernel_rfl) (fun _ _ _ h => h) (Or.inl ⟨by rfl, ?hyb5⟩) (by assumption) ?restb5
    case hyb5 => (intro w hSw; (try dsimp only at hSw); go_split_ands; go_simp; try with_reducible rfl)
    (try simp only [Act.put, List.setIfInBounds_toArray, List.set_cons_zero, List.set_cons_succ])
    refine wpAnyH_take (i := 6) (v := ?vb6) (oi := { dst := some 15, op := Op.move (Operand.tmp 2), type := 58, pos := "law.go:17", after := #[{ on := 5, ground := Ground.guard }], guard := some (5, true) }) rfl (by kernel_rfl) (by kernel_rfl) (by kernel_rfl) (fun _ _ _ h => h) (Or.inl ⟨by rfl, ?hyb6⟩) (by assumption) ?restb6
    case hyb6 => (intro w hSw; (try dsimp only at hSw); go_split_ands; go_simp; try with_reducible rfl)
    (try simp only [Act.put, List.setIfInBounds_toArray, List.set_cons_zero, List.set_cons_succ])
    refine wpAnyH_take (i := 7) (v := ?vb7) (oi := { dst := some 16, op := Op.binOp BinOp.eql 58 (Operand.tmp 15) (Operand.const (Value.int IntKind.u64 0)) 58, type := 4, pos := "law.go:17", after := #[{ on := 6, ground := Ground.data }, { on := 5, ground := Ground.guard }], guard := some (5, true) }) rfl (by kernel_rfl) (by kernel_rfl) (by kernel_rfl) (fun _ _ _ h => h) (Or.inl ⟨by rfl, ?hyb7⟩) (by assumption) ?restb7
    case hyb7 => (intro w hSw; (try dsimp only at hSw); go_split_ands; go_simp; try with_reducible rfl)
    (try simp only [Act.put, List.setIfInBounds_toArray, List.set_cons_zero, List.set_cons_succ])
    refine wpAnyH_take (i := 8) (v := ?vb8) (oi := { dst := some 17, op := Op.pick (Operand.tmp 14) (Operand.tmp 16) (Operand.const (Value.bool false)), type := 4, pos := "law.go:17", after := #[{ on := 5, ground := Ground.data }, { on := 7, ground := Ground.data }], guard := none }) rfl (by kernel_rfl) (by kernel_rfl) (by kernel_rfl) (fun _ _ _ h => h) (Or.inl ⟨by rfl, ?hyb8⟩) (by assumption) ?restb8
    case hyb8 => (intro w hSw; (try dsimp only at hSw); go_split_ands; go_simp; try with_reducible rfl)
    (try simp only [Act.put, List.setIfInBounds_toArray, List.set_cons_zero, List.set_cons_succ])
    refine wpAnyH_take (i := 9) (v := ?vb9) (oi := { dst := some 18, op := Op.move (Operand.tmp 17), type := 4, pos := "law.go:17", after := #[{ on := 8, ground := Ground.data }, { on := 5, ground := Ground.chain }], guard := none }) rfl (by kernel_rfl) (by kernel_rfl) (by kernel_rfl) (fun _ _ _ h => h) (Or.inl ⟨by rfl, ?hyb9⟩) (by assumption) ?restb9
    case hyb9 => (intro w hSw; (try dsimp only at hSw); go_split_ands; go_simp; try with_reducible rfl)
    (try simp only [Act.put, List.setIfInBounds_toArray, List.set_cons_zero, List.set_cons_succ])
    refine wpAnyH_take (i := 10) (v := ?vb10) (oi := { dst := some 19, op := Op.move (Operand.tmp 1), type := 64, pos := "law.go:17", after := #[{ on := 9, ground := Ground.guard }], guard := some (9, true) }) rfl (by kernel_rfl) (by kernel_rfl) (by kernel_rfl) (fun _ _ _ h => h) (Or.inl ⟨by rfl, ?hyb10⟩) (by assumption) ?restb10
    case hyb10 => (intro w hSw; (try dsimp only at hSw); go_split_ands; go_simp; try with_reducible rfl)
    (try simp only [Act.put, List.setIfInBounds_toArray, List.set_cons_zero, List.set_cons_succ])
    have hHeld1 := hHeld
    refine wpAnyH_ready (rs := [11]) (by kernel_rfl) (by simp) ?_
    refine AllReadyH.cons (o := { dst := some 20, op := Op.call { callee := Callee.value (Operand.func 54), args := #[Operand.tmp 19], argTypes := #[64] }, type := 24, pos := "law.go:17", after := #[{ on := 10, ground := Ground.data }, { on := 9, ground := Ground.chain }, { on := 9, ground := Ground.guard }], guard := some (9, true) }) rfl (fun K hK => ?_) AllReadyH.nil
    go_simp
    refine (err_of g [] 3 _ (HR3.out.below (show Below w3.heap.size w3 w5 from below_step ((Below.refl _ _).alloc (Nat.le_refl _) _) (show Below (w3.alloc (.cells #[.int .u8 172, .int .u8 2] 5)).heap.size (w3.alloc (.cells #[.int .u8 172, .int .u8 2] 5)) w5 from ⟨HB5.out.os, HB5.out.tape, HB5.out.output, HB5.out.size, HB5.out.block⟩)))).mono ?_
    rintro e w' ⟨rfl, rfl⟩
    refine hK.out _ _ ?_ (fun hHeld => ?_)
    · exact hHeld1
    clear hK K
    (try simp only [Act.put, List.setIfInBounds_toArray, List.set_cons_zero, List.set_cons_succ])
    clear hHeld1
    refine wpAnyH_take (i := 12) (v := ?vb12) (oi := { dst := some 21, op := Op.binOp BinOp.eql 24 (Operand.tmp 20) (Operand.const (Value.int IntKind.i64 3)) 24, type := 4, pos := "law.go:17", after := #[{ on := 11, ground := Ground.data }, { on := 9, ground := Ground.guard }], guard := some (9, true) }) rfl (by kernel_rfl) (by kernel_rfl) (by kernel_rfl) (fun _ _ _ h => h) (Or.inl ⟨by rfl, ?hyb12⟩) (by assumption) ?restb12
    case hyb12 => (intro w hSw; (try dsimp only at hSw); go_split_ands; go_simp; try with_reducible rfl)
    (try simp only [Act.put, List.setIfInBounds_toArray, List.set_cons_zero, List.set_cons_succ])
    refine wpAnyH_take (i := 13) (v := ?vb13) (oi := { dst := some 22, op := Op.pick (Operand.tmp 18) (Operand.tmp 21) (Operand.const (Value.bool false)), type := 4, pos := "law.go:17", after := #[{ on := 9, ground := Ground.data }, { on := 12, ground := Ground.data }], guard := none }) rfl (by kernel_rfl) (by kernel_rfl) (by kernel_rfl) (fun _ _ _ h => h) (Or.inl ⟨by rfl, ?hyb13⟩) (by assumption) ?restb13
    case hyb13 => (intro w hSw; (try dsimp only at hSw); go_split_ands; go_simp; try with_reducible rfl)
    (try simp only [Act.put, List.setIfInBounds_toArray, List.set_cons_zero, List.set_cons_succ])
    refine wpAnyH_take (i := 14) (v := ?vb14) (oi := { dst := some 23, op := Op.move (Operand.tmp 22), type := 4, pos := "law.go:17", after := #[{ on := 13, ground := Ground.data }, { on := 11, ground := Ground.chain }], guard := none }) rfl (by kernel_rfl) (by kernel_rfl) (by kernel_rfl) (fun _ _ _ h => h) (Or.inl ⟨by rfl, ?hyb14⟩) (by assumption) ?restb14
    case hyb14 => (intro w hSw; (try dsimp only at hSw); go_split_ands; go_simp; try with_reducible rfl)
    (try simp only [Act.put, List.setIfInBounds_toArray, List.set_cons_zero, List.set_cons_succ])
    refine held_more (S' := fun w' => Below w5.heap.size w5 w') (fun _ h => ⟨h, HC5.out _ h⟩) _ _ _ _ ?_
    have hHeld0 : (fun w' => Below w5.heap.size w5 w') _ := Below.refl _ _
    clear hHeld
    have hHeld := hHeld0
    clear hHeld0
    refine wpAnyH_ready (rs := [15, 16]) (by kernel_rfl) (by simp) ?_
    refine AllReadyH.cons (o := { dst := some 24, op := Op.buildSlice 38 1 #[(0, Operand.const (Value.int IntKind.u8 7))], type := 38, pos := "law.go:17", after := #[{ on := 14, ground := Ground.guard }], guard := some (14, true) }) rfl (fun K hK => ?_) (AllReadyH.cons (o := { dst := some 25, op := Op.buildSlice 57 2 #[(0, Operand.const (Value.int IntKind.u64 1)), (1, Operand.const (Value.int IntKind.u64 2))], type := 57, pos := "law.go:17", after := #[{ on := 14, ground := Ground.guard }], guard := some (14, true) }) rfl (fun K hK => ?_) AllReadyH.nil)
    · go_simp
      refine hK.out _ _ ?_ (fun hHeld => ?_)
      · exact (Below.refl _ _).alloc (Nat.le_refl _) _
      clear hK K
      (try simp only [Act.put, List.setIfInBounds_toArray, List.set_cons_zero, List.set_cons_succ])
      refine wpAnyH_ready (rs := [16]) (by kernel_rfl) (by simp) ?_
      refine AllReadyH.cons (o := { dst := some 25, op := Op.buildSlice 57 2 #[(0, Operand.const (Value.int IntKind.u64 1)), (1, Operand.const (Value.int IntKind.u64 2))], type := 57, pos := "law.go:17", after := #[{ on := 14, ground := Ground.guard }], guard := some (14, true) }) rfl (fun K hK => ?_) AllReadyH.nil
      go_simp
      refine hK.out _ _ ?_ (fun hHeld => ?_)
      · exact ((Below.refl _ _).alloc (Nat.le_refl _) _).alloc (by simp) _
      clear hK K
      (try simp only [Act.put, List.setIfInBounds_toArray, List.set_cons_zero, List.set_cons_succ])
      refine wpAnyH_ready (rs := [17]) (by kernel_rfl) (by simp) ?_
      refine AllReadyH.cons (o := { dst := some 26, op := Op.call { callee := Callee.value (Operand.func 32), args := #[Operand.tmp 24, Operand.tmp 25], argTypes := #[38, 57] }, type := 38, pos := "law.go:17", after := #[{ on := 15, ground := Ground.data }, { on := 16, ground := Ground.data }, { on := 14, ground := Ground.chain }, { on := 14, ground := Ground.guard }], guard := some (14, true) }) rfl (fun K hK => ?_) AllReadyH.nil
      have hc7 := (Kd.C_alloc (HC7.out w5) (.cells #[.int .u64 1, .int .u64 2] 58))
      have hc8 := (show Kd.C (Kd.int .u64) ((w5.alloc (.cells #[.int .u8 7] 5)).alloc (.cells #[.int .u64 1, .int .u64 2] 58)) (some ⟨(w5.alloc (.cells #[.int .u8 7] 5)).heap.size, 0, none⟩) 2 y8 from HC8.out _)
      simp only [World.size_alloc] at hc7 hc8
      go_simp
      with_reducible refine (CS32.out _ _ _ hc7 hc8).mono ?_
      clear hc7 hc8
      rintro e w9 ⟨A9, c9, rfl, hb9⟩
      have HB9 := Aside0.mk (below_step (show Below w5.heap.size w5 ((w5.alloc (.cells #[.int .u8 7] 5)).alloc (.cells #[.int .u64 1, .int .u64 2] 58)) from ((Below.refl _ _).alloc (Nat.le_refl _) _).alloc (by simp) _) hb9)
      clear hb9
      refine hK.out _ _ ?_ (fun hHeld => ?_)
      · exact HB9.out
      clear hK K
      (try simp only [Act.put, List.setIfInBounds_toArray, List.set_cons_zero, List.set_cons_succ])
      refine wpAnyH_take (i := 18) (v := ?vbp18) (oi := { dst := some 27, op := Op.call { callee := Callee.builtin Builtin.len, args := #[Operand.tmp 26], argTypes := #[38] }, type := 3, pos := "law.go:17", after := #[{ on := 17, ground := Ground.data }, { on := 14, ground := Ground.guard }], guard := some (14, true) }) rfl (by kernel_rfl) (by kernel_rfl) (by kernel_rfl) (fun _ _ _ h => h) (Or.inl ⟨by rfl, ?hybp18⟩) (by assumption) ?restbp18
      case hybp18 => (intro w hSw; (try dsimp only at hSw); go_split_ands; go_simp; try with_reducible rfl)
      (try simp only [Act.put, List.setIfInBounds_toArray, List.set_cons_zero, List.set_cons_succ])
      refine wpAnyH_take (i := 19) (v := ?vbp19) (oi := { dst := some 28, op := Op.binOp BinOp.eql 3 (Operand.tmp 27) (Operand.const (Value.int IntKind.i64 3)) 3, type := 4, pos := "law.go:17", after := #[{ on := 18, ground := Ground.data }, { on := 14, ground := Ground.guard }], guard := some (14, true) }) rfl (by kernel_rfl) (by kernel_rfl) (by kernel_rfl) (fun _ _ _ h => h) (Or.inl ⟨by rfl, ?hybp19⟩) (by assumption) ?restbp19
      case hybp19 => (intro w hSw; (try dsimp only at hSw); go_split_ands; go_simp; try with_reducible rfl)
      (try simp only [Act.put, List.setIfInBounds_toArray, List.set_cons_zero, List.set_cons_succ])
      refine wpAnyH_take (i := 20) (v := ?vbp20) (oi := { dst := some 29, op := Op.pick (Operand.tmp 23) (Operand.tmp 28) (Operand.const (Value.bool false)), type := 4, pos := "law.go:17", after := #[{ on := 14, ground := Ground.data }, { on := 19, ground := Ground.data }], guard := none }) rfl (by kernel_rfl) (by kernel_rfl) (by kernel_rfl) (fun _ _ _ h => h) (Or.inl ⟨by rfl, ?hybp20⟩) (by assumption) ?restbp20
      case hybp20 => (intro w hSw; (try dsimp only at hSw); go_split_ands; go_simp; try with_reducible rfl)
      (try simp only [Act.put, List.setIfInBounds_toArray, List.set_cons_zero, List.set_cons_succ])
      refine wpAnyH_take (i := 21) (v := ?vbp21) (oi := { dst := some 0, op := Op.assign (Operand.tmp 29), type := 4, pos := "law.go:17", after := #[{ on := 20, ground := Ground.data }, { on := 17, ground := Ground.chain }, { on := 0, ground := Ground.phase }, { on := 1, ground := Ground.phase }, { on := 2, ground := Ground.phase }, { on := 3, ground := Ground.phase }, { on := 4, ground := Ground.phase }, { on := 5, ground := Ground.phase }, { on := 6, ground := Ground.phase }, { on := 7, ground := Ground.phase }, { on := 8, ground := Ground.phase }, { on := 9, ground := Ground.phase }, { on := 10, ground := Ground.phase }, { on := 11, ground := Ground.phase }, { on := 12, ground := Ground.phase }, { on := 13, ground := Ground.phase }, { on := 14, ground := Ground.phase }, { on := 15, ground := Ground.phase }, { on := 16, ground := Ground.phase }, { on := 17, ground := Ground.phase }, { on := 18, ground := Ground.phase }, { on := 19, ground := Ground.phase }, { on := 20, ground := Ground.phase }], guard := none }) rfl (by kernel_rfl) (by kernel_rfl) (by kernel_rfl) (fun _ _ _ h => h) (Or.inl ⟨by rfl, ?hybp21⟩) (by assumption) ?restbp21
      case hybp21 => (intro w hSw; (try dsimp only at hSw); go_split_ands; go_simp; try with_reducible rfl)
      (try simp only [Act.put, List.setIfInBounds_toArray, List.set_cons_zero, List.set_cons_succ])
      refine wpAnyH_done (by kernel_rfl) ?_ _
      go_wp2
      go_ret
      exact ⟨rfl, below_step HB3.out (below_step (show Below w3.heap.size w3 w5 from below_step ((Below.refl _ _).alloc (Nat.le_refl _) _) (show Below (w3.alloc (.cells #[.int .u8 172, .int .u8 2] 5)).heap.size (w3.alloc (.cells #[.int .u8 172, .int .u8 2] 5)) w5 from ⟨HB5.out.os, HB5.out.tape, HB5.out.output, HB5.out.size, HB5.out.block⟩)) HB9.out)⟩
    · go_simp
      refine hK.out _ _ ?_ (fun hHeld => ?_)
      · exact (Below.refl _ _).alloc (Nat.le_refl _) _
      clear hK K
      (try simp only [Act.put, List.setIfInBounds_toArray, List.set_cons_zero, List.set_cons_succ])
      refine wpAnyH_ready (rs := [15]) (by kernel_rfl) (by simp) ?_
      refine AllReadyH.cons (o := { dst := some 24, op := Op.buildSlice 38 1 #[(0, Operand.const (Value.int IntKind.u8 7))], type := 38, pos := "law.go:17", after := #[{ on := 14, ground := Ground.guard }], guard := some (14, true) }) rfl (fun K hK => ?_) AllReadyH.nil
      go_simp
      refine hK.out _ _ ?_ (fun hHeld => ?_)
      · exact ((Below.refl _ _).alloc (Nat.le_refl _) _).alloc (by simp) _
      clear hK K
      (try simp only [Act.put, List.setIfInBounds_toArray, List.set_cons_zero, List.set_cons_succ])
      refine wpAnyH_ready (rs := [17]) (by kernel_rfl) (by simp) ?_
      refine AllReadyH.cons (o := { dst := some 26, op := Op.call { callee := Callee.value (Operand.func 32), args := #[Operand.tmp 24, Operand.tmp 25], argTypes := #[38, 57] }, type := 38, pos := "law.go:17", after := #[{ on := 15, ground := Ground.data }, { on := 16, ground := Ground.data }, { on := 14, ground := Ground.chain }, { on := 14, ground := Ground.guard }], guard := some (14, true) }) rfl (fun K hK => ?_) AllReadyH.nil
      have hc7 := (show Kd.C (Kd.int .u8) ((w5.alloc (.cells #[.int .u64 1, .int .u64 2] 58)).alloc (.cells #[.int .u8 7] 5)) (some ⟨(w5.alloc (.cells #[.int .u64 1, .int .u64 2] 58)).heap.size, 0, none⟩) 1 y7 from HC7.out _)
      have hc8 := (Kd.C_alloc (HC8.out w5) (.cells #[.int .u8 7] 5))
      simp only [World.size_alloc] at hc7 hc8
      go_simp
      with_reducible refine (CS32.out _ _ _ hc7 hc8).mono ?_
      clear hc7 hc8
      rintro e w9 ⟨A9, c9, rfl, hb9⟩
      have HB9 := Aside0.mk (below_step (show Below w5.heap.size w5 ((w5.alloc (.cells #[.int .u64 1, .int .u64 2] 58)).alloc (.cells #[.int .u8 7] 5)) from ((Below.refl _ _).alloc (Nat.le_refl _) _).alloc (by simp) _) hb9)
      clear hb9
      refine hK.out _ _ ?_ (fun hHeld => ?_)
      · exact HB9.out
      clear hK K
      (try simp only [Act.put, List.setIfInBounds_toArray, List.set_cons_zero, List.set_cons_succ])
      refine wpAnyH_take (i := 18) (v := ?vbq18) (oi := { dst := some 27, op := Op.call { callee := Callee.builtin Builtin.len, args := #[Operand.tmp 26], argTypes := #[38] }, type := 3, pos := "law.go:17", after := #[{ on := 17, ground := Ground.data }, { on := 14, ground := Ground.guard }], guard := some (14, true) }) rfl (by kernel_rfl) (by kernel_rfl) (by kernel_rfl) (fun _ _ _ h => h) (Or.inl ⟨by rfl, ?hybq18⟩) (by assumption) ?restbq18
      case hybq18 => (intro w hSw; (try dsimp only at hSw); go_split_ands; go_simp; try with_reducible rfl)
      (try simp only [Act.put, List.setIfInBounds_toArray, List.set_cons_zero, List.set_cons_succ])
      refine wpAnyH_take (i := 19) (v := ?vbq19) (oi := { dst := some 28, op := Op.binOp BinOp.eql 3 (Operand.tmp 27) (Operand.const (Value.int IntKind.i64 3)) 3, type := 4, pos := "law.go:17", after := #[{ on := 18, ground := Ground.data }, { on := 14, ground := Ground.guard }], guard := some (14, true) }) rfl (by kernel_rfl) (by kernel_rfl) (by kernel_rfl) (fun _ _ _ h => h) (Or.inl ⟨by rfl, ?hybq19⟩) (by assumption) ?restbq19
      case hybq19 => (intro w hSw; (try dsimp only at hSw); go_split_ands; go_simp; try with_reducible rfl)
      (try simp only [Act.put, List.setIfInBounds_toArray, List.set_cons_zero, List.set_cons_succ])
      refine wpAnyH_take (i := 20) (v := ?vbq20) (oi := { dst := some 29, op := Op.pick (Operand.tmp 23) (Operand.tmp 28) (Operand.const (Value.bool false)), type := 4, pos := "law.go:17", after := #[{ on := 14, ground := Ground.data }, { on := 19, ground := Ground.data }], guard := none }) rfl (by kernel_rfl) (by kernel_rfl) (by kernel_rfl) (fun _ _ _ h => h) (Or.inl ⟨by rfl, ?hybq20⟩) (by assumption) ?restbq20
      case hybq20 => (intro w hSw; (try dsimp only at hSw); go_split_ands; go_simp; try with_reducible rfl)
      (try simp only [Act.put, List.setIfInBounds_toArray, List.set_cons_zero, List.set_cons_succ])
      refine wpAnyH_take (i := 21) (v := ?vbq21) (oi := { dst := some 0, op := Op.assign (Operand.tmp 29), type := 4, pos := "law.go:17", after := #[{ on := 20, ground := Ground.data }, { on := 17, ground := Ground.chain }, { on := 0, ground := Ground.phase }, { on := 1, ground := Ground.phase }, { on := 2, ground := Ground.phase }, { on := 3, ground := Ground.phase }, { on := 4, ground := Ground.phase }, { on := 5, ground := Ground.phase }, { on := 6, ground := Ground.phase }, { on := 7, ground := Ground.phase }, { on := 8, ground := Ground.phase }, { on := 9, ground := Ground.phase }, { on := 10, ground := Ground.phase }, { on := 11, ground := Ground.phase }, { on := 12, ground := Ground.phase }, { on := 13, ground := Ground.phase }, { on := 14, ground := Ground.phase }, { on := 15, ground := Ground.phase }, { on := 16, ground := Ground.phase }, { on := 17, ground := Ground.phase }, { on := 18, ground := Ground.phase }, { on := 19, ground := Ground.phase }, { on := 20, ground := Ground.phase }], guard := none }) rfl (by kernel_rfl) (by kernel_rfl) (by kernel_rfl) (fun _ _ _ h => h) (Or.inl ⟨by rfl, ?hybq21⟩) (by assumption) ?restbq21
      case hybq21 => (intro w hSw; (try dsimp only at hSw); go_split_ands; go_simp; try with_reducible rfl)
      (try simp only [Act.put, List.setIfInBounds_toArray, List.set_cons_zero, List.set_cons_succ])
      refine wpAnyH_done (by kernel_rfl) ?_ _
      go_wp2
      go_ret
      exact ⟨rfl, below_step HB3.out (below_step (show Below w3.heap.size w3 w5 from below_step ((Below.refl _ _).alloc (Nat.le_refl _) _) (show Below (w3.alloc (.cells #[.int .u8 172, .int .u8 2] 5)).heap.size (w3.alloc (.cells #[.int .u8 172, .int .u8 2] 5)) w5 from ⟨HB5.out.os, HB5.out.tape, HB5.out.output, HB5.out.size, HB5.out.block⟩)) HB9.out)⟩
end Go.Proofs.Ytgjcbpeliimhaaa.POct
