/- OctetBack, walked by hand. -/
import Derived.Test.YtgjcbpeliimhaaaGoAwake9
import Derived.Test.YtgjcbpeliimhaaaOctNumber
namespace Go.Proofs.Ytgjcbpeliimhaaa.POct
open Go.RowKit Go.Proofs.YtgjcbpeliimhaaaW.PrintWords Go.Proofs.YtgjcbpeliimhaaaW.PrintLast Go.Proofs.YtgjcbpeliimhaaaW.PrintMore Held
set_option linter.unusedVariables false
set_option linter.unusedSimpArgs false
theorem Put_l0' (l : List Int) (hb : ∀ x ∈ l, 0 ≤ x ∧ x < 2 ^ 64) (hl : l.length ≤ 200) : ∀ (d k : Nat) (pre : List Int) (i : Nat), i + d = l.length → d + 11 ≤ k → pre.length + 10 * d ≤ 10000 →
    octet_Put.l0 k pre l (l.length : Int) (i : Int) = some (pre ++ encs (l.drop i)) := by
  intro d
  induction d with
  | zero =>
    intro k pre i hi hk hp
    obtain ⟨k, rfl⟩ : ∃ m, k = m + 1 := ⟨k - 1, by omega⟩
    simp only [octet_Put.l0]
    rw [if_neg (by omega), List.drop_of_length_le (by omega)]
    simp [encs]
  | succ d ih =>
    intro k pre i hi hk hp
    obtain ⟨k, rfl⟩ : ∃ m, k = m + 1 := ⟨k - 1, by omega⟩
    simp only [octet_Put.l0]
    have hb1 := hb l[i] (List.getElem_mem _)
    have q := enc_len 9 l[i]
    have hl2 : (pre ++ enc 9 l[i]).length + 10 * d ≤ 10000 := by rw [List.length_append]; omega
    have ew : wrap64 ((i : Int) + 1) = ((i + 1 : Nat) : Int) := by unfold wrap64; omega
    rw [if_pos (by omega), if_pos (by omega), if_pos (by omega), rd_nth l i (by omega), octet_put.f, put_l0 9 k pre _ hb1.1 (by rw [lim9]; omega) hb1.2 (by omega) (by omega), Option.bind_some, ew, ih k _ (i + 1) (by omega) (by omega) hl2]
    rw [List.drop_eq_getElem_cons (show i < l.length by omega)]
    simp only [encs, List.flatMap_cons, List.append_assoc]
theorem Put_nil (k : Nat) (l : List Int) (hl : l.length ≤ 200) (h : ∀ x ∈ l, 0 ≤ x ∧ x < 2 ^ 64) (hk : 211 ≤ k) : octet_Put.f k [] l = some (encs l) := by
  unfold octet_Put.f slices_Clone_byte_byte.f
  rw [if_pos (by decide), Option.bind_some]
  have := Put_l0' l h hl l.length k [] 0 (by omega) (by omega) (by simp; omega)
  simpa using this
theorem encs_drop (l : List Int) (i : Nat) (h : i < l.length) : encs (l.drop i) = enc 9 (rd l (i : Int)) ++ encs (l.drop (i + 1)) := by
  rw [rd_nth l i h, List.drop_eq_getElem_cons h]
  simp only [encs, List.flatMap_cons]
/-- One number read of what was put. -/
theorem num_next (k : Nat) (g : Nat) (l : List Int) (i : Nat) (hi : i < l.length) (hb : ∀ x ∈ l, 0 ≤ x ∧ x < 2 ^ 64) (hl : l.length ≤ 200) (hk : 20 ≤ k) (w : World) (h : Rdr w g (encs (l.drop i)) 0) :
    Calls Try.prog 35 #[.pointer (some ⟨g, 0, none⟩), .int .u64 18446744073709551615] w fun e w' => e = .returned (.int .u64 (rd l (i : Int))) ∧ Rdr w' g (encs (l.drop (i + 1))) 0 ∧ w.grownBy w' (some g) := by
  have hb1 := hb l[i] (List.getElem_mem _)
  rw [← rd_nth l i hi] at hb1
  have e := encs_drop l i hi
  have q := enc_len 9 (rd l (i : Int))
  have q2 := encs_len (l.drop i)
  have q3 : (l.drop i).length = l.length - i := List.length_drop
  have hn := number_enc k (rd l (i : Int)) (encs (l.drop (i + 1))) hb1.1 hb1.2 (by rw [← e]; omega) hk
  rw [← e] at hn
  have ql : (enc 9 (rd l (i : Int))).length ≤ (encs (l.drop i)).length := by rw [e, List.length_append]; omega
  refine (num_ok k g (encs (l.drop i)) 18446744073709551615 (rd l (i : Int)) (enc 9 (rd l (i : Int))).length w h hn (by omega) ql (decide_eq_false (by omega))).mono ?_
  rintro e' w' ⟨rfl, hr, hg⟩
  refine ⟨rfl, ?_, hg⟩
  have hd : (encs (l.drop i)).drop (enc 9 (rd l (i : Int))).length = encs (l.drop (i + 1)) := by rw [e, List.drop_left]
  rw [hd] at hr
  exact hr
set_option maxHeartbeats 8000000 in
set_option maxRecDepth 100000 in
theorem dogwatchlaw09_OctetBack.calls (A0 : Option Addr) (c0 : Nat) (l0 : List Int) (w : World) (hr0 : Kd.C (Kd.int .u64) w A0 l0.length l0) (hc0 : l0.length ≤ c0) (hb : ∀ x ∈ l0, 0 ≤ x ∧ x < 2 ^ 64) :
    Calls Try.prog 10 #[.slice A0 l0.length c0] w fun e w' => e = .returned (.bool true) ∧ Below w.heap.size w w' := by
  have HR0 := Aside0.mk hr0
  have HC0 := Aside0.mk hc0
  have HW0 := Aside0.mk hb
  clear hr0 hc0 hb
  have HB := Aside0.mk (Below.refl w.heap.size w)
  by_cases c : (l0.length : Int) > 200
  · have c1 : decide (200 < (l0.length : Int)) = true := decide_eq_true c
    have c2 : decide (200 < l0.length) = true := decide_eq_true (by omega)
    clear c
    go_enter Try.func10, Try.ntmps10
    go_wp2_with (go_at_call 29; (with_reducible refine (dogwatchlaw09_awake.calls true _ rfl).mono ?_); rintro e w3 ⟨rfl, hb3⟩; have HB1 := Aside0.mk (show Below w.heap.size w w3 from below_step (by repeat (first | (with_reducible first | exact HB.out | apply below_alloc | apply pw_below_drewN | apply below_drew1) | exact HB.out)) hb3); clear hb3)
    go_ret
    exact ⟨rfl, HB1.out⟩
  · have c1 : decide (200 < (l0.length : Int)) = false := decide_eq_false c
    have c2 : decide (200 < l0.length) = false := decide_eq_false (by omega)
    have HL := Aside0.mk (show l0.length ≤ 200 by omega)
    clear c
    obtain ⟨k, hk⟩ : ∃ k : Nat, k = 10000 := ⟨_, rfl⟩
    have K1 := Aside0.mk (show 211 ≤ k by omega)
    clear hk
    obtain ⟨bs, hbs⟩ : ∃ y : List Int, y = encs (l0.drop 0) := ⟨_, rfl⟩
    have A3 : Aside0 (octet_Put.f k [] l0 = some bs) := ⟨by rw [hbs, List.drop_zero]; exact Put_nil k l0 HL.out HW0.out K1.out⟩
    have L3 : Aside0 (bs.length < 140737488355328) := ⟨by
      have q := encs_len l0
      have h := HL.out
      rw [hbs, List.drop_zero]
      omega⟩
    have NB := Aside0.mk hbs
    clear hbs
    have C32 : Aside0 (∀ W : World, Kd.C (Kd.int .u64) W A0 l0.length l0 → Calls Try.prog 32 #[.slice none 0 0, .slice A0 l0.length c0] W fun e w' => ∃ (B : Option Addr) (c : Nat), e = .returned (.slice B bs.length c) ∧ bs.length ≤ c ∧ Kd.C (Kd.int .u8) w' B bs.length bs ∧ Below W.heap.size W w') := ⟨by
      intro W hW
      refine (octet_Put.calls k none 0 [] A0 c0 l0 bs W (Kd.C_nil _ W) (Nat.le_refl _) hW HC0.out A3.out).mono ?_
      rintro e w' ⟨v, rfl, ho, hb⟩
      obtain ⟨B, c, rfl⟩ := Kd.R_slice ho
      exact ⟨B, c, rfl, (Kd.R_reads' ho).2.1, (Kd.R_reads' ho).2.2, hb⟩⟩
    go_enter Try.func10, Try.ntmps10
    go_wp2_with (first
      | (go_at_call 32; (with_reducible refine (C32.out _ (by first | exact HR0.out | exact Kd.C_drew HR0.out | exact Kd.C_drewN HR0.out _)).mono ?_); rintro e w2 ⟨B1, c1', rfl, hc2, hr2, hb2⟩; have HC2 := Aside0.mk hc2; have HR2 := Aside0.mk hr2; have HB2 := Aside0.mk (show Below w.heap.size w w2 from below_step (by repeat (first | (with_reducible first | exact HB.out | apply below_alloc | apply pw_below_drewN | apply below_drew1) | exact HB.out)) hb2); clear hc2 hr2 hb2)
      | (go_at_call 34; (with_reducible refine (open_of _ _ bs _ HR2.out HC2.out L3.out).mono ?_); rintro e w3 ⟨g, rfl, hr3, hg3, hb3⟩; have HR3 := Aside0.mk hr3; have HG3 := Aside0.mk (show w.heap.size ≤ g from Nat.le_trans HB2.out.size hg3); have HB3 := Aside0.mk (below_step HB2.out hb3); clear hr3 hg3 hb3))
    have HR3' := Aside0.mk (show Rdr w3 g (encs (l0.drop 0)) 0 by rw [← NB.out]; exact HR3.out)
    clear HR3
    go_loopg [4] (l0.length + 1) (fun kq v4 w' => ∃ i : Nat, v4 = .int .i64 (i : Int) ∧ Aside0 (i + kq = l0.length + 1) ∧ Aside0 (i ≤ l0.length) ∧ Aside0 (Rdr w' g (encs (l0.drop i)) 0) ∧ Aside0 (Below w.heap.size w w'))
    case atStart => exact ⟨0, rfl, ⟨by omega⟩, ⟨by omega⟩, ⟨HR3'.out⟩, ⟨HB3.out⟩⟩
    case round =>
      obtain ⟨i, rfl, HK, HI, HRd, HB4⟩ := hrel
      cases gk with
      | zero => exact absurd HK.out (by have := HI.out; omega)
      | succ k1 =>
        by_cases c : i < l0.length
        · have d1 : decide ((i : Int) < (l0.length : Int)) = true := decide_eq_true (by omega)
          have d2 : decide (i < l0.length) = true := decide_eq_true c
          obtain ⟨ad, ead, hx⟩ := Kd.at_int HR0.out (i : Int) (by omega) (by omega)
          cases ead
          rw [Int.toNat_natCast] at hx
          have HX := Aside0.mk hx
          have p0 := eq_true (show (0 : Int) ≤ (i : Int) by omega)
          have q0 := eq_true (show (i : Int) < (l0.length : Int) by omega)
          have HI' := Aside0.mk c
          clear hx c
          go_wp2_with (fail)
          refine wp_region_held_drew (S := fun w' : World => Below w.heap.size w w') (by kernel_rfl) (below_drew1 HB4.out) (fun hHeld => ?_)
          refine wpAnyH_take (i := 0) (v := ?v0) (oi := { dst := some 20, op := Op.move (Operand.tmp 3), type := 64, pos := "law.go:75", after := #[], guard := none }) rfl (by kernel_rfl) (by kernel_rfl) (by kernel_rfl) (fun _ _ _ h => h) (Or.inl ⟨by rfl, ?hy0⟩) (by assumption) ?rest0
          case hy0 => (intro w hSw; (try dsimp only at hSw); go_split_ands; go_simp; try with_reducible rfl)
          (try simp only [Act.put, List.setIfInBounds_toArray, List.set_cons_zero, List.set_cons_succ])
          refine wpAnyH_take (i := 2) (v := ?v2) (oi := { dst := some 22, op := Op.move (Operand.tmp 0), type := 57, pos := "law.go:75", after := #[], guard := none }) rfl (by kernel_rfl) (by kernel_rfl) (by kernel_rfl) (fun _ _ _ h => h) (Or.inl ⟨by rfl, ?hy2⟩) (by assumption) ?rest2
          case hy2 => (intro w hSw; (try dsimp only at hSw); go_split_ands; go_simp; try with_reducible rfl)
          (try simp only [Act.put, List.setIfInBounds_toArray, List.set_cons_zero, List.set_cons_succ])
          refine wpAnyH_take (i := 3) (v := ?v3) (oi := { dst := some 23, op := Op.move (Operand.tmp 4), type := 3, pos := "law.go:75", after := #[], guard := none }) rfl (by kernel_rfl) (by kernel_rfl) (by kernel_rfl) (fun _ _ _ h => h) (Or.inl ⟨by rfl, ?hy3⟩) (by assumption) ?rest3
          case hy3 => (intro w hSw; (try dsimp only at hSw); go_split_ands; go_simp; try with_reducible rfl)
          (try simp only [Act.put, List.setIfInBounds_toArray, List.set_cons_zero, List.set_cons_succ])
          refine wpAnyH_take (i := 4) (v := ?v4) (oi := { dst := some 24, op := Op.indexAddr 57 (Operand.tmp 22) (Operand.tmp 23), type := 0, pos := "law.go:75", after := #[{ on := 2, ground := Ground.data }, { on := 3, ground := Ground.data }], guard := none }) rfl (by kernel_rfl) (by kernel_rfl) (by kernel_rfl) (fun _ _ _ h => h) (Or.inl ⟨by rfl, ?hy4⟩) (by assumption) ?rest4
          case hy4 => (intro w hSw; (try dsimp only at hSw); go_split_ands; go_simp; try with_reducible rfl)
          (try simp only [Act.put, List.setIfInBounds_toArray, List.set_cons_zero, List.set_cons_succ])
          refine wpAnyH_take (i := 5) (v := ?v5) (oi := { dst := some 25, op := Op.load 58 (Operand.tmp 24), type := 58, pos := "law.go:75", after := #[{ on := 4, ground := Ground.data }], guard := none }) rfl (by kernel_rfl) (by kernel_rfl) (by kernel_rfl) (fun _ _ _ h => h) (Or.inl ⟨by rfl, ?hy5⟩) (by assumption) ?rest5
          case hy5 => (intro w5 hSw; have hx5 := (Below.cell hSw (World.block_lt_of_cell? w _ HX.out)).trans HX.out; go_simp; try with_reducible rfl)
          (try simp only [Act.put, List.setIfInBounds_toArray, List.set_cons_zero, List.set_cons_succ])
          refine wpAnyH_ready (rs := [1]) (by kernel_rfl) (by simp) ?_
          refine AllReadyH.cons (o := { dst := some 21, op := Op.call { callee := Callee.value (Operand.func 35), args := #[Operand.tmp 20, Operand.const (Value.int IntKind.u64 18446744073709551615)], argTypes := #[64, 58] }, type := 58, pos := "law.go:75", after := #[{ on := 0, ground := Ground.data }], guard := none }) rfl (fun K hK => ?_) AllReadyH.nil
          go_simp
          with_reducible refine (num_next k g l0 i HI'.out HW0.out HL.out (by have := K1.out; omega) _ (HRd.out.below (below_drew1 (Below.refl _ _)))).mono ?_
          rintro e w4 ⟨rfl, hr5, hg5⟩
          have HR5 := Aside0.mk hr5
          have HB5 := Aside0.mk (show Below w.heap.size w w4 from (below_drew1 HB4.out).grown hg5 (below_drew1 HB4.out).size (fun k hk => by injection hk with hk; have := HG3.out; omega))
          clear hr5 hg5
          refine hK.out _ _ ?_ (fun hHeld => ?_)
          · exact HB5.out
          clear hK K
          (try simp only [Act.put, List.setIfInBounds_toArray, List.set_cons_zero, List.set_cons_succ])
          refine wpAnyH_take (i := 6) (v := ?v6) (oi := { dst := some 26, op := Op.binOp BinOp.neq 58 (Operand.tmp 21) (Operand.tmp 25) 58, type := 4, pos := "law.go:75", after := #[{ on := 1, ground := Ground.data }, { on := 5, ground := Ground.data }], guard := none }) rfl (by kernel_rfl) (by kernel_rfl) (by kernel_rfl) (fun _ _ _ h => h) (Or.inl ⟨by rfl, ?hy6⟩) (by assumption) ?rest6
          case hy6 => (intro w hSw; (try dsimp only at hSw); go_split_ands; go_simp; try with_reducible rfl)
          (try simp only [Act.put, List.setIfInBounds_toArray, List.set_cons_zero, List.set_cons_succ])
          refine wpAnyH_done (by kernel_rfl) ?_ _
          go_wp2_with (fail)
          go_roundg k1
          case measure => omega
          case rel => exact ⟨i + 1, (by first | rfl | (simp; done) | (congr 1; unfold wrap64; have := HL.out; have := HI'.out; omega)), ⟨by have := HK.out; omega⟩, ⟨by have := HI'.out; omega⟩, ⟨HR5.out⟩, ⟨HB5.out⟩⟩
        · have d1 : decide ((i : Int) < (l0.length : Int)) = false := decide_eq_false (by omega)
          have d2 : decide (i < l0.length) = false := decide_eq_false c
          have HE := Aside0.mk (show Rdr wr g [] 0 by
            have h := HRd.out
            rw [List.drop_of_length_le (by omega)] at h
            exact h)
          clear c
          go_wp2_with (first
            | (go_at_call 36; (with_reducible refine (end_of g [] 0 _ (HE.out.below (by repeat (first | (with_reducible first | exact Below.refl _ _ | apply below_alloc | apply pw_below_drewN | apply below_drew1) | exact Below.refl _ _)))).mono ?_); rintro e w6 ⟨rfl, rfl⟩)
            | (go_at_call 29; (with_reducible refine (dogwatchlaw09_awake.calls true _ rfl).mono ?_); rintro e w7 ⟨rfl, hb7⟩; have HB7 := Aside0.mk (show Below w.heap.size w w7 from below_step (by repeat (first | (with_reducible first | exact HB4.out | apply below_alloc | apply pw_below_drewN | apply below_drew1) | exact HB4.out)) hb7); clear hb7))
          go_ret
          exact ⟨rfl, HB7.out⟩
/-- The law, of any row of numbers. -/
theorem dogwatchlaw09_OctetBack.walk (a0 : Option Addr) (len0 cap0 : Nat) (z0 : List Int) (w : World) (w0 : (a0 = none ∧ len0 = 0 ∧ cap0 = 0 ∧ z0 = []) ∨ ∃ x, a0 = some x ∧ len0 ≤ cap0 ∧ cap0 ≤ maxLen ∧ z0.length = cap0 ∧ (∀ i, i < z0.length → w.cell? (x.add i) = some (.int .u64 (z0.getD i 0))) ∧ ∀ n ∈ z0, (Lit.int .u64 n).wf = true) :
    Calls Try.prog 10 #[.slice a0 len0 cap0] w fun e w' => e = .returned (.bool true) ∧ Below w.heap.size w w' := by
  obtain ⟨l0, rfl, hr0, hm0, hw0, hc0⟩ := ReadsInt.ofRowC w0
  exact dogwatchlaw09_OctetBack.calls a0 cap0 l0 w (Kd.C_of_reads (d := (0 : Int)) (h1 := fun _ => rfl) hr0) hc0 (fun x hx => wf64 (hw0 x hx))
end Go.Proofs.Ytgjcbpeliimhaaa.POct
