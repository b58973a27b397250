/- dogwatchref09's Reader.Num, walked by hand. -/
import Derived.Test.YtgfkcmmhnibaiaaPRwx3
import Derived.Test.YtgfkcmmhnibaiaaPRwx7
import Derived.Test.YtgfkcmmhnibaiaaRwNum
namespace Go.Proofs.Ytgfkcmmhnibaiaa.PRw
open Go.RowKit Go.Proofs.YtgfkcmmhnibaiaaW.PrintWords Go.Proofs.YtgfkcmmhnibaiaaW.PrintLast Go.Proofs.YtgfkcmmhnibaiaaW.PrintMore
set_option linter.unusedVariables false
set_option linter.unusedSimpArgs false
theorem rd_nth (l : List Int) (i : Nat) (h : i < l.length) : rd l (i : Int) = l[i] := by
  simp [rd, List.getD_eq_getElem?_getD, h]
/-- How many bytes ahead of the first one below 128, ten at the most. -/
def lead : List Int → Nat → Nat
  | [], _ => 0
  | _, 0 => 0
  | x :: t, f + 1 => if 128 ≤ x then lead t f + 1 else 0
def refNum (k : Nat) (l : List Int) (er limit : Int) : Option (Int × List Int × Int) :=
  if er = 0 then
    if l.length < 140737488355328 then
      if lead l 10 = 10 ∨ lead l 10 = l.length then some (0, [], 3)
      else (dogwatchref09_value.f k (l.take (lead l 10 + 1))).bind fun n => (dogwatchref09_Num.f k n).bind fun b => (dogwatchref09_same.f b (l.take (lead l 10 + 1))).bind fun s =>
        if s = true then (if limit < n then some (0, [], 5) else some (n, l.drop (lead l 10 + 1), 0)) else some (0, [], 3)
    else none
  else some (0, l, er)
theorem refNum_err0 (k : Nat) (A : Option Addr) (c : Nat) (l : List Int) (er limit : Int) (w : World) (hr : Kd.C (Kd.int .u8) w A l.length l) (hc : l.length ≤ c) (he : (er != 0) = true) :
    Calls Try.prog 63 #[.agg #[.slice A l.length c, .int .i64 er], .int .u64 limit] w fun e w' => e = .returned (.tuple #[.agg #[.slice A l.length c, .int .i64 er], .int .u64 0]) ∧ Below w.heap.size w w' := by
  have hu97 := Try.underlying97
  clear hr hc
  go_enter Try.func63, Try.ntmps63
  go_wp2
  (try simp only [Exit.inBlock, Exit.then])
  refine bodyPost_ret (results_ct rfl _ _ (w.heap.size + 1) 97 #[.slice A l.length c, .int .i64 er] (0, 0) _ rfl ?hblk Try.underlying97 rfl (by kernel_rfl)) rfl ?_
  case hblk =>
    have := heap_alloc_new (w.alloc (.cells #[.slice A l.length c, .int .i64 er] 97)) (.cells #[.slice A l.length c, .int .i64 er] 97)
    simpa using this
  all_goals exact ⟨rfl, below_alloc (below_alloc (Below.refl _ _) _) _⟩
/-- What the reader tells: the number; the bytes that are left are the argument's own, or none. -/
def NumPost (A : Option Addr) (c : Nat) (l l' : List Int) (er' n : Int) (w : World) (e : Ending) (w' : World) : Prop :=
  ∃ A' c', e = .returned (.tuple #[.agg #[.slice A' l'.length c', .int .i64 er'], .int .u64 n]) ∧ l'.length ≤ c' ∧ ((∃ m, m ≤ l.length ∧ A' = (if c = m then A else A.map (·.add m)) ∧ l' = l.drop m) ∨ l' = []) ∧ Below w.heap.size w w'
theorem lead_step (l : List Int) (i : Nat) (hi : i < l.length) (hf : i < 10) (h : 128 ≤ rd l (i : Int)) : lead (l.drop i) (10 - i) = lead (l.drop (i + 1)) (10 - (i + 1)) + 1 := by
  have e : rd l (i : Int) = l[i] := rd_nth l i hi
  rw [List.drop_eq_getElem_cons hi, show 10 - i = (10 - (i + 1)) + 1 by omega, lead, if_pos (by rw [← e]; exact h)]
theorem lead_stop (l : List Int) (i : Nat) (h : ¬ (i < l.length ∧ i < 10 ∧ 128 ≤ rd l (i : Int))) : lead (l.drop i) (10 - i) = 0 := by
  by_cases hi : i < l.length
  · by_cases hf : i < 10
    · have e : rd l (i : Int) = l[i] := rd_nth l i hi
      rw [List.drop_eq_getElem_cons hi, show 10 - i = (10 - (i + 1)) + 1 by omega, lead, if_neg (by rw [← e]; exact fun q => h ⟨hi, hf, q⟩)]
    · rw [show 10 - i = 0 by omega]
      cases l.drop i <;> rfl
  · rw [List.drop_of_length_le (by omega)]
    rfl
set_option maxHeartbeats 8000000 in
set_option maxRecDepth 100000 in
theorem refNum_ok (k : Nat) (A : Option Addr) (c : Nat) (l l' : List Int) (er' limit n : Int) (w : World) (hr : Kd.C (Kd.int .u8) w A l.length l) (hc : l.length ≤ c) (hf : refNum k l 0 limit = some (n, l', er')) :
    Calls Try.prog 63 #[.agg #[.slice A l.length c, .int .i64 0], .int .u64 limit] w (NumPost A c l l' er' n w) := by
  have HR := Aside0.mk hr
  have HC := Aside0.mk hc
  have hu97 := Try.underlying97
  unfold refNum at hf
  rw [if_pos rfl] at hf
  by_cases hl : l.length < 140737488355328
  case neg => rw [if_neg hl] at hf; exact absurd hf (by simp)
  rw [if_pos hl] at hf
  have HF := Aside0.mk hf
  have HL := Aside0.mk hl
  clear hr hc hf hl
  go_enter Try.func63, Try.ntmps63
  go_wp2
  go_loopg [6] 12 (fun kq v6 w' => ∃ i : Nat, v6 = .int .i64 (i : Int) ∧ Aside0 (i + lead (l.drop i) (10 - i) = lead l 10 ∧ i ≤ 10 ∧ i ≤ l.length ∧ i + kq = 12) ∧ w' = (w.alloc (.cells #[.slice A l.length c, .int .i64 0] 97)).alloc (.cells #[.slice none 0 0, .int .i64 0] 97))
  case atStart => exact ⟨0, rfl, ⟨by rw [List.drop_zero]; exact Nat.zero_add _, by omega, by omega, by omega⟩, rfl⟩
  case round =>
    obtain ⟨i, rfl, HI, rfl⟩ := hrel
    have kp : ((w.alloc (.cells #[.slice A l.length c, .int .i64 0] 97)).alloc (.cells #[.slice none 0 0, .int .i64 0] 97)).cell? ⟨w.heap.size, 0, none⟩ = some (.slice A l.length c) := by
      have h1 := blk_alloc (heap_alloc_new w (.cells #[.slice A l.length c, .int .i64 0] 97)) (.cells #[.slice none 0 0, .int .i64 0] 97)
      simp [World.cell?, h1]
    have hC := Kd.C_alloc (Kd.C_alloc HR.out (.cells #[.slice A l.length c, .int .i64 0] 97)) (.cells #[.slice none 0 0, .int .i64 0] 97)
    have hB : Below w.heap.size w ((w.alloc (.cells #[.slice A l.length c, .int .i64 0] 97)).alloc (.cells #[.slice none 0 0, .int .i64 0] 97)) := below_alloc (below_alloc (Below.refl _ _) _) _
    have hres : ((w.alloc (.cells #[.slice A l.length c, .int .i64 0] 97)).alloc (.cells #[.slice none 0 0, .int .i64 0] 97)).heap[w.heap.size + 1]? = some (.cells #[.slice none 0 0, .int .i64 0] 97 (0, 0)) := by
      have := heap_alloc_new (w.alloc (.cells #[.slice A l.length c, .int .i64 0] 97)) (.cells #[.slice none 0 0, .int .i64 0] 97)
      simpa using this
    obtain ⟨i1, i2, i3, i4⟩ := HI.out
    by_cases cA : i < l.length ∧ i < 10 ∧ 128 ≤ rd l (i : Int)
    · cases gk with
      | zero => omega
      | succ k1 =>
        have d1 : decide ((i : Int) < (l.length : Int)) = true := decide_eq_true (by omega)
        have d2 : decide (i < l.length) = true := decide_eq_true cA.1
        have d3 : decide ((i : Int) < 10) = true := decide_eq_true (by omega)
        have d4 : decide (i < 10) = true := decide_eq_true cA.2.1
        have d5 : decide (128 ≤ rd l (i : Int)) = true := decide_eq_true cA.2.2
        obtain ⟨ad, ead, hx⟩ := Kd.at_int hC (i : Int) (by omega) (by omega)
        cases ead
        rw [Int.toNat_natCast] at hx
        have p0 := eq_true (show (0 : Int) ≤ (i : Int) by omega)
        have q0 := eq_true (show (i : Int) < (l.length : Int) by omega)
        have hst := lead_step l i cA.1 cA.2.1 cA.2.2
        have HS := Aside0.mk (show i + 1 + lead (l.drop (i + 1)) (10 - (i + 1)) = lead l 10 ∧ i + 1 ≤ 10 ∧ i + 1 ≤ l.length ∧ i + 1 + k1 = 12 by omega)
        have hi1 : wrap64 ((i : Int) + 1) = ((i + 1 : Nat) : Int) := by unfold wrap64; omega
        have HI1 := Aside0.mk hi1
        clear hst hi1 cA i1 i2 i3 i4 hC hB hres
        go_wp2
        go_roundg k1
        case measure => omega
        case rel => exact ⟨i + 1, by first | rfl | rw [HI1.out], HS, rfl⟩
    · have hst := lead_stop l i cA
      have hlead : lead l 10 = i := by omega
      have hf := HF.out
      rw [hlead] at hf
      have HF2 := Aside0.mk hf
      clear HF hf
      -- the way out of the loop, whichever of the three is false
      have h1 : i < l.length ∨ ¬ i < l.length := by omega
      have HB := Aside0.mk hB
      have HRES := Aside0.mk hres
      have HCW := Aside0.mk hC
      have HI2 := Aside0.mk (show i ≤ 10 ∧ i ≤ l.length from ⟨i2, i3⟩)
      generalize (w.alloc (.cells #[.slice A l.length c, .int .i64 0] 97)).alloc (.cells #[.slice none 0 0, .int .i64 0] 97) = W at kp HB HRES HCW ⊢
      clear hB hres hC hst hlead
      by_cases c1 : i < l.length
      · have d1 : decide ((i : Int) < (l.length : Int)) = true := decide_eq_true (by omega)
        have d2 : decide (i < l.length) = true := decide_eq_true c1
        by_cases c2 : i < 10
        · have d3 : decide ((i : Int) < 10) = true := decide_eq_true (by omega)
          have d4 : decide (i < 10) = true := decide_eq_true c2
          have d5 : decide (128 ≤ rd l (i : Int)) = false := decide_eq_false (fun h => cA ⟨c1, c2, h⟩)
          obtain ⟨ad, ead, hx⟩ := Kd.at_int HCW.out (i : Int) (by omega) (by omega)
          cases ead
          rw [Int.toNat_natCast] at hx
          have p0 := eq_true (show (0 : Int) ≤ (i : Int) by omega)
          have q0 := eq_true (show (i : Int) < (l.length : Int) by omega)
          have d6 : ((i : Int) == (l.length : Int)) = false := beq_eq_false_iff_ne.mpr (by omega)
          have d7 : ((i : Int) == 10) = false := beq_eq_false_iff_ne.mpr (by omega)
          have hf := HF2.out
          rw [if_neg (by omega)] at hf
          obtain ⟨nv, hnv, hf⟩ := Option.bind_eq_some_iff.mp hf
          obtain ⟨bb, hbb, hf⟩ := Option.bind_eq_some_iff.mp hf
          obtain ⟨s, hsm, hf⟩ := Option.bind_eq_some_iff.mp hf
          have HNV := Aside0.mk hnv
          have HBB := Aside0.mk hbb
          have HSM := Aside0.mk hsm
          have HF3 := Aside0.mk hf
          obtain ⟨m, hm⟩ : ∃ m, m = i + 1 := ⟨_, rfl⟩
          rw [← hm] at HNV HSM HF3
          have hi1 : wrap64 ((i : Int) + 1) = (m : Int) := by unfold wrap64; omega
          have htl : (l.take m).length = m := by rw [List.length_take]; omega
          have hct := Kd.C_take HCW.out (show m ≤ l.length by omega)
          rw [htl] at hct
          have HCT := Aside0.mk hct
          have HI3 := Aside0.mk (show i < l.length ∧ i < 10 from ⟨c1, c2⟩)
          have hcc : m ≤ c := by have := HC.out; omega
          have HM := Aside0.mk hm
          have HCC := Aside0.mk hcc
          have hV : ∀ W', Kd.C (Kd.int .u8) W' (some ad) m (l.take m) → Calls Try.prog 75 #[.slice (some ad) m c] W' fun e w' => e = .returned (.int .u64 nv) ∧ Drawn0 W' w' := fun W' h => by
            have := dogwatchref09_value.calls k (some ad) c (l.take m) nv W' (by rw [htl]; exact h) (by rw [htl]; exact hcc) HNV.out
            rw [htl] at this
            exact this
          have HV := Aside0.mk hV
          clear hV
          clear hnv hbb hsm hf HF2 i1 i2 i3 i4 h1 cA c1 c2 HI HI2 hct hcc hm
          go_upto_region 8 with (fail)
          have p1 := eq_true (show (0 : Int) ≤ (m : Int) by clear hi1; omega)
          have p2 := eq_true (show (m : Int) ≤ (c : Int) by have := HCC.out; clear hi1; omega)
          have p3 := eq_true (show m ≤ c from HCC.out)
          go_upto_region 9 with (go_at_call 75; (with_reducible refine (HV.out _ HCT.out).mono ?_); rintro e w3 ⟨rfl, ⟨nd, rfl⟩⟩)
          have hi2 : IntKind.i64.wrap ((i : Int) + 1) = (m : Int) := by have h_ := hi1; clear p1 p2 p3 hi1; rw [IntKind.wrap_i64]; have := HM.out; have := HL.out; have := HI3.out; omega
          refine wp_region_held_drew (S := fun W' => Below W.heap.size W W' ∧ W'.cell? ⟨w.heap.size, 0, none⟩ = some (.slice (some ad) l.length c)) (by kernel_rfl) ⟨below_drew (pw_below_drewN (Below.refl _ _) _), kp⟩ (fun hHeld => ?_)
          refine wpAnyH_take (i := 0) (v := ?v0) (oi := { dst := some 47, op := Op.move (Operand.tmp 7), type := 80, pos := "ref.go:57", after := #[], guard := none }) rfl (by kernel_rfl) (by kernel_rfl) (by kernel_rfl) (fun _ _ _ h => h) (Or.inl ⟨by rfl, ?hy0⟩) (by assumption) ?rest0
          case hy0 => (intro w hSw; (try dsimp only at hSw); go_split_ands; go_simp; try with_reducible rfl)
          (try simp only [Act.put, List.setIfInBounds_toArray, List.set_cons_zero, List.set_cons_succ])
          refine wpAnyH_take (i := 2) (v := ?v2) (oi := { dst := some 49, op := Op.fieldAddr 97 (Operand.tmp 2) 0, type := 0, pos := "ref.go:57", after := #[], guard := none }) rfl (by kernel_rfl) (by kernel_rfl) (by kernel_rfl) (fun _ _ _ h => h) (Or.inl ⟨by rfl, ?hy2⟩) (by assumption) ?rest2
          case hy2 => (intro w hSw; (try dsimp only at hSw); go_split_ands; go_simp; try with_reducible rfl)
          (try simp only [Act.put, List.setIfInBounds_toArray, List.set_cons_zero, List.set_cons_succ])
          refine wpAnyH_take (i := 3) (v := ?v3) (oi := { dst := some 50, op := Op.load 27 (Operand.tmp 49), type := 27, pos := "ref.go:57", after := #[{ on := 2, ground := Ground.data }], guard := none }) rfl (by kernel_rfl) (by kernel_rfl) (by kernel_rfl) (fun _ _ _ h => h) (Or.inl ⟨by rfl, ?hy3⟩) (by assumption) ?rest3
          case hy3 => (intro w hSw; (try dsimp only at hSw); go_split_ands; go_simp; try with_reducible rfl)
          (try simp only [Act.put, List.setIfInBounds_toArray, List.set_cons_zero, List.set_cons_succ])
          refine wpAnyH_take (i := 4) (v := ?v4) (oi := { dst := some 51, op := Op.move (Operand.tmp 6), type := 3, pos := "ref.go:57", after := #[], guard := none }) rfl (by kernel_rfl) (by kernel_rfl) (by kernel_rfl) (fun _ _ _ h => h) (Or.inl ⟨by rfl, ?hy4⟩) (by assumption) ?rest4
          case hy4 => (intro w hSw; (try dsimp only at hSw); go_split_ands; go_simp; try with_reducible rfl)
          (try simp only [Act.put, List.setIfInBounds_toArray, List.set_cons_zero, List.set_cons_succ])
          refine wpAnyH_take (i := 5) (v := ?v5) (oi := { dst := some 52, op := Op.binOp BinOp.add 3 (Operand.tmp 51) (Operand.const (Value.int IntKind.i64 1)) 3, type := 3, pos := "ref.go:57", after := #[{ on := 4, ground := Ground.data }], guard := none }) rfl (by kernel_rfl) (by kernel_rfl) (by kernel_rfl) (fun _ _ _ h => h) (Or.inl ⟨by rfl, ?hy5⟩) (by assumption) ?rest5
          case hy5 => (intro w hSw; (try dsimp only at hSw); go_split_ands; go_simp; try with_reducible rfl)
          (try simp only [Act.put, List.setIfInBounds_toArray, List.set_cons_zero, List.set_cons_succ])
          refine wpAnyH_take (i := 6) (v := ?v6) (oi := { dst := some 53, op := Op.slice 27 (Operand.tmp 50) none (some (Operand.tmp 52)) none, type := 27, pos := "ref.go:57", after := #[{ on := 3, ground := Ground.data }, { on := 5, ground := Ground.data }], guard := none }) rfl (by kernel_rfl) (by kernel_rfl) (by kernel_rfl) (fun _ _ _ h => h) (Or.inl ⟨by rfl, ?hy6⟩) (by assumption) ?rest6
          case hy6 => (intro w hSw; (try dsimp only at hSw); go_split_ands; go_simp; try with_reducible rfl)
          (try simp only [Act.put, List.setIfInBounds_toArray, List.set_cons_zero, List.set_cons_succ])
          refine wpAnyH_ready (rs := [1]) (by kernel_rfl) (by simp) ?_
          refine AllReadyH.cons (o := { dst := some 48, op := Op.call { callee := Callee.value (Operand.func 52), args := #[Operand.tmp 47], argTypes := #[80] }, type := 27, pos := "ref.go:57", after := #[{ on := 0, ground := Ground.data }], guard := none }) rfl (fun K hK => ?_) AllReadyH.nil
          go_simp
          with_reducible refine (dogwatchref09_Num.calls k nv bb _ HBB.out).mono ?_
          rintro e w5 ⟨v5, rfl, ho5, hb5⟩
          obtain ⟨A5, c5, rfl⟩ := Kd.R_slice ho5
          have HO5 := Aside0.mk ho5
          have HB5 := Aside0.mk (show Below W.heap.size W w5 from below_step (below_drew (pw_below_drewN (Below.refl _ _) _)) hb5)
          clear ho5 hb5
          refine hK.out _ _ ?_ (fun hHeld => ?_)
          · exact ⟨HB5.out, pw_cell_below HB5.out kp⟩
          clear hK K
          (try simp only [Act.put, List.setIfInBounds_toArray, List.set_cons_zero, List.set_cons_succ])
          have hsame : Calls Try.prog 76 #[.slice A5 bb.length c5, .slice (some ad) m c] w5 fun e w' => e = .returned (.bool s) ∧ Drawn0 w5 w' := by
            have hq := Kd.R_reads' HO5.out
            have := dogwatchref09_same.calls A5 c5 bb (some ad) c (l.take m) s w5 hq.2.2 hq.2.1 (by rw [htl]; exact Kd.C_below HCT.out HB5.out) (by rw [htl]; exact HCC.out) HSM.out
            rw [htl] at this
            exact this
          have HSAME := Aside0.mk hsame
          clear hsame
          refine wpAnyH_ready (rs := [7]) (by kernel_rfl) (by simp) ?_
          refine AllReadyH.cons (o := { dst := some 54, op := Op.call { callee := Callee.value (Operand.func 76), args := #[Operand.tmp 48, Operand.tmp 53], argTypes := #[27, 27] }, type := 4, pos := "ref.go:57", after := #[{ on := 1, ground := Ground.data }, { on := 6, ground := Ground.data }, { on := 1, ground := Ground.chain }], guard := none }) rfl (fun K hK => ?_) AllReadyH.nil
          go_simp
          with_reducible refine HSAME.out.mono ?_
          rintro e w6 ⟨rfl, ⟨n6, rfl⟩⟩
          refine hK.out _ _ ?_ (fun hHeld => ?_)
          · exact ⟨pw_below_drewN HB5.out _, pw_cell_below HB5.out kp⟩
          clear hK K
          (try simp only [Act.put, List.setIfInBounds_toArray, List.set_cons_zero, List.set_cons_succ])
          refine wpAnyH_take (i := 8) (v := ?v8) (oi := { dst := some 55, op := Op.unOp UnOp.not 4 (Operand.tmp 54), type := 4, pos := "ref.go:57", after := #[{ on := 7, ground := Ground.data }], guard := none }) rfl (by kernel_rfl) (by kernel_rfl) (by kernel_rfl) (fun _ _ _ h => h) (Or.inl ⟨by rfl, ?hy8⟩) (by assumption) ?rest8
          case hy8 => (intro w hSw; (try dsimp only at hSw); go_split_ands; go_simp; try with_reducible rfl)
          (try simp only [Act.put, List.setIfInBounds_toArray, List.set_cons_zero, List.set_cons_succ])
          refine wpAnyH_done (by kernel_rfl) ?_ _
          have hres6 := ((pw_below_drewN HB5.out n6).block _ (blk_lt HRES.out)).trans HRES.out
          have hf3 := HF3.out
          by_cases hs : s = true
          case neg =>
            rw [if_neg hs] at hf3
            simp only [Option.some.injEq, Prod.mk.injEq] at hf3
            obtain ⟨rfl, rfl, rfl⟩ := hf3
            have hs0 : s = false := by simpa using hs
            subst hs0
            clear HF3
            have HR6 := Aside0.mk hres6
            have HB6 := Aside0.mk (show Below w.heap.size w (w5.drewN n6) from below_step HB.out (pw_below_drewN HB5.out _))
            generalize w5.drewN n6 = W6 at hres6 HR6 HB6 ⊢
            have r0 : W6.cell? ⟨w.heap.size + 1, 0, none⟩ = some (.slice none 0 0) := by simp [World.cell?, hres6]
            have r1 : W6.cell? ⟨w.heap.size + 1, 1, none⟩ = some (.int .i64 0) := by simp [World.cell?, hres6]
            have t0 : W6.frozen? ⟨w.heap.size + 1, 0, none⟩ = false := by simp [World.frozen?, hres6]
            have t1 : W6.frozen? ⟨w.heap.size + 1, 1, none⟩ = false := by simp [World.frozen?, hres6]
            clear hres6
            go_wp2_with (go_at_call 74; (with_reducible refine (dogwatchref09_bad.calls 3 [] 3 _ rfl).mono ?_); rintro e w3 ⟨v3, rfl, ho3, hb3⟩; obtain ⟨A3, c3, rfl⟩ := Kd.R_slice ho3; have HO3 := Aside0.mk ho3; have HB3 := Aside0.mk hb3; have r0' := pw_cell_below hb3 r0; have r1' := pw_cell_below hb3 r1; have t0' := (hb3.frozen (p := ⟨w.heap.size + 1, 0, none⟩) (blk_lt HR6.out)).trans t0; have t1' := (hb3.frozen (p := ⟨w.heap.size + 1, 1, none⟩) (blk_lt HR6.out)).trans t1; clear ho3 hb3)
            (try simp only [Exit.inBlock, Exit.then])
            have p0 := (HB3.out.block _ (blk_lt HR6.out)).trans HR6.out
            refine bodyPost_ret (results_ct rfl _ _ (w.heap.size + 1) 97 #[.slice A3 0 c3, .int .i64 3] (0, 0) _ rfl ?hblk Try.underlying97 rfl (by kernel_rfl)) rfl ?_
            case hblk => exact blk_put (cs := #[.slice A3 0 c3, .int .i64 0]) (blk_put (cs := #[.slice none 0 0, .int .i64 0]) p0 0 _ rfl) 1 _ rfl
            obtain ⟨q1, q2, q3⟩ := Kd.R_reads' HO3.out
            exact ⟨A3, c3, rfl, q2, .inr rfl, below_set (below_set (below_step HB6.out HB3.out) (by omega)) (by omega)⟩
          subst hs
          rw [if_pos rfl] at hf3
          by_cases hlim : limit < nv
          · rw [if_pos hlim] at hf3
            simp only [Option.some.injEq, Prod.mk.injEq] at hf3
            obtain ⟨rfl, rfl, rfl⟩ := hf3
            have dl : decide (limit < nv) = true := decide_eq_true hlim
            clear hlim
            clear HF3
            have HR6 := Aside0.mk hres6
            have HB6 := Aside0.mk (show Below w.heap.size w (w5.drewN n6) from below_step HB.out (pw_below_drewN HB5.out _))
            generalize w5.drewN n6 = W6 at hres6 HR6 HB6 ⊢
            have r0 : W6.cell? ⟨w.heap.size + 1, 0, none⟩ = some (.slice none 0 0) := by simp [World.cell?, hres6]
            have r1 : W6.cell? ⟨w.heap.size + 1, 1, none⟩ = some (.int .i64 0) := by simp [World.cell?, hres6]
            have t0 : W6.frozen? ⟨w.heap.size + 1, 0, none⟩ = false := by simp [World.frozen?, hres6]
            have t1 : W6.frozen? ⟨w.heap.size + 1, 1, none⟩ = false := by simp [World.frozen?, hres6]
            clear hres6
            go_wp2_with (go_at_call 74; (with_reducible refine (dogwatchref09_bad.calls 5 [] 5 _ rfl).mono ?_); rintro e w3 ⟨v3, rfl, ho3, hb3⟩; obtain ⟨A3, c3, rfl⟩ := Kd.R_slice ho3; have HO3 := Aside0.mk ho3; have HB3 := Aside0.mk hb3; have r0' := pw_cell_below hb3 r0; have r1' := pw_cell_below hb3 r1; have t0' := (hb3.frozen (p := ⟨w.heap.size + 1, 0, none⟩) (blk_lt HR6.out)).trans t0; have t1' := (hb3.frozen (p := ⟨w.heap.size + 1, 1, none⟩) (blk_lt HR6.out)).trans t1; clear ho3 hb3)
            (try simp only [Exit.inBlock, Exit.then])
            have p0 := (HB3.out.block _ (blk_lt HR6.out)).trans HR6.out
            refine bodyPost_ret (results_ct rfl _ _ (w.heap.size + 1) 97 #[.slice A3 0 c3, .int .i64 5] (0, 0) _ rfl ?hblk Try.underlying97 rfl (by kernel_rfl)) rfl ?_
            case hblk => exact blk_put (cs := #[.slice A3 0 c3, .int .i64 0]) (blk_put (cs := #[.slice none 0 0, .int .i64 0]) p0 0 _ rfl) 1 _ rfl
            obtain ⟨q1, q2, q3⟩ := Kd.R_reads' HO3.out
            exact ⟨A3, c3, rfl, q2, .inr rfl, below_set (below_set (below_step HB6.out HB3.out) (by omega)) (by omega)⟩
          · rw [if_neg hlim] at hf3
            simp only [Option.some.injEq, Prod.mk.injEq] at hf3
            obtain ⟨rfl, rfl, rfl⟩ := hf3
            have dl : decide (limit < nv) = false := decide_eq_false hlim
            clear hlim HF3
            have hml : m ≤ l.length := by have := HM.out; have := HI3.out; omega
            have hcut := cut_at (some ad) l.length c m hml
            obtain ⟨A', hA'⟩ : ∃ A', A' = (if c = m then some ad else (some ad).map (·.add m)) := ⟨_, rfl⟩
            rw [← hA'] at hcut
            have HA := Aside0.mk hA'
            have kp6 : (w5.drewN n6).cell? ⟨w.heap.size, 0, none⟩ = some (.slice (some ad) l.length c) := pw_cell_below HB5.out kp
            have HR6 := Aside0.mk hres6
            have HB6 := Aside0.mk (show Below w.heap.size w (w5.drewN n6) from below_step HB.out (pw_below_drewN HB5.out _))
            have HML := Aside0.mk hml
            clear hA' hml hHeld
            generalize w5.drewN n6 = W6 at hres6 HR6 HB6 kp6 ⊢
            have r0 : W6.cell? ⟨w.heap.size + 1, 0, none⟩ = some (.slice none 0 0) := by simp [World.cell?, hres6]
            have r1 : W6.cell? ⟨w.heap.size + 1, 1, none⟩ = some (.int .i64 0) := by simp [World.cell?, hres6]
            have t0 : W6.frozen? ⟨w.heap.size + 1, 0, none⟩ = false := by simp [World.frozen?, hres6]
            have t1 : W6.frozen? ⟨w.heap.size + 1, 1, none⟩ = false := by simp [World.frozen?, hres6]
            clear hres6
            go_wp2
            (try simp only [Exit.inBlock, Exit.then])
            refine bodyPost_ret (results_ct rfl _ _ (w.heap.size + 1) 97 #[.slice A' (l.length - m) (c - m), .int .i64 0] (0, 0) _ rfl ?hblk Try.underlying97 rfl (by kernel_rfl)) rfl ?_
            case hblk => exact blk_put (cs := #[.slice A' (l.length - m) (c - m), .int .i64 0]) (blk_put (cs := #[.slice none 0 0, .int .i64 0]) HR6.out 0 _ rfl) 1 _ rfl
            exact ⟨A', c - m, by rw [List.length_drop]; rfl, by have := HC.out; rw [List.length_drop]; omega, .inl ⟨m, HML.out, HA.out, rfl⟩, below_set (below_set HB6.out (by omega)) (by omega)⟩
        · obtain rfl : i = 10 := by omega
          have hf := HF2.out
          rw [if_pos (by omega)] at hf
          simp only [Option.some.injEq, Prod.mk.injEq] at hf
          obtain ⟨rfl, rfl, rfl⟩ := hf
          have r0 : W.cell? ⟨w.heap.size + 1, 0, none⟩ = some (.slice none 0 0) := by simp [World.cell?, HRES.out]
          have r1 : W.cell? ⟨w.heap.size + 1, 1, none⟩ = some (.int .i64 0) := by simp [World.cell?, HRES.out]
          have t0 : W.frozen? ⟨w.heap.size + 1, 0, none⟩ = false := by simp [World.frozen?, HRES.out]
          have t1 : W.frozen? ⟨w.heap.size + 1, 1, none⟩ = false := by simp [World.frozen?, HRES.out]
          clear i1 i2 i3 i4 h1 cA HF2 HI HI2
          go_wp2_with (go_at_call 74; (with_reducible refine (dogwatchref09_bad.calls 3 [] 3 _ rfl).mono ?_); rintro e w3 ⟨v3, rfl, ho3, hb3⟩; obtain ⟨A3, c3, rfl⟩ := Kd.R_slice ho3; have HO3 := Aside0.mk ho3; have HB3 := Aside0.mk hb3; have r0' := pw_cell_below hb3 r0; have r1' := pw_cell_below hb3 r1; have t0' := (hb3.frozen (p := ⟨w.heap.size + 1, 0, none⟩) (blk_lt HRES.out)).trans t0; have t1' := (hb3.frozen (p := ⟨w.heap.size + 1, 1, none⟩) (blk_lt HRES.out)).trans t1; clear ho3 hb3)
          (try simp only [Exit.inBlock, Exit.then])
          have p0 := (HB3.out.block _ (blk_lt HRES.out)).trans HRES.out
          refine bodyPost_ret (results_ct rfl _ _ (w.heap.size + 1) 97 #[.slice A3 0 c3, .int .i64 3] (0, 0) _ rfl ?hblk Try.underlying97 rfl (by kernel_rfl)) rfl ?_
          case hblk => exact blk_put (cs := #[.slice A3 0 c3, .int .i64 0]) (blk_put (cs := #[.slice none 0 0, .int .i64 0]) p0 0 _ rfl) 1 _ rfl
          obtain ⟨q1, q2, q3⟩ := Kd.R_reads' HO3.out
          exact ⟨A3, c3, rfl, q2, .inr rfl, below_set (below_set (below_step HB.out HB3.out) (by omega)) (by omega)⟩
      · have d1 : decide ((i : Int) < (l.length : Int)) = false := decide_eq_false (by omega)
        have d2 : decide (i < l.length) = false := decide_eq_false c1
        obtain rfl : i = l.length := by omega
        have d6 : ((l.length : Int) == (l.length : Int)) = true := beq_self_eq_true _
        by_cases c3 : l.length = 10
        · have d7 : ((l.length : Int) == 10) = true := beq_iff_eq.mpr (by omega)
          have hf := HF2.out
          rw [if_pos (by omega)] at hf
          simp only [Option.some.injEq, Prod.mk.injEq] at hf
          obtain ⟨rfl, rfl, rfl⟩ := hf
          have r0 : W.cell? ⟨w.heap.size + 1, 0, none⟩ = some (.slice none 0 0) := by simp [World.cell?, HRES.out]
          have r1 : W.cell? ⟨w.heap.size + 1, 1, none⟩ = some (.int .i64 0) := by simp [World.cell?, HRES.out]
          have t0 : W.frozen? ⟨w.heap.size + 1, 0, none⟩ = false := by simp [World.frozen?, HRES.out]
          have t1 : W.frozen? ⟨w.heap.size + 1, 1, none⟩ = false := by simp [World.frozen?, HRES.out]
          clear i1 i2 i3 i4 h1 cA HF2 HI HI2
          go_wp2_with (go_at_call 74; (with_reducible refine (dogwatchref09_bad.calls 3 [] 3 _ rfl).mono ?_); rintro e w3 ⟨v3, rfl, ho3, hb3⟩; obtain ⟨A3, c3, rfl⟩ := Kd.R_slice ho3; have HO3 := Aside0.mk ho3; have HB3 := Aside0.mk hb3; have r0' := pw_cell_below hb3 r0; have r1' := pw_cell_below hb3 r1; have t0' := (hb3.frozen (p := ⟨w.heap.size + 1, 0, none⟩) (blk_lt HRES.out)).trans t0; have t1' := (hb3.frozen (p := ⟨w.heap.size + 1, 1, none⟩) (blk_lt HRES.out)).trans t1; clear ho3 hb3)
          (try simp only [Exit.inBlock, Exit.then])
          have p0 := (HB3.out.block _ (blk_lt HRES.out)).trans HRES.out
          refine bodyPost_ret (results_ct rfl _ _ (w.heap.size + 1) 97 #[.slice A3 0 c3, .int .i64 3] (0, 0) _ rfl ?hblk Try.underlying97 rfl (by kernel_rfl)) rfl ?_
          case hblk => exact blk_put (cs := #[.slice A3 0 c3, .int .i64 0]) (blk_put (cs := #[.slice none 0 0, .int .i64 0]) p0 0 _ rfl) 1 _ rfl
          obtain ⟨q1, q2, q3⟩ := Kd.R_reads' HO3.out
          exact ⟨A3, c3, rfl, q2, .inr rfl, below_set (below_set (below_step HB.out HB3.out) (by omega)) (by omega)⟩
        · have d7 : ((l.length : Int) == 10) = false := beq_eq_false_iff_ne.mpr (by omega)
          have hf := HF2.out
          rw [if_pos (by omega)] at hf
          simp only [Option.some.injEq, Prod.mk.injEq] at hf
          obtain ⟨rfl, rfl, rfl⟩ := hf
          have r0 : W.cell? ⟨w.heap.size + 1, 0, none⟩ = some (.slice none 0 0) := by simp [World.cell?, HRES.out]
          have r1 : W.cell? ⟨w.heap.size + 1, 1, none⟩ = some (.int .i64 0) := by simp [World.cell?, HRES.out]
          have t0 : W.frozen? ⟨w.heap.size + 1, 0, none⟩ = false := by simp [World.frozen?, HRES.out]
          have t1 : W.frozen? ⟨w.heap.size + 1, 1, none⟩ = false := by simp [World.frozen?, HRES.out]
          clear i1 i2 i3 i4 h1 cA HF2 HI HI2
          go_wp2_with (go_at_call 74; (with_reducible refine (dogwatchref09_bad.calls 3 [] 3 _ rfl).mono ?_); rintro e w3 ⟨v3, rfl, ho3, hb3⟩; obtain ⟨A3, c3, rfl⟩ := Kd.R_slice ho3; have HO3 := Aside0.mk ho3; have HB3 := Aside0.mk hb3; have r0' := pw_cell_below hb3 r0; have r1' := pw_cell_below hb3 r1; have t0' := (hb3.frozen (p := ⟨w.heap.size + 1, 0, none⟩) (blk_lt HRES.out)).trans t0; have t1' := (hb3.frozen (p := ⟨w.heap.size + 1, 1, none⟩) (blk_lt HRES.out)).trans t1; clear ho3 hb3)
          (try simp only [Exit.inBlock, Exit.then])
          have p0 := (HB3.out.block _ (blk_lt HRES.out)).trans HRES.out
          refine bodyPost_ret (results_ct rfl _ _ (w.heap.size + 1) 97 #[.slice A3 0 c3, .int .i64 3] (0, 0) _ rfl ?hblk Try.underlying97 rfl (by kernel_rfl)) rfl ?_
          case hblk => exact blk_put (cs := #[.slice A3 0 c3, .int .i64 0]) (blk_put (cs := #[.slice none 0 0, .int .i64 0]) p0 0 _ rfl) 1 _ rfl
          obtain ⟨q1, q2, q3⟩ := Kd.R_reads' HO3.out
          exact ⟨A3, c3, rfl, q2, .inr rfl, below_set (below_set (below_step HB.out HB3.out) (by omega)) (by omega)⟩
end Go.Proofs.Ytgfkcmmhnibaiaa.PRw
