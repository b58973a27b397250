/- row.Alone, walked by hand: a set of the ids met, row by row. -/
import Derived.Test.YtgfkcmmhnibaiaaPRwx0
import Derived.Maps.OwnSet
namespace Go.Proofs.Ytgfkcmmhnibaiaa.PRw
open Go.RowKit Go.Proofs.YtgfkcmmhnibaiaaW.PrintWords Go.Proofs.YtgfkcmmhnibaiaaW.PrintLast Go.Proofs.YtgfkcmmhnibaiaaW.PrintMore
open Go.Maps
set_option linter.unusedVariables false
set_option linter.unusedSimpArgs false
def inI64 (x : Int) : Bool := decide (-9223372036854775808 ≤ x) && decide (x ≤ 9223372036854775807)
/-- Nobody stands twice, behind those that were met. -/
def aloneFrom (seen : List Int) : List Int → Bool
  | [] => true
  | x :: t => if (seen.contains x && x != 0) = true then false else aloneFrom (seen ++ [x]) t
def aloneR (r : List Int) : Bool := aloneFrom [] r
def row_Alone.f (rows : List (List Int)) : Option Bool := if rows.all (fun r => r.all inI64) = true then some (rows.all aloneR) else none
theorem law3 : Keyed Try.prog 3 := int_keyed Try.underlying3
theorem zero90 (w : World) : (zeroValue 90).run Try.prog w = .ok (.agg #[]) w := by kernel_rfl
def metS (l : List Int) : DataW Unit := setOf (.agg []) (l.map (Lit.int .i64))
theorem metS_nil : metS [] = .map [] := rfl
theorem metS_snoc (l : List Int) (x : Int) : metS (l ++ [x]) = (metS l).put (.int .i64 x) (.agg []) := by
  unfold metS
  rw [List.map_append, List.map_singleton, setOf_snoc]
theorem metS_has (l : List Int) (x : Int) : Maps.has (metS l) (Lit.int .i64 x) = l.contains x := by
  unfold metS
  rw [has_setOf _ _ _ (by intro y hy; obtain ⟨z, _, rfl⟩ := List.mem_map.mp hy; simp [WideAt.IsKeyLit])]
  rw [List.any_map]
  induction l with
  | nil => rfl
  | cons y l ih =>
    rw [List.any_cons, ih, List.contains_cons]
    congr 1
    simp only [Function.comp_apply, Lit.sameKey]
    by_cases h : y = x
    · rw [h]; simp
    · have h2 : ¬ x = y := fun e => h e.symm
      simp [h, h2]
theorem key3 {x : Int} (h : inI64 x = true) : keyOf Try.prog 3 (.int .i64 x) = some (.int .i64 x) := by
  refine keyOf_int_mk Try.underlying3 ?_
  unfold inI64 at h
  simp at h
  simp [Lit.wf, IntKind.min, IntKind.max, IntKind.bits, IntKind.signed]
  omega
theorem al_drop (rows : List (List Int)) (i : Nat) (h : i < rows.length) : (rows.drop i).all aloneR = (aloneR (rd_L1 rows (i : Int)) && (rows.drop (i + 1)).all aloneR) := by
  have e : rd_L1 rows (i : Int) = rows[i] := by simp [rd_L1, List.getD_eq_getElem?_getD, h]
  rw [e, List.drop_eq_getElem_cons h, List.all_cons]
theorem rd_get (l : List Int) (i : Nat) (h : i < l.length) : rd l (i : Int) = l[i] := by
  simp [rd, List.getD_eq_getElem?_getD, h]
theorem from_step (r : List Int) (j : Nat) (h : j < r.length) : aloneFrom (r.take j) (r.drop j) = if ((r.take j).contains (rd r (j : Int)) && rd r (j : Int) != 0) = true then false else aloneFrom (r.take (j + 1)) (r.drop (j + 1)) := by
  rw [List.drop_eq_getElem_cons h, aloneFrom, rd_get r j h, List.take_succ_eq_append_getElem h]
set_option maxHeartbeats 8000000 in
set_option maxRecDepth 100000 in
theorem row_Alone.calls (A0 : Option Addr) (c0 : Nat) (l0 : List (List Int)) (r : Bool) (w : World) (hr0 : Kd.C (Kd.slice 3 (Kd.int .i64)) w A0 l0.length l0) (hc0 : l0.length ≤ c0) (h : row_Alone.f l0 = some r) :
    Calls Try.prog 41 #[.slice A0 l0.length c0] w fun e w' => e = .returned (.bool r) ∧ Below w.heap.size w w' := by
  unfold row_Alone.f at h
  by_cases hw : l0.all (fun r => r.all inI64) = true
  case neg => rw [if_neg hw] at h; exact absurd h (by simp)
  rw [if_pos hw] at h
  simp only [Option.some.injEq] at h
  have HR := Aside0.mk hr0
  have HW := Aside0.mk hw
  have HBB := Aside0.mk h
  have HMX := Aside0.mk hr0.2.1
  have hmm := @run_makeMap Try.prog
  clear hr0 hc0 hw h
  go_enter Try.func41, Try.ntmps41
  go_wp2
  go_loopg [12] (l0.length + 1) (fun kq v12 w' => ∃ i : Nat, v12 = .int .i64 (i : Int) ∧ Aside0 (i + kq = l0.length + 1) ∧ Aside0 (i ≤ l0.length) ∧ Aside0 (l0.all aloneR = (l0.drop i).all aloneR) ∧ Aside0 (Below w.heap.size w w'))
  case atStart => exact ⟨0, rfl, ⟨by omega⟩, ⟨by omega⟩, ⟨by rw [List.drop_zero]⟩, ⟨Below.refl _ _⟩⟩
  case round =>
    obtain ⟨i, rfl, HK, HI, HA, HB⟩ := hrel
    cases gk with
    | zero => exact absurd HK.out (by have := HI.out; omega)
    | succ k1 =>
      by_cases cc : i < l0.length
      · have d5 : decide ((i : Int) < (l0.length : Int)) = true := decide_eq_true (by omega)
        have d6 : decide (i < l0.length) = true := decide_eq_true cc
        obtain ⟨ad, A1, c1, ead, hx, hl1, hi1⟩ := at_L1 (Kd.C_below HR.out HB.out) (i : Int) (by omega) (by omega)
        cases ead
        have p0 := eq_true (show (0 : Int) ≤ (i : Int) by omega)
        have q0 := eq_true (show (i : Int) < (l0.length : Int) by omega)
        have ha := HA.out
        rw [al_drop l0 i cc] at ha
        rw [Int.toNat_natCast] at hx
        have HI' := Aside0.mk cc
        have hwr : (rd_L1 l0 (i : Int)).all inI64 = true := by
          have e : rd_L1 l0 (i : Int) = l0[i] := by simp [rd_L1, List.getD_eq_getElem?_getD, cc]
          rw [e]
          exact List.all_eq_true.mp HW.out _ (List.getElem_mem _)
        have HWR := Aside0.mk hwr
        have HMR := Aside0.mk hi1.2.1
        have HI1 := Aside0.mk hi1
        have HA1 := Aside0.mk ha
        clear cc HA hwr hi1 hl1 ha
        generalize rd_L1 l0 (i : Int) = r1 at *
        obtain ⟨wo, hwo⟩ : ∃ wo : World, wo = wr := ⟨_, rfl⟩
        subst hwo
        go_wp2
        go_loopg [19] (r1.length + 1) (fun kq v19 w' => ∃ j : Nat, v19 = .int .i64 (j : Int) ∧ Aside0 (j + kq = r1.length + 1) ∧ Aside0 (j ≤ r1.length) ∧ Aside0 (aloneR r1 = aloneFrom (r1.take j) (r1.drop j)) ∧ Aside0 (Below wo.heap.size wo w') ∧ Aside0 (w'.ownsMap Try.prog 3 unitElem wo.heap.size j (metS (r1.take j))))
        case atStart => exact ⟨0, rfl, ⟨by omega⟩, ⟨by omega⟩, ⟨by rw [List.drop_zero]; rfl⟩, ⟨(Below.refl _ _).alloc (Nat.le_refl _) _⟩, ⟨by rw [List.take_zero, metS_nil]; exact World.ownsMap_made _ _ _ _⟩⟩
        case round =>
          obtain ⟨j, rfl, HJ, HJ2, HF, HB2, HOW⟩ := hrel
          cases gk with
          | zero => exact absurd HJ.out (by have := HJ2.out; omega)
          | succ k2 =>
            by_cases cj : j < r1.length
            · have d7 : decide ((j : Int) < (r1.length : Int)) = true := decide_eq_true (by omega)
              have d8 : decide (j < r1.length) = true := decide_eq_true cj
              obtain ⟨ad2, ead2, hx2⟩ := Kd.at_int (Kd.C_below HI1.out HB2.out) (j : Int) (by omega) (by omega)
              cases ead2
              rw [Int.toNat_natCast] at hx2
              have p2 := eq_true (show (0 : Int) ≤ (j : Int) by omega)
              have q2 := eq_true (show (j : Int) < (r1.length : Int) by omega)
              have hf := HF.out
              rw [from_step r1 j cj] at hf
              have HJ3 := Aside0.mk cj
              have hkey := key3 (x := rd r1 (j : Int)) (by rw [rd_get r1 j cj]; exact List.all_eq_true.mp HWR.out _ (List.getElem_mem _))
              have HKEY := Aside0.mk hkey
              have hsn : r1.take (j + 1) = r1.take j ++ [rd r1 (j : Int)] := by rw [rd_get r1 j cj, List.take_succ_eq_append_getElem cj]
              have HSN := Aside0.mk hsn
              have HF2 := Aside0.mk hf
              clear cj hf hkey hsn HF
              generalize rd r1 (j : Int) = x at *
              obtain ⟨bh, hbh⟩ : ∃ bh, (r1.take j).contains x = bh := ⟨_, rfl⟩
              have hh : Maps.has (metS (r1.take j)) (Lit.int .i64 x) = bh := by rw [metS_has, hbh]
              have hf := HF2.out
              rw [hbh] at hf
              have HF3 := Aside0.mk hf
              clear hbh hf HF2
              by_cases cs : bh = true ∧ x ≠ 0
              · obtain ⟨rfl, hx0⟩ := cs
                have e0 : (x != 0) = true := bne_iff_ne.mpr hx0
                have hfin : r = false := by
                  have q := HF3.out
                  rw [e0] at q
                  rw [← HBB.out, HA1.out, q]
                  rfl
                have HFIN := Aside0.mk hfin
                clear hfin hx0
                go_wp2_with (at_lookup; refine wpList_lookup_own_unit _ rfl _ _ 89 rfl 3 90 law3 Try.underlying89 (zero90 _) wo.heap.size j _ rfl HOW.out _ _ rfl HKEY.out ?_)
                go_ret
                exact ⟨(by rw [HFIN.out]; rfl), (below_alloc (below_step HB.out HB2.out) _)⟩
              · have hq : aloneR r1 = aloneFrom (r1.take (j + 1)) (r1.drop (j + 1)) := by
                  have q := HF3.out
                  rw [if_neg (by simpa using cs)] at q
                  exact q
                have HQ := Aside0.mk hq
                have CS := Aside0.mk cs
                clear hq cs HF3
                have fin : ∀ w1 : World, (wr.alloc (.cells #[] 90)).grownBy w1 (some wo.heap.size) → w1.ownsMap Try.prog 3 unitElem wo.heap.size (j + 1) ((metS (r1.take j)).put (.int .i64 x) (.agg [])) → Aside0 (Below wo.heap.size wo w1) ∧ Aside0 (w1.ownsMap Try.prog 3 unitElem wo.heap.size (j + 1) (metS (r1.take (j + 1)))) := by
                  intro w1 g o
                  refine ⟨⟨(below_alloc HB2.out _).grown g (below_alloc HB2.out _).size (fun k hk => by cases hk; exact Nat.le_refl _)⟩, ⟨?_⟩⟩
                  rw [HSN.out, metS_snoc]
                  exact o
                have FIN := Aside0.mk fin
                clear fin
                cases bh with
                | false =>
                  go_wp2_with (first
                    | (at_lookup; refine wpList_lookup_own_unit _ rfl _ _ 89 rfl 3 90 law3 Try.underlying89 (zero90 _) wo.heap.size j _ rfl HOW.out _ _ rfl HKEY.out ?_)
                    | (at_mapUpdate; refine wpList_mapUpdate_own _ rfl _ _ _ 89 rfl 3 90 law3 Try.underlying89 (unitElem (H := Unit)) wo.heap.size j _ rfl (HOW.out.alloc _) (by have := HMR.out; have := HJ3.out; unfold maxLen; omega) _ _ _ rfl rfl HKEY.out _ [] unitElem_mk ?_; intro w1 hown1 hgrow1; have HO1 := Aside0.mk (FIN.out w1 hgrow1 hown1); clear hown1 hgrow1))
                  go_roundg k2
                  case measure => omega
                  case rel => exact ⟨j + 1, (by first | rfl | (simp; done) | (congr 1; unfold wrap64; have := HMR.out; have := HJ3.out; omega)), ⟨by have := HJ.out; omega⟩, ⟨by have := HJ3.out; omega⟩, HQ, HO1.out.1, HO1.out.2⟩
                | true =>
                  have e0 : (x != 0) = false := by
                    have := CS.out
                    rw [bne_eq_false_iff_eq]
                    by_cases h : x = 0
                    · exact h
                    · exact absurd ⟨rfl, h⟩ this
                  go_wp2_with (first
                    | (at_lookup; refine wpList_lookup_own_unit _ rfl _ _ 89 rfl 3 90 law3 Try.underlying89 (zero90 _) wo.heap.size j _ rfl HOW.out _ _ rfl HKEY.out ?_)
                    | (at_mapUpdate; refine wpList_mapUpdate_own _ rfl _ _ _ 89 rfl 3 90 law3 Try.underlying89 (unitElem (H := Unit)) wo.heap.size j _ rfl (HOW.out.alloc _) (by have := HMR.out; have := HJ3.out; unfold maxLen; omega) _ _ _ rfl rfl HKEY.out _ [] unitElem_mk ?_; intro w1 hown1 hgrow1; have HO1 := Aside0.mk (FIN.out w1 hgrow1 hown1); clear hown1 hgrow1))
                  go_roundg k2
                  case measure => omega
                  case rel => exact ⟨j + 1, (by first | rfl | (simp; done) | (congr 1; unfold wrap64; have := HMR.out; have := HJ3.out; omega)), ⟨by have := HJ.out; omega⟩, ⟨by have := HJ3.out; omega⟩, HQ, HO1.out.1, HO1.out.2⟩
            · have d7 : decide ((j : Int) < (r1.length : Int)) = false := decide_eq_false (by omega)
              have d8 : decide (j < r1.length) = false := decide_eq_false cj
              have hf := HF.out
              rw [List.drop_of_length_le (by omega), aloneFrom] at hf
              have HA2 := Aside0.mk (show l0.all aloneR = (l0.drop (i + 1)).all aloneR by rw [HA1.out, hf, Bool.true_and])
              clear cj hf HF
              go_wp2
              go_roundg k1
              case measure => omega
              case rel => exact ⟨i + 1, (by first | rfl | (simp; done) | (congr 1; unfold wrap64; have := HMX.out; have := HI'.out; omega)), ⟨by have := HK.out; omega⟩, ⟨by have := HI'.out; omega⟩, HA2, ⟨below_step HB.out HB2.out⟩⟩
      · have d5 : decide ((i : Int) < (l0.length : Int)) = false := decide_eq_false (by omega)
        have d6 : decide (i < l0.length) = false := decide_eq_false cc
        have HA' := Aside0.mk (show l0.all aloneR = true by rw [HA.out, List.drop_of_length_le (by omega)]; rfl)
        clear cc HA
        go_wp2
        go_ret
        exact ⟨(by rw [← HBB.out, HA'.out]; rfl), HB.out⟩
end Go.Proofs.Ytgfkcmmhnibaiaa.PRw
