/- row.Decode, walked by hand. -/
import Derived.Test.YtgfkcmmhnibaiaaRwRun
import Derived.Test.YtgfkcmmhnibaiaaRwCloneI
import Derived.Test.YtgfkcmmhnibaiaaPRwx2
namespace Go.Proofs.Ytgfkcmmhnibaiaa.PRw
open Go.RowKit Go.Proofs.YtgfkcmmhnibaiaaW.PrintWords Go.Proofs.YtgfkcmmhnibaiaaW.PrintLast Go.Proofs.YtgfkcmmhnibaiaaW.PrintMore
set_option linter.unusedVariables false
set_option linter.unusedSimpArgs false
/-- Is a row like the last one? -/
def lastD (k : Nat) (rows : List (List Int)) (one : List Int) : Option Bool := if 0 < rows.length then slices_Equal_int_int.f k (rd_L1 rows ((rows.length : Int) - 1)) one else some false
def repD : Nat → Int → Int → List (List Int) → List Int → Option (List (List Int))
  | 0, _, _, _, _ => none
  | f + 1, n, j, rows, one => if j < n then (if one.length < 17592186044416 ∧ rows.length < 1000000 then repD f n (wrap64 (j + 1)) (rows ++ [one]) one else none) else some rows
def decL : Nat → Int → Int → List (List Int) → List Int → Int → Option (Int × List (List Int) × Int)
  | 0, _, _, _, _, _ => none
  | f + 1, m, left, rows, l, er =>
    if 0 < left then (if rows.length < 1000000 then (runD f m left l er).bind fun x => (lastD f rows x.1).bind fun last =>
      if x.2.2.2 = 0 ∧ x.2.1 ≠ 0 ∧ last = false then (repD f x.2.1 0 rows x.1).bind fun rows' => decL f m (wrap64 (left - x.2.1)) rows' x.2.2.1 x.2.2.2
      else some (0, [], 3) else none)
    else if endErr l er = 0 ∧ m ≠ 0 then some (m, rows, 0) else some (0, [], 3)
def row_Decode.f (k : Nat) (l : List Int) : Option (Int × List (List Int) × Int) :=
  if l.length < 140737488355328 then (rdNum k l 0 16).bind fun a => (rdNum k a.2.1 a.2.2 4096).bind fun b => decL k (wrap64 a.1) (wrap64 b.1) [] b.2.1 b.2.2 else none
theorem lastD_mono (rows : List (List Int)) (one : List Int) (k : Nat) : LeO (lastD k rows one) (lastD (k + 1) rows one) := by
  unfold lastD
  exact LeO.ite (slices_Equal_int_int.mono _ _ _) (LeO.refl _)
theorem repD_mono : ∀ k n j rows one, LeO (repD k n j rows one) (repD (k + 1) n j rows one)
  | 0, _, _, _, _ => fun r h => by simp [repD] at h
  | k + 1, n, j, rows, one => by
    rw [repD, repD]
    exact LeO.ite (LeO.ite (repD_mono k _ _ _ _) (LeO.refl _)) (LeO.refl _)
theorem decL_mono : ∀ k m left rows l er, LeO (decL k m left rows l er) (decL (k + 1) m left rows l er)
  | 0, _, _, _, _, _ => fun r h => by simp [decL] at h
  | k + 1, m, left, rows, l, er => by
    rw [decL, decL]
    refine LeO.ite (LeO.ite (LeO.bind (runD_mono _ _ _ _ _) (fun _ => LeO.bind (lastD_mono _ _ _) (fun _ => ?_))) (LeO.refl _)) (LeO.refl _)
    exact LeO.ite (LeO.bind (repD_mono _ _ _ _ _) (fun _ => decL_mono k _ _ _ _ _)) (LeO.refl _)
theorem row_Decode.mono : ∀ a0 k, LeO (row_Decode.f k a0) (row_Decode.f (k + 1) a0) := by
  intro a0 k
  unfold row_Decode.f
  exact LeO.ite (LeO.bind (rdNum_mono _ _ _ _) (fun _ => LeO.bind (rdNum_mono _ _ _ _) (fun _ => decL_mono _ _ _ _ _ _))) (LeO.refl _)
abbrev RR := Kd.slice 3 (Kd.int .i64)
/-- What is handed back. -/
def DecPost (w : World) (r1 : Int) (r2 : List (List Int)) (r3 : Int) (e : Ending) (w' : World) : Prop :=
  ∃ v1_ : Value, e = .returned (.tuple #[.int .i64 r1, v1_, .int .i64 r3]) ∧ Kd.R RR 23 w' w.heap.size (fun _ => True) v1_ r2 ∧ Below w.heap.size w w'
theorem below_rdr {B : Nat} {w0 w w2 : World} {g : Nat} (h : Below B w0 w) (hg : w.grownBy w2 (some g)) (hgB : B ≤ g) (hs : B ≤ w.heap.size) : Below B w0 w2 := h.grown hg hs (fun k hk => by cases hk; exact hgB)
theorem R_apartv {w : World} {base : Nat} {A : Option Addr} {n c : Nat} {one : List Int} {v : Value} {rows : List (List Int)} (h : Kd.R (Kd.int .i64) 3 w base (fun _ => True) (.slice A n c) one) (ho : Kd.R RR 23 w base (fun _ => True) v rows) :
    Kd.R (Kd.int .i64) 3 w base (fun k => some k ≠ v.ownBlock) (.slice A n c) one := Kd.R_mono (Kd.R_apart' h (Kd.R_typed ho) (by decide)) (fun _ hk => hk.2)
set_option maxHeartbeats 8000000 in
set_option maxRecDepth 100000 in
theorem row_Decode.walk (k : Nat) (A0 : Option Addr) (c0 : Nat) (l0 : List Int) (r1 : Int) (r2 : List (List Int)) (r3 : Int) (w : World) (hr0 : Kd.C (Kd.int .u8) w A0 l0.length l0) (hc0 : l0.length ≤ c0) (h : row_Decode.f k l0 = some (r1, r2, r3)) :
    Calls Try.prog 44 #[.slice A0 l0.length c0] w (DecPost w r1 r2 r3) := by
  have HR0 := Aside0.mk hr0
  have HC0 := Aside0.mk hc0
  clear hr0 hc0
  unfold row_Decode.f at h
  by_cases hl : l0.length < 140737488355328
  case neg => rw [if_neg hl] at h; exact absurd h (by simp)
  rw [if_pos hl] at h
  obtain ⟨⟨n1, l1, e1⟩, h1, h⟩ := Option.bind_eq_some_iff.mp h
  obtain ⟨⟨n2, l2, e2⟩, h2, h⟩ := Option.bind_eq_some_iff.mp h
  dsimp only at h1 h2 h
  have HL := Aside0.mk hl
  have H1 := Aside0.mk h1
  have H2 := Aside0.mk h2
  have HH := Aside0.mk h
  clear hl h1 h2 h
  go_enter Try.func44, Try.ntmps44
  go_wp2_with (first
    | (go_at_call 60; (with_reducible refine (open_of A0 c0 l0 _ HR0.out HC0.out HL.out).mono ?_); rintro e wa ⟨g, rfl, hrd, hg, hb⟩; have HRD := Aside0.mk hrd; have HGE := Aside0.mk hg; have HBL := Aside0.mk hb; clear hrd hg hb)
    | (go_at_call 61; (with_reducible refine (num_calls k g l0 l1 0 e1 16 n1 _ HRD.out H1.out).mono ?_); rintro e wb ⟨rfl, hrd, hg⟩; have HRD1 := Aside0.mk hrd; have HG1 := Aside0.mk hg; clear hrd hg)
    | (go_at_call 61; (with_reducible refine (num_calls k g l1 l2 e1 e2 4096 n2 _ HRD1.out H2.out).mono ?_); rintro e wc ⟨rfl, hrd, hg⟩; have HRD2 := Aside0.mk hrd; have HG2 := Aside0.mk hg; clear hrd hg))
  have hb1 : Below w.heap.size w wc := below_rdr (below_rdr HBL.out HG1.out HGE.out HBL.out.size) HG2.out HGE.out (Nat.le_trans HBL.out.size HG1.out.size)
  have HB1 := Aside0.mk hb1
  clear hb1 HBL HG1 HG2 HRD HRD1 H1 H2
  generalize wrap64 n1 = m at *
  generalize wrap64 n2 = lf at *
  go_loopg [7, 8] k (fun kq v7 v8 w' => ∃ (left : Int) (v : Value) (rows : List (List Int)) (l : List Int) (er : Int), v7 = .int .i64 left ∧ v8 = v ∧ Aside0 (decL kq m left rows l er = some (r1, r2, r3)) ∧ Aside0 (kq ≤ k) ∧ Aside0 (Rdr w' g l er) ∧ Aside0 (Below w.heap.size w w') ∧ Aside0 (Kd.R RR 23 w' w.heap.size (fun _ => True) v rows))
  case atStart => exact ⟨lf, .slice none 0 0, [], l2, e2, rfl, rfl, HH, ⟨Nat.le_refl _⟩, HRD2, HB1, ⟨Kd.R_nil _ _ _ _ _⟩⟩
  case round =>
    clear HH HRD2 HB1
    obtain ⟨left, v, rows, l, er, rfl, rfl, HN, HK, HD, HB, HO⟩ := hrel
    cases gk with
    | zero => exact absurd HN.out (by simp [decL])
    | succ k1 =>
      have hn := HN.out
      simp only [decL] at hn
      by_cases cj : 0 < left
      · rw [if_pos cj] at hn
        by_cases crl : rows.length < 1000000
        case neg => rw [if_neg crl] at hn; exact absurd hn (by simp)
        rw [if_pos crl] at hn
        obtain ⟨⟨one, n, lx, ex⟩, hx, hn⟩ := Option.bind_eq_some_iff.mp hn
        obtain ⟨last, hlast, hn⟩ := Option.bind_eq_some_iff.mp hn
        dsimp only at hx hlast hn
        have d1 : decide (0 < left) = true := decide_eq_true cj
        have HX := Aside0.mk hx
        have HLA := Aside0.mk hlast
        have HN2 := Aside0.mk hn
        have CRL := Aside0.mk crl
        clear hx hlast hn cj HN crl
        obtain ⟨A1, c1, rfl⟩ := Kd.R_slice HO.out
        go_upto_region 6 with (go_at_call 65; (with_reducible refine (run_calls k1 g l er m left one n lx ex _ HD.out HX.out).mono ?_); rintro e wb ⟨v9, rfl, ho9, hrd, hg⟩; obtain ⟨A9, c9, rfl⟩ := Kd.R_slice ho9; have HO9 := Aside0.mk (Kd.R_lower ho9 HB.out.size); have HRD1 := Aside0.mk hrd; have HB1 := Aside0.mk (below_rdr HB.out hg HGE.out HB.out.size); have HO1 := Aside0.mk (R_rdr HO.out HD.out hg (by decide)); clear hrd hg ho9)
        by_cases c0 : 0 < rows.length
        · have hq : slices_Equal_int_int.f k1 (rd_L1 rows ((rows.length : Int) - 1)) one = some last := by have := HLA.out; unfold lastD at this; rwa [if_pos c0] at this
          have HQ := Aside0.mk hq
          have f1 : decide (0 < (rows.length : Int)) = true := decide_eq_true (by omega)
          have f2 : decide (0 < rows.length) = true := decide_eq_true c0
          have C0 := Aside0.mk c0
          obtain ⟨ad, A3, c3, ead, hx3, hl3, hi3⟩ := at_L1 (Kd.R_reads' HO1.out).2.2 ((rows.length : Int) - 1) (by omega) (by omega)
          cases ead
          rw [show ((rows.length : Int) - 1).toNat = rows.length - 1 by omega] at hx3
          have p3 := eq_true (show (1 : Int) ≤ (rows.length : Int) by omega)
          have q3 := eq_true (show (rows.length : Int) - 1 < (rows.length : Int) by omega)
          have HI3 := Aside0.mk hi3
          have HL3 := Aside0.mk hl3
          have CRL2 : rows.length < 1000000 := CRL.out
          clear hq c0 hi3 hl3 HLA
          go_upto_region 7 with (go_at_call 50; (with_reducible refine (slices_Equal_int_int.calls k1 A3 c3 (rd_L1 rows ((rows.length : Int) - 1)) A9 c9 one last _ HI3.out HL3.out (Kd.R_reads' HO9.out).2.2 (Kd.R_reads' HO9.out).2.1 HQ.out).mono ?_); rintro e w' ⟨rfl, ⟨nd, rfl⟩⟩)
          replace HRD1 := Aside0.mk (HRD1.out.below (pw_below_drewN (Below.refl _ _) nd))
          replace HB1 := Aside0.mk (pw_below_drewN HB1.out nd)
          replace HO1 := Aside0.mk (Kd.R_drewN HO1.out nd)
          replace HO9 := Aside0.mk (Kd.R_drewN HO9.out nd)
          clear hx3 HI3 HL3
          generalize wb.drewN nd = wq at HRD1 HB1 HO1 HO9 ⊢
          have hn2 := HN2.out
          by_cases ce : ex = 0
          case neg =>
            rw [if_neg (fun q => ce q.1)] at hn2
            have e1 : (ex != 0) = true := bne_iff_ne.mpr ce
            clear ce
            simp only [Option.some.injEq, Prod.mk.injEq] at hn2
            obtain ⟨rfl, rfl, rfl⟩ := hn2
            clear HN2
            go_wp2_with (go_at_call 66; (with_reducible refine (err_of g lx ex _ HRD1.out).mono ?_); rintro e w' ⟨rfl, rfl⟩)
            go_ret3
            exact ⟨_, rfl, Kd.R_nil _ _ _ _ _, HB1.out⟩
          subst ce
          have e1 : ((0 : Int) != 0) = false := rfl
          by_cases cn : n = 0
          case pos =>
            rw [if_neg (fun q => q.2.1 cn)] at hn2
            have e2 : (n == 0) = true := beq_iff_eq.mpr cn
            clear cn
            simp only [Option.some.injEq, Prod.mk.injEq] at hn2
            obtain ⟨rfl, rfl, rfl⟩ := hn2
            clear HN2
            go_wp2_with (go_at_call 66; (with_reducible refine (err_of g lx 0 _ HRD1.out).mono ?_); rintro e w' ⟨rfl, rfl⟩)
            go_ret3
            exact ⟨_, rfl, Kd.R_nil _ _ _ _ _, HB1.out⟩
          have e2 : (n == 0) = false := beq_eq_false_iff_ne.mpr cn
          cases last with
          | true =>
            rw [if_neg (fun q => absurd q.2.2 (by decide))] at hn2
            clear cn
            simp only [Option.some.injEq, Prod.mk.injEq] at hn2
            obtain ⟨rfl, rfl, rfl⟩ := hn2
            clear HN2
            go_wp2_with (go_at_call 66; (with_reducible refine (err_of g lx 0 _ HRD1.out).mono ?_); rintro e w' ⟨rfl, rfl⟩)
            go_ret3
            exact ⟨_, rfl, Kd.R_nil _ _ _ _ _, HB1.out⟩
          | false =>
            rw [if_pos ⟨rfl, cn, rfl⟩] at hn2
            obtain ⟨rows', hrep, hn3⟩ := Option.bind_eq_some_iff.mp hn2
            have HREP := Aside0.mk hrep
            have HN3 := Aside0.mk hn3
            clear hn2 hrep hn3 HN2 cn HO HD HB
            obtain ⟨k2, hk2⟩ : ∃ k2, k2 = k1 := ⟨_, rfl⟩
            rw [← hk2] at HREP
            have HK2 := Aside0.mk hk2
            clear hk2
            go_wp2_with (go_at_call 66; (with_reducible refine (err_of g lx 0 _ HRD1.out).mono ?_); rintro e w' ⟨rfl, rfl⟩)
            go_loopg [53, 8] k2 (fun kp v53 v8 w' => ∃ (j : Int) (v : Value) (rows : List (List Int)), v53 = .int .i64 j ∧ v8 = v ∧ Aside0 (repD kp n j rows one = some rows') ∧ Aside0 (Rdr w' g lx 0) ∧ Aside0 (Below w.heap.size w w') ∧ Aside0 (Kd.R RR 23 w' w.heap.size (fun _ => True) v rows) ∧ Aside0 (Kd.R (Kd.int .i64) 3 w' w.heap.size (fun _ => True) (.slice A9 one.length c9) one))
            case atStart => exact ⟨0, _, rows, rfl, rfl, HREP, HRD1, HB1, HO1, HO9⟩
            case round =>
              clear HREP HRD1 HB1 HO1 HO9
              obtain ⟨j, v, rows, rfl, rfl, HP, HD, HB, HO, HONE⟩ := hrel
              cases gk with
              | zero => exact absurd HP.out (by simp [repD])
              | succ k3 =>
                have hp := HP.out
                simp only [repD] at hp
                by_cases cjn : j < n
                · rw [if_pos cjn] at hp
                  by_cases cl : one.length < 17592186044416 ∧ rows.length < 1000000
                  case neg => rw [if_neg cl] at hp; exact absurd hp (by simp)
                  rw [if_pos cl] at hp
                  have d3 : decide (j < n) = true := decide_eq_true cjn
                  have HP2 := Aside0.mk hp
                  have CL := Aside0.mk cl
                  clear hp cl cjn HP
                  obtain ⟨A1, c1, rfl⟩ := Kd.R_slice HO.out
                  have HCL := Aside0.mk (show slices_Clone_int_int.f one = some one by unfold slices_Clone_int_int.f; rw [if_pos CL.out.1])
                  go_wp2_with (first
                    | (go_at_call 67; (with_reducible refine (slices_Clone_int_int.calls A9 c9 one one _ (Kd.R_reads' HONE.out).2.2 (Kd.R_reads' HONE.out).2.1 HCL.out).mono ?_); rintro e w2 ⟨v57, rfl, ho, hb⟩; obtain ⟨A57, c57, rfl⟩ := Kd.R_slice ho; have HB2 := Aside0.mk (below_step HB.out hb); have HD2 := Aside0.mk (HD.out.below hb); have HO2 := Aside0.mk (Kd.R_below HO.out hb); have HONE2 := Aside0.mk (Kd.R_below HONE.out hb); have H57 := Aside0.mk (R_apartv (Kd.R_lower ho HB.out.size) HO2.out); clear ho hb)
                    | ((with_reducible refine gate_builtin (b := .append) (xs := #[.tmp 55, .tmp 58]) rfl ?_); at_builtin; refine Kd.R_append RR (w0 := w) w.heap.size rfl (.tmp 55) (.tmp 58) 34 23 (.slice none 0 0) 24 rfl Try.underlying34 info23 rfl (by decide) (by omega) (.slice A1 rows.length c1) rows one [.slice A57 one.length c57] (fun _ => True) (fun k => some k ≠ (Value.slice A1 rows.length c1).ownBlock) rfl rfl ?aP (fun _ hk => ⟨trivial, hk⟩) ?aF ?aO ?aB ?aS ?aL ?_; (case aP => exact Kd.M_row H57.out); (case aF => exact (fun _ _ => trivial)); (case aO => exact HO2.out); (case aB => exact HB2.out); (case aS => exact HB2.out.size); (case aL => have := CL.out.2; omega); intro v1 w3 ho3 hb3 hg3 hat3; have HO3 := Aside0.mk ho3; have HB3 := Aside0.mk hb3; have HD3 := Aside0.mk (HD2.out.grownT hg3 (fun k hk => by
                        obtain ⟨cs, hc⟩ := Kd.R_typed HO2.out k hk
                        exact ⟨cs, 23, hc, by decide, by decide⟩)); have HONE3 := Aside0.mk (Kd.R_mono (ok' := fun _ => True) (Kd.R_grown (R_apartv HONE2.out HO2.out) hg3 (fun _ hk => hk)) (fun _ _ => trivial)); clear ho3 hb3 hg3 hat3))
                  go_roundg k3
                  case measure => omega
                  case rel => exact ⟨wrap64 (j + 1), v1, rows ++ [one], rfl, rfl, HP2, HD3, HB3, HO3, HONE3⟩
                · rw [if_neg cjn] at hp
                  simp only [Option.some.injEq] at hp
                  subst hp
                  have d3 : decide (j < n) = false := decide_eq_false cjn
                  clear cjn
                  go_wp2
                  go_roundg k1
                  case measure => have := HK.out; omega
                  case rel => exact ⟨wrap64 (left - n), _, rows, lx, 0, rfl, rfl, HN3, ⟨by have := HK.out; omega⟩, HD, HB, HO⟩
        · have hlf : last = false := by have := HLA.out; unfold lastD at this; rw [if_neg c0] at this; exact (Option.some.inj this).symm
          have hr0 : rows.length = 0 := by omega
          have f1 : decide (0 < (rows.length : Int)) = false := decide_eq_false (by omega)
          have f2 : decide (0 < rows.length) = false := decide_eq_false c0
          subst hlf
          clear c0 hr0 HLA
          go_upto_region 7 with (fail)
          generalize wb = wq at HRD1 HB1 HO1 HO9 ⊢
          have hn2 := HN2.out
          by_cases ce : ex = 0
          case neg =>
            rw [if_neg (fun q => ce q.1)] at hn2
            have e1 : (ex != 0) = true := bne_iff_ne.mpr ce
            clear ce
            simp only [Option.some.injEq, Prod.mk.injEq] at hn2
            obtain ⟨rfl, rfl, rfl⟩ := hn2
            clear HN2
            go_wp2_with (go_at_call 66; (with_reducible refine (err_of g lx ex _ HRD1.out).mono ?_); rintro e w' ⟨rfl, rfl⟩)
            go_ret3
            exact ⟨_, rfl, Kd.R_nil _ _ _ _ _, HB1.out⟩
          subst ce
          have e1 : ((0 : Int) != 0) = false := rfl
          by_cases cn : n = 0
          case pos =>
            rw [if_neg (fun q => q.2.1 cn)] at hn2
            have e2 : (n == 0) = true := beq_iff_eq.mpr cn
            clear cn
            simp only [Option.some.injEq, Prod.mk.injEq] at hn2
            obtain ⟨rfl, rfl, rfl⟩ := hn2
            clear HN2
            go_wp2_with (go_at_call 66; (with_reducible refine (err_of g lx 0 _ HRD1.out).mono ?_); rintro e w' ⟨rfl, rfl⟩)
            go_ret3
            exact ⟨_, rfl, Kd.R_nil _ _ _ _ _, HB1.out⟩
          have e2 : (n == 0) = false := beq_eq_false_iff_ne.mpr cn
          rw [if_pos ⟨rfl, cn, rfl⟩] at hn2
          obtain ⟨rows', hrep, hn3⟩ := Option.bind_eq_some_iff.mp hn2
          have HREP := Aside0.mk hrep
          have HN3 := Aside0.mk hn3
          clear hn2 hrep hn3 HN2 cn HO HD HB
          obtain ⟨k2, hk2⟩ : ∃ k2, k2 = k1 := ⟨_, rfl⟩
          rw [← hk2] at HREP
          have HK2 := Aside0.mk hk2
          clear hk2
          go_wp2_with (go_at_call 66; (with_reducible refine (err_of g lx 0 _ HRD1.out).mono ?_); rintro e w' ⟨rfl, rfl⟩)
          go_loopg [53, 8] k2 (fun kp v53 v8 w' => ∃ (j : Int) (v : Value) (rows : List (List Int)), v53 = .int .i64 j ∧ v8 = v ∧ Aside0 (repD kp n j rows one = some rows') ∧ Aside0 (Rdr w' g lx 0) ∧ Aside0 (Below w.heap.size w w') ∧ Aside0 (Kd.R RR 23 w' w.heap.size (fun _ => True) v rows) ∧ Aside0 (Kd.R (Kd.int .i64) 3 w' w.heap.size (fun _ => True) (.slice A9 one.length c9) one))
          case atStart => exact ⟨0, _, rows, rfl, rfl, HREP, HRD1, HB1, HO1, HO9⟩
          case round =>
            clear HREP HRD1 HB1 HO1 HO9
            obtain ⟨j, v, rows, rfl, rfl, HP, HD, HB, HO, HONE⟩ := hrel
            cases gk with
            | zero => exact absurd HP.out (by simp [repD])
            | succ k3 =>
              have hp := HP.out
              simp only [repD] at hp
              by_cases cjn : j < n
              · rw [if_pos cjn] at hp
                by_cases cl : one.length < 17592186044416 ∧ rows.length < 1000000
                case neg => rw [if_neg cl] at hp; exact absurd hp (by simp)
                rw [if_pos cl] at hp
                have d3 : decide (j < n) = true := decide_eq_true cjn
                have HP2 := Aside0.mk hp
                have CL := Aside0.mk cl
                clear hp cl cjn HP
                obtain ⟨A1, c1, rfl⟩ := Kd.R_slice HO.out
                have HCL := Aside0.mk (show slices_Clone_int_int.f one = some one by unfold slices_Clone_int_int.f; rw [if_pos CL.out.1])
                go_wp2_with (first
                  | (go_at_call 67; (with_reducible refine (slices_Clone_int_int.calls A9 c9 one one _ (Kd.R_reads' HONE.out).2.2 (Kd.R_reads' HONE.out).2.1 HCL.out).mono ?_); rintro e w2 ⟨v57, rfl, ho, hb⟩; obtain ⟨A57, c57, rfl⟩ := Kd.R_slice ho; have HB2 := Aside0.mk (below_step HB.out hb); have HD2 := Aside0.mk (HD.out.below hb); have HO2 := Aside0.mk (Kd.R_below HO.out hb); have HONE2 := Aside0.mk (Kd.R_below HONE.out hb); have H57 := Aside0.mk (R_apartv (Kd.R_lower ho HB.out.size) HO2.out); clear ho hb)
                  | ((with_reducible refine gate_builtin (b := .append) (xs := #[.tmp 55, .tmp 58]) rfl ?_); at_builtin; refine Kd.R_append RR (w0 := w) w.heap.size rfl (.tmp 55) (.tmp 58) 34 23 (.slice none 0 0) 24 rfl Try.underlying34 info23 rfl (by decide) (by omega) (.slice A1 rows.length c1) rows one [.slice A57 one.length c57] (fun _ => True) (fun k => some k ≠ (Value.slice A1 rows.length c1).ownBlock) rfl rfl ?aP (fun _ hk => ⟨trivial, hk⟩) ?aF ?aO ?aB ?aS ?aL ?_; (case aP => exact Kd.M_row H57.out); (case aF => exact (fun _ _ => trivial)); (case aO => exact HO2.out); (case aB => exact HB2.out); (case aS => exact HB2.out.size); (case aL => have := CL.out.2; omega); intro v1 w3 ho3 hb3 hg3 hat3; have HO3 := Aside0.mk ho3; have HB3 := Aside0.mk hb3; have HD3 := Aside0.mk (HD2.out.grownT hg3 (fun k hk => by
                      obtain ⟨cs, hc⟩ := Kd.R_typed HO2.out k hk
                      exact ⟨cs, 23, hc, by decide, by decide⟩)); have HONE3 := Aside0.mk (Kd.R_mono (ok' := fun _ => True) (Kd.R_grown (R_apartv HONE2.out HO2.out) hg3 (fun _ hk => hk)) (fun _ _ => trivial)); clear ho3 hb3 hg3 hat3))
                go_roundg k3
                case measure => omega
                case rel => exact ⟨wrap64 (j + 1), v1, rows ++ [one], rfl, rfl, HP2, HD3, HB3, HO3, HONE3⟩
              · rw [if_neg cjn] at hp
                simp only [Option.some.injEq] at hp
                subst hp
                have d3 : decide (j < n) = false := decide_eq_false cjn
                clear cjn
                go_wp2
                go_roundg k1
                case measure => have := HK.out; omega
                case rel => exact ⟨wrap64 (left - n), _, rows, lx, 0, rfl, rfl, HN3, ⟨by have := HK.out; omega⟩, HD, HB, HO⟩
      · rw [if_neg cj] at hn
        have d1 : decide (0 < left) = false := decide_eq_false cj
        obtain ⟨ee, hee⟩ : ∃ ee, endErr l er = ee := ⟨_, rfl⟩
        rw [hee] at hn
        have hend := end_of g l er wr HD.out
        rw [hee] at hend
        have HEND := Aside0.mk hend
        clear cj hend HN
        by_cases ce : ee = 0
        · subst ce
          have e1 : ((0 : Int) != 0) = false := rfl
          by_cases cm : m = 0
          · rw [if_neg (fun q => q.2 cm)] at hn
            simp only [Option.some.injEq, Prod.mk.injEq] at hn
            obtain ⟨rfl, rfl, rfl⟩ := hn
            have e2 : (m == 0) = true := beq_iff_eq.mpr cm
            clear cm hee
            go_wp2_with (go_at_call 62; (with_reducible refine HEND.out.mono ?_); rintro e w' ⟨rfl, rfl⟩)
            go_ret3
            exact ⟨_, rfl, Kd.R_nil _ _ _ _ _, HB.out⟩
          · rw [if_pos ⟨rfl, cm⟩] at hn
            simp only [Option.some.injEq, Prod.mk.injEq] at hn
            obtain ⟨rfl, rfl, rfl⟩ := hn
            have e2 : (m == 0) = false := beq_eq_false_iff_ne.mpr cm
            clear cm hee
            go_wp2_with (go_at_call 62; (with_reducible refine HEND.out.mono ?_); rintro e w' ⟨rfl, rfl⟩)
            go_ret3
            exact ⟨_, rfl, HO.out, HB.out⟩
        · rw [if_neg (fun q => ce q.1)] at hn
          simp only [Option.some.injEq, Prod.mk.injEq] at hn
          obtain ⟨rfl, rfl, rfl⟩ := hn
          have e1 : (ee != 0) = true := bne_iff_ne.mpr ce
          clear ce hee
          go_wp2_with (go_at_call 62; (with_reducible refine HEND.out.mono ?_); rintro e w' ⟨rfl, rfl⟩)
          go_ret3
          exact ⟨_, rfl, Kd.R_nil _ _ _ _ _, HB.out⟩
theorem row_Decode.calls (k : Nat) (A0 : Option Addr) (c0 : Nat) (l0 : List Int) (r1 : Int) (r2 : List (List Int)) (r3 : Int) (w : World) (hr0 : Kd.C (Kd.int .u8) w A0 l0.length l0) (hc0 : l0.length ≤ c0) (h : row_Decode.f k l0 = some (r1, r2, r3)) :
    Calls Try.prog 44 #[.slice A0 l0.length c0] w fun e w' => ∃ v1_ : Value, e = .returned (.tuple #[.int .i64 r1, v1_, .int .i64 r3]) ∧ Kd.N RR 23 w' w.heap.size (fun k_ => (w.heap.size ≤ k_)) v1_ r2 ∧ Below w.heap.size w w' := by
  refine (row_Decode.walk k A0 c0 l0 r1 r2 r3 w hr0 hc0 h).mono ?_
  rintro e w' ⟨v, rfl, ho, hb⟩
  exact ⟨v, rfl, Kd.R_N (Kd.R_mono (Kd.R_bound ho) (fun _ hk => hk.2.1)), hb⟩
end Go.Proofs.Ytgfkcmmhnibaiaa.PRw
