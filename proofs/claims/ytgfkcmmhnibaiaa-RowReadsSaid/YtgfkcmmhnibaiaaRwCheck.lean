/- slices.IndexFunc and ContainsFunc at row.Check's closure, and row.Check, walked by hand. -/
import Derived.Test.YtgfkcmmhnibaiaaPRwx0
namespace Go.Proofs.Ytgfkcmmhnibaiaa.PRw
open Go.RowKit Go.Proofs.YtgfkcmmhnibaiaaW.PrintWords Go.Proofs.YtgfkcmmhnibaiaaW.PrintLast Go.Proofs.YtgfkcmmhnibaiaaW.PrintMore
set_option linter.unusedVariables false
set_option linter.unusedSimpArgs false
/-- Is an id none of a task, and not 0? -/
def badId (x : Int) : Bool := decide (x < 0) || decide (200 < x)
theorem bad_id (x : Int) (w : World) : Calls Try.prog 54 #[.int .i64 x] w fun e w' => e = .returned (.bool (badId x)) ∧ w = w' := by
  by_cases h : x < 0
  · have hb : badId x = true := by unfold badId; rw [decide_eq_true h]; rfl
    have HB := Aside0.mk hb
    have d : decide (x < 0) = true := decide_eq_true h
    clear hb h
    go_enter Try.func54, Try.ntmps54
    go_wp2
    go_ret
    exact ⟨(by rw [HB.out]; rfl), rfl⟩
  · have hb : badId x = decide (200 < x) := by unfold badId; rw [decide_eq_false h]; rfl
    have HB := Aside0.mk hb
    have d : decide (x < 0) = false := decide_eq_false h
    clear hb h
    go_enter Try.func54, Try.ntmps54
    go_wp2
    go_ret
    exact ⟨(by rw [HB.out]; rfl), rfl⟩
theorem drop_rd (l : List Int) (i : Nat) (h : i < l.length) : rd l (i : Int) = l[i] := by
  simp [rd, List.getD_eq_getElem?_getD, h]
theorem any_drop (l : List Int) (i : Nat) (h : i < l.length) : (l.drop i).any badId = (badId (rd l (i : Int)) || (l.drop (i + 1)).any badId) := by
  rw [drop_rd l i h, List.drop_eq_getElem_cons h, List.any_cons]
set_option maxHeartbeats 4000000 in
set_option maxRecDepth 100000 in
theorem index_bad (A : Option Addr) (c : Nat) (l : List Int) (w : World) (hr : Kd.C (Kd.int .i64) w A l.length l) (hc : l.length ≤ c) (hl : l.length ≤ 9223372036854775807) :
    Calls Try.prog 70 #[.slice A l.length c, .func (.func 54) #[] #[]] w fun e w' => (∃ r : Int, e = .returned (.int .i64 r) ∧ (decide (0 ≤ r) = l.any badId)) ∧ w = w' := by
  have HR0 := Aside0.mk hr
  have HL := Aside0.mk hl
  clear hr hc hl
  go_enter Try.func70, Try.ntmps70
  go_wp2
  go_loopg [8] (l.length + 1) (fun kq v8 w' => ∃ i : Nat, v8 = .int .i64 (i : Int) ∧ Aside0 (i + kq = l.length + 1) ∧ Aside0 (i ≤ l.length) ∧ Aside0 (l.any badId = (l.drop i).any badId) ∧ w = w')
  case atStart => exact ⟨0, rfl, ⟨by omega⟩, ⟨by omega⟩, ⟨by rw [List.drop_zero]⟩, rfl⟩
  case round =>
    obtain ⟨i, rfl, HK, HI, HA, rfl⟩ := hrel
    cases gk with
    | zero => exact absurd HK.out (by have := HI.out; omega)
    | succ k1 =>
      by_cases cc : i < l.length
      · have d1 : decide ((i : Int) < (l.length : Int)) = true := decide_eq_true (by omega)
        have d2 : decide (i < l.length) = true := decide_eq_true cc
        obtain ⟨ad, ead, hx⟩ := Kd.at_int HR0.out (i : Int) (by omega) (by omega)
        cases ead
        have p0 := eq_true (show (0 : Int) ≤ (i : Int) by omega)
        have q0 := eq_true (show (i : Int) < (l.length : Int) by omega)
        have ha := HA.out
        rw [any_drop l i cc] at ha
        rw [Int.toNat_natCast] at hx
        have HI' := Aside0.mk cc
        clear cc HA
        by_cases cx : badId (rd l (i : Int)) = true
        · have e1 : badId (rd l (i : Int)) = true := cx
          have HA := Aside0.mk ha
          clear cx ha
          go_wp2_with (go_at_call 54; (with_reducible refine (bad_id _ _).mono ?_); rintro e w2 ⟨rfl, rfl⟩)
          go_ret
          exact ⟨⟨_, rfl, by rw [HA.out, e1, Bool.true_or]; exact decide_eq_true (Int.natCast_nonneg _)⟩, rfl⟩
        · have e1 : badId (rd l (i : Int)) = false := by simpa using cx
          rw [e1, Bool.false_or] at ha
          have HA := Aside0.mk ha
          clear cx ha
          go_wp2_with (go_at_call 54; (with_reducible refine (bad_id _ _).mono ?_); rintro e w2 ⟨rfl, rfl⟩)
          go_roundg k1
          case measure => omega
          case rel => exact ⟨i + 1, (by first | rfl | (simp; done) | (congr 1; unfold wrap64; have := HL.out; have := HI'.out; omega)), ⟨by have := HK.out; omega⟩, ⟨by have := HI'.out; omega⟩, HA, rfl⟩
      · have d1 : decide ((i : Int) < (l.length : Int)) = false := decide_eq_false (by omega)
        have d2 : decide (i < l.length) = false := decide_eq_false cc
        have HA' := Aside0.mk (show l.any badId = false by rw [HA.out, List.drop_of_length_le (by omega)]; rfl)
        clear cc HA
        go_wp2
        go_ret
        exact ⟨⟨_, rfl, by rw [HA'.out]; decide⟩, rfl⟩
set_option maxHeartbeats 4000000 in
set_option maxRecDepth 100000 in
theorem contains_bad (A : Option Addr) (c : Nat) (l : List Int) (bl : Bool) (w : World) (hr : Kd.C (Kd.int .i64) w A l.length l) (hc : l.length ≤ c) (hl : l.length ≤ 9223372036854775807 ∧ l.any badId = bl) :
    Calls Try.prog 48 #[.slice A l.length c, .func (.func 54) #[] #[]] w fun e w' => e = .returned (.bool bl) ∧ w = w' := by
  have HR0 := Aside0.mk hr
  have HC0 := Aside0.mk hc
  have HL := Aside0.mk hl.1
  have HBl := Aside0.mk hl.2
  clear hr hc hl
  go_enter Try.func48, Try.ntmps48
  go_wp2_with (go_at_call 70; (with_reducible refine (index_bad A c l _ HR0.out HC0.out HL.out).mono ?_); rintro e w2 ⟨⟨r, rfl, hrr⟩, rfl⟩; have HRR := Aside0.mk hrr; clear hrr)
  go_ret
  exact ⟨(by rw [← HBl.out, ← HRR.out]; rfl), rfl⟩
/-- Is a row right? -/
def rowOk (m : Int) (r : List Int) : Bool := (r.length : Int) == m && !r.any badId
def chk (b : Bool) : Int := if b = true then 0 else 1
def row_Check.f (m : Int) (rows : List (List Int)) : Option Int := some (if m < 1 then 1 else if 16 < m then 1 else if 4096 < (rows.length : Int) then 1 else if rows.all (rowOk m) = true then 0 else 1)
theorem all_drop (m : Int) (rows : List (List Int)) (i : Nat) (h : i < rows.length) : (rows.drop i).all (rowOk m) = (rowOk m (rd_L1 rows (i : Int)) && (rows.drop (i + 1)).all (rowOk m)) := by
  have e : rd_L1 rows (i : Int) = rows[i] := by simp [rd_L1, List.getD_eq_getElem?_getD, h]
  rw [e, List.drop_eq_getElem_cons h, List.all_cons]
set_option maxHeartbeats 8000000 in
set_option maxRecDepth 100000 in
theorem check_loop (a0 : Int) (A1 : Option Addr) (c1 : Nat) (l1 : List (List Int)) (b : Bool) (w : World) (hr1 : Kd.C (Kd.slice 3 (Kd.int .i64)) w A1 l1.length l1) (hc1 : l1.length ≤ c1) (h1 : ¬ a0 < 1) (h2 : ¬ 16 < a0) (h3 : ¬ 4096 < (l1.length : Int)) (hb : l1.all (rowOk a0) = b) :
    Calls Try.prog 23 #[.int .i64 a0, .slice A1 l1.length c1] w fun e w' => e = .returned (.int .i64 (chk b)) ∧ w = w' := by
  have HR := Aside0.mk hr1
  have HBB := Aside0.mk hb
  have HL := Aside0.mk (show l1.length ≤ 4096 by omega)
  have d1 : decide (a0 < 1) = false := decide_eq_false h1
  have d2 : decide (16 < a0) = false := decide_eq_false h2
  have d3 : decide (4096 < (l1.length : Int)) = false := decide_eq_false h3
  have d3b : decide (4096 < l1.length) = false := decide_eq_false (by omega)
  clear hr1 hc1 h1 h2 h3 hb
  go_enter Try.func23, Try.ntmps23
  go_wp2
  go_loopg [20] (l1.length + 1) (fun kq v20 w' => ∃ i : Nat, v20 = .int .i64 (i : Int) ∧ Aside0 (i + kq = l1.length + 1) ∧ Aside0 (i ≤ l1.length) ∧ Aside0 (l1.all (rowOk a0) = (l1.drop i).all (rowOk a0)) ∧ w = w')
  case atStart => exact ⟨0, rfl, ⟨by omega⟩, ⟨by omega⟩, ⟨by rw [List.drop_zero]⟩, rfl⟩
  case round =>
    obtain ⟨i, rfl, HK, HI, HA, rfl⟩ := hrel
    cases gk with
    | zero => exact absurd HK.out (by have := HI.out; omega)
    | succ k1 =>
      by_cases cc : i < l1.length
      · have d5 : decide ((i : Int) < (l1.length : Int)) = true := decide_eq_true (by omega)
        have d6 : decide (i < l1.length) = true := decide_eq_true cc
        obtain ⟨ad, A0, c0, ead, hx, hl0, hi0⟩ := at_L1 HR.out (i : Int) (by omega) (by omega)
        cases ead
        have p0 := eq_true (show (0 : Int) ≤ (i : Int) by omega)
        have q0 := eq_true (show (i : Int) < (l1.length : Int) by omega)
        have ha := HA.out
        rw [all_drop a0 l1 i cc] at ha
        rw [Int.toNat_natCast] at hx
        have HI' := Aside0.mk cc
        clear cc HA
        have hmx := hi0.2.1
        have HI0 := Aside0.mk hi0
        have HL0 := Aside0.mk hl0
        generalize rd_L1 l1 (i : Int) = r at *
        by_cases cl : (r.length : Int) = a0
        · have e1 : ((r.length : Int) != a0) = false := bne_eq_false_iff_eq.mpr cl
          obtain ⟨bb, hbb⟩ : ∃ bb, r.any badId = bb := ⟨_, rfl⟩
          have ho : rowOk a0 r = !bb := by unfold rowOk; rw [beq_iff_eq.mpr cl, Bool.true_and, hbb]
          rw [ho] at ha
          have HC := Aside0.mk (contains_bad A0 c0 r bb w HI0.out HL0.out ⟨hmx, hbb⟩)
          have HA := Aside0.mk ha
          clear cl hbb ho ha hi0 hl0 hmx
          cases bb with
          | true =>
            go_wp2_with (go_at_call 48; (with_reducible refine HC.out.mono ?_); rintro e w2 ⟨rfl, rfl⟩)
            go_ret
            exact ⟨(by rw [← HBB.out, HA.out]; rfl), rfl⟩
          | false =>
            go_wp2_with (go_at_call 48; (with_reducible refine HC.out.mono ?_); rintro e w2 ⟨rfl, rfl⟩)
            go_roundg k1
            case measure => omega
            case rel => exact ⟨i + 1, (by first | rfl | (simp; done) | (congr 1; unfold wrap64; have := HL.out; have := HI'.out; omega)), ⟨by have := HK.out; omega⟩, ⟨by have := HI'.out; omega⟩, ⟨by rw [HA.out]; rfl⟩, rfl⟩
        · have e1 : ((r.length : Int) != a0) = true := bne_iff_ne.mpr cl
          have ho : rowOk a0 r = false := by unfold rowOk; rw [beq_eq_false_iff_ne.mpr cl, Bool.false_and]
          rw [ho, Bool.false_and] at ha
          have HA := Aside0.mk ha
          clear cl ho ha hi0 hl0 hmx
          go_wp2
          go_ret
          exact ⟨(by rw [← HBB.out, HA.out]; rfl), rfl⟩
      · have d5 : decide ((i : Int) < (l1.length : Int)) = false := decide_eq_false (by omega)
        have d6 : decide (i < l1.length) = false := decide_eq_false cc
        have HA' := Aside0.mk (show l1.all (rowOk a0) = true by rw [HA.out, List.drop_of_length_le (by omega)]; rfl)
        clear cc HA
        go_wp2
        go_ret
        exact ⟨(by rw [← HBB.out, HA'.out]; rfl), rfl⟩
set_option maxHeartbeats 8000000 in
set_option maxRecDepth 100000 in
theorem row_Check.calls (a0 : Int) (A1 : Option Addr) (c1 : Nat) (l1 : List (List Int)) (r : Int) (w : World) (hr1 : Kd.C (Kd.slice 3 (Kd.int .i64)) w A1 l1.length l1) (hc1 : l1.length ≤ c1) (h : row_Check.f a0 l1 = some r) :
    Calls Try.prog 23 #[.int .i64 a0, .slice A1 l1.length c1] w fun e w' => e = .returned (.int .i64 r) ∧ Below w.heap.size w w' := by
  unfold row_Check.f at h
  simp only [Option.some.injEq] at h
  by_cases h1 : a0 < 1
  · rw [if_pos h1] at h
    subst h
    have d1 : decide (a0 < 1) = true := decide_eq_true h1
    clear h1 hr1 hc1
    go_enter Try.func23, Try.ntmps23
    go_wp2
    go_ret
    exact ⟨rfl, Below.refl _ _⟩
  rw [if_neg h1] at h
  by_cases h2 : 16 < a0
  · rw [if_pos h2] at h
    subst h
    have d1 : decide (a0 < 1) = false := decide_eq_false h1
    have d2 : decide (16 < a0) = true := decide_eq_true h2
    clear h1 h2 hr1 hc1
    go_enter Try.func23, Try.ntmps23
    go_wp2
    go_ret
    exact ⟨rfl, Below.refl _ _⟩
  rw [if_neg h2] at h
  by_cases h3 : 4096 < (l1.length : Int)
  · rw [if_pos h3] at h
    subst h
    have d1 : decide (a0 < 1) = false := decide_eq_false h1
    have d2 : decide (16 < a0) = false := decide_eq_false h2
    have d3 : decide (4096 < (l1.length : Int)) = true := decide_eq_true h3
    have d3b : decide (4096 < l1.length) = true := decide_eq_true (by omega)
    clear h1 h2 h3 hr1 hc1
    go_enter Try.func23, Try.ntmps23
    go_wp2
    go_ret
    exact ⟨rfl, Below.refl _ _⟩
  rw [if_neg h3] at h
  subst h
  refine (check_loop a0 A1 c1 l1 _ w hr1 hc1 h1 h2 h3 rfl).mono ?_
  rintro e w' ⟨rfl, rfl⟩
  exact ⟨rfl, Below.refl _ _⟩
end Go.Proofs.Ytgfkcmmhnibaiaa.PRw
