/- slices.IndexFunc and ContainsFunc at reply's check of a number, and reply.Check, walked by hand. -/
import Derived.Test.YtgfkcmmhnibaiaaPRpdx0
namespace Go.Proofs.Ytgfkcmmhnibaiaa.PRpd
open Go.RowKit Go.Proofs.YtgfkcmmhnibaiaaW.PrintWords Go.Proofs.YtgfkcmmhnibaiaaW.PrintLast Go.Proofs.YtgfkcmmhnibaiaaW.PrintMore
set_option linter.unusedVariables false
set_option linter.unusedSimpArgs false
theorem below0 (x : Int) (w : World) : Calls Try.prog 49 #[.int .i64 x] w fun e w' => e = .returned (.bool (decide (x < 0))) ∧ w = w' := by
  go_enter Try.func49, Try.ntmps49
  go_wp2
  go_ret
  exact ⟨rfl, rfl⟩
theorem rd_nth (l : List Int) (i : Nat) (h : i < l.length) : rd l (i : Int) = l[i] := by
  simp [rd, List.getD_eq_getElem?_getD, h]
theorem any_drop (l : List Int) (i : Nat) (h : i < l.length) : (l.drop i).any (fun x => decide (x < 0)) = (decide (rd l (i : Int) < 0) || (l.drop (i + 1)).any (fun x => decide (x < 0))) := by
  rw [rd_nth l i h, List.drop_eq_getElem_cons h, List.any_cons]
set_option maxHeartbeats 4000000 in
set_option maxRecDepth 100000 in
theorem index_below0 (A : Option Addr) (c : Nat) (l : List Int) (w : World) (hr : Kd.C (Kd.int .i64) w A l.length l) (hc : l.length ≤ c) (hl : l.length < 140737488355328) :
    Calls Try.prog 70 #[.slice A l.length c, .func (.func 49) #[] #[]] w fun e w' => (∃ r : Int, e = .returned (.int .i64 r) ∧ (decide (0 ≤ r) = l.any (fun x => decide (x < 0)))) ∧ w = w' := by
  have HR0 := Aside0.mk hr
  have HL := Aside0.mk hl
  clear hr hc hl
  go_enter Try.func70, Try.ntmps70
  go_wp2
  go_loopg [8] (l.length + 1) (fun kq v8 w' => ∃ i : Nat, v8 = .int .i64 (i : Int) ∧ Aside0 (i + kq = l.length + 1) ∧ Aside0 (i ≤ l.length) ∧ Aside0 (l.any (fun x => decide (x < 0)) = (l.drop i).any (fun x => decide (x < 0))) ∧ w = w')
  case atStart => exact ⟨0, rfl, ⟨by omega⟩, ⟨by omega⟩, ⟨by rw [List.drop_zero]⟩, rfl⟩
  case round =>
    obtain ⟨i, rfl, HK, HI, HA, rfl⟩ := hrel
    cases gk with
    | zero => exact absurd HK.out (by have := HI.out; omega)
    | succ k1 =>
      by_cases cc : i < l.length
      · have d1 : decide ((i : Int) < (l.length : Int)) = true := decide_eq_true (by omega)
        have d2 : decide (i < l.length) = true := decide_eq_true cc
        obtain ⟨ad, ead, hx⟩ := Kd.at_int HR0.out (i : Int) (by omega) (by omega)
        cases ead
        have p0 := eq_true (show (0 : Int) ≤ (i : Int) by omega)
        have q0 := eq_true (show (i : Int) < (l.length : Int) by omega)
        have ha := HA.out
        rw [any_drop l i cc] at ha
        rw [Int.toNat_natCast] at hx
        have HI' := Aside0.mk cc
        clear cc HA
        by_cases cx : rd l (i : Int) < 0
        · have e1 : decide (rd l (i : Int) < 0) = true := decide_eq_true cx
          have HA := Aside0.mk ha
          clear cx ha
          go_wp2_with (go_at_call 49; (with_reducible refine (below0 _ _).mono ?_); rintro e w2 ⟨rfl, rfl⟩)
          go_ret
          exact ⟨⟨_, rfl, by rw [HA.out, e1, Bool.true_or]; exact decide_eq_true (Int.natCast_nonneg _)⟩, rfl⟩
        · have e1 : decide (rd l (i : Int) < 0) = false := decide_eq_false cx
          rw [e1, Bool.false_or] at ha
          have HA := Aside0.mk ha
          clear cx ha
          go_wp2_with (go_at_call 49; (with_reducible refine (below0 _ _).mono ?_); rintro e w2 ⟨rfl, rfl⟩)
          go_roundg k1
          case measure => omega
          case rel => exact ⟨i + 1, (by first | rfl | (simp; done) | (congr 1; unfold wrap64; have := HL.out; have := HI'.out; omega)), ⟨by have := HK.out; omega⟩, ⟨by have := HI'.out; omega⟩, HA, rfl⟩
      · have d1 : decide ((i : Int) < (l.length : Int)) = false := decide_eq_false (by omega)
        have d2 : decide (i < l.length) = false := decide_eq_false cc
        have HA' := Aside0.mk (show l.any (fun x => decide (x < 0)) = false by rw [HA.out, List.drop_of_length_le (by omega)]; rfl)
        clear cc HA
        go_wp2
        go_ret
        exact ⟨⟨_, rfl, by rw [HA'.out]; decide⟩, rfl⟩
set_option maxHeartbeats 4000000 in
set_option maxRecDepth 100000 in
theorem contains_below0 (A : Option Addr) (c : Nat) (l : List Int) (bl : Bool) (w : World) (hr : Kd.C (Kd.int .i64) w A l.length l) (hc : l.length ≤ c) (hl : l.length < 140737488355328 ∧ l.any (fun x => decide (x < 0)) = bl) :
    Calls Try.prog 48 #[.slice A l.length c, .func (.func 49) #[] #[]] w fun e w' => e = .returned (.bool bl) ∧ w = w' := by
  have HR0 := Aside0.mk hr
  have HC0 := Aside0.mk hc
  have HL := Aside0.mk hl.1
  have HBl := Aside0.mk hl.2
  clear hr hc hl
  go_enter Try.func48, Try.ntmps48
  go_wp2_with (go_at_call 70; (with_reducible refine (index_below0 A c l _ HR0.out HC0.out HL.out).mono ?_); rintro e w2 ⟨⟨r, rfl, hrr⟩, rfl⟩; have HRR := Aside0.mk hrr; clear hrr)
  go_ret
  exact ⟨(show Ending.returned (Value.bool (decide (0 ≤ r))) = _ by rw [HRR.out, HBl.out]), rfl⟩
def checkLim (e : Int) : Int := if e = 0 then 20 else if e = 3 then 2 else 0
def reply_Check.f (a0_0 : Int) (a0_1 : Bool) (a0_2 : Int) (l : List Int) : Option Int :=
  if l.length < 140737488355328 then
    some (if a0_0 < 0 then 1 else if 30 < a0_0 then 1 else if a0_2 < 0 then 1 else if 255 < a0_2 then 1 else if checkLim a0_0 < (l.length : Int) then 1 else if l.any (fun x => decide (x < 0)) = true then 1
      else if a0_0 = 0 then 0 else if a0_1 = true then 1 else if a0_2 = 0 then 0 else 1)
  else none
set_option maxHeartbeats 20000000 in
set_option maxRecDepth 100000 in
theorem reply_Check.calls (a0_0 : Int) (a0_1 : Bool) (a0_2 : Int) (A0_3 : Option Addr) (c0_3 : Nat) (l0_3 : List Int) (r : Int) (w : World) (hr0_3 : Kd.C (Kd.int .i64) w A0_3 l0_3.length l0_3) (hc0_3 : l0_3.length ≤ c0_3) (h : reply_Check.f a0_0 a0_1 a0_2 l0_3 = some r) :
    Calls Try.prog 15 #[.agg #[.int .i64 a0_0, .bool a0_1, .int .i64 a0_2, .slice A0_3 l0_3.length c0_3]] w fun e w' => e = .returned (.int .i64 r) ∧ Below w.heap.size w w' := by
  have hu25 := Try.underlying25
  have HR0 := Aside0.mk hr0_3
  have HC0 := Aside0.mk hc0_3
  have HB := Aside0.mk (Below.refl w.heap.size w)
  clear hr0_3 hc0_3
  unfold reply_Check.f at h
  by_cases hl : l0_3.length < 140737488355328
  case neg => rw [if_neg hl] at h; exact absurd h (by simp)
  rw [if_pos hl] at h
  replace h := Option.some.inj h
  obtain ⟨bl, hbl⟩ : ∃ b, l0_3.any (fun x => decide (x < 0)) = b := ⟨_, rfl⟩
  have HL := Aside0.mk (show l0_3.length < 140737488355328 ∧ l0_3.any (fun x => decide (x < 0)) = bl from ⟨hl, hbl⟩)
  rw [hbl] at h
  clear hl hbl
  by_cases c0 : a0_0 = 0
  · subst c0
    by_cases cm : a0_2 < 0
    · have fm := (decide_eq_false (by omega) : decide (0 ≤ a0_2) = false)
      rw [if_neg (by omega), if_neg (by omega), if_pos cm] at h; subst h; clear cm
      go_enter Try.func15, Try.ntmps15
      go_wp2_with ((go_at_call 48; (with_reducible refine (contains_below0 A0_3 c0_3 l0_3 _ _ (Kd.C_alloc HR0.out _) HC0.out HL.out).mono ?_); rintro e w2 ⟨rfl, rfl⟩))
      go_ret
      exact ⟨rfl, (Below.refl _ _).alloc (Nat.le_refl _) _⟩
    · have fm := (decide_eq_true (by omega) : decide (0 ≤ a0_2) = true)
      by_cases cM : 255 < a0_2
      · have fM := (decide_eq_false (by omega) : decide (a0_2 ≤ 255) = false)
        rw [if_neg (by omega), if_neg (by omega), if_neg (by omega), if_pos cM] at h; subst h; clear cM
        go_enter Try.func15, Try.ntmps15
        go_wp2_with ((go_at_call 48; (with_reducible refine (contains_below0 A0_3 c0_3 l0_3 _ _ (Kd.C_alloc HR0.out _) HC0.out HL.out).mono ?_); rintro e w2 ⟨rfl, rfl⟩))
        go_ret
        exact ⟨rfl, (Below.refl _ _).alloc (Nat.le_refl _) _⟩
      · have fM := (decide_eq_true (by omega) : decide (a0_2 ≤ 255) = true)
        by_cases cl : 20 < (l0_3.length : Int)
        · have fl := (decide_eq_false (by omega) : decide ((l0_3.length : Int) ≤ 20) = false)
          have fl2 := (decide_eq_false (by omega) : decide (l0_3.length ≤ 20) = false)
          rw [if_neg (by omega), if_neg (by omega), if_neg (by omega), if_neg (by omega), (show checkLim 0 = 20 from rfl), if_pos cl] at h; subst h; clear cl
          go_enter Try.func15, Try.ntmps15
          go_wp2_with ((go_at_call 48; (with_reducible refine (contains_below0 A0_3 c0_3 l0_3 _ _ (Kd.C_alloc HR0.out _) HC0.out HL.out).mono ?_); rintro e w2 ⟨rfl, rfl⟩))
          go_ret
          exact ⟨rfl, (Below.refl _ _).alloc (Nat.le_refl _) _⟩
        · have fl := (decide_eq_true (by omega) : decide ((l0_3.length : Int) ≤ 20) = true)
          have fl2 := (decide_eq_true (by omega) : decide (l0_3.length ≤ 20) = true)
          rw [if_neg (by omega), if_neg (by omega), if_neg (by omega), if_neg (by omega), (show checkLim 0 = 20 from rfl), if_neg cl] at h
          clear cl
          cases bl with
          | true =>
            rw [if_pos rfl] at h; subst h
            go_enter Try.func15, Try.ntmps15
            go_wp2_with ((go_at_call 48; (with_reducible refine (contains_below0 A0_3 c0_3 l0_3 _ _ (Kd.C_alloc HR0.out _) HC0.out HL.out).mono ?_); rintro e w2 ⟨rfl, rfl⟩))
            go_ret
            exact ⟨rfl, (Below.refl _ _).alloc (Nat.le_refl _) _⟩
          | false =>
            rw [if_neg (by decide)] at h
            rw [if_pos rfl] at h; subst h
            go_enter Try.func15, Try.ntmps15
            go_wp2_with ((go_at_call 48; (with_reducible refine (contains_below0 A0_3 c0_3 l0_3 _ _ (Kd.C_alloc HR0.out _) HC0.out HL.out).mono ?_); rintro e w2 ⟨rfl, rfl⟩))
            go_ret
            exact ⟨rfl, (Below.refl _ _).alloc (Nat.le_refl _) _⟩
  · by_cases c3 : a0_0 = 3
    · subst c3
      clear c0
      by_cases cm : a0_2 < 0
      · have fm := (decide_eq_false (by omega) : decide (0 ≤ a0_2) = false)
        rw [if_neg (by omega), if_neg (by omega), if_pos cm] at h; subst h; clear cm
        go_enter Try.func15, Try.ntmps15
        go_wp2_with ((go_at_call 48; (with_reducible refine (contains_below0 A0_3 c0_3 l0_3 _ _ (Kd.C_alloc HR0.out _) HC0.out HL.out).mono ?_); rintro e w2 ⟨rfl, rfl⟩))
        go_ret
        exact ⟨rfl, (Below.refl _ _).alloc (Nat.le_refl _) _⟩
      · have fm := (decide_eq_true (by omega) : decide (0 ≤ a0_2) = true)
        by_cases cM : 255 < a0_2
        · have fM := (decide_eq_false (by omega) : decide (a0_2 ≤ 255) = false)
          rw [if_neg (by omega), if_neg (by omega), if_neg (by omega), if_pos cM] at h; subst h; clear cM
          go_enter Try.func15, Try.ntmps15
          go_wp2_with ((go_at_call 48; (with_reducible refine (contains_below0 A0_3 c0_3 l0_3 _ _ (Kd.C_alloc HR0.out _) HC0.out HL.out).mono ?_); rintro e w2 ⟨rfl, rfl⟩))
          go_ret
          exact ⟨rfl, (Below.refl _ _).alloc (Nat.le_refl _) _⟩
        · have fM := (decide_eq_true (by omega) : decide (a0_2 ≤ 255) = true)
          by_cases cl : 2 < (l0_3.length : Int)
          · have fl := (decide_eq_false (by omega) : decide ((l0_3.length : Int) ≤ 2) = false)
            have fl2 := (decide_eq_false (by omega) : decide (l0_3.length ≤ 2) = false)
            rw [if_neg (by omega), if_neg (by omega), if_neg (by omega), if_neg (by omega), (show checkLim 3 = 2 from rfl), if_pos cl] at h; subst h; clear cl
            go_enter Try.func15, Try.ntmps15
            go_wp2_with ((go_at_call 48; (with_reducible refine (contains_below0 A0_3 c0_3 l0_3 _ _ (Kd.C_alloc HR0.out _) HC0.out HL.out).mono ?_); rintro e w2 ⟨rfl, rfl⟩))
            go_ret
            exact ⟨rfl, (Below.refl _ _).alloc (Nat.le_refl _) _⟩
          · have fl := (decide_eq_true (by omega) : decide ((l0_3.length : Int) ≤ 2) = true)
            have fl2 := (decide_eq_true (by omega) : decide (l0_3.length ≤ 2) = true)
            rw [if_neg (by omega), if_neg (by omega), if_neg (by omega), if_neg (by omega), (show checkLim 3 = 2 from rfl), if_neg cl] at h
            clear cl
            cases bl with
            | true =>
              rw [if_pos rfl] at h; subst h
              go_enter Try.func15, Try.ntmps15
              go_wp2_with ((go_at_call 48; (with_reducible refine (contains_below0 A0_3 c0_3 l0_3 _ _ (Kd.C_alloc HR0.out _) HC0.out HL.out).mono ?_); rintro e w2 ⟨rfl, rfl⟩))
              go_ret
              exact ⟨rfl, (Below.refl _ _).alloc (Nat.le_refl _) _⟩
            | false =>
              rw [if_neg (by decide)] at h
              rw [if_neg (by decide)] at h
              cases a0_1 with
              | true =>
                rw [if_pos rfl] at h; subst h
                go_enter Try.func15, Try.ntmps15
                go_wp2_with ((go_at_call 48; (with_reducible refine (contains_below0 A0_3 c0_3 l0_3 _ _ (Kd.C_alloc HR0.out _) HC0.out HL.out).mono ?_); rintro e w2 ⟨rfl, rfl⟩))
                go_ret
                exact ⟨rfl, (Below.refl _ _).alloc (Nat.le_refl _) _⟩
              | false =>
                rw [if_neg (by decide)] at h
                by_cases cz : a0_2 = 0
                · subst cz
                  rw [if_pos rfl] at h; subst h
                  go_enter Try.func15, Try.ntmps15
                  go_wp2_with ((go_at_call 48; (with_reducible refine (contains_below0 A0_3 c0_3 l0_3 _ _ (Kd.C_alloc HR0.out _) HC0.out HL.out).mono ?_); rintro e w2 ⟨rfl, rfl⟩))
                  go_ret
                  exact ⟨rfl, (Below.refl _ _).alloc (Nat.le_refl _) _⟩
                · have fz1 := (beq_eq_false_iff_ne.mpr cz : (a0_2 == 0) = false)
                  have fz2 := (bne_iff_ne.mpr cz : (a0_2 != 0) = true)
                  rw [if_neg cz] at h; subst h; clear cz
                  go_enter Try.func15, Try.ntmps15
                  go_wp2_with ((go_at_call 48; (with_reducible refine (contains_below0 A0_3 c0_3 l0_3 _ _ (Kd.C_alloc HR0.out _) HC0.out HL.out).mono ?_); rintro e w2 ⟨rfl, rfl⟩))
                  go_ret
                  exact ⟨rfl, (Below.refl _ _).alloc (Nat.le_refl _) _⟩
    · have e0 := (beq_eq_false_iff_ne.mpr c0 : (a0_0 == 0) = false)
      have e0n := (bne_iff_ne.mpr c0 : (a0_0 != 0) = true)
      have e3 := (beq_eq_false_iff_ne.mpr c3 : (a0_0 == 3) = false)
      by_cases cn : a0_0 < 0
      · have fn := (decide_eq_false (by omega) : decide (0 ≤ a0_0) = false)
        rw [if_pos cn] at h; subst h; clear cn c0 c3
        go_enter Try.func15, Try.ntmps15
        go_wp2_with ((go_at_call 48; (with_reducible refine (contains_below0 A0_3 c0_3 l0_3 _ _ (Kd.C_alloc HR0.out _) HC0.out HL.out).mono ?_); rintro e w2 ⟨rfl, rfl⟩))
        go_ret
        exact ⟨rfl, (Below.refl _ _).alloc (Nat.le_refl _) _⟩
      · have fn := (decide_eq_true (by omega) : decide (0 ≤ a0_0) = true)
        by_cases cN : 30 < a0_0
        · have fN := (decide_eq_false (by omega) : decide (a0_0 ≤ 30) = false)
          rw [if_neg cn, if_pos cN] at h; subst h; clear cN cn c0 c3
          go_enter Try.func15, Try.ntmps15
          go_wp2_with ((go_at_call 48; (with_reducible refine (contains_below0 A0_3 c0_3 l0_3 _ _ (Kd.C_alloc HR0.out _) HC0.out HL.out).mono ?_); rintro e w2 ⟨rfl, rfl⟩))
          go_ret
          exact ⟨rfl, (Below.refl _ _).alloc (Nat.le_refl _) _⟩
        · have fN := (decide_eq_true (by omega) : decide (a0_0 ≤ 30) = true)
          by_cases cm : a0_2 < 0
          · have fm := (decide_eq_false (by omega) : decide (0 ≤ a0_2) = false)
            rw [if_neg (by omega), if_neg (by omega), if_pos cm] at h; subst h; clear cm
            go_enter Try.func15, Try.ntmps15
            go_wp2_with ((go_at_call 48; (with_reducible refine (contains_below0 A0_3 c0_3 l0_3 _ _ (Kd.C_alloc HR0.out _) HC0.out HL.out).mono ?_); rintro e w2 ⟨rfl, rfl⟩))
            go_ret
            exact ⟨rfl, (Below.refl _ _).alloc (Nat.le_refl _) _⟩
          · have fm := (decide_eq_true (by omega) : decide (0 ≤ a0_2) = true)
            by_cases cM : 255 < a0_2
            · have fM := (decide_eq_false (by omega) : decide (a0_2 ≤ 255) = false)
              rw [if_neg (by omega), if_neg (by omega), if_neg (by omega), if_pos cM] at h; subst h; clear cM
              go_enter Try.func15, Try.ntmps15
              go_wp2_with ((go_at_call 48; (with_reducible refine (contains_below0 A0_3 c0_3 l0_3 _ _ (Kd.C_alloc HR0.out _) HC0.out HL.out).mono ?_); rintro e w2 ⟨rfl, rfl⟩))
              go_ret
              exact ⟨rfl, (Below.refl _ _).alloc (Nat.le_refl _) _⟩
            · have fM := (decide_eq_true (by omega) : decide (a0_2 ≤ 255) = true)
              by_cases cl : 0 < (l0_3.length : Int)
              · have fl := (decide_eq_false (by omega) : decide ((l0_3.length : Int) ≤ 0) = false)
                have fl2 := (decide_eq_false (by omega) : decide (l0_3.length ≤ 0) = false)
                have fl3 := (decide_eq_false (by intro q; rw [q] at cl; exact absurd cl (by decide)) : decide (l0_3 = []) = false)
                rw [if_neg (by omega), if_neg (by omega), if_neg (by omega), if_neg (by omega), (show checkLim a0_0 = 0 by unfold checkLim; rw [if_neg (by omega), if_neg (by omega)]), if_pos cl] at h; subst h; clear cl
                go_enter Try.func15, Try.ntmps15
                go_wp2_with ((go_at_call 48; (with_reducible refine (contains_below0 A0_3 c0_3 l0_3 _ _ (Kd.C_alloc HR0.out _) HC0.out HL.out).mono ?_); rintro e w2 ⟨rfl, rfl⟩))
                go_ret
                exact ⟨rfl, (Below.refl _ _).alloc (Nat.le_refl _) _⟩
              · have fl := (decide_eq_true (by omega) : decide ((l0_3.length : Int) ≤ 0) = true)
                have fl2 := (decide_eq_true (by omega) : decide (l0_3.length ≤ 0) = true)
                have fl3 := (decide_eq_true (List.eq_nil_of_length_eq_zero (by omega)) : decide (l0_3 = []) = true)
                rw [if_neg (by omega), if_neg (by omega), if_neg (by omega), if_neg (by omega), (show checkLim a0_0 = 0 by unfold checkLim; rw [if_neg (by omega), if_neg (by omega)]), if_neg cl] at h
                clear cl
                cases bl with
                | true =>
                  rw [if_pos rfl] at h; subst h
                  go_enter Try.func15, Try.ntmps15
                  go_wp2_with ((go_at_call 48; (with_reducible refine (contains_below0 A0_3 c0_3 l0_3 _ _ (Kd.C_alloc HR0.out _) HC0.out HL.out).mono ?_); rintro e w2 ⟨rfl, rfl⟩))
                  go_ret
                  exact ⟨rfl, (Below.refl _ _).alloc (Nat.le_refl _) _⟩
                | false =>
                  rw [if_neg (by decide)] at h
                  rw [if_neg (by omega)] at h
                  cases a0_1 with
                  | true =>
                    rw [if_pos rfl] at h; subst h
                    go_enter Try.func15, Try.ntmps15
                    go_wp2_with ((go_at_call 48; (with_reducible refine (contains_below0 A0_3 c0_3 l0_3 _ _ (Kd.C_alloc HR0.out _) HC0.out HL.out).mono ?_); rintro e w2 ⟨rfl, rfl⟩))
                    go_ret
                    exact ⟨rfl, (Below.refl _ _).alloc (Nat.le_refl _) _⟩
                  | false =>
                    rw [if_neg (by decide)] at h
                    by_cases cz : a0_2 = 0
                    · subst cz
                      rw [if_pos rfl] at h; subst h
                      go_enter Try.func15, Try.ntmps15
                      go_wp2_with ((go_at_call 48; (with_reducible refine (contains_below0 A0_3 c0_3 l0_3 _ _ (Kd.C_alloc HR0.out _) HC0.out HL.out).mono ?_); rintro e w2 ⟨rfl, rfl⟩))
                      go_ret
                      exact ⟨rfl, (Below.refl _ _).alloc (Nat.le_refl _) _⟩
                    · have fz1 := (beq_eq_false_iff_ne.mpr cz : (a0_2 == 0) = false)
                      have fz2 := (bne_iff_ne.mpr cz : (a0_2 != 0) = true)
                      rw [if_neg cz] at h; subst h; clear cz
                      go_enter Try.func15, Try.ntmps15
                      go_wp2_with ((go_at_call 48; (with_reducible refine (contains_below0 A0_3 c0_3 l0_3 _ _ (Kd.C_alloc HR0.out _) HC0.out HL.out).mono ?_); rintro e w2 ⟨rfl, rfl⟩))
                      go_ret
                      exact ⟨rfl, (Below.refl _ _).alloc (Nat.le_refl _) _⟩
end Go.Proofs.Ytgfkcmmhnibaiaa.PRpd
