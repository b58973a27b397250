/- account.Account, walked by hand: a tick is counted. -/
import Derived.Test.YtgfkcmmhnibaiaaAc2
namespace Go.Proofs.Ytgfkcmmhnibaiaa.Ac
open Go.RowKit Go.Proofs.YtgfkcmmhnibaiaaW.PrintWords Go.Proofs.YtgfkcmmhnibaiaaW.PrintLast Go.Proofs.YtgfkcmmhnibaiaaW.PrintMore Pt
set_option linter.unusedVariables false
set_option linter.unusedSimpArgs false
/-- Is an id none of a task, and not 0? -/
def badId (x : Int) : Bool := decide (x < 0) || decide (200 < x)
theorem bad_id (x : Int) (w : World) : Calls Try.prog 56 #[.int .i64 x] w fun e w' => e = .returned (.bool (badId x)) ∧ w = w' := by
  by_cases h : x < 0
  · have hb : badId x = true := by unfold badId; rw [decide_eq_true h]; rfl
    have HB := Aside0.mk hb
    have d : decide (x < 0) = true := decide_eq_true h
    clear hb h
    go_enter Try.func56, Try.ntmps56
    go_wp2
    go_ret
    exact ⟨(by rw [HB.out]; rfl), rfl⟩
  · have hb : badId x = decide (200 < x) := by unfold badId; rw [decide_eq_false h]; rfl
    have HB := Aside0.mk hb
    have d : decide (x < 0) = false := decide_eq_false h
    clear hb h
    go_enter Try.func56, Try.ntmps56
    go_wp2
    go_ret
    exact ⟨(by rw [HB.out]; rfl), rfl⟩
theorem drop_rd (l : List Int) (i : Nat) (h : i < l.length) : rd l (i : Int) = l[i] := by
  simp [rd, List.getD_eq_getElem?_getD, h]
theorem any_drop (l : List Int) (i : Nat) (h : i < l.length) : (l.drop i).any badId = (badId (rd l (i : Int)) || (l.drop (i + 1)).any badId) := by
  rw [drop_rd l i h, List.drop_eq_getElem_cons h, List.any_cons]
set_option maxHeartbeats 4000000 in
set_option maxRecDepth 100000 in
theorem index_bad (A : Option Addr) (c : Nat) (l : List Int) (w : World) (hr : Kd.C (Kd.int .i64) w A l.length l) (hc : l.length ≤ c) (hl : l.length ≤ 9223372036854775807) :
    Calls Try.prog 70 #[.slice A l.length c, .func (.func 56) #[] #[]] w fun e w' => (∃ r : Int, e = .returned (.int .i64 r) ∧ (decide (0 ≤ r) = l.any badId)) ∧ w = w' := by
  have HR0 := Aside0.mk hr
  have HL := Aside0.mk hl
  clear hr hc hl
  go_enter Try.func70, Try.ntmps70
  go_wp2
  go_loopg [8] (l.length + 1) (fun kq v8 w' => ∃ i : Nat, v8 = .int .i64 (i : Int) ∧ Aside0 (i + kq = l.length + 1) ∧ Aside0 (i ≤ l.length) ∧ Aside0 (l.any badId = (l.drop i).any badId) ∧ w = w')
  case atStart => exact ⟨0, rfl, ⟨by omega⟩, ⟨by omega⟩, ⟨by rw [List.drop_zero]⟩, rfl⟩
  case round =>
    obtain ⟨i, rfl, HK, HI, HA, rfl⟩ := hrel
    cases gk with
    | zero => exact absurd HK.out (by have := HI.out; omega)
    | succ k1 =>
      by_cases cc : i < l.length
      · have d1 : decide ((i : Int) < (l.length : Int)) = true := decide_eq_true (by omega)
        have d2 : decide (i < l.length) = true := decide_eq_true cc
        obtain ⟨ad, ead, hx⟩ := Kd.at_int HR0.out (i : Int) (by omega) (by omega)
        cases ead
        have p0 := eq_true (show (0 : Int) ≤ (i : Int) by omega)
        have q0 := eq_true (show (i : Int) < (l.length : Int) by omega)
        have ha := HA.out
        rw [any_drop l i cc] at ha
        rw [Int.toNat_natCast] at hx
        have HI' := Aside0.mk cc
        clear cc HA
        by_cases cx : badId (rd l (i : Int)) = true
        · have e1 : badId (rd l (i : Int)) = true := cx
          have HA := Aside0.mk ha
          clear cx ha
          go_wp2_with (go_at_call 56; (with_reducible refine (bad_id _ _).mono ?_); rintro e w2 ⟨rfl, rfl⟩)
          go_ret
          exact ⟨⟨_, rfl, by rw [HA.out, e1, Bool.true_or]; exact decide_eq_true (Int.natCast_nonneg _)⟩, rfl⟩
        · have e1 : badId (rd l (i : Int)) = false := by simpa using cx
          rw [e1, Bool.false_or] at ha
          have HA := Aside0.mk ha
          clear cx ha
          go_wp2_with (go_at_call 56; (with_reducible refine (bad_id _ _).mono ?_); rintro e w2 ⟨rfl, rfl⟩)
          go_roundg k1
          case measure => omega
          case rel => exact ⟨i + 1, (by first | rfl | (simp; done) | (congr 1; unfold wrap64; have := HL.out; have := HI'.out; omega)), ⟨by have := HK.out; omega⟩, ⟨by have := HI'.out; omega⟩, HA, rfl⟩
      · have d1 : decide ((i : Int) < (l.length : Int)) = false := decide_eq_false (by omega)
        have d2 : decide (i < l.length) = false := decide_eq_false cc
        have HA' := Aside0.mk (show l.any badId = false by rw [HA.out, List.drop_of_length_le (by omega)]; rfl)
        clear cc HA
        go_wp2
        go_ret
        exact ⟨⟨_, rfl, by rw [HA'.out]; decide⟩, rfl⟩
set_option maxHeartbeats 4000000 in
set_option maxRecDepth 100000 in
theorem contains_bad (A : Option Addr) (c : Nat) (l : List Int) (bl : Bool) (w : World) (hr : Kd.C (Kd.int .i64) w A l.length l) (hc : l.length ≤ c) (hl : l.length ≤ 9223372036854775807 ∧ l.any badId = bl) :
    Calls Try.prog 48 #[.slice A l.length c, .func (.func 56) #[] #[]] w fun e w' => e = .returned (.bool bl) ∧ w = w' := by
  have HR0 := Aside0.mk hr
  have HC0 := Aside0.mk hc
  have HL := Aside0.mk hl.1
  have HBl := Aside0.mk hl.2
  clear hr hc hl
  go_enter Try.func48, Try.ntmps48
  go_wp2_with (go_at_call 70; (with_reducible refine (index_bad A c l _ HR0.out HC0.out HL.out).mono ?_); rintro e w2 ⟨⟨r, rfl, hrr⟩, rfl⟩; have HRR := Aside0.mk hrr; clear hrr)
  go_ret
  exact ⟨(by rw [← HBl.out, ← HRR.out]; rfl), rfl⟩
/-- Who ran on a core is counted, on both sides. -/
def stepF (s : Ac) (j : Nat) (id : Int) : Ac :=
  let c := s.C.set j (coreF (s.C.getD j ⟨0, 0, 0, 0⟩) id)
  if id = 0 then { s with C := c } else { s with C := c, M := upd s.M id (some (taskF (s.M id) (j : Int))) }
def rowF (s : Ac) (l : List Int) (n : Nat) : Ac := (List.range n).foldl (fun s j => stepF s j (l.getD j 0)) s
theorem rowF_succ (s : Ac) (l : List Int) (n : Nat) : rowF s l (n + 1) = stepF (rowF s l n) n (l.getD n 0) := by simp [rowF, List.range_succ]
theorem stepF_len (s : Ac) (j : Nat) (id : Int) : (stepF s j id).C.length = s.C.length := by unfold stepF; split <;> simp
theorem stepF_f (s : Ac) (j : Nat) (id : Int) : (stepF s j id).f = s.f ∧ (stepF s j id).ticks = s.ticks := by unfold stepF; split <;> exact ⟨rfl, rfl⟩
theorem rowF_f (s : Ac) (l : List Int) (n : Nat) : (rowF s l n).f = s.f ∧ (rowF s l n).ticks = s.ticks ∧ (rowF s l n).C.length = s.C.length := by
  induction n with
  | zero => exact ⟨rfl, rfl, rfl⟩
  | succ n ih =>
    rw [rowF_succ]
    exact ⟨(stepF_f _ _ _).1.trans ih.1, (stepF_f _ _ _).2.trans ih.2.1, (stepF_len _ _ _).trans ih.2.2⟩
/-- A tick is counted. -/
def addF (s : Ac) (l : List Int) : Ac :=
  let x := rowF s l 16
  let y := { x with ticks := x.ticks + 1 }
  if y.ticks % y.f = 0 then { y with M := overN 201 y.M } else y
def rightRow (l : List Int) : Bool := decide (l.length = 16) && !l.any badId
section
variable {w : World} {F : Nat → Prop} {g m : Nat} {s : Ac}
theorem add_nil (A : Option Addr) (n c : Nat) (w : World) : Calls Try.prog 28 #[.pointer none, .slice A n c] w fun e w' => e = .returned (.int .i64 2) ∧ w = w' := by
  go_enter Try.func28, Try.ntmps28
  go_wp2_with (go_at_call 55; (with_reducible refine (none_nil _).mono ?_); rintro e w' ⟨rfl, rfl⟩)
  go_ret
  exact ⟨rfl, rfl⟩
theorem none_rep (h : Rep w F g s) : Calls Try.prog 55 #[.pointer (some ⟨g, 0, none⟩)] w fun e w' => e = .returned (.bool false) ∧ w = w' := by
  obtain ⟨m, h⟩ := h
  exact none_some h
set_option maxHeartbeats 1000000 in
set_option maxRecDepth 100000 in
theorem add_no (h : Rep w F g s) (A : Option Addr) (c : Nat) (l : List Int) (hr : Kd.C (Kd.int .i64) w A l.length l) (hc : l.length ≤ c) (hl : l.length ≤ 9223372036854775807) (hn : rightRow l = false) :
    Calls Try.prog 28 #[.pointer (some ⟨g, 0, none⟩), .slice A l.length c] w fun e w' => e = .returned (.int .i64 1) ∧ w = w' := by
  have H := Aside0.mk h
  have HR := Aside0.mk hr
  have HC := Aside0.mk hc
  clear h hr hc
  by_cases hlen : l.length = 16
  · have hb : l.any badId = true := by
      unfold rightRow at hn
      rw [decide_eq_true hlen, Bool.true_and] at hn
      simpa using hn
    have HB := Aside0.mk hb
    have HL := Aside0.mk hl
    have d1 : (((l.length : Nat) : Int) != 16) = false := by rw [bne_eq_false_iff_eq]; omega
    clear hn hb hl hlen
    go_enter Try.func28, Try.ntmps28
    go_wp2_with (first
      | (go_at_call 55; (with_reducible refine (none_rep H.out).mono ?_); rintro e w' ⟨rfl, rfl⟩)
      | (go_at_call 48; (with_reducible refine (contains_bad A c l true _ HR.out HC.out ⟨HL.out, HB.out⟩).mono ?_); rintro e w' ⟨rfl, rfl⟩))
    go_ret
    exact ⟨rfl, rfl⟩
  · have d1 : (((l.length : Nat) : Int) != 16) = true := bne_iff_ne.mpr (by omega)
    clear hn hl hlen
    go_enter Try.func28, Try.ntmps28
    go_wp2_with (go_at_call 55; (with_reducible refine (none_rep H.out).mono ?_); rintro e w' ⟨rfl, rfl⟩)
    go_ret
    exact ⟨rfl, rfl⟩
theorem right_at {l : List Int} (h : rightRow l = true) : l.length = 16 ∧ l.any badId = false ∧ ∀ i : Nat, i < 16 → 0 ≤ rd l (i : Int) ∧ rd l (i : Int) ≤ 200 := by
  unfold rightRow at h
  simp only [Bool.and_eq_true, decide_eq_true_eq, Bool.not_eq_true'] at h
  refine ⟨h.1, h.2, fun i hi => ?_⟩
  have hb := List.any_eq_false.1 h.2 (rd l (i : Int)) (by rw [drop_rd l i (by omega)]; exact List.getElem_mem _)
  unfold badId at hb
  simp only [Bool.or_eq_true, decide_eq_true_eq, not_or, Int.not_lt] at hb
  omega
set_option maxHeartbeats 4000000 in
set_option maxRecDepth 100000 in
theorem add_yes (h : Rep w F g s) (A : Option Addr) (c : Nat) (l : List Int) (hr : Kd.C (Kd.int .i64) w A l.length l) (hfar : ∀ ad, A = some ad → ¬ F ad.block ∧ ad.block < w.heap.size) (hc : l.length ≤ c) (hn : rightRow l = true) (h0 : 0 ≤ s.ticks) (h1 : s.ticks < 1000000) :
    Calls Try.prog 28 #[.pointer (some ⟨g, 0, none⟩), .slice A l.length c] w fun e w' => e = .returned (.int .i64 0) ∧ Rep w' F g (addF s l) ∧ Turns w w' F := by
  obtain ⟨hlen, hb, hid⟩ := right_at hn
  have H := Aside0.mk h
  have HR := Aside0.mk hr
  have HC := Aside0.mk hc
  have HB := Aside0.mk hb
  have HL := Aside0.mk hlen
  have HID := Aside0.mk hid
  have HF := Aside0.mk hfar
  have H0 := Aside0.mk h0
  have H1 := Aside0.mk h1
  have d1 : (((l.length : Nat) : Int) != 16) = false := by rw [bne_eq_false_iff_eq]; omega
  clear h hr hc hb hlen hid hfar hn h0 h1
  go_enter Try.func28, Try.ntmps28
  go_wp2_with (first
    | (go_at_call 55; (with_reducible refine (none_rep H.out).mono ?_); rintro e w' ⟨rfl, rfl⟩)
    | (go_at_call 48; (with_reducible refine (contains_bad A c l false _ HR.out HC.out ⟨by rw [HL.out]; decide, HB.out⟩).mono ?_); rintro e w' ⟨rfl, rfl⟩))
  go_loopg [18] 17 (fun kq v18 w' => ∃ i : Nat, v18 = .int .i64 (i : Int) ∧ Aside0 (i + kq = 17) ∧ Aside0 (i ≤ 16) ∧ Aside0 (Rep w' F g (rowF s l i)) ∧ Aside0 (Turns w w' F))
  case atStart => exact ⟨0, rfl, ⟨by omega⟩, ⟨by omega⟩, H, ⟨Turns.refl _ _⟩⟩
  case round =>
    obtain ⟨i, rfl, HK, HI, HX, HT⟩ := hrel
    cases gk with
    | zero => exact absurd HK.out (by have := HI.out; omega)
    | succ k1 =>
      by_cases cc : i < 16
      · have d2 : decide ((i : Int) < (l.length : Int)) = true := decide_eq_true (by have := HL.out; omega)
        have d3 : decide (i < l.length) = true := decide_eq_true (by have := HL.out; omega)
        obtain ⟨ad, ead, hx⟩ := Kd.at_int HR.out (i : Int) (by omega) (by have := HL.out; omega)
        have hx' := cell_kept (S := F) hx HT.out.kept (by rw [add_block]; exact (HF.out ad ead).1)
        cases ead
        rw [Int.toNat_natCast] at hx'
        have p0 := eq_true (show (0 : Int) ≤ (i : Int) by omega)
        have q0 := eq_true (show (i : Int) < (l.length : Int) by have := HL.out; omega)
        have HI' := Aside0.mk cc
        have hid := HID.out i cc
        have HSU := Aside0.mk (rowF_succ s l i)
        have hgd : l.getD i 0 = rd l (i : Int) := by simp [rd]
        rw [hgd] at HSU
        have hci : i < (rowF s l i).C.length := by
          obtain ⟨m, hm⟩ := HX.out
          rw [hm.len]
          exact cc
        obtain ⟨cr, hcr⟩ : ∃ cr, (rowF s l i).C[i]? = some cr := ⟨_, List.getElem?_eq_getElem hci⟩
        have HCR := Aside0.mk hcr
        have HG := Aside0.mk (show (rowF s l i).C.getD i ⟨0, 0, 0, 0⟩ = cr by rw [List.getD_eq_getElem?_getD, hcr]; rfl)
        clear cc hx hgd hci hcr
        by_cases hz : rd l (i : Int) = 0
        · have HZ := Aside0.mk hz
          have d4 : (rd l (i : Int) != 0) = false := by rw [hz]; rfl
          clear hz hid
          generalize rd l (i : Int) = id at *
          go_wp2_with (first
            | (go_at_call 57; (with_reducible refine (core_calls HX.out i cr HCR.out id).mono ?_); rintro e w1 ⟨rfl, hr1, ht1⟩; have HR1 := Aside0.mk hr1; have HT1 := Aside0.mk ht1; clear hr1 ht1))
          go_roundg k1
          case measure => omega
          case rel => exact ⟨i + 1, (by congr 1; unfold wrap64; have := HI'.out; omega), ⟨by have := HK.out; omega⟩, ⟨by have := HI'.out; omega⟩, ⟨by
            rw [HSU.out, stepF, if_pos HZ.out, HG.out]
            exact HR1.out⟩, ⟨HT.out.trans HT1.out (fun k hk => .inl hk)⟩⟩
        · have HZ := Aside0.mk hz
          have d4 : (rd l (i : Int) != 0) = true := bne_iff_ne.mpr hz
          have HP0 := Aside0.mk hid.1
          have HP1 := Aside0.mk (show rd l (i : Int) < 1024 by omega)
          clear hz hid
          generalize rd l (i : Int) = id at *
          go_wp2_with (first
            | (go_at_call 57; (with_reducible refine (core_calls HX.out i cr HCR.out id).mono ?_); rintro e w1 ⟨rfl, hr1, ht1⟩; have HR1 := Aside0.mk hr1; have HT1 := Aside0.mk ht1; clear hr1 ht1)
            | (go_at_call 58; (with_reducible refine (task_calls HR1.out id HP0.out HP1.out (i : Int)).mono ?_); rintro e w2 ⟨rfl, hr2, ht2⟩; have HR2 := Aside0.mk hr2; have HT2 := Aside0.mk ht2; clear hr2 ht2))
          go_roundg k1
          case measure => omega
          case rel => exact ⟨i + 1, (by congr 1; unfold wrap64; have := HI'.out; omega), ⟨by have := HK.out; omega⟩, ⟨by have := HI'.out; omega⟩, ⟨by
            rw [HSU.out, stepF, if_neg HZ.out, HG.out]
            exact HR2.out⟩, ⟨(HT.out.trans HT1.out (fun k hk => .inl hk)).trans HT2.out (fun k hk => .inl hk)⟩⟩
      · have d2 : decide ((i : Int) < (l.length : Int)) = false := decide_eq_false (by have := HL.out; omega)
        have d3 : decide (i < l.length) = false := decide_eq_false (by have := HL.out; omega)
        have H16 := Aside0.mk (show i = 16 by have := HI.out; omega)
        rw [H16.out] at HX
        clear cc
        have HE := Aside0.mk (rowF_f s l 16)
        obtain ⟨m, hm⟩ := HX.out
        have HM := Aside0.mk hm
        obtain ⟨x, hx⟩ : ∃ x, x = rowF s l 16 := ⟨_, rfl⟩
        have HA : Aside0 (addF s l = if (x.ticks + 1) % x.f = 0 then { x with ticks := x.ticks + 1, M := overN 201 x.M } else { x with ticks := x.ticks + 1 }) := ⟨by rw [hx]; rfl⟩
        rw [← hx] at HX HM HE
        clear hm hx HID
        obtain ⟨t, ht⟩ : ∃ t, t = x.ticks := ⟨_, rfl⟩
        obtain ⟨f, hf⟩ : ∃ f, f = x.f := ⟨_, rfl⟩
        have c0 : wr.cell? ⟨g, 0, none⟩ = some (.int .i64 f) := by rw [hf]; exact (blk_cell HM.out.hd 0).trans rfl
        have c1 : wr.cell? ⟨g, 1, none⟩ = some (.int .i64 t) := by rw [ht]; exact (blk_cell HM.out.hd 1).trans rfl
        have z1 := blk_frozen HM.out.hd 1
        have t0 : 0 ≤ t := by rw [ht, HE.out.2.1]; exact H0.out
        have t1 : t < 1000000 := by rw [ht, HE.out.2.1]; exact H1.out
        have f0 : 2 ≤ f := by rw [hf]; exact HM.out.f0
        have f1 : f ≤ 64 := by rw [hf]; exact HM.out.f1
        have hE : Turns wr (wr.setCell ⟨g, 1, none⟩ (.int .i64 (t + 1))) F := (Turns.refl _ _).set (.inl HM.out.fg) _
        have hN : Rep (wr.setCell ⟨g, 1, none⟩ (.int .i64 (t + 1))) F g { x with ticks := t + 1 } := ⟨m, HM.out.fg, HM.out.fm, HM.out.ne, by
          rw [blk_set HM.out.hd]
          simp only [List.setIfInBounds_toArray, acCells, List.set_cons_succ, List.set_cons_zero], HM.out.mp.kept (Kept.setCell (S := fun k => k = g) (Kept.refl wr _) (.inl rfl) _) (fun e => HM.out.ne e.symm), HM.out.len, HM.out.f0, HM.out.f1⟩
        have HFX := Aside0.mk hf
        have HN := Aside0.mk hN
        have HEE := Aside0.mk hE
        rw [← hf, ← ht] at HA
        have FN0 : (f == 0) = false := beq_eq_false_iff_ne.mpr (by omega)
        have ew : wrap64 ((t + 1).tmod f) = (t + 1).tmod f := by
          rw [Int.tmod_eq_emod_of_nonneg (by omega)]
          have := Int.emod_nonneg (t + 1) (show f ≠ 0 by omega)
          have := Int.emod_lt_of_pos (t + 1) (show 0 < f by omega)
          unfold wrap64
          omega
        clear ht hf HX hN hE
        by_cases hov : (t + 1) % f = 0
        · rw [if_pos hov] at HA
          have e1 : ((t + 1) % f == 0) = true := by rw [hov]; rfl
          have e2 : ((t + 1).tmod f == 0) = true := by rw [Int.tmod_eq_emod_of_nonneg (by omega), hov]; rfl
          clear hov
          go_wp2
          go_quiet (fail)
          go_wp2_with (go_at_call 59; (with_reducible refine (over_calls (HN.out.drewN _)).mono ?_); rintro e w1 ⟨rfl, hr1, ht1⟩; have HR1 := Aside0.mk hr1; have HT1 := Aside0.mk ht1; clear hr1 ht1)
          go_ret
          refine ⟨rfl, ?_, ((HT.out.trans HEE.out (fun k hk => .inl hk)).drewN _).trans HT1.out (fun k hk => .inl hk)⟩
          rw [HA.out, HFX.out]
          exact HR1.out
        · rw [if_neg hov] at HA
          have e1 : ((t + 1) % f == 0) = false := beq_eq_false_iff_ne.mpr hov
          have e2 : ((t + 1).tmod f == 0) = false := by rw [Int.tmod_eq_emod_of_nonneg (by omega)]; exact beq_eq_false_iff_ne.mpr hov
          clear hov
          go_wp2
          go_quiet (fail)
          go_wp2
          go_ret
          refine ⟨rfl, ?_, (HT.out.trans HEE.out (fun k hk => .inl hk)).drewN _⟩
          rw [HA.out, HFX.out]
          exact HN.out.drewN _
end
end Go.Proofs.Ytgfkcmmhnibaiaa.Ac
