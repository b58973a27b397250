/- ring.Ring, walked by hand: rebase and Pick. -/
import Derived.Test.YtpammdblenfhgaaRg4
namespace Go.Proofs.Ytpammdblenfhgaa.Rg
open Go.RowKit Go.Proofs.Ytpammdblenfhgaa.FqMath Go.Proofs.YtpammdblenfhgaaW.PrintWords Go.Proofs.YtpammdblenfhgaaW.PrintLast Go.Proofs.YtpammdblenfhgaaW.PrintMore Pt PRg
set_option linter.unusedVariables false
set_option linter.unusedSimpArgs false
attribute [local go_sem] max2_int min2_int max_two min_two
def rb (q : Int) (m : Mb) : Mb := { m with f2 := m.f2 - min m.f2 (q * m.f1) }
/-- The first i members rebased. -/
def rbs (l : List Mb) (q : Int) : Nat → List Mb
  | 0 => l
  | i + 1 => (rbs l q i).set i (rb q (l.getD i zM))
theorem rbs_length (l : List Mb) (q : Int) (i : Nat) : (rbs l q i).length = l.length := by
  induction i with
  | zero => rfl
  | succ i ih => rw [rbs, List.length_set, ih]
theorem rbs_get (l : List Mb) (q : Int) (i j : Nat) (h : i ≤ j) : (rbs l q i)[j]? = l[j]? := by
  induction i with
  | zero => rfl
  | succ i ih => rw [rbs, List.getElem?_set_ne (by omega), ih (by omega)]
theorem rbs_done (l : List Mb) (q : Int) (i j : Nat) (h : j < i) : (rbs l q i)[j]? = l[j]?.map (rb q) := by
  induction i with
  | zero => omega
  | succ i ih =>
    rw [rbs]
    by_cases e : j = i
    · subst e
      rw [List.getElem?_set_self', rbs_get l q j j (Nat.le_refl _)]
      cases hm : l[j]? with
      | none => rfl
      | some m => rw [List.getD_eq_getElem?_getD, hm]; rfl
    · rw [List.getElem?_set_ne (by omega), ih (by omega)]
theorem rbs_all (l : List Mb) (q : Int) : rbs l q l.length = l.map (rb q) := by
  apply List.ext_getElem?
  intro j
  rw [List.getElem?_map]
  by_cases h : j < l.length
  · exact rbs_done l q l.length j h
  · rw [List.getElem?_eq_none (by rw [rbs_length]; omega), List.getElem?_eq_none (by omega)]; rfl
section
variable {w w' : World} {F : Nat → Prop} {g a cap : Nat} {sp : List Value} {v : Value} {s : Rg}
theorem RepB.kept {G : Nat → Prop} (h : RepB w F g a cap sp s) (k : Kept w w' G) (hd : ∀ k, F k → ¬ G k) : RepB w' F g a cap sp s :=
  ⟨h.fg, h.fa, h.ne, blk_kept h.hd k (hd _ h.fg), blk_kept h.row k (hd _ h.fa), h.size, h.mx, h.lim0, h.lim1⟩
set_option maxHeartbeats 4000000 in
set_option maxRecDepth 100000 in
theorem rebase_calls (h : RepB w F g a cap sp s) (hok : ∀ m ∈ s.l, MOk m) (n d q : Int) (hf : floorF s = (n, d)) (h0 : 0 ≤ n) (h1 : 1 ≤ d) (hn : n ≤ 9223372036854775807) (hq : n / d = q) (hql : q ≤ 9007199254740992) :
    Calls Try.prog 52 #[.pointer (some ⟨g, 0, none⟩)] w fun e w' => e = .returned (.tuple #[]) ∧ RepB w' F g a cap sp { s with l := s.l.map (rb q) } ∧ Turns w w' F := by
  have hcap : s.l.length ≤ maxLen := by have := h.size; have := h.mx; omega
  have HL := Aside0.mk (show s.l.length ≤ 9223372036854775807 by unfold maxLen at hcap; omega)
  have H := Aside0.mk h
  have HO := Aside0.mk hok
  have HF := Aside0.mk hf
  have HD := Aside0.mk (And.intro h0 (And.intro h1 hn))
  have HQ := Aside0.mk hq
  have HQL := Aside0.mk hql
  have e0 : d ≠ 0 := by omega
  have d0 : (d == 0) = false := beq_eq_false_iff_ne.mpr e0
  clear h hok hf h0 h1 hn hq hql hcap
  go_enter Try.func52, Try.ntmps52
  go_wp2_with (go_at_call 54; (with_reducible refine (floor_calls H.out.rep HO.out n d HF.out).mono ?_); rintro e w1 ⟨rfl, hb1⟩; have hr := H.out.below hb1; have k1 : w1.cell? ⟨g, 1, none⟩ = some (.slice (some ⟨a, 0, none⟩) s.l.length cap) := (blk_cell hr.hd 1).trans rfl; have K1 : ∀ o, (w1.alloc o).cell? ⟨g, 1, none⟩ = some (.slice (some ⟨a, 0, none⟩) s.l.length cap) := fun o => pw_cell_below (below_alloc (Below.refl _ _) o) k1; have HB1 := Aside0.mk hb1; clear hr hb1)
  have hq0 : IntKind.u64.wrap (n.tdiv d) = q := by
    have := HD.out; have hq := HQ.out
    rw [uw_id (by rw [Int.tdiv_eq_ediv_of_nonneg this.1]; exact Int.ediv_nonneg this.1 (by omega)) (by rw [Int.tdiv_eq_ediv_of_nonneg this.1]; have := Int.ediv_le_self d this.1; omega), Int.tdiv_eq_ediv_of_nonneg this.1]
    exact hq
  have HQ0 := Aside0.mk (show 0 ≤ q by have := HD.out; rw [← HQ.out]; exact Int.ediv_nonneg this.1 (by omega))
  simp only [hq0]
  have HN0 := Aside0.mk (heap_alloc_new w1 (Obj.cells #[Value.int IntKind.u64 n, Value.int IntKind.u64 d] 58))
  generalize hw2 : w1.alloc (Obj.cells #[Value.int IntKind.u64 n, Value.int IntKind.u64 d] 58) = w2
  have HT2 := Aside0.mk (show RepB w2 F g a cap sp s ∧ Turns w w2 F by subst hw2; exact ⟨(H.out.below HB1.out).below (below_alloc (Below.refl _ _) _), ((Turns.refl w F).below HB1.out).alloc _⟩)
  clear hw2 HN0 k1 K1 HB1 d0 e0 hq0
  go_loopg [18] (s.l.length + 1) (fun kq v18 w' => ∃ (i : Nat), v18 = .int .i64 (i : Int) ∧ Aside0 (i + kq = s.l.length + 1) ∧ Aside0 (i ≤ s.l.length) ∧ Aside0 (RepB w' F g a cap sp { s with l := rbs s.l q i }) ∧ Aside0 (Turns w w' F))
  case atStart => exact ⟨0, rfl, ⟨by omega⟩, ⟨by omega⟩, ⟨HT2.out.1⟩, ⟨HT2.out.2⟩⟩
  case round =>
    obtain ⟨i, rfl, HK, HI, HR, HW⟩ := hrel
    cases gk with
    | zero => exact absurd HK.out (by have := HI.out; omega)
    | succ k1 =>
      by_cases cc : i < s.l.length
      · have d1 : decide ((i : Int) < (s.l.length : Int)) = true := decide_eq_true (by omega)
        have d2 : decide (i < s.l.length) = true := decide_eq_true cc
        have p0 := eq_true (show (0 : Int) ≤ (i : Int) by omega)
        have p1 := eq_true (show (i : Int) < (s.l.length : Int) by omega)
        obtain ⟨m, hm⟩ : ∃ m, s.l[i]? = some m := ⟨_, List.getElem?_eq_getElem cc⟩
        have hm2 : (rbs s.l q i)[i]? = some m := (rbs_get s.l q i i (Nat.le_refl _)).trans hm
        have hR := HR.out
        obtain ⟨c0, c1, c2, c3⟩ := mb_cells hR.row i m hm2
        have k7 : wr.cell? ⟨g, 1, none⟩ = some (.slice (some ⟨a, 0, none⟩) s.l.length cap) := (blk_cell hR.hd 1).trans (by rw [← rbs_length s.l q i]; rfl)
        have K0 : ∀ o, (wr.alloc o).cell? ⟨g, 1, none⟩ = some (.slice (some ⟨a, 0, none⟩) s.l.length cap) := fun o => pw_cell_below (below_alloc (Below.refl _ _) o) k7
        have K2 : ∀ o, (wr.alloc o).cell? ⟨a, i * 4 + 2, none⟩ = some (.int .u64 m.f2) := fun o => pw_cell_below (below_alloc (Below.refl _ _) o) c2
        have fz : ∀ o, (wr.alloc o).frozen? ⟨a, i * 4 + 2, none⟩ = false := fun o => blk_frozen (hR.below (below_alloc (Below.refl _ _) o)).row (i * 4 + 2)
        have HM := Aside0.mk (HO.out m (List.mem_of_getElem? hm))
        have w1_ : IntKind.u64.wrap (q * m.f1) = q * m.f1 := by
          have h1 := HM.out.1; have h2 := HM.out.2.1
          have h3 := Int.mul_nonneg HQ0.out (show 0 ≤ m.f1 by omega)
          have h4 := Int.mul_le_mul HQL.out h2 (by omega) (by omega : (0 : Int) ≤ 9007199254740992)
          exact uw_id h3 (by omega)
        have w2_ : IntKind.u64.wrap (m.f2 - min m.f2 (q * m.f1)) = m.f2 - min m.f2 (q * m.f1) := by
          have h1 := HM.out.1; have h2 := HM.out.2.2.1; have h5 := HM.out.2.2.2
          have h3 := Int.mul_nonneg HQ0.out (show 0 ≤ m.f1 by omega)
          exact uw_id (by omega) (by omega)
        have HST := Aside0.mk hm2
        have HST2 := Aside0.mk hm
        have HC := Aside0.mk cc
        have HS : Aside0 (∀ (o : Obj) (x : Int), x = m.f2 - min m.f2 (q * m.f1) → RepB (((wr.alloc o).setCell ⟨a, i * 4 + 2, none⟩ (.int .u64 x)).drew) F g a cap sp { s with l := rbs s.l q (i + 1) }) := ⟨fun o x hx => by
          have e : rbs s.l q (i + 1) = (rbs s.l q i).set i { m with f2 := x } := by
            rw [rbs, List.getD_eq_getElem?_getD, hm, hx]
            rfl
          rw [e]
          exact ((hR.below (below_alloc (Below.refl _ _) o)).set_n i m hm2 x).kept (G := fun _ => False) (Kept.refl _ _).drew (fun _ _ => id)⟩
        clear hR hm hm2 cc
        go_wp2
        refine still_tail 18 (by kernel_rfl) (by kernel_rfl) ?_
        simp only [List.take_succ_cons, List.take_zero, List.drop_succ_cons, List.drop_zero]
        repeat still_step
        refine wpStill_nil ?_
        go_wp2
        · go_roundg k1
          case measure => omega
          case rel => exact ⟨i + 1, (by congr 1; unfold wrap64; have := HC.out; have := HL.out; omega), ⟨by have := HK.out; omega⟩, ⟨by have := HC.out; omega⟩, ⟨HS.out _ _ (by rw [← w2_, Int.min_eq_right (Int.le_of_lt h)])⟩, ⟨((HW.out.alloc _).set (.inl HR.out.fa) _).drew⟩⟩
        · go_roundg k1
          case measure => omega
          case rel => exact ⟨i + 1, (by congr 1; unfold wrap64; have := HC.out; have := HL.out; omega), ⟨by have := HK.out; omega⟩, ⟨by have := HC.out; omega⟩, ⟨HS.out _ _ (by rw [Int.min_eq_left h, Int.sub_self]; rfl)⟩, ⟨((HW.out.alloc _).set (.inl HR.out.fa) _).drew⟩⟩
      · have d1 : decide ((i : Int) < (s.l.length : Int)) = false := decide_eq_false (by omega)
        have d2 : decide (i < s.l.length) = false := decide_eq_false cc
        have e : i = s.l.length := by have := HI.out; omega
        subst e
        clear cc
        go_wp2
        refine bodyPost_end (v := .tuple #[]) (by simp [results, Try.results52, go_sem]) rfl ?_
        exact ⟨rfl, by rw [← rbs_all]; exact HR.out, HW.out⟩
/-! Pick -/
theorem pick_none {p : Value} (h : NoneV w p) : Calls Try.prog 16 #[p] w fun e w' => e = .returned (.tuple #[.int .i64 0, .bool false]) ∧ w = w' := by
  have H := Aside0.mk h
  clear h
  go_enter Try.func16, Try.ntmps16
  go_wp2_with (go_at_call 50; (with_reducible refine (none_v H.out).mono ?_); rintro e w' ⟨rfl, rfl⟩)
  go_ret2
  exact ⟨rfl, rfl⟩
theorem pick_no (h : Rep w F g s) (hok : ∀ m ∈ s.l, MOk m) (i : Nat) (hi : leastN s.l s.l.length = (i, false)) : Calls Try.prog 16 #[.pointer (some ⟨g, 0, none⟩)] w fun e w' => e = .returned (.tuple #[.int .i64 0, .bool false]) ∧ Below w.heap.size w w' := by
  have HX := Aside0.mk h
  have HO := Aside0.mk hok
  have HB := Aside0.mk hi
  clear h hok hi
  go_enter Try.func16, Try.ntmps16
  go_wp2_with (first
    | (go_at_call 50; (with_reducible refine (none_rep HX.out).mono ?_); rintro e w' ⟨rfl, rfl⟩)
    | (go_at_call 51; (with_reducible refine (least_calls HX.out HO.out i false HB.out).mono ?_); rintro e w1 ⟨rfl, hb1⟩; have HB1 := Aside0.mk hb1; clear hb1))
  go_ret2
  exact ⟨rfl, HB1.out⟩
def bump (s : Rg) (i : Nat) (m : Mb) : Rg := { s with l := s.l.set i { m with f2 := m.f2 + 1 } }
def rebR (s : Rg) : Rg := { s with l := s.l.map (rb ((floorF s).1 / (floorF s).2)) }
def afterPick (s : Rg) (i : Nat) (m : Mb) : Rg := if s.lim ≤ m.f2 + 1 then rebR (bump s i m) else bump s i m
theorem pick_yes (h : RepB w F g a cap sp s) (hok : ∀ m ∈ s.l, MOk m) (i : Nat) (hi : leastN s.l s.l.length = (i, true)) (m : Mb) (hm : s.l[i]? = some m) (hm1 : m.f2 < 9007199254740992) (hl : ¬ s.lim ≤ m.f2 + 1 ∨ 0 ≤ (floorF (bump s i m)).1 ∧ (floorF (bump s i m)).1 ≤ 9007199254740992 ∧ 1 ≤ (floorF (bump s i m)).2) :
    Calls Try.prog 16 #[.pointer (some ⟨g, 0, none⟩)] w fun e w' => e = .returned (.tuple #[.int .i64 m.f0, .bool true]) ∧ RepB w' F g a cap sp (afterPick s i m) ∧ Turns w w' F := by
  have hlt := (List.getElem?_eq_some_iff.1 hm).1
  have p2 := eq_true (show (0 : Int) ≤ (i : Int) by omega)
  have p3 := eq_true (show (i : Int) < (s.l.length : Int) by omega)
  have hmm := hok m (List.mem_of_getElem? hm)
  have w1_ : IntKind.u64.wrap (m.f2 + 1) = m.f2 + 1 := uw_id (by have := hmm.2.2.1; omega) (by omega)
  have hok2 : ∀ x ∈ (bump s i m).l, MOk x := by
    intro x hx
    rcases List.mem_or_eq_of_mem_set hx with q | q
    · exact hok x q
    · subst q; exact ⟨hmm.1, hmm.2.1, by have := hmm.2.2.1; dsimp only; omega, by dsimp only; omega⟩
  have H := Aside0.mk h
  have HO := Aside0.mk hok
  have HO2 := Aside0.mk hok2
  have HB := Aside0.mk hi
  have HM := Aside0.mk hm
  have HL := Aside0.mk hl
  clear h hok hok2 hi hm hmm hm1 hl hlt
  by_cases cl : s.lim ≤ m.f2 + 1
  · have d1 : decide (m.f2 + 1 ≥ s.lim) = true := decide_eq_true cl
    have d2 : decide (s.lim ≤ m.f2 + 1) = true := decide_eq_true cl
    have CL := Aside0.mk cl
    clear cl
    go_enter Try.func16, Try.ntmps16
    go_wp2_with (first
      | (go_at_call 50; (with_reducible refine (none_rep H.out.rep).mono ?_); rintro e w' ⟨rfl, rfl⟩)
      | (go_at_call 51; (with_reducible refine (least_calls H.out.rep HO.out i true HB.out).mono ?_); rintro e w1 ⟨rfl, hb1⟩; have hr := H.out.below hb1; have k1 : w1.cell? ⟨g, 1, none⟩ = some (.slice (some ⟨a, 0, none⟩) s.l.length cap) := (blk_cell hr.hd 1).trans rfl; obtain ⟨c0, c1, c2, c3⟩ := mb_cells hr.row i m HM.out; have fz : w1.frozen? ⟨a, i * 4 + 2, none⟩ = false := blk_frozen hr.row (i * 4 + 2); have HR := Aside0.mk hr; have HB1 := Aside0.mk hb1; clear hr hb1))
    have HW := Aside0.mk (((Turns.refl w F).below HB1.out).set (p := ⟨a, i * 4 + 2, none⟩) (.inl H.out.fa) (.int .u64 (m.f2 + 1)))
    have HR2 := Aside0.mk (HR.out.set_n i m HM.out (m.f2 + 1))
    generalize w1.setCell ⟨a, i * 4 + 2, none⟩ (.int .u64 (m.f2 + 1)) = w2 at *
    have hr2 := HR2.out
    have k2 : w2.cell? ⟨g, 0, none⟩ = some (.int .u64 s.lim) := (blk_cell hr2.hd 0).trans rfl
    have k3 : w2.cell? ⟨g, 1, none⟩ = some (.slice (some ⟨a, 0, none⟩) s.l.length cap) := (blk_cell hr2.hd 1).trans (by rw [show s.l.length = (s.l.set i { m with f2 := m.f2 + 1 }).length from List.length_set.symm]; rfl)
    have k4 := (mb_cells hr2.row i { m with f2 := m.f2 + 1 } (List.getElem?_set_self (List.getElem?_eq_some_iff.1 HM.out).1)).2.2.1
    dsimp only at k4
    clear hr2 k1 c0 c1 c2 c3 fz HR HB1
    go_quiet (skip)
    have HW3 := Aside0.mk (HW.out.drewN nq)
    have HR3 := Aside0.mk (show RepB (w2.drewN nq) F g a cap sp (bump s i m) from HR2.out.kept (G := fun _ => False) ((Kept.refl w2 _).drewN nq) (fun _ _ => id))
    generalize w2.drewN nq = w3 at *
    have HL2 : Aside0 (0 ≤ (floorF (bump s i m)).1 ∧ (floorF (bump s i m)).1 ≤ 9007199254740992 ∧ 1 ≤ (floorF (bump s i m)).2) := ⟨by
      rcases HL.out with q | q
      · exact absurd CL.out (by omega)
      · exact q⟩
    go_wp2_with (go_at_call 52; (with_reducible refine (rebase_calls HR3.out HO2.out _ _ _ rfl HL2.out.1 HL2.out.2.2 (Int.le_trans HL2.out.2.1 (by decide)) rfl (Int.le_trans (Int.ediv_le_self _ HL2.out.1) HL2.out.2.1)).mono ?_); rintro e w4 ⟨rfl, hr, hw⟩; have HR4 := Aside0.mk hr; have HW4 := Aside0.mk hw; clear hr hw)
    go_ret2
    refine ⟨rfl, ?_, HW3.out.trans HW4.out (fun k h => .inl h)⟩
    rw [afterPick, if_pos CL.out]
    exact HR4.out
  · have d1 : decide (m.f2 + 1 ≥ s.lim) = false := decide_eq_false cl
    have d2 : decide (s.lim ≤ m.f2 + 1) = false := decide_eq_false cl
    have CL := Aside0.mk cl
    clear cl
    go_enter Try.func16, Try.ntmps16
    go_wp2_with (first
      | (go_at_call 50; (with_reducible refine (none_rep H.out.rep).mono ?_); rintro e w' ⟨rfl, rfl⟩)
      | (go_at_call 51; (with_reducible refine (least_calls H.out.rep HO.out i true HB.out).mono ?_); rintro e w1 ⟨rfl, hb1⟩; have hr := H.out.below hb1; have k1 : w1.cell? ⟨g, 1, none⟩ = some (.slice (some ⟨a, 0, none⟩) s.l.length cap) := (blk_cell hr.hd 1).trans rfl; obtain ⟨c0, c1, c2, c3⟩ := mb_cells hr.row i m HM.out; have fz : w1.frozen? ⟨a, i * 4 + 2, none⟩ = false := blk_frozen hr.row (i * 4 + 2); have HR := Aside0.mk hr; have HB1 := Aside0.mk hb1; clear hr hb1))
    have HW := Aside0.mk (((Turns.refl w F).below HB1.out).set (p := ⟨a, i * 4 + 2, none⟩) (.inl H.out.fa) (.int .u64 (m.f2 + 1)))
    have HR2 := Aside0.mk (HR.out.set_n i m HM.out (m.f2 + 1))
    generalize w1.setCell ⟨a, i * 4 + 2, none⟩ (.int .u64 (m.f2 + 1)) = w2 at *
    have hr2 := HR2.out
    have k2 : w2.cell? ⟨g, 0, none⟩ = some (.int .u64 s.lim) := (blk_cell hr2.hd 0).trans rfl
    have k3 : w2.cell? ⟨g, 1, none⟩ = some (.slice (some ⟨a, 0, none⟩) s.l.length cap) := (blk_cell hr2.hd 1).trans (by rw [show s.l.length = (s.l.set i { m with f2 := m.f2 + 1 }).length from List.length_set.symm]; rfl)
    have k4 := (mb_cells hr2.row i { m with f2 := m.f2 + 1 } (List.getElem?_set_self (List.getElem?_eq_some_iff.1 HM.out).1)).2.2.1
    dsimp only at k4
    clear hr2 k1 c0 c1 c2 c3 fz HR HB1
    go_quiet (skip)
    have HW3 := Aside0.mk (HW.out.drewN nq)
    have HR3 := Aside0.mk (show RepB (w2.drewN nq) F g a cap sp (bump s i m) from HR2.out.kept (G := fun _ => False) ((Kept.refl w2 _).drewN nq) (fun _ _ => id))
    generalize w2.drewN nq = w3 at *
    go_wp2
    go_ret2
    refine ⟨rfl, ?_, HW3.out⟩
    rw [afterPick, if_neg (by have := CL.out; omega)]
    exact HR3.out
end
end Go.Proofs.Ytpammdblenfhgaa.Rg
