/- account.Account, walked by hand: what was counted; a task is forgotten; nobody made it. -/
import Derived.Test.YtgfkcmmhnibaiaaAc3
namespace Go.Proofs.Ytgfkcmmhnibaiaa.Ac
open Go.RowKit Go.Proofs.YtgfkcmmhnibaiaaW.PrintWords Go.Proofs.YtgfkcmmhnibaiaaW.PrintLast Go.Proofs.YtgfkcmmhnibaiaaW.PrintMore Pt
set_option linter.unusedVariables false
set_option linter.unusedSimpArgs false
/-- Nobody made it. -/
def NoneV (w : World) (p : Value) : Prop := p = .pointer none ∨ ∃ g, p = .pointer (some ⟨g, 0, none⟩) ∧ w.cell? ⟨g, 0, none⟩ = some (.int .i64 0)
theorem NoneV.below {w w' : World} {p : Value} (h : NoneV w p) (k : Below w.heap.size w w') : NoneV w' p := by
  rcases h with h | ⟨g, h, hc⟩
  · exact .inl h
  · exact .inr ⟨g, h, pw_cell_below k hc⟩
theorem none_v {w : World} {p : Value} (h : NoneV w p) : Calls Try.prog 55 #[p] w fun e w' => e = .returned (.bool true) ∧ w = w' := by
  rcases h with rfl | ⟨g, rfl, hc⟩
  · exact none_nil w
  · go_enter Try.func55, Try.ntmps55
    go_wp2
    go_ret
    exact ⟨rfl, rfl⟩
theorem ticks_none {w : World} {p : Value} (h : NoneV w p) : Calls Try.prog 30 #[p] w fun e w' => e = .returned (.int .i64 0) ∧ w = w' := by
  have H := Aside0.mk h
  clear h
  go_enter Try.func30, Try.ntmps30
  go_wp2_with (go_at_call 55; (with_reducible refine (none_v H.out).mono ?_); rintro e w' ⟨rfl, rfl⟩)
  go_ret
  exact ⟨rfl, rfl⟩
theorem frames_none {w : World} {p : Value} (h : NoneV w p) : Calls Try.prog 34 #[p] w fun e w' => e = .returned (.int .i64 0) ∧ w = w' := by
  have H := Aside0.mk h
  clear h
  go_enter Try.func34, Try.ntmps34
  go_wp2_with (go_at_call 55; (with_reducible refine (none_v H.out).mono ?_); rintro e w' ⟨rfl, rfl⟩)
  go_ret
  exact ⟨rfl, rfl⟩
theorem forget_none {w : World} {p : Value} (h : NoneV w p) (id : Int) : Calls Try.prog 33 #[p, .int .i64 id] w fun e w' => e = .returned (.tuple #[]) ∧ w = w' := by
  have H := Aside0.mk h
  clear h
  go_enter Try.func33, Try.ntmps33
  go_wp2_with (go_at_call 55; (with_reducible refine (none_v H.out).mono ?_); rintro e w' ⟨rfl, rfl⟩)
  go_end0
  exact ⟨rfl, rfl⟩
theorem add_none {w : World} {p : Value} (h : NoneV w p) (A : Option Addr) (n c : Nat) : Calls Try.prog 28 #[p, .slice A n c] w fun e w' => e = .returned (.int .i64 2) ∧ w = w' := by
  have H := Aside0.mk h
  clear h
  go_enter Try.func28, Try.ntmps28
  go_wp2_with (go_at_call 55; (with_reducible refine (none_v H.out).mono ?_); rintro e w' ⟨rfl, rfl⟩)
  go_ret
  exact ⟨rfl, rfl⟩
theorem core_none {w : World} {p : Value} (h : NoneV w p) (id : Int) : Calls Try.prog 29 #[p, .int .i64 id] w fun e w' => e = .returned (.agg #[.int .i64 0, .int .i64 0, .int .i64 0, .int .i64 0]) ∧ Below w.heap.size w w' := by
  have H := Aside0.mk h
  clear h
  go_enter Try.func29, Try.ntmps29
  go_wp2_with (go_at_call 55; (with_reducible refine (none_v (H.out.below (below_alloc (Below.refl _ _) _))).mono ?_); rintro e w' ⟨rfl, rfl⟩)
  exact bodyPost_ret (v := .agg #[.int .i64 0, .int .i64 0, .int .i64 0, .int .i64 0]) (by simp [results, Try.results29, go_sem]) rfl ⟨rfl, below_alloc (Below.refl _ _) _⟩
theorem task_none {w : World} {p : Value} (h : NoneV w p) (id : Int) : Calls Try.prog 31 #[p, .int .i64 id] w fun e w' => e = .returned (encT tk0) ∧ Below w.heap.size w w' := by
  have H := Aside0.mk h
  clear h
  go_enter Try.func31, Try.ntmps31
  go_wp2_with (go_at_call 55; (with_reducible refine (none_v (H.out.below (below_alloc (Below.refl _ _) _))).mono ?_); rintro e w' ⟨rfl, rfl⟩)
  exact bodyPost_ret (v := encT tk0) (by simp [results, Try.results31, go_sem, encT, tk0]) rfl ⟨rfl, below_alloc (Below.refl _ _) _⟩
section
variable {w : World} {F : Nat → Prop} {g m : Nat} {s : Ac}
theorem ticks_calls (h : Rep w F g s) : Calls Try.prog 30 #[.pointer (some ⟨g, 0, none⟩)] w fun e w' => e = .returned (.int .i64 s.ticks) ∧ w = w' := by
  obtain ⟨m, h⟩ := h
  have c1 : w.cell? ⟨g, 1, none⟩ = some (.int .i64 s.ticks) := (blk_cell h.hd 1).trans rfl
  have H := Aside0.mk h
  clear h
  go_enter Try.func30, Try.ntmps30
  go_wp2_with (go_at_call 55; (with_reducible refine (none_some H.out).mono ?_); rintro e w' ⟨rfl, rfl⟩)
  go_ret
  exact ⟨rfl, rfl⟩
theorem frames_calls (h : Rep w F g s) (h0 : 0 ≤ s.ticks) (h1 : s.ticks < 100000000) : Calls Try.prog 34 #[.pointer (some ⟨g, 0, none⟩)] w fun e w' => e = .returned (.int .i64 (s.ticks / s.f)) ∧ ∃ n, w' = w.drewN n := by
  obtain ⟨m, h⟩ := h
  have c0 : w.cell? ⟨g, 0, none⟩ = some (.int .i64 s.f) := (blk_cell h.hd 0).trans rfl
  have c1 : w.cell? ⟨g, 1, none⟩ = some (.int .i64 s.ticks) := (blk_cell h.hd 1).trans rfl
  have H := Aside0.mk h
  have f0 := h.f0
  have f1 := h.f1
  clear h
  generalize s.ticks = t at *
  generalize s.f = f at *
  have FN0 : (f == 0) = false := beq_eq_false_iff_ne.mpr (by omega)
  have ed : t.tdiv f = t / f := Int.tdiv_eq_ediv_of_nonneg h0
  have HD := Aside0.mk ed
  have ew : wrap64 (t.tdiv f) = t.tdiv f := by
    rw [ed]
    have := Int.ediv_nonneg h0 (show 0 ≤ f by omega)
    have := Int.ediv_le_self f h0
    unfold wrap64
    omega
  clear ed
  go_enter Try.func34, Try.ntmps34
  go_wp2_with (go_at_call 55; (with_reducible refine (none_some H.out).mono ?_); rintro e w' ⟨rfl, rfl⟩)
  go_quiet (fail)
  (try go_wp2)
  go_ret
  exact ⟨by first | rfl | (rw [HD.out]), _, rfl⟩
theorem forget_calls (h : Rep w F g s) (id : Int) (hi : IsInt id) : Calls Try.prog 33 #[.pointer (some ⟨g, 0, none⟩), .int .i64 id] w fun e w' => e = .returned (.tuple #[]) ∧ Rep w' F g { s with M := upd s.M id none } ∧ Turns w w' F := by
  obtain ⟨m, h⟩ := h
  have k2 : w.cell? ⟨g, 2, none⟩ = some (.map (some m)) := (blk_cell h.hd 2).trans rfl
  have H := Aside0.mk h
  have HI := Aside0.mk hi
  clear h hi
  go_enter Try.func33, Try.ntmps33
  go_wp2_with (first
    | (go_at_call 55; (with_reducible refine (none_some H.out).mono ?_); rintro e w' ⟨rfl, rfl⟩)
    | (at_delete; refine at_drop _ rfl _ _ 58 3 rfl 49 Try.underlying3 Try.underlying58 encT m s.M H.out.mp rfl id rfl HI.out ?_; intro w1 hm1 hg1; have HM1 := Aside0.mk hm1; have HG1 := Aside0.mk hg1; clear hm1 hg1))
  go_end0
  exact ⟨rfl, ⟨m, H.out.map HM1.out (Kept.of_grown HG1.out (Kept.refl w _) (fun k e => .inl (by cases e; rfl)))⟩, Turns.grown (Turns.refl w F) HG1.out (fun k e => .inl (by cases e; exact H.out.fm))⟩
def cr0 : Cr := ⟨0, 0, 0, 0⟩
def encC (c : Cr) : Value := .agg #[.int .i64 c.busy, .int .i64 c.idle, .int .i64 c.changes, .int .i64 c.task]
def coreOf (s : Ac) (j : Int) : Cr := if 0 ≤ j ∧ j < 16 then s.C.getD j.toNat cr0 else cr0
def taskOf (s : Ac) (id : Int) : Tk := if 1 ≤ id ∧ id ≤ 200 then (s.M id).getD ⟨0, 0, 0, 0, -1⟩ else tk0
theorem core_of (h : Rep w F g s) (j : Int) : Calls Try.prog 29 #[.pointer (some ⟨g, 0, none⟩), .int .i64 j] w fun e w' => e = .returned (encC (coreOf s j)) ∧ Below w.heap.size w w' := by
  obtain ⟨m, h⟩ := h
  have H := Aside0.mk h
  by_cases hj : 0 ≤ j ∧ j < 16
  · obtain ⟨j, rfl⟩ : ∃ n : Nat, j = (n : Int) := ⟨j.toNat, by omega⟩
    have hjl : j < s.C.length := by rw [h.len]; omega
    obtain ⟨c, hc⟩ : ∃ c, s.C[j]? = some c := ⟨_, List.getElem?_eq_getElem hjl⟩
    have e : coreOf s (j : Int) = c := by unfold coreOf; rw [if_pos hj, Int.toNat_natCast, List.getD_eq_getElem?_getD, hc]; rfl
    rw [e]
    obtain ⟨c0, c1, c2, c3⟩ := h.core j c hc
    have k0 : ∀ o, (w.alloc o).cell? ⟨g, 3 + j * 4, none⟩ = some (.int .i64 c.busy) := fun o => pw_cell_below (below_alloc (Below.refl _ _) o) c0
    have k1 : ∀ o, (w.alloc o).cell? ⟨g, 3 + j * 4 + 1, none⟩ = some (.int .i64 c.idle) := fun o => pw_cell_below (below_alloc (Below.refl _ _) o) c1
    have k2 : ∀ o, (w.alloc o).cell? ⟨g, 3 + j * 4 + 2, none⟩ = some (.int .i64 c.changes) := fun o => pw_cell_below (below_alloc (Below.refl _ _) o) c2
    have k3 : ∀ o, (w.alloc o).cell? ⟨g, 3 + j * 4 + 3, none⟩ = some (.int .i64 c.task) := fun o => pw_cell_below (below_alloc (Below.refl _ _) o) c3
    have d1 : decide ((j : Int) < 0) = false := decide_eq_false (by omega)
    have d2 : decide (16 ≤ (j : Int)) = false := decide_eq_false (by omega)
    have d3 : decide (16 ≤ j) = false := decide_eq_false (by omega)
    have p0 := eq_true (show (0 : Int) ≤ (j : Int) by omega)
    have p1 := eq_true (show (j : Int) < 16 by omega)
    have p2 := eq_true (show j < 16 by omega)
    clear h hj hjl hc e c0 c1 c2 c3
    go_enter Try.func29, Try.ntmps29
    go_wp2_with (go_at_call 55; (with_reducible refine (none_some (H.out.turns (G := fun _ => False) (Kept.of_below (below_alloc (Below.refl _ _) _) _) (fun _ _ => id))).mono ?_); rintro e w' ⟨rfl, rfl⟩)
    exact bodyPost_ret (v := encC c) (by simp [results, Try.results29, go_sem, encC]) rfl ⟨rfl, below_alloc (Below.refl _ _) _⟩
  · have e : coreOf s j = cr0 := if_neg hj
    rw [e]
    by_cases h0 : j < 0
    · have d1 : decide (j < 0) = true := decide_eq_true h0
      clear h hj h0 e
      go_enter Try.func29, Try.ntmps29
      go_wp2_with (go_at_call 55; (with_reducible refine (none_some (H.out.turns (G := fun _ => False) (Kept.of_below (below_alloc (Below.refl _ _) _) _) (fun _ _ => id))).mono ?_); rintro e w' ⟨rfl, rfl⟩)
      exact bodyPost_ret (v := encC cr0) (by simp [results, Try.results29, go_sem, encC, cr0]) rfl ⟨rfl, below_alloc (Below.refl _ _) _⟩
    · have d1 : decide (j < 0) = false := decide_eq_false h0
      have d2 : decide (16 ≤ j) = true := decide_eq_true (by omega)
      clear h hj h0 e
      go_enter Try.func29, Try.ntmps29
      go_wp2_with (go_at_call 55; (with_reducible refine (none_some (H.out.turns (G := fun _ => False) (Kept.of_below (below_alloc (Below.refl _ _) _) _) (fun _ _ => id))).mono ?_); rintro e w' ⟨rfl, rfl⟩)
      exact bodyPost_ret (v := encC cr0) (by simp [results, Try.results29, go_sem, encC, cr0]) rfl ⟨rfl, below_alloc (Below.refl _ _) _⟩
theorem task_of (h : Rep w F g s) (id : Int) : Calls Try.prog 31 #[.pointer (some ⟨g, 0, none⟩), .int .i64 id] w fun e w' => e = .returned (encT (taskOf s id)) ∧ Below w.heap.size w w' := by
  obtain ⟨m, h⟩ := h
  have H := Aside0.mk h
  by_cases hj : 1 ≤ id ∧ id ≤ 200
  · have HI := Aside0.mk (isInt_small (x := id) (by omega) (by omega))
    have d1 : decide (id < 1) = false := decide_eq_false (by omega)
    have d2 : decide (200 < id) = false := decide_eq_false (by omega)
    have k2 : w.cell? ⟨g, 2, none⟩ = some (.map (some m)) := (blk_cell h.hd 2).trans rfl
    have k3 : ∀ o, (w.alloc o).cell? ⟨g, 2, none⟩ = some (.map (some m)) := fun o => pw_cell_below (below_alloc (Below.refl _ _) o) k2
    have n0 : w.heap.size ≠ w.heap.size + 1 := by omega
    have n1 : w.heap.size + 1 ≠ w.heap.size := by omega
    cases hM : s.M id with
    | none =>
      have HM := Aside0.mk hM
      have e : taskOf s id = ⟨0, 0, 0, 0, -1⟩ := by unfold taskOf; rw [if_pos hj, hM]; rfl
      rw [e]
      clear h hj e hM k2
      go_enter Try.func31, Try.ntmps31
      go_wp2_with (first
        | (go_at_call 55; (with_reducible refine (none_some (H.out.turns (G := fun _ => False) (Kept.of_below (below_alloc (Below.refl _ _) _) _) (fun _ _ => _root_.id))).mono ?_); rintro e w' ⟨rfl, rfl⟩)
        | (at_lookup; refine at_look_ok_none _ rfl _ _ 58 rfl 3 49 Try.underlying3 Try.underlying58 _ (zero49 _) encT m s.M (H.out.mp.kept (Kept.of_below (below_alloc (Below.refl _ _) _) (fun _ => False)) _root_.id) rfl id rfl HI.out HM.out ?_))
      exact bodyPost_ret (v := encT ⟨0, 0, 0, 0, -1⟩) (by simp [results, Try.results31, go_sem, encT]) rfl ⟨rfl, below_alloc (below_alloc (Below.refl _ _) _) _⟩
    | some t =>
      have HM := Aside0.mk hM
      have e : taskOf s id = t := by unfold taskOf; rw [if_pos hj, hM]; rfl
      rw [e]
      clear h hj e hM k2
      go_enter Try.func31, Try.ntmps31
      go_wp2_with (first
        | (go_at_call 55; (with_reducible refine (none_some (H.out.turns (G := fun _ => False) (Kept.of_below (below_alloc (Below.refl _ _) _) _) (fun _ _ => _root_.id))).mono ?_); rintro e w' ⟨rfl, rfl⟩)
        | (at_lookup; refine at_look_ok_some _ rfl _ _ 58 rfl 3 49 Try.underlying3 Try.underlying58 _ (zero49 _) encT m s.M (H.out.mp.kept (Kept.of_below (below_alloc (Below.refl _ _) _) (fun _ => False)) _root_.id) rfl id rfl HI.out t HM.out (.agg #[.int .i64 t.ticks, .int .i64 t.last, .int .i64 t.now, .int .i64 t.changes, .int .i64 t.core]) rfl ?_))
      exact bodyPost_ret (v := encT t) (by simp [results, Try.results31, go_sem, encT]) rfl ⟨rfl, below_alloc (below_alloc (Below.refl _ _) _) _⟩
  · have e : taskOf s id = tk0 := if_neg hj
    rw [e]
    by_cases h0 : id < 1
    · have d1 : decide (id < 1) = true := decide_eq_true h0
      clear h hj h0 e
      go_enter Try.func31, Try.ntmps31
      go_wp2_with (go_at_call 55; (with_reducible refine (none_some (H.out.turns (G := fun _ => False) (Kept.of_below (below_alloc (Below.refl _ _) _) _) (fun _ _ => _root_.id))).mono ?_); rintro e w' ⟨rfl, rfl⟩)
      exact bodyPost_ret (v := encT tk0) (by simp [results, Try.results31, go_sem, encT, tk0]) rfl ⟨rfl, below_alloc (Below.refl _ _) _⟩
    · have d1 : decide (id < 1) = false := decide_eq_false h0
      have d2 : decide (200 < id) = true := decide_eq_true (by omega)
      clear h hj h0 e
      go_enter Try.func31, Try.ntmps31
      go_wp2_with (go_at_call 55; (with_reducible refine (none_some (H.out.turns (G := fun _ => False) (Kept.of_below (below_alloc (Below.refl _ _) _) _) (fun _ _ => _root_.id))).mono ?_); rintro e w' ⟨rfl, rfl⟩)
      exact bodyPost_ret (v := encT tk0) (by simp [results, Try.results31, go_sem, encT, tk0]) rfl ⟨rfl, below_alloc (Below.refl _ _) _⟩
end
/-! New -/
def newA (f : Int) : Ac := ⟨f, 0, fun _ => none, List.replicate 16 cr0⟩
theorem new_bad (f : Int) (h : f < 2 ∨ 64 < f) (w : World) : Calls Try.prog 26 #[.int .i64 f] w fun e w' => e = .returned (.tuple #[.pointer none, .int .i64 1]) ∧ w = w' := by
  by_cases h0 : f < 2
  · have d1 : decide (f < 2) = true := decide_eq_true h0
    clear h h0
    go_enter Try.func26, Try.ntmps26
    go_wp2
    go_ret2
    exact ⟨rfl, rfl⟩
  · have d1 : decide (f < 2) = false := decide_eq_false h0
    have d2 : decide (64 < f) = true := decide_eq_true (by omega)
    clear h h0
    go_enter Try.func26, Try.ntmps26
    go_wp2
    go_ret2
    exact ⟨rfl, rfl⟩
theorem new_ok (f : Int) (h0 : 2 ≤ f) (h1 : f ≤ 64) (w : World) : Calls Try.prog 26 #[.int .i64 f] w fun e w' => ∃ g, e = .returned (.tuple #[.pointer (some ⟨g, 0, none⟩), .int .i64 0]) ∧ Rep w' (fun k => w.heap.size ≤ k) g (newA f) ∧ Below w.heap.size w w' := by
  have H0 := Aside0.mk h0
  have H1 := Aside0.mk h1
  have d1 : decide (f < 2) = false := decide_eq_false (by omega)
  have d2 : decide (64 < f) = false := decide_eq_false (by omega)
  have hmm := @run_makeMap Try.prog
  clear h0 h1
  go_enter Try.func26, Try.ntmps26
  go_wp2
  go_ret2
  have hz : (w.alloc (.map #[] 0)).heap.size = w.heap.size + 1 := by simp
  have hb : Below w.heap.size w ((w.alloc (.map #[] 0)).alloc (.cells ((Try.zeroCells61.setIfInBounds 0 (.int .i64 f)).setIfInBounds 2 (.map (some w.heap.size))) 61)) := below_alloc (below_alloc (Below.refl _ _) _) _
  refine ⟨_, rfl, ⟨w.heap.size, by show w.heap.size ≤ w.heap.size + 1; omega, Nat.le_refl _, by omega, ?_, ?_, rfl, H0.out, H1.out⟩, hb⟩
  · have q := heap_alloc_new (w.alloc (.map #[] 0)) (.cells ((Try.zeroCells61.setIfInBounds 0 (.int .i64 f)).setIfInBounds 2 (.map (some w.heap.size))) 61)
    rw [hz] at q
    rw [q]
    rfl
  · exact (MapAt.made w Try.prog 3 encT).kept (Kept.of_below (below_alloc (Below.refl _ _) _) (fun _ => False)) id
end Go.Proofs.Ytgfkcmmhnibaiaa.Ac
