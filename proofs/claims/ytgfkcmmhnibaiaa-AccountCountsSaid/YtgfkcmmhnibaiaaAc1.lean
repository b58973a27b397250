/- account.Account, walked by hand: that a task ran is counted. -/
import Derived.Test.YtgfkcmmhnibaiaaAc0
namespace Go.Proofs.Ytgfkcmmhnibaiaa.Ac
open Go.RowKit Go.Proofs.YtgfkcmmhnibaiaaW.PrintWords Go.Proofs.YtgfkcmmhnibaiaaW.PrintLast Go.Proofs.YtgfkcmmhnibaiaaW.PrintMore Pt
set_option linter.unusedVariables false
set_option linter.unusedSimpArgs false
theorem zero49 (w : World) : (zeroValue 49).run Try.prog w = .ok (.agg #[.int .i64 0, .int .i64 0, .int .i64 0, .int .i64 0, .int .i64 0]) w := by kernel_rfl
def tk0 : Tk := ⟨0, 0, 0, 0, 0⟩
/-- That a task ran on a core is counted. -/
def taskF (t : Option Tk) (core : Int) : Tk :=
  let x := t.getD tk0
  { ticks := wrap64 (x.ticks + 1), last := x.last, now := wrap64 (x.now + 1), changes := if t.isSome ∧ x.core ≠ core then wrap64 (x.changes + 1) else x.changes, core := core }
section
variable {w : World} {F : Nat → Prop} {g m : Nat} {s : Ac}
theorem RepA.map (h : RepA w F g m s) {w' : World} {M' : Int → Option Tk} (hm : MapAt Try.prog 3 encT w' m M') (hk : Kept w w' (fun k => k = m)) : RepA w' F g m { s with M := M' } :=
  ⟨h.fg, h.fm, h.ne, blk_kept h.hd hk h.ne, hm, h.len, h.f0, h.f1⟩
set_option maxHeartbeats 1000000 in
set_option maxRecDepth 100000 in
theorem task_calls (h : Rep w F g s) (id : Int) (h0 : 0 ≤ id) (h1 : id < 1024) (core : Int) :
    Calls Try.prog 58 #[.pointer (some ⟨g, 0, none⟩), .int .i64 id, .int .i64 core] w fun e w' => e = .returned (.tuple #[]) ∧ Rep w' F g { s with M := upd s.M id (some (taskF (s.M id) core)) } ∧ Turns w w' F := by
  obtain ⟨m, h⟩ := h
  have k2 : w.cell? ⟨g, 2, none⟩ = some (.map (some m)) := (blk_cell h.hd 2).trans rfl
  have k3 : ∀ o, (w.alloc o).cell? ⟨g, 2, none⟩ = some (.map (some m)) := fun o => pw_cell_below (below_alloc (Below.refl _ _) o) k2
  have H := Aside0.mk h
  have HI := Aside0.mk (isInt_small h0 h1)
  have H0 := Aside0.mk h0
  have H1 := Aside0.mk h1
  have hlt := blk_lt h.hd
  have HLT := Aside0.mk hlt
  have n1 : g ≠ w.heap.size := by omega
  have n2 : w.heap.size ≠ g := by omega
  have HMLT := Aside0.mk h.mp.block
  clear h h0 h1 hlt
  cases hM : s.M id with
  | none =>
    have HM := Aside0.mk hM
    clear hM
    have e : taskF none core = ⟨1, 0, 1, 0, core⟩ := by simp [taskF, tk0, wrap64]
    rw [e]
    clear e
    go_enter Try.func58, Try.ntmps58
    go_wp2_with (at_lookup; refine at_look_ok_none _ rfl _ _ 58 rfl 3 49 Try.underlying3 Try.underlying58 _ (zero49 _) encT m s.M H.out.mp rfl id rfl HI.out HM.out ?_)
    refine still_tail 6 (by kernel_rfl) (by kernel_rfl) ?_
    simp only [List.take_succ_cons, List.take_zero, List.drop_succ_cons, List.drop_zero]
    repeat still_step
    refine wpStill_nil ?_
    refine at_store _ rfl _ _ _ 58 rfl 3 49 Try.underlying3 Try.underlying58 encT m s.M ((H.out.mp.kept (Kept.of_below (below_alloc (Below.refl _ _) _) (fun _ => False)) _root_.id).same rfl) rfl id rfl H0.out H1.out ⟨1, 0, 1, 0, core⟩ rfl ?_
    intro w1 hm1 hg1
    have HM1 := Aside0.mk hm1
    have HG1 := Aside0.mk hg1
    clear hm1 hg1
    go_wp2
    go_end0
    refine ⟨rfl, ⟨m, H.out.map HM1.out (Kept.of_grown HG1.out (((Kept.refl w _).alloc _).drew) (fun k e => .inl (by cases e; rfl)))⟩, Turns.grown (((Turns.refl w F).alloc _).drew) HG1.out (fun k e => .inl (by cases e; exact H.out.fm))⟩
  | some t =>
    have HM := Aside0.mk hM
    clear hM
    by_cases hc : t.core = core
    · have e : taskF (some t) core = ⟨wrap64 (t.ticks + 1), t.last, wrap64 (t.now + 1), t.changes, core⟩ := by simp [taskF, hc]
      have d0 : (t.core != core) = false := by rw [bne_eq_false_iff_eq]; exact hc
      rw [e]
      clear e hc
      go_enter Try.func58, Try.ntmps58
      go_wp2_with (at_lookup; refine at_look_ok_some _ rfl _ _ 58 rfl 3 49 Try.underlying3 Try.underlying58 _ (zero49 _) encT m s.M H.out.mp rfl id rfl HI.out t HM.out (.agg #[.int .i64 t.ticks, .int .i64 t.last, .int .i64 t.now, .int .i64 t.changes, .int .i64 t.core]) rfl ?_)
      refine still_tail 6 (by kernel_rfl) (by kernel_rfl) ?_
      simp only [List.take_succ_cons, List.take_zero, List.drop_succ_cons, List.drop_zero]
      repeat still_step
      refine wpStill_nil ?_
      refine at_store _ rfl _ _ _ 58 rfl 3 49 Try.underlying3 Try.underlying58 encT m s.M ((H.out.mp.kept (Kept.of_below (below_alloc (Below.refl _ _) _) (fun _ => False)) _root_.id).same rfl) rfl id rfl H0.out H1.out ⟨wrap64 (t.ticks + 1), t.last, wrap64 (t.now + 1), t.changes, core⟩ rfl ?_
      intro w1 hm1 hg1
      have HM1 := Aside0.mk hm1
      have HG1 := Aside0.mk hg1
      clear hm1 hg1
      go_wp2
      go_end0
      refine ⟨rfl, ⟨m, H.out.map HM1.out (Kept.of_grown HG1.out (((Kept.refl w _).alloc _).drew) (fun k e => .inl (by cases e; rfl)))⟩, Turns.grown (((Turns.refl w F).alloc _).drew) HG1.out (fun k e => .inl (by cases e; exact H.out.fm))⟩
    · have e : taskF (some t) core = ⟨wrap64 (t.ticks + 1), t.last, wrap64 (t.now + 1), wrap64 (t.changes + 1), core⟩ := by simp [taskF, hc]
      have d0 : (t.core != core) = true := bne_iff_ne.mpr hc
      rw [e]
      clear e hc
      go_enter Try.func58, Try.ntmps58
      go_wp2_with (at_lookup; refine at_look_ok_some _ rfl _ _ 58 rfl 3 49 Try.underlying3 Try.underlying58 _ (zero49 _) encT m s.M H.out.mp rfl id rfl HI.out t HM.out (.agg #[.int .i64 t.ticks, .int .i64 t.last, .int .i64 t.now, .int .i64 t.changes, .int .i64 t.core]) rfl ?_)
      refine still_tail 6 (by kernel_rfl) (by kernel_rfl) ?_
      simp only [List.take_succ_cons, List.take_zero, List.drop_succ_cons, List.drop_zero]
      repeat still_step
      refine wpStill_nil ?_
      refine at_store _ rfl _ _ _ 58 rfl 3 49 Try.underlying3 Try.underlying58 encT m s.M ((H.out.mp.kept (Kept.of_below (below_alloc (Below.refl _ _) _) (fun _ => False)) _root_.id).same rfl) rfl id rfl H0.out H1.out ⟨wrap64 (t.ticks + 1), t.last, wrap64 (t.now + 1), wrap64 (t.changes + 1), core⟩ rfl ?_
      intro w1 hm1 hg1
      have HM1 := Aside0.mk hm1
      have HG1 := Aside0.mk hg1
      clear hm1 hg1
      go_wp2
      go_end0
      refine ⟨rfl, ⟨m, H.out.map HM1.out (Kept.of_grown HG1.out (((Kept.refl w _).alloc _).drew) (fun k e => .inl (by cases e; rfl)))⟩, Turns.grown (((Turns.refl w F).alloc _).drew) HG1.out (fun k e => .inl (by cases e; exact H.out.fm))⟩
end
end Go.Proofs.Ytgfkcmmhnibaiaa.Ac
