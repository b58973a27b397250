/- ring.Ring, walked by hand: Leave, Weigh. -/
import Derived.Test.YtpammdblenfhgaaRgc
namespace Go.Proofs.Ytpammdblenfhgaa.Rg
open Go.RowKit Go.Proofs.YtpammdblenfhgaaW.PrintWords Go.Proofs.YtpammdblenfhgaaW.PrintLast Go.Proofs.YtpammdblenfhgaaW.PrintMore Pt PRg Go.Proofs.Ytpammdblenfhgaa.FqMath
set_option linter.unusedVariables false
set_option linter.unusedSimpArgs false
section
variable {w w' : World} {F : Nat → Prop} {g a cap : Nat} {sp : List Value} {s : Rg}
theorem leave_none {p : Value} (h : NoneV w p) (id : Int) : Calls Try.prog 26 #[p, .int .i64 id] w fun e w' => e = .returned (.int .i64 2) ∧ w = w' := by
  have H := Aside0.mk h
  clear h
  go_enter Try.func26, Try.ntmps26
  go_wp2_with (go_at_call 53; (with_reducible refine (one_none H.out id).mono ?_); rintro e w' ⟨rfl, rfl⟩)
  go_ret
  exact ⟨rfl, rfl⟩
theorem leave_no (h : Rep w F g s) (hs : Sorted s.l) (hl : s.l.length ≤ 64) (id : Int) (hb : findB s.l id = false) : Calls Try.prog 26 #[.pointer (some ⟨g, 0, none⟩), .int .i64 id] w fun e w' => e = .returned (.int .i64 10) ∧ Below w.heap.size w w' := by
  have H := Aside0.mk (one_no h hs hl id hb)
  clear h hb hs hl
  go_enter Try.func26, Try.ntmps26
  go_wp2_with (go_at_call 53; (with_reducible refine H.out.mono ?_); rintro e w1 ⟨rfl, hb⟩; have HB := Aside0.mk hb; clear hb)
  go_ret
  exact ⟨rfl, HB.out⟩
theorem RepB.repA (h : RepB w F g a cap sp s) : RepA w F g (.slice (some ⟨a, 0, none⟩) s.l.length cap) s := ⟨h.fg, h.hd, .inr ⟨a, cap, sp, rfl, ⟨h.fa, h.ne⟩, h.row, h.size, h.mx⟩, h.lim0, h.lim1⟩
set_option maxHeartbeats 4000000 in
theorem leave_ok (h : RepB w F g a cap sp s) (hok : ∀ m ∈ s.l, MOk m) (hs : Sorted s.l) (hl : s.l.length ≤ 64) (id : Int) (hb : findB s.l id = true) (p : Nat) (hp : findN s.l id = p) (hpl : p < s.l.length) (n d : Int) (hf : floorF s = (n, d)) :
    Calls Try.prog 26 #[.pointer (some ⟨g, 0, none⟩), .int .i64 id] w fun e w' => e = .returned (.int .i64 0) ∧ Rep w' F g { s with l := delF s.l p, num := n, den := d } ∧ Turns w w' F := by
  have w1_ : wrap64 ((p : Int) + 1) = (p : Int) + 1 := by unfold wrap64; omega
  have H := Aside0.mk (one_yes h hs hl id hb p hp)
  have HR := Aside0.mk h
  have HO := Aside0.mk hok
  have HS := Aside0.mk hs
  have HL := Aside0.mk hl
  have HB := Aside0.mk hb
  have HP := Aside0.mk hp
  have HPL := Aside0.mk hpl
  have HF := Aside0.mk hf
  clear h hb hs hl hp hok hf hpl
  go_enter Try.func26, Try.ntmps26
  go_wp2_with (first
    | (go_at_call 53; (with_reducible refine H.out.mono ?_); rintro e w1 ⟨rfl, hb⟩; have HB1 := Aside0.mk hb; clear hb)
    | (go_at_call 54; (with_reducible refine (floor_calls (HR.out.below HB1.out).rep HO.out n d HF.out).mono ?_); rintro e w2 ⟨rfl, hb⟩; have HB2 := Aside0.mk (below_step HB1.out hb); have hr := HR.out.below HB2.out; have k2 := (blk_cell hr.hd 2).trans rfl; have k3 := (blk_cell hr.hd 3).trans rfl; have z2 := blk_frozen hr.hd 2; have z3 := blk_frozen hr.hd 3; have HR2 := Aside0.mk (hr.set_low n d); clear hr hb)
    | (go_at_call 60; (with_reducible refine (find_calls HR2.out.rep HS.out HL.out id p true HP.out HB.out).mono ?_); rintro e w3 ⟨rfl, hb⟩; have HB3 := Aside0.mk hb; have HR3 := Aside0.mk (HR2.out.below hb); have k4 : w3.cell? ⟨g, 1, none⟩ = some (.slice (some ⟨a, 0, none⟩) s.l.length cap) := (blk_cell HR3.out.hd 1).trans rfl; clear hb k2 k3 z2 z3)
    | (go_at_call 63; (with_reducible refine (delete_calls (P := fun k => F k ∧ k ≠ g) ⟨HR3.out.fa, HR3.out.ne⟩ HR3.out.row HR3.out.size HR3.out.mx p HPL.out).mono ?_); rintro e w4 ⟨v4, rfl, hrow, ht⟩; obtain ⟨A7, c7, ev7, _, _⟩ := hrow.slice; subst ev7; have HRW := Aside0.mk hrow; have HT := Aside0.mk ht; have hg7 := (ht.kept.2 g (blk_lt HR3.out.hd) (fun q => q.2 rfl)).trans HR3.out.hd; have k7 := (blk_cell hg7 1).trans rfl; have z7 := blk_frozen hg7 1; clear hrow ht hg7))
  go_ret
  refine ⟨rfl, ⟨_, RepA.put HR3.out.repA HT.out HRW.out (fun k h => h)⟩, ?_⟩
  exact (((((((Turns.refl w F).below HB2.out).set (p := ⟨g, 2, none⟩) (.inl HR.out.fg) _).set (p := ⟨g, 3, none⟩) (.inl HR.out.fg) _).below HB3.out).trans HT.out (fun k hk => .inl hk.1)).set (p := ⟨g, 1, none⟩) (.inl HR.out.fg) _)
theorem weigh_none {p : Value} (h : NoneV w p) (id wt : Int) : Calls Try.prog 29 #[p, .int .i64 id, .int .i64 wt] w fun e w' => e = .returned (.int .i64 2) ∧ w = w' := by
  have H := Aside0.mk h
  clear h
  go_enter Try.func29, Try.ntmps29
  go_wp2_with (go_at_call 53; (with_reducible refine (one_none H.out id).mono ?_); rintro e w' ⟨rfl, rfl⟩)
  go_ret
  exact ⟨rfl, rfl⟩
theorem weigh_no (h : Rep w F g s) (hs : Sorted s.l) (hl : s.l.length ≤ 64) (id wt : Int) (hb : findB s.l id = false) : Calls Try.prog 29 #[.pointer (some ⟨g, 0, none⟩), .int .i64 id, .int .i64 wt] w fun e w' => e = .returned (.int .i64 10) ∧ Below w.heap.size w w' := by
  have H := Aside0.mk (one_no h hs hl id hb)
  clear h hb hs hl
  go_enter Try.func29, Try.ntmps29
  go_wp2_with (go_at_call 53; (with_reducible refine H.out.mono ?_); rintro e w1 ⟨rfl, hb⟩; have HB := Aside0.mk hb; clear hb)
  go_ret
  exact ⟨rfl, HB.out⟩
theorem weigh_w (h : RepB w F g a cap sp s) (hs : Sorted s.l) (hl : s.l.length ≤ 64) (id wt : Int) (hb : findB s.l id = true) (hw : wOk wt = false) : Calls Try.prog 29 #[.pointer (some ⟨g, 0, none⟩), .int .i64 id, .int .i64 wt] w fun e w' => e = .returned (.int .i64 22) ∧ Below w.heap.size w w' := by
  have H := Aside0.mk (one_yes h hs hl id hb _ rfl)
  have HW := Aside0.mk hw
  clear h hb hs hl hw
  go_enter Try.func29, Try.ntmps29
  go_wp2_with (first
    | (go_at_call 53; (with_reducible refine H.out.mono ?_); rintro e w1 ⟨rfl, hb⟩; have HB := Aside0.mk hb; clear hb)
    | (go_at_call 59; (with_reducible refine (weight_call wt false HW.out _).mono ?_); rintro e w2 ⟨rfl, hb⟩; have HB2 := Aside0.mk (below_step HB.out hb); clear hb))
  go_ret
  exact ⟨rfl, HB2.out⟩
/-- The count that a member keeps when it is weighed anew. -/
def weighF (n d : Int) (m : Mb) (wt : Int) : Int := if m.f3 = true then withinF n d wt (lowF m.f2 m.f1 wt) else lowF m.f2 m.f1 wt
set_option maxHeartbeats 4000000 in
set_option maxRecDepth 100000 in
theorem weigh_ok (h : RepB w F g a cap sp s) (hok : ∀ m ∈ s.l, MOk m) (hs : Sorted s.l) (hl : s.l.length ≤ 64) (id wt : Int) (hb : findB s.l id = true) (hw : wOk wt = true) (p : Nat) (hp : findN s.l id = p) (m : Mb) (hm : s.l[p]? = some m) (n d : Int) (hf : floorF s = (n, d)) (hfl : FlOk n d) (r : Int) (hr : weighF n d m wt = r) :
    Calls Try.prog 29 #[.pointer (some ⟨g, 0, none⟩), .int .i64 id, .int .i64 wt] w fun e w' => e = .returned (.int .i64 0) ∧ RepB w' F g a cap sp { s with l := s.l.set p { m with f1 := wt, f2 := r } } ∧ Turns w w' F := by
  have hwt : 1 ≤ wt ∧ wt ≤ 1000 := of_decide_eq_true hw
  have hmo := hok m (List.mem_of_getElem? hm)
  have e1 : IntKind.u64.wrap wt = wt := uw_id (by omega) (by omega)
  have H := Aside0.mk (one_yes h hs hl id hb p hp)
  have HW := Aside0.mk hw
  have HR := Aside0.mk h
  have HO := Aside0.mk hok
  have HM := Aside0.mk hm
  have HF := Aside0.mk hf
  have HWC := Aside0.mk (fun x r hr W => within_call n d wt x hfl.n0 hfl.n1 hfl.d0 hfl.d1 (by omega) hwt.2 r hr W)
  have HRR := Aside0.mk hr
  have HLC := Aside0.mk (fun r hr W => low_call m.f2 m.f1 wt hmo.2.2.1 hmo.2.2.2 hmo.1 hmo.2.1 (by omega) hwt.2 r hr W)
  clear h hb hs hl hp hm hok hf hmo hfl hwt hw hr
  go_enter Try.func29, Try.ntmps29
  go_wp2_with (first
    | (go_at_call 53; (with_reducible refine H.out.mono ?_); rintro e w1 ⟨rfl, hb⟩; have HB := Aside0.mk hb; clear hb)
    | (go_at_call 59; (with_reducible refine (weight_call wt true HW.out _).mono ?_); rintro e w2 ⟨rfl, hb⟩; have HB2 := Aside0.mk (below_step HB.out hb); clear hb)
    | (go_at_call 54; (with_reducible refine (floor_calls (HR.out.below HB2.out).rep HO.out n d HF.out).mono ?_); rintro e w3 ⟨rfl, hb⟩; have HB3 := Aside0.mk (below_step HB2.out hb); clear hb))
  have HQ := Aside0.mk (heap_alloc_new w3 (Obj.cells #[Value.int IntKind.u64 n, Value.int IntKind.u64 d] 58))
  have HB5 := Aside0.mk (below_alloc HB3.out (Obj.cells #[Value.int IntKind.u64 n, Value.int IntKind.u64 d] 58))
  generalize w3.alloc (Obj.cells #[Value.int IntKind.u64 n, Value.int IntKind.u64 d] 58) = w5 at *
  generalize w3.heap.size = q at *
  have HB6 := Aside0.mk (below_drew1 HB5.out)
  have hmix : Try.prog.follows .mixedOrders = true := by kernel_rfl
  obtain ⟨_, b1, b2, _⟩ := mb_cells (HR.out.below HB6.out).row p m HM.out
  go_region_with (go_at_call 61; (with_reducible refine (HLC.out _ rfl _).mono ?_); rintro e w7 ⟨rfl, hb⟩; have HB7 := Aside0.mk (below_step HB6.out hb); obtain ⟨f0, f1, f2, f3⟩ := mb_cells (HR.out.below HB7.out).row p m HM.out; have y1 := blk_frozen (HR.out.below HB7.out).row (p * 4 + 1); have y2 := blk_frozen (HR.out.below HB7.out).row (p * 4 + 2); have hq7 := (hb.block q (blk_lt (show w5.drew.heap[q]? = _ from HQ.out))).trans HQ.out; have q0 := (blk_cell hq7 0).trans rfl; have q1 := (blk_cell hq7 1).trans rfl; clear hb hq7 f0)
  all_goals
    have HSET : Aside0 (∀ W, Below w.heap.size w W → RepB ((W.setCell ⟨a, p * 4 + 1, none⟩ (.int .u64 wt)).setCell ⟨a, p * 4 + 2, none⟩ (.int .u64 r)) F g a cap sp { s with l := s.l.set p { m with f1 := wt, f2 := r } } ∧ Turns w ((W.setCell ⟨a, p * 4 + 1, none⟩ (.int .u64 wt)).setCell ⟨a, p * 4 + 2, none⟩ (.int .u64 r)) F) := ⟨fun W hW => by
      refine ⟨?_, (((Turns.refl w F).below hW).set (p := ⟨a, p * 4 + 1, none⟩) (.inl HR.out.fa) _).set (p := ⟨a, p * 4 + 2, none⟩) (.inl HR.out.fa) _⟩
      have h1 := (HR.out.below hW).set_w p m HM.out wt
      have h2 := h1.set_n p { m with f1 := wt } (List.getElem?_set_self (List.getElem?_eq_some_iff.1 HM.out).1) r
      rw [List.set_set] at h2
      exact h2⟩
    by_cases hf3 : m.f3 = true
    · have hr3 : withinF n d wt (lowF m.f2 m.f1 wt) = r := by rw [← HRR.out, weighF, if_pos hf3]
      have HR3 := Aside0.mk hr3
      rw [hf3] at f3
      clear hr3
      go_wp2_with (go_at_call 64; (with_reducible refine (HWC.out _ r HR3.out _).mono ?_); rintro e w8 ⟨rfl, hb⟩; have HB8 := Aside0.mk (below_step HB7.out hb); obtain ⟨_, j1, j2, _⟩ := mb_cells (HR.out.below HB8.out).row p m HM.out; have x1 := blk_frozen (HR.out.below HB8.out).row (p * 4 + 1); have x2 := blk_frozen (HR.out.below HB8.out).row (p * 4 + 2); clear hb)
      go_ret
      exact ⟨rfl, HSET.out _ HB8.out⟩
    · have hr3 : lowF m.f2 m.f1 wt = r := by rw [← HRR.out, weighF, if_neg hf3]
      have hf3' : m.f3 = false := by simpa using hf3
      rw [hf3'] at f3
      clear hf3 hf3'
      rw [hr3]
      clear hr3
      go_wp2
      go_ret
      exact ⟨rfl, HSET.out _ HB7.out⟩
end
end Go.Proofs.Ytpammdblenfhgaa.Rg
