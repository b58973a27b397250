/- ring.Ring, walked by hand: Block, Wake. -/
import Derived.Test.YtpammdblenfhgaaRgb
import Derived.Deep.RegionWith
namespace Go.Proofs.Ytpammdblenfhgaa.Rg
open Go.RowKit Go.Proofs.YtpammdblenfhgaaW.PrintWords Go.Proofs.YtpammdblenfhgaaW.PrintLast Go.Proofs.YtpammdblenfhgaaW.PrintMore Pt PRg Go.Proofs.Ytpammdblenfhgaa.FqMath
set_option linter.unusedVariables false
set_option linter.unusedSimpArgs false
section
variable {w w' : World} {F : Nat → Prop} {g a cap : Nat} {sp : List Value} {s : Rg}
theorem RepB.set_low (h : RepB w F g a cap sp s) (n d : Int) : RepB ((w.setCell ⟨g, 2, none⟩ (.int .u64 n)).setCell ⟨g, 3, none⟩ (.int .u64 d)) F g a cap sp { s with num := n, den := d } :=
  ⟨h.fg, h.fa, h.ne, blk_set (blk_set h.hd 2 _) 3 _, blk_far (blk_far h.row h.ne _) h.ne _, h.size, h.mx, h.lim0, h.lim1⟩
theorem block_none {p : Value} (h : NoneV w p) (id : Int) : Calls Try.prog 27 #[p, .int .i64 id] w fun e w' => e = .returned (.int .i64 2) ∧ w = w' := by
  have H := Aside0.mk h
  clear h
  go_enter Try.func27, Try.ntmps27
  go_wp2_with (go_at_call 53; (with_reducible refine (one_none H.out id).mono ?_); rintro e w' ⟨rfl, rfl⟩)
  go_ret
  exact ⟨rfl, rfl⟩
theorem wake_none {p : Value} (h : NoneV w p) (id : Int) : Calls Try.prog 28 #[p, .int .i64 id] w fun e w' => e = .returned (.int .i64 2) ∧ w = w' := by
  have H := Aside0.mk h
  clear h
  go_enter Try.func28, Try.ntmps28
  go_wp2_with (go_at_call 53; (with_reducible refine (one_none H.out id).mono ?_); rintro e w' ⟨rfl, rfl⟩)
  go_ret
  exact ⟨rfl, rfl⟩
theorem block_no (h : Rep w F g s) (hs : Sorted s.l) (hl : s.l.length ≤ 64) (id : Int) (hb : findB s.l id = false) : Calls Try.prog 27 #[.pointer (some ⟨g, 0, none⟩), .int .i64 id] w fun e w' => e = .returned (.int .i64 10) ∧ Below w.heap.size w w' := by
  have H := Aside0.mk (one_no h hs hl id hb)
  clear h hb hs hl
  go_enter Try.func27, Try.ntmps27
  go_wp2_with (go_at_call 53; (with_reducible refine H.out.mono ?_); rintro e w1 ⟨rfl, hb⟩; have HB := Aside0.mk hb; clear hb)
  go_ret
  exact ⟨rfl, HB.out⟩
theorem wake_no (h : Rep w F g s) (hs : Sorted s.l) (hl : s.l.length ≤ 64) (id : Int) (hb : findB s.l id = false) : Calls Try.prog 28 #[.pointer (some ⟨g, 0, none⟩), .int .i64 id] w fun e w' => e = .returned (.int .i64 10) ∧ Below w.heap.size w w' := by
  have H := Aside0.mk (one_no h hs hl id hb)
  clear h hb hs hl
  go_enter Try.func28, Try.ntmps28
  go_wp2_with (go_at_call 53; (with_reducible refine H.out.mono ?_); rintro e w1 ⟨rfl, hb⟩; have HB := Aside0.mk hb; clear hb)
  go_ret
  exact ⟨rfl, HB.out⟩
theorem block_off (h : RepB w F g a cap sp s) (hs : Sorted s.l) (hl : s.l.length ≤ 64) (id : Int) (hb : findB s.l id = true) (p : Nat) (hp : findN s.l id = p) (m : Mb) (hm : s.l[p]? = some m) (ho : m.f3 = false) : Calls Try.prog 27 #[.pointer (some ⟨g, 0, none⟩), .int .i64 id] w fun e w' => e = .returned (.int .i64 15) ∧ Below w.heap.size w w' := by
  have H := Aside0.mk (one_yes h hs hl id hb p hp)
  have HR := Aside0.mk h
  have HM := Aside0.mk hm
  clear h hb hs hl hp hm
  go_enter Try.func27, Try.ntmps27
  go_wp2_with (go_at_call 53; (with_reducible refine H.out.mono ?_); rintro e w1 ⟨rfl, hb⟩; obtain ⟨c0, c1, c2, c3⟩ := mb_cells (HR.out.below hb).row p m HM.out; rw [ho] at c3; have HB := Aside0.mk hb; clear hb c0 c1 c2)
  go_ret
  exact ⟨rfl, HB.out⟩
theorem wake_on (h : RepB w F g a cap sp s) (hs : Sorted s.l) (hl : s.l.length ≤ 64) (id : Int) (hb : findB s.l id = true) (p : Nat) (hp : findN s.l id = p) (m : Mb) (hm : s.l[p]? = some m) (ho : m.f3 = true) : Calls Try.prog 28 #[.pointer (some ⟨g, 0, none⟩), .int .i64 id] w fun e w' => e = .returned (.int .i64 15) ∧ Below w.heap.size w w' := by
  have H := Aside0.mk (one_yes h hs hl id hb p hp)
  have HR := Aside0.mk h
  have HM := Aside0.mk hm
  clear h hb hs hl hp hm
  go_enter Try.func28, Try.ntmps28
  go_wp2_with (go_at_call 53; (with_reducible refine H.out.mono ?_); rintro e w1 ⟨rfl, hb⟩; obtain ⟨c0, c1, c2, c3⟩ := mb_cells (HR.out.below hb).row p m HM.out; rw [ho] at c3; have HB := Aside0.mk hb; clear hb c0 c1 c2)
  go_ret
  exact ⟨rfl, HB.out⟩
set_option maxHeartbeats 2000000 in
theorem block_ok (h : RepB w F g a cap sp s) (hok : ∀ m ∈ s.l, MOk m) (hs : Sorted s.l) (hl : s.l.length ≤ 64) (id : Int) (hb : findB s.l id = true) (p : Nat) (hp : findN s.l id = p) (m : Mb) (hm : s.l[p]? = some m) (ho : m.f3 = true) (n d : Int) (hf : floorF s = (n, d)) :
    Calls Try.prog 27 #[.pointer (some ⟨g, 0, none⟩), .int .i64 id] w fun e w' => e = .returned (.int .i64 0) ∧ RepB w' F g a cap sp { s with l := s.l.set p { m with f3 := false }, num := n, den := d } ∧ Turns w w' F := by
  have H := Aside0.mk (one_yes h hs hl id hb p hp)
  have HR := Aside0.mk h
  have HO := Aside0.mk hok
  have HM := Aside0.mk hm
  have HF := Aside0.mk hf
  clear h hb hs hl hp hm hok hf
  go_enter Try.func27, Try.ntmps27
  go_wp2_with (first
    | (go_at_call 53; (with_reducible refine H.out.mono ?_); rintro e w1 ⟨rfl, hb⟩; obtain ⟨c0, c1, c2, c3⟩ := mb_cells (HR.out.below hb).row p m HM.out; rw [ho] at c3; have HB := Aside0.mk hb; clear hb c0 c1 c2)
    | (go_at_call 54; (with_reducible refine (floor_calls (HR.out.below HB.out).rep HO.out n d HF.out).mono ?_); rintro e w2 ⟨rfl, hb⟩; have HB2 := Aside0.mk (below_step HB.out hb); have hr := HR.out.below HB2.out; have k2 := (blk_cell hr.hd 2).trans rfl; have k3 := (blk_cell hr.hd 3).trans rfl; have z2 := blk_frozen hr.hd 2; have z3 := blk_frozen hr.hd 3; have hr2 := hr.set_low n d; obtain ⟨_, _, _, e3⟩ := mb_cells hr2.row p m HM.out; have z4 := blk_frozen hr2.row (p * 4 + 3); clear hr hr2 c3 hb))
  go_ret
  exact ⟨rfl, ((HR.out.below HB2.out).set_low n d).set_on p m HM.out false, (((((Turns.refl w F).below HB2.out).set (p := ⟨g, 2, none⟩) (.inl HR.out.fg) _).set (p := ⟨g, 3, none⟩) (.inl HR.out.fg) _).set (p := ⟨a, p * 4 + 3, none⟩) (.inl HR.out.fa) _)⟩
set_option maxHeartbeats 4000000 in
set_option maxRecDepth 100000 in
theorem wake_ok (h : RepB w F g a cap sp s) (hok : ∀ m ∈ s.l, MOk m) (hs : Sorted s.l) (hl : s.l.length ≤ 64) (id : Int) (hb : findB s.l id = true) (p : Nat) (hp : findN s.l id = p) (m : Mb) (hm : s.l[p]? = some m) (ho : m.f3 = false) (n d : Int) (hf : floorF s = (n, d)) (hfl : FlOk n d) (r : Int) (hr : withinF n d m.f1 m.f2 = r) :
    Calls Try.prog 28 #[.pointer (some ⟨g, 0, none⟩), .int .i64 id] w fun e w' => e = .returned (.int .i64 0) ∧ RepB w' F g a cap sp { s with l := s.l.set p { m with f2 := r, f3 := true } } ∧ Turns w w' F := by
  have hmo := hok m (List.mem_of_getElem? hm)
  have H := Aside0.mk (one_yes h hs hl id hb p hp)
  have HR := Aside0.mk h
  have HO := Aside0.mk hok
  have HM := Aside0.mk hm
  have HF := Aside0.mk hf
  have HWC := Aside0.mk (fun W => within_call n d m.f1 m.f2 hfl.n0 hfl.n1 hfl.d0 hfl.d1 (by have := hmo.1; omega) hmo.2.1 r hr W)
  clear h hb hs hl hp hm hok hf hr hmo hfl
  go_enter Try.func28, Try.ntmps28
  go_wp2_with (go_at_call 53; (with_reducible refine H.out.mono ?_); rintro e w1 ⟨rfl, hb⟩; obtain ⟨c0, c1, c2, c3⟩ := mb_cells (HR.out.below hb).row p m HM.out; rw [ho] at c3; have HB := Aside0.mk hb; clear hb c0 c1 c2)
  have HBd := Aside0.mk (below_drew1 HB.out)
  have hmix : Try.prog.follows .mixedOrders = true := by kernel_rfl
  obtain ⟨_, b1, b2, _⟩ := mb_cells (HR.out.below HBd.out).row p m HM.out
  go_region_with (first
    | (go_at_call 54; (with_reducible refine (floor_calls (HR.out.below HBd.out).rep HO.out n d HF.out).mono ?_); rintro e w2 ⟨rfl, hb⟩; have HB2 := Aside0.mk (below_step HBd.out hb); obtain ⟨_, f1, f2, _⟩ := mb_cells (HR.out.below HB2.out).row p m HM.out; clear hb)
    | (go_at_call 64; (with_reducible refine (HWC.out _).mono ?_); rintro e w3 ⟨rfl, hb⟩; have HB3 := Aside0.mk (below_step HB2.out hb); obtain ⟨_, _, g2, _⟩ := mb_cells (HR.out.below HB3.out).row p m HM.out; have y2 := blk_frozen (HR.out.below HB3.out).row (p * 4 + 2); clear hb))
  all_goals
    have HM3 : Aside0 ((s.l.set p { m with f2 := r })[p]? = some { m with f2 := r }) := ⟨List.getElem?_set_self (List.getElem?_eq_some_iff.1 HM.out).1⟩
    have HR3 := Aside0.mk ((HR.out.below HB3.out).set_n p m HM.out r)
    have HR4 := Aside0.mk (HR3.out.set_on p { m with f2 := r } HM3.out true)
    have e3 := (mb_cells HR3.out.row p { m with f2 := r } HM3.out).2.2.2
    have z3 := blk_frozen HR3.out.row (p * 4 + 3)
    have HT := Aside0.mk (fun u v => (((Turns.refl w F).below HB3.out).set (p := ⟨a, p * 4 + 2, none⟩) (.inl HR.out.fa) u).set (p := ⟨a, p * 4 + 3, none⟩) (.inl HR.out.fa) v)
    dsimp only [List.set_set] at HR4
    rw [List.set_set] at HR4
    go_wp2
    go_ret
    exact ⟨rfl, HR4.out, HT.out _ _⟩
end
end Go.Proofs.Ytpammdblenfhgaa.Rg
