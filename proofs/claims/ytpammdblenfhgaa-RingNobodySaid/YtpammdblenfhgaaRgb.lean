/- ring.Ring, walked by hand: Join takes a member in. -/
import Derived.Test.YtpammdblenfhgaaRga
import Derived.Deep.RegionWith
namespace Go.Proofs.Ytpammdblenfhgaa.Rg
open Go.RowKit Go.Proofs.YtpammdblenfhgaaW.PrintWords Go.Proofs.YtpammdblenfhgaaW.PrintLast Go.Proofs.YtpammdblenfhgaaW.PrintMore Pt PRg Go.Proofs.Ytpammdblenfhgaa.FqMath
set_option linter.unusedVariables false
set_option linter.unusedSimpArgs false
section
variable {w w' : World} {F : Nat → Prop} {g : Nat} {s : Rg}
/-- What a floor keeps within. -/
structure FlOk (n d : Int) : Prop where
  n0 : 0 ≤ n
  n1 : n ≤ 9007199254740992
  d0 : 1 ≤ d
  d1 : d ≤ 1000
set_option maxHeartbeats 4000000 in
set_option maxRecDepth 100000 in
theorem join_ok (h : Rep w F g s) (hok : ∀ m ∈ s.l, MOk m) (hs : Sorted s.l) (hl : s.l.length < 32) (id wt : Int) (hid : 1 ≤ id ∧ id ≤ 200) (hw : wOk wt = true) (hb : findB s.l id = false) (p : Nat) (hp : findN s.l id = p) (n d : Int) (hf : floorF s = (n, d)) (hfl : FlOk n d) (r : Int) (hr : lowF n d wt = r) :
    Calls Try.prog 25 #[.pointer (some ⟨g, 0, none⟩), .int .i64 id, .int .i64 wt] w fun e w' => e = .returned (.int .i64 0) ∧ Rep w' (fun k => F k ∨ w.heap.size ≤ k) g { s with l := insF s.l p ⟨id, wt, r, true⟩ } ∧ Turns w w' F := by
  have hwt : 1 ≤ wt ∧ wt ≤ 1000 := of_decide_eq_true hw
  have hpl := findN_le s.l id
  rw [hp] at hpl
  have HP := Aside0.mk hpl
  obtain ⟨v, hA⟩ := h.bound
  obtain ⟨A, cap, rfl, hcap, hmx⟩ := hA.row.slice
  have H := Aside0.mk hA
  have HX := Aside0.mk (show Rep w (fun k => F k ∧ k < w.heap.size) g s from ⟨_, hA⟩)
  have HW := Aside0.mk hw
  have HWT := Aside0.mk hwt
  have HS := Aside0.mk hs
  have HL := Aside0.mk (show s.l.length ≤ 64 by omega)
  have HO := Aside0.mk hok
  have HB := Aside0.mk hb
  have HPN := Aside0.mk hp
  have HF := Aside0.mk hf
  have HFL := Aside0.mk hfl
  have HR := Aside0.mk hr
  have e1 : IntKind.u64.wrap wt = wt := uw_id (by omega) (by omega)
  have d1 : decide (id < 1) = false := decide_eq_false (by omega)
  have d2 : decide (200 < id) = false := decide_eq_false (by omega)
  have d3 : decide ((32 : Int) ≤ (s.l.length : Int)) = false := decide_eq_false (by omega)
  have d4 : decide (32 ≤ s.l.length) = false := decide_eq_false (by omega)
  clear h hA hid hw hs hl hb hok hp hpl hf hfl hr hwt hcap hmx
  go_enter Try.func25, Try.ntmps25
  go_wp2_with (first
    | (go_at_call 50; (with_reducible refine (none_rep HX.out).mono ?_); rintro e w' ⟨rfl, rfl⟩)
    | (go_at_call 59; (with_reducible refine (weight_call wt true HW.out _).mono ?_); rintro e w1 ⟨rfl, hb⟩; have HB1 := Aside0.mk hb; clear hb)
    | (go_at_call 60; (with_reducible refine (find_calls (HX.out.below HB1.out) HS.out HL.out id p false HPN.out HB.out).mono ?_); rintro e w2 ⟨rfl, hb⟩; have HB2 := Aside0.mk (below_step HB1.out hb); have k1 : w2.cell? ⟨g, 1, none⟩ = some (.slice A s.l.length cap) := (blk_cell (H.out.below (below_step HB1.out hb)).hd 1).trans rfl; clear hb)
    | (go_at_call 54; (with_reducible refine (floor_calls (HX.out.below HB2.out) HO.out n d HF.out).mono ?_); rintro e w3 ⟨rfl, hb⟩; have HB3 := Aside0.mk (below_step HB2.out hb); clear k1 hb)
    | (go_at_call 61; (with_reducible refine (low_call n d wt HFL.out.n0 HFL.out.n1 HFL.out.d0 HFL.out.d1 (by have := HWT.out; omega) HWT.out.2 r HR.out _).mono ?_); rintro e w4 ⟨rfl, hb⟩; have HB4 := Aside0.mk (below_step HB3.out hb); clear hb))
  have HQ := Aside0.mk (heap_alloc_new w4 (Obj.cells #[Value.int IntKind.i64 id, Value.int IntKind.u64 wt, Value.int IntKind.u64 r, Value.bool true] 103))
  have HB5 := Aside0.mk (below_alloc HB4.out (Obj.cells #[Value.int IntKind.i64 id, Value.int IntKind.u64 wt, Value.int IntKind.u64 r, Value.bool true] 103))
  generalize w4.alloc (Obj.cells #[Value.int IntKind.i64 id, Value.int IntKind.u64 wt, Value.int IntKind.u64 r, Value.bool true] 103) = w5 at *
  generalize w4.heap.size = q at *
  have HA5 := Aside0.mk (H.out.below HB5.out)
  have HB6 := Aside0.mk (below_drew1 HB5.out)
  have HA6 := Aside0.mk (H.out.below HB6.out)
  have HB7 := Aside0.mk (fun o => below_drew1 (below_alloc HB5.out o))
  have HIC := Aside0.mk (insert_calls (P := fun k => (F k ∧ k < w.heap.size) ∧ k ≠ g) (RepA.row (H.out.below (HB7.out (Obj.cells #[Value.int IntKind.i64 id, Value.int IntKind.u64 wt, Value.int IntKind.u64 r, Value.bool true] 103)))) p HP.out (by have := HL.out; omega) w5.heap.size ⟨id, wt, r, true⟩ (heap_alloc_new w5 _) (fun q => by have h1 := q.1.2; have h2 := HB5.out.size; omega))
  generalize hM : (w5.alloc (Obj.cells #[Value.int IntKind.i64 id, Value.int IntKind.u64 wt, Value.int IntKind.u64 r, Value.bool true] 103)).drew = W at HIC
  have HM := Aside0.mk hM
  clear hM
  have hmix : Try.prog.follows .mixedOrders = true := by kernel_rfl
  have HQ6 := Aside0.mk (show w5.drew.heap[q]? = _ from HQ.out)
  have k1 : w5.drew.cell? ⟨g, 1, none⟩ = some (.slice A s.l.length cap) := (blk_cell HA6.out.hd 1).trans rfl
  have K1 : ∀ o, (w5.drew.alloc o).cell? ⟨g, 1, none⟩ = some (.slice A s.l.length cap) := fun o => pw_cell_below (below_alloc (Below.refl _ _) o) k1
  have K2 : ∀ o, (w5.alloc o).cell? ⟨g, 1, none⟩ = some (.slice A s.l.length cap) := fun o => pw_cell_below (below_alloc (Below.refl _ _) o) k1
  have k2 := (blk_cell HQ6.out 0).trans rfl
  have k3 := (blk_cell HQ6.out 1).trans rfl
  have k4 := (blk_cell HQ6.out 2).trans rfl
  have k5 := (blk_cell HQ6.out 3).trans rfl
  have HW7 : Aside0 (Below w.heap.size w W) := ⟨by rw [← HM.out]; exact HB7.out _⟩
  go_region_with (go_at_call 62; rw [HM.out]; (with_reducible refine HIC.out.mono ?_); rintro e w7 ⟨v', rfl, hrow, ht⟩; obtain ⟨A7, c7, ev7, _, _⟩ := hrow.slice; subst ev7; have HRW := Aside0.mk hrow; have HT := Aside0.mk ht; have hg7 : w7.heap[g]? = some (.cells #[.int .u64 s.lim, .slice A s.l.length cap, .int .u64 s.num, .int .u64 s.den] 60 (0, 0)) := (ht.kept.2 g (blk_lt (H.out.below HW7.out).hd) (fun q => q.2 rfl)).trans (H.out.below HW7.out).hd; have k7 := (blk_cell hg7 1).trans rfl; have z7 := blk_frozen hg7 1; clear hrow ht hg7)
  all_goals
    have hgW := blk_lt (H.out.below HW7.out).hd
    have hsW := HW7.out.size
    have HG := Aside0.mk (RepA.put (F' := fun k => F k ∨ w.heap.size ≤ k) (H.out.below HW7.out) HT.out (HRW.out.mono (fun k hk => hk.elim (fun q => ⟨.inl q.1.1, q.2⟩) (fun q => ⟨.inr (Nat.le_trans hsW q), by omega⟩))) (fun k hk => .inl hk.1))
    have HTT := Aside0.mk (fun v => (((Turns.refl w F).below HW7.out).trans HT.out (fun k hk => .inl hk.1.1)).set (p := ⟨g, 1, none⟩) (.inl H.out.fg.1) v)
    clear hgW hsW
    go_wp2
    go_ret
    exact ⟨rfl, ⟨_, HG.out⟩, HTT.out _⟩
end
end Go.Proofs.Ytpammdblenfhgaa.Rg
