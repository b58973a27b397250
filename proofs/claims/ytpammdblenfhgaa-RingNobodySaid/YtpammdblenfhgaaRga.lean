/- ring.Ring, walked by hand: Join. -/
import Derived.Test.YtpammdblenfhgaaRg9
import Derived.Test.YtpammdblenfhgaaFqMore
import Derived.Test.YtpammdblenfhgaaFqDiv
import Derived.Test.YtpammdblenfhgaaPRgx3
namespace Go.Proofs.Ytpammdblenfhgaa.Rg
open Go.RowKit Go.Proofs.YtpammdblenfhgaaW.PrintWords Go.Proofs.YtpammdblenfhgaaW.PrintLast Go.Proofs.YtpammdblenfhgaaW.PrintMore Pt PRg Go.Proofs.Ytpammdblenfhgaa.FqMath
set_option linter.unusedVariables false
set_option linter.unusedSimpArgs false
def wOk (w : Int) : Bool := decide (1 ≤ w ∧ w ≤ 1000)
theorem weight_call (a : Int) (b : Bool) (hb : wOk a = b) (w : World) : Calls Try.prog 59 #[.int .i64 a] w fun e w' => e = .returned (.bool b) ∧ Below w.heap.size w w' := by
  refine (ring_weight.calls a b w ?_).mono (fun e w' h => ⟨h.1, h.2.below⟩)
  subst hb
  unfold ring_weight.f wOk
  split
  · rename_i h; congr 1; rw [decide_eq_decide]; omega
  · rename_i h; congr 1; rw [eq_comm, decide_eq_false_iff_not]; omega
def lowF (n d w : Int) : Int := if n * w % d = 0 then n * w / d else n * w / d + 1
def withinF (n d w x : Int) : Int := max (lowF n d w) (min x (n * w / d + 1))
theorem prod_bound {n w : Int} (h0 : 0 ≤ n) (h1 : n ≤ 9007199254740992) (w0 : 0 ≤ w) (w1 : w ≤ 1000) : 0 ≤ n * w ∧ n * w ≤ 9007199254740992000 :=
  ⟨Int.mul_nonneg h0 w0, by have := Int.mul_le_mul h1 w1 w0 (by omega); omega⟩
theorem low_f (n d w : Int) (h0 : 0 ≤ n) (h1 : n ≤ 9007199254740992) (d0 : 1 ≤ d) (d1 : d ≤ 1000) (w0 : 0 ≤ w) (w1 : w ≤ 1000) : ring_low.f 1099511627776 n d w = some (lowF n d w) := by
  have hp := prod_bound h0 h1 w0 w1
  unfold ring_low.f
  rw [PRg.ceil 1099511627776 n w d (Nat.le_refl _) h0 (by omega) w0 (by omega) (by omega) (by omega)]
  have hz : n * w / 18446744073709551616 = 0 := Int.ediv_eq_zero_of_lt hp.1 (by omega)
  have hq := Int.ediv_le_self d hp.1
  unfold lowF
  generalize n * w = x at *
  rw [hz, if_neg (by omega), if_neg (by omega)]
  split
  · rfl
  · rw [if_neg (by omega)]; rfl
theorem within_f (n d w x : Int) (h0 : 0 ≤ n) (h1 : n ≤ 9007199254740992) (d0 : 1 ≤ d) (d1 : d ≤ 1000) (w0 : 0 ≤ w) (w1 : w ≤ 1000) : ring_within.f 1099511627776 n d w x = some (withinF n d w x) := by
  have hp := prod_bound h0 h1 w0 w1
  unfold ring_within.f
  rw [low_f n d w h0 h1 d0 d1 w0 w1, PRg.muldiv 1099511627776 n w d (Nat.le_refl _) h0 (by omega) w0 (by omega) (by omega) (by omega)]
  have hz : n * w / 18446744073709551616 = 0 := Int.ediv_eq_zero_of_lt hp.1 (by omega)
  have hq := Int.ediv_le_self d hp.1
  have hq0 := Int.ediv_nonneg hp.1 (show 0 ≤ d by omega)
  unfold withinF
  generalize n * w = y at *
  rw [hz, if_neg (by omega), if_neg (by omega)]
  simp only [Option.bind_some]
  rw [uw_id (by omega) (by omega)]
  unfold mx mn
  congr 1
  generalize lowF n d w = z
  generalize y / d = u
  split <;> split <;> omega
theorem low_call (n d w : Int) (h0 : 0 ≤ n) (h1 : n ≤ 9007199254740992) (d0 : 1 ≤ d) (d1 : d ≤ 1000) (w0 : 0 ≤ w) (w1 : w ≤ 1000) (r : Int) (hr : lowF n d w = r) (W : World) : Calls Try.prog 61 #[.agg #[.int .u64 n, .int .u64 d], .int .u64 w] W fun e w' => e = .returned (.int .u64 r) ∧ Below W.heap.size W w' :=
  hr ▸ ring_low.calls _ n d w _ W (low_f n d w h0 h1 d0 d1 w0 w1)
theorem within_call (n d w x : Int) (h0 : 0 ≤ n) (h1 : n ≤ 9007199254740992) (d0 : 1 ≤ d) (d1 : d ≤ 1000) (w0 : 0 ≤ w) (w1 : w ≤ 1000) (r : Int) (hr : withinF n d w x = r) (W : World) : Calls Try.prog 64 #[.agg #[.int .u64 n, .int .u64 d], .int .u64 w, .int .u64 x] W fun e w' => e = .returned (.int .u64 r) ∧ Below W.heap.size W w' :=
  hr ▸ ring_within.calls _ n d w x _ W (within_f n d w x h0 h1 d0 d1 w0 w1)
section
variable {w w' : World} {F : Nat → Prop} {g : Nat} {s : Rg}
/-- The slice's field written. -/
theorem RepA.put {v v' : Value} {w1 : World} {F' : Nat → Prop} {l : List Mb} (h : RepA w F g v s) (ht : Turns w w1 (fun k => F k ∧ k ≠ g)) (hr : Row w1 (fun k => F' k ∧ k ≠ g) v' l) (hF : ∀ k, F k → F' k) :
    RepA (w1.setCell ⟨g, 1, none⟩ v') F' g v' { s with l := l } := by
  refine ⟨hF _ h.fg, ?_, ?_, h.lim0, h.lim1⟩
  · exact blk_set ((ht.kept.2 g (blk_lt h.hd) (fun q => q.2 rfl)).trans h.hd) 1 v'
  · rcases hr with q | ⟨a, c, sp, e, hp, hb, r⟩
    · exact .inl q
    · exact .inr ⟨a, c, sp, e, hp, blk_far hb hp.2 _, r⟩
theorem join_none {p : Value} (h : NoneV w p) (id wt : Int) : Calls Try.prog 25 #[p, .int .i64 id, .int .i64 wt] w fun e w' => e = .returned (.int .i64 2) ∧ w = w' := by
  have H := Aside0.mk h
  clear h
  go_enter Try.func25, Try.ntmps25
  go_wp2_with (go_at_call 50; (with_reducible refine (none_v H.out).mono ?_); rintro e w' ⟨rfl, rfl⟩)
  go_ret
  exact ⟨rfl, rfl⟩
set_option maxHeartbeats 2000000 in
theorem join_id (h : Rep w F g s) (id wt : Int) (hid : id < 1 ∨ 200 < id) : Calls Try.prog 25 #[.pointer (some ⟨g, 0, none⟩), .int .i64 id, .int .i64 wt] w fun e w' => e = .returned (.int .i64 20) ∧ Below w.heap.size w w' := by
  have H := Aside0.mk h
  clear h
  by_cases c1 : id < 1
  · have d1 : decide (id < 1) = true := decide_eq_true c1
    clear c1 hid
    go_enter Try.func25, Try.ntmps25
    go_wp2_with (go_at_call 50; (with_reducible refine (none_rep H.out).mono ?_); rintro e w' ⟨rfl, rfl⟩)
    go_ret
    exact ⟨rfl, Below.refl _ _⟩
  · have d1 : decide (id < 1) = false := decide_eq_false c1
    have d2 : decide (200 < id) = true := decide_eq_true (by omega)
    clear c1 hid
    go_enter Try.func25, Try.ntmps25
    go_wp2_with (go_at_call 50; (with_reducible refine (none_rep H.out).mono ?_); rintro e w' ⟨rfl, rfl⟩)
    go_ret
    exact ⟨rfl, Below.refl _ _⟩
set_option maxHeartbeats 2000000 in
theorem join_w (h : Rep w F g s) (id wt : Int) (hid : 1 ≤ id ∧ id ≤ 200) (hw : wOk wt = false) : Calls Try.prog 25 #[.pointer (some ⟨g, 0, none⟩), .int .i64 id, .int .i64 wt] w fun e w' => e = .returned (.int .i64 22) ∧ Below w.heap.size w w' := by
  have H := Aside0.mk h
  have HW := Aside0.mk hw
  have d1 : decide (id < 1) = false := decide_eq_false (by omega)
  have d2 : decide (200 < id) = false := decide_eq_false (by omega)
  clear h hid hw
  go_enter Try.func25, Try.ntmps25
  go_wp2_with (first
    | (go_at_call 50; (with_reducible refine (none_rep H.out).mono ?_); rintro e w' ⟨rfl, rfl⟩)
    | (go_at_call 59; (with_reducible refine (weight_call wt false HW.out _).mono ?_); rintro e w1 ⟨rfl, hb⟩; have HB := Aside0.mk hb; clear hb))
  go_ret
  exact ⟨rfl, HB.out⟩
set_option maxHeartbeats 2000000 in
theorem join_had (h : Rep w F g s) (hs : Sorted s.l) (hl : s.l.length ≤ 64) (id wt : Int) (hid : 1 ≤ id ∧ id ≤ 200) (hw : wOk wt = true) (hb : findB s.l id = true) : Calls Try.prog 25 #[.pointer (some ⟨g, 0, none⟩), .int .i64 id, .int .i64 wt] w fun e w' => e = .returned (.int .i64 11) ∧ Below w.heap.size w w' := by
  have H := Aside0.mk h
  have HW := Aside0.mk hw
  have HS := Aside0.mk hs
  have HL := Aside0.mk hl
  have HB := Aside0.mk hb
  have d1 : decide (id < 1) = false := decide_eq_false (by omega)
  have d2 : decide (200 < id) = false := decide_eq_false (by omega)
  clear h hid hw hs hl hb
  go_enter Try.func25, Try.ntmps25
  go_wp2_with (first
    | (go_at_call 50; (with_reducible refine (none_rep H.out).mono ?_); rintro e w' ⟨rfl, rfl⟩)
    | (go_at_call 59; (with_reducible refine (weight_call wt true HW.out _).mono ?_); rintro e w1 ⟨rfl, hb⟩; have HB1 := Aside0.mk hb; clear hb)
    | (go_at_call 60; (with_reducible refine (find_calls (H.out.below HB1.out) HS.out HL.out id _ true rfl HB.out).mono ?_); rintro e w2 ⟨rfl, hb⟩; have HB2 := Aside0.mk hb; clear hb))
  go_ret
  exact ⟨rfl, below_step HB1.out HB2.out⟩
set_option maxHeartbeats 2000000 in
theorem join_full (h : Rep w F g s) (hs : Sorted s.l) (hl : s.l.length ≤ 64) (id wt : Int) (hid : 1 ≤ id ∧ id ≤ 200) (hw : wOk wt = true) (hb : findB s.l id = false) (hf : 32 ≤ s.l.length) : Calls Try.prog 25 #[.pointer (some ⟨g, 0, none⟩), .int .i64 id, .int .i64 wt] w fun e w' => e = .returned (.int .i64 13) ∧ Below w.heap.size w w' := by
  obtain ⟨a, cap, sp, hB⟩ := h.open_ (by omega)
  have H := Aside0.mk hB
  have HW := Aside0.mk hw
  have HS := Aside0.mk hs
  have HL := Aside0.mk hl
  have HB := Aside0.mk hb
  have d1 : decide (id < 1) = false := decide_eq_false (by omega)
  have d2 : decide (200 < id) = false := decide_eq_false (by omega)
  have d3 : decide ((32 : Int) ≤ (s.l.length : Int)) = true := decide_eq_true (by omega)
  have d4 : decide (32 ≤ s.l.length) = true := decide_eq_true (by omega)
  clear h hB hid hw hs hl hb hf
  go_enter Try.func25, Try.ntmps25
  go_wp2_with (first
    | (go_at_call 50; (with_reducible refine (none_rep H.out.rep).mono ?_); rintro e w' ⟨rfl, rfl⟩)
    | (go_at_call 59; (with_reducible refine (weight_call wt true HW.out _).mono ?_); rintro e w1 ⟨rfl, hb⟩; have HB1 := Aside0.mk hb; clear hb)
    | (go_at_call 60; (with_reducible refine (find_calls (H.out.rep.below HB1.out) HS.out HL.out id _ false rfl HB.out).mono ?_); rintro e w2 ⟨rfl, hb⟩; have HB2 := Aside0.mk (below_step HB1.out hb); have k1 : w2.cell? ⟨g, 1, none⟩ = some (.slice (some ⟨a, 0, none⟩) s.l.length cap) := (blk_cell (H.out.below (below_step HB1.out hb)).hd 1).trans rfl; clear hb))
  go_ret
  exact ⟨rfl, HB2.out⟩
end
end Go.Proofs.Ytpammdblenfhgaa.Rg
