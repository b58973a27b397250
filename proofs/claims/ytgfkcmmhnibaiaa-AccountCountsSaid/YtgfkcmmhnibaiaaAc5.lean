/- account.Account, walked by hand: a row of two cores; the page's example. -/
import Derived.Test.YtgfkcmmhnibaiaaAc4
import Derived.Test.YtgfkcmmhnibaiaaPAccx0
namespace Go.Proofs.Ytgfkcmmhnibaiaa.Ac
open Go.RowKit Go.Proofs.YtgfkcmmhnibaiaaW.PrintWords Go.Proofs.YtgfkcmmhnibaiaaW.PrintLast Go.Proofs.YtgfkcmmhnibaiaaW.PrintMore Pt
set_option linter.unusedVariables false
set_option linter.unusedSimpArgs false
theorem lit2 (W : World) (a b : Int) : Kd.R (Kd.int .i64) 3 (W.alloc (.cells #[.int .i64 a, .int .i64 b] 3)) W.heap.size (fun _ => True) (.slice (some ⟨W.heap.size, 0, none⟩) 2 2) [a, b] :=
  Kd.R_of_own (own_lit W W.heap.size 3 .i64 [a, b] (Nat.le_refl _) (by simp)) (fun _ _ => trivial)
theorem row_calls (a b : Int) (w : World) : Calls Try.prog 37 #[.int .i64 a, .int .i64 b] w fun e w' => ∃ v : Value, e = .returned v ∧ Kd.R (Kd.int .i64) 3 w' w.heap.size (fun _ => True) v ([a, b] ++ List.replicate 14 0) ∧ Below w.heap.size w w' := by
  go_enter Try.func37, Try.ntmps37
  go_wp2_with (at_builtin; refine Kd.R_append_zeros (Kd.int .i64) (w0 := w) w.heap.size rfl (.tmp 7) (.const (.int .i64 14)) 23 3 3 (.int .i64 0) 8 rfl Try.underlying23 Try.underlying3 PAcc.info3 rfl (by decide) (by decide) _ [a, b] 0 (14 : Int) (fun _ => True) rfl rfl rfl (fun _ _ => trivial) (lit2 w a b) (by decide) (below_alloc (Below.refl _ _) _) (by simp) (by simp) ?_; intro v1 w1 ho hb hg hat; have HO := Aside0.mk ho; have HB := Aside0.mk hb; clear ho hb hg hat)
  go_ret
  exact ⟨_, rfl, HO.out, HB.out⟩
theorem Rep.bound {w : World} {F : Nat → Prop} {g : Nat} {s : Ac} (h : Rep w F g s) : Rep w (fun k => F k ∧ k < w.heap.size) g s := by
  obtain ⟨m, h⟩ := h
  exact ⟨m, ⟨h.fg, blk_lt h.hd⟩, ⟨h.fm, h.mp.block⟩, h.ne, h.hd, h.mp, h.len, h.f0, h.f1⟩
/-- A row that was made since. -/
theorem add_made {w : World} {F : Nat → Prop} {g B : Nat} {s : Ac} {v : Value} {l : List Int} (h : Rep w F g s) (hF : ∀ k, F k → k < B) (hr : Kd.R (Kd.int .i64) 3 w B (fun _ => True) v l) (hn : rightRow l = true) (h0 : 0 ≤ s.ticks) (h1 : s.ticks < 1000000) :
    Calls Try.prog 28 #[.pointer (some ⟨g, 0, none⟩), v] w fun e w' => e = .returned (.int .i64 0) ∧ Rep w' F g (addF s l) ∧ Turns w w' F := by
  obtain ⟨A, c, rfl⟩ := Kd.R_slice hr
  have q := Kd.R_reads' hr
  refine add_yes h A c l q.2.2 (fun ad e => ?_) q.2.1 hn h0 h1
  subst e
  have hb := (Kd.R_bound hr).1 ad.block (by
    obtain ⟨_, inner, ho, _⟩ := hr
    rcases ho.2 with ⟨e, _⟩ | ⟨g', cap, cur, e, _⟩
    · cases e
    · cases e
      simp [Value.ownBlock])
  exact ⟨fun hf => by have := hF _ hf; omega, hb.2.2.1⟩
def r10 : List Int := [1, 0] ++ List.replicate 14 0
def r01 : List Int := [0, 1] ++ List.replicate 14 0
def a0 : Ac := newA 2
def a1 : Ac := addF a0 r10
def a2 : Ac := addF a1 r01
def a3 : Ac := addF a2 r10
theorem a3_task : taskOf a3 1 = ⟨3, 2, 1, 2, 0⟩ := by kernel_rfl
theorem a3_core : coreOf a3 0 = ⟨2, 1, 0, 1⟩ := by kernel_rfl
theorem a3_ticks : a3.ticks = 3 ∧ a3.f = 2 := ⟨by kernel_rfl, by kernel_rfl⟩
theorem a2_ticks : a2.ticks = 2 := by kernel_rfl
theorem a1_ticks : a1.ticks = 1 := by kernel_rfl
theorem task3 {w : World} {F : Nat → Prop} {g : Nat} (h : Rep w F g a3) : Calls Try.prog 31 #[.pointer (some ⟨g, 0, none⟩), .int .i64 1] w fun e w' => e = .returned (.agg #[.int .i64 3, .int .i64 2, .int .i64 1, .int .i64 2, .int .i64 0]) ∧ Below w.heap.size w w' := by
  have q := task_of h 1
  rw [a3_task] at q
  exact q
theorem core3 {w : World} {F : Nat → Prop} {g : Nat} (h : Rep w F g a3) : Calls Try.prog 29 #[.pointer (some ⟨g, 0, none⟩), .int .i64 0] w fun e w' => e = .returned (.agg #[.int .i64 2, .int .i64 1, .int .i64 0, .int .i64 1]) ∧ Below w.heap.size w w' := by
  have q := core_of h 0
  rw [a3_core] at q
  exact q
theorem frames3 {w : World} {F : Nat → Prop} {g : Nat} (h : Rep w F g a3) : Calls Try.prog 34 #[.pointer (some ⟨g, 0, none⟩)] w fun e w' => e = .returned (.int .i64 1) ∧ Below w.heap.size w w' := by
  have q := frames_calls h (by rw [a3_ticks.1]; decide) (by rw [a3_ticks.1]; decide)
  rw [a3_ticks.1, a3_ticks.2] at q
  exact q.mono fun e w' ⟨h1, n, h2⟩ => ⟨h1, h2 ▸ pw_below_drewN (Below.refl _ _) n⟩
theorem add_nil_row {w : World} {F : Nat → Prop} {g : Nat} {s : Ac} (h : Rep w F g s) : Calls Try.prog 28 #[.pointer (some ⟨g, 0, none⟩), .slice none 0 0] w fun e w' => e = .returned (.int .i64 1) ∧ w = w' :=
  add_no h none 0 [] (Kd.C_nil _ _) (Nat.le_refl _) (by decide) (by decide)
set_option maxHeartbeats 2000000 in
set_option maxRecDepth 100000 in
theorem awake (w : World) : Calls Try.prog 27 #[] w fun e w' => e = .returned (.bool true) ∧ Below w.heap.size w w' := by
  have tok1 := Aside0.mk True.intro
  go_enter Try.func27, Try.ntmps27
  go_wp2_with (first
    | (go_at_call 26; (with_reducible refine (new_ok 2 (by decide) (by decide) _).mono ?_); rintro e w1 ⟨g, rfl, hr, hb⟩; have HR0 := Aside0.mk hr.bound; have HB0 := Aside0.mk hb; clear hr hb)
    | (go_at_call 37; have _t := tok1; (with_reducible refine (row_calls 1 0 _).mono ?_); rintro e w2 ⟨v1, rfl, hv, hb⟩; have HV1 := Aside0.mk hv; have HB1 := Aside0.mk hb; clear hv hb tok1 _t; have tok2 := Aside0.mk True.intro)
    | (go_at_call 28; have _t := tok2; (with_reducible refine (add_made (HR0.out.below HB1.out) (fun k hk => hk.2) HV1.out (by kernel_rfl) (by decide) (by decide)).mono ?_); rintro e w3 ⟨rfl, hr, ht⟩; have HR1 := Aside0.mk hr; have HT1 := Aside0.mk ht; clear hr ht tok2 _t; have tok3 := Aside0.mk True.intro)
    | (go_at_call 37; have _t := tok3; (with_reducible refine (row_calls 0 1 _).mono ?_); rintro e w4 ⟨v2, rfl, hv, hb⟩; have HV2 := Aside0.mk hv; have HB2 := Aside0.mk hb; clear hv hb tok3 _t; have tok4 := Aside0.mk True.intro)
    | (go_at_call 28; have _t := tok4; (with_reducible refine (add_made (HR1.out.below HB2.out) (fun k hk => Nat.lt_of_lt_of_le hk.2 (Nat.le_trans HB1.out.size HT1.out.size)) HV2.out (by kernel_rfl) (by decide) (by decide)).mono ?_); rintro e w5 ⟨rfl, hr, ht⟩; have HR2 := Aside0.mk hr; have HT2 := Aside0.mk ht; clear hr ht tok4 _t; have tok5 := Aside0.mk True.intro)
    | (go_at_call 37; have _t := tok5; (with_reducible refine (row_calls 1 0 _).mono ?_); rintro e w6 ⟨v3, rfl, hv, hb⟩; have HV3 := Aside0.mk hv; have HB3 := Aside0.mk hb; clear hv hb tok5 _t; have tok6 := Aside0.mk True.intro)
    | (go_at_call 28; have _t := tok6; (with_reducible refine (add_made (HR2.out.below HB3.out) (fun k hk => Nat.lt_of_lt_of_le hk.2 (Nat.le_trans (Nat.le_trans HB1.out.size HT1.out.size) (Nat.le_trans HB2.out.size HT2.out.size))) HV3.out (by kernel_rfl) (by decide) (by decide)).mono ?_); rintro e w7 ⟨rfl, hr, ht⟩; have HR3 := Aside0.mk hr; have HT3 := Aside0.mk ht; clear hr ht tok6 _t; have tok7 := Aside0.mk True.intro)
    | (go_at_call 31; (with_reducible refine (task3 HR3.out).mono ?_); rintro e w8 ⟨rfl, hb⟩; have HB4 := Aside0.mk hb; have HR4 := Aside0.mk (HR3.out.below hb); clear hb)
    | (go_at_call 29; (with_reducible refine (core3 HR4.out).mono ?_); rintro e w9 ⟨rfl, hb⟩; have HB5 := Aside0.mk hb; have HR5 := Aside0.mk (HR4.out.below hb); clear hb)
    | (go_at_call 34; (with_reducible refine (frames3 HR5.out).mono ?_); rintro e w10 ⟨rfl, hb⟩; have HB6 := Aside0.mk hb; have HR6 := Aside0.mk (HR5.out.below hb); clear hb)
    | (go_at_call 28; have _t := tok7; (with_reducible refine (add_nil_row HR6.out).mono ?_); rintro e w11 ⟨rfl, rfl⟩; clear tok7 _t))
  go_ret
  refine ⟨rfl, ?_⟩
  have h3 : Below w.heap.size w w3 := HT1.out.to_below (below_step HB0.out HB1.out) (Nat.le_trans HB0.out.size HB1.out.size) (fun k hk => hk.1)
  have h5 : Below w.heap.size w w5 := HT2.out.to_below (below_step h3 HB2.out) (Nat.le_trans h3.size HB2.out.size) (fun k hk => hk.1)
  have h7 : Below w.heap.size w w7 := HT3.out.to_below (below_step h5 HB3.out) (Nat.le_trans h5.size HB3.out.size) (fun k hk => hk.1)
  exact below_step (below_step (below_step h7 HB4.out) HB5.out) HB6.out
end Go.Proofs.Ytgfkcmmhnibaiaa.Ac
