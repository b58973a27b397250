/- AccountCounts, walked by hand: what the walk calls. -/
import Derived.Test.YtgfkcmmhnibaiaaAcc
namespace Go.Proofs.Ytgfkcmmhnibaiaa.Ac
open Go.RowKit Go.Proofs.YtgfkcmmhnibaiaaW.PrintWords Go.Proofs.YtgfkcmmhnibaiaaW.PrintLast Go.Proofs.YtgfkcmmhnibaiaaW.PrintMore Pt
set_option linter.unusedVariables false
set_option linter.unusedSimpArgs false
theorem frames_quiet {w : World} {F : Nat → Prop} {g : Nat} {s : Ac} (h : Rep w F g s) (f : Int) (n : Nat) (hf : s.f = f) (hf0 : 2 ≤ f) (hn : s.ticks = (n : Int)) (hb : n ≤ 100000) (m : Nat) : Calls Try.prog 34 #[.pointer (some ⟨g, 0, none⟩)] (w.drewN m) fun e w' => e = .returned (.int .i64 ((n : Int) / f)) ∧ ∃ k, w' = (w.drewN m).drewN k := by
  have q := frames_calls (h.drewN m) (by rw [hn]; omega) (by rw [hn]; omega)
  rw [hn, hf] at q
  exact q
theorem right_call {r : List Int} (hl : r.length ≤ 1000) (A : Option Addr) (c : Nat) (w : World) (hr : Kd.C (Kd.int .i64) w A r.length r) (hc : r.length ≤ c) (b : Bool) (hb : rightRow r = b) :
    Calls Try.prog 32 #[.slice A r.length c] w fun e w' => e = .returned (.bool b) ∧ Below w.heap.size w w' := by
  obtain ⟨k, hk⟩ := right_some r hl
  rw [hb] at hk
  exact (PAcc.dogwatchref32_Right.calls k A c r b w hr hc hk).mono fun e w' q => ⟨q.1, q.2.below⟩
theorem of_call {s : Ac} {f : Nat} {l : List (List Int)} {a : Nat} {id : Int} (h : CInv s f l a id) (hf0 : 2 ≤ (f : Int)) (hf1 : (f : Int) ≤ 64) (hl : l.length ≤ 900) (hid : 1 ≤ id ∧ id ≤ 200) {t0 t1 t2 t3 t4 : Int} (ht : taskOf s id = ⟨t0, t1, t2, t3, t4⟩)
    (a0 : Int) (h0 : a0 = (f : Int)) (A : Option Addr) (n c : Nat) (hn : n = l.length) (w : World) (hr : Kd.C (Kd.slice 3 (Kd.int .i64)) w A l.length l) (hc : l.length ≤ c) :
    Calls Try.prog 35 #[.int .i64 a0, .slice A n c, .int .i64 (a : Int), .int .i64 id] w fun e w' => e = .returned (.agg #[.int .i64 t0, .int .i64 t1, .int .i64 t2, .int .i64 t3, .int .i64 t4]) ∧ Below w.heap.size w w' := by
  subst hn
  subst h0
  obtain ⟨k, hk⟩ := of_some f (by omega) (by omega) l hl h.right a h.from_ id
  have hv := (h.task hid).val
  rw [accT_eq f (by omega)] at hv
  have e : taskOf s id = (s.M id).getD tz := by unfold taskOf; rw [if_pos hid]; rfl
  rw [e, hv] at ht
  simp only [Tk.mk.injEq] at ht
  unfold ofR at hk
  rw [ht.1, ht.2.1, ht.2.2.1, ht.2.2.2.1, ht.2.2.2.2] at hk
  exact PAcc.dogwatchref32_Of.calls k (f : Int) A c l (a : Int) id t0 t1 t2 t3 t4 w hr hc hk
theorem on_call {s : Ac} {f : Nat} {l : List (List Int)} {a : Nat} {id core : Int} (h : CInv s f l a id) (hl : l.length ≤ 900) (hcore : 0 ≤ core ∧ core < 16) {b d ch tk : Int} (ht : coreOf s core = ⟨b, d, ch, tk⟩)
    (A : Option Addr) (n c : Nat) (hn : n = l.length) (w : World) (hr : Kd.C (Kd.slice 3 (Kd.int .i64)) w A l.length l) (hc : l.length ≤ c) :
    Calls Try.prog 36 #[.slice A n c, .int .i64 core] w fun e w' => e = .returned (.agg #[.int .i64 b, .int .i64 d, .int .i64 ch, .int .i64 tk]) ∧ Below w.heap.size w w' := by
  subst hn
  obtain ⟨c0, rfl⟩ : ∃ m : Nat, core = (m : Int) := ⟨core.toNat, by omega⟩
  obtain ⟨k, hk⟩ := on_some l c0 (by omega) h.right (by omega)
  have e : coreOf s (c0 : Int) = accC l c0 l.length := by
    unfold coreOf
    rw [if_pos hcore, ← h.core c0 (by omega)]
    rfl
  rw [e] at ht
  rw [ht] at hk
  exact PAcc.dogwatchref32_On.calls k A c l (c0 : Int) b d ch tk w hr hc hk
end Go.Proofs.Ytgfkcmmhnibaiaa.Ac
