/- SlotsMix, walked by hand. -/
import Derived.Test.YtgjcbpeliimhaaaSlMixP
import Derived.Test.YtgjcbpeliimhaaaSlAwake
import Derived.Test.YtgjcbpeliimhaaaSt30
namespace Go.Proofs.Ytgjcbpeliimhaaa.PSl
open Go.RowKit Go.Proofs.YtgjcbpeliimhaaaW.PrintWords Go.Proofs.YtgjcbpeliimhaaaW.PrintLast Go.Proofs.YtgjcbpeliimhaaaW.PrintMore St
set_option linter.unusedVariables false
set_option linter.unusedSimpArgs false
theorem I.Rep.bound {w : World} {F : Nat → Prop} {g : Nat} {s : Tb Int} (h : I.Rep w F g s) : I.Rep w (fun k => F k ∧ k < w.heap.size) g s := by
  obtain ⟨a, v, h⟩ := h
  exact ⟨a, v, ⟨h.fg, blk_lt h.hd⟩, ⟨h.fa, blk_lt h.sl⟩, h.ne, h.hd, h.sl, Kd.R_mono (Kd.R_bound h.fr) (fun k hk => ⟨⟨hk.1.1, hk.2.2.1⟩, hk.1.2⟩), h.pos, h.le, h.nx, h.fin⟩
/-- A table, and two rows of numbers beside it; all made from block B on. -/
structure Three (B : Nat) (w0 w : World) (F P1 P2 : Nat → Prop) (g : Nat) (s : Tb Int) (v1 v2 : Value) (l1 l2 : List Int) : Prop where
  t : I.Rep w F g s
  r1 : Kd.R (Kd.int .i64) 3 w B P1 v1 l1
  r2 : Kd.R (Kd.int .i64) 3 w B P2 v2 l2
  f0 : ∀ k, F k → B ≤ k ∧ k < w.heap.size
  f1 : ∀ k, F k → ¬ P1 k
  f2 : ∀ k, F k → ¬ P2 k
  p12 : ∀ k, P1 k → ¬ P2 k
  p1 : ∀ k, P1 k → B ≤ k ∧ k < w.heap.size
  p2 : ∀ k, P2 k → B ≤ k ∧ k < w.heap.size
  bl : Below B w0 w
  sz : B ≤ w.heap.size
def Mix (B : Nat) (w0 w : World) (g : Nat) (s : Tb Int) (v1 v2 : Value) (l1 l2 : List Int) : Prop := ∃ F P1 P2, Three B w0 w F P1 P2 g s v1 v2 l1 l2
section
variable {B g : Nat} {w0 w w' : World} {F P1 P2 : Nat → Prop} {s s' : Tb Int} {v1 v2 v1' v2' : Value} {l1 l2 l1' l2' : List Int}
theorem Three.below (h : Three B w0 w F P1 P2 g s v1 v2 l1 l2) (hb : Below w.heap.size w w') : Three B w0 w' F P1 P2 g s v1 v2 l1 l2 :=
  ⟨h.t.below hb, Kd.R_below h.r1 hb, Kd.R_below h.r2 hb, fun k hk => ⟨(h.f0 k hk).1, Nat.lt_of_lt_of_le (h.f0 k hk).2 hb.size⟩, h.f1, h.f2, h.p12, fun k hk => ⟨(h.p1 k hk).1, Nat.lt_of_lt_of_le (h.p1 k hk).2 hb.size⟩, fun k hk => ⟨(h.p2 k hk).1, Nat.lt_of_lt_of_le (h.p2 k hk).2 hb.size⟩, below_then h.bl h.sz hb, Nat.le_trans h.sz hb.size⟩
/-- A call on the table. -/
theorem Three.table (h : Three B w0 w F P1 P2 g s v1 v2 l1 l2) (hr : I.Rep w' (I.grow w F) g s') (ht : Turns w w' F) : Mix B w0 w' g s' v1 v2 l1 l2 := by
  refine ⟨fun k => I.grow w F k ∧ k < w'.heap.size, P1, P2, I.Rep.bound hr, Kd.R_kept h.r1 ht.kept (fun k hk hf => h.f1 k hf hk), Kd.R_kept h.r2 ht.kept (fun k hk hf => h.f2 k hf hk), ?_, ?_, ?_, h.p12, fun k hk => ⟨(h.p1 k hk).1, Nat.lt_of_lt_of_le (h.p1 k hk).2 ht.kept.1⟩, fun k hk => ⟨(h.p2 k hk).1, Nat.lt_of_lt_of_le (h.p2 k hk).2 ht.kept.1⟩, ht.to_below h.bl h.sz (fun k hk => (h.f0 k hk).1), Nat.le_trans h.sz ht.kept.1⟩
  · rintro k ⟨hk | hk, hl⟩
    · exact ⟨(h.f0 k hk).1, hl⟩
    · exact ⟨Nat.le_trans h.sz hk, hl⟩
  · rintro k ⟨hk | hk, hl⟩ hp
    · exact h.f1 k hk hp
    · have := (h.p1 k hp).2
      omega
  · rintro k ⟨hk | hk, hl⟩ hp
    · exact h.f2 k hk hp
    · have := (h.p2 k hp).2
      omega
/-- A row is appended to. -/
theorem Three.app1 (h : Three B w0 w F P1 P2 g s v1 v2 l1 l2) (hr : Kd.R (Kd.int .i64) 3 w' B (fun k => P1 k ∨ w.heap.size ≤ k) v1' l1') (hg : w.grownBy w' v1.ownBlock) :
    Three B w0 w' F (fun k => (P1 k ∨ w.heap.size ≤ k) ∧ B ≤ k ∧ k < w'.heap.size) P2 g s v1' v2 l1' l2 := by
  have hk : Kept w w' P1 := Kept.of_grown hg (Kept.refl _ _) (fun k e => .inl (h.r1.1 k e))
  refine ⟨h.t.turns hk h.f1, Kd.R_mono (Kd.R_bound hr) (fun k q => ⟨q.1, q.2.1, q.2.2.1⟩), Kd.R_kept h.r2 hk (fun k q hp => h.p12 k hp q), fun k q => ⟨(h.f0 k q).1, Nat.lt_of_lt_of_le (h.f0 k q).2 hk.1⟩, ?_, h.f2, ?_, fun k q => q.2, fun k q => ⟨(h.p2 k q).1, Nat.lt_of_lt_of_le (h.p2 k q).2 hk.1⟩, h.bl.grown hg h.sz (fun k e => (h.p1 k (h.r1.1 k e)).1), Nat.le_trans h.sz hk.1⟩
  · rintro k hf ⟨hp | hp, _⟩
    · exact h.f1 k hf hp
    · have := (h.f0 k hf).2
      omega
  · rintro k ⟨hp | hp, _⟩ hq
    · exact h.p12 k hp hq
    · have := (h.p2 k hq).2
      omega
theorem Three.app2 (h : Three B w0 w F P1 P2 g s v1 v2 l1 l2) (hr : Kd.R (Kd.int .i64) 3 w' B (fun k => P2 k ∨ w.heap.size ≤ k) v2' l2') (hg : w.grownBy w' v2.ownBlock) :
    Three B w0 w' F P1 (fun k => (P2 k ∨ w.heap.size ≤ k) ∧ B ≤ k ∧ k < w'.heap.size) g s v1 v2' l1 l2' := by
  have hk : Kept w w' P2 := Kept.of_grown hg (Kept.refl _ _) (fun k e => .inl (h.r2.1 k e))
  refine ⟨h.t.turns hk h.f2, Kd.R_kept h.r1 hk (fun k q hp => h.p12 k q hp), Kd.R_mono (Kd.R_bound hr) (fun k q => ⟨q.1, q.2.1, q.2.2.1⟩), fun k q => ⟨(h.f0 k q).1, Nat.lt_of_lt_of_le (h.f0 k q).2 hk.1⟩, h.f1, ?_, ?_, fun k q => ⟨(h.p1 k q).1, Nat.lt_of_lt_of_le (h.p1 k q).2 hk.1⟩, fun k q => q.2, h.bl.grown hg h.sz (fun k e => (h.p2 k (h.r2.1 k e)).1), Nat.le_trans h.sz hk.1⟩
  · rintro k hf ⟨hp | hp, _⟩
    · exact h.f2 k hf hp
    · have := (h.f0 k hf).2
      omega
  · rintro k hp ⟨hq | hq, _⟩
    · exact h.p12 k hp hq
    · have := (h.p1 k hp).2
      omega
end
theorem get_quiet {w : World} {F : Nat → Prop} {g : Nat} {s : Tb Int} (h : I.Rep w F g s) (id gen : Int) (n : Nat) :
    Calls Try.prog 20 #[.pointer (some ⟨g, 0, none⟩), .int .i64 id, .int .i64 gen] (w.drewN n) fun e w' => e = .returned (.tuple #[.int .i64 (I.getF s id gen).1, .bool (I.getF s id gen).2]) ∧ w' = w.drewN n :=
  (I.get_calls (h.drewN n) id gen).mono fun _ _ q => ⟨q.1, q.2.symm⟩
theorem info3' : (Try.prog.info? 3).map (fun i => (i.zero, i.size, i.bytes)) = some (some (.int .i64 0), 1, 8) := by kernel_rfl
theorem take_exI {F : Nat → Prop} {w : World} {g : Nat} {s s' : Tb Int} {x id gen er : Int} (h : I.Rep w F g s) (ht : I.takeF s x = (s', id, gen, er)) :
    Calls Try.prog 19 #[.pointer (some ⟨g, 0, none⟩), .int .i64 x] w fun e w' => e = .returned (.tuple #[.int .i64 id, .int .i64 gen, .int .i64 er]) ∧ I.Rep w' F g s' ∧ Turns w w' F := by
  have q := I.take_calls h x
  rw [ht] at q
  exact q
set_option maxHeartbeats 8000000 in
set_option maxRecDepth 100000 in
theorem mix (a0 : Int) (A1 : Option Addr) (c1 : Nat) (l1 : List S30) (w : World) (hr : Kd.C k30 w A1 l1.length l1) (hm : l1.length ≤ maxLen) :
    Calls Try.prog 3 #[.int .i64 a0, .slice A1 l1.length c1] w fun e w' => e = .returned (.bool true) ∧ Below w.heap.size w w' := by
  have HR := Aside0.mk hr
  have HM := Aside0.mk hm
  clear hr hm
  by_cases c0 : a0 < 1
  · have HN := Aside0.mk (show a0 < 1 ∨ 1024 < a0 from .inl c0)
    have d1 : decide (a0 < 1) = true := decide_eq_true c0
    have d2 : decide (64 < a0) = false := decide_eq_false (by omega)
    clear c0
    go_enter Try.func3, Try.ntmps3
    go_wp2_with (first
      | (go_at_call 15; (with_reducible refine (I.new_bad a0 HN.out _).mono ?_); rintro e w1 ⟨rfl, rfl⟩)
      | (go_at_call 16; (with_reducible refine (awake _).mono ?_); rintro e w1 ⟨rfl, hb⟩; have HB := Aside0.mk hb; clear hb))
    go_ret
    exact ⟨rfl, HB.out⟩
  by_cases c2 : 64 < a0
  · have d1 : decide (a0 < 1) = false := decide_eq_false (by omega)
    have d2 : decide (64 < a0) = true := decide_eq_true c2
    by_cases c3 : 1024 < a0
    · have HN := Aside0.mk (show a0 < 1 ∨ 1024 < a0 from .inr c3)
      clear c0 c2 c3
      go_enter Try.func3, Try.ntmps3
      go_wp2_with (go_at_call 15; (with_reducible refine (I.new_bad a0 HN.out _).mono ?_); rintro e w1 ⟨rfl, rfl⟩)
      go_ret
      exact ⟨rfl, Below.refl _ _⟩
    · obtain ⟨m, rfl⟩ : ∃ m : Nat, a0 = (m : Int) := ⟨a0.toNat, by omega⟩
      have H1 := Aside0.mk (show 1 ≤ m by omega)
      have H2 := Aside0.mk (show m ≤ 1024 by omega)
      clear c0 c2 c3
      go_enter Try.func3, Try.ntmps3
      go_wp2_with (go_at_call 15; (with_reducible refine (I.new_ok m H1.out H2.out _).mono ?_); rintro e w1 ⟨g, rfl, hr1, hb1⟩; have HB1 := Aside0.mk hb1; clear hr1 hb1)
      go_ret
      exact ⟨rfl, HB1.out⟩
  obtain ⟨m, rfl⟩ : ∃ m : Nat, a0 = (m : Int) := ⟨a0.toNat, by omega⟩
  have H1 := Aside0.mk (show 1 ≤ m by omega)
  have H2 := Aside0.mk (show m ≤ 1024 by omega)
  have H3 := Aside0.mk (show m ≤ 64 by omega)
  have d1 : decide ((m : Int) < 1) = false := decide_eq_false (by omega)
  have d2 : decide (64 < (m : Int)) = false := decide_eq_false (by omega)
  clear c0 c2
  go_enter Try.func3, Try.ntmps3
  go_wp2_with (go_at_call 15; (with_reducible refine (I.new_ok m H1.out H2.out _).mono ?_); rintro e w1 ⟨g, rfl, hr1, hb1⟩; have HR1 := Aside0.mk hr1; have HB1 := Aside0.mk hb1; clear hr1 hb1)
  have HM1 : Aside0 (Mix w.heap.size w w1 g (I.newT m) (.slice none 0 0) (.slice none 0 0) [] []) := ⟨fun k => w.heap.size ≤ k ∧ k < w1.heap.size, fun _ => False, fun _ => False, I.Rep.bound HR1.out, Kd.R_nil _ _ _ _ _, Kd.R_nil _ _ _ _ _, fun k hk => hk, fun _ _ => id, fun _ _ => id, fun _ _ => id, fun _ hk => hk.elim, fun _ hk => hk.elim, HB1.out, HB1.out.size⟩
  have HI1 := Aside0.mk (MInv.new m H1.out H2.out)
  clear HR1 HB1
  go_loopg [7, 8, 9] 101 (fun kq u7 u8 u9 w' => ∃ (v7 v8 : Value) (i : Nat) (s : Tb Int) (ids gens : List Int), u7 = v7 ∧ u8 = v8 ∧ u9 = .int .i64 (i : Int) ∧ Aside0 (i + kq = 101) ∧ Aside0 (i ≤ 100) ∧ Aside0 (MInv m i s ids gens) ∧ Aside0 (Mix w.heap.size w w' g s v7 v8 ids gens))
  case atStart => exact ⟨_, _, 0, I.newT m, [], [], rfl, rfl, rfl, ⟨by omega⟩, ⟨by omega⟩, HI1, HM1⟩
  case round =>
    clear HI1 HM1
    obtain ⟨v7, v8, i, s, ids, gens, rfl, rfl, rfl, HK, HI, HV, HX⟩ := hrel
    obtain ⟨F, P1, P2, ht⟩ := HX.out
    have HT := Aside0.mk ht
    clear ht HX
    obtain ⟨A7, c7, rfl⟩ := Kd.R_slice HT.out.r1
    obtain ⟨A8, c8, rfl⟩ := Kd.R_slice HT.out.r2
    cases gk with
    | zero => exact absurd HK.out (by have := HI.out; omega)
    | succ k1 =>
      by_cases cc : i < l1.length ∧ i < 100
      · obtain ⟨ca, cb⟩ := cc
        have d3 : decide ((i : Int) < (l1.length : Int)) = true := decide_eq_true (by omega)
        have d4 : decide (i < l1.length) = true := decide_eq_true ca
        have d5 : decide ((i : Int) < 100) = true := decide_eq_true (by omega)
        have d6 : decide (i < 100) = true := decide_eq_true cb
        have p0 := eq_true (show (0 : Int) ≤ (i : Int) by omega)
        have p1 := eq_true (show (i : Int) < (l1.length : Int) by omega)
        have HIL := Aside0.mk cb
        obtain ⟨x, hx⟩ : ∃ x, l1[i]? = some x := ⟨_, List.getElem?_eq_getElem ca⟩
        obtain ⟨ad, rfl, q0, q1, q2, q3⟩ := at30 (Kd.C_below HR.out HT.out.bl) i x hx
        have HTA := Aside0.mk (fun o => HT.out.below (below_alloc (Below.refl _ wr) o))
        clear hx ca cb
        by_cases k2 : x.f0 = 2 ∨ x.f0 = 3
        · have HV' := Aside0.mk (HV.out.drop (by have := HIL.out; omega) x.f1 x.f2)
          have HFB := Aside0.mk (show s.free.length < 1000000 by have := HV.out.t.fb; have := HIL.out; omega)
          have e1 : (x.f0 == 2) = decide (x.f0 = 2) := by by_cases h : x.f0 = 2 <;> simp [h]
          obtain ⟨b2, hb2⟩ : ∃ b, (x.f0 == 2) = b := ⟨_, rfl⟩
          have hb3 : b2 = false → (x.f0 == 3) = true := by
            rintro rfl
            have : x.f0 ≠ 2 := by simpa using hb2
            simp
            omega
          clear k2 e1
          cases b2 with
          | true =>
            clear hb3
            go_wp2_with (go_at_call 17; (with_reducible refine (I.drop_calls (HTA.out _).t x.f1 x.f2 HFB.out).mono ?_); rintro e w2 ⟨rfl, hr2, ht2⟩; have HX2 := Aside0.mk ((HTA.out _).table hr2 ht2); clear hr2 ht2)
            go_roundg k1
            case measure => omega
            case rel => exact ⟨_, _, i + 1, _, ids, gens, rfl, rfl, (by first | rfl | (simp; done) | (congr 1; unfold wrap64; have := HIL.out; omega)), ⟨by have := HK.out; omega⟩, ⟨by have := HIL.out; omega⟩, HV', HX2⟩
          | false =>
            have hb4 := hb3 rfl
            clear hb3
            go_wp2_with (go_at_call 17; (with_reducible refine (I.drop_calls (HTA.out _).t x.f1 x.f2 HFB.out).mono ?_); rintro e w2 ⟨rfl, hr2, ht2⟩; have HX2 := Aside0.mk ((HTA.out _).table hr2 ht2); clear hr2 ht2)
            go_roundg k1
            case measure => omega
            case rel => exact ⟨_, _, i + 1, _, ids, gens, rfl, rfl, (by first | rfl | (simp; done) | (congr 1; unfold wrap64; have := HIL.out; omega)), ⟨by have := HK.out; omega⟩, ⟨by have := HIL.out; omega⟩, HV', HX2⟩
        · have e2 : (x.f0 == 2) = false := beq_eq_false_iff_ne.mpr (fun h => k2 (.inl h))
          have e3 : (x.f0 == 3) = false := beq_eq_false_iff_ne.mpr (fun h => k2 (.inr h))
          clear k2
          cases hn : slotNext s with
          | none =>
            obtain ⟨ht, hv, hl⟩ := HV.out.none hn
            have HV' := Aside0.mk hv
            have HTK := Aside0.mk ht
            have d7 : decide (s.many < (m : Int)) = false := decide_eq_false hl
            clear hn ht hv hl
            go_wp2_with (first
              | (go_at_call 18; (with_reducible refine (I.len_calls (HTA.out _).t).mono ?_); rintro e w2 ⟨rfl, rfl⟩)
              | (go_at_call 19; (with_reducible refine (take_exI (HTA.out _).t HTK.out).mono ?_); rintro e w3 ⟨rfl, hr3, ht3⟩; have HX3 := Aside0.mk ((HTA.out _).table (hr3.mono (fun k hk => .inl hk)) ht3); clear hr3 ht3))
            go_roundg k1
            case measure => omega
            case rel => exact ⟨_, _, i + 1, s, ids, gens, rfl, rfl, (by first | rfl | (simp; done) | (congr 1; unfold wrap64; have := HIL.out; omega)), ⟨by have := HK.out; omega⟩, ⟨by have := HIL.out; omega⟩, HV', HX3⟩
          | some j =>
            obtain ⟨s', gen, ht, hv, hl⟩ := HV.out.take (by have := HIL.out; omega) j hn
            have HV' := Aside0.mk hv
            have HI4 := HV
            have HTK := Aside0.mk ht
            have d7 : decide (s.many < (m : Int)) = true := decide_eq_true hl
            clear hn ht hv hl
            go_wp2_with (first
              | (go_at_call 18; (with_reducible refine (I.len_calls (HTA.out _).t).mono ?_); rintro e w2 ⟨rfl, rfl⟩)
              | (go_at_call 19; (with_reducible refine (take_exI (HTA.out _).t HTK.out).mono ?_); rintro e w3 ⟨rfl, hr3, ht3⟩; obtain ⟨F3, P3, Q3, hx3⟩ := (HTA.out _).table (hr3.mono (fun k hk => .inl hk)) ht3; have HT3 := Aside0.mk hx3; clear hr3 ht3 hx3)
              | ((with_reducible refine gate_builtin (b := .append) (xs := #[.tmp 90, .tmp 92]) rfl ?_); at_builtin; refine Kd.R_append (Kd.int .i64) (w0 := w) w.heap.size rfl (.tmp 90) (.tmp 92) 28 3 (.int .i64 0) 8 rfl Try.underlying28 info3' rfl (by decide) (by omega) (.slice A7 ids.length c7) ids ((j : Int) + 1) [.int .i64 ((j : Int) + 1)] (fun k => P3 k ∨ w3.heap.size ≤ k) (fun _ => False) rfl rfl ?aP (fun _ hk => hk.elim) ?aF ?aO ?aB ?aS ?aL ?_; (case aP => exact rfl); (case aF => exact (fun _ hk => .inr hk)); (case aO => exact Kd.R_mono HT3.out.r1 (fun k hk => .inl hk)); (case aB => exact HT3.out.bl); (case aS => exact HT3.out.sz); (case aL => have := HI4.out.lb; have := HIL.out; omega); intro v4 w4 ho4 hb4 hg4 hat4; have HT4 := Aside0.mk (HT3.out.app1 ho4 hg4); clear ho4 hb4 hg4 hat4)
              | ((with_reducible refine gate_builtin (b := .append) (xs := #[.tmp 94, .tmp 96]) rfl ?_); at_builtin; refine Kd.R_append (Kd.int .i64) (w0 := w) w.heap.size rfl (.tmp 94) (.tmp 96) 28 3 (.int .i64 0) 8 rfl Try.underlying28 info3' rfl (by decide) (by omega) (.slice A8 gens.length c8) gens gen [.int .i64 gen] (fun k => Q3 k ∨ w4.heap.size ≤ k) (fun _ => False) rfl rfl ?bP (fun _ hk => hk.elim) ?bF ?bO ?bB ?bS ?bL ?_; (case bP => exact rfl); (case bF => exact (fun _ hk => .inr hk)); (case bO => exact Kd.R_mono HT4.out.r2 (fun k hk => .inl hk)); (case bB => exact HT4.out.bl); (case bS => exact HT4.out.sz); (case bL => have := HI4.out.lb; have := HI4.out.len; have := HIL.out; omega); intro v5 w5 ho5 hb5 hg5 hat5; have HT5 := Aside0.mk (HT4.out.app2 ho5 hg5); clear ho5 hb5 hg5 hat5))
            go_roundg k1
            case measure => omega
            case rel => exact ⟨v4, v5, i + 1, s', _, _, rfl, rfl, (by first | rfl | (simp; done) | (congr 1; unfold wrap64; have := HIL.out; omega)), ⟨by have := HK.out; omega⟩, ⟨by have := HIL.out; omega⟩, HV', ⟨_, _, _, HT5.out⟩⟩
      · by_cases ca : i < l1.length
        · have d3 : decide ((i : Int) < (l1.length : Int)) = true := decide_eq_true (by omega)
          have d4 : decide (i < l1.length) = true := decide_eq_true ca
          have d5 : decide ((i : Int) < 100) = false := decide_eq_false (by omega)
          have d6 : decide (i < 100) = false := decide_eq_false (by omega)
          clear cc ca
          have HW := Aside0.mk (show Three w.heap.size w wr F P1 P2 g s (.slice A7 ids.length c7) (.slice A8 gens.length c8) ids gens from HT.out)
          obtain ⟨wo, hwo⟩ : ∃ wo : World, wo = wr := ⟨_, rfl⟩
          subst hwo
          go_wp2
          go_loopg [15] (ids.length + 1) (fun kq u15 w' => ∃ i : Nat, u15 = .int .i64 (i : Int) ∧ Aside0 (i + kq = ids.length + 1) ∧ Aside0 (i ≤ ids.length) ∧ Aside0 (Drawn0 wo w'))
          case atStart => exact ⟨0, rfl, ⟨by omega⟩, ⟨by omega⟩, ⟨Drawn0.refl _⟩⟩
          case round =>
            obtain ⟨i2, rfl, HK2, HI2, HD⟩ := hrel
            have HTW := Aside0.mk (HW.out.below HD.out.below)
            cases gk with
            | zero => exact absurd HK2.out (by have := HI2.out; omega)
            | succ k2 =>
              by_cases cj : i2 < ids.length
              · have d7 : decide ((i2 : Int) < (ids.length : Int)) = true := decide_eq_true (by omega)
                have d8 : decide (i2 < ids.length) = true := decide_eq_true cj
                have hgl := HV.out.len
                have r1 := Kd.R_reads' HTW.out.r1
                have r2 := Kd.R_reads' HTW.out.r2
                obtain ⟨ad1, e1, x1⟩ := Kd.at_int r1.2.2 (i2 : Int) (by omega) (by omega)
                obtain ⟨ad2, e2, x2⟩ := Kd.at_int r2.2.2 (i2 : Int) (by omega) (by omega)
                rw [Int.toNat_natCast] at x1 x2
                have p5 := eq_true (show (0 : Int) ≤ (i2 : Int) by omega)
                have p6 := eq_true (show (i2 : Int) < (ids.length : Int) by omega)
                have p7 := eq_true (show (i2 : Int) < (gens.length : Int) by omega)
                obtain ⟨y, b, hy⟩ : ∃ y b, I.getF s (rd ids (i2 : Int)) (rd gens (i2 : Int)) = (y, b) := ⟨_, _, rfl⟩
                have hb : b = true → y = (i2 : Int) := by
                  have q := HV.out.get i2 (rd ids (i2 : Int)) (rd gens (i2 : Int)) (by simp [rd, List.getElem?_eq_getElem cj]) (by simp [rd, List.getElem?_eq_getElem (show i2 < gens.length by omega)])
                  rw [hy] at q
                  exact q
                have HG := Aside0.mk (fun n => get_quiet HTW.out.t (rd ids (i2 : Int)) (rd gens (i2 : Int)) n)
                rw [hy] at HG
                have HCJ := Aside0.mk cj
                have HLB := Aside0.mk HV.out.lb
                have HE1 := Aside0.mk e1
                have HE2 := Aside0.mk e2
                clear hgl r1 r2 hy cj
                cases HE1.out
                cases HE2.out
                clear HE1 HE2 e1 e2
                cases b with
                | true =>
                  obtain rfl := hb rfl
                  clear hb
                  go_wp2
                  go_quiet ((go_at_call 20; exact Calls.quiet_of_same (HG.out _)))
                  go_wp2
                  go_roundg k2
                  case measure => omega
                  case rel => exact ⟨i2 + 1, (by first | rfl | (simp; done) | (congr 1; unfold wrap64; have := HCJ.out; have := HLB.out; have := HI.out; omega)), ⟨by have := HK2.out; omega⟩, ⟨by have := HCJ.out; omega⟩, ⟨HD.out.step _⟩⟩
                | false =>
                  clear hb
                  go_wp2
                  go_quiet ((go_at_call 20; exact Calls.quiet_of_same (HG.out _)))
                  go_wp2
                  go_roundg k2
                  case measure => omega
                  case rel => exact ⟨i2 + 1, (by first | rfl | (simp; done) | (congr 1; unfold wrap64; have := HCJ.out; have := HLB.out; have := HI.out; omega)), ⟨by have := HK2.out; omega⟩, ⟨by have := HCJ.out; omega⟩, ⟨HD.out.step _⟩⟩
              · have d7 : decide ((i2 : Int) < (ids.length : Int)) = false := decide_eq_false (by omega)
                have d8 : decide (i2 < ids.length) = false := decide_eq_false cj
                clear cj
                go_wp2_with (go_at_call 16; (with_reducible refine (awake _).mono ?_); rintro e w1 ⟨rfl, hb⟩; have HBZ := Aside0.mk hb; clear hb)
                go_ret
                exact ⟨rfl, below_step (HTW.out.bl) HBZ.out⟩
        · have d3 : decide ((i : Int) < (l1.length : Int)) = false := decide_eq_false (by omega)
          have d4 : decide (i < l1.length) = false := decide_eq_false ca
          clear cc ca
          have HW := Aside0.mk (show Three w.heap.size w wr F P1 P2 g s (.slice A7 ids.length c7) (.slice A8 gens.length c8) ids gens from HT.out)
          obtain ⟨wo, hwo⟩ : ∃ wo : World, wo = wr := ⟨_, rfl⟩
          subst hwo
          go_wp2
          go_loopg [15] (ids.length + 1) (fun kq u15 w' => ∃ i : Nat, u15 = .int .i64 (i : Int) ∧ Aside0 (i + kq = ids.length + 1) ∧ Aside0 (i ≤ ids.length) ∧ Aside0 (Drawn0 wo w'))
          case atStart => exact ⟨0, rfl, ⟨by omega⟩, ⟨by omega⟩, ⟨Drawn0.refl _⟩⟩
          case round =>
            obtain ⟨i2, rfl, HK2, HI2, HD⟩ := hrel
            have HTW := Aside0.mk (HW.out.below HD.out.below)
            cases gk with
            | zero => exact absurd HK2.out (by have := HI2.out; omega)
            | succ k2 =>
              by_cases cj : i2 < ids.length
              · have d7 : decide ((i2 : Int) < (ids.length : Int)) = true := decide_eq_true (by omega)
                have d8 : decide (i2 < ids.length) = true := decide_eq_true cj
                have hgl := HV.out.len
                have r1 := Kd.R_reads' HTW.out.r1
                have r2 := Kd.R_reads' HTW.out.r2
                obtain ⟨ad1, e1, x1⟩ := Kd.at_int r1.2.2 (i2 : Int) (by omega) (by omega)
                obtain ⟨ad2, e2, x2⟩ := Kd.at_int r2.2.2 (i2 : Int) (by omega) (by omega)
                rw [Int.toNat_natCast] at x1 x2
                have p5 := eq_true (show (0 : Int) ≤ (i2 : Int) by omega)
                have p6 := eq_true (show (i2 : Int) < (ids.length : Int) by omega)
                have p7 := eq_true (show (i2 : Int) < (gens.length : Int) by omega)
                obtain ⟨y, b, hy⟩ : ∃ y b, I.getF s (rd ids (i2 : Int)) (rd gens (i2 : Int)) = (y, b) := ⟨_, _, rfl⟩
                have hb : b = true → y = (i2 : Int) := by
                  have q := HV.out.get i2 (rd ids (i2 : Int)) (rd gens (i2 : Int)) (by simp [rd, List.getElem?_eq_getElem cj]) (by simp [rd, List.getElem?_eq_getElem (show i2 < gens.length by omega)])
                  rw [hy] at q
                  exact q
                have HG := Aside0.mk (fun n => get_quiet HTW.out.t (rd ids (i2 : Int)) (rd gens (i2 : Int)) n)
                rw [hy] at HG
                have HCJ := Aside0.mk cj
                have HLB := Aside0.mk HV.out.lb
                have HE1 := Aside0.mk e1
                have HE2 := Aside0.mk e2
                clear hgl r1 r2 hy cj
                cases HE1.out
                cases HE2.out
                clear HE1 HE2 e1 e2
                cases b with
                | true =>
                  obtain rfl := hb rfl
                  clear hb
                  go_wp2
                  go_quiet ((go_at_call 20; exact Calls.quiet_of_same (HG.out _)))
                  go_wp2
                  go_roundg k2
                  case measure => omega
                  case rel => exact ⟨i2 + 1, (by first | rfl | (simp; done) | (congr 1; unfold wrap64; have := HCJ.out; have := HLB.out; have := HI.out; omega)), ⟨by have := HK2.out; omega⟩, ⟨by have := HCJ.out; omega⟩, ⟨HD.out.step _⟩⟩
                | false =>
                  clear hb
                  go_wp2
                  go_quiet ((go_at_call 20; exact Calls.quiet_of_same (HG.out _)))
                  go_wp2
                  go_roundg k2
                  case measure => omega
                  case rel => exact ⟨i2 + 1, (by first | rfl | (simp; done) | (congr 1; unfold wrap64; have := HCJ.out; have := HLB.out; have := HI.out; omega)), ⟨by have := HK2.out; omega⟩, ⟨by have := HCJ.out; omega⟩, ⟨HD.out.step _⟩⟩
              · have d7 : decide ((i2 : Int) < (ids.length : Int)) = false := decide_eq_false (by omega)
                have d8 : decide (i2 < ids.length) = false := decide_eq_false cj
                clear cj
                go_wp2_with (go_at_call 16; (with_reducible refine (awake _).mono ?_); rintro e w1 ⟨rfl, hb⟩; have HBZ := Aside0.mk hb; clear hb)
                go_ret
                exact ⟨rfl, below_step (HTW.out.bl) HBZ.out⟩
end Go.Proofs.Ytgjcbpeliimhaaa.PSl
