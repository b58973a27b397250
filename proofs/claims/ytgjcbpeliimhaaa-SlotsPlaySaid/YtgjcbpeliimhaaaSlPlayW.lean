/- SlotsPlay, walked by hand. -/
import Derived.Test.YtgjcbpeliimhaaaSlStep
namespace Go.Proofs.Ytgjcbpeliimhaaa.PSl
open Go.RowKit Go.Proofs.YtgjcbpeliimhaaaW.PrintWords Go.Proofs.YtgjcbpeliimhaaaW.PrintLast Go.Proofs.YtgjcbpeliimhaaaW.PrintMore PSp St
set_option linter.unusedVariables false
set_option linter.unusedSimpArgs false
/-- What a round begins with: both tables, and the block q where the document's lies. -/
def PlayR (w0 w : World) (g q : Nat) (s : Tb Int) (v : Value) (l : List S82) (c : Int) : Prop :=
  ∃ F P, Two ⟨w0.heap.size, w0, w, F, P⟩ w F P g s v l ∧ ¬ F q ∧ ¬ P q ∧ w0.heap.size ≤ q ∧ w.heap[q]? = some (.cells #[v, .int .i64 c] 71 (0, 0))
/-- A step is begun anew. -/
theorem Two.again {E : Env} {w : World} {F P : Nat → Prop} {g : Nat} {s : Tb Int} {v : Value} {l : List S82} (h : Two E w F P g s v l) : Two ⟨E.B, E.w0, w, F, P⟩ w F P g s v l :=
  ⟨h.t, h.r, h.f0, h.f1, h.p1, h.bl, h.sz, Kept.refl _ _, fun k hk => .inl hk, fun k hk => .inl hk, Nat.le_refl _⟩
/-- Behind a step: what it came to lies in block b. -/
def MidR (w0 w : World) (g q b : Nat) (s : Tb Int) (v : Value) (l : List S82) (c : Int) : Prop :=
  ∃ F P, Two ⟨w0.heap.size, w0, w, F, P⟩ w F P g s v l ∧ ¬ F q ∧ ¬ P q ∧ w0.heap.size ≤ q ∧ (∃ a a', w.heap[q]? = some (.cells #[a, a'] 71 (0, 0))) ∧ w.heap[b]? = some (.cells #[v, .int .i64 c] 71 (0, 0)) ∧ q ≠ b
/-- A store into a block that is neither's; a step begins behind it. -/
theorem Two.setA {E : Env} {w : World} {F P : Nat → Prop} {g : Nat} {s : Tb Int} {v : Value} {l : List S82} (h : Two E w F P g s v l) {p : Addr} (hp : E.B ≤ p.block) (hf : ¬ F p.block) (hq : ¬ P p.block) (u : Value) :
    Two ⟨E.B, E.w0, w.setCell p u, F, P⟩ (w.setCell p u) F P g s v l :=
  have hk : Kept w (w.setCell p u) (fun k => k = p.block) := Kept.setCell (S := fun k => k = p.block) (p := p) (Kept.refl _ _) (.inl rfl) _
  ⟨h.t.turns hk (fun k hk e => hf (e ▸ hk)), Kd.R_kept h.r hk (fun k hk e => hq (e ▸ hk)), fun k hk => ⟨(h.f0 k hk).1, by simpa using (h.f0 k hk).2⟩, h.f1, fun k hk => ⟨(h.p1 k hk).1, by simpa using (h.p1 k hk).2⟩, h.bl.setCell hp u, by simpa using h.sz, Kept.refl _ _, fun k hk => .inl hk, fun k hk => .inl hk, Nat.le_refl _⟩
/-- A block of the world in which the step began, not the tables', is neither's behind it. -/
theorem Two.old {E : Env} {w : World} {F P : Nat → Prop} {g : Nat} {s : Tb Int} {v : Value} {l : List S82} (h : Two E w F P g s v l) {k : Nat} (hk : k < E.w1.heap.size) (hf : ¬ E.F1 k) (hp : ¬ E.P1 k) : ¬ F k ∧ ¬ P k :=
  ⟨fun q => (h.fs k q).elim hf (fun e => by omega), fun q => (h.ps k q).elim hp (fun e => by omega)⟩
theorem find_ex {w : World} {F : Nat → Prop} {g : Nat} {s : Tb Int} {id y g0 : Int} {b : Bool} (h : I.Rep w F g s) (hf : I.findF s id = (y, g0, b)) :
    Calls Try.prog 42 #[.pointer (some ⟨g, 0, none⟩), .int .i64 id] w fun e w' => e = .returned (.tuple #[.int .i64 y, .int .i64 g0, .bool b]) ∧ ∃ n, w' = w.drewN n := by
  have q := I.find_calls h id
  rw [hf] at q
  exact q
theorem get_ex' {w : World} {F : Nat → Prop} {g : Nat} {s : Tb Int} {id gen y : Int} {b : Bool} (h : I.Rep w F g s) (hf : I.getF s id gen = (y, b)) :
    Calls Try.prog 20 #[.pointer (some ⟨g, 0, none⟩), .int .i64 id, .int .i64 gen] w fun e w' => e = .returned (.tuple #[.int .i64 y, .bool b]) ∧ w = w' := by
  have q := I.get_calls h id gen
  rw [hf] at q
  exact q
set_option maxHeartbeats 8000000 in
set_option maxRecDepth 100000 in
theorem play (a0 : Int) (A1 : Option Addr) (c1 : Nat) (l1 : List S30) (id gen : Int) (w : World) (hr : Kd.C k30 w A1 l1.length l1) (hm : l1.length ≤ maxLen) :
    Calls Try.prog 11 #[.int .i64 a0, .slice A1 l1.length c1, .int .i64 id, .int .i64 gen] w fun e w' => e = .returned (.bool true) ∧ Below w.heap.size w w' := by
  have HR := Aside0.mk hr
  have HM := Aside0.mk hm
  clear hr hm
  by_cases c0 : a0 < 1 ∨ 1024 < a0
  · have HN := Aside0.mk c0
    by_cases c2 : a0 < 1
    · have d1 : decide (a0 < 1) = true := decide_eq_true c2
      clear c0 c2
      go_enter Try.func11, Try.ntmps11
      go_wp2_with (first
        | (go_at_call 15; (with_reducible refine (I.new_bad a0 HN.out _).mono ?_); rintro e w1 ⟨rfl, rfl⟩)
        | (go_at_call 16; (with_reducible refine (awake _).mono ?_); rintro e w1 ⟨rfl, hb⟩; have HB := Aside0.mk hb; clear hb))
      go_ret
      exact ⟨rfl, HB.out⟩
    · have d1 : decide (a0 < 1) = false := decide_eq_false c2
      have d2 : decide (1024 < a0) = true := decide_eq_true (by omega)
      clear c0 c2
      go_enter Try.func11, Try.ntmps11
      go_wp2_with (first
        | (go_at_call 15; (with_reducible refine (I.new_bad a0 HN.out _).mono ?_); rintro e w1 ⟨rfl, rfl⟩)
        | (go_at_call 16; (with_reducible refine (awake _).mono ?_); rintro e w1 ⟨rfl, hb⟩; have HB := Aside0.mk hb; clear hb))
      go_ret
      exact ⟨rfl, HB.out⟩
  obtain ⟨m, rfl⟩ : ∃ m : Nat, a0 = (m : Int) := ⟨a0.toNat, by omega⟩
  have H1 := Aside0.mk (show 1 ≤ m by omega)
  have H2 := Aside0.mk (show m ≤ 1024 by omega)
  have d1 : decide ((m : Int) < 1) = false := decide_eq_false (by omega)
  have d2 : decide (1024 < (m : Int)) = false := decide_eq_false (by omega)
  have HNW := Aside0.mk (show dogwatchref07_New.f (m : Int) = some (List.replicate m z82, 0) by unfold dogwatchref07_New.f; rw [if_pos (by omega), if_pos (by omega), Int.toNat_natCast])
  have hu := Try.underlying71
  have hu2 := Try.underlying30
  have hu3 := Try.underlying82
  clear c0
  go_enter Try.func11, Try.ntmps11
  go_wp2_with (first
    | (go_at_call 15; (with_reducible refine (I.new_ok m H1.out H2.out _).mono ?_); rintro e w1 ⟨g, rfl, hr1, hb1⟩; have HR1 := Aside0.mk hr1; have HB1 := Aside0.mk hb1; clear hr1 hb1)
    | (go_at_call 37; (with_reducible refine (dogwatchref07_New.calls (m : Int) _ _ _ HNW.out).mono ?_); rintro e w2 ⟨v2, rfl, hr2, hb2⟩; obtain ⟨A2, c2, rfl⟩ := Kd.R_slice hr2; have HR2 := Aside0.mk hr2; have HB2 := Aside0.mk hb2; clear hr2 hb2))
  have HP1 := Aside0.mk (PInv.new m H1.out H2.out)
  have HX1 : Aside0 (PlayR w (w2.alloc (.cells #[.slice A2 m c2, .int .i64 0] 71)) g w2.heap.size (I.newT m) (.slice A2 m c2) (List.replicate m z82) 0) := ⟨by
    have hb := below_step HB1.out HB2.out
    have hr2 := HR2.out
    rw [List.length_replicate] at hr2
    have sz2 : w1.heap.size ≤ w2.heap.size := HB2.out.size
    refine ⟨fun k => w.heap.size ≤ k ∧ k < w1.heap.size, fun k => w1.heap.size ≤ k ∧ k < w2.heap.size, ⟨?_, ?_, ?_, ?_, ?_, below_alloc hb _, ?_, Kept.refl _ _, fun k hk => .inl hk, fun k hk => .inl hk, Nat.le_refl _⟩, ?_, ?_, hb.size, heap_alloc_new _ _⟩
    · exact ((I.Rep.bound HR1.out).below HB2.out).below (below_alloc (Below.refl _ _) _)
    · exact Kd.R_alloc (Kd.R_lower (Kd.R_mono (Kd.R_bound hr2) (fun k q => ⟨q.2.1, q.2.2.1⟩)) HB1.out.size) _
    · rintro k ⟨h1, h2⟩
      refine ⟨h1, ?_⟩
      simp
      omega
    · rintro k ⟨h1, h2⟩ ⟨h3, h4⟩
      omega
    · rintro k ⟨h1, h2⟩
      refine ⟨Nat.le_trans HB1.out.size h1, ?_⟩
      simp
      omega
    · show w.heap.size ≤ _
      have := hb.size
      simp
      omega
    · rintro ⟨h1, h2⟩
      omega
    · rintro ⟨h1, h2⟩
      omega⟩
  clear HR1 HB1 HR2 HB2 HNW
  obtain ⟨q, hq⟩ : ∃ q, q = w2.heap.size := ⟨_, rfl⟩
  rw [← hq] at HX1
  simp only [← hq]
  clear hq
  go_loopg [12] 61 (fun kq u12 w' => ∃ (i : Nat) (s : Tb Int) (v : Value) (l : List S82) (c : Int), u12 = .int .i64 (i : Int) ∧ Aside0 (i + kq = 61) ∧ Aside0 (i ≤ 60) ∧ Aside0 (PInv m i s l c) ∧ Aside0 (PlayR w w' g q s v l c))
  case atStart => exact ⟨0, I.newT m, _, _, 0, rfl, ⟨by omega⟩, ⟨by omega⟩, HP1, HX1⟩
  case round =>
    clear HP1 HX1
    obtain ⟨i, s, v, l, c, rfl, HK, HI, HV, HX⟩ := hrel
    cases gk with
    | zero => exact absurd HK.out (by have := HI.out; omega)
    | succ k1 =>
      by_cases cc : i < l1.length ∧ i < 60
      · obtain ⟨ca, cb⟩ := cc
        have d3 : decide ((i : Int) < (l1.length : Int)) = true := decide_eq_true (by omega)
        have d4 : decide (i < l1.length) = true := decide_eq_true ca
        have d5 : decide ((i : Int) < 60) = true := decide_eq_true (by omega)
        have d6 : decide (i < 60) = true := decide_eq_true cb
        have p0 := eq_true (show (0 : Int) ≤ (i : Int) by omega)
        have p1 := eq_true (show (i : Int) < (l1.length : Int) by omega)
        have HIL := Aside0.mk cb
        obtain ⟨x, hx⟩ : ∃ x, l1[i]? = some x := ⟨_, List.getElem?_eq_getElem ca⟩
        obtain ⟨F, P, ht, hqf, hqp, hqb, hqh⟩ := HX.out
        obtain ⟨ad, rfl, q0, q1, q2, q3⟩ := at30 (Kd.C_below HR.out ht.bl) i x hx
        have z := at30 HR.out i x hx
        obtain ⟨ad', e', z0, _⟩ := z
        cases e'
        have NX := Aside0.mk (show ¬ F (ad.add (i * 4)).block from fun hf => by have h1 := (ht.f0 _ hf).1; have h2 := World.block_lt_of_cell? w _ z0; have h3 : w.heap.size ≤ (ad.add (i * 4)).block := h1; omega)
        have NQ := Aside0.mk hqf
        have NP := Aside0.mk hqp
        have QB := Aside0.mk hqb
        have QH := Aside0.mk hqh
        have X0 := Aside0.mk (And.intro q0 (And.intro q1 (And.intro q2 q3)))
        obtain ⟨A8, cp8, rfl⟩ := Kd.R_slice ht.r
        have Z0 := Aside0.mk ((blk_cell hqh 0).trans rfl)
        have Z1 := Aside0.mk ((blk_cell hqh 1).trans rfl)
        have HT := Aside0.mk ht
        have hib : i ≤ 100 := by omega
        have HST := Aside0.mk (show ∀ W : World, Two ⟨w.heap.size, w, W, F, P⟩ W F P g s (.slice A8 l.length cp8) l → Calls Try.prog 38 #[.pointer (some ⟨g, 0, none⟩), .agg #[.slice A8 l.length cp8, .int .i64 c], .agg #[.int .i64 x.f0, .int .i64 x.f1, .int .i64 x.f2, .int .i64 x.f3]] W (StepPost ⟨w.heap.size, w, W, F, P⟩ m i g) from fun W hW => step_calls x HV.out hib hW)
        clear ca cb hx ht hqf hqp hqb hqh q0 q1 q2 q3 z0 HX hib
        generalize l.length = L at *
        go_upto_region 10 with (fail)
        go_cut [13, 14] (fun v13 v14 wc => ∃ (b : Nat) (s5 : Tb Int) (v5 : Value) (l5 : List S82) (c5 : Int), v13 = .pointer (some ⟨b, 0, none⟩) ∧ v14 = .bool true ∧ Aside0 (PInv m (i + 1) s5 l5 c5) ∧ Aside0 (MidR w wc g q b s5 v5 l5 c5))
        case first =>
          refine wp_region_held_drew (S := fun w' : World => Kept wr w' F) (by kernel_rfl) ((Kept.refl wr F).drew) (fun hHeld => ?_)
          refine wpAnyH_take (i := 0) (v := ?vR0) (oi := { dst := some 60, op := Op.move (Operand.tmp 9), type := 23, pos := "law.go:72", after := #[], guard := none }) rfl (by kernel_rfl) (by kernel_rfl) (by kernel_rfl) (fun _ _ _ h => h) (Or.inl ⟨by rfl, ?hyR0⟩) hHeld ?restR0
          case hyR0 => (intro w_ hSw; clear hSw; go_simp; try with_reducible rfl)
          (try simp only [Act.put, List.setIfInBounds_toArray, List.set_cons_zero, List.set_cons_succ])
          refine wpAnyH_take (i := 1) (v := ?vR1) (oi := { dst := some 61, op := Op.load 71 (Operand.tmp 11), type := 71, pos := "law.go:72", after := #[], guard := none }) rfl (by kernel_rfl) (by kernel_rfl) (by kernel_rfl) (fun _ _ _ h => h) (Or.inl ⟨by rfl, ?hyR1⟩) hHeld ?restR1
          case hyR1 => (intro w_ hSw; have d0 := cell_kept Z0.out hSw NQ.out; have d1 := cell_kept Z1.out hSw NQ.out; clear hSw; go_simp; try with_reducible rfl)
          (try simp only [Act.put, List.setIfInBounds_toArray, List.set_cons_zero, List.set_cons_succ])
          refine wpAnyH_take (i := 2) (v := ?vR2) (oi := { dst := some 62, op := Op.move (Operand.tmp 1), type := 22, pos := "law.go:72", after := #[], guard := none }) rfl (by kernel_rfl) (by kernel_rfl) (by kernel_rfl) (fun _ _ _ h => h) (Or.inl ⟨by rfl, ?hyR2⟩) hHeld ?restR2
          case hyR2 => (intro w_ hSw; clear hSw; go_simp; try with_reducible rfl)
          (try simp only [Act.put, List.setIfInBounds_toArray, List.set_cons_zero, List.set_cons_succ])
          refine wpAnyH_take (i := 3) (v := ?vR3) (oi := { dst := some 63, op := Op.move (Operand.tmp 12), type := 3, pos := "law.go:72", after := #[], guard := none }) rfl (by kernel_rfl) (by kernel_rfl) (by kernel_rfl) (fun _ _ _ h => h) (Or.inl ⟨by rfl, ?hyR3⟩) hHeld ?restR3
          case hyR3 => (intro w_ hSw; clear hSw; go_simp; try with_reducible rfl)
          (try simp only [Act.put, List.setIfInBounds_toArray, List.set_cons_zero, List.set_cons_succ])
          refine wpAnyH_take (i := 4) (v := ?vR4) (oi := { dst := some 64, op := Op.indexAddr 22 (Operand.tmp 62) (Operand.tmp 63), type := 0, pos := "law.go:72", after := #[{ on := 2, ground := Ground.data }, { on := 3, ground := Ground.data }], guard := none }) rfl (by kernel_rfl) (by kernel_rfl) (by kernel_rfl) (fun _ _ _ h => h) (Or.inl ⟨by rfl, ?hyR4⟩) hHeld ?restR4
          case hyR4 => (intro w_ hSw; clear hSw; go_simp; try with_reducible rfl)
          (try simp only [Act.put, List.setIfInBounds_toArray, List.set_cons_zero, List.set_cons_succ])
          refine wpAnyH_take (i := 5) (v := ?vR5) (oi := { dst := some 65, op := Op.load 30 (Operand.tmp 64), type := 30, pos := "law.go:72", after := #[{ on := 4, ground := Ground.data }], guard := none }) rfl (by kernel_rfl) (by kernel_rfl) (by kernel_rfl) (fun _ _ _ h => h) (Or.inl ⟨by rfl, ?hyR5⟩) hHeld ?restR5
          case hyR5 => (intro w_ hSw; have d0 := cell_kept X0.out.1 hSw NX.out; have d1 := cell_kept X0.out.2.1 hSw NX.out; have d2 := cell_kept X0.out.2.2.1 hSw NX.out; have d3 := cell_kept X0.out.2.2.2 hSw NX.out; clear hSw; go_simp; try with_reducible rfl)
          (try simp only [Act.put, List.setIfInBounds_toArray, List.set_cons_zero, List.set_cons_succ])
          refine wpAnyH_ready (rs := [6, 10]) (by kernel_rfl) (by simp) ?_
          refine AllReadyH.cons (o := { dst := some 66, op := Op.call { callee := Callee.value (Operand.func 38), args := #[Operand.tmp 60, Operand.tmp 61, Operand.tmp 65], argTypes := #[23, 71, 30] }, type := 73, pos := "law.go:72", after := #[{ on := 0, ground := Ground.data }, { on := 1, ground := Ground.data }, { on := 5, ground := Ground.data }], guard := none }) rfl (fun K hK => ?_) (AllReadyH.cons (o := { dst := some 13, op := Op.alloc 71, type := 0, pos := "law.go:72", after := #[], guard := none }) rfl (fun K hK => ?_) AllReadyH.nil)
          · skip
            go_simp
            with_reducible refine (HST.out _ (HT.out.below (below_drew1 (Below.refl _ _))).again).mono ?_
            rintro e w5 ⟨v5, s5, l5, c5, rfl, hp5, hx5⟩
            obtain ⟨F5, P5, ht5⟩ := hx5
            obtain ⟨A5, cp5, rfl⟩ := Kd.R_slice ht5.r
            have HP5 := Aside0.mk hp5
            have HT5 := Aside0.mk ht5
            clear hp5 ht5
            refine hK.out _ _ ?_ (fun hHeld => ?_)
            · exact ((Kept.refl wr F).drew).then_ HT5.out.kp (fun k h => .inl h)
            clear hK K
            (try simp only [Act.put, List.setIfInBounds_toArray, List.set_cons_zero, List.set_cons_succ])
            refine wpAnyH_take (i := 7) (v := ?vA7) (oi := { dst := some 59, op := Op.move (Operand.tmp 66), type := 73, pos := "law.go:72", after := #[{ on := 6, ground := Ground.data }], guard := none }) rfl (by kernel_rfl) (by kernel_rfl) (by kernel_rfl) (fun _ _ _ h => h) (Or.inl ⟨by rfl, ?hyA7⟩) hHeld ?restA7
            case hyA7 => (intro w_ hSw; clear hSw; go_simp; try with_reducible rfl)
            (try simp only [Act.put, List.setIfInBounds_toArray, List.set_cons_zero, List.set_cons_succ])
            refine wpAnyH_take (i := 8) (v := ?vA8) (oi := { dst := some 67, op := Op.extract (Operand.tmp 59) 0, type := 71, pos := "law.go:72", after := #[{ on := 7, ground := Ground.data }], guard := none }) rfl (by kernel_rfl) (by kernel_rfl) (by kernel_rfl) (fun _ _ _ h => h) (Or.inl ⟨by rfl, ?hyA8⟩) hHeld ?restA8
            case hyA8 => (intro w_ hSw; clear hSw; go_simp; try with_reducible rfl)
            (try simp only [Act.put, List.setIfInBounds_toArray, List.set_cons_zero, List.set_cons_succ])
            refine wpAnyH_take (i := 9) (v := ?vA9) (oi := { dst := some 68, op := Op.extract (Operand.tmp 59) 1, type := 4, pos := "law.go:72", after := #[{ on := 7, ground := Ground.data }, { on := 11, ground := Ground.gcOnly Departure.lateStores }], guard := none }) rfl (by kernel_rfl) (by kernel_rfl) (by kernel_rfl) (fun _ _ _ h => h) (Or.inl ⟨by rfl, ?hyA9⟩) hHeld ?restA9
            case hyA9 => (intro w_ hSw; clear hSw; go_simp; try with_reducible rfl)
            (try simp only [Act.put, List.setIfInBounds_toArray, List.set_cons_zero, List.set_cons_succ])
            refine wpAnyH_ready (rs := [10]) (by kernel_rfl) (by simp) ?_
            refine AllReadyH.cons (o := { dst := some 13, op := Op.alloc 71, type := 0, pos := "law.go:72", after := #[], guard := none }) rfl (fun K hK => ?_) AllReadyH.nil
            go_simp
            refine hK.out _ _ ?_ (fun hHeld => ?_)
            · exact Kept.alloc hHeld _
            clear hK K
            (try simp only [Act.put, List.setIfInBounds_toArray, List.set_cons_zero, List.set_cons_succ])
            refine wpAnyH_ready (rs := [11]) (by kernel_rfl) (by simp) ?_
            refine AllReadyH.cons (o := { dst := none, op := Op.store 71 (Operand.tmp 13) (Operand.tmp 67), type := 0, pos := "law.go:72", after := #[{ on := 10, ground := Ground.data }, { on := 8, ground := Ground.data }, { on := 6, ground := Ground.chain }, { on := 0, ground := Ground.phase }, { on := 1, ground := Ground.phase }, { on := 2, ground := Ground.phase }, { on := 3, ground := Ground.phase }, { on := 4, ground := Ground.phase }, { on := 5, ground := Ground.phase }, { on := 6, ground := Ground.phase }, { on := 7, ground := Ground.phase }, { on := 8, ground := Ground.phase }, { on := 9, ground := Ground.textOnly Departure.lateStores }, { on := 10, ground := Ground.phase }], guard := none }) rfl (fun K hK => ?_) AllReadyH.nil
            go_simp
            refine hK.out _ _ ?_ (fun hHeld => ?_)
            · exact Kept.alloc (((Kept.refl wr F).drew).then_ HT5.out.kp (fun k h => .inl h)) _
            clear hK K
            (try simp only [Act.put, List.setIfInBounds_toArray, List.set_cons_zero, List.set_cons_succ])
            refine wpAnyH_take (i := 12) (v := ?vA12) (oi := { dst := some 14, op := Op.assign (Operand.tmp 68), type := 4, pos := "law.go:72", after := #[{ on := 9, ground := Ground.data }, { on := 11, ground := Ground.chain }, { on := 0, ground := Ground.phase }, { on := 1, ground := Ground.phase }, { on := 2, ground := Ground.phase }, { on := 3, ground := Ground.phase }, { on := 4, ground := Ground.phase }, { on := 5, ground := Ground.phase }, { on := 6, ground := Ground.phase }, { on := 7, ground := Ground.phase }, { on := 8, ground := Ground.phase }, { on := 9, ground := Ground.phase }, { on := 10, ground := Ground.phase }, { on := 11, ground := Ground.phase }], guard := none }) rfl (by kernel_rfl) (by kernel_rfl) (by kernel_rfl) (fun _ _ _ h => h) (Or.inl ⟨by rfl, ?hyA12⟩) hHeld ?restA12
            case hyA12 => (intro w_ hSw; clear hSw; go_simp; try with_reducible rfl)
            (try simp only [Act.put, List.setIfInBounds_toArray, List.set_cons_zero, List.set_cons_succ])
            refine wpAnyH_done (by kernel_rfl) ?_ _
            go_wp2
            go_meet
            case rel =>
              have hq5 := HT5.out.old (k := q) (by have := blk_lt QH.out; show q < wr.heap.size; exact this) NQ.out NP.out
              have hqw : q < w5.heap.size := Nat.lt_of_lt_of_le (blk_lt QH.out) HT5.out.kp.1
              exact ⟨_, s5, _, l5, c5, rfl, rfl, HP5, ⟨F5, P5, (HT5.out.below (below_alloc (Below.refl _ _) _)).again, hq5.1, hq5.2, QB.out, ⟨_, _, (Below.heap_alloc _ _ _ hqw).trans (blk_kept QH.out (((Kept.refl wr F).drew).then_ HT5.out.kp (fun k h => .inl h)) NQ.out)⟩, heap_alloc_new _ _, by omega⟩⟩
          · skip
            go_simp
            refine hK.out _ _ ?_ (fun hHeld => ?_)
            · exact Kept.alloc hHeld _
            clear hK K
            (try simp only [Act.put, List.setIfInBounds_toArray, List.set_cons_zero, List.set_cons_succ])
            refine wpAnyH_ready (rs := [6]) (by kernel_rfl) (by simp) ?_
            refine AllReadyH.cons (o := { dst := some 66, op := Op.call { callee := Callee.value (Operand.func 38), args := #[Operand.tmp 60, Operand.tmp 61, Operand.tmp 65], argTypes := #[23, 71, 30] }, type := 73, pos := "law.go:72", after := #[{ on := 0, ground := Ground.data }, { on := 1, ground := Ground.data }, { on := 5, ground := Ground.data }], guard := none }) rfl (fun K hK => ?_) AllReadyH.nil
            go_simp
            with_reducible refine (HST.out _ (HT.out.below (below_drew1 (below_alloc (Below.refl _ wr) _))).again).mono ?_
            rintro e w5 ⟨v5, s5, l5, c5, rfl, hp5, hx5⟩
            obtain ⟨F5, P5, ht5⟩ := hx5
            obtain ⟨A5, cp5, rfl⟩ := Kd.R_slice ht5.r
            have HP5 := Aside0.mk hp5
            have HT5 := Aside0.mk ht5
            clear hp5 ht5
            refine hK.out _ _ ?_ (fun hHeld => ?_)
            · exact ((Kept.alloc (Kept.refl wr F) _).drew).then_ HT5.out.kp (fun k h => .inl h)
            clear hK K
            (try simp only [Act.put, List.setIfInBounds_toArray, List.set_cons_zero, List.set_cons_succ])
            have HZ := Aside0.mk (show w5.heap[wr.heap.size]? = some (.cells #[.slice none 0 0, .int .i64 0] 71 (0, 0)) from blk_kept (W := (wr.alloc (.cells #[.slice none 0 0, .int .i64 0] 71)).drew) (heap_alloc_new wr _) HT5.out.kp (fun hf => by have := (HT.out.f0 _ hf).2; omega))
            have y0 := (blk_cell HZ.out 0).trans rfl
            have y1 := (blk_cell HZ.out 1).trans rfl
            have y2 := blk_frozen HZ.out 0
            have y3 := blk_frozen HZ.out 1
            refine wpAnyH_take (i := 7) (v := ?vB7) (oi := { dst := some 59, op := Op.move (Operand.tmp 66), type := 73, pos := "law.go:72", after := #[{ on := 6, ground := Ground.data }], guard := none }) rfl (by kernel_rfl) (by kernel_rfl) (by kernel_rfl) (fun _ _ _ h => h) (Or.inl ⟨by rfl, ?hyB7⟩) hHeld ?restB7
            case hyB7 => (intro w_ hSw; clear hSw; go_simp; try with_reducible rfl)
            (try simp only [Act.put, List.setIfInBounds_toArray, List.set_cons_zero, List.set_cons_succ])
            refine wpAnyH_take (i := 8) (v := ?vB8) (oi := { dst := some 67, op := Op.extract (Operand.tmp 59) 0, type := 71, pos := "law.go:72", after := #[{ on := 7, ground := Ground.data }], guard := none }) rfl (by kernel_rfl) (by kernel_rfl) (by kernel_rfl) (fun _ _ _ h => h) (Or.inl ⟨by rfl, ?hyB8⟩) hHeld ?restB8
            case hyB8 => (intro w_ hSw; clear hSw; go_simp; try with_reducible rfl)
            (try simp only [Act.put, List.setIfInBounds_toArray, List.set_cons_zero, List.set_cons_succ])
            refine wpAnyH_take (i := 9) (v := ?vB9) (oi := { dst := some 68, op := Op.extract (Operand.tmp 59) 1, type := 4, pos := "law.go:72", after := #[{ on := 7, ground := Ground.data }, { on := 11, ground := Ground.gcOnly Departure.lateStores }], guard := none }) rfl (by kernel_rfl) (by kernel_rfl) (by kernel_rfl) (fun _ _ _ h => h) (Or.inl ⟨by rfl, ?hyB9⟩) hHeld ?restB9
            case hyB9 => (intro w_ hSw; clear hSw; go_simp; try with_reducible rfl)
            (try simp only [Act.put, List.setIfInBounds_toArray, List.set_cons_zero, List.set_cons_succ])
            refine wpAnyH_ready (rs := [11]) (by kernel_rfl) (by simp) ?_
            refine AllReadyH.cons (o := { dst := none, op := Op.store 71 (Operand.tmp 13) (Operand.tmp 67), type := 0, pos := "law.go:72", after := #[{ on := 10, ground := Ground.data }, { on := 8, ground := Ground.data }, { on := 6, ground := Ground.chain }, { on := 0, ground := Ground.phase }, { on := 1, ground := Ground.phase }, { on := 2, ground := Ground.phase }, { on := 3, ground := Ground.phase }, { on := 4, ground := Ground.phase }, { on := 5, ground := Ground.phase }, { on := 6, ground := Ground.phase }, { on := 7, ground := Ground.phase }, { on := 8, ground := Ground.phase }, { on := 9, ground := Ground.textOnly Departure.lateStores }, { on := 10, ground := Ground.phase }], guard := none }) rfl (fun K hK => ?_) AllReadyH.nil
            go_simp
            refine hK.out _ _ ?_ (fun hHeld => ?_)
            · exact ((((Kept.alloc (Kept.refl wr F) _).drew).then_ HT5.out.kp (fun k h => .inl h)).setCell (p := ⟨wr.heap.size, 0, none⟩) (.inr (Nat.le_refl _)) _).setCell (p := ⟨wr.heap.size, 1, none⟩) (.inr (Nat.le_refl _)) _
            clear hK K
            (try simp only [Act.put, List.setIfInBounds_toArray, List.set_cons_zero, List.set_cons_succ])
            refine wpAnyH_take (i := 12) (v := ?vB12) (oi := { dst := some 14, op := Op.assign (Operand.tmp 68), type := 4, pos := "law.go:72", after := #[{ on := 9, ground := Ground.data }, { on := 11, ground := Ground.chain }, { on := 0, ground := Ground.phase }, { on := 1, ground := Ground.phase }, { on := 2, ground := Ground.phase }, { on := 3, ground := Ground.phase }, { on := 4, ground := Ground.phase }, { on := 5, ground := Ground.phase }, { on := 6, ground := Ground.phase }, { on := 7, ground := Ground.phase }, { on := 8, ground := Ground.phase }, { on := 9, ground := Ground.phase }, { on := 10, ground := Ground.phase }, { on := 11, ground := Ground.phase }], guard := none }) rfl (by kernel_rfl) (by kernel_rfl) (by kernel_rfl) (fun _ _ _ h => h) (Or.inl ⟨by rfl, ?hyB12⟩) hHeld ?restB12
            case hyB12 => (intro w_ hSw; clear hSw; go_simp; try with_reducible rfl)
            (try simp only [Act.put, List.setIfInBounds_toArray, List.set_cons_zero, List.set_cons_succ])
            refine wpAnyH_done (by kernel_rfl) ?_ _
            go_wp2
            go_meet
            case rel =>
              have hql := blk_lt QH.out
              have hq5 := HT5.out.old (k := q) (by simp; omega) NQ.out NP.out
              have hz5 := HT5.out.old (k := wr.heap.size) (by simp) (fun hf => by have := (HT.out.f0 _ hf).2; omega) (fun hf => by have := (HT.out.p1 _ hf).2; omega)
              have hB : w.heap.size ≤ wr.heap.size := HT.out.sz
              refine ⟨_, s5, _, l5, c5, rfl, rfl, HP5, ⟨F5, P5, (HT5.out.setA (p := ⟨wr.heap.size, 0, none⟩) hB hz5.1 hz5.2 _).setA (p := ⟨wr.heap.size, 1, none⟩) hB hz5.1 hz5.2 _, hq5.1, hq5.2, QB.out, ⟨.slice A8 L cp8, .int .i64 c, ?_⟩, blk_set (blk_set HZ.out 0 (.slice A5 l5.length cp5)) 1 (.int .i64 c5), by omega⟩⟩
              exact blk_far (blk_far (blk_kept QH.out (((Kept.alloc (Kept.refl wr F) _).drew).then_ HT5.out.kp (fun k h => .inl h)) NQ.out) (p := ⟨wr.heap.size, 0, none⟩) (by show q ≠ wr.heap.size; omega) _) (p := ⟨wr.heap.size, 1, none⟩) (by show q ≠ wr.heap.size; omega) _

        case rest =>
          obtain ⟨b, s5, v5, l5, c5, rfl, rfl, HP5, HX5⟩ := hcut
          obtain ⟨F5, P5, ht5, nf5, np5, qb5, ⟨a, a', hq5⟩, hb5, hne⟩ := HX5.out
          obtain ⟨A5, cp5, rfl⟩ := Kd.R_slice ht5.r
          have b0 := (blk_cell hb5 0).trans rfl
          have b1 := (blk_cell hb5 1).trans rfl
          have r0 := (blk_cell hq5 0).trans rfl
          have r1 := (blk_cell hq5 1).trans rfl
          have f0 := blk_frozen hq5 0
          have f1 := blk_frozen hq5 1
          have HT5 := Aside0.mk ht5
          have NF5 := Aside0.mk nf5
          have NP5 := Aside0.mk np5
          have HQ5 := Aside0.mk hq5
          clear ht5 nf5 np5 qb5 hq5 hb5 HX5 HST HT X0 Z0 Z1
          go_wp2
          have HTD : Aside0 (Two ⟨w.heap.size, w, (wc.setCell ⟨q, 0, none⟩ (.slice A5 l5.length cp5)).setCell ⟨q, 1, none⟩ (.int .i64 c5), F5, P5⟩ ((wc.setCell ⟨q, 0, none⟩ (.slice A5 l5.length cp5)).setCell ⟨q, 1, none⟩ (.int .i64 c5)) F5 P5 g s5 (.slice A5 l5.length cp5) l5) := ⟨(HT5.out.setA (p := ⟨q, 0, none⟩) QB.out NF5.out NP5.out _).setA (p := ⟨q, 1, none⟩) QB.out NF5.out NP5.out _⟩
          have HQD : Aside0 (((wc.setCell ⟨q, 0, none⟩ (.slice A5 l5.length cp5)).setCell ⟨q, 1, none⟩ (.int .i64 c5)).heap[q]? = some (.cells #[.slice A5 l5.length cp5, .int .i64 c5] 71 (0, 0))) := ⟨blk_set (blk_set HQ5.out 0 (.slice A5 l5.length cp5)) 1 (.int .i64 c5)⟩
          generalize (wc.setCell ⟨q, 0, none⟩ (.slice A5 l5.length cp5)).setCell ⟨q, 1, none⟩ (.int .i64 c5) = wd at *
          clear r0 r1 b0 b1 f0 f1
          have HID := Aside0.mk HP5.out.ids
          have HSM := Aside0.mk (same_ids s5.l (by rw [HP5.out.t.len]; exact HP5.out.t.n2))
          have HMN := Aside0.mk HP5.out.many
          have HRD := Aside0.mk (Kd.R_reads' HTD.out.r)
          have ZQ0 := Aside0.mk ((blk_cell HQD.out 0).trans rfl)
          have ZQ1 := Aside0.mk ((blk_cell HQD.out 1).trans rfl)
          have ZQL := Aside0.mk (blk_lt HQD.out)
          refine wp_region_held_drew (S := fun w' : World => Below wd.heap.size wd w') (by kernel_rfl) (below_drew1 (Below.refl _ wd)) (fun hHeld => ?_)
          refine wpAnyH_take (i := 0) (v := ?vT0) (oi := { dst := some 70, op := Op.move (Operand.tmp 14), type := 4, pos := "law.go:74", after := #[], guard := none }) rfl (by kernel_rfl) (by kernel_rfl) (by kernel_rfl) (fun _ _ _ h => h) (Or.inl ⟨by rfl, ?hyT0⟩) hHeld ?restT0
          case hyT0 => (intro w_ hSw; clear hSw; go_simp; try with_reducible rfl)
          (try simp only [Act.put, List.setIfInBounds_toArray, List.set_cons_zero, List.set_cons_succ])
          refine wpAnyH_take (i := 1) (v := ?vT1) (oi := { dst := some 71, op := Op.unOp UnOp.not 4 (Operand.tmp 70), type := 4, pos := "law.go:74", after := #[{ on := 0, ground := Ground.data }], guard := none }) rfl (by kernel_rfl) (by kernel_rfl) (by kernel_rfl) (fun _ _ _ h => h) (Or.inl ⟨by rfl, ?hyT1⟩) hHeld ?restT1
          case hyT1 => (intro w_ hSw; clear hSw; go_simp; try with_reducible rfl)
          (try simp only [Act.put, List.setIfInBounds_toArray, List.set_cons_zero, List.set_cons_succ])
          refine wpAnyH_take (i := 2) (v := ?vT2) (oi := { dst := some 72, op := Op.move (Operand.tmp 71), type := 4, pos := "law.go:74", after := #[{ on := 1, ground := Ground.data }], guard := none }) rfl (by kernel_rfl) (by kernel_rfl) (by kernel_rfl) (fun _ _ _ h => h) (Or.inl ⟨by rfl, ?hyT2⟩) hHeld ?restT2
          case hyT2 => (intro w_ hSw; clear hSw; go_simp; try with_reducible rfl)
          (try simp only [Act.put, List.setIfInBounds_toArray, List.set_cons_zero, List.set_cons_succ])
          refine wpAnyH_take (i := 3) (v := ?vT3) (oi := { dst := some 73, op := Op.move (Operand.tmp 9), type := 23, pos := "law.go:74", after := #[{ on := 2, ground := Ground.guard }], guard := some (2, false) }) rfl (by kernel_rfl) (by kernel_rfl) (by kernel_rfl) (fun _ _ _ h => h) (Or.inl ⟨by rfl, ?hyT3⟩) hHeld ?restT3
          case hyT3 => (intro w_ hSw; clear hSw; go_simp; try with_reducible rfl)
          (try simp only [Act.put, List.setIfInBounds_toArray, List.set_cons_zero, List.set_cons_succ])
          refine wpAnyH_take (i := 5) (v := ?vT5) (oi := { dst := some 75, op := Op.load 71 (Operand.tmp 11), type := 71, pos := "law.go:74", after := #[{ on := 2, ground := Ground.guard }], guard := some (2, false) }) rfl (by kernel_rfl) (by kernel_rfl) (by kernel_rfl) (fun _ _ _ h => h) (Or.inl ⟨by rfl, ?hyT5⟩) hHeld ?restT5
          case hyT5 => (intro w_ hSw; have d0 := (Below.cell hSw (p := ⟨q, 0, none⟩) ZQL.out).trans ZQ0.out; have d1 := (Below.cell hSw (p := ⟨q, 1, none⟩) ZQL.out).trans ZQ1.out; clear hSw; go_simp; try with_reducible rfl)
          (try simp only [Act.put, List.setIfInBounds_toArray, List.set_cons_zero, List.set_cons_succ])
          refine wpAnyH_ready (rs := [4]) (by kernel_rfl) (by simp) ?_
          refine AllReadyH.cons (o := { dst := some 74, op := Op.call { callee := Callee.value (Operand.func 40), args := #[Operand.tmp 73], argTypes := #[23] }, type := 28, pos := "law.go:74", after := #[{ on := 3, ground := Ground.data }, { on := 2, ground := Ground.chain }, { on := 2, ground := Ground.guard }], guard := some (2, false) }) rfl (fun K hK => ?_) AllReadyH.nil
          go_simp
          with_reducible refine (I.ids_calls (HTD.out.t.below hHeld)).mono ?_
          rintro e w6 ⟨v6, rfl, hr6, hb6⟩
          obtain ⟨A6, cp6, rfl⟩ := Kd.R_slice hr6
          have HR6 := Aside0.mk (Kd.R_reads' hr6)
          have HB6 := Aside0.mk (below_step hHeld hb6)
          clear hr6 hb6
          refine hK.out _ _ ?_ (fun hHeld => ?_)
          · exact HB6.out
          clear hK K
          (try simp only [Act.put, List.setIfInBounds_toArray, List.set_cons_zero, List.set_cons_succ])
          refine wpAnyH_ready (rs := [6]) (by kernel_rfl) (by simp) ?_
          refine AllReadyH.cons (o := { dst := some 76, op := Op.call { callee := Callee.value (Operand.func 41), args := #[Operand.tmp 75], argTypes := #[71] }, type := 28, pos := "law.go:74", after := #[{ on := 5, ground := Ground.data }, { on := 4, ground := Ground.chain }, { on := 2, ground := Ground.guard }], guard := some (2, false) }) rfl (fun K hK => ?_) AllReadyH.nil
          go_simp
          with_reducible refine (dogwatchref07_IDs.calls 2000 A5 cp5 l5 c5 (I.idsL s5.l) _ (Kd.C_below HRD.out.2.2 hHeld) HRD.out.2.1 HID.out).mono ?_
          rintro e w7 ⟨v7, rfl, hr7, hb7⟩
          obtain ⟨A7, cp7, rfl⟩ := Kd.R_slice hr7
          have HR7 := Aside0.mk (Kd.R_reads' hr7)
          have HB7 := Aside0.mk (below_step hHeld hb7)
          have HBB7 := Aside0.mk hb7
          clear hr7 hb7
          refine hK.out _ _ ?_ (fun hHeld => ?_)
          · exact HB7.out
          clear hK K
          (try simp only [Act.put, List.setIfInBounds_toArray, List.set_cons_zero, List.set_cons_succ])
          refine wpAnyH_ready (rs := [7]) (by kernel_rfl) (by simp) ?_
          refine AllReadyH.cons (o := { dst := some 77, op := Op.call { callee := Callee.value (Operand.func 39), args := #[Operand.tmp 74, Operand.tmp 76], argTypes := #[28, 28] }, type := 4, pos := "law.go:74", after := #[{ on := 4, ground := Ground.data }, { on := 6, ground := Ground.data }, { on := 6, ground := Ground.chain }, { on := 2, ground := Ground.guard }], guard := some (2, false) }) rfl (fun K hK => ?_) AllReadyH.nil
          go_simp
          with_reducible refine (dogwatchref03_Same.calls 2000 A6 cp6 (I.idsL s5.l) A7 cp7 (I.idsL s5.l) true _ (Kd.C_below HR6.out.2.2 HBB7.out) HR6.out.2.1 HR7.out.2.2 HR7.out.2.1 HSM.out).mono ?_
          rintro e w8 ⟨rfl, hd8⟩
          have HB8 := Aside0.mk (below_step HB7.out hd8.below)
          clear hd8
          refine hK.out _ _ ?_ (fun hHeld => ?_)
          · exact HB8.out
          clear hK K
          (try simp only [Act.put, List.setIfInBounds_toArray, List.set_cons_zero, List.set_cons_succ])
          refine wpAnyH_take (i := 8) (v := ?vT8) (oi := { dst := some 78, op := Op.unOp UnOp.not 4 (Operand.tmp 77), type := 4, pos := "law.go:74", after := #[{ on := 7, ground := Ground.data }, { on := 2, ground := Ground.guard }], guard := some (2, false) }) rfl (by kernel_rfl) (by kernel_rfl) (by kernel_rfl) (fun _ _ _ h => h) (Or.inl ⟨by rfl, ?hyT8⟩) hHeld ?restT8
          case hyT8 => (intro w_ hSw; clear hSw; go_simp; try with_reducible rfl)
          (try simp only [Act.put, List.setIfInBounds_toArray, List.set_cons_zero, List.set_cons_succ])
          refine wpAnyH_take (i := 9) (v := ?vT9) (oi := { dst := some 79, op := Op.pick (Operand.tmp 72) (Operand.const (Value.bool true)) (Operand.tmp 78), type := 4, pos := "law.go:74", after := #[{ on := 2, ground := Ground.data }, { on := 8, ground := Ground.data }], guard := none }) rfl (by kernel_rfl) (by kernel_rfl) (by kernel_rfl) (fun _ _ _ h => h) (Or.inl ⟨by rfl, ?hyT9⟩) hHeld ?restT9
          case hyT9 => (intro w_ hSw; clear hSw; go_simp; try with_reducible rfl)
          (try simp only [Act.put, List.setIfInBounds_toArray, List.set_cons_zero, List.set_cons_succ])
          refine wpAnyH_take (i := 10) (v := ?vT10) (oi := { dst := some 80, op := Op.move (Operand.tmp 79), type := 4, pos := "law.go:74", after := #[{ on := 9, ground := Ground.data }, { on := 7, ground := Ground.chain }], guard := none }) rfl (by kernel_rfl) (by kernel_rfl) (by kernel_rfl) (fun _ _ _ h => h) (Or.inl ⟨by rfl, ?hyT10⟩) hHeld ?restT10
          case hyT10 => (intro w_ hSw; clear hSw; go_simp; try with_reducible rfl)
          (try simp only [Act.put, List.setIfInBounds_toArray, List.set_cons_zero, List.set_cons_succ])
          refine wpAnyH_take (i := 11) (v := ?vT11) (oi := { dst := some 81, op := Op.move (Operand.tmp 9), type := 23, pos := "law.go:74", after := #[{ on := 10, ground := Ground.guard }], guard := some (10, false) }) rfl (by kernel_rfl) (by kernel_rfl) (by kernel_rfl) (fun _ _ _ h => h) (Or.inl ⟨by rfl, ?hyT11⟩) hHeld ?restT11
          case hyT11 => (intro w_ hSw; clear hSw; go_simp; try with_reducible rfl)
          (try simp only [Act.put, List.setIfInBounds_toArray, List.set_cons_zero, List.set_cons_succ])
          refine wpAnyH_take (i := 13) (v := ?vT13) (oi := { dst := some 83, op := Op.load 71 (Operand.tmp 11), type := 71, pos := "law.go:74", after := #[{ on := 10, ground := Ground.guard }], guard := some (10, false) }) rfl (by kernel_rfl) (by kernel_rfl) (by kernel_rfl) (fun _ _ _ h => h) (Or.inl ⟨by rfl, ?hyT13⟩) hHeld ?restT13
          case hyT13 => (intro w_ hSw; have d0 := (Below.cell hSw (p := ⟨q, 0, none⟩) ZQL.out).trans ZQ0.out; have d1 := (Below.cell hSw (p := ⟨q, 1, none⟩) ZQL.out).trans ZQ1.out; clear hSw; go_simp; try with_reducible rfl)
          (try simp only [Act.put, List.setIfInBounds_toArray, List.set_cons_zero, List.set_cons_succ])
          refine wpAnyH_ready (rs := [12]) (by kernel_rfl) (by simp) ?_
          refine AllReadyH.cons (o := { dst := some 82, op := Op.call { callee := Callee.value (Operand.func 18), args := #[Operand.tmp 81], argTypes := #[23] }, type := 3, pos := "law.go:74", after := #[{ on := 11, ground := Ground.data }, { on := 10, ground := Ground.chain }, { on := 10, ground := Ground.guard }], guard := some (10, false) }) rfl (fun K hK => ?_) AllReadyH.nil
          go_simp
          with_reducible refine (I.len_calls (HTD.out.t.below hHeld)).mono ?_
          rintro e w8' ⟨rfl, rfl⟩
          refine hK.out _ _ ?_ (fun hHeld => ?_)
          · exact hHeld
          clear hK K
          (try simp only [Act.put, List.setIfInBounds_toArray, List.set_cons_zero, List.set_cons_succ])
          refine wpAnyH_ready (rs := [14]) (by kernel_rfl) (by simp) ?_
          refine AllReadyH.cons (o := { dst := some 84, op := Op.call { callee := Callee.value (Operand.func 41), args := #[Operand.tmp 83], argTypes := #[71] }, type := 28, pos := "law.go:74", after := #[{ on := 13, ground := Ground.data }, { on := 12, ground := Ground.chain }, { on := 10, ground := Ground.guard }], guard := some (10, false) }) rfl (fun K hK => ?_) AllReadyH.nil
          go_simp
          with_reducible refine (dogwatchref07_IDs.calls 2000 A5 cp5 l5 c5 (I.idsL s5.l) _ (Kd.C_below HRD.out.2.2 hHeld) HRD.out.2.1 HID.out).mono ?_
          rintro e w9 ⟨v9, rfl, hr9, hb9⟩
          obtain ⟨A9, cp9, rfl⟩ := Kd.R_slice hr9
          have HR9 := Aside0.mk (Kd.R_reads' hr9)
          have HB9 := Aside0.mk (below_step hHeld hb9)
          have HBB9 := Aside0.mk hb9
          clear hr9 hb9
          refine hK.out _ _ ?_ (fun hHeld => ?_)
          · exact HB9.out
          clear hK K
          (try simp only [Act.put, List.setIfInBounds_toArray, List.set_cons_zero, List.set_cons_succ])
          refine wpAnyH_ready (rs := [15]) (by kernel_rfl) (by simp) ?_
          refine AllReadyH.cons (o := { dst := some 85, op := Op.call { callee := Callee.builtin Builtin.len, args := #[Operand.tmp 84], argTypes := #[28] }, type := 3, pos := "law.go:74", after := #[{ on := 14, ground := Ground.data }, { on := 10, ground := Ground.guard }], guard := some (10, false) }) rfl (fun K hK => ?_) AllReadyH.nil
          go_simp
          refine hK.out _ _ ?_ (fun hHeld => ?_)
          · exact hHeld
          clear hK K
          (try simp only [Act.put, List.setIfInBounds_toArray, List.set_cons_zero, List.set_cons_succ])
          have dm : (s5.many != ((I.idsL s5.l).length : Int)) = false := by rw [HMN.out]; simp
          refine wpAnyH_take (i := 16) (v := ?vT16) (oi := { dst := some 86, op := Op.binOp BinOp.neq 3 (Operand.tmp 82) (Operand.tmp 85) 3, type := 4, pos := "law.go:74", after := #[{ on := 12, ground := Ground.data }, { on := 15, ground := Ground.data }, { on := 10, ground := Ground.guard }], guard := some (10, false) }) rfl (by kernel_rfl) (by kernel_rfl) (by kernel_rfl) (fun _ _ _ h => h) (Or.inl ⟨by rfl, ?hyT16⟩) hHeld ?restT16
          case hyT16 => (intro w_ hSw; clear hSw; go_simp; try with_reducible rfl)
          (try simp only [Act.put, List.setIfInBounds_toArray, List.set_cons_zero, List.set_cons_succ])
          refine wpAnyH_take (i := 17) (v := ?vT17) (oi := { dst := some 87, op := Op.pick (Operand.tmp 80) (Operand.const (Value.bool true)) (Operand.tmp 86), type := 4, pos := "law.go:74", after := #[{ on := 10, ground := Ground.data }, { on := 16, ground := Ground.data }], guard := none }) rfl (by kernel_rfl) (by kernel_rfl) (by kernel_rfl) (fun _ _ _ h => h) (Or.inl ⟨by rfl, ?hyT17⟩) hHeld ?restT17
          case hyT17 => (intro w_ hSw; clear hSw; go_simp; try with_reducible rfl)
          (try simp only [Act.put, List.setIfInBounds_toArray, List.set_cons_zero, List.set_cons_succ])
          refine wpAnyH_done (by kernel_rfl) ?_ _

          have HT9 := Aside0.mk (HTD.out.below HB9.out)
          have h9 := (HB9.out.block q ZQL.out).trans HQD.out
          have k0 := (blk_cell h9 0).trans rfl
          have k1' := (blk_cell h9 1).trans rfl
          have HQ9 := Aside0.mk h9
          have HC9 := Aside0.mk (Kd.R_reads' HT9.out.r)
          clear h9 dm HB6 HR6 HR7 HB7 HBB7 HB8 HR9 HBB9
          cases hlk : I.look s5 id with
          | none =>
            have HFI := Aside0.mk (show I.findF s5 id = (0, 0, false) by unfold I.findF; rw [hlk])
            have HGI := Aside0.mk (show I.getF s5 id gen = (0, false) by unfold I.getF; rw [hlk])
            have HHI := Aside0.mk (show dogwatchref07_Has.f l5 c5 id = some false by rw [HP5.out.has, hlk]; rfl)
            clear hlk
            go_wp2_with (first
              | (go_at_call 42; (with_reducible refine (find_ex HT9.out.t HFI.out).mono ?_); rintro e wx ⟨rfl, n9, rfl⟩)
              | (go_at_call 20; (with_reducible refine (get_ex' (HT9.out.t.drewN n9) HGI.out).mono ?_); rintro e wx ⟨rfl, rfl⟩)
              | (go_at_call 43; (with_reducible refine (dogwatchref07_Has.calls A5 cp5 l5 c5 id false _ (Kd.C_drewN HC9.out.2.2 n9) HC9.out.2.1 HHI.out).mono ?_); rintro e w10 ⟨rfl, hb10⟩; have HB10 := Aside0.mk (below_step (pw_below_drewN (Below.refl _ _) n9) hb10); clear hb10))
            go_roundg k1
            case measure => omega
            case rel => exact ⟨i + 1, s5, _, l5, c5, (by first | rfl | (simp; done) | (congr 1; unfold wrap64; have := HIL.out; omega)), ⟨by have := HK.out; omega⟩, ⟨by have := HIL.out; omega⟩, HP5, ⟨F5, P5, (HT9.out.below HB10.out).again, NF5.out, NP5.out, QB.out, (HB10.out.block q (blk_lt HQ9.out)).trans HQ9.out⟩⟩
          | some p =>
            obtain ⟨y, g0⟩ := p
            obtain ⟨j, hx1, hsj⟩ := I.look_some hlk
            obtain ⟨r, hr', hr0, hr1, hr2, hr3, hr4, hr5, hr6, hr7⟩ := HP5.out.slot j y g0 true hsj
            have hg0 := hr2 (HP5.out.taken_lt j y g0 hsj)
            have hi60 := HIL.out
            have HG := Aside0.mk (show dogwatchref07_Gen.f r.f0 r.f1 r.f2 r.f3 = some g0 by unfold dogwatchref07_Gen.f; rw [hg0]; congr 1; unfold wrap64; omega)
            have HRJ := Aside0.mk hr'
            have hjl : j < l5.length := (List.getElem?_eq_some_iff.mp hr').1
            have hl5 : l5.length ≤ 1024 := by rw [HP5.out.len]; exact HP5.out.t.n2
            have p7 := eq_true (show (0 : Int) ≤ (j : Int) by omega)
            have p8 := eq_true (show (j : Int) < (l5.length : Int) by omega)
            have ewj : wrap64 (id - 1) = (j : Int) := by rw [hx1]; unfold wrap64; omega
            have HFI := Aside0.mk (show I.findF s5 id = (y, g0, true) by unfold I.findF; rw [hlk])
            have HHI := Aside0.mk (show dogwatchref07_Has.f l5 c5 id = some true by rw [HP5.out.has, hlk]; rfl)
            have dy : (y != r.f0) = false := by rw [hr0]; simp
            have dg0 : (g0 != g0) = false := by simp
            clear hr1 hr3 hr4 hr5 hr6 hr7 hi60 hl5
            by_cases hgx : g0 = gen
            · have dg : (gen == g0) = true := by rw [hgx]; simp
              have HGI := Aside0.mk (show I.getF s5 id gen = (y, true) by unfold I.getF; rw [hlk]; dsimp only; rw [if_pos hgx])
              clear hlk hx1 hsj hr' hr0 hr2 hg0 hjl hgx
              have tok1 : True := trivial
              go_wp2_with (first
                | (go_at_call 42; (with_reducible refine (find_ex HT9.out.t HFI.out).mono ?_); rintro e wx ⟨rfl, n9, rfl⟩)
                | (go_at_call 20; (with_reducible refine (get_ex' (HT9.out.t.drewN n9) HGI.out).mono ?_); rintro e wx ⟨rfl, rfl⟩)
                | (go_at_call 43; (with_reducible refine (dogwatchref07_Has.calls A5 cp5 l5 c5 id true _ (Kd.C_drewN HC9.out.2.2 n9) HC9.out.2.1 HHI.out).mono ?_); rintro e w10 ⟨rfl, hb10⟩; have hbx := below_step (pw_below_drewN (Below.refl _ w9) n9) hb10; have h10 := (hbx.block q (blk_lt HQ9.out)).trans HQ9.out; have m0 := (blk_cell h10 0).trans rfl; have m1 := (blk_cell h10 1).trans rfl; obtain ⟨ad5, eA5, e0, e1, e2, e3⟩ := at82 (Kd.C_below HC9.out.2.2 hbx) j _ HRJ.out; cases eA5; have HB10 := Aside0.mk hbx; clear hbx hb10 h10)
                | (go_at_call 44; have _t := tok1; (with_reducible refine (dogwatchref07_Gen.calls r.f0 r.f1 r.f2 r.f3 g0 _ HG.out).mono ?_); rintro e w11 ⟨rfl, hb11⟩; have h11 : w11.heap[w10.heap.size]? = some (.cells #[.int .i64 r.f0, .bool r.f1, .int .i64 r.f2, .int .i64 r.f3] 82 (0, 0)) := (hb11.block _ (by simp)).trans (heap_alloc_new w10 _); have t0 := (blk_cell h11 0).trans rfl; have t1 := (blk_cell h11 1).trans rfl; have t2 := (blk_cell h11 2).trans rfl; have t3 := (blk_cell h11 3).trans rfl; have H11 := Aside0.mk h11; have HB11 := Aside0.mk (below_step (below_alloc (Below.refl _ w10) _) hb11); clear hb11 h11 tok1)
                | (go_at_call 44; (with_reducible refine (dogwatchref07_Gen.calls r.f0 r.f1 r.f2 r.f3 g0 _ HG.out).mono ?_); rintro e w12 ⟨rfl, hb12⟩; have h12 := (hb12.block _ (blk_lt H11.out)).trans H11.out; have u0 := (blk_cell h12 0).trans rfl; have HB12 := Aside0.mk (below_step HB11.out hb12); clear hb12 h12))
              go_roundg k1
              case measure => omega
              case rel => exact ⟨i + 1, s5, _, l5, c5, (by first | rfl | (simp; done) | (congr 1; unfold wrap64; have := HIL.out; omega)), ⟨by have := HK.out; omega⟩, ⟨by have := HIL.out; omega⟩, HP5, ⟨F5, P5, ((HT9.out.below HB10.out).below HB12.out).again, NF5.out, NP5.out, QB.out, (HB12.out.block q (Nat.lt_of_lt_of_le (blk_lt HQ9.out) HB10.out.size)).trans ((HB10.out.block q (blk_lt HQ9.out)).trans HQ9.out)⟩⟩
            · have dg : (gen == g0) = false := beq_eq_false_iff_ne.mpr (fun e => hgx e.symm)
              have HGI := Aside0.mk (show I.getF s5 id gen = (0, false) by unfold I.getF; rw [hlk]; dsimp only; rw [if_neg hgx])
              clear hlk hx1 hsj hr' hr0 hr2 hg0 hjl hgx
              have tok1 : True := trivial
              go_wp2_with (first
                | (go_at_call 42; (with_reducible refine (find_ex HT9.out.t HFI.out).mono ?_); rintro e wx ⟨rfl, n9, rfl⟩)
                | (go_at_call 20; (with_reducible refine (get_ex' (HT9.out.t.drewN n9) HGI.out).mono ?_); rintro e wx ⟨rfl, rfl⟩)
                | (go_at_call 43; (with_reducible refine (dogwatchref07_Has.calls A5 cp5 l5 c5 id true _ (Kd.C_drewN HC9.out.2.2 n9) HC9.out.2.1 HHI.out).mono ?_); rintro e w10 ⟨rfl, hb10⟩; have hbx := below_step (pw_below_drewN (Below.refl _ w9) n9) hb10; have h10 := (hbx.block q (blk_lt HQ9.out)).trans HQ9.out; have m0 := (blk_cell h10 0).trans rfl; have m1 := (blk_cell h10 1).trans rfl; obtain ⟨ad5, eA5, e0, e1, e2, e3⟩ := at82 (Kd.C_below HC9.out.2.2 hbx) j _ HRJ.out; cases eA5; have HB10 := Aside0.mk hbx; clear hbx hb10 h10)
                | (go_at_call 44; have _t := tok1; (with_reducible refine (dogwatchref07_Gen.calls r.f0 r.f1 r.f2 r.f3 g0 _ HG.out).mono ?_); rintro e w11 ⟨rfl, hb11⟩; have h11 : w11.heap[w10.heap.size]? = some (.cells #[.int .i64 r.f0, .bool r.f1, .int .i64 r.f2, .int .i64 r.f3] 82 (0, 0)) := (hb11.block _ (by simp)).trans (heap_alloc_new w10 _); have t0 := (blk_cell h11 0).trans rfl; have t1 := (blk_cell h11 1).trans rfl; have t2 := (blk_cell h11 2).trans rfl; have t3 := (blk_cell h11 3).trans rfl; have H11 := Aside0.mk h11; have HB11 := Aside0.mk (below_step (below_alloc (Below.refl _ w10) _) hb11); clear hb11 h11 tok1)
                | (go_at_call 44; (with_reducible refine (dogwatchref07_Gen.calls r.f0 r.f1 r.f2 r.f3 g0 _ HG.out).mono ?_); rintro e w12 ⟨rfl, hb12⟩; have h12 := (hb12.block _ (blk_lt H11.out)).trans H11.out; have u0 := (blk_cell h12 0).trans rfl; have HB12 := Aside0.mk (below_step HB11.out hb12); clear hb12 h12))
              go_roundg k1
              case measure => omega
              case rel => exact ⟨i + 1, s5, _, l5, c5, (by first | rfl | (simp; done) | (congr 1; unfold wrap64; have := HIL.out; omega)), ⟨by have := HK.out; omega⟩, ⟨by have := HIL.out; omega⟩, HP5, ⟨F5, P5, ((HT9.out.below HB10.out).below HB12.out).again, NF5.out, NP5.out, QB.out, (HB12.out.block q (Nat.lt_of_lt_of_le (blk_lt HQ9.out) HB10.out.size)).trans ((HB10.out.block q (blk_lt HQ9.out)).trans HQ9.out)⟩⟩
      · by_cases ca : i < l1.length
        · have d3 : decide ((i : Int) < (l1.length : Int)) = true := decide_eq_true (by omega)
          have d4 : decide (i < l1.length) = true := decide_eq_true ca
          have d5 : decide ((i : Int) < 60) = false := decide_eq_false (by omega)
          have d6 : decide (i < 60) = false := decide_eq_false (by omega)
          clear cc ca
          go_wp2_with (go_at_call 16; (with_reducible refine (awake _).mono ?_); rintro e w1 ⟨rfl, hb⟩; have HBZ := Aside0.mk hb; clear hb)
          go_ret
          obtain ⟨F, P, ht, _⟩ := HX.out
          exact ⟨rfl, below_step ht.bl HBZ.out⟩
        · have d3 : decide ((i : Int) < (l1.length : Int)) = false := decide_eq_false (by omega)
          have d4 : decide (i < l1.length) = false := decide_eq_false ca
          clear cc ca
          go_wp2_with (go_at_call 16; (with_reducible refine (awake _).mono ?_); rintro e w1 ⟨rfl, hb⟩; have HBZ := Aside0.mk hb; clear hb)
          go_ret
          obtain ⟨F, P, ht, _⟩ := HX.out
          exact ⟨rfl, below_step ht.bl HBZ.out⟩
end Go.Proofs.Ytgjcbpeliimhaaa.PSl
