/- dogwatchlaw07.step, walked by hand: a call of both, which agree. -/
import Derived.Test.YtgjcbpeliimhaaaSlPlayQ
import Derived.Test.YtgjcbpeliimhaaaSlMixW
namespace Go.Proofs.Ytgjcbpeliimhaaa.PSl
open Go.RowKit Go.Proofs.YtgjcbpeliimhaaaW.PrintWords Go.Proofs.YtgjcbpeliimhaaaW.PrintLast Go.Proofs.YtgjcbpeliimhaaaW.PrintMore PSp St
set_option linter.unusedVariables false
set_option linter.unusedSimpArgs false
/-- From which block on things are made, in which world the law began, in which world the step began, and which blocks it was given. -/
structure Env where
  B : Nat
  w0 : World
  w1 : World
  F1 : Nat → Prop
  P1 : Nat → Prop
/-- A table, and the document's beside it; both made from block B on; what was not the table's is as it was. -/
structure Two (E : Env) (w : World) (F P : Nat → Prop) (g : Nat) (s : Tb Int) (v : Value) (l : List S82) : Prop where
  t : I.Rep w F g s
  r : Kd.R k82 82 w E.B P v l
  f0 : ∀ k, F k → E.B ≤ k ∧ k < w.heap.size
  f1 : ∀ k, F k → ¬ P k
  p1 : ∀ k, P k → E.B ≤ k ∧ k < w.heap.size
  bl : Below E.B E.w0 w
  sz : E.B ≤ w.heap.size
  kp : Kept E.w1 w E.F1
  fs : ∀ k, F k → E.F1 k ∨ E.w1.heap.size ≤ k
  ps : ∀ k, P k → E.P1 k ∨ E.w1.heap.size ≤ k
  s1 : E.w1.heap.size ≤ w.heap.size
def TwoX (E : Env) (w : World) (g : Nat) (s : Tb Int) (v : Value) (l : List S82) : Prop := ∃ F P, Two E w F P g s v l
section
variable {E : Env} {g : Nat} {w w' : World} {F P : Nat → Prop} {s s' : Tb Int} {v v' : Value} {l l' : List S82}
theorem Two.below (h : Two E w F P g s v l) (hb : Below w.heap.size w w') : Two E w' F P g s v l :=
  ⟨h.t.below hb, Kd.R_below h.r hb, fun k hk => ⟨(h.f0 k hk).1, Nat.lt_of_lt_of_le (h.f0 k hk).2 hb.size⟩, h.f1, fun k hk => ⟨(h.p1 k hk).1, Nat.lt_of_lt_of_le (h.p1 k hk).2 hb.size⟩, below_then h.bl h.sz hb, Nat.le_trans h.sz hb.size, h.kp.below hb, h.fs, h.ps, Nat.le_trans h.s1 hb.size⟩
theorem Two.table (h : Two E w F P g s v l) (hr : I.Rep w' (I.grow w F) g s') (ht : Turns w w' F) : Two E w' (fun k => I.grow w F k ∧ k < w'.heap.size) P g s' v l := by
  refine ⟨I.Rep.bound hr, Kd.R_kept h.r ht.kept (fun k hk hf => h.f1 k hf hk), ?_, ?_, fun k hk => ⟨(h.p1 k hk).1, Nat.lt_of_lt_of_le (h.p1 k hk).2 ht.kept.1⟩, ht.to_below h.bl h.sz (fun k hk => (h.f0 k hk).1), Nat.le_trans h.sz ht.kept.1, h.kp.then_ ht.kept h.fs, ?_, h.ps, Nat.le_trans h.s1 ht.kept.1⟩
  · rintro k ⟨hk | hk, hl⟩
    · exact ⟨(h.f0 k hk).1, hl⟩
    · exact ⟨Nat.le_trans h.sz hk, hl⟩
  · rintro k ⟨hk | hk, hl⟩ hp
    · exact h.f1 k hk hp
    · have := (h.p1 k hp).2
      omega
  · rintro k ⟨hk | hk, hl⟩
    · exact h.fs k hk
    · exact .inr (Nat.le_trans h.s1 hk)
/-- The document's table is made anew. -/
theorem Two.anew (h : Two E w F P g s v l) (hb : Below w.heap.size w w') (hr : Kd.R k82 82 w' w.heap.size (fun _ => True) v' l') : Two E w' F (fun k => w.heap.size ≤ k ∧ k < w'.heap.size) g s v' l' := by
  refine ⟨h.t.below hb, Kd.R_lower (Kd.R_mono (Kd.R_bound hr) (fun k q => ⟨q.2.1, q.2.2.1⟩)) h.sz, fun k hk => ⟨(h.f0 k hk).1, Nat.lt_of_lt_of_le (h.f0 k hk).2 hb.size⟩, fun k hk q => ?_, fun k q => ⟨Nat.le_trans h.sz q.1, q.2⟩, below_then h.bl h.sz hb, Nat.le_trans h.sz hb.size, h.kp.below hb, h.fs, fun k q => .inr (Nat.le_trans h.s1 q.1), Nat.le_trans h.s1 hb.size⟩
  have := (h.f0 k hk).2
  omega
/-- A store into a block that is neither's. -/
theorem Two.set (h : Two E w F P g s v l) {p : Addr} (hp : E.B ≤ p.block) (hw1 : E.w1.heap.size ≤ p.block) (hf : ¬ F p.block) (hq : ¬ P p.block) (u : Value) : Two E (w.setCell p u) F P g s v l :=
  have hk : Kept w (w.setCell p u) (fun k => k = p.block) := Kept.setCell (S := fun k => k = p.block) (p := p) (Kept.refl _ _) (.inl rfl) _
  ⟨h.t.turns hk (fun k hk e => hf (e ▸ hk)), Kd.R_kept h.r hk (fun k hk e => hq (e ▸ hk)), fun k hk => ⟨(h.f0 k hk).1, by simpa using (h.f0 k hk).2⟩, h.f1, fun k hk => ⟨(h.p1 k hk).1, by simpa using (h.p1 k hk).2⟩, h.bl.setCell hp u, by simpa using h.sz, h.kp.setCell (.inr hw1) u, h.fs, h.ps, by simpa using h.s1⟩
end
/-- The same, and a block q that is neither's. -/
structure TwoQ (E : Env) (w : World) (F P : Nat → Prop) (g : Nat) (s : Tb Int) (v : Value) (l : List S82) (q : Nat) : Prop where
  two : Two E w F P g s v l
  nf : ¬ F q
  np : ¬ P q
  bq : E.B ≤ q
  wq : E.w1.heap.size ≤ q
  lt : q < w.heap.size
section
variable {E : Env} {g q : Nat} {w w' : World} {F P : Nat → Prop} {s s' : Tb Int} {v v' : Value} {l l' : List S82}
theorem TwoQ.below (h : TwoQ E w F P g s v l q) (hb : Below w.heap.size w w') : TwoQ E w' F P g s v l q := ⟨h.two.below hb, h.nf, h.np, h.bq, h.wq, Nat.lt_of_lt_of_le h.lt hb.size⟩
theorem TwoQ.table (h : TwoQ E w F P g s v l q) (hr : I.Rep w' (I.grow w F) g s') (ht : Turns w w' F) : TwoQ E w' (fun k => I.grow w F k ∧ k < w'.heap.size) P g s' v l q :=
  ⟨h.two.table hr ht, fun hq => hq.1.elim h.nf (fun e => by have := h.lt; omega), h.np, h.bq, h.wq, Nat.lt_of_lt_of_le h.lt ht.kept.1⟩
theorem TwoQ.anew (h : TwoQ E w F P g s v l q) (hb : Below w.heap.size w w') (hr : Kd.R k82 82 w' w.heap.size (fun _ => True) v' l') : TwoQ E w' F (fun k => w.heap.size ≤ k ∧ k < w'.heap.size) g s v' l' q :=
  ⟨h.two.anew hb hr, h.nf, fun hq => by have := h.lt; omega, h.bq, h.wq, Nat.lt_of_lt_of_le h.lt hb.size⟩
theorem TwoQ.turned (h : TwoQ E w F P g s v l q) (ht : Turns w w' (fun k => k = q)) : TwoQ E w' F P g s v l q :=
  ⟨⟨h.two.t.turns ht.kept (fun k hk e => h.nf (e ▸ hk)), Kd.R_kept h.two.r ht.kept (fun k hk e => h.np (e ▸ hk)), fun k hk => ⟨(h.two.f0 k hk).1, Nat.lt_of_lt_of_le (h.two.f0 k hk).2 ht.kept.1⟩, h.two.f1, fun k hk => ⟨(h.two.p1 k hk).1, Nat.lt_of_lt_of_le (h.two.p1 k hk).2 ht.kept.1⟩, ht.to_below h.two.bl h.two.sz (fun k hk => by rw [hk]; exact h.bq), Nat.le_trans h.two.sz ht.kept.1, h.two.kp.then_ ht.kept (fun k hk => .inr (by rw [hk]; exact h.wq)), h.two.fs, h.two.ps, Nat.le_trans h.two.s1 ht.kept.1⟩, h.nf, h.np, h.bq, h.wq, Nat.lt_of_lt_of_le h.lt ht.kept.1⟩
theorem TwoQ.out (h : TwoQ E w F P g s v l q) : TwoX E w g s v l := ⟨F, P, h.two⟩
theorem TwoQ.res (h : TwoQ E w F P g s v l q) (a b : Value) : TwoX E ((w.setCell ⟨q, 0, none⟩ a).setCell ⟨q, 1, none⟩ b) g s v l :=
  ⟨F, P, (h.two.set (p := ⟨q, 0, none⟩) h.bq h.wq h.nf h.np a).set (p := ⟨q, 1, none⟩) h.bq h.wq h.nf h.np b⟩
end
theorem box0 (w : World) (o1 o2 o3 : Obj) : (((w.alloc o1).alloc o2).alloc o3).heap[w.heap.size]? = some o1 :=
  (Below.heap_alloc _ _ _ (by simp <;> omega)).trans ((Below.heap_alloc _ _ _ (by simp)).trans (heap_alloc_new _ _))
theorem box1 (w : World) (o1 o2 o3 : Obj) : (((w.alloc o1).alloc o2).alloc o3).heap[w.heap.size + 1]? = some o2 := second_new w o1 o2 o3
theorem box2 (w : World) (o1 o2 o3 : Obj) : (((w.alloc o1).alloc o2).alloc o3).heap[w.heap.size + 2]? = some o3 := by
  have e : ((w.alloc o1).alloc o2).heap.size = w.heap.size + 2 := by simp
  rw [← e]
  exact heap_alloc_new _ _
/-- What a step comes to. -/
def StepPost (E : Env) (n b g : Nat) (e : Ending) (w' : World) : Prop := ∃ (v' : Value) (s' : Tb Int) (l' : List S82) (c' : Int), e = .returned (.tuple #[.agg #[v', .int .i64 c'], .bool true]) ∧ PInv n (b + 1) s' l' c' ∧ TwoX E w' g s' v' l'
def StepCalls (E : Env) (w : World) (n b g : Nat) (v : Value) (c : Int) (x : S30) : Prop :=
  Calls Try.prog 38 #[.pointer (some ⟨g, 0, none⟩), .agg #[v, .int .i64 c], .agg #[.int .i64 x.f0, .int .i64 x.f1, .int .i64 x.f2, .int .i64 x.f3]] w (StepPost E n b g)
theorem TwoQ.start {E : Env} {g : Nat} {w : World} {F P : Nat → Prop} {s : Tb Int} {v : Value} {l : List S82} (h : Two E w F P g s v l) (o1 o2 o3 : Obj) : TwoQ E (((w.alloc o1).alloc o2).alloc o3) F P g s v l (w.heap.size + 2) :=
  ⟨h.below (below_alloc (below_alloc (below_alloc (Below.refl _ w) o1) o2) o3), fun hq => by have := (h.f0 _ hq).2; omega, fun hq => by have := (h.p1 _ hq).2; omega, by have := h.sz; omega, by have := h.s1; omega, by simp⟩
theorem TwoQ.more (E : Env) {g q : Nat} {w : World} {F P : Nat → Prop} {s : Tb Int} {v : Value} {l : List S82} (h : TwoQ E w F P g s v l q) (k : Nat) (hk : w.heap.size ≤ k) : ¬ F k := fun hf => by
  have := (h.two.f0 k hf).2
  omega
/-- What a drawn region keeps, whatever came up: all but the result's block. -/
def Kp (w : World) (q : Nat) (w' : World) : Prop := Turns w w' (fun k => k = q) ∧ ∃ a b, w'.heap[q]? = some (.cells #[a, b] 71 (0, 0))
theorem Kp.cell {w w' : World} {q : Nat} (h : Kp w q w') {p : Addr} {u : Value} (hc : w.cell? p = some u) (hp : p.block ≠ q) : w'.cell? p = some u := cell_kept hc h.1.kept hp
theorem Kp.below {w w' w2 : World} {q : Nat} (h : Kp w q w') (hb : Below w'.heap.size w' w2) : Kp w q w2 := by
  obtain ⟨ht, a, b, hq⟩ := h
  exact ⟨ht.below hb, a, b, (hb.block q (blk_lt hq)).trans hq⟩
theorem Kp.start {w : World} {q : Nat} {a b : Value} (h : w.heap[q]? = some (.cells #[a, b] 71 (0, 0))) : Kp w q w.drew := ⟨(Turns.refl w _).drew, a, b, h⟩
theorem Kp.set {w w' : World} {q : Nat} (h : Kp w q w') (u1 u2 : Value) : Kp w q ((w'.setCell ⟨q, 0, none⟩ u1).setCell ⟨q, 1, none⟩ u2) := by
  obtain ⟨ht, a, b, hq⟩ := h
  exact ⟨(ht.set (p := ⟨q, 0, none⟩) (.inl rfl) _).set (p := ⟨q, 1, none⟩) (.inl rfl) _, u1, u2, blk_set (blk_set hq 0 u1) 1 u2⟩
theorem Kp.res {w w' : World} {q : Nat} (h : Kp w q w') (u1 u2 : Value) : ((w'.setCell ⟨q, 0, none⟩ u1).setCell ⟨q, 1, none⟩ u2).heap[q]? = some (.cells #[u1, u2] 71 (0, 0)) := by
  obtain ⟨ht, a, b, hq⟩ := h
  exact blk_set (blk_set hq 0 u1) 1 u2
theorem Kp.facts {w w' : World} {q : Nat} (h : Kp w q w') : ∃ a b, w'.cell? ⟨q, 0, none⟩ = some a ∧ w'.cell? ⟨q, 1, none⟩ = some b ∧ w'.frozen? ⟨q, 0, none⟩ = false ∧ w'.frozen? ⟨q, 1, none⟩ = false := by
  obtain ⟨ht, a, b, hq⟩ := h
  exact ⟨a, b, (blk_cell hq 0).trans rfl, (blk_cell hq 1).trans rfl, blk_frozen hq 0, blk_frozen hq 1⟩
theorem Two.more {E : Env} {g : Nat} {w : World} {F P : Nat → Prop} {s : Tb Int} {v : Value} {l : List S82} (h : Two E w F P g s v l) (k : Nat) (hk : w.heap.size ≤ k) : ¬ F k := fun hf => by
  have := (h.f0 k hf).2
  omega
theorem drop_exI {F : Nat → Prop} {w : World} {g : Nat} {s s' : Tb Int} {id gen er : Int} (h : I.Rep w F g s) (hf : s.free.length < 1000000) (ht : I.dropF s id gen = (s', er)) :
    Calls Try.prog 17 #[.pointer (some ⟨g, 0, none⟩), .int .i64 id, .int .i64 gen] w fun e w' => e = .returned (.int .i64 er) ∧ I.Rep w' (I.grow w F) g s' ∧ Turns w w' F := by
  have q := I.drop_calls h id gen hf
  rw [ht] at q
  exact q
theorem set_exI {F : Nat → Prop} {w : World} {g : Nat} {s s' : Tb Int} {id x er : Int} (h : I.Rep w F g s) (ht : I.setF s id x = (s', er)) :
    Calls Try.prog 45 #[.pointer (some ⟨g, 0, none⟩), .int .i64 id, .int .i64 x] w fun e w' => e = .returned (.int .i64 er) ∧ I.Rep w' F g s' ∧ Turns w w' F := by
  have q := I.set_calls h id x
  rw [ht] at q
  exact q
theorem Kp.blk {w w' w2 : World} {q : Nat} (h : Kp w q w') (hb : Below w'.heap.size w' w2) : ∃ a b, w2.heap[q]? = some (.cells #[a, b] 71 (0, 0)) := by
  obtain ⟨_, a, b, hq⟩ := h
  exact ⟨a, b, (hb.block _ (blk_lt hq)).trans hq⟩

set_option maxHeartbeats 4000000 in
set_option maxRecDepth 100000 in
theorem step_other {E : Env} {n b : Nat} {w : World} {F P : Nat → Prop} {g : Nat} {s : Tb Int} {v : Value} {l : List S82} {c : Int} (x : S30) (HP : PInv n b s l c) (hb : b ≤ 100) (h : Two E w F P g s v l) (k0 : x.f0 ≠ 0) (k1 : x.f0 ≠ 1) (k2 : x.f0 ≠ 2) (k3 : x.f0 ≠ 3) (k4 : x.f0 ≠ 4) : StepCalls E w n b g v c x := by
  obtain ⟨A, cp, rfl⟩ := Kd.R_slice h.r
  have H := Aside0.mk h
  have HPP := Aside0.mk HP
  have HBB := Aside0.mk hb
  have HREAD := Aside0.mk (Kd.R_reads' h.r)
  have hlen : l.length ≤ 1024 := by rw [HP.len]; exact HP.t.n2
  have HLEN := Aside0.mk hlen
  have B4 := Aside0.mk (box0 w (.cells #[.slice A l.length cp, .int .i64 c] 71) (.cells #[.int .i64 x.f0, .int .i64 x.f1, .int .i64 x.f2, .int .i64 x.f3] 30) (.cells #[.slice none 0 0, .int .i64 0] 71))
  have B5 := Aside0.mk (box1 w (.cells #[.slice A l.length cp, .int .i64 c] 71) (.cells #[.int .i64 x.f0, .int .i64 x.f1, .int .i64 x.f2, .int .i64 x.f3] 30) (.cells #[.slice none 0 0, .int .i64 0] 71))
  have B6 := Aside0.mk (box2 w (.cells #[.slice A l.length cp, .int .i64 c] 71) (.cells #[.int .i64 x.f0, .int .i64 x.f1, .int .i64 x.f2, .int .i64 x.f3] 30) (.cells #[.slice none 0 0, .int .i64 0] 71))
  have HQ0 := Aside0.mk (TwoQ.start h (.cells #[.slice A l.length cp, .int .i64 c] 71) (.cells #[.int .i64 x.f0, .int .i64 x.f1, .int .i64 x.f2, .int .i64 x.f3] 30) (.cells #[.slice none 0 0, .int .i64 0] 71))
  have hu := Try.underlying71
  have hu2 := Try.underlying30
  have hu3 := Try.underlying82
  have e0 : (x.f0 == 0) = false := beq_eq_false_iff_ne.mpr k0
  have e1 : (x.f0 == 1) = false := beq_eq_false_iff_ne.mpr k1
  have e2 : (x.f0 == 2) = false := beq_eq_false_iff_ne.mpr k2
  have e3 : (x.f0 == 3) = false := beq_eq_false_iff_ne.mpr k3
  have e4 : (x.f0 == 4) = false := beq_eq_false_iff_ne.mpr k4
  clear k0 k1 k2 k3 k4
  clear h HP hb hlen
  obtain ⟨L, hL⟩ : ∃ L, L = l.length := ⟨_, rfl⟩
  rw [← hL] at H HREAD B4 B5 B6 HQ0 ⊢
  have HL := Aside0.mk hL
  clear hL
  unfold StepCalls
  go_enter Try.func38, Try.ntmps38
  go_wp2
  refine bodyPost_ret (results_ct rfl _ _ (w.heap.size + 2) 71 #[.slice A L cp, .int .i64 c] (0, 0) _ rfl ?_ Try.underlying71 rfl (by kernel_rfl)) rfl ?_
  · exact box2 _ _ _ _
  · exact ⟨_, s, l, c, rfl, HPP.out.up, F, P, H.out.below (below_alloc (below_alloc (below_alloc (Below.refl _ w) _) _) _)⟩

set_option maxHeartbeats 4000000 in
set_option maxRecDepth 100000 in
theorem step_take_none0 {E : Env} {n b : Nat} {w : World} {F P : Nat → Prop} {g : Nat} {s : Tb Int} {v : Value} {l : List S82} {c : Int} (x : S30) (HP : PInv n b s l c) (hb : b ≤ 100) (h : Two E w F P g s v l) (k : x.f0 = 0) (hn : slotNext s = none) : StepCalls E w n b g v c x := by
  obtain ⟨A, cp, rfl⟩ := Kd.R_slice h.r
  have H := Aside0.mk h
  have HPP := Aside0.mk HP
  have HBB := Aside0.mk hb
  have HREAD := Aside0.mk (Kd.R_reads' h.r)
  have hlen : l.length ≤ 1024 := by rw [HP.len]; exact HP.t.n2
  have HLEN := Aside0.mk hlen
  have B4 := Aside0.mk (box0 w (.cells #[.slice A l.length cp, .int .i64 c] 71) (.cells #[.int .i64 x.f0, .int .i64 x.f1, .int .i64 x.f2, .int .i64 x.f3] 30) (.cells #[.slice none 0 0, .int .i64 0] 71))
  have B5 := Aside0.mk (box1 w (.cells #[.slice A l.length cp, .int .i64 c] 71) (.cells #[.int .i64 x.f0, .int .i64 x.f1, .int .i64 x.f2, .int .i64 x.f3] 30) (.cells #[.slice none 0 0, .int .i64 0] 71))
  have B6 := Aside0.mk (box2 w (.cells #[.slice A l.length cp, .int .i64 c] 71) (.cells #[.int .i64 x.f0, .int .i64 x.f1, .int .i64 x.f2, .int .i64 x.f3] 30) (.cells #[.slice none 0 0, .int .i64 0] 71))
  have HQ0 := Aside0.mk (TwoQ.start h (.cells #[.slice A l.length cp, .int .i64 c] 71) (.cells #[.int .i64 x.f0, .int .i64 x.f1, .int .i64 x.f2, .int .i64 x.f3] 30) (.cells #[.slice none 0 0, .int .i64 0] 71))
  have hu := Try.underlying71
  have hu2 := Try.underlying30
  have hu3 := Try.underlying82
  have e0 : (x.f0 == 0) = true := beq_iff_eq.mpr k
  have HW := HP.which
  rw [hn] at HW
  have HTN := Aside0.mk (fun (W : World) (hW : Kd.C k82 W A l.length l) => ref_take_none 2000 A cp l c x.f3 W hW (Kd.R_reads' h.r).2.1 HW)
  have HTK := Aside0.mk (take_none HP.t x.f3 hn).1
  clear k hn HW
  clear h HP hb hlen
  obtain ⟨L, hL⟩ : ∃ L, L = l.length := ⟨_, rfl⟩
  rw [← hL] at H HREAD B4 B5 B6 HQ0 HTN ⊢
  have HL := Aside0.mk hL
  clear hL
  unfold StepCalls
  go_enter Try.func38, Try.ntmps38
  go_wp2_with (first
    | (go_at_call 67; (with_reducible refine (HTN.out _ (Kd.C_alloc (Kd.C_alloc (Kd.C_alloc HREAD.out.2.2 _) _) _)).mono ?_); rintro e w3 ⟨rfl, hb3⟩; have h5 : w3.heap[w.heap.size + 1]? = some (.cells #[.int .i64 x.f0, .int .i64 x.f1, .int .i64 x.f2, .int .i64 x.f3] 30 (0, 0)) := (hb3.block _ (by simp <;> omega)).trans B5.out; have h6 : w3.heap[w.heap.size + 2]? = some (.cells #[.slice none 0 0, .int .i64 0] 71 (0, 0)) := (hb3.block _ (by simp <;> omega)).trans B6.out; have h4 : w3.heap[w.heap.size]? = some (.cells #[.slice A L cp, .int .i64 c] 71 (0, 0)) := (hb3.block _ (by simp <;> omega)).trans B4.out; have c40 := (blk_cell h4 0).trans rfl; have c41 := (blk_cell h4 1).trans rfl; have c50 := (blk_cell h5 0).trans rfl; have c51 := (blk_cell h5 1).trans rfl; have c52 := (blk_cell h5 2).trans rfl; have c53 := (blk_cell h5 3).trans rfl; have c60 := (blk_cell h6 0).trans rfl; have c61 := (blk_cell h6 1).trans rfl; have f60 := blk_frozen h6 0; have f61 := blk_frozen h6 1; have z0 := blk_lt h4; have z1 := blk_lt h5; have z2 := blk_lt h6; have H6 := Aside0.mk h6; have HQ3 := Aside0.mk (HQ0.out.below hb3); clear hb3 h4 h5 h6)
    | (go_at_call 19; (with_reducible refine (take_exI (HQ3.out.below (below_alloc (Below.refl _ w3) _)).two.t HTK.out).mono ?_); rintro e w4 ⟨rfl, hr4, ht4⟩; have h8 : w4.heap[w3.heap.size]? = some (.cells #[.slice A L cp, .int .i64 c] 71 (0, 0)) := blk_kept (heap_alloc_new w3 _) ht4.kept (TwoQ.more E HQ3.out _ (Nat.le_refl _)); have h6 : w4.heap[w.heap.size + 2]? = some (.cells #[.slice none 0 0, .int .i64 0] 71 (0, 0)) := blk_kept ((Below.heap_alloc _ _ _ z2).trans H6.out) ht4.kept HQ3.out.nf; have c80 := (blk_cell h8 0).trans rfl; have c81 := (blk_cell h8 1).trans rfl; have c60 := (blk_cell h6 0).trans rfl; have c61 := (blk_cell h6 1).trans rfl; have f60 := blk_frozen h6 0; have f61 := blk_frozen h6 1; have H64 := Aside0.mk h6; have HQ4 := Aside0.mk ((HQ3.out.below (below_alloc (Below.refl _ w3) (.cells #[.slice A L cp, .int .i64 c] 71))).table (hr4.mono (fun k hk => .inl hk)) ht4); clear hr4 ht4 h8 h6))
  refine bodyPost_ret (results_ct rfl _ _ (w.heap.size + 2) 71 #[.slice A L cp, .int .i64 c] (0, 0) _ rfl ?_ Try.underlying71 rfl (by kernel_rfl)) rfl ?_
  · exact blk_set (blk_set H64.out 0 (.slice A L cp)) 1 (.int .i64 c)
  · exact ⟨_, s, l, c, rfl, HPP.out.up, HQ4.out.res _ _⟩

set_option maxHeartbeats 4000000 in
set_option maxRecDepth 100000 in
theorem step_take_none1 {E : Env} {n b : Nat} {w : World} {F P : Nat → Prop} {g : Nat} {s : Tb Int} {v : Value} {l : List S82} {c : Int} (x : S30) (HP : PInv n b s l c) (hb : b ≤ 100) (h : Two E w F P g s v l) (k : x.f0 = 1) (hn : slotNext s = none) : StepCalls E w n b g v c x := by
  obtain ⟨A, cp, rfl⟩ := Kd.R_slice h.r
  have H := Aside0.mk h
  have HPP := Aside0.mk HP
  have HBB := Aside0.mk hb
  have HREAD := Aside0.mk (Kd.R_reads' h.r)
  have hlen : l.length ≤ 1024 := by rw [HP.len]; exact HP.t.n2
  have HLEN := Aside0.mk hlen
  have B4 := Aside0.mk (box0 w (.cells #[.slice A l.length cp, .int .i64 c] 71) (.cells #[.int .i64 x.f0, .int .i64 x.f1, .int .i64 x.f2, .int .i64 x.f3] 30) (.cells #[.slice none 0 0, .int .i64 0] 71))
  have B5 := Aside0.mk (box1 w (.cells #[.slice A l.length cp, .int .i64 c] 71) (.cells #[.int .i64 x.f0, .int .i64 x.f1, .int .i64 x.f2, .int .i64 x.f3] 30) (.cells #[.slice none 0 0, .int .i64 0] 71))
  have B6 := Aside0.mk (box2 w (.cells #[.slice A l.length cp, .int .i64 c] 71) (.cells #[.int .i64 x.f0, .int .i64 x.f1, .int .i64 x.f2, .int .i64 x.f3] 30) (.cells #[.slice none 0 0, .int .i64 0] 71))
  have HQ0 := Aside0.mk (TwoQ.start h (.cells #[.slice A l.length cp, .int .i64 c] 71) (.cells #[.int .i64 x.f0, .int .i64 x.f1, .int .i64 x.f2, .int .i64 x.f3] 30) (.cells #[.slice none 0 0, .int .i64 0] 71))
  have hu := Try.underlying71
  have hu2 := Try.underlying30
  have hu3 := Try.underlying82
  have e0 : (x.f0 == 0) = false := beq_eq_false_iff_ne.mpr (by omega)
  have e1 : (x.f0 == 1) = true := beq_iff_eq.mpr k
  have HW := HP.which
  rw [hn] at HW
  have HTN := Aside0.mk (fun (W : World) (hW : Kd.C k82 W A l.length l) => ref_take_none 2000 A cp l c x.f3 W hW (Kd.R_reads' h.r).2.1 HW)
  have HTK := Aside0.mk (take_none HP.t x.f3 hn).1
  clear k hn HW
  clear h HP hb hlen
  obtain ⟨L, hL⟩ : ∃ L, L = l.length := ⟨_, rfl⟩
  rw [← hL] at H HREAD B4 B5 B6 HQ0 HTN ⊢
  have HL := Aside0.mk hL
  clear hL
  unfold StepCalls
  go_enter Try.func38, Try.ntmps38
  go_wp2_with (first
    | (go_at_call 67; (with_reducible refine (HTN.out _ (Kd.C_alloc (Kd.C_alloc (Kd.C_alloc HREAD.out.2.2 _) _) _)).mono ?_); rintro e w3 ⟨rfl, hb3⟩; have h5 : w3.heap[w.heap.size + 1]? = some (.cells #[.int .i64 x.f0, .int .i64 x.f1, .int .i64 x.f2, .int .i64 x.f3] 30 (0, 0)) := (hb3.block _ (by simp <;> omega)).trans B5.out; have h6 : w3.heap[w.heap.size + 2]? = some (.cells #[.slice none 0 0, .int .i64 0] 71 (0, 0)) := (hb3.block _ (by simp <;> omega)).trans B6.out; have h4 : w3.heap[w.heap.size]? = some (.cells #[.slice A L cp, .int .i64 c] 71 (0, 0)) := (hb3.block _ (by simp <;> omega)).trans B4.out; have c40 := (blk_cell h4 0).trans rfl; have c41 := (blk_cell h4 1).trans rfl; have c50 := (blk_cell h5 0).trans rfl; have c51 := (blk_cell h5 1).trans rfl; have c52 := (blk_cell h5 2).trans rfl; have c53 := (blk_cell h5 3).trans rfl; have c60 := (blk_cell h6 0).trans rfl; have c61 := (blk_cell h6 1).trans rfl; have f60 := blk_frozen h6 0; have f61 := blk_frozen h6 1; have z0 := blk_lt h4; have z1 := blk_lt h5; have z2 := blk_lt h6; have H6 := Aside0.mk h6; have HQ3 := Aside0.mk (HQ0.out.below hb3); clear hb3 h4 h5 h6)
    | (go_at_call 19; (with_reducible refine (take_exI (HQ3.out.below (below_alloc (Below.refl _ w3) _)).two.t HTK.out).mono ?_); rintro e w4 ⟨rfl, hr4, ht4⟩; have h8 : w4.heap[w3.heap.size]? = some (.cells #[.slice A L cp, .int .i64 c] 71 (0, 0)) := blk_kept (heap_alloc_new w3 _) ht4.kept (TwoQ.more E HQ3.out _ (Nat.le_refl _)); have h6 : w4.heap[w.heap.size + 2]? = some (.cells #[.slice none 0 0, .int .i64 0] 71 (0, 0)) := blk_kept ((Below.heap_alloc _ _ _ z2).trans H6.out) ht4.kept HQ3.out.nf; have c80 := (blk_cell h8 0).trans rfl; have c81 := (blk_cell h8 1).trans rfl; have c60 := (blk_cell h6 0).trans rfl; have c61 := (blk_cell h6 1).trans rfl; have f60 := blk_frozen h6 0; have f61 := blk_frozen h6 1; have H64 := Aside0.mk h6; have HQ4 := Aside0.mk ((HQ3.out.below (below_alloc (Below.refl _ w3) (.cells #[.slice A L cp, .int .i64 c] 71))).table (hr4.mono (fun k hk => .inl hk)) ht4); clear hr4 ht4 h8 h6))
  refine bodyPost_ret (results_ct rfl _ _ (w.heap.size + 2) 71 #[.slice A L cp, .int .i64 c] (0, 0) _ rfl ?_ Try.underlying71 rfl (by kernel_rfl)) rfl ?_
  · exact blk_set (blk_set H64.out 0 (.slice A L cp)) 1 (.int .i64 c)
  · exact ⟨_, s, l, c, rfl, HPP.out.up, HQ4.out.res _ _⟩

set_option maxHeartbeats 4000000 in
set_option maxRecDepth 100000 in
theorem step_take_some0 {E : Env} {n b : Nat} {w : World} {F P : Nat → Prop} {g : Nat} {s : Tb Int} {v : Value} {l : List S82} {c : Int} (x : S30) (HP : PInv n b s l c) (hb : b ≤ 100) (h : Two E w F P g s v l) (j : Nat) (k : x.f0 = 0) (hn : slotNext s = some j) : StepCalls E w n b g v c x := by
  obtain ⟨A, cp, rfl⟩ := Kd.R_slice h.r
  have H := Aside0.mk h
  have HPP := Aside0.mk HP
  have HBB := Aside0.mk hb
  have HREAD := Aside0.mk (Kd.R_reads' h.r)
  have hlen : l.length ≤ 1024 := by rw [HP.len]; exact HP.t.n2
  have HLEN := Aside0.mk hlen
  have B4 := Aside0.mk (box0 w (.cells #[.slice A l.length cp, .int .i64 c] 71) (.cells #[.int .i64 x.f0, .int .i64 x.f1, .int .i64 x.f2, .int .i64 x.f3] 30) (.cells #[.slice none 0 0, .int .i64 0] 71))
  have B5 := Aside0.mk (box1 w (.cells #[.slice A l.length cp, .int .i64 c] 71) (.cells #[.int .i64 x.f0, .int .i64 x.f1, .int .i64 x.f2, .int .i64 x.f3] 30) (.cells #[.slice none 0 0, .int .i64 0] 71))
  have B6 := Aside0.mk (box2 w (.cells #[.slice A l.length cp, .int .i64 c] 71) (.cells #[.int .i64 x.f0, .int .i64 x.f1, .int .i64 x.f2, .int .i64 x.f3] 30) (.cells #[.slice none 0 0, .int .i64 0] 71))
  have HQ0 := Aside0.mk (TwoQ.start h (.cells #[.slice A l.length cp, .int .i64 c] 71) (.cells #[.int .i64 x.f0, .int .i64 x.f1, .int .i64 x.f2, .int .i64 x.f3] 30) (.cells #[.slice none 0 0, .int .i64 0] 71))
  have hu := Try.underlying71
  have hu2 := Try.underlying30
  have hu3 := Try.underlying82
  have e0 : (x.f0 == 0) = true := beq_iff_eq.mpr k
  have HW := HP.which
  rw [hn] at HW
  obtain ⟨s', r, hr, hrb, hr0, htk, hp'⟩ := HP.take (by omega) x.f3 j hn
  have hjl : j < l.length := (List.getElem?_eq_some_iff.mp hr).1
  have hwr := with_eq l hlen c j hjl x.f3 true r.f2 r.f3
  have hc0 := HP.c0
  have hc1 := HP.c1
  have ewc : wrap64 (c + 1) = c + 1 := by unfold wrap64; omega
  rw [ewc] at hwr
  have HG := Aside0.mk (show dogwatchref07_Gen.f x.f3 true r.f2 r.f3 = some (r.f2 + 1) by unfold dogwatchref07_Gen.f; congr 1; unfold wrap64; omega)
  have HTN := Aside0.mk (fun (W : World) (hW : Kd.C k82 W A l.length l) => ref_take_some 2000 A cp l c x.f3 j r _ _ W hW (Kd.R_reads' h.r).2.1 hr hlen HW hwr)
  have HTK := Aside0.mk htk
  have HP' := Aside0.mk hp'
  have HJ := Aside0.mk hjl
  obtain ⟨l', hl'⟩ : ∃ l', l' = l.set j ⟨x.f3, true, r.f2, r.f3⟩ := ⟨_, rfl⟩
  rw [← hl'] at HTN HP'
  have HLS := Aside0.mk (show l'[j]? = some ⟨x.f3, true, r.f2, r.f3⟩ by rw [hl']; exact List.getElem?_set_self hjl)
  have d9 : ((j : Int) + 1 == 0) = false := beq_eq_false_iff_ne.mpr (by omega)
  have p0 := eq_true (show (0 : Int) ≤ (j : Int) by omega)
  have ewj : wrap64 (j : Int) = (j : Int) := by unfold wrap64; omega
  clear k hn HW hwr hc0 hc1 ewc hr hrb hr0 htk hp' hjl hl'
  clear h HP hb hlen
  obtain ⟨L, hL⟩ : ∃ L, L = l.length := ⟨_, rfl⟩
  rw [← hL] at H HREAD B4 B5 B6 HQ0 HTN ⊢
  have HL := Aside0.mk hL
  clear hL
  unfold StepCalls
  go_enter Try.func38, Try.ntmps38
  go_wp2_with (first
    | (go_at_call 67; (with_reducible refine (HTN.out _ (Kd.C_alloc (Kd.C_alloc (Kd.C_alloc HREAD.out.2.2 _) _) _)).mono ?_); rintro e w3 ⟨v3, rfl, hr3, hb3⟩; obtain ⟨A3, cp3, rfl⟩ := Kd.R_slice hr3; have h5 : w3.heap[w.heap.size + 1]? = some (.cells #[.int .i64 x.f0, .int .i64 x.f1, .int .i64 x.f2, .int .i64 x.f3] 30 (0, 0)) := (hb3.block _ (by simp <;> omega)).trans B5.out; have h6 : w3.heap[w.heap.size + 2]? = some (.cells #[.slice none 0 0, .int .i64 0] 71 (0, 0)) := (hb3.block _ (by simp <;> omega)).trans B6.out; have h4 : w3.heap[w.heap.size]? = some (.cells #[.slice A L cp, .int .i64 c] 71 (0, 0)) := (hb3.block _ (by simp <;> omega)).trans B4.out; have c40 := (blk_cell h4 0).trans rfl; have c41 := (blk_cell h4 1).trans rfl; have c50 := (blk_cell h5 0).trans rfl; have c51 := (blk_cell h5 1).trans rfl; have c52 := (blk_cell h5 2).trans rfl; have c53 := (blk_cell h5 3).trans rfl; have c60 := (blk_cell h6 0).trans rfl; have c61 := (blk_cell h6 1).trans rfl; have f60 := blk_frozen h6 0; have f61 := blk_frozen h6 1; have z0 := blk_lt h4; have z1 := blk_lt h5; have z2 := blk_lt h6; have H6 := Aside0.mk h6; have Z2 := Aside0.mk z2; have HQ3 := Aside0.mk (HQ0.out.anew hb3 hr3); clear hb3 hr3 h4 h5 h6)
    | (go_at_call 19; (with_reducible refine (take_exI (HQ3.out.below (below_alloc (Below.refl _ w3) _)).two.t HTK.out).mono ?_); rintro e w4 ⟨rfl, hr4, ht4⟩; have h8 : w4.heap[w3.heap.size]? = some (.cells #[.slice A3 l'.length cp3, .int .i64 (c + 1)] 71 (0, 0)) := blk_kept (heap_alloc_new w3 _) ht4.kept (TwoQ.more E HQ3.out _ (Nat.le_refl _)); have h6 : w4.heap[w.heap.size + 2]? = some (.cells #[.slice none 0 0, .int .i64 0] 71 (0, 0)) := blk_kept ((Below.heap_alloc _ _ _ Z2.out).trans H6.out) ht4.kept HQ3.out.nf; have Z80 := Aside0.mk ((blk_cell h8 0).trans rfl); have Z81 := Aside0.mk ((blk_cell h8 1).trans rfl); have H64 := Aside0.mk h6; have HQ4 := Aside0.mk ((HQ3.out.below (below_alloc (Below.refl _ w3) (.cells #[.slice A3 l'.length cp3, .int .i64 (c + 1)] 71))).table (hr4.mono (fun k hk => .inl hk)) ht4); clear hr4 ht4 h8 h6))
  have N8 := Aside0.mk (show w3.heap.size ≠ w.heap.size + 2 by have := Z2.out; omega)
  obtain ⟨ad3, eA3, ze⟩ := at82 (Kd.R_reads' HQ4.out.two.r).2.2 j _ HLS.out
  have HNE := HQ4.out.np
  have HOWN := HQ4.out.two.r.1
  have ne : (ad3.add (j * 4)).block ≠ w.heap.size + 2 := by
    rw [add_block]
    intro e
    exact HNE (HOWN _ (by rw [eA3, ← e]; rfl))
  have NE := Aside0.mk ne
  have ZE := Aside0.mk ze
  subst eA3
  have q5 := eq_true (show (j : Int) < (l'.length : Int) by have := (List.getElem?_eq_some_iff.mp HLS.out).1; omega)
  have ewi := (i64_w (j : Int)).trans ewj
  clear ne ze HNE HOWN
  refine wp_region_held_drew (S := Kp w4 (w.heap.size + 2)) (by kernel_rfl) (Kp.start H64.out) (fun hHeld => ?_)
  refine wpAnyH_take (i := 0) (v := ?vQ0) (oi := { dst := some 49, op := Op.load 71 (Operand.tmp 8), type := 71, pos := "law.go:43", after := #[], guard := none }) rfl (by kernel_rfl) (by kernel_rfl) (by kernel_rfl) (fun _ _ _ h => h) (Or.inl ⟨by rfl, ?hyQ0⟩) hHeld ?restQ0
  case hyQ0 => (intro w_ hSw; have d0 := hSw.cell Z80.out N8.out; have d1 := hSw.cell Z81.out N8.out; clear hSw; go_simp; try with_reducible rfl)
  (try simp only [Act.put, List.setIfInBounds_toArray, List.set_cons_zero, List.set_cons_succ])
  refine wpAnyH_take (i := 1) (v := ?vQ1) (oi := { dst := some 50, op := Op.move (Operand.tmp 10), type := 3, pos := "law.go:43", after := #[], guard := none }) rfl (by kernel_rfl) (by kernel_rfl) (by kernel_rfl) (fun _ _ _ h => h) (Or.inl ⟨by rfl, ?hyQ1⟩) hHeld ?restQ1
  case hyQ1 => (intro w_ hSw; clear hSw; go_simp; try with_reducible rfl)
  (try simp only [Act.put, List.setIfInBounds_toArray, List.set_cons_zero, List.set_cons_succ])
  refine wpAnyH_take (i := 2) (v := ?vQ2) (oi := { dst := some 51, op := Op.move (Operand.tmp 9), type := 3, pos := "law.go:43", after := #[], guard := none }) rfl (by kernel_rfl) (by kernel_rfl) (by kernel_rfl) (fun _ _ _ h => h) (Or.inl ⟨by rfl, ?hyQ2⟩) hHeld ?restQ2
  case hyQ2 => (intro w_ hSw; clear hSw; go_simp; try with_reducible rfl)
  (try simp only [Act.put, List.setIfInBounds_toArray, List.set_cons_zero, List.set_cons_succ])
  refine wpAnyH_take (i := 3) (v := ?vQ3) (oi := { dst := some 52, op := Op.binOp BinOp.eql 3 (Operand.tmp 50) (Operand.tmp 51) 3, type := 4, pos := "law.go:43", after := #[{ on := 1, ground := Ground.data }, { on := 2, ground := Ground.data }], guard := none }) rfl (by kernel_rfl) (by kernel_rfl) (by kernel_rfl) (fun _ _ _ h => h) (Or.inl ⟨by rfl, ?hyQ3⟩) hHeld ?restQ3
  case hyQ3 => (intro w_ hSw; clear hSw; go_simp; try with_reducible rfl)
  (try simp only [Act.put, List.setIfInBounds_toArray, List.set_cons_zero, List.set_cons_succ])
  refine wpAnyH_take (i := 4) (v := ?vQ4) (oi := { dst := some 53, op := Op.move (Operand.tmp 52), type := 4, pos := "law.go:43", after := #[{ on := 3, ground := Ground.data }], guard := none }) rfl (by kernel_rfl) (by kernel_rfl) (by kernel_rfl) (fun _ _ _ h => h) (Or.inl ⟨by rfl, ?hyQ4⟩) hHeld ?restQ4
  case hyQ4 => (intro w_ hSw; clear hSw; go_simp; try with_reducible rfl)
  (try simp only [Act.put, List.setIfInBounds_toArray, List.set_cons_zero, List.set_cons_succ])
  refine wpAnyH_take (i := 5) (v := ?vQ5) (oi := { dst := some 54, op := Op.move (Operand.tmp 11), type := 3, pos := "law.go:43", after := #[{ on := 4, ground := Ground.guard }], guard := some (4, true) }) rfl (by kernel_rfl) (by kernel_rfl) (by kernel_rfl) (fun _ _ _ h => h) (Or.inl ⟨by rfl, ?hyQ5⟩) hHeld ?restQ5
  case hyQ5 => (intro w_ hSw; clear hSw; go_simp; try with_reducible rfl)
  (try simp only [Act.put, List.setIfInBounds_toArray, List.set_cons_zero, List.set_cons_succ])
  refine wpAnyH_take (i := 6) (v := ?vQ6) (oi := { dst := some 55, op := Op.fieldAddr 71 (Operand.tmp 8) 0, type := 0, pos := "law.go:43", after := #[{ on := 4, ground := Ground.guard }], guard := some (4, true) }) rfl (by kernel_rfl) (by kernel_rfl) (by kernel_rfl) (fun _ _ _ h => h) (Or.inl ⟨by rfl, ?hyQ6⟩) hHeld ?restQ6
  case hyQ6 => (intro w_ hSw; clear hSw; go_simp; try with_reducible rfl)
  (try simp only [Act.put, List.setIfInBounds_toArray, List.set_cons_zero, List.set_cons_succ])
  refine wpAnyH_take (i := 7) (v := ?vQ7) (oi := { dst := some 56, op := Op.load 69 (Operand.tmp 55), type := 69, pos := "law.go:43", after := #[{ on := 6, ground := Ground.data }, { on := 4, ground := Ground.guard }], guard := some (4, true) }) rfl (by kernel_rfl) (by kernel_rfl) (by kernel_rfl) (fun _ _ _ h => h) (Or.inl ⟨by rfl, ?hyQ7⟩) hHeld ?restQ7
  case hyQ7 => (intro w_ hSw; have d0 := hSw.cell Z80.out N8.out; have d1 := hSw.cell Z81.out N8.out; clear hSw; go_simp; try with_reducible rfl)
  (try simp only [Act.put, List.setIfInBounds_toArray, List.set_cons_zero, List.set_cons_succ])
  refine wpAnyH_take (i := 8) (v := ?vQ8) (oi := { dst := some 57, op := Op.move (Operand.tmp 9), type := 3, pos := "law.go:43", after := #[{ on := 4, ground := Ground.guard }], guard := some (4, true) }) rfl (by kernel_rfl) (by kernel_rfl) (by kernel_rfl) (fun _ _ _ h => h) (Or.inl ⟨by rfl, ?hyQ8⟩) hHeld ?restQ8
  case hyQ8 => (intro w_ hSw; clear hSw; go_simp; try with_reducible rfl)
  (try simp only [Act.put, List.setIfInBounds_toArray, List.set_cons_zero, List.set_cons_succ])
  refine wpAnyH_take (i := 9) (v := ?vQ9) (oi := { dst := some 58, op := Op.binOp BinOp.sub 3 (Operand.tmp 57) (Operand.const (Value.int IntKind.i64 1)) 3, type := 3, pos := "law.go:43", after := #[{ on := 8, ground := Ground.data }, { on := 4, ground := Ground.guard }], guard := some (4, true) }) rfl (by kernel_rfl) (by kernel_rfl) (by kernel_rfl) (fun _ _ _ h => h) (Or.inl ⟨by rfl, ?hyQ9⟩) hHeld ?restQ9
  case hyQ9 => (intro w_ hSw; clear hSw; go_simp; try with_reducible rfl)
  (try simp only [Act.put, List.setIfInBounds_toArray, List.set_cons_zero, List.set_cons_succ])
  refine wpAnyH_take (i := 10) (v := ?vQ10) (oi := { dst := some 59, op := Op.indexAddr 69 (Operand.tmp 56) (Operand.tmp 58), type := 0, pos := "law.go:43", after := #[{ on := 7, ground := Ground.data }, { on := 9, ground := Ground.data }, { on := 4, ground := Ground.guard }], guard := some (4, true) }) rfl (by kernel_rfl) (by kernel_rfl) (by kernel_rfl) (fun _ _ _ h => h) (Or.inl ⟨by rfl, ?hyQ10⟩) hHeld ?restQ10
  case hyQ10 => (intro w_ hSw; clear hSw; go_simp; try with_reducible rfl)
  (try simp only [Act.put, List.setIfInBounds_toArray, List.set_cons_zero, List.set_cons_succ])
  refine wpAnyH_take (i := 11) (v := ?vQ11) (oi := { dst := some 60, op := Op.load 82 (Operand.tmp 59), type := 82, pos := "law.go:43", after := #[{ on := 10, ground := Ground.data }, { on := 4, ground := Ground.guard }], guard := some (4, true) }) rfl (by kernel_rfl) (by kernel_rfl) (by kernel_rfl) (fun _ _ _ h => h) (Or.inl ⟨by rfl, ?hyQ11⟩) hHeld ?restQ11
  case hyQ11 => (intro w_ hSw; have d0 := hSw.cell ZE.out.1 NE.out; have d1 := hSw.cell ZE.out.2.1 NE.out; have d2 := hSw.cell ZE.out.2.2.1 NE.out; have d3 := hSw.cell ZE.out.2.2.2 NE.out; clear hSw; go_simp; try with_reducible rfl)
  (try simp only [Act.put, List.setIfInBounds_toArray, List.set_cons_zero, List.set_cons_succ])
  refine wpAnyH_ready (rs := [12]) (by kernel_rfl) (by simp) ?_
  refine AllReadyH.cons (o := { dst := some 61, op := Op.call { callee := Callee.value (Operand.func 44), args := #[Operand.tmp 60], argTypes := #[82] }, type := 3, pos := "law.go:43", after := #[{ on := 11, ground := Ground.data }, { on := 4, ground := Ground.chain }, { on := 4, ground := Ground.guard }], guard := some (4, true) }) rfl (fun K hK => ?_) AllReadyH.nil
  go_simp
  with_reducible refine (dogwatchref07_Gen.calls x.f3 true r.f2 r.f3 (r.f2 + 1) _ HG.out).mono ?_
  rintro e w5 ⟨rfl, hb5⟩
  have HK5 := Aside0.mk (hHeld.below hb5)
  clear hb5
  refine hK.out _ _ ?_ (fun hHeld => ?_)
  · exact HK5.out
  clear hK K
  (try simp only [Act.put, List.setIfInBounds_toArray, List.set_cons_zero, List.set_cons_succ])
  refine wpAnyH_take (i := 13) (v := ?vQ13) (oi := { dst := some 62, op := Op.binOp BinOp.eql 3 (Operand.tmp 54) (Operand.tmp 61) 3, type := 4, pos := "law.go:43", after := #[{ on := 5, ground := Ground.data }, { on := 12, ground := Ground.data }, { on := 4, ground := Ground.guard }], guard := some (4, true) }) rfl (by kernel_rfl) (by kernel_rfl) (by kernel_rfl) (fun _ _ _ h => h) (Or.inl ⟨by rfl, ?hyQ13⟩) hHeld ?restQ13
  case hyQ13 => (intro w_ hSw; clear hSw; go_simp; try with_reducible rfl)
  (try simp only [Act.put, List.setIfInBounds_toArray, List.set_cons_zero, List.set_cons_succ])
  refine wpAnyH_take (i := 14) (v := ?vQ14) (oi := { dst := some 63, op := Op.pick (Operand.tmp 53) (Operand.tmp 62) (Operand.const (Value.bool false)), type := 4, pos := "law.go:43", after := #[{ on := 4, ground := Ground.data }, { on := 13, ground := Ground.data }], guard := none }) rfl (by kernel_rfl) (by kernel_rfl) (by kernel_rfl) (fun _ _ _ h => h) (Or.inl ⟨by rfl, ?hyQ14⟩) hHeld ?restQ14
  case hyQ14 => (intro w_ hSw; clear hSw; go_simp; try with_reducible rfl)
  (try simp only [Act.put, List.setIfInBounds_toArray, List.set_cons_zero, List.set_cons_succ])
  refine wpAnyH_take (i := 15) (v := ?vQ15) (oi := { dst := some 64, op := Op.move (Operand.tmp 63), type := 4, pos := "law.go:43", after := #[{ on := 14, ground := Ground.data }, { on := 12, ground := Ground.chain }], guard := none }) rfl (by kernel_rfl) (by kernel_rfl) (by kernel_rfl) (fun _ _ _ h => h) (Or.inl ⟨by rfl, ?hyQ15⟩) hHeld ?restQ15
  case hyQ15 => (intro w_ hSw; clear hSw; go_simp; try with_reducible rfl)
  (try simp only [Act.put, List.setIfInBounds_toArray, List.set_cons_zero, List.set_cons_succ])
  refine wpAnyH_take (i := 16) (v := ?vQ16) (oi := { dst := some 65, op := Op.move (Operand.tmp 12), type := 24, pos := "law.go:43", after := #[{ on := 15, ground := Ground.guard }, { on := 19, ground := Ground.gcOnly Departure.lateStores }], guard := some (15, true) }) rfl (by kernel_rfl) (by kernel_rfl) (by kernel_rfl) (fun _ _ _ h => h) (Or.inl ⟨by rfl, ?hyQ16⟩) hHeld ?restQ16
  case hyQ16 => (intro w_ hSw; clear hSw; go_simp; try with_reducible rfl)
  (try simp only [Act.put, List.setIfInBounds_toArray, List.set_cons_zero, List.set_cons_succ])
  refine wpAnyH_take (i := 17) (v := ?vQ17) (oi := { dst := some 66, op := Op.binOp BinOp.eql 24 (Operand.tmp 65) (Operand.const (Value.int IntKind.i64 0)) 24, type := 4, pos := "law.go:43", after := #[{ on := 16, ground := Ground.data }, { on := 15, ground := Ground.guard }, { on := 19, ground := Ground.gcOnly Departure.lateStores }], guard := some (15, true) }) rfl (by kernel_rfl) (by kernel_rfl) (by kernel_rfl) (fun _ _ _ h => h) (Or.inl ⟨by rfl, ?hyQ17⟩) hHeld ?restQ17
  case hyQ17 => (intro w_ hSw; clear hSw; go_simp; try with_reducible rfl)
  (try simp only [Act.put, List.setIfInBounds_toArray, List.set_cons_zero, List.set_cons_succ])
  refine wpAnyH_take (i := 18) (v := ?vQ18) (oi := { dst := some 67, op := Op.pick (Operand.tmp 64) (Operand.tmp 66) (Operand.const (Value.bool false)), type := 4, pos := "law.go:43", after := #[{ on := 15, ground := Ground.data }, { on := 17, ground := Ground.data }, { on := 19, ground := Ground.gcOnly Departure.lateStores }], guard := none }) rfl (by kernel_rfl) (by kernel_rfl) (by kernel_rfl) (fun _ _ _ h => h) (Or.inl ⟨by rfl, ?hyQ18⟩) hHeld ?restQ18
  case hyQ18 => (intro w_ hSw; clear hSw; go_simp; try with_reducible rfl)
  (try simp only [Act.put, List.setIfInBounds_toArray, List.set_cons_zero, List.set_cons_succ])
  obtain ⟨fa, fb, g0, g1, g2, g3⟩ := HK5.out.facts
  refine wpAnyH_ready (rs := [19]) (by kernel_rfl) (by simp) ?_
  refine AllReadyH.cons (o := { dst := none, op := Op.store 71 (Operand.tmp 6) (Operand.tmp 49), type := 0, pos := "law.go:43", after := #[{ on := 0, ground := Ground.data }, { on := 15, ground := Ground.chain }, { on := 0, ground := Ground.phase }, { on := 1, ground := Ground.textOnly Departure.lateStores }, { on := 2, ground := Ground.textOnly Departure.lateStores }, { on := 3, ground := Ground.textOnly Departure.lateStores }, { on := 4, ground := Ground.textOnly Departure.lateStores }, { on := 5, ground := Ground.textOnly Departure.lateStores }, { on := 6, ground := Ground.textOnly Departure.lateStores }, { on := 7, ground := Ground.textOnly Departure.lateStores }, { on := 8, ground := Ground.textOnly Departure.lateStores }, { on := 9, ground := Ground.textOnly Departure.lateStores }, { on := 10, ground := Ground.textOnly Departure.lateStores }, { on := 11, ground := Ground.textOnly Departure.lateStores }, { on := 12, ground := Ground.textOnly Departure.lateStoresUnsure }, { on := 13, ground := Ground.textOnly Departure.lateStores }, { on := 14, ground := Ground.textOnly Departure.lateStores }, { on := 15, ground := Ground.textOnly Departure.lateStores }, { on := 16, ground := Ground.textOnly Departure.lateStores }, { on := 17, ground := Ground.textOnly Departure.lateStores }, { on := 18, ground := Ground.textOnly Departure.lateStores }], guard := none }) rfl (fun K hK => ?_) AllReadyH.nil
  go_simp
  refine hK.out _ _ ?_ (fun hHeld => ?_)
  · exact HK5.out.set _ _
  clear hK K
  (try simp only [Act.put, List.setIfInBounds_toArray, List.set_cons_zero, List.set_cons_succ])
  refine wpAnyH_take (i := 20) (v := ?vQ20) (oi := { dst := some 7, op := Op.assign (Operand.tmp 67), type := 4, pos := "law.go:43", after := #[{ on := 18, ground := Ground.data }, { on := 19, ground := Ground.chain }, { on := 0, ground := Ground.phase }, { on := 1, ground := Ground.phase }, { on := 2, ground := Ground.phase }, { on := 3, ground := Ground.phase }, { on := 4, ground := Ground.phase }, { on := 5, ground := Ground.phase }, { on := 6, ground := Ground.phase }, { on := 7, ground := Ground.phase }, { on := 8, ground := Ground.phase }, { on := 9, ground := Ground.phase }, { on := 10, ground := Ground.phase }, { on := 11, ground := Ground.phase }, { on := 12, ground := Ground.phase }, { on := 13, ground := Ground.phase }, { on := 14, ground := Ground.phase }, { on := 15, ground := Ground.phase }, { on := 16, ground := Ground.phase }, { on := 17, ground := Ground.phase }, { on := 18, ground := Ground.phase }, { on := 19, ground := Ground.phase }], guard := none }) rfl (by kernel_rfl) (by kernel_rfl) (by kernel_rfl) (fun _ _ _ h => h) (Or.inl ⟨by rfl, ?hyQ20⟩) hHeld ?restQ20
  case hyQ20 => (intro w_ hSw; clear hSw; go_simp; try with_reducible rfl)
  (try simp only [Act.put, List.setIfInBounds_toArray, List.set_cons_zero, List.set_cons_succ])
  refine wpAnyH_done (by kernel_rfl) ?_ _
  go_wp2
  refine bodyPost_ret (results_ct rfl _ _ (w.heap.size + 2) 71 #[(.slice (some ad3) l'.length cp3), .int .i64 (c + 1)] (0, 0) _ rfl ?_ Try.underlying71 rfl (by kernel_rfl)) rfl ?_
  · exact HK5.out.res _ _
  · exact ⟨_, s', l', c + 1, rfl, HP'.out, (HQ4.out.turned (HK5.out.set (.slice (some ad3) l'.length cp3) (.int .i64 (c + 1))).1).out⟩

set_option maxHeartbeats 4000000 in
set_option maxRecDepth 100000 in
theorem step_take_some1 {E : Env} {n b : Nat} {w : World} {F P : Nat → Prop} {g : Nat} {s : Tb Int} {v : Value} {l : List S82} {c : Int} (x : S30) (HP : PInv n b s l c) (hb : b ≤ 100) (h : Two E w F P g s v l) (j : Nat) (k : x.f0 = 1) (hn : slotNext s = some j) : StepCalls E w n b g v c x := by
  obtain ⟨A, cp, rfl⟩ := Kd.R_slice h.r
  have H := Aside0.mk h
  have HPP := Aside0.mk HP
  have HBB := Aside0.mk hb
  have HREAD := Aside0.mk (Kd.R_reads' h.r)
  have hlen : l.length ≤ 1024 := by rw [HP.len]; exact HP.t.n2
  have HLEN := Aside0.mk hlen
  have B4 := Aside0.mk (box0 w (.cells #[.slice A l.length cp, .int .i64 c] 71) (.cells #[.int .i64 x.f0, .int .i64 x.f1, .int .i64 x.f2, .int .i64 x.f3] 30) (.cells #[.slice none 0 0, .int .i64 0] 71))
  have B5 := Aside0.mk (box1 w (.cells #[.slice A l.length cp, .int .i64 c] 71) (.cells #[.int .i64 x.f0, .int .i64 x.f1, .int .i64 x.f2, .int .i64 x.f3] 30) (.cells #[.slice none 0 0, .int .i64 0] 71))
  have B6 := Aside0.mk (box2 w (.cells #[.slice A l.length cp, .int .i64 c] 71) (.cells #[.int .i64 x.f0, .int .i64 x.f1, .int .i64 x.f2, .int .i64 x.f3] 30) (.cells #[.slice none 0 0, .int .i64 0] 71))
  have HQ0 := Aside0.mk (TwoQ.start h (.cells #[.slice A l.length cp, .int .i64 c] 71) (.cells #[.int .i64 x.f0, .int .i64 x.f1, .int .i64 x.f2, .int .i64 x.f3] 30) (.cells #[.slice none 0 0, .int .i64 0] 71))
  have hu := Try.underlying71
  have hu2 := Try.underlying30
  have hu3 := Try.underlying82
  have e0 : (x.f0 == 0) = false := beq_eq_false_iff_ne.mpr (by omega)
  have e1 : (x.f0 == 1) = true := beq_iff_eq.mpr k
  have HW := HP.which
  rw [hn] at HW
  obtain ⟨s', r, hr, hrb, hr0, htk, hp'⟩ := HP.take (by omega) x.f3 j hn
  have hjl : j < l.length := (List.getElem?_eq_some_iff.mp hr).1
  have hwr := with_eq l hlen c j hjl x.f3 true r.f2 r.f3
  have hc0 := HP.c0
  have hc1 := HP.c1
  have ewc : wrap64 (c + 1) = c + 1 := by unfold wrap64; omega
  rw [ewc] at hwr
  have HG := Aside0.mk (show dogwatchref07_Gen.f x.f3 true r.f2 r.f3 = some (r.f2 + 1) by unfold dogwatchref07_Gen.f; congr 1; unfold wrap64; omega)
  have HTN := Aside0.mk (fun (W : World) (hW : Kd.C k82 W A l.length l) => ref_take_some 2000 A cp l c x.f3 j r _ _ W hW (Kd.R_reads' h.r).2.1 hr hlen HW hwr)
  have HTK := Aside0.mk htk
  have HP' := Aside0.mk hp'
  have HJ := Aside0.mk hjl
  obtain ⟨l', hl'⟩ : ∃ l', l' = l.set j ⟨x.f3, true, r.f2, r.f3⟩ := ⟨_, rfl⟩
  rw [← hl'] at HTN HP'
  have HLS := Aside0.mk (show l'[j]? = some ⟨x.f3, true, r.f2, r.f3⟩ by rw [hl']; exact List.getElem?_set_self hjl)
  have d9 : ((j : Int) + 1 == 0) = false := beq_eq_false_iff_ne.mpr (by omega)
  have p0 := eq_true (show (0 : Int) ≤ (j : Int) by omega)
  have ewj : wrap64 (j : Int) = (j : Int) := by unfold wrap64; omega
  clear k hn HW hwr hc0 hc1 ewc hr hrb hr0 htk hp' hjl hl'
  clear h HP hb hlen
  obtain ⟨L, hL⟩ : ∃ L, L = l.length := ⟨_, rfl⟩
  rw [← hL] at H HREAD B4 B5 B6 HQ0 HTN ⊢
  have HL := Aside0.mk hL
  clear hL
  unfold StepCalls
  go_enter Try.func38, Try.ntmps38
  go_wp2_with (first
    | (go_at_call 67; (with_reducible refine (HTN.out _ (Kd.C_alloc (Kd.C_alloc (Kd.C_alloc HREAD.out.2.2 _) _) _)).mono ?_); rintro e w3 ⟨v3, rfl, hr3, hb3⟩; obtain ⟨A3, cp3, rfl⟩ := Kd.R_slice hr3; have h5 : w3.heap[w.heap.size + 1]? = some (.cells #[.int .i64 x.f0, .int .i64 x.f1, .int .i64 x.f2, .int .i64 x.f3] 30 (0, 0)) := (hb3.block _ (by simp <;> omega)).trans B5.out; have h6 : w3.heap[w.heap.size + 2]? = some (.cells #[.slice none 0 0, .int .i64 0] 71 (0, 0)) := (hb3.block _ (by simp <;> omega)).trans B6.out; have h4 : w3.heap[w.heap.size]? = some (.cells #[.slice A L cp, .int .i64 c] 71 (0, 0)) := (hb3.block _ (by simp <;> omega)).trans B4.out; have c40 := (blk_cell h4 0).trans rfl; have c41 := (blk_cell h4 1).trans rfl; have c50 := (blk_cell h5 0).trans rfl; have c51 := (blk_cell h5 1).trans rfl; have c52 := (blk_cell h5 2).trans rfl; have c53 := (blk_cell h5 3).trans rfl; have c60 := (blk_cell h6 0).trans rfl; have c61 := (blk_cell h6 1).trans rfl; have f60 := blk_frozen h6 0; have f61 := blk_frozen h6 1; have z0 := blk_lt h4; have z1 := blk_lt h5; have z2 := blk_lt h6; have H6 := Aside0.mk h6; have Z2 := Aside0.mk z2; have HQ3 := Aside0.mk (HQ0.out.anew hb3 hr3); clear hb3 hr3 h4 h5 h6)
    | (go_at_call 19; (with_reducible refine (take_exI (HQ3.out.below (below_alloc (Below.refl _ w3) _)).two.t HTK.out).mono ?_); rintro e w4 ⟨rfl, hr4, ht4⟩; have h8 : w4.heap[w3.heap.size]? = some (.cells #[.slice A3 l'.length cp3, .int .i64 (c + 1)] 71 (0, 0)) := blk_kept (heap_alloc_new w3 _) ht4.kept (TwoQ.more E HQ3.out _ (Nat.le_refl _)); have h6 : w4.heap[w.heap.size + 2]? = some (.cells #[.slice none 0 0, .int .i64 0] 71 (0, 0)) := blk_kept ((Below.heap_alloc _ _ _ Z2.out).trans H6.out) ht4.kept HQ3.out.nf; have Z80 := Aside0.mk ((blk_cell h8 0).trans rfl); have Z81 := Aside0.mk ((blk_cell h8 1).trans rfl); have H64 := Aside0.mk h6; have HQ4 := Aside0.mk ((HQ3.out.below (below_alloc (Below.refl _ w3) (.cells #[.slice A3 l'.length cp3, .int .i64 (c + 1)] 71))).table (hr4.mono (fun k hk => .inl hk)) ht4); clear hr4 ht4 h8 h6))
  have N8 := Aside0.mk (show w3.heap.size ≠ w.heap.size + 2 by have := Z2.out; omega)
  obtain ⟨ad3, eA3, ze⟩ := at82 (Kd.R_reads' HQ4.out.two.r).2.2 j _ HLS.out
  have HNE := HQ4.out.np
  have HOWN := HQ4.out.two.r.1
  have ne : (ad3.add (j * 4)).block ≠ w.heap.size + 2 := by
    rw [add_block]
    intro e
    exact HNE (HOWN _ (by rw [eA3, ← e]; rfl))
  have NE := Aside0.mk ne
  have ZE := Aside0.mk ze
  subst eA3
  have q5 := eq_true (show (j : Int) < (l'.length : Int) by have := (List.getElem?_eq_some_iff.mp HLS.out).1; omega)
  have ewi := (i64_w (j : Int)).trans ewj
  clear ne ze HNE HOWN
  refine wp_region_held_drew (S := Kp w4 (w.heap.size + 2)) (by kernel_rfl) (Kp.start H64.out) (fun hHeld => ?_)
  refine wpAnyH_take (i := 0) (v := ?vQ0) (oi := { dst := some 49, op := Op.load 71 (Operand.tmp 8), type := 71, pos := "law.go:43", after := #[], guard := none }) rfl (by kernel_rfl) (by kernel_rfl) (by kernel_rfl) (fun _ _ _ h => h) (Or.inl ⟨by rfl, ?hyQ0⟩) hHeld ?restQ0
  case hyQ0 => (intro w_ hSw; have d0 := hSw.cell Z80.out N8.out; have d1 := hSw.cell Z81.out N8.out; clear hSw; go_simp; try with_reducible rfl)
  (try simp only [Act.put, List.setIfInBounds_toArray, List.set_cons_zero, List.set_cons_succ])
  refine wpAnyH_take (i := 1) (v := ?vQ1) (oi := { dst := some 50, op := Op.move (Operand.tmp 10), type := 3, pos := "law.go:43", after := #[], guard := none }) rfl (by kernel_rfl) (by kernel_rfl) (by kernel_rfl) (fun _ _ _ h => h) (Or.inl ⟨by rfl, ?hyQ1⟩) hHeld ?restQ1
  case hyQ1 => (intro w_ hSw; clear hSw; go_simp; try with_reducible rfl)
  (try simp only [Act.put, List.setIfInBounds_toArray, List.set_cons_zero, List.set_cons_succ])
  refine wpAnyH_take (i := 2) (v := ?vQ2) (oi := { dst := some 51, op := Op.move (Operand.tmp 9), type := 3, pos := "law.go:43", after := #[], guard := none }) rfl (by kernel_rfl) (by kernel_rfl) (by kernel_rfl) (fun _ _ _ h => h) (Or.inl ⟨by rfl, ?hyQ2⟩) hHeld ?restQ2
  case hyQ2 => (intro w_ hSw; clear hSw; go_simp; try with_reducible rfl)
  (try simp only [Act.put, List.setIfInBounds_toArray, List.set_cons_zero, List.set_cons_succ])
  refine wpAnyH_take (i := 3) (v := ?vQ3) (oi := { dst := some 52, op := Op.binOp BinOp.eql 3 (Operand.tmp 50) (Operand.tmp 51) 3, type := 4, pos := "law.go:43", after := #[{ on := 1, ground := Ground.data }, { on := 2, ground := Ground.data }], guard := none }) rfl (by kernel_rfl) (by kernel_rfl) (by kernel_rfl) (fun _ _ _ h => h) (Or.inl ⟨by rfl, ?hyQ3⟩) hHeld ?restQ3
  case hyQ3 => (intro w_ hSw; clear hSw; go_simp; try with_reducible rfl)
  (try simp only [Act.put, List.setIfInBounds_toArray, List.set_cons_zero, List.set_cons_succ])
  refine wpAnyH_take (i := 4) (v := ?vQ4) (oi := { dst := some 53, op := Op.move (Operand.tmp 52), type := 4, pos := "law.go:43", after := #[{ on := 3, ground := Ground.data }], guard := none }) rfl (by kernel_rfl) (by kernel_rfl) (by kernel_rfl) (fun _ _ _ h => h) (Or.inl ⟨by rfl, ?hyQ4⟩) hHeld ?restQ4
  case hyQ4 => (intro w_ hSw; clear hSw; go_simp; try with_reducible rfl)
  (try simp only [Act.put, List.setIfInBounds_toArray, List.set_cons_zero, List.set_cons_succ])
  refine wpAnyH_take (i := 5) (v := ?vQ5) (oi := { dst := some 54, op := Op.move (Operand.tmp 11), type := 3, pos := "law.go:43", after := #[{ on := 4, ground := Ground.guard }], guard := some (4, true) }) rfl (by kernel_rfl) (by kernel_rfl) (by kernel_rfl) (fun _ _ _ h => h) (Or.inl ⟨by rfl, ?hyQ5⟩) hHeld ?restQ5
  case hyQ5 => (intro w_ hSw; clear hSw; go_simp; try with_reducible rfl)
  (try simp only [Act.put, List.setIfInBounds_toArray, List.set_cons_zero, List.set_cons_succ])
  refine wpAnyH_take (i := 6) (v := ?vQ6) (oi := { dst := some 55, op := Op.fieldAddr 71 (Operand.tmp 8) 0, type := 0, pos := "law.go:43", after := #[{ on := 4, ground := Ground.guard }], guard := some (4, true) }) rfl (by kernel_rfl) (by kernel_rfl) (by kernel_rfl) (fun _ _ _ h => h) (Or.inl ⟨by rfl, ?hyQ6⟩) hHeld ?restQ6
  case hyQ6 => (intro w_ hSw; clear hSw; go_simp; try with_reducible rfl)
  (try simp only [Act.put, List.setIfInBounds_toArray, List.set_cons_zero, List.set_cons_succ])
  refine wpAnyH_take (i := 7) (v := ?vQ7) (oi := { dst := some 56, op := Op.load 69 (Operand.tmp 55), type := 69, pos := "law.go:43", after := #[{ on := 6, ground := Ground.data }, { on := 4, ground := Ground.guard }], guard := some (4, true) }) rfl (by kernel_rfl) (by kernel_rfl) (by kernel_rfl) (fun _ _ _ h => h) (Or.inl ⟨by rfl, ?hyQ7⟩) hHeld ?restQ7
  case hyQ7 => (intro w_ hSw; have d0 := hSw.cell Z80.out N8.out; have d1 := hSw.cell Z81.out N8.out; clear hSw; go_simp; try with_reducible rfl)
  (try simp only [Act.put, List.setIfInBounds_toArray, List.set_cons_zero, List.set_cons_succ])
  refine wpAnyH_take (i := 8) (v := ?vQ8) (oi := { dst := some 57, op := Op.move (Operand.tmp 9), type := 3, pos := "law.go:43", after := #[{ on := 4, ground := Ground.guard }], guard := some (4, true) }) rfl (by kernel_rfl) (by kernel_rfl) (by kernel_rfl) (fun _ _ _ h => h) (Or.inl ⟨by rfl, ?hyQ8⟩) hHeld ?restQ8
  case hyQ8 => (intro w_ hSw; clear hSw; go_simp; try with_reducible rfl)
  (try simp only [Act.put, List.setIfInBounds_toArray, List.set_cons_zero, List.set_cons_succ])
  refine wpAnyH_take (i := 9) (v := ?vQ9) (oi := { dst := some 58, op := Op.binOp BinOp.sub 3 (Operand.tmp 57) (Operand.const (Value.int IntKind.i64 1)) 3, type := 3, pos := "law.go:43", after := #[{ on := 8, ground := Ground.data }, { on := 4, ground := Ground.guard }], guard := some (4, true) }) rfl (by kernel_rfl) (by kernel_rfl) (by kernel_rfl) (fun _ _ _ h => h) (Or.inl ⟨by rfl, ?hyQ9⟩) hHeld ?restQ9
  case hyQ9 => (intro w_ hSw; clear hSw; go_simp; try with_reducible rfl)
  (try simp only [Act.put, List.setIfInBounds_toArray, List.set_cons_zero, List.set_cons_succ])
  refine wpAnyH_take (i := 10) (v := ?vQ10) (oi := { dst := some 59, op := Op.indexAddr 69 (Operand.tmp 56) (Operand.tmp 58), type := 0, pos := "law.go:43", after := #[{ on := 7, ground := Ground.data }, { on := 9, ground := Ground.data }, { on := 4, ground := Ground.guard }], guard := some (4, true) }) rfl (by kernel_rfl) (by kernel_rfl) (by kernel_rfl) (fun _ _ _ h => h) (Or.inl ⟨by rfl, ?hyQ10⟩) hHeld ?restQ10
  case hyQ10 => (intro w_ hSw; clear hSw; go_simp; try with_reducible rfl)
  (try simp only [Act.put, List.setIfInBounds_toArray, List.set_cons_zero, List.set_cons_succ])
  refine wpAnyH_take (i := 11) (v := ?vQ11) (oi := { dst := some 60, op := Op.load 82 (Operand.tmp 59), type := 82, pos := "law.go:43", after := #[{ on := 10, ground := Ground.data }, { on := 4, ground := Ground.guard }], guard := some (4, true) }) rfl (by kernel_rfl) (by kernel_rfl) (by kernel_rfl) (fun _ _ _ h => h) (Or.inl ⟨by rfl, ?hyQ11⟩) hHeld ?restQ11
  case hyQ11 => (intro w_ hSw; have d0 := hSw.cell ZE.out.1 NE.out; have d1 := hSw.cell ZE.out.2.1 NE.out; have d2 := hSw.cell ZE.out.2.2.1 NE.out; have d3 := hSw.cell ZE.out.2.2.2 NE.out; clear hSw; go_simp; try with_reducible rfl)
  (try simp only [Act.put, List.setIfInBounds_toArray, List.set_cons_zero, List.set_cons_succ])
  refine wpAnyH_ready (rs := [12]) (by kernel_rfl) (by simp) ?_
  refine AllReadyH.cons (o := { dst := some 61, op := Op.call { callee := Callee.value (Operand.func 44), args := #[Operand.tmp 60], argTypes := #[82] }, type := 3, pos := "law.go:43", after := #[{ on := 11, ground := Ground.data }, { on := 4, ground := Ground.chain }, { on := 4, ground := Ground.guard }], guard := some (4, true) }) rfl (fun K hK => ?_) AllReadyH.nil
  go_simp
  with_reducible refine (dogwatchref07_Gen.calls x.f3 true r.f2 r.f3 (r.f2 + 1) _ HG.out).mono ?_
  rintro e w5 ⟨rfl, hb5⟩
  have HK5 := Aside0.mk (hHeld.below hb5)
  clear hb5
  refine hK.out _ _ ?_ (fun hHeld => ?_)
  · exact HK5.out
  clear hK K
  (try simp only [Act.put, List.setIfInBounds_toArray, List.set_cons_zero, List.set_cons_succ])
  refine wpAnyH_take (i := 13) (v := ?vQ13) (oi := { dst := some 62, op := Op.binOp BinOp.eql 3 (Operand.tmp 54) (Operand.tmp 61) 3, type := 4, pos := "law.go:43", after := #[{ on := 5, ground := Ground.data }, { on := 12, ground := Ground.data }, { on := 4, ground := Ground.guard }], guard := some (4, true) }) rfl (by kernel_rfl) (by kernel_rfl) (by kernel_rfl) (fun _ _ _ h => h) (Or.inl ⟨by rfl, ?hyQ13⟩) hHeld ?restQ13
  case hyQ13 => (intro w_ hSw; clear hSw; go_simp; try with_reducible rfl)
  (try simp only [Act.put, List.setIfInBounds_toArray, List.set_cons_zero, List.set_cons_succ])
  refine wpAnyH_take (i := 14) (v := ?vQ14) (oi := { dst := some 63, op := Op.pick (Operand.tmp 53) (Operand.tmp 62) (Operand.const (Value.bool false)), type := 4, pos := "law.go:43", after := #[{ on := 4, ground := Ground.data }, { on := 13, ground := Ground.data }], guard := none }) rfl (by kernel_rfl) (by kernel_rfl) (by kernel_rfl) (fun _ _ _ h => h) (Or.inl ⟨by rfl, ?hyQ14⟩) hHeld ?restQ14
  case hyQ14 => (intro w_ hSw; clear hSw; go_simp; try with_reducible rfl)
  (try simp only [Act.put, List.setIfInBounds_toArray, List.set_cons_zero, List.set_cons_succ])
  refine wpAnyH_take (i := 15) (v := ?vQ15) (oi := { dst := some 64, op := Op.move (Operand.tmp 63), type := 4, pos := "law.go:43", after := #[{ on := 14, ground := Ground.data }, { on := 12, ground := Ground.chain }], guard := none }) rfl (by kernel_rfl) (by kernel_rfl) (by kernel_rfl) (fun _ _ _ h => h) (Or.inl ⟨by rfl, ?hyQ15⟩) hHeld ?restQ15
  case hyQ15 => (intro w_ hSw; clear hSw; go_simp; try with_reducible rfl)
  (try simp only [Act.put, List.setIfInBounds_toArray, List.set_cons_zero, List.set_cons_succ])
  refine wpAnyH_take (i := 16) (v := ?vQ16) (oi := { dst := some 65, op := Op.move (Operand.tmp 12), type := 24, pos := "law.go:43", after := #[{ on := 15, ground := Ground.guard }, { on := 19, ground := Ground.gcOnly Departure.lateStores }], guard := some (15, true) }) rfl (by kernel_rfl) (by kernel_rfl) (by kernel_rfl) (fun _ _ _ h => h) (Or.inl ⟨by rfl, ?hyQ16⟩) hHeld ?restQ16
  case hyQ16 => (intro w_ hSw; clear hSw; go_simp; try with_reducible rfl)
  (try simp only [Act.put, List.setIfInBounds_toArray, List.set_cons_zero, List.set_cons_succ])
  refine wpAnyH_take (i := 17) (v := ?vQ17) (oi := { dst := some 66, op := Op.binOp BinOp.eql 24 (Operand.tmp 65) (Operand.const (Value.int IntKind.i64 0)) 24, type := 4, pos := "law.go:43", after := #[{ on := 16, ground := Ground.data }, { on := 15, ground := Ground.guard }, { on := 19, ground := Ground.gcOnly Departure.lateStores }], guard := some (15, true) }) rfl (by kernel_rfl) (by kernel_rfl) (by kernel_rfl) (fun _ _ _ h => h) (Or.inl ⟨by rfl, ?hyQ17⟩) hHeld ?restQ17
  case hyQ17 => (intro w_ hSw; clear hSw; go_simp; try with_reducible rfl)
  (try simp only [Act.put, List.setIfInBounds_toArray, List.set_cons_zero, List.set_cons_succ])
  refine wpAnyH_take (i := 18) (v := ?vQ18) (oi := { dst := some 67, op := Op.pick (Operand.tmp 64) (Operand.tmp 66) (Operand.const (Value.bool false)), type := 4, pos := "law.go:43", after := #[{ on := 15, ground := Ground.data }, { on := 17, ground := Ground.data }, { on := 19, ground := Ground.gcOnly Departure.lateStores }], guard := none }) rfl (by kernel_rfl) (by kernel_rfl) (by kernel_rfl) (fun _ _ _ h => h) (Or.inl ⟨by rfl, ?hyQ18⟩) hHeld ?restQ18
  case hyQ18 => (intro w_ hSw; clear hSw; go_simp; try with_reducible rfl)
  (try simp only [Act.put, List.setIfInBounds_toArray, List.set_cons_zero, List.set_cons_succ])
  obtain ⟨fa, fb, g0, g1, g2, g3⟩ := HK5.out.facts
  refine wpAnyH_ready (rs := [19]) (by kernel_rfl) (by simp) ?_
  refine AllReadyH.cons (o := { dst := none, op := Op.store 71 (Operand.tmp 6) (Operand.tmp 49), type := 0, pos := "law.go:43", after := #[{ on := 0, ground := Ground.data }, { on := 15, ground := Ground.chain }, { on := 0, ground := Ground.phase }, { on := 1, ground := Ground.textOnly Departure.lateStores }, { on := 2, ground := Ground.textOnly Departure.lateStores }, { on := 3, ground := Ground.textOnly Departure.lateStores }, { on := 4, ground := Ground.textOnly Departure.lateStores }, { on := 5, ground := Ground.textOnly Departure.lateStores }, { on := 6, ground := Ground.textOnly Departure.lateStores }, { on := 7, ground := Ground.textOnly Departure.lateStores }, { on := 8, ground := Ground.textOnly Departure.lateStores }, { on := 9, ground := Ground.textOnly Departure.lateStores }, { on := 10, ground := Ground.textOnly Departure.lateStores }, { on := 11, ground := Ground.textOnly Departure.lateStores }, { on := 12, ground := Ground.textOnly Departure.lateStoresUnsure }, { on := 13, ground := Ground.textOnly Departure.lateStores }, { on := 14, ground := Ground.textOnly Departure.lateStores }, { on := 15, ground := Ground.textOnly Departure.lateStores }, { on := 16, ground := Ground.textOnly Departure.lateStores }, { on := 17, ground := Ground.textOnly Departure.lateStores }, { on := 18, ground := Ground.textOnly Departure.lateStores }], guard := none }) rfl (fun K hK => ?_) AllReadyH.nil
  go_simp
  refine hK.out _ _ ?_ (fun hHeld => ?_)
  · exact HK5.out.set _ _
  clear hK K
  (try simp only [Act.put, List.setIfInBounds_toArray, List.set_cons_zero, List.set_cons_succ])
  refine wpAnyH_take (i := 20) (v := ?vQ20) (oi := { dst := some 7, op := Op.assign (Operand.tmp 67), type := 4, pos := "law.go:43", after := #[{ on := 18, ground := Ground.data }, { on := 19, ground := Ground.chain }, { on := 0, ground := Ground.phase }, { on := 1, ground := Ground.phase }, { on := 2, ground := Ground.phase }, { on := 3, ground := Ground.phase }, { on := 4, ground := Ground.phase }, { on := 5, ground := Ground.phase }, { on := 6, ground := Ground.phase }, { on := 7, ground := Ground.phase }, { on := 8, ground := Ground.phase }, { on := 9, ground := Ground.phase }, { on := 10, ground := Ground.phase }, { on := 11, ground := Ground.phase }, { on := 12, ground := Ground.phase }, { on := 13, ground := Ground.phase }, { on := 14, ground := Ground.phase }, { on := 15, ground := Ground.phase }, { on := 16, ground := Ground.phase }, { on := 17, ground := Ground.phase }, { on := 18, ground := Ground.phase }, { on := 19, ground := Ground.phase }], guard := none }) rfl (by kernel_rfl) (by kernel_rfl) (by kernel_rfl) (fun _ _ _ h => h) (Or.inl ⟨by rfl, ?hyQ20⟩) hHeld ?restQ20
  case hyQ20 => (intro w_ hSw; clear hSw; go_simp; try with_reducible rfl)
  (try simp only [Act.put, List.setIfInBounds_toArray, List.set_cons_zero, List.set_cons_succ])
  refine wpAnyH_done (by kernel_rfl) ?_ _
  go_wp2
  refine bodyPost_ret (results_ct rfl _ _ (w.heap.size + 2) 71 #[(.slice (some ad3) l'.length cp3), .int .i64 (c + 1)] (0, 0) _ rfl ?_ Try.underlying71 rfl (by kernel_rfl)) rfl ?_
  · exact HK5.out.res _ _
  · exact ⟨_, s', l', c + 1, rfl, HP'.out, (HQ4.out.turned (HK5.out.set (.slice (some ad3) l'.length cp3) (.int .i64 (c + 1))).1).out⟩

set_option maxHeartbeats 4000000 in
set_option maxRecDepth 100000 in
theorem step_drop_none2 {E : Env} {n b : Nat} {w : World} {F P : Nat → Prop} {g : Nat} {s : Tb Int} {v : Value} {l : List S82} {c : Int} (x : S30) (HP : PInv n b s l c) (hb : b ≤ 100) (h : Two E w F P g s v l) (k : x.f0 = 2) (hlk : I.look s x.f1 = none) : StepCalls E w n b g v c x := by
  obtain ⟨A, cp, rfl⟩ := Kd.R_slice h.r
  have H := Aside0.mk h
  have HPP := Aside0.mk HP
  have HBB := Aside0.mk hb
  have HREAD := Aside0.mk (Kd.R_reads' h.r)
  have hlen : l.length ≤ 1024 := by rw [HP.len]; exact HP.t.n2
  have HLEN := Aside0.mk hlen
  have B4 := Aside0.mk (box0 w (.cells #[.slice A l.length cp, .int .i64 c] 71) (.cells #[.int .i64 x.f0, .int .i64 x.f1, .int .i64 x.f2, .int .i64 x.f3] 30) (.cells #[.slice none 0 0, .int .i64 0] 71))
  have B5 := Aside0.mk (box1 w (.cells #[.slice A l.length cp, .int .i64 c] 71) (.cells #[.int .i64 x.f0, .int .i64 x.f1, .int .i64 x.f2, .int .i64 x.f3] 30) (.cells #[.slice none 0 0, .int .i64 0] 71))
  have B6 := Aside0.mk (box2 w (.cells #[.slice A l.length cp, .int .i64 c] 71) (.cells #[.int .i64 x.f0, .int .i64 x.f1, .int .i64 x.f2, .int .i64 x.f3] 30) (.cells #[.slice none 0 0, .int .i64 0] 71))
  have HQ0 := Aside0.mk (TwoQ.start h (.cells #[.slice A l.length cp, .int .i64 c] 71) (.cells #[.int .i64 x.f0, .int .i64 x.f1, .int .i64 x.f2, .int .i64 x.f3] 30) (.cells #[.slice none 0 0, .int .i64 0] 71))
  have hu := Try.underlying71
  have hu2 := Try.underlying30
  have hu3 := Try.underlying82
  have e0 : (x.f0 == 0) = false := beq_eq_false_iff_ne.mpr (by omega)
  have e1 : (x.f0 == 1) = false := beq_eq_false_iff_ne.mpr (by omega)
  have e2 : (x.f0 == 2) = true := beq_iff_eq.mpr k
  have HFB := Aside0.mk (show s.free.length < 1000000 by have := HP.t.fb; omega)
  have HTH := Aside0.mk (fun (W : World) (hW : Kd.C k82 W A l.length l) => dogwatchref07_Has.calls A cp l c x.f1 false W hW (Kd.R_reads' h.r).2.1 (by rw [HP.has, hlk]; rfl))
  have HTD := Aside0.mk (show I.dropF s x.f1 x.f2 = (s, 10) by unfold I.dropF; rw [hlk])
  clear k hlk
  clear h HP hb hlen
  obtain ⟨L, hL⟩ : ∃ L, L = l.length := ⟨_, rfl⟩
  rw [← hL] at H HREAD B4 B5 B6 HQ0 HTH ⊢
  have HL := Aside0.mk hL
  clear hL
  unfold StepCalls
  go_enter Try.func38, Try.ntmps38
  go_wp2_with (go_at_call 17; (with_reducible refine (drop_exI HQ0.out.two.t HFB.out HTD.out).mono ?_); rintro e w3 ⟨rfl, hr3, ht3⟩; have h5 : w3.heap[w.heap.size + 1]? = some (.cells #[.int .i64 x.f0, .int .i64 x.f1, .int .i64 x.f2, .int .i64 x.f3] 30 (0, 0)) := blk_kept B5.out ht3.kept (H.out.more _ (by omega)); have h6 : w3.heap[w.heap.size + 2]? = some (.cells #[.slice none 0 0, .int .i64 0] 71 (0, 0)) := blk_kept B6.out ht3.kept (H.out.more _ (by omega)); have h4 : w3.heap[w.heap.size]? = some (.cells #[.slice A L cp, .int .i64 c] 71 (0, 0)) := blk_kept B4.out ht3.kept (H.out.more _ (by omega)); have Z4 := Aside0.mk (And.intro ((blk_cell h4 0).trans rfl) ((blk_cell h4 1).trans rfl)); have Z5 := Aside0.mk (And.intro ((blk_cell h5 0).trans rfl) (And.intro ((blk_cell h5 1).trans rfl) ((blk_cell h5 2).trans rfl))); have H63 := Aside0.mk h6; have HQ3 := Aside0.mk (HQ0.out.table hr3 ht3); clear hr3 ht3 h4 h5 h6)
  have N4 := Aside0.mk (show w.heap.size ≠ w.heap.size + 2 by omega)
  have N5 := Aside0.mk (show w.heap.size + 1 ≠ w.heap.size + 2 by omega)
  have HC3 := Aside0.mk (fun (w' : World) (hk : Kp w3 (w.heap.size + 2) w') => (Kd.R_reads' (HQ3.out.turned hk.1).two.r).2.2)
  rw [← HL.out] at HC3
  refine wp_region_held_drew (S := Kp w3 (w.heap.size + 2)) (by kernel_rfl) (Kp.start H63.out) (fun hHeld => ?_)
  refine wpAnyH_take (i := 0) (v := ?vN0) (oi := { dst := some 77, op := Op.load 71 (Operand.tmp 4), type := 71, pos := "law.go:46", after := #[], guard := none }) rfl (by kernel_rfl) (by kernel_rfl) (by kernel_rfl) (fun _ _ _ h => h) (Or.inl ⟨by rfl, ?hyN0⟩) hHeld ?restN0
  case hyN0 => (intro w_ hSw; have d0 := hSw.cell Z4.out.1 N4.out; have d1 := hSw.cell Z4.out.2 N4.out; clear hSw; go_simp; try with_reducible rfl)
  (try simp only [Act.put, List.setIfInBounds_toArray, List.set_cons_zero, List.set_cons_succ])
  refine wpAnyH_take (i := 1) (v := ?vN1) (oi := { dst := some 78, op := Op.fieldAddr 30 (Operand.tmp 5) 1, type := 0, pos := "law.go:46", after := #[], guard := none }) rfl (by kernel_rfl) (by kernel_rfl) (by kernel_rfl) (fun _ _ _ h => h) (Or.inl ⟨by rfl, ?hyN1⟩) hHeld ?restN1
  case hyN1 => (intro w_ hSw; clear hSw; go_simp; try with_reducible rfl)
  (try simp only [Act.put, List.setIfInBounds_toArray, List.set_cons_zero, List.set_cons_succ])
  refine wpAnyH_take (i := 2) (v := ?vN2) (oi := { dst := some 79, op := Op.load 3 (Operand.tmp 78), type := 3, pos := "law.go:46", after := #[{ on := 1, ground := Ground.data }], guard := none }) rfl (by kernel_rfl) (by kernel_rfl) (by kernel_rfl) (fun _ _ _ h => h) (Or.inl ⟨by rfl, ?hyN2⟩) hHeld ?restN2
  case hyN2 => (intro w_ hSw; have d0 := hSw.cell Z5.out.1 N5.out; have d1 := hSw.cell Z5.out.2.1 N5.out; have d2 := hSw.cell Z5.out.2.2 N5.out; clear hSw; go_simp; try with_reducible rfl)
  (try simp only [Act.put, List.setIfInBounds_toArray, List.set_cons_zero, List.set_cons_succ])
  refine wpAnyH_ready (rs := [3]) (by kernel_rfl) (by simp) ?_
  refine AllReadyH.cons (o := { dst := some 80, op := Op.call { callee := Callee.value (Operand.func 43), args := #[Operand.tmp 77, Operand.tmp 79], argTypes := #[71, 3] }, type := 4, pos := "law.go:46", after := #[{ on := 0, ground := Ground.data }, { on := 2, ground := Ground.data }], guard := none }) rfl (fun K hK => ?_) AllReadyH.nil
  go_simp
  with_reducible refine (HTH.out _ (HC3.out _ hHeld)).mono ?_
  rintro e w4 ⟨rfl, hb4⟩
  have HK4 := Aside0.mk (hHeld.below hb4)
  clear hb4
  refine hK.out _ _ ?_ (fun hHeld => ?_)
  · exact HK4.out
  clear hK K
  (try simp only [Act.put, List.setIfInBounds_toArray, List.set_cons_zero, List.set_cons_succ])
  refine wpAnyH_take (i := 4) (v := ?vN4) (oi := { dst := some 81, op := Op.unOp UnOp.not 4 (Operand.tmp 80), type := 4, pos := "law.go:46", after := #[{ on := 3, ground := Ground.data }], guard := none }) rfl (by kernel_rfl) (by kernel_rfl) (by kernel_rfl) (fun _ _ _ h => h) (Or.inl ⟨by rfl, ?hyN4⟩) hHeld ?restN4
  case hyN4 => (intro w_ hSw; clear hSw; go_simp; try with_reducible rfl)
  (try simp only [Act.put, List.setIfInBounds_toArray, List.set_cons_zero, List.set_cons_succ])
  refine wpAnyH_take (i := 5) (v := ?vN5) (oi := { dst := some 82, op := Op.move (Operand.tmp 81), type := 4, pos := "law.go:46", after := #[{ on := 4, ground := Ground.data }, { on := 3, ground := Ground.chain }], guard := none }) rfl (by kernel_rfl) (by kernel_rfl) (by kernel_rfl) (fun _ _ _ h => h) (Or.inl ⟨by rfl, ?hyN5⟩) hHeld ?restN5
  case hyN5 => (intro w_ hSw; clear hSw; go_simp; try with_reducible rfl)
  (try simp only [Act.put, List.setIfInBounds_toArray, List.set_cons_zero, List.set_cons_succ])
  refine wpAnyH_take (i := 6) (v := undef) (oi := { dst := some 83, op := Op.fieldAddr 71 (Operand.tmp 4) 0, type := 0, pos := "law.go:46", after := #[{ on := 5, ground := Ground.guard }], guard := some (5, false) }) rfl (by kernel_rfl) (by kernel_rfl) (by kernel_rfl) (fun _ _ _ h => h) (Or.inr ⟨by rfl, rfl⟩) hHeld ?restN6
  (try simp only [Act.put, List.setIfInBounds_toArray, List.set_cons_zero, List.set_cons_succ])
  refine wpAnyH_take (i := 7) (v := undef) (oi := { dst := some 84, op := Op.load 69 (Operand.tmp 83), type := 69, pos := "law.go:46", after := #[{ on := 6, ground := Ground.data }, { on := 5, ground := Ground.guard }], guard := some (5, false) }) rfl (by kernel_rfl) (by kernel_rfl) (by kernel_rfl) (fun _ _ _ h => h) (Or.inr ⟨by rfl, rfl⟩) hHeld ?restN7
  (try simp only [Act.put, List.setIfInBounds_toArray, List.set_cons_zero, List.set_cons_succ])
  refine wpAnyH_take (i := 8) (v := undef) (oi := { dst := some 85, op := Op.fieldAddr 30 (Operand.tmp 5) 1, type := 0, pos := "law.go:46", after := #[{ on := 5, ground := Ground.guard }], guard := some (5, false) }) rfl (by kernel_rfl) (by kernel_rfl) (by kernel_rfl) (fun _ _ _ h => h) (Or.inr ⟨by rfl, rfl⟩) hHeld ?restN8
  (try simp only [Act.put, List.setIfInBounds_toArray, List.set_cons_zero, List.set_cons_succ])
  refine wpAnyH_take (i := 9) (v := undef) (oi := { dst := some 86, op := Op.load 3 (Operand.tmp 85), type := 3, pos := "law.go:46", after := #[{ on := 8, ground := Ground.data }, { on := 5, ground := Ground.guard }], guard := some (5, false) }) rfl (by kernel_rfl) (by kernel_rfl) (by kernel_rfl) (fun _ _ _ h => h) (Or.inr ⟨by rfl, rfl⟩) hHeld ?restN9
  (try simp only [Act.put, List.setIfInBounds_toArray, List.set_cons_zero, List.set_cons_succ])
  refine wpAnyH_take (i := 10) (v := undef) (oi := { dst := some 87, op := Op.binOp BinOp.sub 3 (Operand.tmp 86) (Operand.const (Value.int IntKind.i64 1)) 3, type := 3, pos := "law.go:46", after := #[{ on := 9, ground := Ground.data }, { on := 5, ground := Ground.guard }], guard := some (5, false) }) rfl (by kernel_rfl) (by kernel_rfl) (by kernel_rfl) (fun _ _ _ h => h) (Or.inr ⟨by rfl, rfl⟩) hHeld ?restN10
  (try simp only [Act.put, List.setIfInBounds_toArray, List.set_cons_zero, List.set_cons_succ])
  refine wpAnyH_take (i := 11) (v := undef) (oi := { dst := some 88, op := Op.indexAddr 69 (Operand.tmp 84) (Operand.tmp 87), type := 0, pos := "law.go:46", after := #[{ on := 7, ground := Ground.data }, { on := 10, ground := Ground.data }, { on := 5, ground := Ground.guard }], guard := some (5, false) }) rfl (by kernel_rfl) (by kernel_rfl) (by kernel_rfl) (fun _ _ _ h => h) (Or.inr ⟨by rfl, rfl⟩) hHeld ?restN11
  (try simp only [Act.put, List.setIfInBounds_toArray, List.set_cons_zero, List.set_cons_succ])
  refine wpAnyH_take (i := 12) (v := undef) (oi := { dst := some 89, op := Op.load 82 (Operand.tmp 88), type := 82, pos := "law.go:46", after := #[{ on := 11, ground := Ground.data }, { on := 5, ground := Ground.guard }], guard := some (5, false) }) rfl (by kernel_rfl) (by kernel_rfl) (by kernel_rfl) (fun _ _ _ h => h) (Or.inr ⟨by rfl, rfl⟩) hHeld ?restN12
  (try simp only [Act.put, List.setIfInBounds_toArray, List.set_cons_zero, List.set_cons_succ])
  refine wpAnyH_take (i := 13) (v := undef) (oi := { dst := some 90, op := Op.call { callee := Callee.value (Operand.func 44), args := #[Operand.tmp 89], argTypes := #[82] }, type := 3, pos := "law.go:46", after := #[{ on := 12, ground := Ground.data }, { on := 5, ground := Ground.chain }, { on := 5, ground := Ground.guard }], guard := some (5, false) }) rfl (by kernel_rfl) (by kernel_rfl) (by kernel_rfl) (fun _ _ _ h => h) (Or.inr ⟨by rfl, rfl⟩) hHeld ?restN13
  (try simp only [Act.put, List.setIfInBounds_toArray, List.set_cons_zero, List.set_cons_succ])
  refine wpAnyH_take (i := 14) (v := undef) (oi := { dst := some 91, op := Op.fieldAddr 30 (Operand.tmp 5) 2, type := 0, pos := "law.go:46", after := #[{ on := 5, ground := Ground.guard }], guard := some (5, false) }) rfl (by kernel_rfl) (by kernel_rfl) (by kernel_rfl) (fun _ _ _ h => h) (Or.inr ⟨by rfl, rfl⟩) hHeld ?restN14
  (try simp only [Act.put, List.setIfInBounds_toArray, List.set_cons_zero, List.set_cons_succ])
  refine wpAnyH_take (i := 15) (v := undef) (oi := { dst := some 92, op := Op.load 3 (Operand.tmp 91), type := 3, pos := "law.go:46", after := #[{ on := 14, ground := Ground.data }, { on := 5, ground := Ground.guard }], guard := some (5, false) }) rfl (by kernel_rfl) (by kernel_rfl) (by kernel_rfl) (fun _ _ _ h => h) (Or.inr ⟨by rfl, rfl⟩) hHeld ?restN15
  (try simp only [Act.put, List.setIfInBounds_toArray, List.set_cons_zero, List.set_cons_succ])
  refine wpAnyH_take (i := 16) (v := undef) (oi := { dst := some 93, op := Op.binOp BinOp.neq 3 (Operand.tmp 90) (Operand.tmp 92) 3, type := 4, pos := "law.go:46", after := #[{ on := 13, ground := Ground.data }, { on := 15, ground := Ground.data }, { on := 5, ground := Ground.guard }], guard := some (5, false) }) rfl (by kernel_rfl) (by kernel_rfl) (by kernel_rfl) (fun _ _ _ h => h) (Or.inr ⟨by rfl, rfl⟩) hHeld ?restN16
  (try simp only [Act.put, List.setIfInBounds_toArray, List.set_cons_zero, List.set_cons_succ])
  refine wpAnyH_take (i := 17) (v := ?vN17) (oi := { dst := some 94, op := Op.pick (Operand.tmp 82) (Operand.const (Value.bool true)) (Operand.tmp 93), type := 4, pos := "law.go:46", after := #[{ on := 5, ground := Ground.data }, { on := 16, ground := Ground.data }], guard := none }) rfl (by kernel_rfl) (by kernel_rfl) (by kernel_rfl) (fun _ _ _ h => h) (Or.inl ⟨by rfl, ?hyN17⟩) hHeld ?restN17
  case hyN17 => (intro w_ hSw; clear hSw; go_simp; try with_reducible rfl)
  (try simp only [Act.put, List.setIfInBounds_toArray, List.set_cons_zero, List.set_cons_succ])
  refine wpAnyH_done (by kernel_rfl) ?_ _
  obtain ⟨fa, fb, g0_, g1_, g2_, g3_⟩ := HK4.out.facts
  have d40 := HK4.out.cell Z4.out.1 N4.out
  have d41 := HK4.out.cell Z4.out.2 N4.out
  have d50 := HK4.out.cell Z5.out.1 N5.out
  have d51 := HK4.out.cell Z5.out.2.1 N5.out
  have d52 := HK4.out.cell Z5.out.2.2 N5.out
  go_wp2
  refine bodyPost_ret (results_ct rfl _ _ (w.heap.size + 2) 71 #[.slice A L cp, .int .i64 c] (0, 0) _ rfl ?_ Try.underlying71 rfl (by kernel_rfl)) rfl ?_
  · exact HK4.out.res _ _
  · exact ⟨_, s, l, c, rfl, HPP.out.up, (HQ3.out.turned (HK4.out.set (.slice A L cp) (.int .i64 c)).1).out⟩

set_option maxHeartbeats 4000000 in
set_option maxRecDepth 100000 in
theorem step_drop_gen2 {E : Env} {n b : Nat} {w : World} {F P : Nat → Prop} {g : Nat} {s : Tb Int} {v : Value} {l : List S82} {c : Int} (x : S30) (HP : PInv n b s l c) (hb : b ≤ 100) (h : Two E w F P g s v l) (k : x.f0 = 2) (y g0 : Int) (hlk : I.look s x.f1 = some (y, g0)) (hgx : g0 ≠ x.f2) : StepCalls E w n b g v c x := by
  obtain ⟨A, cp, rfl⟩ := Kd.R_slice h.r
  have H := Aside0.mk h
  have HPP := Aside0.mk HP
  have HBB := Aside0.mk hb
  have HREAD := Aside0.mk (Kd.R_reads' h.r)
  have hlen : l.length ≤ 1024 := by rw [HP.len]; exact HP.t.n2
  have HLEN := Aside0.mk hlen
  have B4 := Aside0.mk (box0 w (.cells #[.slice A l.length cp, .int .i64 c] 71) (.cells #[.int .i64 x.f0, .int .i64 x.f1, .int .i64 x.f2, .int .i64 x.f3] 30) (.cells #[.slice none 0 0, .int .i64 0] 71))
  have B5 := Aside0.mk (box1 w (.cells #[.slice A l.length cp, .int .i64 c] 71) (.cells #[.int .i64 x.f0, .int .i64 x.f1, .int .i64 x.f2, .int .i64 x.f3] 30) (.cells #[.slice none 0 0, .int .i64 0] 71))
  have B6 := Aside0.mk (box2 w (.cells #[.slice A l.length cp, .int .i64 c] 71) (.cells #[.int .i64 x.f0, .int .i64 x.f1, .int .i64 x.f2, .int .i64 x.f3] 30) (.cells #[.slice none 0 0, .int .i64 0] 71))
  have HQ0 := Aside0.mk (TwoQ.start h (.cells #[.slice A l.length cp, .int .i64 c] 71) (.cells #[.int .i64 x.f0, .int .i64 x.f1, .int .i64 x.f2, .int .i64 x.f3] 30) (.cells #[.slice none 0 0, .int .i64 0] 71))
  have hu := Try.underlying71
  have hu2 := Try.underlying30
  have hu3 := Try.underlying82
  have e0 : (x.f0 == 0) = false := beq_eq_false_iff_ne.mpr (by omega)
  have e1 : (x.f0 == 1) = false := beq_eq_false_iff_ne.mpr (by omega)
  have e2 : (x.f0 == 2) = true := beq_iff_eq.mpr k
  have HFB := Aside0.mk (show s.free.length < 1000000 by have := HP.t.fb; omega)
  have HTH := Aside0.mk (fun (W : World) (hW : Kd.C k82 W A l.length l) => dogwatchref07_Has.calls A cp l c x.f1 true W hW (Kd.R_reads' h.r).2.1 (by rw [HP.has, hlk]; rfl))
  obtain ⟨j, hx1, hsj⟩ := I.look_some hlk
  obtain ⟨r, hr, hr0, hr1, hr2, hr3, hr4, hr5, hr6, hr7⟩ := HP.slot j y g0 true hsj
  have hg0 := hr2 (HP.taken_lt j y g0 hsj)
  have HG := Aside0.mk (show dogwatchref07_Gen.f r.f0 r.f1 r.f2 r.f3 = some g0 by unfold dogwatchref07_Gen.f; rw [hg0]; congr 1; unfold wrap64; omega)
  have HRJ := Aside0.mk hr
  have hjl : j < l.length := (List.getElem?_eq_some_iff.mp hr).1
  have p0 := eq_true (show (0 : Int) ≤ (j : Int) by omega)
  have q5 := eq_true (show (j : Int) < (l.length : Int) by omega)
  have ewj : wrap64 (x.f1 - 1) = (j : Int) := by rw [hx1]; unfold wrap64; omega
  have HTD := Aside0.mk (show I.dropF s x.f1 x.f2 = (s, 10) by unfold I.dropF; rw [hlk]; dsimp only; rw [if_neg hgx])
  have dg : (g0 != x.f2) = true := bne_iff_ne.mpr hgx
  have dg2 : (g0 == x.f2) = false := beq_eq_false_iff_ne.mpr hgx
  clear k hlk hx1 hsj hr hr0 hr1 hr2 hr3 hr4 hr5 hr6 hr7 hg0 hjl hgx
  clear h HP hb hlen
  obtain ⟨L, hL⟩ : ∃ L, L = l.length := ⟨_, rfl⟩
  rw [← hL] at H HREAD B4 B5 B6 HQ0 HTH q5 ⊢
  have HL := Aside0.mk hL
  clear hL
  unfold StepCalls
  go_enter Try.func38, Try.ntmps38
  go_wp2_with (go_at_call 17; (with_reducible refine (drop_exI HQ0.out.two.t HFB.out HTD.out).mono ?_); rintro e w3 ⟨rfl, hr3, ht3⟩; have h5 : w3.heap[w.heap.size + 1]? = some (.cells #[.int .i64 x.f0, .int .i64 x.f1, .int .i64 x.f2, .int .i64 x.f3] 30 (0, 0)) := blk_kept B5.out ht3.kept (H.out.more _ (by omega)); have h6 : w3.heap[w.heap.size + 2]? = some (.cells #[.slice none 0 0, .int .i64 0] 71 (0, 0)) := blk_kept B6.out ht3.kept (H.out.more _ (by omega)); have h4 : w3.heap[w.heap.size]? = some (.cells #[.slice A L cp, .int .i64 c] 71 (0, 0)) := blk_kept B4.out ht3.kept (H.out.more _ (by omega)); have Z4 := Aside0.mk (And.intro ((blk_cell h4 0).trans rfl) ((blk_cell h4 1).trans rfl)); have Z5 := Aside0.mk (And.intro ((blk_cell h5 0).trans rfl) (And.intro ((blk_cell h5 1).trans rfl) ((blk_cell h5 2).trans rfl))); have H63 := Aside0.mk h6; have HQ3 := Aside0.mk (HQ0.out.table hr3 ht3); clear hr3 ht3 h4 h5 h6)
  have N4 := Aside0.mk (show w.heap.size ≠ w.heap.size + 2 by omega)
  have N5 := Aside0.mk (show w.heap.size + 1 ≠ w.heap.size + 2 by omega)
  have HC3 := Aside0.mk (fun (w' : World) (hk : Kp w3 (w.heap.size + 2) w') => (Kd.R_reads' (HQ3.out.turned hk.1).two.r).2.2)
  rw [← HL.out] at HC3
  obtain ⟨ad, eA, ze⟩ := at82 (Kd.R_reads' HQ3.out.two.r).2.2 j _ HRJ.out
  have HNE := HQ3.out.np
  have HOWN := HQ3.out.two.r.1
  have ne : (ad.add (j * 4)).block ≠ w.heap.size + 2 := by
    rw [add_block]
    intro e
    exact HNE (HOWN _ (by rw [eA, ← e]; rfl))
  have NE := Aside0.mk ne
  have ZE := Aside0.mk ze
  subst eA
  have ewi := (i64_w (x.f1 - 1)).trans ewj
  clear ne ze HNE HOWN
  refine wp_region_held_drew (S := Kp w3 (w.heap.size + 2)) (by kernel_rfl) (Kp.start H63.out) (fun hHeld => ?_)
  refine wpAnyH_take (i := 0) (v := ?vG0) (oi := { dst := some 77, op := Op.load 71 (Operand.tmp 4), type := 71, pos := "law.go:46", after := #[], guard := none }) rfl (by kernel_rfl) (by kernel_rfl) (by kernel_rfl) (fun _ _ _ h => h) (Or.inl ⟨by rfl, ?hyG0⟩) hHeld ?restG0
  case hyG0 => (intro w_ hSw; have d0 := hSw.cell Z4.out.1 N4.out; have d1 := hSw.cell Z4.out.2 N4.out; clear hSw; go_simp; try with_reducible rfl)
  (try simp only [Act.put, List.setIfInBounds_toArray, List.set_cons_zero, List.set_cons_succ])
  refine wpAnyH_take (i := 1) (v := ?vG1) (oi := { dst := some 78, op := Op.fieldAddr 30 (Operand.tmp 5) 1, type := 0, pos := "law.go:46", after := #[], guard := none }) rfl (by kernel_rfl) (by kernel_rfl) (by kernel_rfl) (fun _ _ _ h => h) (Or.inl ⟨by rfl, ?hyG1⟩) hHeld ?restG1
  case hyG1 => (intro w_ hSw; clear hSw; go_simp; try with_reducible rfl)
  (try simp only [Act.put, List.setIfInBounds_toArray, List.set_cons_zero, List.set_cons_succ])
  refine wpAnyH_take (i := 2) (v := ?vG2) (oi := { dst := some 79, op := Op.load 3 (Operand.tmp 78), type := 3, pos := "law.go:46", after := #[{ on := 1, ground := Ground.data }], guard := none }) rfl (by kernel_rfl) (by kernel_rfl) (by kernel_rfl) (fun _ _ _ h => h) (Or.inl ⟨by rfl, ?hyG2⟩) hHeld ?restG2
  case hyG2 => (intro w_ hSw; have d0 := hSw.cell Z5.out.1 N5.out; have d1 := hSw.cell Z5.out.2.1 N5.out; have d2 := hSw.cell Z5.out.2.2 N5.out; clear hSw; go_simp; try with_reducible rfl)
  (try simp only [Act.put, List.setIfInBounds_toArray, List.set_cons_zero, List.set_cons_succ])
  refine wpAnyH_ready (rs := [3]) (by kernel_rfl) (by simp) ?_
  refine AllReadyH.cons (o := { dst := some 80, op := Op.call { callee := Callee.value (Operand.func 43), args := #[Operand.tmp 77, Operand.tmp 79], argTypes := #[71, 3] }, type := 4, pos := "law.go:46", after := #[{ on := 0, ground := Ground.data }, { on := 2, ground := Ground.data }], guard := none }) rfl (fun K hK => ?_) AllReadyH.nil
  go_simp
  with_reducible refine (HTH.out _ (HC3.out _ hHeld)).mono ?_
  rintro e w4 ⟨rfl, hb4⟩
  have HK4 := Aside0.mk (hHeld.below hb4)
  clear hb4
  refine hK.out _ _ ?_ (fun hHeld => ?_)
  · exact HK4.out
  clear hK K
  (try simp only [Act.put, List.setIfInBounds_toArray, List.set_cons_zero, List.set_cons_succ])
  refine wpAnyH_take (i := 4) (v := ?vG4) (oi := { dst := some 81, op := Op.unOp UnOp.not 4 (Operand.tmp 80), type := 4, pos := "law.go:46", after := #[{ on := 3, ground := Ground.data }], guard := none }) rfl (by kernel_rfl) (by kernel_rfl) (by kernel_rfl) (fun _ _ _ h => h) (Or.inl ⟨by rfl, ?hyG4⟩) hHeld ?restG4
  case hyG4 => (intro w_ hSw; clear hSw; go_simp; try with_reducible rfl)
  (try simp only [Act.put, List.setIfInBounds_toArray, List.set_cons_zero, List.set_cons_succ])
  refine wpAnyH_take (i := 5) (v := ?vG5) (oi := { dst := some 82, op := Op.move (Operand.tmp 81), type := 4, pos := "law.go:46", after := #[{ on := 4, ground := Ground.data }, { on := 3, ground := Ground.chain }], guard := none }) rfl (by kernel_rfl) (by kernel_rfl) (by kernel_rfl) (fun _ _ _ h => h) (Or.inl ⟨by rfl, ?hyG5⟩) hHeld ?restG5
  case hyG5 => (intro w_ hSw; clear hSw; go_simp; try with_reducible rfl)
  (try simp only [Act.put, List.setIfInBounds_toArray, List.set_cons_zero, List.set_cons_succ])
  refine wpAnyH_take (i := 6) (v := ?vG6) (oi := { dst := some 83, op := Op.fieldAddr 71 (Operand.tmp 4) 0, type := 0, pos := "law.go:46", after := #[{ on := 5, ground := Ground.guard }], guard := some (5, false) }) rfl (by kernel_rfl) (by kernel_rfl) (by kernel_rfl) (fun _ _ _ h => h) (Or.inl ⟨by rfl, ?hyG6⟩) hHeld ?restG6
  case hyG6 => (intro w_ hSw; clear hSw; go_simp; try with_reducible rfl)
  (try simp only [Act.put, List.setIfInBounds_toArray, List.set_cons_zero, List.set_cons_succ])
  refine wpAnyH_take (i := 7) (v := ?vG7) (oi := { dst := some 84, op := Op.load 69 (Operand.tmp 83), type := 69, pos := "law.go:46", after := #[{ on := 6, ground := Ground.data }, { on := 5, ground := Ground.guard }], guard := some (5, false) }) rfl (by kernel_rfl) (by kernel_rfl) (by kernel_rfl) (fun _ _ _ h => h) (Or.inl ⟨by rfl, ?hyG7⟩) hHeld ?restG7
  case hyG7 => (intro w_ hSw; have d0 := hSw.cell Z4.out.1 N4.out; have d1 := hSw.cell Z4.out.2 N4.out; clear hSw; go_simp; try with_reducible rfl)
  (try simp only [Act.put, List.setIfInBounds_toArray, List.set_cons_zero, List.set_cons_succ])
  refine wpAnyH_take (i := 8) (v := ?vG8) (oi := { dst := some 85, op := Op.fieldAddr 30 (Operand.tmp 5) 1, type := 0, pos := "law.go:46", after := #[{ on := 5, ground := Ground.guard }], guard := some (5, false) }) rfl (by kernel_rfl) (by kernel_rfl) (by kernel_rfl) (fun _ _ _ h => h) (Or.inl ⟨by rfl, ?hyG8⟩) hHeld ?restG8
  case hyG8 => (intro w_ hSw; clear hSw; go_simp; try with_reducible rfl)
  (try simp only [Act.put, List.setIfInBounds_toArray, List.set_cons_zero, List.set_cons_succ])
  refine wpAnyH_take (i := 9) (v := ?vG9) (oi := { dst := some 86, op := Op.load 3 (Operand.tmp 85), type := 3, pos := "law.go:46", after := #[{ on := 8, ground := Ground.data }, { on := 5, ground := Ground.guard }], guard := some (5, false) }) rfl (by kernel_rfl) (by kernel_rfl) (by kernel_rfl) (fun _ _ _ h => h) (Or.inl ⟨by rfl, ?hyG9⟩) hHeld ?restG9
  case hyG9 => (intro w_ hSw; have d0 := hSw.cell Z5.out.1 N5.out; have d1 := hSw.cell Z5.out.2.1 N5.out; have d2 := hSw.cell Z5.out.2.2 N5.out; clear hSw; go_simp; try with_reducible rfl)
  (try simp only [Act.put, List.setIfInBounds_toArray, List.set_cons_zero, List.set_cons_succ])
  refine wpAnyH_take (i := 10) (v := ?vG10) (oi := { dst := some 87, op := Op.binOp BinOp.sub 3 (Operand.tmp 86) (Operand.const (Value.int IntKind.i64 1)) 3, type := 3, pos := "law.go:46", after := #[{ on := 9, ground := Ground.data }, { on := 5, ground := Ground.guard }], guard := some (5, false) }) rfl (by kernel_rfl) (by kernel_rfl) (by kernel_rfl) (fun _ _ _ h => h) (Or.inl ⟨by rfl, ?hyG10⟩) hHeld ?restG10
  case hyG10 => (intro w_ hSw; clear hSw; go_simp; try with_reducible rfl)
  (try simp only [Act.put, List.setIfInBounds_toArray, List.set_cons_zero, List.set_cons_succ])
  refine wpAnyH_take (i := 11) (v := ?vG11) (oi := { dst := some 88, op := Op.indexAddr 69 (Operand.tmp 84) (Operand.tmp 87), type := 0, pos := "law.go:46", after := #[{ on := 7, ground := Ground.data }, { on := 10, ground := Ground.data }, { on := 5, ground := Ground.guard }], guard := some (5, false) }) rfl (by kernel_rfl) (by kernel_rfl) (by kernel_rfl) (fun _ _ _ h => h) (Or.inl ⟨by rfl, ?hyG11⟩) hHeld ?restG11
  case hyG11 => (intro w_ hSw; clear hSw; go_simp; try with_reducible rfl)
  (try simp only [Act.put, List.setIfInBounds_toArray, List.set_cons_zero, List.set_cons_succ])
  refine wpAnyH_take (i := 12) (v := ?vG12) (oi := { dst := some 89, op := Op.load 82 (Operand.tmp 88), type := 82, pos := "law.go:46", after := #[{ on := 11, ground := Ground.data }, { on := 5, ground := Ground.guard }], guard := some (5, false) }) rfl (by kernel_rfl) (by kernel_rfl) (by kernel_rfl) (fun _ _ _ h => h) (Or.inl ⟨by rfl, ?hyG12⟩) hHeld ?restG12
  case hyG12 => (intro w_ hSw; have d0 := hSw.cell ZE.out.1 NE.out; have d1 := hSw.cell ZE.out.2.1 NE.out; have d2 := hSw.cell ZE.out.2.2.1 NE.out; have d3 := hSw.cell ZE.out.2.2.2 NE.out; clear hSw; go_simp; try with_reducible rfl)
  (try simp only [Act.put, List.setIfInBounds_toArray, List.set_cons_zero, List.set_cons_succ])
  refine wpAnyH_take (i := 14) (v := ?vG14) (oi := { dst := some 91, op := Op.fieldAddr 30 (Operand.tmp 5) 2, type := 0, pos := "law.go:46", after := #[{ on := 5, ground := Ground.guard }], guard := some (5, false) }) rfl (by kernel_rfl) (by kernel_rfl) (by kernel_rfl) (fun _ _ _ h => h) (Or.inl ⟨by rfl, ?hyG14⟩) hHeld ?restG14
  case hyG14 => (intro w_ hSw; clear hSw; go_simp; try with_reducible rfl)
  (try simp only [Act.put, List.setIfInBounds_toArray, List.set_cons_zero, List.set_cons_succ])
  refine wpAnyH_take (i := 15) (v := ?vG15) (oi := { dst := some 92, op := Op.load 3 (Operand.tmp 91), type := 3, pos := "law.go:46", after := #[{ on := 14, ground := Ground.data }, { on := 5, ground := Ground.guard }], guard := some (5, false) }) rfl (by kernel_rfl) (by kernel_rfl) (by kernel_rfl) (fun _ _ _ h => h) (Or.inl ⟨by rfl, ?hyG15⟩) hHeld ?restG15
  case hyG15 => (intro w_ hSw; have d0 := hSw.cell Z5.out.1 N5.out; have d1 := hSw.cell Z5.out.2.1 N5.out; have d2 := hSw.cell Z5.out.2.2 N5.out; clear hSw; go_simp; try with_reducible rfl)
  (try simp only [Act.put, List.setIfInBounds_toArray, List.set_cons_zero, List.set_cons_succ])
  refine wpAnyH_ready (rs := [13]) (by kernel_rfl) (by simp) ?_
  refine AllReadyH.cons (o := { dst := some 90, op := Op.call { callee := Callee.value (Operand.func 44), args := #[Operand.tmp 89], argTypes := #[82] }, type := 3, pos := "law.go:46", after := #[{ on := 12, ground := Ground.data }, { on := 5, ground := Ground.chain }, { on := 5, ground := Ground.guard }], guard := some (5, false) }) rfl (fun K hK => ?_) AllReadyH.nil
  go_simp
  with_reducible refine (dogwatchref07_Gen.calls r.f0 r.f1 r.f2 r.f3 g0 _ HG.out).mono ?_
  rintro e w5 ⟨rfl, hb5⟩
  have HK5 := Aside0.mk (hHeld.below hb5)
  clear hb5
  refine hK.out _ _ ?_ (fun hHeld => ?_)
  · exact HK5.out
  clear hK K
  (try simp only [Act.put, List.setIfInBounds_toArray, List.set_cons_zero, List.set_cons_succ])
  refine wpAnyH_take (i := 16) (v := ?vG16) (oi := { dst := some 93, op := Op.binOp BinOp.neq 3 (Operand.tmp 90) (Operand.tmp 92) 3, type := 4, pos := "law.go:46", after := #[{ on := 13, ground := Ground.data }, { on := 15, ground := Ground.data }, { on := 5, ground := Ground.guard }], guard := some (5, false) }) rfl (by kernel_rfl) (by kernel_rfl) (by kernel_rfl) (fun _ _ _ h => h) (Or.inl ⟨by rfl, ?hyG16⟩) hHeld ?restG16
  case hyG16 => (intro w_ hSw; clear hSw; go_simp; try with_reducible rfl)
  (try simp only [Act.put, List.setIfInBounds_toArray, List.set_cons_zero, List.set_cons_succ])
  refine wpAnyH_take (i := 17) (v := ?vG17) (oi := { dst := some 94, op := Op.pick (Operand.tmp 82) (Operand.const (Value.bool true)) (Operand.tmp 93), type := 4, pos := "law.go:46", after := #[{ on := 5, ground := Ground.data }, { on := 16, ground := Ground.data }], guard := none }) rfl (by kernel_rfl) (by kernel_rfl) (by kernel_rfl) (fun _ _ _ h => h) (Or.inl ⟨by rfl, ?hyG17⟩) hHeld ?restG17
  case hyG17 => (intro w_ hSw; clear hSw; go_simp; try with_reducible rfl)
  (try simp only [Act.put, List.setIfInBounds_toArray, List.set_cons_zero, List.set_cons_succ])
  refine wpAnyH_done (by kernel_rfl) ?_ _
  obtain ⟨fa, fb, g0_, g1_, g2_, g3_⟩ := HK5.out.facts
  have d40 := HK5.out.cell Z4.out.1 N4.out
  have d41 := HK5.out.cell Z4.out.2 N4.out
  have d50 := HK5.out.cell Z5.out.1 N5.out
  have d51 := HK5.out.cell Z5.out.2.1 N5.out
  have d52 := HK5.out.cell Z5.out.2.2 N5.out
  go_wp2
  refine bodyPost_ret (results_ct rfl _ _ (w.heap.size + 2) 71 #[.slice (some ad) L cp, .int .i64 c] (0, 0) _ rfl ?_ Try.underlying71 rfl (by kernel_rfl)) rfl ?_
  · exact HK5.out.res _ _
  · exact ⟨_, s, l, c, rfl, HPP.out.up, (HQ3.out.turned (HK5.out.set (.slice (some ad) L cp) (.int .i64 c)).1).out⟩

set_option maxHeartbeats 4000000 in
set_option maxRecDepth 100000 in
theorem step_drop_ok2 {E : Env} {n b : Nat} {w : World} {F P : Nat → Prop} {g : Nat} {s : Tb Int} {v : Value} {l : List S82} {c : Int} (x : S30) (HP : PInv n b s l c) (hb : b ≤ 100) (h : Two E w F P g s v l) (k : x.f0 = 2) (y : Int) (hlk : I.look s x.f1 = some (y, x.f2)) : StepCalls E w n b g v c x := by
  obtain ⟨A, cp, rfl⟩ := Kd.R_slice h.r
  have H := Aside0.mk h
  have HPP := Aside0.mk HP
  have HBB := Aside0.mk hb
  have HREAD := Aside0.mk (Kd.R_reads' h.r)
  have hlen : l.length ≤ 1024 := by rw [HP.len]; exact HP.t.n2
  have HLEN := Aside0.mk hlen
  have B4 := Aside0.mk (box0 w (.cells #[.slice A l.length cp, .int .i64 c] 71) (.cells #[.int .i64 x.f0, .int .i64 x.f1, .int .i64 x.f2, .int .i64 x.f3] 30) (.cells #[.slice none 0 0, .int .i64 0] 71))
  have B5 := Aside0.mk (box1 w (.cells #[.slice A l.length cp, .int .i64 c] 71) (.cells #[.int .i64 x.f0, .int .i64 x.f1, .int .i64 x.f2, .int .i64 x.f3] 30) (.cells #[.slice none 0 0, .int .i64 0] 71))
  have B6 := Aside0.mk (box2 w (.cells #[.slice A l.length cp, .int .i64 c] 71) (.cells #[.int .i64 x.f0, .int .i64 x.f1, .int .i64 x.f2, .int .i64 x.f3] 30) (.cells #[.slice none 0 0, .int .i64 0] 71))
  have HQ0 := Aside0.mk (TwoQ.start h (.cells #[.slice A l.length cp, .int .i64 c] 71) (.cells #[.int .i64 x.f0, .int .i64 x.f1, .int .i64 x.f2, .int .i64 x.f3] 30) (.cells #[.slice none 0 0, .int .i64 0] 71))
  have hu := Try.underlying71
  have hu2 := Try.underlying30
  have hu3 := Try.underlying82
  obtain ⟨g0, hg0x⟩ : ∃ g0, g0 = x.f2 := ⟨_, rfl⟩
  rw [← hg0x] at hlk
  have e0 : (x.f0 == 0) = false := beq_eq_false_iff_ne.mpr (by omega)
  have e1 : (x.f0 == 1) = false := beq_eq_false_iff_ne.mpr (by omega)
  have e2 : (x.f0 == 2) = true := beq_iff_eq.mpr k
  have HFB := Aside0.mk (show s.free.length < 1000000 by have := HP.t.fb; omega)
  have HTH := Aside0.mk (fun (W : World) (hW : Kd.C k82 W A l.length l) => dogwatchref07_Has.calls A cp l c x.f1 true W hW (Kd.R_reads' h.r).2.1 (by rw [HP.has, hlk]; rfl))
  obtain ⟨j, hx1, hsj⟩ := I.look_some hlk
  obtain ⟨r, hr, hr0, hr1, hr2, hr3, hr4, hr5, hr6, hr7⟩ := HP.slot j y g0 true hsj
  have hg0 := hr2 (HP.taken_lt j y g0 hsj)
  have HG := Aside0.mk (show dogwatchref07_Gen.f r.f0 r.f1 r.f2 r.f3 = some g0 by unfold dogwatchref07_Gen.f; rw [hg0]; congr 1; unfold wrap64; omega)
  have HRJ := Aside0.mk hr
  have hjl : j < l.length := (List.getElem?_eq_some_iff.mp hr).1
  have p0 := eq_true (show (0 : Int) ≤ (j : Int) by omega)
  have q5 := eq_true (show (j : Int) < (l.length : Int) by omega)
  have ewj : wrap64 (x.f1 - 1) = (j : Int) := by rw [hx1]; unfold wrap64; omega
  have hc0 := HP.c0
  have hc1 := HP.c1
  have hgb := HP.t.gens j y g0 true hsj
  have hwr := with_eq l hlen c j hjl 0 false (wrap64 (r.f2 + 1)) (wrap64 (c + 1))
  have ewc : wrap64 (c + 1) = c + 1 := by unfold wrap64; omega
  have ewr : wrap64 (r.f2 + 1) = r.f2 + 1 := by unfold wrap64; omega
  have ewg : wrap64 (g0 + 1) = g0 + 1 := by unfold wrap64; omega
  have HTR := Aside0.mk (fun (W : World) (hW : Kd.C k82 W A l.length l) => ref_drop A cp l c j r _ _ W hW (Kd.R_reads' h.r).2.1 hr hlen hwr)
  rw [← hx1, ewc, ewr] at HTR
  have HP' := Aside0.mk (HP.drop (by omega) j y g0 hsj r hr)
  have HTD := Aside0.mk (show I.dropF s x.f1 x.f2 = ({ l := s.l.set j (0, g0 + 1, false), free := s.free ++ [(j : Int) + 1], next := s.next, many := s.many - 1 }, 0) by unfold I.dropF; rw [hlk]; dsimp only; rw [if_pos hg0x, hx1, show ((j : Int) + 1 - 1).toNat = j by omega, ewg, (many_bound HP.t (by omega)).2])
  have dg : (g0 != x.f2) = false := by rw [hg0x]; simp
  have dg2 : (g0 == x.f2) = true := by rw [hg0x]; simp
  obtain ⟨s', hs'⟩ : ∃ s' : Tb Int, s' = { l := s.l.set j (0, g0 + 1, false), free := s.free ++ [(j : Int) + 1], next := s.next, many := s.many - 1 } := ⟨_, rfl⟩
  obtain ⟨l', hl'⟩ : ∃ l', l' = l.set j ⟨0, false, r.f2 + 1, c + 1⟩ := ⟨_, rfl⟩
  rw [← hs'] at HP' HTD
  rw [← hl'] at HP' HTR
  clear k hlk hx1 hsj hr hr0 hr1 hr2 hr3 hr4 hr5 hr6 hr7 hg0 hjl hg0x hc0 hc1 hgb hwr ewc ewr ewg hs' hl'
  clear h HP hb hlen
  obtain ⟨L, hL⟩ : ∃ L, L = l.length := ⟨_, rfl⟩
  rw [← hL] at H HREAD B4 B5 B6 HQ0 HTH q5 HTR ⊢
  have HL := Aside0.mk hL
  clear hL
  unfold StepCalls
  go_enter Try.func38, Try.ntmps38
  go_wp2_with (go_at_call 17; (with_reducible refine (drop_exI HQ0.out.two.t HFB.out HTD.out).mono ?_); rintro e w3 ⟨rfl, hr3, ht3⟩; have h5 : w3.heap[w.heap.size + 1]? = some (.cells #[.int .i64 x.f0, .int .i64 x.f1, .int .i64 x.f2, .int .i64 x.f3] 30 (0, 0)) := blk_kept B5.out ht3.kept (H.out.more _ (by omega)); have h6 : w3.heap[w.heap.size + 2]? = some (.cells #[.slice none 0 0, .int .i64 0] 71 (0, 0)) := blk_kept B6.out ht3.kept (H.out.more _ (by omega)); have h4 : w3.heap[w.heap.size]? = some (.cells #[.slice A L cp, .int .i64 c] 71 (0, 0)) := blk_kept B4.out ht3.kept (H.out.more _ (by omega)); have Z4 := Aside0.mk (And.intro ((blk_cell h4 0).trans rfl) ((blk_cell h4 1).trans rfl)); have Z5 := Aside0.mk (And.intro ((blk_cell h5 0).trans rfl) (And.intro ((blk_cell h5 1).trans rfl) ((blk_cell h5 2).trans rfl))); have H63 := Aside0.mk h6; have HQ3 := Aside0.mk (HQ0.out.table hr3 ht3); clear hr3 ht3 h4 h5 h6)
  have N4 := Aside0.mk (show w.heap.size ≠ w.heap.size + 2 by omega)
  have N5 := Aside0.mk (show w.heap.size + 1 ≠ w.heap.size + 2 by omega)
  have HC3 := Aside0.mk (fun (w' : World) (hk : Kp w3 (w.heap.size + 2) w') => (Kd.R_reads' (HQ3.out.turned hk.1).two.r).2.2)
  rw [← HL.out] at HC3
  obtain ⟨ad, eA, ze⟩ := at82 (Kd.R_reads' HQ3.out.two.r).2.2 j _ HRJ.out
  have HNE := HQ3.out.np
  have HOWN := HQ3.out.two.r.1
  have ne : (ad.add (j * 4)).block ≠ w.heap.size + 2 := by
    rw [add_block]
    intro e
    exact HNE (HOWN _ (by rw [eA, ← e]; rfl))
  have NE := Aside0.mk ne
  have ZE := Aside0.mk ze
  subst eA
  have ewi := (i64_w (x.f1 - 1)).trans ewj
  clear ne ze HNE HOWN
  refine wp_region_held_drew (S := Kp w3 (w.heap.size + 2)) (by kernel_rfl) (Kp.start H63.out) (fun hHeld => ?_)
  refine wpAnyH_take (i := 0) (v := ?vK0) (oi := { dst := some 77, op := Op.load 71 (Operand.tmp 4), type := 71, pos := "law.go:46", after := #[], guard := none }) rfl (by kernel_rfl) (by kernel_rfl) (by kernel_rfl) (fun _ _ _ h => h) (Or.inl ⟨by rfl, ?hyK0⟩) hHeld ?restK0
  case hyK0 => (intro w_ hSw; have d0 := hSw.cell Z4.out.1 N4.out; have d1 := hSw.cell Z4.out.2 N4.out; clear hSw; go_simp; try with_reducible rfl)
  (try simp only [Act.put, List.setIfInBounds_toArray, List.set_cons_zero, List.set_cons_succ])
  refine wpAnyH_take (i := 1) (v := ?vK1) (oi := { dst := some 78, op := Op.fieldAddr 30 (Operand.tmp 5) 1, type := 0, pos := "law.go:46", after := #[], guard := none }) rfl (by kernel_rfl) (by kernel_rfl) (by kernel_rfl) (fun _ _ _ h => h) (Or.inl ⟨by rfl, ?hyK1⟩) hHeld ?restK1
  case hyK1 => (intro w_ hSw; clear hSw; go_simp; try with_reducible rfl)
  (try simp only [Act.put, List.setIfInBounds_toArray, List.set_cons_zero, List.set_cons_succ])
  refine wpAnyH_take (i := 2) (v := ?vK2) (oi := { dst := some 79, op := Op.load 3 (Operand.tmp 78), type := 3, pos := "law.go:46", after := #[{ on := 1, ground := Ground.data }], guard := none }) rfl (by kernel_rfl) (by kernel_rfl) (by kernel_rfl) (fun _ _ _ h => h) (Or.inl ⟨by rfl, ?hyK2⟩) hHeld ?restK2
  case hyK2 => (intro w_ hSw; have d0 := hSw.cell Z5.out.1 N5.out; have d1 := hSw.cell Z5.out.2.1 N5.out; have d2 := hSw.cell Z5.out.2.2 N5.out; clear hSw; go_simp; try with_reducible rfl)
  (try simp only [Act.put, List.setIfInBounds_toArray, List.set_cons_zero, List.set_cons_succ])
  refine wpAnyH_ready (rs := [3]) (by kernel_rfl) (by simp) ?_
  refine AllReadyH.cons (o := { dst := some 80, op := Op.call { callee := Callee.value (Operand.func 43), args := #[Operand.tmp 77, Operand.tmp 79], argTypes := #[71, 3] }, type := 4, pos := "law.go:46", after := #[{ on := 0, ground := Ground.data }, { on := 2, ground := Ground.data }], guard := none }) rfl (fun K hK => ?_) AllReadyH.nil
  go_simp
  with_reducible refine (HTH.out _ (HC3.out _ hHeld)).mono ?_
  rintro e w4 ⟨rfl, hb4⟩
  have HK4 := Aside0.mk (hHeld.below hb4)
  clear hb4
  refine hK.out _ _ ?_ (fun hHeld => ?_)
  · exact HK4.out
  clear hK K
  (try simp only [Act.put, List.setIfInBounds_toArray, List.set_cons_zero, List.set_cons_succ])
  refine wpAnyH_take (i := 4) (v := ?vK4) (oi := { dst := some 81, op := Op.unOp UnOp.not 4 (Operand.tmp 80), type := 4, pos := "law.go:46", after := #[{ on := 3, ground := Ground.data }], guard := none }) rfl (by kernel_rfl) (by kernel_rfl) (by kernel_rfl) (fun _ _ _ h => h) (Or.inl ⟨by rfl, ?hyK4⟩) hHeld ?restK4
  case hyK4 => (intro w_ hSw; clear hSw; go_simp; try with_reducible rfl)
  (try simp only [Act.put, List.setIfInBounds_toArray, List.set_cons_zero, List.set_cons_succ])
  refine wpAnyH_take (i := 5) (v := ?vK5) (oi := { dst := some 82, op := Op.move (Operand.tmp 81), type := 4, pos := "law.go:46", after := #[{ on := 4, ground := Ground.data }, { on := 3, ground := Ground.chain }], guard := none }) rfl (by kernel_rfl) (by kernel_rfl) (by kernel_rfl) (fun _ _ _ h => h) (Or.inl ⟨by rfl, ?hyK5⟩) hHeld ?restK5
  case hyK5 => (intro w_ hSw; clear hSw; go_simp; try with_reducible rfl)
  (try simp only [Act.put, List.setIfInBounds_toArray, List.set_cons_zero, List.set_cons_succ])
  refine wpAnyH_take (i := 6) (v := ?vK6) (oi := { dst := some 83, op := Op.fieldAddr 71 (Operand.tmp 4) 0, type := 0, pos := "law.go:46", after := #[{ on := 5, ground := Ground.guard }], guard := some (5, false) }) rfl (by kernel_rfl) (by kernel_rfl) (by kernel_rfl) (fun _ _ _ h => h) (Or.inl ⟨by rfl, ?hyK6⟩) hHeld ?restK6
  case hyK6 => (intro w_ hSw; clear hSw; go_simp; try with_reducible rfl)
  (try simp only [Act.put, List.setIfInBounds_toArray, List.set_cons_zero, List.set_cons_succ])
  refine wpAnyH_take (i := 7) (v := ?vK7) (oi := { dst := some 84, op := Op.load 69 (Operand.tmp 83), type := 69, pos := "law.go:46", after := #[{ on := 6, ground := Ground.data }, { on := 5, ground := Ground.guard }], guard := some (5, false) }) rfl (by kernel_rfl) (by kernel_rfl) (by kernel_rfl) (fun _ _ _ h => h) (Or.inl ⟨by rfl, ?hyK7⟩) hHeld ?restK7
  case hyK7 => (intro w_ hSw; have d0 := hSw.cell Z4.out.1 N4.out; have d1 := hSw.cell Z4.out.2 N4.out; clear hSw; go_simp; try with_reducible rfl)
  (try simp only [Act.put, List.setIfInBounds_toArray, List.set_cons_zero, List.set_cons_succ])
  refine wpAnyH_take (i := 8) (v := ?vK8) (oi := { dst := some 85, op := Op.fieldAddr 30 (Operand.tmp 5) 1, type := 0, pos := "law.go:46", after := #[{ on := 5, ground := Ground.guard }], guard := some (5, false) }) rfl (by kernel_rfl) (by kernel_rfl) (by kernel_rfl) (fun _ _ _ h => h) (Or.inl ⟨by rfl, ?hyK8⟩) hHeld ?restK8
  case hyK8 => (intro w_ hSw; clear hSw; go_simp; try with_reducible rfl)
  (try simp only [Act.put, List.setIfInBounds_toArray, List.set_cons_zero, List.set_cons_succ])
  refine wpAnyH_take (i := 9) (v := ?vK9) (oi := { dst := some 86, op := Op.load 3 (Operand.tmp 85), type := 3, pos := "law.go:46", after := #[{ on := 8, ground := Ground.data }, { on := 5, ground := Ground.guard }], guard := some (5, false) }) rfl (by kernel_rfl) (by kernel_rfl) (by kernel_rfl) (fun _ _ _ h => h) (Or.inl ⟨by rfl, ?hyK9⟩) hHeld ?restK9
  case hyK9 => (intro w_ hSw; have d0 := hSw.cell Z5.out.1 N5.out; have d1 := hSw.cell Z5.out.2.1 N5.out; have d2 := hSw.cell Z5.out.2.2 N5.out; clear hSw; go_simp; try with_reducible rfl)
  (try simp only [Act.put, List.setIfInBounds_toArray, List.set_cons_zero, List.set_cons_succ])
  refine wpAnyH_take (i := 10) (v := ?vK10) (oi := { dst := some 87, op := Op.binOp BinOp.sub 3 (Operand.tmp 86) (Operand.const (Value.int IntKind.i64 1)) 3, type := 3, pos := "law.go:46", after := #[{ on := 9, ground := Ground.data }, { on := 5, ground := Ground.guard }], guard := some (5, false) }) rfl (by kernel_rfl) (by kernel_rfl) (by kernel_rfl) (fun _ _ _ h => h) (Or.inl ⟨by rfl, ?hyK10⟩) hHeld ?restK10
  case hyK10 => (intro w_ hSw; clear hSw; go_simp; try with_reducible rfl)
  (try simp only [Act.put, List.setIfInBounds_toArray, List.set_cons_zero, List.set_cons_succ])
  refine wpAnyH_take (i := 11) (v := ?vK11) (oi := { dst := some 88, op := Op.indexAddr 69 (Operand.tmp 84) (Operand.tmp 87), type := 0, pos := "law.go:46", after := #[{ on := 7, ground := Ground.data }, { on := 10, ground := Ground.data }, { on := 5, ground := Ground.guard }], guard := some (5, false) }) rfl (by kernel_rfl) (by kernel_rfl) (by kernel_rfl) (fun _ _ _ h => h) (Or.inl ⟨by rfl, ?hyK11⟩) hHeld ?restK11
  case hyK11 => (intro w_ hSw; clear hSw; go_simp; try with_reducible rfl)
  (try simp only [Act.put, List.setIfInBounds_toArray, List.set_cons_zero, List.set_cons_succ])
  refine wpAnyH_take (i := 12) (v := ?vK12) (oi := { dst := some 89, op := Op.load 82 (Operand.tmp 88), type := 82, pos := "law.go:46", after := #[{ on := 11, ground := Ground.data }, { on := 5, ground := Ground.guard }], guard := some (5, false) }) rfl (by kernel_rfl) (by kernel_rfl) (by kernel_rfl) (fun _ _ _ h => h) (Or.inl ⟨by rfl, ?hyK12⟩) hHeld ?restK12
  case hyK12 => (intro w_ hSw; have d0 := hSw.cell ZE.out.1 NE.out; have d1 := hSw.cell ZE.out.2.1 NE.out; have d2 := hSw.cell ZE.out.2.2.1 NE.out; have d3 := hSw.cell ZE.out.2.2.2 NE.out; clear hSw; go_simp; try with_reducible rfl)
  (try simp only [Act.put, List.setIfInBounds_toArray, List.set_cons_zero, List.set_cons_succ])
  refine wpAnyH_take (i := 14) (v := ?vK14) (oi := { dst := some 91, op := Op.fieldAddr 30 (Operand.tmp 5) 2, type := 0, pos := "law.go:46", after := #[{ on := 5, ground := Ground.guard }], guard := some (5, false) }) rfl (by kernel_rfl) (by kernel_rfl) (by kernel_rfl) (fun _ _ _ h => h) (Or.inl ⟨by rfl, ?hyK14⟩) hHeld ?restK14
  case hyK14 => (intro w_ hSw; clear hSw; go_simp; try with_reducible rfl)
  (try simp only [Act.put, List.setIfInBounds_toArray, List.set_cons_zero, List.set_cons_succ])
  refine wpAnyH_take (i := 15) (v := ?vK15) (oi := { dst := some 92, op := Op.load 3 (Operand.tmp 91), type := 3, pos := "law.go:46", after := #[{ on := 14, ground := Ground.data }, { on := 5, ground := Ground.guard }], guard := some (5, false) }) rfl (by kernel_rfl) (by kernel_rfl) (by kernel_rfl) (fun _ _ _ h => h) (Or.inl ⟨by rfl, ?hyK15⟩) hHeld ?restK15
  case hyK15 => (intro w_ hSw; have d0 := hSw.cell Z5.out.1 N5.out; have d1 := hSw.cell Z5.out.2.1 N5.out; have d2 := hSw.cell Z5.out.2.2 N5.out; clear hSw; go_simp; try with_reducible rfl)
  (try simp only [Act.put, List.setIfInBounds_toArray, List.set_cons_zero, List.set_cons_succ])
  refine wpAnyH_ready (rs := [13]) (by kernel_rfl) (by simp) ?_
  refine AllReadyH.cons (o := { dst := some 90, op := Op.call { callee := Callee.value (Operand.func 44), args := #[Operand.tmp 89], argTypes := #[82] }, type := 3, pos := "law.go:46", after := #[{ on := 12, ground := Ground.data }, { on := 5, ground := Ground.chain }, { on := 5, ground := Ground.guard }], guard := some (5, false) }) rfl (fun K hK => ?_) AllReadyH.nil
  go_simp
  with_reducible refine (dogwatchref07_Gen.calls r.f0 r.f1 r.f2 r.f3 g0 _ HG.out).mono ?_
  rintro e w5 ⟨rfl, hb5⟩
  have HK5 := Aside0.mk (hHeld.below hb5)
  clear hb5
  refine hK.out _ _ ?_ (fun hHeld => ?_)
  · exact HK5.out
  clear hK K
  (try simp only [Act.put, List.setIfInBounds_toArray, List.set_cons_zero, List.set_cons_succ])
  refine wpAnyH_take (i := 16) (v := ?vK16) (oi := { dst := some 93, op := Op.binOp BinOp.neq 3 (Operand.tmp 90) (Operand.tmp 92) 3, type := 4, pos := "law.go:46", after := #[{ on := 13, ground := Ground.data }, { on := 15, ground := Ground.data }, { on := 5, ground := Ground.guard }], guard := some (5, false) }) rfl (by kernel_rfl) (by kernel_rfl) (by kernel_rfl) (fun _ _ _ h => h) (Or.inl ⟨by rfl, ?hyK16⟩) hHeld ?restK16
  case hyK16 => (intro w_ hSw; clear hSw; go_simp; try with_reducible rfl)
  (try simp only [Act.put, List.setIfInBounds_toArray, List.set_cons_zero, List.set_cons_succ])
  refine wpAnyH_take (i := 17) (v := ?vK17) (oi := { dst := some 94, op := Op.pick (Operand.tmp 82) (Operand.const (Value.bool true)) (Operand.tmp 93), type := 4, pos := "law.go:46", after := #[{ on := 5, ground := Ground.data }, { on := 16, ground := Ground.data }], guard := none }) rfl (by kernel_rfl) (by kernel_rfl) (by kernel_rfl) (fun _ _ _ h => h) (Or.inl ⟨by rfl, ?hyK17⟩) hHeld ?restK17
  case hyK17 => (intro w_ hSw; clear hSw; go_simp; try with_reducible rfl)
  (try simp only [Act.put, List.setIfInBounds_toArray, List.set_cons_zero, List.set_cons_succ])
  refine wpAnyH_done (by kernel_rfl) ?_ _
  obtain ⟨fa, fb, g0_, g1_, g2_, g3_⟩ := HK5.out.facts
  have d40 := HK5.out.cell Z4.out.1 N4.out
  have d41 := HK5.out.cell Z4.out.2 N4.out
  have d50 := HK5.out.cell Z5.out.1 N5.out
  have d51 := HK5.out.cell Z5.out.2.1 N5.out
  have d52 := HK5.out.cell Z5.out.2.2 N5.out
  clear ewi ewj
  go_wp2_with (go_at_call 68; (with_reducible refine (HTR.out _ (HC3.out _ HK5.out)).mono ?_); rintro e w7 ⟨v7, rfl, hr7, hb7⟩; obtain ⟨A7, cp7, rfl⟩ := Kd.R_slice hr7; obtain ⟨fa7, fb7, h67⟩ := HK5.out.blk hb7; have c60 := (blk_cell h67 0).trans rfl; have c61 := (blk_cell h67 1).trans rfl; have f60 := blk_frozen h67 0; have f61 := blk_frozen h67 1; have H67 := Aside0.mk h67; have HQ7 := Aside0.mk ((HQ3.out.turned HK5.out.1).anew hb7 hr7); clear hr7 hb7 h67)
  refine bodyPost_ret (results_ct rfl _ _ (w.heap.size + 2) 71 #[(.slice A7 l'.length cp7), .int .i64 (c + 1)] (0, 0) _ rfl ?_ Try.underlying71 rfl (by kernel_rfl)) rfl ?_
  · exact blk_set (blk_set H67.out 0 (.slice A7 l'.length cp7)) 1 (.int .i64 (c + 1))
  · exact ⟨_, s', l', c + 1, rfl, HP'.out, HQ7.out.res _ _⟩

set_option maxHeartbeats 4000000 in
set_option maxRecDepth 100000 in
theorem step_drop_none3 {E : Env} {n b : Nat} {w : World} {F P : Nat → Prop} {g : Nat} {s : Tb Int} {v : Value} {l : List S82} {c : Int} (x : S30) (HP : PInv n b s l c) (hb : b ≤ 100) (h : Two E w F P g s v l) (k : x.f0 = 3) (hlk : I.look s x.f1 = none) : StepCalls E w n b g v c x := by
  obtain ⟨A, cp, rfl⟩ := Kd.R_slice h.r
  have H := Aside0.mk h
  have HPP := Aside0.mk HP
  have HBB := Aside0.mk hb
  have HREAD := Aside0.mk (Kd.R_reads' h.r)
  have hlen : l.length ≤ 1024 := by rw [HP.len]; exact HP.t.n2
  have HLEN := Aside0.mk hlen
  have B4 := Aside0.mk (box0 w (.cells #[.slice A l.length cp, .int .i64 c] 71) (.cells #[.int .i64 x.f0, .int .i64 x.f1, .int .i64 x.f2, .int .i64 x.f3] 30) (.cells #[.slice none 0 0, .int .i64 0] 71))
  have B5 := Aside0.mk (box1 w (.cells #[.slice A l.length cp, .int .i64 c] 71) (.cells #[.int .i64 x.f0, .int .i64 x.f1, .int .i64 x.f2, .int .i64 x.f3] 30) (.cells #[.slice none 0 0, .int .i64 0] 71))
  have B6 := Aside0.mk (box2 w (.cells #[.slice A l.length cp, .int .i64 c] 71) (.cells #[.int .i64 x.f0, .int .i64 x.f1, .int .i64 x.f2, .int .i64 x.f3] 30) (.cells #[.slice none 0 0, .int .i64 0] 71))
  have HQ0 := Aside0.mk (TwoQ.start h (.cells #[.slice A l.length cp, .int .i64 c] 71) (.cells #[.int .i64 x.f0, .int .i64 x.f1, .int .i64 x.f2, .int .i64 x.f3] 30) (.cells #[.slice none 0 0, .int .i64 0] 71))
  have hu := Try.underlying71
  have hu2 := Try.underlying30
  have hu3 := Try.underlying82
  have e0 : (x.f0 == 0) = false := beq_eq_false_iff_ne.mpr (by omega)
  have e1 : (x.f0 == 1) = false := beq_eq_false_iff_ne.mpr (by omega)
  have e2 : (x.f0 == 2) = false := beq_eq_false_iff_ne.mpr (by omega)
  have e3 : (x.f0 == 3) = true := beq_iff_eq.mpr k
  have HFB := Aside0.mk (show s.free.length < 1000000 by have := HP.t.fb; omega)
  have HTH := Aside0.mk (fun (W : World) (hW : Kd.C k82 W A l.length l) => dogwatchref07_Has.calls A cp l c x.f1 false W hW (Kd.R_reads' h.r).2.1 (by rw [HP.has, hlk]; rfl))
  have HTD := Aside0.mk (show I.dropF s x.f1 x.f2 = (s, 10) by unfold I.dropF; rw [hlk])
  clear k hlk
  clear h HP hb hlen
  obtain ⟨L, hL⟩ : ∃ L, L = l.length := ⟨_, rfl⟩
  rw [← hL] at H HREAD B4 B5 B6 HQ0 HTH ⊢
  have HL := Aside0.mk hL
  clear hL
  unfold StepCalls
  go_enter Try.func38, Try.ntmps38
  go_wp2_with (go_at_call 17; (with_reducible refine (drop_exI HQ0.out.two.t HFB.out HTD.out).mono ?_); rintro e w3 ⟨rfl, hr3, ht3⟩; have h5 : w3.heap[w.heap.size + 1]? = some (.cells #[.int .i64 x.f0, .int .i64 x.f1, .int .i64 x.f2, .int .i64 x.f3] 30 (0, 0)) := blk_kept B5.out ht3.kept (H.out.more _ (by omega)); have h6 : w3.heap[w.heap.size + 2]? = some (.cells #[.slice none 0 0, .int .i64 0] 71 (0, 0)) := blk_kept B6.out ht3.kept (H.out.more _ (by omega)); have h4 : w3.heap[w.heap.size]? = some (.cells #[.slice A L cp, .int .i64 c] 71 (0, 0)) := blk_kept B4.out ht3.kept (H.out.more _ (by omega)); have Z4 := Aside0.mk (And.intro ((blk_cell h4 0).trans rfl) ((blk_cell h4 1).trans rfl)); have Z5 := Aside0.mk (And.intro ((blk_cell h5 0).trans rfl) (And.intro ((blk_cell h5 1).trans rfl) ((blk_cell h5 2).trans rfl))); have H63 := Aside0.mk h6; have HQ3 := Aside0.mk (HQ0.out.table hr3 ht3); clear hr3 ht3 h4 h5 h6)
  have N4 := Aside0.mk (show w.heap.size ≠ w.heap.size + 2 by omega)
  have N5 := Aside0.mk (show w.heap.size + 1 ≠ w.heap.size + 2 by omega)
  have HC3 := Aside0.mk (fun (w' : World) (hk : Kp w3 (w.heap.size + 2) w') => (Kd.R_reads' (HQ3.out.turned hk.1).two.r).2.2)
  rw [← HL.out] at HC3
  refine wp_region_held_drew (S := Kp w3 (w.heap.size + 2)) (by kernel_rfl) (Kp.start H63.out) (fun hHeld => ?_)
  refine wpAnyH_take (i := 0) (v := ?vN0) (oi := { dst := some 77, op := Op.load 71 (Operand.tmp 4), type := 71, pos := "law.go:46", after := #[], guard := none }) rfl (by kernel_rfl) (by kernel_rfl) (by kernel_rfl) (fun _ _ _ h => h) (Or.inl ⟨by rfl, ?hyN0⟩) hHeld ?restN0
  case hyN0 => (intro w_ hSw; have d0 := hSw.cell Z4.out.1 N4.out; have d1 := hSw.cell Z4.out.2 N4.out; clear hSw; go_simp; try with_reducible rfl)
  (try simp only [Act.put, List.setIfInBounds_toArray, List.set_cons_zero, List.set_cons_succ])
  refine wpAnyH_take (i := 1) (v := ?vN1) (oi := { dst := some 78, op := Op.fieldAddr 30 (Operand.tmp 5) 1, type := 0, pos := "law.go:46", after := #[], guard := none }) rfl (by kernel_rfl) (by kernel_rfl) (by kernel_rfl) (fun _ _ _ h => h) (Or.inl ⟨by rfl, ?hyN1⟩) hHeld ?restN1
  case hyN1 => (intro w_ hSw; clear hSw; go_simp; try with_reducible rfl)
  (try simp only [Act.put, List.setIfInBounds_toArray, List.set_cons_zero, List.set_cons_succ])
  refine wpAnyH_take (i := 2) (v := ?vN2) (oi := { dst := some 79, op := Op.load 3 (Operand.tmp 78), type := 3, pos := "law.go:46", after := #[{ on := 1, ground := Ground.data }], guard := none }) rfl (by kernel_rfl) (by kernel_rfl) (by kernel_rfl) (fun _ _ _ h => h) (Or.inl ⟨by rfl, ?hyN2⟩) hHeld ?restN2
  case hyN2 => (intro w_ hSw; have d0 := hSw.cell Z5.out.1 N5.out; have d1 := hSw.cell Z5.out.2.1 N5.out; have d2 := hSw.cell Z5.out.2.2 N5.out; clear hSw; go_simp; try with_reducible rfl)
  (try simp only [Act.put, List.setIfInBounds_toArray, List.set_cons_zero, List.set_cons_succ])
  refine wpAnyH_ready (rs := [3]) (by kernel_rfl) (by simp) ?_
  refine AllReadyH.cons (o := { dst := some 80, op := Op.call { callee := Callee.value (Operand.func 43), args := #[Operand.tmp 77, Operand.tmp 79], argTypes := #[71, 3] }, type := 4, pos := "law.go:46", after := #[{ on := 0, ground := Ground.data }, { on := 2, ground := Ground.data }], guard := none }) rfl (fun K hK => ?_) AllReadyH.nil
  go_simp
  with_reducible refine (HTH.out _ (HC3.out _ hHeld)).mono ?_
  rintro e w4 ⟨rfl, hb4⟩
  have HK4 := Aside0.mk (hHeld.below hb4)
  clear hb4
  refine hK.out _ _ ?_ (fun hHeld => ?_)
  · exact HK4.out
  clear hK K
  (try simp only [Act.put, List.setIfInBounds_toArray, List.set_cons_zero, List.set_cons_succ])
  refine wpAnyH_take (i := 4) (v := ?vN4) (oi := { dst := some 81, op := Op.unOp UnOp.not 4 (Operand.tmp 80), type := 4, pos := "law.go:46", after := #[{ on := 3, ground := Ground.data }], guard := none }) rfl (by kernel_rfl) (by kernel_rfl) (by kernel_rfl) (fun _ _ _ h => h) (Or.inl ⟨by rfl, ?hyN4⟩) hHeld ?restN4
  case hyN4 => (intro w_ hSw; clear hSw; go_simp; try with_reducible rfl)
  (try simp only [Act.put, List.setIfInBounds_toArray, List.set_cons_zero, List.set_cons_succ])
  refine wpAnyH_take (i := 5) (v := ?vN5) (oi := { dst := some 82, op := Op.move (Operand.tmp 81), type := 4, pos := "law.go:46", after := #[{ on := 4, ground := Ground.data }, { on := 3, ground := Ground.chain }], guard := none }) rfl (by kernel_rfl) (by kernel_rfl) (by kernel_rfl) (fun _ _ _ h => h) (Or.inl ⟨by rfl, ?hyN5⟩) hHeld ?restN5
  case hyN5 => (intro w_ hSw; clear hSw; go_simp; try with_reducible rfl)
  (try simp only [Act.put, List.setIfInBounds_toArray, List.set_cons_zero, List.set_cons_succ])
  refine wpAnyH_take (i := 6) (v := undef) (oi := { dst := some 83, op := Op.fieldAddr 71 (Operand.tmp 4) 0, type := 0, pos := "law.go:46", after := #[{ on := 5, ground := Ground.guard }], guard := some (5, false) }) rfl (by kernel_rfl) (by kernel_rfl) (by kernel_rfl) (fun _ _ _ h => h) (Or.inr ⟨by rfl, rfl⟩) hHeld ?restN6
  (try simp only [Act.put, List.setIfInBounds_toArray, List.set_cons_zero, List.set_cons_succ])
  refine wpAnyH_take (i := 7) (v := undef) (oi := { dst := some 84, op := Op.load 69 (Operand.tmp 83), type := 69, pos := "law.go:46", after := #[{ on := 6, ground := Ground.data }, { on := 5, ground := Ground.guard }], guard := some (5, false) }) rfl (by kernel_rfl) (by kernel_rfl) (by kernel_rfl) (fun _ _ _ h => h) (Or.inr ⟨by rfl, rfl⟩) hHeld ?restN7
  (try simp only [Act.put, List.setIfInBounds_toArray, List.set_cons_zero, List.set_cons_succ])
  refine wpAnyH_take (i := 8) (v := undef) (oi := { dst := some 85, op := Op.fieldAddr 30 (Operand.tmp 5) 1, type := 0, pos := "law.go:46", after := #[{ on := 5, ground := Ground.guard }], guard := some (5, false) }) rfl (by kernel_rfl) (by kernel_rfl) (by kernel_rfl) (fun _ _ _ h => h) (Or.inr ⟨by rfl, rfl⟩) hHeld ?restN8
  (try simp only [Act.put, List.setIfInBounds_toArray, List.set_cons_zero, List.set_cons_succ])
  refine wpAnyH_take (i := 9) (v := undef) (oi := { dst := some 86, op := Op.load 3 (Operand.tmp 85), type := 3, pos := "law.go:46", after := #[{ on := 8, ground := Ground.data }, { on := 5, ground := Ground.guard }], guard := some (5, false) }) rfl (by kernel_rfl) (by kernel_rfl) (by kernel_rfl) (fun _ _ _ h => h) (Or.inr ⟨by rfl, rfl⟩) hHeld ?restN9
  (try simp only [Act.put, List.setIfInBounds_toArray, List.set_cons_zero, List.set_cons_succ])
  refine wpAnyH_take (i := 10) (v := undef) (oi := { dst := some 87, op := Op.binOp BinOp.sub 3 (Operand.tmp 86) (Operand.const (Value.int IntKind.i64 1)) 3, type := 3, pos := "law.go:46", after := #[{ on := 9, ground := Ground.data }, { on := 5, ground := Ground.guard }], guard := some (5, false) }) rfl (by kernel_rfl) (by kernel_rfl) (by kernel_rfl) (fun _ _ _ h => h) (Or.inr ⟨by rfl, rfl⟩) hHeld ?restN10
  (try simp only [Act.put, List.setIfInBounds_toArray, List.set_cons_zero, List.set_cons_succ])
  refine wpAnyH_take (i := 11) (v := undef) (oi := { dst := some 88, op := Op.indexAddr 69 (Operand.tmp 84) (Operand.tmp 87), type := 0, pos := "law.go:46", after := #[{ on := 7, ground := Ground.data }, { on := 10, ground := Ground.data }, { on := 5, ground := Ground.guard }], guard := some (5, false) }) rfl (by kernel_rfl) (by kernel_rfl) (by kernel_rfl) (fun _ _ _ h => h) (Or.inr ⟨by rfl, rfl⟩) hHeld ?restN11
  (try simp only [Act.put, List.setIfInBounds_toArray, List.set_cons_zero, List.set_cons_succ])
  refine wpAnyH_take (i := 12) (v := undef) (oi := { dst := some 89, op := Op.load 82 (Operand.tmp 88), type := 82, pos := "law.go:46", after := #[{ on := 11, ground := Ground.data }, { on := 5, ground := Ground.guard }], guard := some (5, false) }) rfl (by kernel_rfl) (by kernel_rfl) (by kernel_rfl) (fun _ _ _ h => h) (Or.inr ⟨by rfl, rfl⟩) hHeld ?restN12
  (try simp only [Act.put, List.setIfInBounds_toArray, List.set_cons_zero, List.set_cons_succ])
  refine wpAnyH_take (i := 13) (v := undef) (oi := { dst := some 90, op := Op.call { callee := Callee.value (Operand.func 44), args := #[Operand.tmp 89], argTypes := #[82] }, type := 3, pos := "law.go:46", after := #[{ on := 12, ground := Ground.data }, { on := 5, ground := Ground.chain }, { on := 5, ground := Ground.guard }], guard := some (5, false) }) rfl (by kernel_rfl) (by kernel_rfl) (by kernel_rfl) (fun _ _ _ h => h) (Or.inr ⟨by rfl, rfl⟩) hHeld ?restN13
  (try simp only [Act.put, List.setIfInBounds_toArray, List.set_cons_zero, List.set_cons_succ])
  refine wpAnyH_take (i := 14) (v := undef) (oi := { dst := some 91, op := Op.fieldAddr 30 (Operand.tmp 5) 2, type := 0, pos := "law.go:46", after := #[{ on := 5, ground := Ground.guard }], guard := some (5, false) }) rfl (by kernel_rfl) (by kernel_rfl) (by kernel_rfl) (fun _ _ _ h => h) (Or.inr ⟨by rfl, rfl⟩) hHeld ?restN14
  (try simp only [Act.put, List.setIfInBounds_toArray, List.set_cons_zero, List.set_cons_succ])
  refine wpAnyH_take (i := 15) (v := undef) (oi := { dst := some 92, op := Op.load 3 (Operand.tmp 91), type := 3, pos := "law.go:46", after := #[{ on := 14, ground := Ground.data }, { on := 5, ground := Ground.guard }], guard := some (5, false) }) rfl (by kernel_rfl) (by kernel_rfl) (by kernel_rfl) (fun _ _ _ h => h) (Or.inr ⟨by rfl, rfl⟩) hHeld ?restN15
  (try simp only [Act.put, List.setIfInBounds_toArray, List.set_cons_zero, List.set_cons_succ])
  refine wpAnyH_take (i := 16) (v := undef) (oi := { dst := some 93, op := Op.binOp BinOp.neq 3 (Operand.tmp 90) (Operand.tmp 92) 3, type := 4, pos := "law.go:46", after := #[{ on := 13, ground := Ground.data }, { on := 15, ground := Ground.data }, { on := 5, ground := Ground.guard }], guard := some (5, false) }) rfl (by kernel_rfl) (by kernel_rfl) (by kernel_rfl) (fun _ _ _ h => h) (Or.inr ⟨by rfl, rfl⟩) hHeld ?restN16
  (try simp only [Act.put, List.setIfInBounds_toArray, List.set_cons_zero, List.set_cons_succ])
  refine wpAnyH_take (i := 17) (v := ?vN17) (oi := { dst := some 94, op := Op.pick (Operand.tmp 82) (Operand.const (Value.bool true)) (Operand.tmp 93), type := 4, pos := "law.go:46", after := #[{ on := 5, ground := Ground.data }, { on := 16, ground := Ground.data }], guard := none }) rfl (by kernel_rfl) (by kernel_rfl) (by kernel_rfl) (fun _ _ _ h => h) (Or.inl ⟨by rfl, ?hyN17⟩) hHeld ?restN17
  case hyN17 => (intro w_ hSw; clear hSw; go_simp; try with_reducible rfl)
  (try simp only [Act.put, List.setIfInBounds_toArray, List.set_cons_zero, List.set_cons_succ])
  refine wpAnyH_done (by kernel_rfl) ?_ _
  obtain ⟨fa, fb, g0_, g1_, g2_, g3_⟩ := HK4.out.facts
  have d40 := HK4.out.cell Z4.out.1 N4.out
  have d41 := HK4.out.cell Z4.out.2 N4.out
  have d50 := HK4.out.cell Z5.out.1 N5.out
  have d51 := HK4.out.cell Z5.out.2.1 N5.out
  have d52 := HK4.out.cell Z5.out.2.2 N5.out
  go_wp2
  refine bodyPost_ret (results_ct rfl _ _ (w.heap.size + 2) 71 #[.slice A L cp, .int .i64 c] (0, 0) _ rfl ?_ Try.underlying71 rfl (by kernel_rfl)) rfl ?_
  · exact HK4.out.res _ _
  · exact ⟨_, s, l, c, rfl, HPP.out.up, (HQ3.out.turned (HK4.out.set (.slice A L cp) (.int .i64 c)).1).out⟩

set_option maxHeartbeats 4000000 in
set_option maxRecDepth 100000 in
theorem step_drop_gen3 {E : Env} {n b : Nat} {w : World} {F P : Nat → Prop} {g : Nat} {s : Tb Int} {v : Value} {l : List S82} {c : Int} (x : S30) (HP : PInv n b s l c) (hb : b ≤ 100) (h : Two E w F P g s v l) (k : x.f0 = 3) (y g0 : Int) (hlk : I.look s x.f1 = some (y, g0)) (hgx : g0 ≠ x.f2) : StepCalls E w n b g v c x := by
  obtain ⟨A, cp, rfl⟩ := Kd.R_slice h.r
  have H := Aside0.mk h
  have HPP := Aside0.mk HP
  have HBB := Aside0.mk hb
  have HREAD := Aside0.mk (Kd.R_reads' h.r)
  have hlen : l.length ≤ 1024 := by rw [HP.len]; exact HP.t.n2
  have HLEN := Aside0.mk hlen
  have B4 := Aside0.mk (box0 w (.cells #[.slice A l.length cp, .int .i64 c] 71) (.cells #[.int .i64 x.f0, .int .i64 x.f1, .int .i64 x.f2, .int .i64 x.f3] 30) (.cells #[.slice none 0 0, .int .i64 0] 71))
  have B5 := Aside0.mk (box1 w (.cells #[.slice A l.length cp, .int .i64 c] 71) (.cells #[.int .i64 x.f0, .int .i64 x.f1, .int .i64 x.f2, .int .i64 x.f3] 30) (.cells #[.slice none 0 0, .int .i64 0] 71))
  have B6 := Aside0.mk (box2 w (.cells #[.slice A l.length cp, .int .i64 c] 71) (.cells #[.int .i64 x.f0, .int .i64 x.f1, .int .i64 x.f2, .int .i64 x.f3] 30) (.cells #[.slice none 0 0, .int .i64 0] 71))
  have HQ0 := Aside0.mk (TwoQ.start h (.cells #[.slice A l.length cp, .int .i64 c] 71) (.cells #[.int .i64 x.f0, .int .i64 x.f1, .int .i64 x.f2, .int .i64 x.f3] 30) (.cells #[.slice none 0 0, .int .i64 0] 71))
  have hu := Try.underlying71
  have hu2 := Try.underlying30
  have hu3 := Try.underlying82
  have e0 : (x.f0 == 0) = false := beq_eq_false_iff_ne.mpr (by omega)
  have e1 : (x.f0 == 1) = false := beq_eq_false_iff_ne.mpr (by omega)
  have e2 : (x.f0 == 2) = false := beq_eq_false_iff_ne.mpr (by omega)
  have e3 : (x.f0 == 3) = true := beq_iff_eq.mpr k
  have HFB := Aside0.mk (show s.free.length < 1000000 by have := HP.t.fb; omega)
  have HTH := Aside0.mk (fun (W : World) (hW : Kd.C k82 W A l.length l) => dogwatchref07_Has.calls A cp l c x.f1 true W hW (Kd.R_reads' h.r).2.1 (by rw [HP.has, hlk]; rfl))
  obtain ⟨j, hx1, hsj⟩ := I.look_some hlk
  obtain ⟨r, hr, hr0, hr1, hr2, hr3, hr4, hr5, hr6, hr7⟩ := HP.slot j y g0 true hsj
  have hg0 := hr2 (HP.taken_lt j y g0 hsj)
  have HG := Aside0.mk (show dogwatchref07_Gen.f r.f0 r.f1 r.f2 r.f3 = some g0 by unfold dogwatchref07_Gen.f; rw [hg0]; congr 1; unfold wrap64; omega)
  have HRJ := Aside0.mk hr
  have hjl : j < l.length := (List.getElem?_eq_some_iff.mp hr).1
  have p0 := eq_true (show (0 : Int) ≤ (j : Int) by omega)
  have q5 := eq_true (show (j : Int) < (l.length : Int) by omega)
  have ewj : wrap64 (x.f1 - 1) = (j : Int) := by rw [hx1]; unfold wrap64; omega
  have HTD := Aside0.mk (show I.dropF s x.f1 x.f2 = (s, 10) by unfold I.dropF; rw [hlk]; dsimp only; rw [if_neg hgx])
  have dg : (g0 != x.f2) = true := bne_iff_ne.mpr hgx
  have dg2 : (g0 == x.f2) = false := beq_eq_false_iff_ne.mpr hgx
  clear k hlk hx1 hsj hr hr0 hr1 hr2 hr3 hr4 hr5 hr6 hr7 hg0 hjl hgx
  clear h HP hb hlen
  obtain ⟨L, hL⟩ : ∃ L, L = l.length := ⟨_, rfl⟩
  rw [← hL] at H HREAD B4 B5 B6 HQ0 HTH q5 ⊢
  have HL := Aside0.mk hL
  clear hL
  unfold StepCalls
  go_enter Try.func38, Try.ntmps38
  go_wp2_with (go_at_call 17; (with_reducible refine (drop_exI HQ0.out.two.t HFB.out HTD.out).mono ?_); rintro e w3 ⟨rfl, hr3, ht3⟩; have h5 : w3.heap[w.heap.size + 1]? = some (.cells #[.int .i64 x.f0, .int .i64 x.f1, .int .i64 x.f2, .int .i64 x.f3] 30 (0, 0)) := blk_kept B5.out ht3.kept (H.out.more _ (by omega)); have h6 : w3.heap[w.heap.size + 2]? = some (.cells #[.slice none 0 0, .int .i64 0] 71 (0, 0)) := blk_kept B6.out ht3.kept (H.out.more _ (by omega)); have h4 : w3.heap[w.heap.size]? = some (.cells #[.slice A L cp, .int .i64 c] 71 (0, 0)) := blk_kept B4.out ht3.kept (H.out.more _ (by omega)); have Z4 := Aside0.mk (And.intro ((blk_cell h4 0).trans rfl) ((blk_cell h4 1).trans rfl)); have Z5 := Aside0.mk (And.intro ((blk_cell h5 0).trans rfl) (And.intro ((blk_cell h5 1).trans rfl) ((blk_cell h5 2).trans rfl))); have H63 := Aside0.mk h6; have HQ3 := Aside0.mk (HQ0.out.table hr3 ht3); clear hr3 ht3 h4 h5 h6)
  have N4 := Aside0.mk (show w.heap.size ≠ w.heap.size + 2 by omega)
  have N5 := Aside0.mk (show w.heap.size + 1 ≠ w.heap.size + 2 by omega)
  have HC3 := Aside0.mk (fun (w' : World) (hk : Kp w3 (w.heap.size + 2) w') => (Kd.R_reads' (HQ3.out.turned hk.1).two.r).2.2)
  rw [← HL.out] at HC3
  obtain ⟨ad, eA, ze⟩ := at82 (Kd.R_reads' HQ3.out.two.r).2.2 j _ HRJ.out
  have HNE := HQ3.out.np
  have HOWN := HQ3.out.two.r.1
  have ne : (ad.add (j * 4)).block ≠ w.heap.size + 2 := by
    rw [add_block]
    intro e
    exact HNE (HOWN _ (by rw [eA, ← e]; rfl))
  have NE := Aside0.mk ne
  have ZE := Aside0.mk ze
  subst eA
  have ewi := (i64_w (x.f1 - 1)).trans ewj
  clear ne ze HNE HOWN
  refine wp_region_held_drew (S := Kp w3 (w.heap.size + 2)) (by kernel_rfl) (Kp.start H63.out) (fun hHeld => ?_)
  refine wpAnyH_take (i := 0) (v := ?vG0) (oi := { dst := some 77, op := Op.load 71 (Operand.tmp 4), type := 71, pos := "law.go:46", after := #[], guard := none }) rfl (by kernel_rfl) (by kernel_rfl) (by kernel_rfl) (fun _ _ _ h => h) (Or.inl ⟨by rfl, ?hyG0⟩) hHeld ?restG0
  case hyG0 => (intro w_ hSw; have d0 := hSw.cell Z4.out.1 N4.out; have d1 := hSw.cell Z4.out.2 N4.out; clear hSw; go_simp; try with_reducible rfl)
  (try simp only [Act.put, List.setIfInBounds_toArray, List.set_cons_zero, List.set_cons_succ])
  refine wpAnyH_take (i := 1) (v := ?vG1) (oi := { dst := some 78, op := Op.fieldAddr 30 (Operand.tmp 5) 1, type := 0, pos := "law.go:46", after := #[], guard := none }) rfl (by kernel_rfl) (by kernel_rfl) (by kernel_rfl) (fun _ _ _ h => h) (Or.inl ⟨by rfl, ?hyG1⟩) hHeld ?restG1
  case hyG1 => (intro w_ hSw; clear hSw; go_simp; try with_reducible rfl)
  (try simp only [Act.put, List.setIfInBounds_toArray, List.set_cons_zero, List.set_cons_succ])
  refine wpAnyH_take (i := 2) (v := ?vG2) (oi := { dst := some 79, op := Op.load 3 (Operand.tmp 78), type := 3, pos := "law.go:46", after := #[{ on := 1, ground := Ground.data }], guard := none }) rfl (by kernel_rfl) (by kernel_rfl) (by kernel_rfl) (fun _ _ _ h => h) (Or.inl ⟨by rfl, ?hyG2⟩) hHeld ?restG2
  case hyG2 => (intro w_ hSw; have d0 := hSw.cell Z5.out.1 N5.out; have d1 := hSw.cell Z5.out.2.1 N5.out; have d2 := hSw.cell Z5.out.2.2 N5.out; clear hSw; go_simp; try with_reducible rfl)
  (try simp only [Act.put, List.setIfInBounds_toArray, List.set_cons_zero, List.set_cons_succ])
  refine wpAnyH_ready (rs := [3]) (by kernel_rfl) (by simp) ?_
  refine AllReadyH.cons (o := { dst := some 80, op := Op.call { callee := Callee.value (Operand.func 43), args := #[Operand.tmp 77, Operand.tmp 79], argTypes := #[71, 3] }, type := 4, pos := "law.go:46", after := #[{ on := 0, ground := Ground.data }, { on := 2, ground := Ground.data }], guard := none }) rfl (fun K hK => ?_) AllReadyH.nil
  go_simp
  with_reducible refine (HTH.out _ (HC3.out _ hHeld)).mono ?_
  rintro e w4 ⟨rfl, hb4⟩
  have HK4 := Aside0.mk (hHeld.below hb4)
  clear hb4
  refine hK.out _ _ ?_ (fun hHeld => ?_)
  · exact HK4.out
  clear hK K
  (try simp only [Act.put, List.setIfInBounds_toArray, List.set_cons_zero, List.set_cons_succ])
  refine wpAnyH_take (i := 4) (v := ?vG4) (oi := { dst := some 81, op := Op.unOp UnOp.not 4 (Operand.tmp 80), type := 4, pos := "law.go:46", after := #[{ on := 3, ground := Ground.data }], guard := none }) rfl (by kernel_rfl) (by kernel_rfl) (by kernel_rfl) (fun _ _ _ h => h) (Or.inl ⟨by rfl, ?hyG4⟩) hHeld ?restG4
  case hyG4 => (intro w_ hSw; clear hSw; go_simp; try with_reducible rfl)
  (try simp only [Act.put, List.setIfInBounds_toArray, List.set_cons_zero, List.set_cons_succ])
  refine wpAnyH_take (i := 5) (v := ?vG5) (oi := { dst := some 82, op := Op.move (Operand.tmp 81), type := 4, pos := "law.go:46", after := #[{ on := 4, ground := Ground.data }, { on := 3, ground := Ground.chain }], guard := none }) rfl (by kernel_rfl) (by kernel_rfl) (by kernel_rfl) (fun _ _ _ h => h) (Or.inl ⟨by rfl, ?hyG5⟩) hHeld ?restG5
  case hyG5 => (intro w_ hSw; clear hSw; go_simp; try with_reducible rfl)
  (try simp only [Act.put, List.setIfInBounds_toArray, List.set_cons_zero, List.set_cons_succ])
  refine wpAnyH_take (i := 6) (v := ?vG6) (oi := { dst := some 83, op := Op.fieldAddr 71 (Operand.tmp 4) 0, type := 0, pos := "law.go:46", after := #[{ on := 5, ground := Ground.guard }], guard := some (5, false) }) rfl (by kernel_rfl) (by kernel_rfl) (by kernel_rfl) (fun _ _ _ h => h) (Or.inl ⟨by rfl, ?hyG6⟩) hHeld ?restG6
  case hyG6 => (intro w_ hSw; clear hSw; go_simp; try with_reducible rfl)
  (try simp only [Act.put, List.setIfInBounds_toArray, List.set_cons_zero, List.set_cons_succ])
  refine wpAnyH_take (i := 7) (v := ?vG7) (oi := { dst := some 84, op := Op.load 69 (Operand.tmp 83), type := 69, pos := "law.go:46", after := #[{ on := 6, ground := Ground.data }, { on := 5, ground := Ground.guard }], guard := some (5, false) }) rfl (by kernel_rfl) (by kernel_rfl) (by kernel_rfl) (fun _ _ _ h => h) (Or.inl ⟨by rfl, ?hyG7⟩) hHeld ?restG7
  case hyG7 => (intro w_ hSw; have d0 := hSw.cell Z4.out.1 N4.out; have d1 := hSw.cell Z4.out.2 N4.out; clear hSw; go_simp; try with_reducible rfl)
  (try simp only [Act.put, List.setIfInBounds_toArray, List.set_cons_zero, List.set_cons_succ])
  refine wpAnyH_take (i := 8) (v := ?vG8) (oi := { dst := some 85, op := Op.fieldAddr 30 (Operand.tmp 5) 1, type := 0, pos := "law.go:46", after := #[{ on := 5, ground := Ground.guard }], guard := some (5, false) }) rfl (by kernel_rfl) (by kernel_rfl) (by kernel_rfl) (fun _ _ _ h => h) (Or.inl ⟨by rfl, ?hyG8⟩) hHeld ?restG8
  case hyG8 => (intro w_ hSw; clear hSw; go_simp; try with_reducible rfl)
  (try simp only [Act.put, List.setIfInBounds_toArray, List.set_cons_zero, List.set_cons_succ])
  refine wpAnyH_take (i := 9) (v := ?vG9) (oi := { dst := some 86, op := Op.load 3 (Operand.tmp 85), type := 3, pos := "law.go:46", after := #[{ on := 8, ground := Ground.data }, { on := 5, ground := Ground.guard }], guard := some (5, false) }) rfl (by kernel_rfl) (by kernel_rfl) (by kernel_rfl) (fun _ _ _ h => h) (Or.inl ⟨by rfl, ?hyG9⟩) hHeld ?restG9
  case hyG9 => (intro w_ hSw; have d0 := hSw.cell Z5.out.1 N5.out; have d1 := hSw.cell Z5.out.2.1 N5.out; have d2 := hSw.cell Z5.out.2.2 N5.out; clear hSw; go_simp; try with_reducible rfl)
  (try simp only [Act.put, List.setIfInBounds_toArray, List.set_cons_zero, List.set_cons_succ])
  refine wpAnyH_take (i := 10) (v := ?vG10) (oi := { dst := some 87, op := Op.binOp BinOp.sub 3 (Operand.tmp 86) (Operand.const (Value.int IntKind.i64 1)) 3, type := 3, pos := "law.go:46", after := #[{ on := 9, ground := Ground.data }, { on := 5, ground := Ground.guard }], guard := some (5, false) }) rfl (by kernel_rfl) (by kernel_rfl) (by kernel_rfl) (fun _ _ _ h => h) (Or.inl ⟨by rfl, ?hyG10⟩) hHeld ?restG10
  case hyG10 => (intro w_ hSw; clear hSw; go_simp; try with_reducible rfl)
  (try simp only [Act.put, List.setIfInBounds_toArray, List.set_cons_zero, List.set_cons_succ])
  refine wpAnyH_take (i := 11) (v := ?vG11) (oi := { dst := some 88, op := Op.indexAddr 69 (Operand.tmp 84) (Operand.tmp 87), type := 0, pos := "law.go:46", after := #[{ on := 7, ground := Ground.data }, { on := 10, ground := Ground.data }, { on := 5, ground := Ground.guard }], guard := some (5, false) }) rfl (by kernel_rfl) (by kernel_rfl) (by kernel_rfl) (fun _ _ _ h => h) (Or.inl ⟨by rfl, ?hyG11⟩) hHeld ?restG11
  case hyG11 => (intro w_ hSw; clear hSw; go_simp; try with_reducible rfl)
  (try simp only [Act.put, List.setIfInBounds_toArray, List.set_cons_zero, List.set_cons_succ])
  refine wpAnyH_take (i := 12) (v := ?vG12) (oi := { dst := some 89, op := Op.load 82 (Operand.tmp 88), type := 82, pos := "law.go:46", after := #[{ on := 11, ground := Ground.data }, { on := 5, ground := Ground.guard }], guard := some (5, false) }) rfl (by kernel_rfl) (by kernel_rfl) (by kernel_rfl) (fun _ _ _ h => h) (Or.inl ⟨by rfl, ?hyG12⟩) hHeld ?restG12
  case hyG12 => (intro w_ hSw; have d0 := hSw.cell ZE.out.1 NE.out; have d1 := hSw.cell ZE.out.2.1 NE.out; have d2 := hSw.cell ZE.out.2.2.1 NE.out; have d3 := hSw.cell ZE.out.2.2.2 NE.out; clear hSw; go_simp; try with_reducible rfl)
  (try simp only [Act.put, List.setIfInBounds_toArray, List.set_cons_zero, List.set_cons_succ])
  refine wpAnyH_take (i := 14) (v := ?vG14) (oi := { dst := some 91, op := Op.fieldAddr 30 (Operand.tmp 5) 2, type := 0, pos := "law.go:46", after := #[{ on := 5, ground := Ground.guard }], guard := some (5, false) }) rfl (by kernel_rfl) (by kernel_rfl) (by kernel_rfl) (fun _ _ _ h => h) (Or.inl ⟨by rfl, ?hyG14⟩) hHeld ?restG14
  case hyG14 => (intro w_ hSw; clear hSw; go_simp; try with_reducible rfl)
  (try simp only [Act.put, List.setIfInBounds_toArray, List.set_cons_zero, List.set_cons_succ])
  refine wpAnyH_take (i := 15) (v := ?vG15) (oi := { dst := some 92, op := Op.load 3 (Operand.tmp 91), type := 3, pos := "law.go:46", after := #[{ on := 14, ground := Ground.data }, { on := 5, ground := Ground.guard }], guard := some (5, false) }) rfl (by kernel_rfl) (by kernel_rfl) (by kernel_rfl) (fun _ _ _ h => h) (Or.inl ⟨by rfl, ?hyG15⟩) hHeld ?restG15
  case hyG15 => (intro w_ hSw; have d0 := hSw.cell Z5.out.1 N5.out; have d1 := hSw.cell Z5.out.2.1 N5.out; have d2 := hSw.cell Z5.out.2.2 N5.out; clear hSw; go_simp; try with_reducible rfl)
  (try simp only [Act.put, List.setIfInBounds_toArray, List.set_cons_zero, List.set_cons_succ])
  refine wpAnyH_ready (rs := [13]) (by kernel_rfl) (by simp) ?_
  refine AllReadyH.cons (o := { dst := some 90, op := Op.call { callee := Callee.value (Operand.func 44), args := #[Operand.tmp 89], argTypes := #[82] }, type := 3, pos := "law.go:46", after := #[{ on := 12, ground := Ground.data }, { on := 5, ground := Ground.chain }, { on := 5, ground := Ground.guard }], guard := some (5, false) }) rfl (fun K hK => ?_) AllReadyH.nil
  go_simp
  with_reducible refine (dogwatchref07_Gen.calls r.f0 r.f1 r.f2 r.f3 g0 _ HG.out).mono ?_
  rintro e w5 ⟨rfl, hb5⟩
  have HK5 := Aside0.mk (hHeld.below hb5)
  clear hb5
  refine hK.out _ _ ?_ (fun hHeld => ?_)
  · exact HK5.out
  clear hK K
  (try simp only [Act.put, List.setIfInBounds_toArray, List.set_cons_zero, List.set_cons_succ])
  refine wpAnyH_take (i := 16) (v := ?vG16) (oi := { dst := some 93, op := Op.binOp BinOp.neq 3 (Operand.tmp 90) (Operand.tmp 92) 3, type := 4, pos := "law.go:46", after := #[{ on := 13, ground := Ground.data }, { on := 15, ground := Ground.data }, { on := 5, ground := Ground.guard }], guard := some (5, false) }) rfl (by kernel_rfl) (by kernel_rfl) (by kernel_rfl) (fun _ _ _ h => h) (Or.inl ⟨by rfl, ?hyG16⟩) hHeld ?restG16
  case hyG16 => (intro w_ hSw; clear hSw; go_simp; try with_reducible rfl)
  (try simp only [Act.put, List.setIfInBounds_toArray, List.set_cons_zero, List.set_cons_succ])
  refine wpAnyH_take (i := 17) (v := ?vG17) (oi := { dst := some 94, op := Op.pick (Operand.tmp 82) (Operand.const (Value.bool true)) (Operand.tmp 93), type := 4, pos := "law.go:46", after := #[{ on := 5, ground := Ground.data }, { on := 16, ground := Ground.data }], guard := none }) rfl (by kernel_rfl) (by kernel_rfl) (by kernel_rfl) (fun _ _ _ h => h) (Or.inl ⟨by rfl, ?hyG17⟩) hHeld ?restG17
  case hyG17 => (intro w_ hSw; clear hSw; go_simp; try with_reducible rfl)
  (try simp only [Act.put, List.setIfInBounds_toArray, List.set_cons_zero, List.set_cons_succ])
  refine wpAnyH_done (by kernel_rfl) ?_ _
  obtain ⟨fa, fb, g0_, g1_, g2_, g3_⟩ := HK5.out.facts
  have d40 := HK5.out.cell Z4.out.1 N4.out
  have d41 := HK5.out.cell Z4.out.2 N4.out
  have d50 := HK5.out.cell Z5.out.1 N5.out
  have d51 := HK5.out.cell Z5.out.2.1 N5.out
  have d52 := HK5.out.cell Z5.out.2.2 N5.out
  go_wp2
  refine bodyPost_ret (results_ct rfl _ _ (w.heap.size + 2) 71 #[.slice (some ad) L cp, .int .i64 c] (0, 0) _ rfl ?_ Try.underlying71 rfl (by kernel_rfl)) rfl ?_
  · exact HK5.out.res _ _
  · exact ⟨_, s, l, c, rfl, HPP.out.up, (HQ3.out.turned (HK5.out.set (.slice (some ad) L cp) (.int .i64 c)).1).out⟩

set_option maxHeartbeats 4000000 in
set_option maxRecDepth 100000 in
theorem step_drop_ok3 {E : Env} {n b : Nat} {w : World} {F P : Nat → Prop} {g : Nat} {s : Tb Int} {v : Value} {l : List S82} {c : Int} (x : S30) (HP : PInv n b s l c) (hb : b ≤ 100) (h : Two E w F P g s v l) (k : x.f0 = 3) (y : Int) (hlk : I.look s x.f1 = some (y, x.f2)) : StepCalls E w n b g v c x := by
  obtain ⟨A, cp, rfl⟩ := Kd.R_slice h.r
  have H := Aside0.mk h
  have HPP := Aside0.mk HP
  have HBB := Aside0.mk hb
  have HREAD := Aside0.mk (Kd.R_reads' h.r)
  have hlen : l.length ≤ 1024 := by rw [HP.len]; exact HP.t.n2
  have HLEN := Aside0.mk hlen
  have B4 := Aside0.mk (box0 w (.cells #[.slice A l.length cp, .int .i64 c] 71) (.cells #[.int .i64 x.f0, .int .i64 x.f1, .int .i64 x.f2, .int .i64 x.f3] 30) (.cells #[.slice none 0 0, .int .i64 0] 71))
  have B5 := Aside0.mk (box1 w (.cells #[.slice A l.length cp, .int .i64 c] 71) (.cells #[.int .i64 x.f0, .int .i64 x.f1, .int .i64 x.f2, .int .i64 x.f3] 30) (.cells #[.slice none 0 0, .int .i64 0] 71))
  have B6 := Aside0.mk (box2 w (.cells #[.slice A l.length cp, .int .i64 c] 71) (.cells #[.int .i64 x.f0, .int .i64 x.f1, .int .i64 x.f2, .int .i64 x.f3] 30) (.cells #[.slice none 0 0, .int .i64 0] 71))
  have HQ0 := Aside0.mk (TwoQ.start h (.cells #[.slice A l.length cp, .int .i64 c] 71) (.cells #[.int .i64 x.f0, .int .i64 x.f1, .int .i64 x.f2, .int .i64 x.f3] 30) (.cells #[.slice none 0 0, .int .i64 0] 71))
  have hu := Try.underlying71
  have hu2 := Try.underlying30
  have hu3 := Try.underlying82
  obtain ⟨g0, hg0x⟩ : ∃ g0, g0 = x.f2 := ⟨_, rfl⟩
  rw [← hg0x] at hlk
  have e0 : (x.f0 == 0) = false := beq_eq_false_iff_ne.mpr (by omega)
  have e1 : (x.f0 == 1) = false := beq_eq_false_iff_ne.mpr (by omega)
  have e2 : (x.f0 == 2) = false := beq_eq_false_iff_ne.mpr (by omega)
  have e3 : (x.f0 == 3) = true := beq_iff_eq.mpr k
  have HFB := Aside0.mk (show s.free.length < 1000000 by have := HP.t.fb; omega)
  have HTH := Aside0.mk (fun (W : World) (hW : Kd.C k82 W A l.length l) => dogwatchref07_Has.calls A cp l c x.f1 true W hW (Kd.R_reads' h.r).2.1 (by rw [HP.has, hlk]; rfl))
  obtain ⟨j, hx1, hsj⟩ := I.look_some hlk
  obtain ⟨r, hr, hr0, hr1, hr2, hr3, hr4, hr5, hr6, hr7⟩ := HP.slot j y g0 true hsj
  have hg0 := hr2 (HP.taken_lt j y g0 hsj)
  have HG := Aside0.mk (show dogwatchref07_Gen.f r.f0 r.f1 r.f2 r.f3 = some g0 by unfold dogwatchref07_Gen.f; rw [hg0]; congr 1; unfold wrap64; omega)
  have HRJ := Aside0.mk hr
  have hjl : j < l.length := (List.getElem?_eq_some_iff.mp hr).1
  have p0 := eq_true (show (0 : Int) ≤ (j : Int) by omega)
  have q5 := eq_true (show (j : Int) < (l.length : Int) by omega)
  have ewj : wrap64 (x.f1 - 1) = (j : Int) := by rw [hx1]; unfold wrap64; omega
  have hc0 := HP.c0
  have hc1 := HP.c1
  have hgb := HP.t.gens j y g0 true hsj
  have hwr := with_eq l hlen c j hjl 0 false (wrap64 (r.f2 + 1)) (wrap64 (c + 1))
  have ewc : wrap64 (c + 1) = c + 1 := by unfold wrap64; omega
  have ewr : wrap64 (r.f2 + 1) = r.f2 + 1 := by unfold wrap64; omega
  have ewg : wrap64 (g0 + 1) = g0 + 1 := by unfold wrap64; omega
  have HTR := Aside0.mk (fun (W : World) (hW : Kd.C k82 W A l.length l) => ref_drop A cp l c j r _ _ W hW (Kd.R_reads' h.r).2.1 hr hlen hwr)
  rw [← hx1, ewc, ewr] at HTR
  have HP' := Aside0.mk (HP.drop (by omega) j y g0 hsj r hr)
  have HTD := Aside0.mk (show I.dropF s x.f1 x.f2 = ({ l := s.l.set j (0, g0 + 1, false), free := s.free ++ [(j : Int) + 1], next := s.next, many := s.many - 1 }, 0) by unfold I.dropF; rw [hlk]; dsimp only; rw [if_pos hg0x, hx1, show ((j : Int) + 1 - 1).toNat = j by omega, ewg, (many_bound HP.t (by omega)).2])
  have dg : (g0 != x.f2) = false := by rw [hg0x]; simp
  have dg2 : (g0 == x.f2) = true := by rw [hg0x]; simp
  obtain ⟨s', hs'⟩ : ∃ s' : Tb Int, s' = { l := s.l.set j (0, g0 + 1, false), free := s.free ++ [(j : Int) + 1], next := s.next, many := s.many - 1 } := ⟨_, rfl⟩
  obtain ⟨l', hl'⟩ : ∃ l', l' = l.set j ⟨0, false, r.f2 + 1, c + 1⟩ := ⟨_, rfl⟩
  rw [← hs'] at HP' HTD
  rw [← hl'] at HP' HTR
  clear k hlk hx1 hsj hr hr0 hr1 hr2 hr3 hr4 hr5 hr6 hr7 hg0 hjl hg0x hc0 hc1 hgb hwr ewc ewr ewg hs' hl'
  clear h HP hb hlen
  obtain ⟨L, hL⟩ : ∃ L, L = l.length := ⟨_, rfl⟩
  rw [← hL] at H HREAD B4 B5 B6 HQ0 HTH q5 HTR ⊢
  have HL := Aside0.mk hL
  clear hL
  unfold StepCalls
  go_enter Try.func38, Try.ntmps38
  go_wp2_with (go_at_call 17; (with_reducible refine (drop_exI HQ0.out.two.t HFB.out HTD.out).mono ?_); rintro e w3 ⟨rfl, hr3, ht3⟩; have h5 : w3.heap[w.heap.size + 1]? = some (.cells #[.int .i64 x.f0, .int .i64 x.f1, .int .i64 x.f2, .int .i64 x.f3] 30 (0, 0)) := blk_kept B5.out ht3.kept (H.out.more _ (by omega)); have h6 : w3.heap[w.heap.size + 2]? = some (.cells #[.slice none 0 0, .int .i64 0] 71 (0, 0)) := blk_kept B6.out ht3.kept (H.out.more _ (by omega)); have h4 : w3.heap[w.heap.size]? = some (.cells #[.slice A L cp, .int .i64 c] 71 (0, 0)) := blk_kept B4.out ht3.kept (H.out.more _ (by omega)); have Z4 := Aside0.mk (And.intro ((blk_cell h4 0).trans rfl) ((blk_cell h4 1).trans rfl)); have Z5 := Aside0.mk (And.intro ((blk_cell h5 0).trans rfl) (And.intro ((blk_cell h5 1).trans rfl) ((blk_cell h5 2).trans rfl))); have H63 := Aside0.mk h6; have HQ3 := Aside0.mk (HQ0.out.table hr3 ht3); clear hr3 ht3 h4 h5 h6)
  have N4 := Aside0.mk (show w.heap.size ≠ w.heap.size + 2 by omega)
  have N5 := Aside0.mk (show w.heap.size + 1 ≠ w.heap.size + 2 by omega)
  have HC3 := Aside0.mk (fun (w' : World) (hk : Kp w3 (w.heap.size + 2) w') => (Kd.R_reads' (HQ3.out.turned hk.1).two.r).2.2)
  rw [← HL.out] at HC3
  obtain ⟨ad, eA, ze⟩ := at82 (Kd.R_reads' HQ3.out.two.r).2.2 j _ HRJ.out
  have HNE := HQ3.out.np
  have HOWN := HQ3.out.two.r.1
  have ne : (ad.add (j * 4)).block ≠ w.heap.size + 2 := by
    rw [add_block]
    intro e
    exact HNE (HOWN _ (by rw [eA, ← e]; rfl))
  have NE := Aside0.mk ne
  have ZE := Aside0.mk ze
  subst eA
  have ewi := (i64_w (x.f1 - 1)).trans ewj
  clear ne ze HNE HOWN
  refine wp_region_held_drew (S := Kp w3 (w.heap.size + 2)) (by kernel_rfl) (Kp.start H63.out) (fun hHeld => ?_)
  refine wpAnyH_take (i := 0) (v := ?vK0) (oi := { dst := some 77, op := Op.load 71 (Operand.tmp 4), type := 71, pos := "law.go:46", after := #[], guard := none }) rfl (by kernel_rfl) (by kernel_rfl) (by kernel_rfl) (fun _ _ _ h => h) (Or.inl ⟨by rfl, ?hyK0⟩) hHeld ?restK0
  case hyK0 => (intro w_ hSw; have d0 := hSw.cell Z4.out.1 N4.out; have d1 := hSw.cell Z4.out.2 N4.out; clear hSw; go_simp; try with_reducible rfl)
  (try simp only [Act.put, List.setIfInBounds_toArray, List.set_cons_zero, List.set_cons_succ])
  refine wpAnyH_take (i := 1) (v := ?vK1) (oi := { dst := some 78, op := Op.fieldAddr 30 (Operand.tmp 5) 1, type := 0, pos := "law.go:46", after := #[], guard := none }) rfl (by kernel_rfl) (by kernel_rfl) (by kernel_rfl) (fun _ _ _ h => h) (Or.inl ⟨by rfl, ?hyK1⟩) hHeld ?restK1
  case hyK1 => (intro w_ hSw; clear hSw; go_simp; try with_reducible rfl)
  (try simp only [Act.put, List.setIfInBounds_toArray, List.set_cons_zero, List.set_cons_succ])
  refine wpAnyH_take (i := 2) (v := ?vK2) (oi := { dst := some 79, op := Op.load 3 (Operand.tmp 78), type := 3, pos := "law.go:46", after := #[{ on := 1, ground := Ground.data }], guard := none }) rfl (by kernel_rfl) (by kernel_rfl) (by kernel_rfl) (fun _ _ _ h => h) (Or.inl ⟨by rfl, ?hyK2⟩) hHeld ?restK2
  case hyK2 => (intro w_ hSw; have d0 := hSw.cell Z5.out.1 N5.out; have d1 := hSw.cell Z5.out.2.1 N5.out; have d2 := hSw.cell Z5.out.2.2 N5.out; clear hSw; go_simp; try with_reducible rfl)
  (try simp only [Act.put, List.setIfInBounds_toArray, List.set_cons_zero, List.set_cons_succ])
  refine wpAnyH_ready (rs := [3]) (by kernel_rfl) (by simp) ?_
  refine AllReadyH.cons (o := { dst := some 80, op := Op.call { callee := Callee.value (Operand.func 43), args := #[Operand.tmp 77, Operand.tmp 79], argTypes := #[71, 3] }, type := 4, pos := "law.go:46", after := #[{ on := 0, ground := Ground.data }, { on := 2, ground := Ground.data }], guard := none }) rfl (fun K hK => ?_) AllReadyH.nil
  go_simp
  with_reducible refine (HTH.out _ (HC3.out _ hHeld)).mono ?_
  rintro e w4 ⟨rfl, hb4⟩
  have HK4 := Aside0.mk (hHeld.below hb4)
  clear hb4
  refine hK.out _ _ ?_ (fun hHeld => ?_)
  · exact HK4.out
  clear hK K
  (try simp only [Act.put, List.setIfInBounds_toArray, List.set_cons_zero, List.set_cons_succ])
  refine wpAnyH_take (i := 4) (v := ?vK4) (oi := { dst := some 81, op := Op.unOp UnOp.not 4 (Operand.tmp 80), type := 4, pos := "law.go:46", after := #[{ on := 3, ground := Ground.data }], guard := none }) rfl (by kernel_rfl) (by kernel_rfl) (by kernel_rfl) (fun _ _ _ h => h) (Or.inl ⟨by rfl, ?hyK4⟩) hHeld ?restK4
  case hyK4 => (intro w_ hSw; clear hSw; go_simp; try with_reducible rfl)
  (try simp only [Act.put, List.setIfInBounds_toArray, List.set_cons_zero, List.set_cons_succ])
  refine wpAnyH_take (i := 5) (v := ?vK5) (oi := { dst := some 82, op := Op.move (Operand.tmp 81), type := 4, pos := "law.go:46", after := #[{ on := 4, ground := Ground.data }, { on := 3, ground := Ground.chain }], guard := none }) rfl (by kernel_rfl) (by kernel_rfl) (by kernel_rfl) (fun _ _ _ h => h) (Or.inl ⟨by rfl, ?hyK5⟩) hHeld ?restK5
  case hyK5 => (intro w_ hSw; clear hSw; go_simp; try with_reducible rfl)
  (try simp only [Act.put, List.setIfInBounds_toArray, List.set_cons_zero, List.set_cons_succ])
  refine wpAnyH_take (i := 6) (v := ?vK6) (oi := { dst := some 83, op := Op.fieldAddr 71 (Operand.tmp 4) 0, type := 0, pos := "law.go:46", after := #[{ on := 5, ground := Ground.guard }], guard := some (5, false) }) rfl (by kernel_rfl) (by kernel_rfl) (by kernel_rfl) (fun _ _ _ h => h) (Or.inl ⟨by rfl, ?hyK6⟩) hHeld ?restK6
  case hyK6 => (intro w_ hSw; clear hSw; go_simp; try with_reducible rfl)
  (try simp only [Act.put, List.setIfInBounds_toArray, List.set_cons_zero, List.set_cons_succ])
  refine wpAnyH_take (i := 7) (v := ?vK7) (oi := { dst := some 84, op := Op.load 69 (Operand.tmp 83), type := 69, pos := "law.go:46", after := #[{ on := 6, ground := Ground.data }, { on := 5, ground := Ground.guard }], guard := some (5, false) }) rfl (by kernel_rfl) (by kernel_rfl) (by kernel_rfl) (fun _ _ _ h => h) (Or.inl ⟨by rfl, ?hyK7⟩) hHeld ?restK7
  case hyK7 => (intro w_ hSw; have d0 := hSw.cell Z4.out.1 N4.out; have d1 := hSw.cell Z4.out.2 N4.out; clear hSw; go_simp; try with_reducible rfl)
  (try simp only [Act.put, List.setIfInBounds_toArray, List.set_cons_zero, List.set_cons_succ])
  refine wpAnyH_take (i := 8) (v := ?vK8) (oi := { dst := some 85, op := Op.fieldAddr 30 (Operand.tmp 5) 1, type := 0, pos := "law.go:46", after := #[{ on := 5, ground := Ground.guard }], guard := some (5, false) }) rfl (by kernel_rfl) (by kernel_rfl) (by kernel_rfl) (fun _ _ _ h => h) (Or.inl ⟨by rfl, ?hyK8⟩) hHeld ?restK8
  case hyK8 => (intro w_ hSw; clear hSw; go_simp; try with_reducible rfl)
  (try simp only [Act.put, List.setIfInBounds_toArray, List.set_cons_zero, List.set_cons_succ])
  refine wpAnyH_take (i := 9) (v := ?vK9) (oi := { dst := some 86, op := Op.load 3 (Operand.tmp 85), type := 3, pos := "law.go:46", after := #[{ on := 8, ground := Ground.data }, { on := 5, ground := Ground.guard }], guard := some (5, false) }) rfl (by kernel_rfl) (by kernel_rfl) (by kernel_rfl) (fun _ _ _ h => h) (Or.inl ⟨by rfl, ?hyK9⟩) hHeld ?restK9
  case hyK9 => (intro w_ hSw; have d0 := hSw.cell Z5.out.1 N5.out; have d1 := hSw.cell Z5.out.2.1 N5.out; have d2 := hSw.cell Z5.out.2.2 N5.out; clear hSw; go_simp; try with_reducible rfl)
  (try simp only [Act.put, List.setIfInBounds_toArray, List.set_cons_zero, List.set_cons_succ])
  refine wpAnyH_take (i := 10) (v := ?vK10) (oi := { dst := some 87, op := Op.binOp BinOp.sub 3 (Operand.tmp 86) (Operand.const (Value.int IntKind.i64 1)) 3, type := 3, pos := "law.go:46", after := #[{ on := 9, ground := Ground.data }, { on := 5, ground := Ground.guard }], guard := some (5, false) }) rfl (by kernel_rfl) (by kernel_rfl) (by kernel_rfl) (fun _ _ _ h => h) (Or.inl ⟨by rfl, ?hyK10⟩) hHeld ?restK10
  case hyK10 => (intro w_ hSw; clear hSw; go_simp; try with_reducible rfl)
  (try simp only [Act.put, List.setIfInBounds_toArray, List.set_cons_zero, List.set_cons_succ])
  refine wpAnyH_take (i := 11) (v := ?vK11) (oi := { dst := some 88, op := Op.indexAddr 69 (Operand.tmp 84) (Operand.tmp 87), type := 0, pos := "law.go:46", after := #[{ on := 7, ground := Ground.data }, { on := 10, ground := Ground.data }, { on := 5, ground := Ground.guard }], guard := some (5, false) }) rfl (by kernel_rfl) (by kernel_rfl) (by kernel_rfl) (fun _ _ _ h => h) (Or.inl ⟨by rfl, ?hyK11⟩) hHeld ?restK11
  case hyK11 => (intro w_ hSw; clear hSw; go_simp; try with_reducible rfl)
  (try simp only [Act.put, List.setIfInBounds_toArray, List.set_cons_zero, List.set_cons_succ])
  refine wpAnyH_take (i := 12) (v := ?vK12) (oi := { dst := some 89, op := Op.load 82 (Operand.tmp 88), type := 82, pos := "law.go:46", after := #[{ on := 11, ground := Ground.data }, { on := 5, ground := Ground.guard }], guard := some (5, false) }) rfl (by kernel_rfl) (by kernel_rfl) (by kernel_rfl) (fun _ _ _ h => h) (Or.inl ⟨by rfl, ?hyK12⟩) hHeld ?restK12
  case hyK12 => (intro w_ hSw; have d0 := hSw.cell ZE.out.1 NE.out; have d1 := hSw.cell ZE.out.2.1 NE.out; have d2 := hSw.cell ZE.out.2.2.1 NE.out; have d3 := hSw.cell ZE.out.2.2.2 NE.out; clear hSw; go_simp; try with_reducible rfl)
  (try simp only [Act.put, List.setIfInBounds_toArray, List.set_cons_zero, List.set_cons_succ])
  refine wpAnyH_take (i := 14) (v := ?vK14) (oi := { dst := some 91, op := Op.fieldAddr 30 (Operand.tmp 5) 2, type := 0, pos := "law.go:46", after := #[{ on := 5, ground := Ground.guard }], guard := some (5, false) }) rfl (by kernel_rfl) (by kernel_rfl) (by kernel_rfl) (fun _ _ _ h => h) (Or.inl ⟨by rfl, ?hyK14⟩) hHeld ?restK14
  case hyK14 => (intro w_ hSw; clear hSw; go_simp; try with_reducible rfl)
  (try simp only [Act.put, List.setIfInBounds_toArray, List.set_cons_zero, List.set_cons_succ])
  refine wpAnyH_take (i := 15) (v := ?vK15) (oi := { dst := some 92, op := Op.load 3 (Operand.tmp 91), type := 3, pos := "law.go:46", after := #[{ on := 14, ground := Ground.data }, { on := 5, ground := Ground.guard }], guard := some (5, false) }) rfl (by kernel_rfl) (by kernel_rfl) (by kernel_rfl) (fun _ _ _ h => h) (Or.inl ⟨by rfl, ?hyK15⟩) hHeld ?restK15
  case hyK15 => (intro w_ hSw; have d0 := hSw.cell Z5.out.1 N5.out; have d1 := hSw.cell Z5.out.2.1 N5.out; have d2 := hSw.cell Z5.out.2.2 N5.out; clear hSw; go_simp; try with_reducible rfl)
  (try simp only [Act.put, List.setIfInBounds_toArray, List.set_cons_zero, List.set_cons_succ])
  refine wpAnyH_ready (rs := [13]) (by kernel_rfl) (by simp) ?_
  refine AllReadyH.cons (o := { dst := some 90, op := Op.call { callee := Callee.value (Operand.func 44), args := #[Operand.tmp 89], argTypes := #[82] }, type := 3, pos := "law.go:46", after := #[{ on := 12, ground := Ground.data }, { on := 5, ground := Ground.chain }, { on := 5, ground := Ground.guard }], guard := some (5, false) }) rfl (fun K hK => ?_) AllReadyH.nil
  go_simp
  with_reducible refine (dogwatchref07_Gen.calls r.f0 r.f1 r.f2 r.f3 g0 _ HG.out).mono ?_
  rintro e w5 ⟨rfl, hb5⟩
  have HK5 := Aside0.mk (hHeld.below hb5)
  clear hb5
  refine hK.out _ _ ?_ (fun hHeld => ?_)
  · exact HK5.out
  clear hK K
  (try simp only [Act.put, List.setIfInBounds_toArray, List.set_cons_zero, List.set_cons_succ])
  refine wpAnyH_take (i := 16) (v := ?vK16) (oi := { dst := some 93, op := Op.binOp BinOp.neq 3 (Operand.tmp 90) (Operand.tmp 92) 3, type := 4, pos := "law.go:46", after := #[{ on := 13, ground := Ground.data }, { on := 15, ground := Ground.data }, { on := 5, ground := Ground.guard }], guard := some (5, false) }) rfl (by kernel_rfl) (by kernel_rfl) (by kernel_rfl) (fun _ _ _ h => h) (Or.inl ⟨by rfl, ?hyK16⟩) hHeld ?restK16
  case hyK16 => (intro w_ hSw; clear hSw; go_simp; try with_reducible rfl)
  (try simp only [Act.put, List.setIfInBounds_toArray, List.set_cons_zero, List.set_cons_succ])
  refine wpAnyH_take (i := 17) (v := ?vK17) (oi := { dst := some 94, op := Op.pick (Operand.tmp 82) (Operand.const (Value.bool true)) (Operand.tmp 93), type := 4, pos := "law.go:46", after := #[{ on := 5, ground := Ground.data }, { on := 16, ground := Ground.data }], guard := none }) rfl (by kernel_rfl) (by kernel_rfl) (by kernel_rfl) (fun _ _ _ h => h) (Or.inl ⟨by rfl, ?hyK17⟩) hHeld ?restK17
  case hyK17 => (intro w_ hSw; clear hSw; go_simp; try with_reducible rfl)
  (try simp only [Act.put, List.setIfInBounds_toArray, List.set_cons_zero, List.set_cons_succ])
  refine wpAnyH_done (by kernel_rfl) ?_ _
  obtain ⟨fa, fb, g0_, g1_, g2_, g3_⟩ := HK5.out.facts
  have d40 := HK5.out.cell Z4.out.1 N4.out
  have d41 := HK5.out.cell Z4.out.2 N4.out
  have d50 := HK5.out.cell Z5.out.1 N5.out
  have d51 := HK5.out.cell Z5.out.2.1 N5.out
  have d52 := HK5.out.cell Z5.out.2.2 N5.out
  clear ewi ewj
  go_wp2_with (go_at_call 68; (with_reducible refine (HTR.out _ (HC3.out _ HK5.out)).mono ?_); rintro e w7 ⟨v7, rfl, hr7, hb7⟩; obtain ⟨A7, cp7, rfl⟩ := Kd.R_slice hr7; obtain ⟨fa7, fb7, h67⟩ := HK5.out.blk hb7; have c60 := (blk_cell h67 0).trans rfl; have c61 := (blk_cell h67 1).trans rfl; have f60 := blk_frozen h67 0; have f61 := blk_frozen h67 1; have H67 := Aside0.mk h67; have HQ7 := Aside0.mk ((HQ3.out.turned HK5.out.1).anew hb7 hr7); clear hr7 hb7 h67)
  refine bodyPost_ret (results_ct rfl _ _ (w.heap.size + 2) 71 #[(.slice A7 l'.length cp7), .int .i64 (c + 1)] (0, 0) _ rfl ?_ Try.underlying71 rfl (by kernel_rfl)) rfl ?_
  · exact blk_set (blk_set H67.out 0 (.slice A7 l'.length cp7)) 1 (.int .i64 (c + 1))
  · exact ⟨_, s', l', c + 1, rfl, HP'.out, HQ7.out.res _ _⟩

set_option maxHeartbeats 4000000 in
set_option maxRecDepth 100000 in
theorem step_set_none {E : Env} {n b : Nat} {w : World} {F P : Nat → Prop} {g : Nat} {s : Tb Int} {v : Value} {l : List S82} {c : Int} (x : S30) (HP : PInv n b s l c) (hb : b ≤ 100) (h : Two E w F P g s v l) (k : x.f0 = 4) (hlk : I.look s x.f1 = none) : StepCalls E w n b g v c x := by
  obtain ⟨A, cp, rfl⟩ := Kd.R_slice h.r
  have H := Aside0.mk h
  have HPP := Aside0.mk HP
  have HBB := Aside0.mk hb
  have HREAD := Aside0.mk (Kd.R_reads' h.r)
  have hlen : l.length ≤ 1024 := by rw [HP.len]; exact HP.t.n2
  have HLEN := Aside0.mk hlen
  have B4 := Aside0.mk (box0 w (.cells #[.slice A l.length cp, .int .i64 c] 71) (.cells #[.int .i64 x.f0, .int .i64 x.f1, .int .i64 x.f2, .int .i64 x.f3] 30) (.cells #[.slice none 0 0, .int .i64 0] 71))
  have B5 := Aside0.mk (box1 w (.cells #[.slice A l.length cp, .int .i64 c] 71) (.cells #[.int .i64 x.f0, .int .i64 x.f1, .int .i64 x.f2, .int .i64 x.f3] 30) (.cells #[.slice none 0 0, .int .i64 0] 71))
  have B6 := Aside0.mk (box2 w (.cells #[.slice A l.length cp, .int .i64 c] 71) (.cells #[.int .i64 x.f0, .int .i64 x.f1, .int .i64 x.f2, .int .i64 x.f3] 30) (.cells #[.slice none 0 0, .int .i64 0] 71))
  have HQ0 := Aside0.mk (TwoQ.start h (.cells #[.slice A l.length cp, .int .i64 c] 71) (.cells #[.int .i64 x.f0, .int .i64 x.f1, .int .i64 x.f2, .int .i64 x.f3] 30) (.cells #[.slice none 0 0, .int .i64 0] 71))
  have hu := Try.underlying71
  have hu2 := Try.underlying30
  have hu3 := Try.underlying82
  have e0 : (x.f0 == 0) = false := beq_eq_false_iff_ne.mpr (by omega)
  have e1 : (x.f0 == 1) = false := beq_eq_false_iff_ne.mpr (by omega)
  have e2 : (x.f0 == 2) = false := beq_eq_false_iff_ne.mpr (by omega)
  have e3 : (x.f0 == 3) = false := beq_eq_false_iff_ne.mpr (by omega)
  have e4 : (x.f0 == 4) = true := beq_iff_eq.mpr k
  have HTH := Aside0.mk (fun (W : World) (hW : Kd.C k82 W A l.length l) => dogwatchref07_Has.calls A cp l c x.f1 false W hW (Kd.R_reads' h.r).2.1 (by rw [HP.has, hlk]; rfl))
  have HTD := Aside0.mk (show I.setF s x.f1 x.f3 = (s, 10) by unfold I.setF; rw [hlk])
  clear k hlk
  clear h HP hb hlen
  obtain ⟨L, hL⟩ : ∃ L, L = l.length := ⟨_, rfl⟩
  rw [← hL] at H HREAD B4 B5 B6 HQ0 HTH ⊢
  have HL := Aside0.mk hL
  clear hL
  unfold StepCalls
  go_enter Try.func38, Try.ntmps38
  go_wp2_with (first
    | (go_at_call 45; (with_reducible refine (set_exI HQ0.out.two.t HTD.out).mono ?_); rintro e w3 ⟨rfl, hr3, ht3⟩; have h5 : w3.heap[w.heap.size + 1]? = some (.cells #[.int .i64 x.f0, .int .i64 x.f1, .int .i64 x.f2, .int .i64 x.f3] 30 (0, 0)) := blk_kept B5.out ht3.kept (H.out.more _ (by omega)); have h6 : w3.heap[w.heap.size + 2]? = some (.cells #[.slice none 0 0, .int .i64 0] 71 (0, 0)) := blk_kept B6.out ht3.kept (H.out.more _ (by omega)); have h4 : w3.heap[w.heap.size]? = some (.cells #[.slice A L cp, .int .i64 c] 71 (0, 0)) := blk_kept B4.out ht3.kept (H.out.more _ (by omega)); have c40 := (blk_cell h4 0).trans rfl; have c41 := (blk_cell h4 1).trans rfl; have c50 := (blk_cell h5 0).trans rfl; have c51 := (blk_cell h5 1).trans rfl; have c52 := (blk_cell h5 2).trans rfl; have c53 := (blk_cell h5 3).trans rfl; have c60 := (blk_cell h6 0).trans rfl; have c61 := (blk_cell h6 1).trans rfl; have f60 := blk_frozen h6 0; have f61 := blk_frozen h6 1; have Z4 := Aside0.mk h4; have Z5 := Aside0.mk h5; have Z6 := Aside0.mk h6; have HQ3 := Aside0.mk (HQ0.out.table (hr3.mono (fun k hk => .inl hk)) ht3); have HC3 := Aside0.mk (show Kd.C k82 w3 A L l from by (have q := (Kd.R_reads' HQ3.out.two.r).2.2; rw [← HL.out] at q; exact q)); clear hr3 ht3 h4 h5 h6)
    | (go_at_call 43; (with_reducible refine (HTH.out _ HC3.out).mono ?_); rintro e w4 ⟨rfl, hb4⟩; have h5 : w4.heap[w.heap.size + 1]? = some (.cells #[.int .i64 x.f0, .int .i64 x.f1, .int .i64 x.f2, .int .i64 x.f3] 30 (0, 0)) := (hb4.block _ (blk_lt Z5.out)).trans Z5.out; have h6 : w4.heap[w.heap.size + 2]? = some (.cells #[.slice none 0 0, .int .i64 0] 71 (0, 0)) := (hb4.block _ (blk_lt Z6.out)).trans Z6.out; have h4 : w4.heap[w.heap.size]? = some (.cells #[.slice A L cp, .int .i64 c] 71 (0, 0)) := (hb4.block _ (blk_lt Z4.out)).trans Z4.out; have c40 := (blk_cell h4 0).trans rfl; have c41 := (blk_cell h4 1).trans rfl; have c50 := (blk_cell h5 0).trans rfl; have c51 := (blk_cell h5 1).trans rfl; have c52 := (blk_cell h5 2).trans rfl; have c53 := (blk_cell h5 3).trans rfl; have c60 := (blk_cell h6 0).trans rfl; have c61 := (blk_cell h6 1).trans rfl; have f60 := blk_frozen h6 0; have f61 := blk_frozen h6 1; have Y6 := Aside0.mk h6; have HB4 := Aside0.mk hb4; have HQ4 := Aside0.mk (HQ3.out.below hb4); clear hb4 h4 h5 h6))
  refine bodyPost_ret (results_ct rfl _ _ (w.heap.size + 2) 71 #[.slice A L cp, .int .i64 c] (0, 0) _ rfl ?_ Try.underlying71 rfl (by kernel_rfl)) rfl ?_
  · exact blk_set (blk_set Y6.out 0 (.slice A L cp)) 1 (.int .i64 c)
  · exact ⟨_, s, l, c, rfl, HPP.out.up, HQ4.out.res _ _⟩

set_option maxHeartbeats 4000000 in
set_option maxRecDepth 100000 in
theorem step_set_some {E : Env} {n b : Nat} {w : World} {F P : Nat → Prop} {g : Nat} {s : Tb Int} {v : Value} {l : List S82} {c : Int} (x : S30) (HP : PInv n b s l c) (hb : b ≤ 100) (h : Two E w F P g s v l) (k : x.f0 = 4) (y g0 : Int) (hlk : I.look s x.f1 = some (y, g0)) : StepCalls E w n b g v c x := by
  obtain ⟨A, cp, rfl⟩ := Kd.R_slice h.r
  have H := Aside0.mk h
  have HPP := Aside0.mk HP
  have HBB := Aside0.mk hb
  have HREAD := Aside0.mk (Kd.R_reads' h.r)
  have hlen : l.length ≤ 1024 := by rw [HP.len]; exact HP.t.n2
  have HLEN := Aside0.mk hlen
  have B4 := Aside0.mk (box0 w (.cells #[.slice A l.length cp, .int .i64 c] 71) (.cells #[.int .i64 x.f0, .int .i64 x.f1, .int .i64 x.f2, .int .i64 x.f3] 30) (.cells #[.slice none 0 0, .int .i64 0] 71))
  have B5 := Aside0.mk (box1 w (.cells #[.slice A l.length cp, .int .i64 c] 71) (.cells #[.int .i64 x.f0, .int .i64 x.f1, .int .i64 x.f2, .int .i64 x.f3] 30) (.cells #[.slice none 0 0, .int .i64 0] 71))
  have B6 := Aside0.mk (box2 w (.cells #[.slice A l.length cp, .int .i64 c] 71) (.cells #[.int .i64 x.f0, .int .i64 x.f1, .int .i64 x.f2, .int .i64 x.f3] 30) (.cells #[.slice none 0 0, .int .i64 0] 71))
  have HQ0 := Aside0.mk (TwoQ.start h (.cells #[.slice A l.length cp, .int .i64 c] 71) (.cells #[.int .i64 x.f0, .int .i64 x.f1, .int .i64 x.f2, .int .i64 x.f3] 30) (.cells #[.slice none 0 0, .int .i64 0] 71))
  have hu := Try.underlying71
  have hu2 := Try.underlying30
  have hu3 := Try.underlying82
  have e0 : (x.f0 == 0) = false := beq_eq_false_iff_ne.mpr (by omega)
  have e1 : (x.f0 == 1) = false := beq_eq_false_iff_ne.mpr (by omega)
  have e2 : (x.f0 == 2) = false := beq_eq_false_iff_ne.mpr (by omega)
  have e3 : (x.f0 == 3) = false := beq_eq_false_iff_ne.mpr (by omega)
  have e4 : (x.f0 == 4) = true := beq_iff_eq.mpr k
  have HTH := Aside0.mk (fun (W : World) (hW : Kd.C k82 W A l.length l) => dogwatchref07_Has.calls A cp l c x.f1 true W hW (Kd.R_reads' h.r).2.1 (by rw [HP.has, hlk]; rfl))
  obtain ⟨j, hx1, hsj⟩ := I.look_some hlk
  obtain ⟨r, hr, hr0, hr1, hr2, hr3, hr4, hr5, hr6, hr7⟩ := HP.slot j y g0 true hsj
  have hjl : j < l.length := (List.getElem?_eq_some_iff.mp hr).1
  have hc0 := HP.c0
  have hc1 := HP.c1
  have ewc : wrap64 (c + 1) = c + 1 := by unfold wrap64; omega
  have hwr := with_eq l hlen c j hjl x.f3 true r.f2 r.f3
  have hst : dogwatchref07_Set.f l c x.f1 x.f3 = some (l.set j ⟨x.f3, true, r.f2, r.f3⟩, c + 1) := by
    unfold dogwatchref07_Set.f
    rw [hx1, wn1 j (by omega), if_pos (by omega), if_pos (by omega), rd82 l j r hr, hr1, hwr, ewc]
    rfl
  have HTR := Aside0.mk (fun (W : World) (hW : Kd.C k82 W A l.length l) => dogwatchref07_Set.calls A cp l c x.f1 x.f3 _ _ W hW (Kd.R_reads' h.r).2.1 hst)
  have HTD := Aside0.mk (show I.setF s x.f1 x.f3 = ({ s with l := s.l.set j (x.f3, g0, true) }, 0) by unfold I.setF; rw [hlk, hx1, show ((j : Int) + 1 - 1).toNat = j by omega])
  have HP' := Aside0.mk (HP.set j y g0 x.f3 hsj r hr)
  obtain ⟨s', hs'⟩ : ∃ s' : Tb Int, s' = { s with l := s.l.set j (x.f3, g0, true) } := ⟨_, rfl⟩
  obtain ⟨l', hl'⟩ : ∃ l', l' = l.set j ⟨x.f3, true, r.f2, r.f3⟩ := ⟨_, rfl⟩
  rw [← hs'] at HP' HTD
  rw [← hl'] at HP' HTR
  clear k hlk hx1 hsj hr hr0 hr1 hr2 hr3 hr4 hr5 hr6 hr7 hjl hc0 hc1 ewc hwr hst hs' hl'
  clear h HP hb hlen
  obtain ⟨L, hL⟩ : ∃ L, L = l.length := ⟨_, rfl⟩
  rw [← hL] at H HREAD B4 B5 B6 HQ0 HTH HTR ⊢
  have HL := Aside0.mk hL
  clear hL
  unfold StepCalls
  go_enter Try.func38, Try.ntmps38
  go_wp2_with (first
    | (go_at_call 45; (with_reducible refine (set_exI HQ0.out.two.t HTD.out).mono ?_); rintro e w3 ⟨rfl, hr3, ht3⟩; have h5 : w3.heap[w.heap.size + 1]? = some (.cells #[.int .i64 x.f0, .int .i64 x.f1, .int .i64 x.f2, .int .i64 x.f3] 30 (0, 0)) := blk_kept B5.out ht3.kept (H.out.more _ (by omega)); have h6 : w3.heap[w.heap.size + 2]? = some (.cells #[.slice none 0 0, .int .i64 0] 71 (0, 0)) := blk_kept B6.out ht3.kept (H.out.more _ (by omega)); have h4 : w3.heap[w.heap.size]? = some (.cells #[.slice A L cp, .int .i64 c] 71 (0, 0)) := blk_kept B4.out ht3.kept (H.out.more _ (by omega)); have c40 := (blk_cell h4 0).trans rfl; have c41 := (blk_cell h4 1).trans rfl; have c50 := (blk_cell h5 0).trans rfl; have c51 := (blk_cell h5 1).trans rfl; have c52 := (blk_cell h5 2).trans rfl; have c53 := (blk_cell h5 3).trans rfl; have c60 := (blk_cell h6 0).trans rfl; have c61 := (blk_cell h6 1).trans rfl; have f60 := blk_frozen h6 0; have f61 := blk_frozen h6 1; have Z4 := Aside0.mk h4; have Z5 := Aside0.mk h5; have Z6 := Aside0.mk h6; have HQ3 := Aside0.mk (HQ0.out.table (hr3.mono (fun k hk => .inl hk)) ht3); have HC3 := Aside0.mk (show Kd.C k82 w3 A L l from by (have q := (Kd.R_reads' HQ3.out.two.r).2.2; rw [← HL.out] at q; exact q)); clear hr3 ht3 h4 h5 h6)
    | (go_at_call 43; (with_reducible refine (HTH.out _ HC3.out).mono ?_); rintro e w4 ⟨rfl, hb4⟩; have h5 : w4.heap[w.heap.size + 1]? = some (.cells #[.int .i64 x.f0, .int .i64 x.f1, .int .i64 x.f2, .int .i64 x.f3] 30 (0, 0)) := (hb4.block _ (blk_lt Z5.out)).trans Z5.out; have h6 : w4.heap[w.heap.size + 2]? = some (.cells #[.slice none 0 0, .int .i64 0] 71 (0, 0)) := (hb4.block _ (blk_lt Z6.out)).trans Z6.out; have h4 : w4.heap[w.heap.size]? = some (.cells #[.slice A L cp, .int .i64 c] 71 (0, 0)) := (hb4.block _ (blk_lt Z4.out)).trans Z4.out; have c40 := (blk_cell h4 0).trans rfl; have c41 := (blk_cell h4 1).trans rfl; have c50 := (blk_cell h5 0).trans rfl; have c51 := (blk_cell h5 1).trans rfl; have c52 := (blk_cell h5 2).trans rfl; have c53 := (blk_cell h5 3).trans rfl; have c60 := (blk_cell h6 0).trans rfl; have c61 := (blk_cell h6 1).trans rfl; have f60 := blk_frozen h6 0; have f61 := blk_frozen h6 1; have Y6 := Aside0.mk h6; have HB4 := Aside0.mk hb4; have HQ4 := Aside0.mk (HQ3.out.below hb4); clear hb4 h4 h5 h6)
    | (go_at_call 69; (with_reducible refine (HTR.out _ (Kd.C_below HC3.out HB4.out)).mono ?_); rintro e w7 ⟨v7, rfl, hr7, hb7⟩; obtain ⟨A7, cp7, rfl⟩ := Kd.R_slice hr7; have h67 := (hb7.block _ (blk_lt Y6.out)).trans Y6.out; have c60 := (blk_cell h67 0).trans rfl; have c61 := (blk_cell h67 1).trans rfl; have f60 := blk_frozen h67 0; have f61 := blk_frozen h67 1; have H67 := Aside0.mk h67; have HQ7 := Aside0.mk (HQ4.out.anew hb7 hr7); clear hr7 hb7 h67))
  refine bodyPost_ret (results_ct rfl _ _ (w.heap.size + 2) 71 #[(.slice A7 l'.length cp7), .int .i64 (c + 1)] (0, 0) _ rfl ?_ Try.underlying71 rfl (by kernel_rfl)) rfl ?_
  · exact blk_set (blk_set H67.out 0 (.slice A7 l'.length cp7)) 1 (.int .i64 (c + 1))
  · exact ⟨_, s', l', c + 1, rfl, HP'.out, HQ7.out.res _ _⟩

theorem step_calls {E : Env} {n b : Nat} {w : World} {F P : Nat → Prop} {g : Nat} {s : Tb Int} {v : Value} {l : List S82} {c : Int} (x : S30) (HP : PInv n b s l c) (hb : b ≤ 100) (h : Two E w F P g s v l) : StepCalls E w n b g v c x := by
  by_cases k0 : x.f0 = 0
  · cases hn : slotNext s with
    | none => exact step_take_none0 x HP hb h k0 hn
    | some j => exact step_take_some0 x HP hb h j k0 hn
  by_cases k1 : x.f0 = 1
  · cases hn : slotNext s with
    | none => exact step_take_none1 x HP hb h k1 hn
    | some j => exact step_take_some1 x HP hb h j k1 hn
  by_cases k2 : x.f0 = 2
  · cases hl : I.look s x.f1 with
    | none => exact step_drop_none2 x HP hb h k2 hl
    | some p =>
      obtain ⟨y, g0⟩ := p
      by_cases hg : g0 = x.f2
      · exact step_drop_ok2 x HP hb h k2 y (by rw [hl, hg])
      · exact step_drop_gen2 x HP hb h k2 y g0 hl hg
  by_cases k3 : x.f0 = 3
  · cases hl : I.look s x.f1 with
    | none => exact step_drop_none3 x HP hb h k3 hl
    | some p =>
      obtain ⟨y, g0⟩ := p
      by_cases hg : g0 = x.f2
      · exact step_drop_ok3 x HP hb h k3 y (by rw [hl, hg])
      · exact step_drop_gen3 x HP hb h k3 y g0 hl hg
  by_cases k4 : x.f0 = 4
  · cases hl : I.look s x.f1 with
    | none => exact step_set_none x HP hb h k4 hl
    | some p => exact step_set_some x HP hb h k4 p.1 p.2 hl
  exact step_other x HP hb h k0 k1 k2 k3 k4
end Go.Proofs.Ytgjcbpeliimhaaa.PSl
