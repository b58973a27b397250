/- account.Account, walked by hand: its blocks. -/
import Derived.Test.YtgfkcmmhnibaiaaPtMap
namespace Go.Proofs.Ytgfkcmmhnibaiaa.Ac
open Go.RowKit Go.Proofs.YtgfkcmmhnibaiaaW.PrintWords Go.Proofs.YtgfkcmmhnibaiaaW.PrintLast Go.Proofs.YtgfkcmmhnibaiaaW.PrintMore Pt
set_option linter.unusedVariables false
set_option linter.unusedSimpArgs false
/-- What is counted of a task. -/
structure Tk where
  ticks : Int
  last : Int
  now : Int
  changes : Int
  core : Int
/-- What is counted of a core. -/
structure Cr where
  busy : Int
  idle : Int
  changes : Int
  task : Int
def encT (t : Tk) : Value := .agg #[.int .i64 t.ticks, .int .i64 t.last, .int .i64 t.now, .int .i64 t.changes, .int .i64 t.core]
def cells4 (c : Cr) : List Value := [.int .i64 c.busy, .int .i64 c.idle, .int .i64 c.changes, .int .i64 c.task]
def coreCells (l : List Cr) : List Value := l.flatMap cells4
theorem coreCells_cons (c : Cr) (l : List Cr) : coreCells (c :: l) = .int .i64 c.busy :: .int .i64 c.idle :: .int .i64 c.changes :: .int .i64 c.task :: coreCells l := by simp [coreCells, cells4]
theorem coreCells_length (l : List Cr) : (coreCells l).length = l.length * 4 := by
  induction l with
  | nil => rfl
  | cons s l ih => rw [coreCells_cons]; simp only [List.length_cons]; omega
theorem coreCells_get (l : List Cr) (j : Nat) (c : Cr) (h : l[j]? = some c) :
    (coreCells l)[j * 4]? = some (.int .i64 c.busy) ∧ (coreCells l)[j * 4 + 1]? = some (.int .i64 c.idle) ∧ (coreCells l)[j * 4 + 2]? = some (.int .i64 c.changes) ∧ (coreCells l)[j * 4 + 3]? = some (.int .i64 c.task) := by
  induction l generalizing j with
  | nil => simp at h
  | cons t l ih =>
    rw [coreCells_cons]
    cases j with
    | zero =>
      simp at h
      subst h
      simp
    | succ j =>
      have h2 := ih j (by simpa using h)
      rw [show (j + 1) * 4 = j * 4 + 1 + 1 + 1 + 1 from by omega]
      simpa using h2
theorem coreCells_set (l : List Cr) (j : Nat) (c : Cr) (h : j < l.length) :
    ((((coreCells l).set (j * 4) (.int .i64 c.busy)).set (j * 4 + 1) (.int .i64 c.idle)).set (j * 4 + 2) (.int .i64 c.changes)).set (j * 4 + 3) (.int .i64 c.task) = coreCells (l.set j c) := by
  induction l generalizing j with
  | nil => simp at h
  | cons s l ih =>
    cases j with
    | zero => rw [List.set_cons_zero, coreCells_cons, coreCells_cons]; rfl
    | succ j =>
      rw [List.set_cons_succ, coreCells_cons, coreCells_cons, show (j + 1) * 4 = j * 4 + 1 + 1 + 1 + 1 from by omega, show j * 4 + 1 + 1 + 1 + 1 + 1 = (j * 4 + 1) + 1 + 1 + 1 + 1 from rfl, show j * 4 + 1 + 1 + 1 + 1 + 2 = (j * 4 + 2) + 1 + 1 + 1 + 1 from by omega, show j * 4 + 1 + 1 + 1 + 1 + 3 = (j * 4 + 3) + 1 + 1 + 1 + 1 from by omega]
      simp only [List.set_cons_succ]
      rw [ih j (by simpa using h)]
/-- What an account holds. -/
structure Ac where
  f : Int
  ticks : Int
  M : Int → Option Tk
  C : List Cr
def acCells (s : Ac) (m : Nat) : List Value := .int .i64 s.f :: .int .i64 s.ticks :: .map (some m) :: coreCells s.C
structure RepA (w : World) (F : Nat → Prop) (g m : Nat) (s : Ac) : Prop where
  fg : F g
  fm : F m
  ne : g ≠ m
  hd : w.heap[g]? = some (.cells (acCells s m).toArray 61 (0, 0))
  mp : MapAt Try.prog 3 encT w m s.M
  len : s.C.length = 16
  f0 : 2 ≤ s.f
  f1 : s.f ≤ 64
/-- An account at block g, its blocks in F. -/
def Rep (w : World) (F : Nat → Prop) (g : Nat) (s : Ac) : Prop := ∃ m, RepA w F g m s
theorem RepA.turns {w w' : World} {F G : Nat → Prop} {g m : Nat} {s : Ac} (h : RepA w F g m s) (k : Kept w w' G) (hd : ∀ k, F k → ¬ G k) : RepA w' F g m s :=
  ⟨h.fg, h.fm, h.ne, blk_kept h.hd k (hd _ h.fg), h.mp.kept k (hd _ h.fm), h.len, h.f0, h.f1⟩
theorem Rep.turns {w w' : World} {F G : Nat → Prop} {g : Nat} {s : Ac} (h : Rep w F g s) (k : Kept w w' G) (hd : ∀ k, F k → ¬ G k) : Rep w' F g s := by
  obtain ⟨m, h⟩ := h
  exact ⟨m, h.turns k hd⟩
theorem Rep.below {w w' : World} {F : Nat → Prop} {g : Nat} {s : Ac} (h : Rep w F g s) (k : Below w.heap.size w w') : Rep w' F g s :=
  h.turns (G := fun _ => False) (Kept.of_below k _) (fun _ _ => id)
theorem Rep.drewN {w : World} {F : Nat → Prop} {g : Nat} {s : Ac} (h : Rep w F g s) (n : Nat) : Rep (w.drewN n) F g s :=
  h.below (pw_below_drewN (Below.refl _ _) n)
section
variable {w : World} {F : Nat → Prop} {g m : Nat} {s : Ac}
theorem RepA.core (h : RepA w F g m s) (j : Nat) (c : Cr) (hj : s.C[j]? = some c) :
    w.cell? ⟨g, 3 + j * 4, none⟩ = some (.int .i64 c.busy) ∧ w.cell? ⟨g, 3 + j * 4 + 1, none⟩ = some (.int .i64 c.idle) ∧ w.cell? ⟨g, 3 + j * 4 + 2, none⟩ = some (.int .i64 c.changes) ∧ w.cell? ⟨g, 3 + j * 4 + 3, none⟩ = some (.int .i64 c.task) := by
  have q := coreCells_get s.C j c hj
  refine ⟨?_, ?_, ?_, ?_⟩ <;> rw [blk_cell h.hd, List.getElem?_toArray, acCells]
  · rw [show 3 + j * 4 = j * 4 + 1 + 1 + 1 from by omega]
    simpa using q.1
  · rw [show 3 + j * 4 + 1 = (j * 4 + 1) + 1 + 1 + 1 from by omega]
    simpa using q.2.1
  · rw [show 3 + j * 4 + 2 = (j * 4 + 2) + 1 + 1 + 1 from by omega]
    simpa using q.2.2.1
  · rw [show 3 + j * 4 + 3 = (j * 4 + 3) + 1 + 1 + 1 from by omega]
    simpa using q.2.2.2
theorem acCells_core (s : Ac) (m j : Nat) (c : Cr) (h : j < s.C.length) :
    (((((acCells s m).set (3 + j * 4) (.int .i64 c.busy)).set (3 + j * 4 + 1) (.int .i64 c.idle)).set (3 + j * 4 + 2) (.int .i64 c.changes)).set (3 + j * 4 + 3) (.int .i64 c.task)) = acCells { s with C := s.C.set j c } m := by
  rw [acCells, acCells, show 3 + j * 4 = j * 4 + 1 + 1 + 1 from by omega, show j * 4 + 1 + 1 + 1 + 1 = (j * 4 + 1) + 1 + 1 + 1 from by omega, show j * 4 + 1 + 1 + 1 + 2 = (j * 4 + 2) + 1 + 1 + 1 from by omega, show j * 4 + 1 + 1 + 1 + 3 = (j * 4 + 3) + 1 + 1 + 1 from by omega]
  simp only [List.set_cons_succ]
  rw [coreCells_set _ _ _ h]
/-- Who ran on a core is counted. -/
def coreF (c : Cr) (id : Int) : Cr := if id = 0 then { c with idle := wrap64 (c.idle + 1) } else { c with busy := wrap64 (c.busy + 1), changes := if c.task ≠ 0 ∧ c.task ≠ id then wrap64 (c.changes + 1) else c.changes, task := id }
theorem none_some (h : RepA w F g m s) : Calls Try.prog 55 #[.pointer (some ⟨g, 0, none⟩)] w fun e w' => e = .returned (.bool false) ∧ w = w' := by
  have k0 : w.cell? ⟨g, 0, none⟩ = some (.int .i64 s.f) := (blk_cell h.hd 0).trans rfl
  have d1 : (s.f == 0) = false := beq_eq_false_iff_ne.mpr (by have := h.f0; omega)
  clear h
  generalize s.f = n at *
  go_enter Try.func55, Try.ntmps55
  go_wp2
  go_ret
  exact ⟨rfl, rfl⟩
theorem none_nil (w : World) : Calls Try.prog 55 #[.pointer none] w fun e w' => e = .returned (.bool true) ∧ w = w' := by
  go_enter Try.func55, Try.ntmps55
  go_wp2
  go_ret
  exact ⟨rfl, rfl⟩
/-- A core's cells are written. -/
theorem RepA.put (h : RepA w F g m s) {j : Nat} {c : Cr} (hj : j < s.C.length) {w' : World} (hk : Kept w w' (fun k => k = g))
    (hw : w'.heap[g]? = some (.cells ((((((acCells s m).set (3 + j * 4) (.int .i64 c.busy)).set (3 + j * 4 + 1) (.int .i64 c.idle)).set (3 + j * 4 + 2) (.int .i64 c.changes)).set (3 + j * 4 + 3) (.int .i64 c.task)).toArray) 61 (0, 0))) : RepA w' F g m { s with C := s.C.set j c } :=
  ⟨h.fg, h.fm, h.ne, by rw [hw, acCells_core s m j c hj], h.mp.kept hk (fun e => h.ne e.symm), by rw [List.length_set]; exact h.len, h.f0, h.f1⟩
theorem RepA.coreL (h : RepA w F g m s) (j : Nat) (c : Cr) (hj : s.C[j]? = some c) :
    (acCells s m)[3 + j * 4]? = some (.int .i64 c.busy) ∧ (acCells s m)[3 + j * 4 + 1]? = some (.int .i64 c.idle) ∧ (acCells s m)[3 + j * 4 + 2]? = some (.int .i64 c.changes) ∧ (acCells s m)[3 + j * 4 + 3]? = some (.int .i64 c.task) := by
  have q := h.core j c hj
  simp only [blk_cell h.hd, List.getElem?_toArray] at q
  exact q
theorem core_calls (h : Rep w F g s) (j : Nat) (c : Cr) (hj : s.C[j]? = some c) (id : Int) :
    Calls Try.prog 57 #[.pointer (some ⟨g, 0, none⟩), .int .i64 (j : Int), .int .i64 id] w fun e w' => e = .returned (.tuple #[]) ∧ Rep w' F g { s with C := s.C.set j (coreF c id) } ∧ Turns w w' F := by
  obtain ⟨m, h⟩ := h
  obtain ⟨c0, c1, c2, c3⟩ := h.core j c hj
  have hjl : j < s.C.length := (List.getElem?_eq_some_iff.mp hj).1
  have f0 := blk_frozen h.hd (3 + j * 4)
  have f1 := blk_frozen h.hd (3 + j * 4 + 1)
  have f2 := blk_frozen h.hd (3 + j * 4 + 2)
  have f3 := blk_frozen h.hd (3 + j * 4 + 3)
  have hl := h.len
  have H := Aside0.mk h
  have HJ := Aside0.mk hj
  have HL := Aside0.mk hjl
  have p0 := eq_true (show (0 : Int) ≤ (j : Int) by omega)
  have p1 := eq_true (show (j : Int) < 16 by omega)
  have p2 := eq_true (show j < 16 by omega)
  clear h hj hjl hl
  by_cases h0 : id = 0
  · subst h0
    have e : coreF c 0 = { c with idle := wrap64 (c.idle + 1) } := if_pos rfl
    rw [e]
    go_enter Try.func57, Try.ntmps57
    go_wp2
    refine bodyPost_ret (results_none rfl _ _ _) rfl ?_
    refine ⟨rfl, ⟨m, H.out.put HL.out (Kept.setCell (S := fun k => k = g) (p := ⟨g, 3 + j * 4 + 1, none⟩) (Kept.refl _ _) (.inl rfl) _) ?_⟩, (Turns.refl _ _).set (.inl H.out.fg) _⟩
    rw [blk_set H.out.hd, List.setIfInBounds_toArray]
    obtain ⟨q0, q1, q2, q3⟩ := H.out.coreL j c HJ.out
    (try dsimp only)
    rw [set_same _ (3 + j * 4) _ q0, set_same _ (3 + j * 4 + 2) _ (by rw [List.getElem?_set_ne (by omega)]; exact q2), set_same _ (3 + j * 4 + 3) _ (by rw [List.getElem?_set_ne (by omega)]; exact q3)]
  · have d0 : (id == 0) = false := beq_eq_false_iff_ne.mpr h0
    have H0 := Aside0.mk h0
    by_cases ht : c.task ≠ 0 ∧ c.task ≠ id
    · have d1 : (c.task != 0) = true := bne_iff_ne.mpr ht.1
      have d2 : (c.task != id) = true := bne_iff_ne.mpr ht.2
      have e : coreF c id = { c with busy := wrap64 (c.busy + 1), changes := wrap64 (c.changes + 1), task := id } := by unfold coreF; rw [if_neg h0, if_pos ht]
      rw [e]
      clear h0 ht e
      go_enter Try.func57, Try.ntmps57
      go_wp2
      go_end0
      refine ⟨rfl, ⟨m, H.out.put HL.out ((((Kept.refl w _).setCell (S := fun k => k = g) (.inl rfl) _).setCell (.inl rfl) _).setCell (.inl rfl) _) ?_⟩, (((Turns.refl _ _).set (.inl H.out.fg) _).set (.inl H.out.fg) _).set (.inl H.out.fg) _⟩
      rw [blk_set (blk_set (blk_set H.out.hd _ _) _ _) _ _]
      simp only [List.setIfInBounds_toArray]
      obtain ⟨q0, q1, q2, q3⟩ := H.out.coreL j c HJ.out
      (try dsimp only)
      rw [List.set_comm _ _ (show 3 + j * 4 + 2 ≠ 3 + j * 4 by omega), set_same _ (3 + j * 4 + 1) _ (by rw [List.getElem?_set_ne (by omega)]; exact q1)]
    · have HT := Aside0.mk ht
      have e : coreF c id = { c with busy := wrap64 (c.busy + 1), task := id } := by unfold coreF; rw [if_neg h0, if_neg ht]
      rw [e]
      have key : ∀ w', w' = (w.setCell ⟨g, 3 + j * 4, none⟩ (.int .i64 (wrap64 (c.busy + 1)))).setCell ⟨g, 3 + j * 4 + 3, none⟩ (.int .i64 id) → Rep w' F g { s with C := s.C.set j { c with busy := wrap64 (c.busy + 1), task := id } } ∧ Turns w w' F := by
        rintro w' rfl
        refine ⟨⟨m, H.out.put HL.out (((Kept.refl w _).setCell (S := fun k => k = g) (.inl rfl) _).setCell (.inl rfl) _) ?_⟩, ((Turns.refl _ _).set (.inl H.out.fg) _).set (.inl H.out.fg) _⟩
        rw [blk_set (blk_set H.out.hd _ _) _ _]
        simp only [List.setIfInBounds_toArray]
        obtain ⟨q0, q1, q2, q3⟩ := H.out.coreL j c HJ.out
        (try dsimp only)
        rw [set_same _ (3 + j * 4 + 1) _ (by rw [List.getElem?_set_ne (by omega)]; exact q1), set_same _ (3 + j * 4 + 2) _ (by rw [List.getElem?_set_ne (by omega)]; exact q2)]
      have KEY := Aside0.mk key
      by_cases ht0 : c.task = 0
      · have d1 : (c.task != 0) = false := by rw [ht0]; rfl
        clear h0 ht ht0 e key
        go_enter Try.func57, Try.ntmps57
        go_wp2
        go_end0
        exact ⟨rfl, KEY.out _ rfl⟩
      · have d1 : (c.task != 0) = true := bne_iff_ne.mpr ht0
        have d2 : (c.task != id) = false := by rw [bne_eq_false_iff_eq]; exact Classical.byContradiction fun q => ht ⟨ht0, q⟩
        clear h0 ht ht0 e key
        go_enter Try.func57, Try.ntmps57
        go_wp2
        go_end0
        exact ⟨rfl, KEY.out _ rfl⟩
end
end Go.Proofs.Ytgfkcmmhnibaiaa.Ac
