/- slots.Table (int), walked by hand: found, changed, taken, dropped. -/
import Derived.Test.YtgjcbpeliimhaaaSlI1
namespace Go.Proofs.Ytgjcbpeliimhaaa.PSl.I
open Go.RowKit Go.Proofs.YtgjcbpeliimhaaaW.PrintWords Go.Proofs.YtgjcbpeliimhaaaW.PrintLast Go.Proofs.YtgjcbpeliimhaaaW.PrintMore
set_option linter.unusedVariables false
set_option linter.unusedSimpArgs false
theorem find_calls {w : World} {F : Nat → Prop} {g : Nat} {s : Tb El} (h : Rep w F g s) (id : Int) :
    Calls Try.prog 42 #[.pointer (some ⟨g, 0, none⟩), .int .i64 id] w fun e w' => e = .returned (.tuple #[enc (findF s id).1, .int .i64 (findF s id).2.1, .bool (findF s id).2.2]) ∧ ∃ n, w' = w.drewN n := by
  obtain ⟨a, v, h⟩ := h
  unfold findF
  cases hl : look s id with
  | none =>
    have H := Aside0.mk h
    have HL := Aside0.mk hl
    clear h hl
    go_enter Try.func42, Try.ntmps42
    go_wp2_with (go_at_call 61; (with_reducible refine (at_no H.out _ HL.out).mono ?_); rintro e w' ⟨rfl, rfl⟩)
    go_ret3
    exact ⟨rfl, 0, rfl⟩
  | some p =>
    obtain ⟨x, g0⟩ := p
    obtain ⟨j, rfl, hj⟩ := look_some hl
    obtain ⟨c0, c1, c2⟩ := slot_cells h j x g0 true hj
    have H := Aside0.mk h
    have HJ := Aside0.mk hj
    clear h hl hj c2
    dsimp only
    go_enter Try.func42, Try.ntmps42
    go_wp2_with (go_at_call 61; (with_reducible refine (at_yes H.out j x g0 HJ.out).mono ?_); rintro e w' ⟨rfl, rfl⟩)
    go_quiet (fail)
    try go_wp2
    go_ret3
    exact ⟨rfl, _, rfl⟩
theorem find_nil (id : Int) (w : World) : Calls Try.prog 42 #[.pointer none, .int .i64 id] w fun e w' => e = .returned (.tuple #[.int .i64 0, .int .i64 0, .bool false]) ∧ w = w' := by
  go_enter Try.func42, Try.ntmps42
  go_wp2_with (go_at_call 61; (with_reducible refine (at_nil _ _).mono ?_); rintro e w' ⟨rfl, rfl⟩)
  go_ret3
  exact ⟨rfl, rfl⟩
theorem RepA.slot {w : World} {F : Nat → Prop} {g a : Nat} {v : Value} {s : Tb El} (h : RepA w F g a v s) (j : Nat) (x : El) (gen : Int) (t : Bool) (hj : j < s.l.length) (w' : World)
    (hk : Kept w w' (fun k => k = a)) (hs : w'.heap[a]? = some (.cells ((((slotCells enc s.l).toArray.setIfInBounds (j * 3) (enc x)).setIfInBounds (j * 3 + 1) (.int .i64 gen)).setIfInBounds (j * 3 + 2) (.bool t)) 110 (0, 0))) :
    RepA w' F g a v { s with l := s.l.set j (x, gen, t) } := by
  have hl : (s.l.set j (x, gen, t)).length = s.l.length := List.length_set
  refine ⟨h.fg, h.fa, h.ne, ?_, ?_, Kd.R_kept h.fr hk (fun k hk => hk.2.2), by rw [hl]; exact h.pos, by rw [hl]; exact h.le, by rw [hl]; exact h.nx, fun x hx => by rw [hl]; exact h.fin x hx⟩
  · rw [hl]
    exact blk_kept h.hd hk h.ne
  · rw [hs]
    simp only [List.setIfInBounds_toArray]
    rw [slotCells_set _ _ _ _ _ hj]
def setF (s : Tb El) (id : Int) (x : El) : Tb El × Int := match look s id with | some (_, g) => ({ s with l := s.l.set (id - 1).toNat (x, g, true) }, 0) | none => (s, 10)
theorem set_calls {w : World} {F : Nat → Prop} {g : Nat} {s : Tb El} (h : Rep w F g s) (id : Int) (x : El) :
    Calls Try.prog 45 #[.pointer (some ⟨g, 0, none⟩), .int .i64 id, enc x] w fun e w' => e = .returned (.int .i64 (setF s id x).2) ∧ Rep w' F g (setF s id x).1 ∧ Turns w w' F := by
  obtain ⟨a, v, h⟩ := h
  unfold setF
  cases hl : look s id with
  | none =>
    have H := Aside0.mk h
    have HL := Aside0.mk hl
    clear h hl
    go_enter Try.func45, Try.ntmps45
    go_wp2_with (first
      | (go_at_call 60; (with_reducible refine (none_some H.out).mono ?_); rintro e w' ⟨rfl, rfl⟩)
      | (go_at_call 61; (with_reducible refine (at_no H.out _ HL.out).mono ?_); rintro e w' ⟨rfl, rfl⟩))
    go_ret
    exact ⟨rfl, ⟨a, v, H.out⟩, Turns.refl _ _⟩
  | some p =>
    obtain ⟨x0, g0⟩ := p
    obtain ⟨j, rfl, hj⟩ := look_some hl
    obtain ⟨c0, c1, c2⟩ := slot_cells h j x0 g0 true hj
    have f0 := blk_frozen h.sl (j * 3)
    have H := Aside0.mk h
    have HJ := Aside0.mk hj
    clear h hl hj c2 c1
    have ej : ((j : Int) + 1 - 1).toNat = j := by omega
    dsimp only
    rw [ej]
    clear ej
    go_enter Try.func45, Try.ntmps45
    go_wp2_with (first
      | (go_at_call 60; (with_reducible refine (none_some H.out).mono ?_); rintro e w' ⟨rfl, rfl⟩)
      | (go_at_call 61; (with_reducible refine (at_yes H.out j x0 g0 HJ.out).mono ?_); rintro e w' ⟨rfl, rfl⟩))
    go_ret
    have hj := (List.getElem?_eq_some_iff.mp HJ.out).1
    refine ⟨rfl, ⟨a, v, H.out.slot j x g0 true hj _ (Kept.setCell (S := fun k => k = a) (p := ⟨a, j * 3, none⟩) (Kept.refl _ _) (.inl rfl) _) ?_⟩, (Turns.refl _ _).set (.inl H.out.fa) _⟩
    rw [blk_set H.out.sl]
    congr 2
    have q := slotCells_get (enc := enc) s.l j _ HJ.out
    apply Array.ext'
    simp only [List.setIfInBounds_toArray]
    rw [slotCells_set _ _ _ _ _ hj]
    have q2 := slotCells_set (enc := enc) s.l j x g0 true hj
    rw [← q2]
    rw [set_same _ (j * 3 + 1) _ (by rw [List.getElem?_set_ne (by omega)]; exact q.2.1), set_same _ (j * 3 + 2) _ (by rw [List.getElem?_set_ne (by omega)]; exact q.2.2)]
theorem set_nil (id : Int) (x : El) (w : World) : Calls Try.prog 45 #[.pointer none, .int .i64 id, enc x] w fun e w' => e = .returned (.int .i64 2) ∧ w = w' := by
  go_enter Try.func45, Try.ntmps45
  go_wp2_with (go_at_call 60; (with_reducible refine (none_nil _).mono ?_); rintro e w' ⟨rfl, rfl⟩)
  go_ret
  exact ⟨rfl, rfl⟩
theorem len_calls {w : World} {F : Nat → Prop} {g : Nat} {s : Tb El} (h : Rep w F g s) :
    Calls Try.prog 18 #[.pointer (some ⟨g, 0, none⟩)] w fun e w' => e = .returned (.int .i64 s.many) ∧ w = w' := by
  obtain ⟨a, v, h⟩ := h
  have k3 : w.cell? ⟨g, 3, none⟩ = some (.int .i64 s.many) := (blk_cell h.hd 3).trans rfl
  have H := Aside0.mk h
  clear h
  go_enter Try.func18, Try.ntmps18
  go_wp2_with (go_at_call 60; (with_reducible refine (none_some H.out).mono ?_); rintro e w' ⟨rfl, rfl⟩)
  go_ret
  exact ⟨rfl, rfl⟩
theorem len_nil (w : World) : Calls Try.prog 18 #[.pointer none] w fun e w' => e = .returned (.int .i64 0) ∧ w = w' := by
  go_enter Try.func18, Try.ntmps18
  go_wp2_with (go_at_call 60; (with_reducible refine (none_nil _).mono ?_); rintro e w' ⟨rfl, rfl⟩)
  go_ret
  exact ⟨rfl, rfl⟩
theorem drop_nil (id gen : Int) (w : World) : Calls Try.prog 17 #[.pointer none, .int .i64 id, .int .i64 gen] w fun e w' => e = .returned (.int .i64 2) ∧ w = w' := by
  go_enter Try.func17, Try.ntmps17
  go_wp2_with (go_at_call 60; (with_reducible refine (none_nil _).mono ?_); rintro e w' ⟨rfl, rfl⟩)
  go_ret
  exact ⟨rfl, rfl⟩
theorem take_nil (x : El) (w : World) : Calls Try.prog 19 #[.pointer none, enc x] w fun e w' => e = .returned (.tuple #[.int .i64 0, .int .i64 0, .int .i64 2]) ∧ w = w' := by
  go_enter Try.func19, Try.ntmps19
  go_wp2_with (go_at_call 60; (with_reducible refine (none_nil _).mono ?_); rintro e w' ⟨rfl, rfl⟩)
  go_ret3
  exact ⟨rfl, rfl⟩
def dropF (s : Tb El) (id gen : Int) : Tb El × Int := match look s id with
  | some (_, g) => if g = gen then ({ l := s.l.set (id - 1).toNat ((0 : Int), wrap64 (g + 1), false), free := s.free ++ [id], next := s.next, many := wrap64 (s.many - 1) }, 0) else (s, 10)
  | none => (s, 10)
theorem drop_no {w : World} {F : Nat → Prop} {g : Nat} {s : Tb El} (h : Rep w F g s) (id gen : Int) (hd : dropF s id gen = (s, 10)) (hn : ∀ x, look s id ≠ some (x, gen)) :
    Calls Try.prog 17 #[.pointer (some ⟨g, 0, none⟩), .int .i64 id, .int .i64 gen] w fun e w' => e = .returned (.int .i64 10) ∧ w = w' := by
  obtain ⟨a, v, h⟩ := h
  cases hl : look s id with
  | none =>
    have H := Aside0.mk h
    have HL := Aside0.mk hl
    clear h hl hd hn
    go_enter Try.func17, Try.ntmps17
    go_wp2_with (first
      | (go_at_call 60; (with_reducible refine (none_some H.out).mono ?_); rintro e w' ⟨rfl, rfl⟩)
      | (go_at_call 61; (with_reducible refine (at_no H.out _ HL.out).mono ?_); rintro e w' ⟨rfl, rfl⟩))
    go_ret
    exact ⟨rfl, rfl⟩
  | some p =>
    obtain ⟨x0, g0⟩ := p
    have hg : g0 ≠ gen := fun e => hn x0 (by rw [hl, e])
    obtain ⟨j, rfl, hj⟩ := look_some hl
    obtain ⟨c0, c1, c2⟩ := slot_cells h j x0 g0 true hj
    have d1 : (g0 == gen) = false := beq_eq_false_iff_ne.mpr hg
    have d2 : (g0 != gen) = true := bne_iff_ne.mpr hg
    have H := Aside0.mk h
    have HJ := Aside0.mk hj
    clear h hl hj c2 c0 hd hn hg
    go_enter Try.func17, Try.ntmps17
    go_wp2_with (first
      | (go_at_call 60; (with_reducible refine (none_some H.out).mono ?_); rintro e w' ⟨rfl, rfl⟩)
      | (go_at_call 61; (with_reducible refine (at_yes H.out j x0 g0 HJ.out).mono ?_); rintro e w' ⟨rfl, rfl⟩))
    go_ret
    exact ⟨rfl, rfl⟩
end Go.Proofs.Ytgjcbpeliimhaaa.PSl.I
