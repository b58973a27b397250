/- slots.Table (string), walked by hand: found, changed, taken, dropped. -/
import Derived.Test.YtgjcbpeliimhaaaSlS1
namespace Go.Proofs.Ytgjcbpeliimhaaa.PSl.S
open Go.RowKit Go.Proofs.YtgjcbpeliimhaaaW.PrintWords Go.Proofs.YtgjcbpeliimhaaaW.PrintLast Go.Proofs.YtgjcbpeliimhaaaW.PrintMore
set_option linter.unusedVariables false
set_option linter.unusedSimpArgs false
theorem RepA.slot {w : World} {F : Nat → Prop} {g a : Nat} {v : Value} {s : Tb El} (h : RepA w F g a v s) (j : Nat) (x : El) (gen : Int) (t : Bool) (hj : j < s.l.length) (w' : World)
    (hk : Kept w w' (fun k => k = a)) (hs : w'.heap[a]? = some (.cells ((((slotCells enc s.l).toArray.setIfInBounds (j * 3) (enc x)).setIfInBounds (j * 3 + 1) (.int .i64 gen)).setIfInBounds (j * 3 + 2) (.bool t)) 138 (0, 0))) :
    RepA w' F g a v { s with l := s.l.set j (x, gen, t) } := by
  have hl : (s.l.set j (x, gen, t)).length = s.l.length := List.length_set
  refine ⟨h.fg, h.fa, h.ne, ?_, ?_, Kd.R_kept h.fr hk (fun k hk => hk.2.2), by rw [hl]; exact h.pos, by rw [hl]; exact h.le, by rw [hl]; exact h.nx, fun x hx => by rw [hl]; exact h.fin x hx⟩
  · rw [hl]
    exact blk_kept h.hd hk h.ne
  · rw [hs]
    simp only [List.setIfInBounds_toArray]
    rw [slotCells_set _ _ _ _ _ hj]
def setF (s : Tb El) (id : Int) (x : El) : Tb El × Int := match look s id with | some (_, g) => ({ s with l := s.l.set (id - 1).toNat (x, g, true) }, 0) | none => (s, 10)
theorem len_calls {w : World} {F : Nat → Prop} {g : Nat} {s : Tb El} (h : Rep w F g s) :
    Calls Try.prog 59 #[.pointer (some ⟨g, 0, none⟩)] w fun e w' => e = .returned (.int .i64 s.many) ∧ w = w' := by
  obtain ⟨a, v, h⟩ := h
  have k3 : w.cell? ⟨g, 3, none⟩ = some (.int .i64 s.many) := (blk_cell h.hd 3).trans rfl
  have H := Aside0.mk h
  clear h
  go_enter Try.func59, Try.ntmps59
  go_wp2_with (go_at_call 73; (with_reducible refine (none_some H.out).mono ?_); rintro e w' ⟨rfl, rfl⟩)
  go_ret
  exact ⟨rfl, rfl⟩
theorem len_nil (w : World) : Calls Try.prog 59 #[.pointer none] w fun e w' => e = .returned (.int .i64 0) ∧ w = w' := by
  go_enter Try.func59, Try.ntmps59
  go_wp2_with (go_at_call 73; (with_reducible refine (none_nil _).mono ?_); rintro e w' ⟨rfl, rfl⟩)
  go_ret
  exact ⟨rfl, rfl⟩
theorem drop_nil (id gen : Int) (w : World) : Calls Try.prog 57 #[.pointer none, .int .i64 id, .int .i64 gen] w fun e w' => e = .returned (.int .i64 2) ∧ w = w' := by
  go_enter Try.func57, Try.ntmps57
  go_wp2_with (go_at_call 73; (with_reducible refine (none_nil _).mono ?_); rintro e w' ⟨rfl, rfl⟩)
  go_ret
  exact ⟨rfl, rfl⟩
theorem take_nil (x : El) (w : World) : Calls Try.prog 56 #[.pointer none, enc x] w fun e w' => e = .returned (.tuple #[.int .i64 0, .int .i64 0, .int .i64 2]) ∧ w = w' := by
  go_enter Try.func56, Try.ntmps56
  go_wp2_with (go_at_call 73; (with_reducible refine (none_nil _).mono ?_); rintro e w' ⟨rfl, rfl⟩)
  go_ret3
  exact ⟨rfl, rfl⟩
def dropF (s : Tb El) (id gen : Int) : Tb El × Int := match look s id with
  | some (_, g) => if g = gen then ({ l := s.l.set (id - 1).toNat ((ByteArray.empty : ByteArray), wrap64 (g + 1), false), free := s.free ++ [id], next := s.next, many := wrap64 (s.many - 1) }, 0) else (s, 10)
  | none => (s, 10)
theorem drop_no {w : World} {F : Nat → Prop} {g : Nat} {s : Tb El} (h : Rep w F g s) (id gen : Int) (hd : dropF s id gen = (s, 10)) (hn : ∀ x, look s id ≠ some (x, gen)) :
    Calls Try.prog 57 #[.pointer (some ⟨g, 0, none⟩), .int .i64 id, .int .i64 gen] w fun e w' => e = .returned (.int .i64 10) ∧ w = w' := by
  obtain ⟨a, v, h⟩ := h
  cases hl : look s id with
  | none =>
    have H := Aside0.mk h
    have HL := Aside0.mk hl
    clear h hl hd hn
    go_enter Try.func57, Try.ntmps57
    go_wp2_with (first
      | (go_at_call 73; (with_reducible refine (none_some H.out).mono ?_); rintro e w' ⟨rfl, rfl⟩)
      | (go_at_call 74; (with_reducible refine (at_no H.out _ HL.out).mono ?_); rintro e w' ⟨rfl, rfl⟩))
    go_ret
    exact ⟨rfl, rfl⟩
  | some p =>
    obtain ⟨x0, g0⟩ := p
    have hg : g0 ≠ gen := fun e => hn x0 (by rw [hl, e])
    obtain ⟨j, rfl, hj⟩ := look_some hl
    obtain ⟨c0, c1, c2⟩ := slot_cells h j x0 g0 true hj
    have d1 : (g0 == gen) = false := beq_eq_false_iff_ne.mpr hg
    have d2 : (g0 != gen) = true := bne_iff_ne.mpr hg
    have H := Aside0.mk h
    have HJ := Aside0.mk hj
    clear h hl hj c2 c0 hd hn hg
    go_enter Try.func57, Try.ntmps57
    go_wp2_with (first
      | (go_at_call 73; (with_reducible refine (none_some H.out).mono ?_); rintro e w' ⟨rfl, rfl⟩)
      | (go_at_call 74; (with_reducible refine (at_yes H.out j x0 g0 HJ.out).mono ?_); rintro e w' ⟨rfl, rfl⟩))
    go_ret
    exact ⟨rfl, rfl⟩
end Go.Proofs.Ytgjcbpeliimhaaa.PSl.S
