/- slots.Table (string), walked by hand: what is in a slot; a thing is put there. -/
import Derived.Test.YtgjcbpeliimhaaaSlS0
namespace Go.Proofs.Ytgjcbpeliimhaaa.PSl.S
open Go.RowKit Go.Proofs.YtgjcbpeliimhaaaW.PrintWords Go.Proofs.YtgjcbpeliimhaaaW.PrintLast Go.Proofs.YtgjcbpeliimhaaaW.PrintMore
set_option linter.unusedVariables false
set_option linter.unusedSimpArgs false
/-- What is in a slot that is taken, and its generation. -/
def look (s : Tb El) (id : Int) : Option (El × Int) := if 1 ≤ id then (match s.l[(id - 1).toNat]? with | some (x, g, true) => some (x, g) | _ => none) else none
theorem look_some {s : Tb El} {id : Int} {x : El} {gen : Int} (h : look s id = some (x, gen)) : ∃ j : Nat, id = (j : Int) + 1 ∧ s.l[j]? = some (x, gen, true) := by
  unfold look at h
  by_cases h1 : 1 ≤ id
  · rw [if_pos h1] at h
    refine ⟨(id - 1).toNat, by omega, ?_⟩
    split at h
    · rename_i e
      simp only [Option.some.injEq, Prod.mk.injEq] at h
      obtain ⟨rfl, rfl⟩ := h
      exact e
    · cases h
  · rw [if_neg h1] at h
    cases h
theorem look_none {s : Tb El} {id : Int} (h : look s id = none) : id < 1 ∨ (s.l.length : Int) < id ∨ ∃ (j : Nat) (x : El) (gen : Int), id = (j : Int) + 1 ∧ s.l[j]? = some (x, gen, false) := by
  unfold look at h
  by_cases h1 : 1 ≤ id
  · rw [if_pos h1] at h
    by_cases h2 : id ≤ s.l.length
    · have hj : (id - 1).toNat < s.l.length := by omega
      obtain ⟨⟨x, gen, t⟩, e⟩ : ∃ p, s.l[(id - 1).toNat]? = some p := ⟨_, List.getElem?_eq_getElem hj⟩
      rw [e] at h
      cases t with
      | true => cases h
      | false => exact .inr (.inr ⟨(id - 1).toNat, x, gen, by omega, e⟩)
    · exact .inr (.inl (by omega))
  · exact .inl (by omega)
theorem at_no {w : World} {F : Nat → Prop} {g a : Nat} {v : Value} {s : Tb El} (h : RepA w F g a v s) (id : Int) (hid : look s id = none) :
    Calls Try.prog 74 #[.pointer (some ⟨g, 0, none⟩), .int .i64 id] w fun e w' => e = .returned (.tuple #[.pointer none, .bool false]) ∧ w = w' := by
  have k0 : w.cell? ⟨g, 0, none⟩ = some (.slice (some ⟨a, 0, none⟩) s.l.length s.l.length) := (blk_cell h.hd 0).trans rfl
  have hn : s.l.length ≤ 1024 := h.le
  rcases look_none hid with hj | hj | ⟨j, x, gen, rfl, hj⟩
  · have H := Aside0.mk h
    clear h hid
    have d2 : decide (id < 1) = true := decide_eq_true (by omega)
    clear hn hj
    generalize hn : s.l.length = n at *
    clear hn
    go_enter Try.func74, Try.ntmps74
    go_wp2_with (go_at_call 73; (with_reducible refine (none_some H.out).mono ?_); rintro e w' ⟨rfl, rfl⟩)
    go_ret2
    exact ⟨rfl, rfl⟩
  · have H := Aside0.mk h
    clear h hid
    have d2 : decide (id < 1) = false := decide_eq_false (by omega)
    have d1 : decide ((s.l.length : Int) < id) = true := decide_eq_true (by omega)
    clear hn hj
    generalize hn : s.l.length = n at *
    clear hn
    go_enter Try.func74, Try.ntmps74
    go_wp2_with (go_at_call 73; (with_reducible refine (none_some H.out).mono ?_); rintro e w' ⟨rfl, rfl⟩)
    go_ret2
    exact ⟨rfl, rfl⟩
  · have k1 : w.cell? ⟨a, j * 3 + 2, none⟩ = some (.bool false) := by
      rw [blk_cell h.sl (j * 3 + 2), List.getElem?_toArray, (slotCells_get (enc := enc) s.l j _ hj).2.2]
    have hjn : j < s.l.length := (List.getElem?_eq_some_iff.mp hj).1
    have H := Aside0.mk h
    clear h hj hid
    have d1 : decide ((s.l.length : Int) < (j : Int) + 1) = false := decide_eq_false (by omega)
    have d2 : decide ((j : Int) + 1 < 1) = false := decide_eq_false (by omega)
    have p0 := eq_true (show (0 : Int) ≤ (j : Int) by omega)
    have q0 := eq_true (show (j : Int) < (s.l.length : Int) by omega)
    have ew : wrap64 (j : Int) = (j : Int) := by unfold wrap64; omega
    clear hn hjn
    generalize hn : s.l.length = n at *
    clear hn
    go_enter Try.func74, Try.ntmps74
    go_wp2_with (go_at_call 73; (with_reducible refine (none_some H.out).mono ?_); rintro e w' ⟨rfl, rfl⟩)
    go_ret2
    exact ⟨rfl, rfl⟩
theorem at_nil (id : Int) (w : World) : Calls Try.prog 74 #[.pointer none, .int .i64 id] w fun e w' => e = .returned (.tuple #[.pointer none, .bool false]) ∧ w = w' := by
  go_enter Try.func74, Try.ntmps74
  go_wp2_with (go_at_call 73; (with_reducible refine (none_nil _).mono ?_); rintro e w' ⟨rfl, rfl⟩)
  go_ret2
  exact ⟨rfl, rfl⟩
theorem slot_cells {w : World} {F : Nat → Prop} {g a : Nat} {v : Value} {s : Tb El} (h : RepA w F g a v s) (j : Nat) (x : El) (gen : Int) (t : Bool) (hj : s.l[j]? = some (x, gen, t)) :
    w.cell? ⟨a, j * 3, none⟩ = some (enc x) ∧ w.cell? ⟨a, j * 3 + 1, none⟩ = some (.int .i64 gen) ∧ w.cell? ⟨a, j * 3 + 2, none⟩ = some (.bool t) := by
  have q := slotCells_get (enc := enc) s.l j _ hj
  refine ⟨?_, ?_, ?_⟩
  · rw [blk_cell h.sl, List.getElem?_toArray, q.1]
  · rw [blk_cell h.sl, List.getElem?_toArray, q.2.1]
  · rw [blk_cell h.sl, List.getElem?_toArray, q.2.2]
def getF (s : Tb El) (id gen : Int) : El × Bool := match look s id with | some (x, g) => if g = gen then (x, true) else ((ByteArray.empty : ByteArray), false) | none => ((ByteArray.empty : ByteArray), false)
def findF (s : Tb El) (id : Int) : El × Int × Bool := match look s id with | some (x, g) => (x, g, true) | none => ((ByteArray.empty : ByteArray), 0, false)
theorem get_calls {w : World} {F : Nat → Prop} {g : Nat} {s : Tb El} (h : Rep w F g s) (id gen : Int) :
    Calls Try.prog 58 #[.pointer (some ⟨g, 0, none⟩), .int .i64 id, .int .i64 gen] w fun e w' => e = .returned (.tuple #[enc (getF s id gen).1, .bool (getF s id gen).2]) ∧ w = w' := by
  obtain ⟨a, v, h⟩ := h
  unfold getF
  cases hl : look s id with
  | none =>
    have H := Aside0.mk h
    have HL := Aside0.mk hl
    clear h hl
    go_enter Try.func58, Try.ntmps58
    go_wp2_with (go_at_call 74; (with_reducible refine (at_no H.out _ HL.out).mono ?_); rintro e w' ⟨rfl, rfl⟩)
    go_ret2
    exact ⟨rfl, rfl⟩
  | some p =>
    obtain ⟨x, g0⟩ := p
    obtain ⟨j, rfl, hj⟩ := look_some hl
    obtain ⟨c0, c1, c2⟩ := slot_cells h j x g0 true hj
    have H := Aside0.mk h
    have HJ := Aside0.mk hj
    clear h hl hj c2
    dsimp only
    by_cases hg : g0 = gen
    · rw [if_pos hg]
      have d1 : (g0 == gen) = true := beq_iff_eq.mpr hg
      clear hg
      go_enter Try.func58, Try.ntmps58
      go_wp2_with (go_at_call 74; (with_reducible refine (at_yes H.out j x g0 HJ.out).mono ?_); rintro e w' ⟨rfl, rfl⟩)
      go_ret2
      exact ⟨rfl, rfl⟩
    · rw [if_neg hg]
      have d1 : (g0 == gen) = false := beq_eq_false_iff_ne.mpr hg
      clear hg
      go_enter Try.func58, Try.ntmps58
      go_wp2_with (go_at_call 74; (with_reducible refine (at_yes H.out j x g0 HJ.out).mono ?_); rintro e w' ⟨rfl, rfl⟩)
      go_ret2
      exact ⟨rfl, rfl⟩
theorem get_nil (id gen : Int) (w : World) : Calls Try.prog 58 #[.pointer none, .int .i64 id, .int .i64 gen] w fun e w' => e = .returned (.tuple #[.string ByteArray.empty, .bool false]) ∧ w = w' := by
  go_enter Try.func58, Try.ntmps58
  go_wp2_with (go_at_call 74; (with_reducible refine (at_nil _ _).mono ?_); rintro e w' ⟨rfl, rfl⟩)
  go_ret2
  exact ⟨rfl, rfl⟩
end Go.Proofs.Ytgjcbpeliimhaaa.PSl.S
