/- Tables behind a pointer: what their blocks hold, and what a call on them leaves alone. -/
import Derived.Test.YtgjcbpeliimhaaaProg
import Derived.Test.YtgjcbpeliimhaaaWLast
import Derived.Test.YtgjcbpeliimhaaaWMore
import Derived.Test.YtgjcbpeliimhaaaWKept
namespace Go.Proofs.Ytgjcbpeliimhaaa.PSl
open Go.RowKit Go.Proofs.YtgjcbpeliimhaaaW.PrintWords Go.Proofs.YtgjcbpeliimhaaaW.PrintLast Go.Proofs.YtgjcbpeliimhaaaW.PrintMore
set_option linter.unusedVariables false
set_option linter.unusedSimpArgs false
/-- All but the blocks of F (and what is new) is as it was. -/
structure Turns (w w' : World) (F : Nat → Prop) : Prop where
  os : w'.os = w.os
  tape : w'.tape = w.tape
  output : w'.output = w.output
  kept : Kept w w' F
theorem Turns.refl (w : World) (F : Nat → Prop) : Turns w w F := ⟨rfl, rfl, rfl, Kept.refl _ _⟩
theorem Turns.set {w w' : World} {F : Nat → Prop} (h : Turns w w' F) {p : Addr} (hp : F p.block ∨ w.heap.size ≤ p.block) (u : Value) : Turns w (w'.setCell p u) F :=
  ⟨h.os, h.tape, h.output, h.kept.setCell hp u⟩
theorem Turns.alloc {w w' : World} {F : Nat → Prop} (h : Turns w w' F) (o : Obj) : Turns w (w'.alloc o) F := ⟨h.os, h.tape, h.output, h.kept.alloc o⟩
theorem Turns.drew {w w' : World} {F : Nat → Prop} (h : Turns w w' F) : Turns w w'.drew F := ⟨h.os, h.tape, h.output, h.kept.drew⟩
theorem Turns.drewN {w w' : World} {F : Nat → Prop} (h : Turns w w' F) (n : Nat) : Turns w (w'.drewN n) F := ⟨h.os, h.tape, h.output, h.kept.drewN n⟩
theorem Turns.grown {w w' w2 : World} {F : Nat → Prop} {row : Option Nat} (h : Turns w w' F) (hg : w'.grownBy w2 row) (hr : ∀ k, row = some k → F k ∨ w.heap.size ≤ k) : Turns w w2 F :=
  ⟨hg.os.trans h.os, hg.tape.trans h.tape, hg.output.trans h.output, Kept.of_grown hg h.kept hr⟩
theorem Turns.trans {w w1 w2 : World} {F F2 : Nat → Prop} (h : Turns w w1 F) (k : Turns w1 w2 F2) (hs : ∀ k, F2 k → F k ∨ w.heap.size ≤ k) : Turns w w2 F :=
  ⟨k.os.trans h.os, k.tape.trans h.tape, k.output.trans h.output, h.kept.then_ k.kept hs⟩
theorem Turns.below {w w1 w2 : World} {F : Nat → Prop} (h : Turns w w1 F) (k : Below w1.heap.size w1 w2) : Turns w w2 F :=
  ⟨k.os.trans h.os, k.tape.trans h.tape, k.output.trans h.output, h.kept.below k⟩
/-- What turns blocks from the call's own alone. -/
theorem Turns.to_below {B : Nat} {w w1 w2 : World} {F : Nat → Prop} (h : Below B w w1) (hB : B ≤ w1.heap.size) (k : Turns w1 w2 F) (hF : ∀ k, F k → B ≤ k) : Below B w w2 :=
  h.trans ⟨k.os, k.tape, k.output, k.kept.1, fun i hi => k.kept.2 i (by omega) (fun hf => by have := hF i hf; omega)⟩
theorem add_row (g j : Nat) : (⟨g, 0, none⟩ : Addr).add j = ⟨g, j, none⟩ := by unfold Addr.add; split <;> simp_all

theorem size_setCell (w : World) (a : Addr) (v : Value) : (w.setCell a v).heap.size = w.heap.size := by simp [World.setCell]
theorem blk_dr {w : World} {g : Nat} {o : Obj} (h : w.heap[g]? = some o) (n : Nat) : (w.drewN n).heap[g]? = some o := h
theorem set_same {α : Type} (l : List α) (i : Nat) (x : α) (h : l[i]? = some x) : l.set i x = l := by
  obtain ⟨hi, rfl⟩ := List.getElem?_eq_some_iff.mp h
  exact List.set_getElem_self hi
/-! A row of slots: x, gen, taken. -/
def slotCells {α : Type} (enc : α → Value) (l : List (α × Int × Bool)) : List Value := l.flatMap (fun s => [enc s.1, .int .i64 s.2.1, .bool s.2.2])
section
variable {α : Type} {enc : α → Value}
theorem slotCells_length (l : List (α × Int × Bool)) : (slotCells enc l).length = l.length * 3 := by
  induction l with
  | nil => rfl
  | cons s l ih => simp only [slotCells, List.flatMap_cons, List.length_append, List.length_cons, List.length_nil] at ih ⊢; omega
theorem slotCells_get (l : List (α × Int × Bool)) (j : Nat) (s : α × Int × Bool) (h : l[j]? = some s) :
    (slotCells enc l)[j * 3]? = some (enc s.1) ∧ (slotCells enc l)[j * 3 + 1]? = some (.int .i64 s.2.1) ∧ (slotCells enc l)[j * 3 + 2]? = some (.bool s.2.2) := by
  induction l generalizing j with
  | nil => simp at h
  | cons t l ih =>
    cases j with
    | zero =>
      simp at h
      subst h
      simp [slotCells]
    | succ j =>
      have h2 := ih j (by simpa using h)
      have e : slotCells enc (t :: l) = enc t.1 :: .int .i64 t.2.1 :: .bool t.2.2 :: slotCells enc l := by simp [slotCells]
      rw [e, show (j + 1) * 3 = j * 3 + 1 + 1 + 1 from by omega]
      simpa using h2
theorem slotCells_set (l : List (α × Int × Bool)) (j : Nat) (x : α) (g : Int) (t : Bool) (h : j < l.length) :
    (((slotCells enc l).set (j * 3) (enc x)).set (j * 3 + 1) (.int .i64 g)).set (j * 3 + 2) (.bool t) = slotCells enc (l.set j (x, g, t)) := by
  induction l generalizing j with
  | nil => simp at h
  | cons s l ih =>
    have e : ∀ (s : α × Int × Bool) l, slotCells enc (s :: l) = enc s.1 :: .int .i64 s.2.1 :: .bool s.2.2 :: slotCells enc l := fun s l => by simp [slotCells]
    cases j with
    | zero => rw [List.set_cons_zero, e, e]; rfl
    | succ j =>
      rw [List.set_cons_succ, e, e, show (j + 1) * 3 = j * 3 + 1 + 1 + 1 from by omega, show j * 3 + 1 + 1 + 1 + 1 = (j * 3 + 1) + 1 + 1 + 1 from rfl, show j * 3 + 1 + 1 + 1 + 2 = (j * 3 + 2) + 1 + 1 + 1 from by omega]
      simp only [List.set_cons_succ]
      rw [ih j (by simpa using h)]
end
/-- What a table holds: its slots, those that became free (the last one last), how many were taken ever, how many are taken. -/
structure Tb (α : Type) where
  l : List (α × Int × Bool)
  free : List Int
  next : Nat
  many : Int
end Go.Proofs.Ytgjcbpeliimhaaa.PSl
