/- State behind a pointer: what a call on it leaves alone. -/
import Derived.Test.YtpammdblenfhgaaProg
import Derived.Test.YtpammdblenfhgaaWLast
import Derived.Test.YtpammdblenfhgaaWMore
import Derived.Test.YtpammdblenfhgaaWKept
import Derived.StillTailTactics
namespace Go.Proofs.Ytpammdblenfhgaa.Pt
open Go.RowKit Go.Proofs.YtpammdblenfhgaaW.PrintWords Go.Proofs.YtpammdblenfhgaaW.PrintLast Go.Proofs.YtpammdblenfhgaaW.PrintMore
set_option linter.unusedVariables false
set_option linter.unusedSimpArgs false
/-- All but the blocks of F (and what is new) is as it was. -/
structure Turns (w w' : World) (F : Nat → Prop) : Prop where
  os : w'.os = w.os
  tape : w'.tape = w.tape
  output : w'.output = w.output
  kept : Kept w w' F
theorem Turns.refl (w : World) (F : Nat → Prop) : Turns w w F := ⟨rfl, rfl, rfl, Kept.refl _ _⟩
theorem Turns.size {w w' : World} {F : Nat → Prop} (h : Turns w w' F) : w.heap.size ≤ w'.heap.size := h.kept.1
theorem Turns.set {w w' : World} {F : Nat → Prop} (h : Turns w w' F) {p : Addr} (hp : F p.block ∨ w.heap.size ≤ p.block) (u : Value) : Turns w (w'.setCell p u) F :=
  ⟨h.os, h.tape, h.output, h.kept.setCell hp u⟩
theorem Turns.alloc {w w' : World} {F : Nat → Prop} (h : Turns w w' F) (o : Obj) : Turns w (w'.alloc o) F := ⟨h.os, h.tape, h.output, h.kept.alloc o⟩
theorem Turns.drew {w w' : World} {F : Nat → Prop} (h : Turns w w' F) : Turns w w'.drew F := ⟨h.os, h.tape, h.output, h.kept.drew⟩
theorem Turns.drewN {w w' : World} {F : Nat → Prop} (h : Turns w w' F) (n : Nat) : Turns w (w'.drewN n) F := ⟨h.os, h.tape, h.output, h.kept.drewN n⟩
theorem Turns.grown {w w' w2 : World} {F : Nat → Prop} {row : Option Nat} (h : Turns w w' F) (hg : w'.grownBy w2 row) (hr : ∀ k, row = some k → F k ∨ w.heap.size ≤ k) : Turns w w2 F :=
  ⟨hg.os.trans h.os, hg.tape.trans h.tape, hg.output.trans h.output, Kept.of_grown hg h.kept hr⟩
theorem Turns.trans {w w1 w2 : World} {F F2 : Nat → Prop} (h : Turns w w1 F) (k : Turns w1 w2 F2) (hs : ∀ k, F2 k → F k ∨ w.heap.size ≤ k) : Turns w w2 F :=
  ⟨k.os.trans h.os, k.tape.trans h.tape, k.output.trans h.output, h.kept.then_ k.kept hs⟩
theorem Turns.below {w w1 w2 : World} {F : Nat → Prop} (h : Turns w w1 F) (k : Below w1.heap.size w1 w2) : Turns w w2 F :=
  ⟨k.os.trans h.os, k.tape.trans h.tape, k.output.trans h.output, h.kept.below k⟩
/-- What turns blocks from the call's own alone. -/
theorem Turns.to_below {B : Nat} {w w1 w2 : World} {F : Nat → Prop} (h : Below B w w1) (hB : B ≤ w1.heap.size) (k : Turns w1 w2 F) (hF : ∀ k, F k → B ≤ k) : Below B w w2 :=
  h.trans ⟨k.os, k.tape, k.output, k.kept.1, fun i hi => k.kept.2 i (by omega) (fun hf => by have := hF i hf; omega)⟩
theorem add_row (g j : Nat) : (⟨g, 0, none⟩ : Addr).add j = ⟨g, j, none⟩ := by unfold Addr.add; split <;> simp_all

theorem size_setCell (w : World) (a : Addr) (v : Value) : (w.setCell a v).heap.size = w.heap.size := by simp [World.setCell]
theorem blk_dr {w : World} {g : Nat} {o : Obj} (h : w.heap[g]? = some o) (n : Nat) : (w.drewN n).heap[g]? = some o := h
theorem set_same {α : Type} (l : List α) (i : Nat) (x : α) (h : l[i]? = some x) : l.set i x = l := by
  obtain ⟨hi, rfl⟩ := List.getElem?_eq_some_iff.mp h
  exact List.set_getElem_self hi
/-- A region whose order is open: reads, then what turns memory. -/
theorem still_tail {P : Program} {id : Nat} {Q : Exit → Act → World → Prop} {a : Act} {w : World} {l : List Oper} (n : Nat) (hm : P.follows .mixedOrders = true) (hB : Region.lexTailB .any l.toArray n = true)
    (h : wpStill P l.toArray w.drew (fun a' => wpList P l.toArray Q (l.drop n) a' w.drew) (l.take n) a) : (Code.region id l.toArray true).wp P Q a w := wp_region_still_tail n hm hB h
end Go.Proofs.Ytpammdblenfhgaa.Pt
