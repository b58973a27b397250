/- slots.Table (string), walked by hand: each call by what it does to the slots, the free ones, and the counts. -/
import Derived.Test.YtgjcbpeliimhaaaSlLib
namespace Go.Proofs.Ytgjcbpeliimhaaa.PSl.S
open Go.RowKit Go.Proofs.YtgjcbpeliimhaaaW.PrintWords Go.Proofs.YtgjcbpeliimhaaaW.PrintLast Go.Proofs.YtgjcbpeliimhaaaW.PrintMore
set_option linter.unusedVariables false
set_option linter.unusedSimpArgs false
abbrev El := ByteArray
abbrev enc : El → Value := Value.string
structure RepA (w : World) (F : Nat → Prop) (g a : Nat) (v : Value) (s : Tb El) : Prop where
  fg : F g
  fa : F a
  ne : g ≠ a
  hd : w.heap[g]? = some (.cells #[.slice (some ⟨a, 0, none⟩) s.l.length s.l.length, v, .int .i64 (s.next : Int), .int .i64 s.many] 135 (0, 0))
  sl : w.heap[a]? = some (.cells (slotCells enc s.l).toArray 138 (0, 0))
  fr : Kd.R (Kd.int .i64) 3 w 0 (fun k => F k ∧ k ≠ g ∧ k ≠ a) v s.free
  pos : 0 < s.l.length
  le : s.l.length ≤ 1024
  nx : s.next ≤ s.l.length
  fin : ∀ x ∈ s.free, 1 ≤ x ∧ x ≤ (s.l.length : Int)
/-- A table at block g, its blocks in F. -/
def Rep (w : World) (F : Nat → Prop) (g : Nat) (s : Tb El) : Prop := ∃ a v, RepA w F g a v s
theorem RepA.turns {w w' : World} {F G : Nat → Prop} {g a : Nat} {v : Value} {s : Tb El} (h : RepA w F g a v s) (k : Kept w w' G) (hd : ∀ k, F k → ¬ G k) : RepA w' F g a v s :=
  ⟨h.fg, h.fa, h.ne, blk_kept h.hd k (hd _ h.fg), blk_kept h.sl k (hd _ h.fa), Kd.R_kept h.fr k (fun k hk => hd k hk.1), h.pos, h.le, h.nx, h.fin⟩
theorem Rep.turns {w w' : World} {F G : Nat → Prop} {g : Nat} {s : Tb El} (h : Rep w F g s) (k : Kept w w' G) (hd : ∀ k, F k → ¬ G k) : Rep w' F g s := by
  obtain ⟨a, v, h⟩ := h
  exact ⟨a, v, h.turns k hd⟩
theorem Rep.below {w w' : World} {F : Nat → Prop} {g : Nat} {s : Tb El} (h : Rep w F g s) (k : Below w.heap.size w w') : Rep w' F g s :=
  h.turns (G := fun _ => False) (Kept.of_below k _) (fun _ _ => id)
theorem Rep.drewN {w : World} {F : Nat → Prop} {g : Nat} {s : Tb El} (h : Rep w F g s) (n : Nat) : Rep (w.drewN n) F g s :=
  h.below (pw_below_drewN (Below.refl _ _) n)

theorem none_some {w : World} {F : Nat → Prop} {g a : Nat} {v : Value} {s : Tb El} (h : RepA w F g a v s) :
    Calls Try.prog 73 #[.pointer (some ⟨g, 0, none⟩)] w fun e w' => e = .returned (.bool false) ∧ w = w' := by
  have k0 : w.cell? ⟨g, 0, none⟩ = some (.slice (some ⟨a, 0, none⟩) s.l.length s.l.length) := (blk_cell h.hd 0).trans rfl
  have d1 : (((s.l.length : Nat) : Int) == 0) = false := beq_eq_false_iff_ne.mpr (by have := h.pos; omega)
  clear h
  generalize s.l.length = n at *
  go_enter Try.func73, Try.ntmps73
  go_wp2
  go_ret
  exact ⟨rfl, rfl⟩
theorem none_nil (w : World) : Calls Try.prog 73 #[.pointer none] w fun e w' => e = .returned (.bool true) ∧ w = w' := by
  go_enter Try.func73, Try.ntmps73
  go_wp2
  go_ret
  exact ⟨rfl, rfl⟩
/-- Is a slot taken? -/
def has (s : Tb El) (id : Int) : Bool := decide (1 ≤ id) && decide (id ≤ s.l.length) && ((s.l[(id - 1).toNat]?).map (·.2.2)).getD false
theorem at_yes {w : World} {F : Nat → Prop} {g a : Nat} {v : Value} {s : Tb El} (h : RepA w F g a v s) (j : Nat) (x : El) (gen : Int) (hj : s.l[j]? = some (x, gen, true)) :
    Calls Try.prog 74 #[.pointer (some ⟨g, 0, none⟩), .int .i64 ((j : Int) + 1)] w fun e w' => e = .returned (.tuple #[.pointer (some ⟨a, j * 3, none⟩), .bool true]) ∧ w = w' := by
  have k0 : w.cell? ⟨g, 0, none⟩ = some (.slice (some ⟨a, 0, none⟩) s.l.length s.l.length) := (blk_cell h.hd 0).trans rfl
  have k1 : w.cell? ⟨a, j * 3 + 2, none⟩ = some (.bool true) := by
    rw [blk_cell h.sl (j * 3 + 2), List.getElem?_toArray, (slotCells_get (enc := enc) s.l j _ hj).2.2]
  have hn : s.l.length ≤ 1024 := h.le
  have hjn : j < s.l.length := (List.getElem?_eq_some_iff.mp hj).1
  have H := Aside0.mk h
  clear h hj
  have d1 : decide ((s.l.length : Int) < (j : Int) + 1) = false := decide_eq_false (by omega)
  have d2 : decide ((j : Int) + 1 < 1) = false := decide_eq_false (by omega)
  have p0 := eq_true (show (0 : Int) ≤ (j : Int) by omega)
  have q0 := eq_true (show (j : Int) < (s.l.length : Int) by omega)
  have ew : wrap64 (j : Int) = (j : Int) := by unfold wrap64; omega
  clear hn hjn
  generalize hn : s.l.length = n at *
  clear hn
  go_enter Try.func74, Try.ntmps74
  go_wp2_with (go_at_call 73; (with_reducible refine (none_some H.out).mono ?_); rintro e w' ⟨rfl, rfl⟩)
  go_ret2
  exact ⟨rfl, rfl⟩
end Go.Proofs.Ytgjcbpeliimhaaa.PSl.S
