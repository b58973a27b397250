/- octet's reader, walked by hand: each method by what it does to the bytes that are left and to the first error. -/
import Derived.Test.YtgfkcmmhnibaiaaPRwx6
import Derived.Test.YtgfkcmmhnibaiaaRwClone
namespace Go.Proofs.Ytgfkcmmhnibaiaa.PRw
open Go.RowKit Go.Proofs.YtgfkcmmhnibaiaaW.PrintWords Go.Proofs.YtgfkcmmhnibaiaaW.PrintLast Go.Proofs.YtgfkcmmhnibaiaaW.PrintMore
set_option linter.unusedVariables false
set_option linter.unusedSimpArgs false

/-- A reader at block g: the bytes that are left, and the first error. -/
def Rdr (w : World) (g : Nat) (l : List Int) (er : Int) : Prop :=
  ∃ A c, w.heap[g]? = some (.cells #[.slice A l.length c, .int .i64 er] 109 (0, 0)) ∧ l.length ≤ c ∧ Kd.C (Kd.int .u8) w A l.length l ∧ ∀ ad, A = some ad → ad.block ≠ g ∧ ∃ cs, w.heap[ad.block]? = some (.cells cs 5 (0, 0))

theorem grown_set (w : World) (g i : Nat) (u : Value) : w.grownBy (w.setCell ⟨g, i, none⟩ u) (some g) :=
  ⟨rfl, rfl, rfl, by simp [World.setCell], fun k _ hk => Below.heap_setCell w ⟨g, i, none⟩ u k (fun e => hk (by rw [e]))⟩
theorem grown_drewN {w w' : World} {row : Option Nat} (h : w.grownBy w' row) (n : Nat) : w.grownBy (w'.drewN n) row := ⟨h.os, h.tape, h.output, h.size, h.block⟩
theorem grown_trans {a b c : World} {row : Option Nat} (h : a.grownBy b row) (k : b.grownBy c row) : a.grownBy c row :=
  ⟨k.os.trans h.os, k.tape.trans h.tape, k.output.trans h.output, Nat.le_trans h.size k.size, fun i hi hr => (k.block i (Nat.lt_of_lt_of_le hi h.size) hr).trans (h.block i hi hr)⟩
theorem C_grown {k : IntKind} {w w' : World} {A : Option Addr} {n g : Nat} {l : List Int} (h : Kd.C (Kd.int k) w A n l) (hg : w.grownBy w' (some g)) (hne : ∀ ad, A = some ad → ad.block ≠ g) : Kd.C (Kd.int k) w' A n l :=
  ⟨h.1, h.2.1, fun hn => by
    obtain ⟨ad, e, hc⟩ := h.2.2 hn
    refine ⟨ad, e, fun j p hj => ?_⟩
    obtain ⟨c, hs, hr, hcell⟩ := hc j p hj
    refine ⟨c, hs, hr, fun i u hu => hg.cell (hcell i u hu) ?_⟩
    rw [add_block]
    intro he
    exact hne ad e (Option.some.inj he)⟩
theorem Rdr.lt {w : World} {g : Nat} {l : List Int} {er : Int} (h : Rdr w g l er) : g < w.heap.size := by
  obtain ⟨A, c, hb, _⟩ := h
  exact blk_lt hb
theorem Rdr.below {w w' : World} {g : Nat} {l : List Int} {er : Int} (h : Rdr w g l er) (hb : Below w.heap.size w w') : Rdr w' g l er := by
  obtain ⟨A, c, h1, h2, h3, h4⟩ := h
  refine ⟨A, c, blk_below h1 hb, h2, Kd.C_below h3 hb, fun ad e => ⟨(h4 ad e).1, ?_⟩⟩
  obtain ⟨cs, hc⟩ := (h4 ad e).2
  exact ⟨cs, blk_below hc hb⟩

theorem err_of (g : Nat) (l : List Int) (er : Int) (w : World) (h : Rdr w g l er) :
    Calls Try.prog 66 #[.pointer (some ⟨g, 0, none⟩)] w fun e w' => e = .returned (.int .i64 er) ∧ w = w' := by
  obtain ⟨A, c, h1, _⟩ := h
  have k1 : w.cell? ⟨g, 1, none⟩ = some (.int .i64 er) := (blk_cell h1 1).trans rfl
  clear h1
  go_enter Try.func66, Try.ntmps66
  go_wp2
  go_ret
  exact ⟨rfl, rfl⟩
theorem err_nil (w : World) : Calls Try.prog 66 #[.pointer none] w fun e w' => e = .returned (.int .i64 2) ∧ w = w' := by
  go_enter Try.func66, Try.ntmps66
  go_wp2
  go_ret
  exact ⟨rfl, rfl⟩
theorem left_of (g : Nat) (l : List Int) (er : Int) (w : World) (h : Rdr w g l er) :
    Calls Try.prog 73 #[.pointer (some ⟨g, 0, none⟩)] w fun e w' => e = .returned (.int .i64 (l.length : Int)) ∧ w = w' := by
  obtain ⟨A, c, h1, _⟩ := h
  have k0 : w.cell? ⟨g, 0, none⟩ = some (.slice A l.length c) := (blk_cell h1 0).trans rfl
  clear h1
  go_enter Try.func73, Try.ntmps73
  go_wp2
  go_ret
  exact ⟨rfl, rfl⟩
theorem left_nil (w : World) : Calls Try.prog 73 #[.pointer none] w fun e w' => e = .returned (.int .i64 0) ∧ w = w' := by
  go_enter Try.func73, Try.ntmps73
  go_wp2
  go_ret
  exact ⟨rfl, rfl⟩
theorem fail_of (g : Nat) (l : List Int) (er e1 : Int) (w : World) (h : Rdr w g l er) :
    Calls Try.prog 72 #[.pointer (some ⟨g, 0, none⟩), .int .i64 e1] w fun e w' => e = .returned (.tuple #[]) ∧ Rdr w' g [] e1 ∧ w.grownBy w' (some g) := by
  obtain ⟨A, c, h1, _⟩ := h
  have H1 := Aside0.mk h1
  have k0 : w.cell? ⟨g, 0, none⟩ = some (.slice A l.length c) := (blk_cell h1 0).trans rfl
  have k1 : w.cell? ⟨g, 1, none⟩ = some (.int .i64 er) := (blk_cell h1 1).trans rfl
  have f0 := blk_frozen h1 0
  have f1 := blk_frozen h1 1
  clear h1
  go_enter Try.func72, Try.ntmps72
  go_wp2
  go_end0
  refine ⟨rfl, ⟨none, 0, ?_, Nat.le_refl _, ?_, fun ad e => by cases e⟩, grown_trans (grown_set _ _ _ _) (grown_set _ _ _ _)⟩
  · exact blk_put (cs := #[.slice none 0 0, .int .i64 er]) (blk_put (cs := #[.slice A l.length c, .int .i64 er]) H1.out 0 _ rfl) 1 _ rfl
  · exact ⟨rfl, by simp, fun h => absurd h (by simp)⟩
end Go.Proofs.Ytgfkcmmhnibaiaa.PRw
