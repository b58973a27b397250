/- cmp.Compare and appo.Largest's closure, walked; and slices.stableCmpFunc at one block. -/
import Derived.Test.YtimabnjdgdcmaaaSrIns
namespace Go.Proofs.Ytimabnjdgdcmaaa.PApp
open Go Go.Proofs Go.Shelf Go.RowKit Go.Lib Go.Sort Go.Proofs.YtimabnjdgdcmaaaW.PrintWords Go.Proofs.YtimabnjdgdcmaaaW.PrintLast Go.Proofs.YtimabnjdgdcmaaaW.PrintMore
set_option linter.unusedVariables false
set_option linter.unusedSimpArgs false
def cmpI (x y : Int) : Int := if x < y then -1 else if y < x then 1 else 0
theorem nan60 (x : Int) (w : World) : Calls Try.prog 60 #[.int .i64 x] w fun e w' => e = .returned (.bool false) ∧ w' = w := by
  go_enter Try.func60, Try.ntmps60
  go_wp2
  go_ret
  first | exact ⟨rfl, rfl⟩ | (constructor <;> simp)
theorem cmp56 (x y : Int) (w : World) : Calls Try.prog 56 #[.int .i64 x, .int .i64 y] w fun e w' => e = .returned (.int .i64 (cmpI x y)) ∧ w' = w := by
  unfold cmpI
  by_cases h : x < y
  · rw [if_pos h]
    have d := decide_eq_true h
    go_enter Try.func56, Try.ntmps56
    go_wp2_with (go_at_call 60; (with_reducible refine (nan60 _ _).mono ?_); rintro e w2 ⟨rfl, rfl⟩)
    go_ret
    exact ⟨rfl, rfl⟩
  · rw [if_neg h]
    have d := decide_eq_false h
    by_cases h2 : y < x
    · rw [if_pos h2]
      have d2 := decide_eq_true h2
      go_enter Try.func56, Try.ntmps56
      go_wp2_with (go_at_call 60; (with_reducible refine (nan60 _ _).mono ?_); rintro e w2 ⟨rfl, rfl⟩)
      go_ret
      exact ⟨rfl, rfl⟩
    · rw [if_neg h2]
      have d2 := decide_eq_false h2
      go_enter Try.func56, Try.ntmps56
      go_wp2_with (go_at_call 60; (with_reducible refine (nan60 _ _).mono ?_); rintro e w2 ⟨rfl, rfl⟩)
      go_ret
      exact ⟨rfl, rfl⟩
theorem cmp56q (x y : Int) (w : World) : Calls Try.prog 56 #[.int .i64 x, .int .i64 y] w fun e w' => e = .returned (.int .i64 (cmpI x y)) ∧ ∃ q, w' = w.drewN q := (cmp56 x y w).mono (fun _ _ h => ⟨h.1, 0, h.2⟩)
/-- What the closure reads: the box, and the rests. -/
structure Rests (w : World) (RB RS c : Nat) (rs : List Int) : Prop where
  box : w.cell? ⟨RB, 0, none⟩ = some (.slice (some ⟨RS, 0, none⟩) rs.length c)
  at_ : ∀ i, i < rs.length → w.cell? ⟨RS, i, none⟩ = some (.int .i64 (rs.getD i 0))
theorem clo55 (RB RS c : Nat) (rs : List Int) (i j : Nat) (hi : i < rs.length) (hj : j < rs.length) (w : World) (h : Rests w RB RS c rs) :
    Calls Try.prog 55 #[.int .i64 (i : Int), .int .i64 (j : Int), .pointer (some ⟨RB, 0, none⟩)] w fun e w' => e = .returned (.int .i64 (cmpI (rs.getD j 0) (rs.getD i 0))) ∧ ∃ q, w' = w.drewN q := by
  have hb := h.box
  have ci := h.at_ i hi
  have cj := h.at_ j hj
  generalize rs.getD i 0 = x at ci ⊢
  generalize rs.getD j 0 = y at cj ⊢
  have zi : (i : Int) < (rs.length : Int) := by omega
  have zj : (j : Int) < (rs.length : Int) := by omega
  clear h
  go_enter Try.func55, Try.ntmps55
  go_wp2_with fail
  go_quiet (first | (go_at_call 56; refine Calls.quiet_of (cmp56q _ _ _)))
  go_wp2
  go_ret
  exact ⟨rfl, _, rfl⟩
/-! ### the members of an order: numbers below n -/
def encF {n : Nat} (x : Fin n) : Value := .int .i64 (x.val : Int)
theorem oneF {n : Nat} : OneCell (encF (n := n)) := fun _ => rfl
def cfF (rs : List Int) (x y : Fin rs.length) : Int := cmpI (rs.getD y.val 0) (rs.getD x.val 0)
theorem rests_put {w : World} {RB RS c blk off m : Nat} {rs : List Int} [Inhabited (Fin rs.length)] (h : Rests w RB RS c rs) (h1 : RB ≠ blk) (h2 : RS ≠ blk) (d : Array (Fin rs.length)) : Rests (sortWorld encF w blk off m d #[]) RB RS c rs := by
  rw [sortWorld_none]
  refine ⟨?_, fun i hi => ?_⟩
  · show (putRow encF w blk off d).cell? _ = _
    rw [cell?_putRow_other _ _ _ _ _ _ (Or.inl h1)]; exact h.box
  · show (putRow encF w blk off d).cell? _ = _
    rw [cell?_putRow_other _ _ _ _ _ _ (Or.inl h2)]; exact h.at_ i hi
theorem grow_far {w : World} {RB RS c : Nat} {rs : List Int} (h : Rests w RB RS c rs) (hb : RB < w.heap.size) (hs : ∀ i, i < rs.length → RS < w.heap.size) (os : Array Obj) : Rests (grow w os) RB RS c rs :=
  ⟨by rw [cell?_grow _ _ _ hb]; exact h.box, fun i hi => by rw [cell?_grow _ _ _ (hs i hi)]; exact h.at_ i hi⟩
theorem reads55 {w : World} {RB RS c blk off : Nat} {rs : List Int} [Inhabited (Fin rs.length)] (h : Rests w RB RS c rs) (h1 : RB ≠ blk) (h2 : RS ≠ blk) : CmpReads Try.prog 55 #[.pointer (some ⟨RB, 0, none⟩)] encF (cfF rs) blk off rs.length w := by
  intro m os dk hs x y
  have hR : Rests (sortWorld encF w blk off m dk os) RB RS c rs := by
    have h0 := rests_put (off := off) (m := m) h h1 h2 dk
    have e : sortWorld encF w blk off m dk os = grow (sortWorld encF w blk off m dk #[]) os := by unfold sortWorld; rw [grow_empty]
    rw [e]
    exact grow_far h0 (World.block_lt_of_cell? _ _ h0.box) (fun i hi => World.block_lt_of_cell? _ _ (h0.at_ i hi)) os
  exact clo55 RB RS c rs x.val y.val x.isLt y.isLt _ hR
set_option maxHeartbeats 4000000 in
set_option maxRecDepth 1000000 in
theorem stable59 {α : Type} [Inhabited α] (enc : α → Value) (hO : OneCell enc) (cf : α → α → Int) (g : Nat) (cb : Array Value) (blk off cap : Nat) (d : Array α) (w : World)
    (eg : ∀ args w, (callFunc g args).run Try.prog w = .ok (.enter g args) w) (hcmp : CmpReads Try.prog g cb enc cf blk off d.size w) (hH : Holds enc w blk off d) (hs : d.size < 20) :
    Calls Try.prog 59 #[.slice (some ⟨blk, off, none⟩) d.size cap, .int .i64 d.size, .func (.func g) #[] cb] w fun e w' =>
      e = .returned (.tuple #[]) ∧ ∃ n, w' = (putRow enc w blk off (Sort.insertionSort (ltOf cf) d 0 d.size)).drewN n := by
  have hc := ins62 enc hO cf g cb blk off cap 0 d.size d w eg hcmp hH (Nat.zero_le _) (Nat.le_refl _) (by omega)
  have HC := Aside0.mk hc
  clear hcmp hH hc
  have d1 : decide ((20 : Int) ≤ (d.size : Int)) = false := decide_eq_false (by omega)
  have d2 : decide ((20 : Int) < (d.size : Int)) = false := decide_eq_false (by omega)
  go_enter Try.func59, Try.ntmps59
  go_wp2
  refine wp_loop_rounds 1 ?_
  rw [rounds_succ]
  go_wp2_with (go_at_call 62; refine HC.out.mono ?_; rintro e w1 ⟨rfl, n, rfl⟩)
  refine wp_loop_rounds 1 ?_
  rw [rounds_succ]
  go_wp2
  go_end0
  exact ⟨rfl, n, rfl⟩
set_option maxHeartbeats 4000000 in
theorem sort54 {α : Type} [Inhabited α] (enc : α → Value) (hO : OneCell enc) (cf : α → α → Int) (g : Nat) (cb : Array Value) (blk off cap : Nat) (d : Array α) (w : World)
    (eg : ∀ args w, (callFunc g args).run Try.prog w = .ok (.enter g args) w) (hcmp : CmpReads Try.prog g cb enc cf blk off d.size w) (hH : Holds enc w blk off d) (hs : d.size < 20) :
    Calls Try.prog 54 #[.slice (some ⟨blk, off, none⟩) d.size cap, .func (.func g) #[] cb] w fun e w' =>
      e = .returned (.tuple #[]) ∧ ∃ n, w' = (putRow enc w blk off (Sort.insertionSort (ltOf cf) d 0 d.size)).drewN n := by
  have HC := Aside0.mk (stable59 enc hO cf g cb blk off cap d w eg hcmp hH hs)
  clear hcmp hH hs
  go_enter Try.func54, Try.ntmps54
  go_wp2_with (go_at_call 59; refine HC.out.mono ?_; rintro e w1 ⟨rfl, n, rfl⟩)
  go_end0
  exact ⟨rfl, n, rfl⟩
theorem enters55 : ∀ args w, (callFunc 55 args).run Try.prog w = .ok (.enter 55 args) w := enters_of Try.func55 (by kernel_rfl) rfl
end Go.Proofs.Ytimabnjdgdcmaaa.PApp
