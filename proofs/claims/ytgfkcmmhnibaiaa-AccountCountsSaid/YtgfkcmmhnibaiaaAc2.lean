/- account.Account, walked by hand: a frame is over. -/
import Derived.Test.YtgfkcmmhnibaiaaAc1
namespace Go.Proofs.Ytgfkcmmhnibaiaa.Ac
open Go.RowKit Go.Proofs.YtgfkcmmhnibaiaaW.PrintWords Go.Proofs.YtgfkcmmhnibaiaaW.PrintLast Go.Proofs.YtgfkcmmhnibaiaaW.PrintMore Pt
set_option linter.unusedVariables false
set_option linter.unusedSimpArgs false
def turnT (t : Tk) : Tk := { t with last := t.now, now := 0 }
/-- The frame is over for those below n. -/
def overN (n : Int) (M : Int → Option Tk) : Int → Option Tk := fun x => if x < n then (M x).map turnT else M x
theorem overN_none {n : Int} {M : Int → Option Tk} (h : M n = none) : overN (n + 1) M = overN n M := by
  funext x
  unfold overN
  by_cases h1 : x < n
  · rw [if_pos h1, if_pos (by omega)]
  · rw [if_neg h1]
    by_cases h2 : x < n + 1
    · obtain rfl : x = n := by omega
      rw [if_pos h2, h]
      rfl
    · rw [if_neg h2]
theorem overN_some {n : Int} {M : Int → Option Tk} {t : Tk} (h : M n = some t) : overN (n + 1) M = upd (overN n M) n (some (turnT t)) := by
  funext x
  unfold upd overN
  by_cases h0 : x = n
  · subst h0
    rw [if_pos (by omega), if_pos rfl, h]
    rfl
  · rw [if_neg h0]
    by_cases h1 : x < n
    · rw [if_pos h1, if_pos (by omega)]
    · rw [if_neg h1, if_neg (by omega)]
theorem overN_at {n : Int} {M : Int → Option Tk} : overN n M n = M n := by unfold overN; rw [if_neg (by omega)]
theorem overN_zero {M : Int → Option Tk} (h : ∀ x, M x ≠ none → 0 ≤ x ∧ x < 1024) : overN 0 M = M := by
  funext x
  unfold overN
  by_cases h1 : x < 0
  · rw [if_pos h1]
    cases hm : M x with
    | none => rfl
    | some t => exact absurd (h x (by rw [hm]; simp)).1 (by omega)
  · rw [if_neg h1]
section
variable {w : World} {F : Nat → Prop} {g m : Nat} {s : Ac}
theorem RepA.lt (h : RepA w F g m s) : g ≠ w.heap.size ∧ w.heap.size ≠ g := by
  have := blk_lt h.hd
  constructor <;> omega
set_option maxHeartbeats 2000000 in
set_option maxRecDepth 100000 in
theorem over_calls (h : Rep w F g s) : Calls Try.prog 59 #[.pointer (some ⟨g, 0, none⟩)] w fun e w' => e = .returned (.tuple #[]) ∧ Rep w' F g { s with M := overN 201 s.M } ∧ Turns w w' F := by
  obtain ⟨m, h⟩ := h
  have H : Aside0 (RepA w F g m { s with M := overN ((0 : Nat) : Int) s.M }) := ⟨by
    rw [show ((0 : Nat) : Int) = 0 from rfl, overN_zero h.mp.dom]
    exact h⟩
  clear h
  go_enter Try.func59, Try.ntmps59
  go_wp2
  go_loopg [5] 202 (fun kq v5 w' => ∃ i : Nat, v5 = .int .i64 (i : Int) ∧ Aside0 (i + kq = 202) ∧ Aside0 (i ≤ 201) ∧ Aside0 (RepA w' F g m { s with M := overN (i : Int) s.M }) ∧ Aside0 (Turns w w' F))
  case atStart => exact ⟨0, rfl, ⟨by omega⟩, ⟨by omega⟩, H, ⟨Turns.refl _ _⟩⟩
  case round =>
    clear H
    obtain ⟨i, rfl, HK, HI, H, HT⟩ := hrel
    cases gk with
    | zero => exact absurd HK.out (by have := HI.out; omega)
    | succ k1 =>
      by_cases cc : i < 201
      · have d1 : decide ((i : Int) < 201) = true := decide_eq_true (by omega)
        have d2 : decide (i < 201) = true := decide_eq_true cc
        have HC := Aside0.mk cc
        have k2 : wr.cell? ⟨g, 2, none⟩ = some (.map (some m)) := (blk_cell H.out.hd 2).trans rfl
        have k3 : ∀ o, (wr.alloc o).cell? ⟨g, 2, none⟩ = some (.map (some m)) := fun o => pw_cell_below (below_alloc (Below.refl _ _) o) k2
        have HB := Aside0.mk (isInt_small (x := (i : Int)) (by omega) (by omega))
        have H0 := Aside0.mk (show 0 ≤ (i : Int) by omega)
        have H1 := Aside0.mk (show (i : Int) < 1024 by omega)
        obtain ⟨n1, n2⟩ := H.out.lt
        clear cc
        cases hM : s.M (i : Int) with
        | none =>
          have HM := Aside0.mk (show overN (i : Int) s.M (i : Int) = none by rw [overN_at]; exact hM)
          have HE := Aside0.mk (overN_none hM)
          clear hM
          go_wp2_with (at_lookup; refine at_look_ok_none _ rfl _ _ 58 rfl 3 49 Try.underlying3 Try.underlying58 _ (zero49 _) encT m _ H.out.mp rfl (i : Int) rfl HB.out HM.out ?_)
          go_roundg k1
          case measure => omega
          case rel => exact ⟨i + 1, (by congr 1; unfold wrap64; have := HC.out; omega), ⟨by have := HK.out; omega⟩, ⟨by have := HC.out; omega⟩, ⟨by
            rw [show ((i + 1 : Nat) : Int) = (i : Int) + 1 by omega, HE.out]
            exact H.out.turns (G := fun _ => False) (Kept.of_below (below_alloc (Below.refl _ _) _) _) (fun _ _ => id)⟩, ⟨HT.out.alloc _⟩⟩
        | some t =>
          have HM := Aside0.mk (show overN (i : Int) s.M (i : Int) = some t by rw [overN_at]; exact hM)
          have HE := Aside0.mk (overN_some hM)
          clear hM
          go_wp2_with (at_lookup; refine at_look_ok_some _ rfl _ _ 58 rfl 3 49 Try.underlying3 Try.underlying58 _ (zero49 _) encT m _ H.out.mp rfl (i : Int) rfl HB.out t HM.out (.agg #[.int .i64 t.ticks, .int .i64 t.last, .int .i64 t.now, .int .i64 t.changes, .int .i64 t.core]) rfl ?_)
          refine still_tail 6 (by kernel_rfl) (by kernel_rfl) ?_
          simp only [List.take_succ_cons, List.take_zero, List.drop_succ_cons, List.drop_zero]
          repeat still_step
          refine wpStill_nil ?_
          refine at_store _ rfl _ _ _ 58 rfl 3 49 Try.underlying3 Try.underlying58 encT m (overN (i : Int) s.M) ((H.out.mp.kept (Kept.of_below (below_alloc (Below.refl _ _) _) (fun _ => False)) id).same rfl) rfl (i : Int) rfl H0.out H1.out (turnT t) rfl ?_
          intro w1 hm1 hg1
          have HM1 := Aside0.mk hm1
          have HG1 := Aside0.mk hg1
          clear hm1 hg1
          go_wp2
          go_roundg k1
          case measure => omega
          case rel => exact ⟨i + 1, (by congr 1; unfold wrap64; have := HC.out; omega), ⟨by have := HK.out; omega⟩, ⟨by have := HC.out; omega⟩, ⟨by
            rw [show ((i + 1 : Nat) : Int) = (i : Int) + 1 by omega, HE.out]
            exact H.out.map HM1.out (Kept.of_grown HG1.out (((Kept.refl wr _).alloc _).drew) (fun k e => .inl (by cases e; rfl)))⟩, ⟨Turns.grown ((HT.out.alloc _).drew) HG1.out (fun k e => .inl (by cases e; exact H.out.fm))⟩⟩
      · have d1 : decide ((i : Int) < 201) = false := decide_eq_false (by omega)
        have d2 : decide (i < 201) = false := decide_eq_false cc
        obtain rfl : i = 201 := by have := HI.out; omega
        clear cc
        go_wp2
        go_end0
        exact ⟨rfl, ⟨m, H.out⟩, HT.out⟩
end
end Go.Proofs.Ytgfkcmmhnibaiaa.Ac
