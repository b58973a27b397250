/- dogwatchref09's Reader.Num: its contract in the printed form (the bytes that are left are the argument's, or none). -/
import Derived.Test.YtgfkcmmhnibaiaaRwRefNum
namespace Go.Proofs.Ytgfkcmmhnibaiaa.PRw
open Go.RowKit Go.Proofs.YtgfkcmmhnibaiaaW.PrintWords Go.Proofs.YtgfkcmmhnibaiaaW.PrintLast Go.Proofs.YtgfkcmmhnibaiaaW.PrintMore
set_option linter.unusedVariables false
set_option linter.unusedSimpArgs false
def dogwatchref09_Reader_Num.f (k : Nat) (l : List Int) (er limit : Int) : Option (List Int × Int × Int) := (refNum k l er limit).bind fun x => some (x.2.1, x.2.2, x.1)
theorem refNum_mono (l : List Int) (er limit : Int) (k : Nat) : LeO (refNum k l er limit) (refNum (k + 1) l er limit) := by
  unfold refNum
  refine LeO.ite ?_ (LeO.refl _)
  refine LeO.ite ?_ (LeO.refl _)
  refine LeO.ite (LeO.refl _) ?_
  refine LeO.bind (dogwatchref09_value.mono _ _) (fun _ => ?_)
  refine LeO.bind (dogwatchref09_Num.mono _ _) (fun _ => ?_)
  exact LeO.refl _
theorem dogwatchref09_Reader_Num.mono : ∀ a0 a1 a2 k, LeO (dogwatchref09_Reader_Num.f k a0 a1 a2) (dogwatchref09_Reader_Num.f (k + 1) a0 a1 a2) :=
  fun a0 a1 a2 k => LeO.bind (refNum_mono a0 a1 a2 k) (fun _ => LeO.refl _)
theorem F_cut {w : World} {ok : Nat → Prop} {A : Option Addr} {c : Nat} {l : List Int} (h : Kd.F (Kd.int .u8) w ok A l.length l) (m : Nat) (hm : m ≤ l.length) (hc : l.length ≤ c) :
    Kd.F (Kd.int .u8) w ok (if c = m then A else A.map (·.add m)) (l.drop m).length (l.drop m) := fun W' hW => cut_C (h W' hW) m hm hc
theorem F_none (w : World) (ok : Nat → Prop) (A : Option Addr) : Kd.F (Kd.int .u8) w ok A ([] : List Int).length [] := fun W' _ => ⟨rfl, by simp, fun h => absurd h (by simp)⟩
theorem dogwatchref09_Reader_Num.calls (k : Nat) (P0_0_ : Nat → Prop) (A0_0 : Option Addr) (c0_0 : Nat) (l0_0 : List Int) (a0_1 : Int) (a1 : Int) (r1 : List Int) (r2 : Int) (r3 : Int) (w : World) (hs0_0 : Kd.V (Kd.int .u8) 5 w w.heap.size (fun k_ => P0_0_ k_) (.slice A0_0 l0_0.length c0_0) l0_0) (h : dogwatchref09_Reader_Num.f k l0_0 a0_1 a1 = some (r1, r2, r3)) :
    Calls Try.prog 63 #[.agg #[.slice A0_0 l0_0.length c0_0, .int .i64 a0_1], .int .u64 a1] w fun e w' => ∃ v0_ : Value, e = .returned (.tuple #[.agg #[v0_, .int .i64 r2], .int .u64 r3]) ∧ Kd.V (Kd.int .u8) 5 w' w.heap.size (fun k_ => (P0_0_ k_ ∨ w.heap.size ≤ k_)) v0_ r1 ∧ Below w.heap.size w w' := by
  obtain ⟨_, hc, hF⟩ := Kd.V_at hs0_0
  unfold dogwatchref09_Reader_Num.f at h
  obtain ⟨⟨n, l', er'⟩, hq, h⟩ := Option.bind_eq_some_iff.mp h
  simp only [Option.some.injEq, Prod.mk.injEq] at h
  obtain ⟨rfl, rfl, rfl⟩ := h
  by_cases he : a0_1 = 0
  · subst he
    refine (refNum_ok k A0_0 c0_0 l0_0 l' er' a1 n w (Kd.F_now hF) hc hq).mono ?_
    rintro e w' ⟨A', c', rfl, hc', hs, hb⟩
    refine ⟨_, rfl, Kd.V_mk hc' ?_, hb⟩
    rcases hs with ⟨m, hm, rfl, rfl⟩ | rfl
    · exact Kd.F_mono (Kd.F_below (F_cut hF m hm hc) hb) (fun _ h => .inl h)
    · exact F_none _ _ _
  · unfold refNum at hq
    rw [if_neg he] at hq
    simp only [Option.some.injEq, Prod.mk.injEq] at hq
    obtain ⟨rfl, rfl, rfl⟩ := hq
    refine (refNum_err0 k A0_0 c0_0 l0_0 a0_1 a1 w (Kd.F_now hF) hc (bne_iff_ne.mpr he)).mono ?_
    rintro e w' ⟨rfl, hb⟩
    exact ⟨_, rfl, Kd.V_mk hc (Kd.F_mono (Kd.F_below hF hb) (fun _ h => .inl h)), hb⟩
end Go.Proofs.Ytgfkcmmhnibaiaa.PRw
