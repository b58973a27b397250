/- row.run, walked by hand: the count, and a row's ids, read one behind the other. -/
import Derived.Test.YtgfkcmmhnibaiaaRwNum
namespace Go.Proofs.Ytgfkcmmhnibaiaa.PRw
open Go.RowKit Go.Proofs.YtgfkcmmhnibaiaaW.PrintWords Go.Proofs.YtgfkcmmhnibaiaaW.PrintLast Go.Proofs.YtgfkcmmhnibaiaaW.PrintMore
set_option linter.unusedVariables false
set_option linter.unusedSimpArgs false
def rowD : Nat → Int → Int → List Int → List Int → Int → Option (List Int × List Int × Int)
  | 0, _, _, _, _, _ => none
  | f + 1, m, j, one, l, er => if j < m then ((rdNum f l er 200).bind fun x => if one.length < 1000000 then rowD f m (wrap64 (j + 1)) (one ++ [wrap64 x.1]) x.2.1 x.2.2 else none) else some (one, l, er)
theorem rowD_mono : ∀ k m j one l er, LeO (rowD k m j one l er) (rowD (k + 1) m j one l er)
  | 0, _, _, _, _, _ => fun r h => by simp [rowD] at h
  | k + 1, m, j, one, l, er => by
    rw [rowD, rowD]
    refine LeO.ite ?_ (LeO.refl _)
    refine LeO.bind (rdNum_mono _ _ _ _) (fun _ => ?_)
    exact LeO.ite (rowD_mono k _ _ _ _ _) (LeO.refl _)
/-- A row that is read, and how often it stands. -/
def runD (k : Nat) (m left : Int) (l : List Int) (er : Int) : Option (List Int × Int × List Int × Int) :=
  (rdNum k l er (IntKind.u64.wrap left)).bind fun a => (rowD k m 0 [] a.2.1 a.2.2).bind fun x => some (x.1, wrap64 a.1, x.2.1, x.2.2)
theorem runD_mono (m left : Int) (l : List Int) (er : Int) (k : Nat) : LeO (runD k m left l er) (runD (k + 1) m left l er) := by
  unfold runD
  refine LeO.bind (rdNum_mono _ _ _ _) (fun _ => ?_)
  exact LeO.bind (rowD_mono _ _ _ _ _ _) (fun _ => LeO.refl _)
theorem Rdr.grownT {w w' : World} {g : Nat} {l : List Int} {er : Int} {row : Option Nat} (h : Rdr w g l er) (hg : w.grownBy w' row) (hrow : ∀ k, row = some k → ∃ cs t, w.heap[k]? = some (.cells cs t (0, 0)) ∧ t ≠ 109 ∧ t ≠ 5) : Rdr w' g l er := by
  obtain ⟨A, c, h1, h2, h3, h4⟩ := h
  have ne : ∀ k cs t, w.heap[k]? = some (.cells cs t (0, 0)) → (t = 109 ∨ t = 5) → some k ≠ row := fun k cs t hk ht he => by
    obtain ⟨cs', t', h', q1, q2⟩ := hrow k he.symm
    rw [hk] at h'
    simp only [Option.some.injEq, Obj.cells.injEq] at h'
    obtain ⟨_, e2, _⟩ := h'
    rcases ht with e | e
    · exact q1 (e2.symm.trans e)
    · exact q2 (e2.symm.trans e)
  have hne := ne g _ _ h1 (Or.inl rfl)
  have hneA : ∀ ad, A = some ad → some ad.block ≠ row := fun ad e => by
    obtain ⟨cs, hc⟩ := (h4 ad e).2
    exact ne _ _ _ hc (Or.inr rfl)
  refine ⟨A, c, (hg.block g (blk_lt h1) hne).trans h1, h2, ⟨h3.1, h3.2.1, fun hn => ?_⟩, fun ad e => ⟨(h4 ad e).1, ?_⟩⟩
  · obtain ⟨ad, e, hc⟩ := h3.2.2 hn
    refine ⟨ad, e, fun j p hj => ?_⟩
    obtain ⟨c, hs, hr, hcell⟩ := hc j p hj
    refine ⟨c, hs, hr, fun i u hu => hg.cell (hcell i u hu) ?_⟩
    rw [add_block]
    exact hneA ad e
  · obtain ⟨cs, hc⟩ := (h4 ad e).2
    exact ⟨cs, (hg.block ad.block (blk_lt hc) (hneA ad e)).trans hc⟩
/-- Behind a number that was read: a row of the call's own is as it was. -/
theorem R_rdr {α : Type} {d : Kd α} {e base : Nat} {w w2 : World} {g : Nat} {l : List Int} {er : Int} {v : Value} {xs : List α} (h : Kd.R d e w base (fun _ => True) v xs) (hr : Rdr w g l er) (hg : w.grownBy w2 (some g)) (ht : ∀ q, q ∈ e :: d.E → q ≠ 109) : Kd.R d e w2 base (fun _ => True) v xs := by
  obtain ⟨A, c, hb, _⟩ := hr
  have h1 := Kd.R_types h hb ht
  exact Kd.R_mono (Kd.R_grown h1 hg (fun k hk he => hk.2 (by cases he; rfl))) (fun _ _ => trivial)
theorem grown_own {α : Type} {d : Kd α} {e : Nat} {w w2 w3 : World} {g : Nat} {v : Value} {xs : List α} (hg : w.grownBy w2 (some g)) (ho : Kd.R d e w2 w.heap.size (fun _ => True) v xs) (h3 : w2.grownBy w3 v.ownBlock) : w.grownBy w3 (some g) :=
  ⟨h3.os.trans hg.os, h3.tape.trans hg.tape, h3.output.trans hg.output, Nat.le_trans hg.size h3.size, fun k hk hr => (h3.block k (Nat.lt_of_lt_of_le hk hg.size) (fun he => by
    have := Kd.R_base ho k he.symm
    omega)).trans (hg.block k hk hr)⟩
set_option maxHeartbeats 8000000 in
set_option maxRecDepth 100000 in
theorem run_calls (k g : Nat) (l : List Int) (er m left : Int) (one : List Int) (n : Int) (l' : List Int) (er' : Int) (w : World) (h : Rdr w g l er) (hf : runD k m left l er = some (one, n, l', er')) :
    Calls Try.prog 65 #[.pointer (some ⟨g, 0, none⟩), .int .i64 m, .int .i64 left] w fun e w' => ∃ v : Value, e = .returned (.tuple #[v, .int .i64 n]) ∧ Kd.R (Kd.int .i64) 3 w' w.heap.size (fun _ => True) v one ∧ Rdr w' g l' er' ∧ w.grownBy w' (some g) := by
  unfold runD at hf
  obtain ⟨⟨n1, l1, e1⟩, h1, hf⟩ := Option.bind_eq_some_iff.mp hf
  obtain ⟨⟨o2, l2, e2⟩, h2, hf⟩ := Option.bind_eq_some_iff.mp hf
  simp only [Option.some.injEq, Prod.mk.injEq] at hf
  obtain ⟨rfl, rfl, rfl, rfl⟩ := hf
  dsimp only at h1 h2
  have H1 := Aside0.mk h1
  have H2 := Aside0.mk h2
  have HRD := Aside0.mk h
  clear h h1 h2
  go_enter Try.func65, Try.ntmps65
  go_wp2_with (go_at_call 61; (with_reducible refine (num_calls k g l l1 er e1 (IntKind.u64.wrap left) n1 _ HRD.out H1.out).mono ?_); rintro e wb ⟨rfl, hrd, hg⟩; have HRD1 := Aside0.mk hrd; have HG1 := Aside0.mk hg; clear hrd hg)
  go_loopg [9, 16] k (fun kq v9 v16 w' => ∃ (v : Value) (j : Int) (one : List Int) (l : List Int) (er : Int), v9 = v ∧ v16 = .int .i64 j ∧ Aside0 (rowD kq m j one l er = some (o2, l2, e2)) ∧ Aside0 (kq ≤ k) ∧ Aside0 (w.grownBy w' (some g)) ∧ Aside0 (Rdr w' g l er) ∧ Aside0 (Kd.R (Kd.int .i64) 3 w' w.heap.size (fun _ => True) v one))
  case atStart => exact ⟨.slice none 0 0, 0, [], l1, e1, rfl, rfl, H2, ⟨Nat.le_refl _⟩, HG1, HRD1, ⟨Kd.R_nil _ _ _ _ _⟩⟩
  case round =>
    clear H2 HG1 HRD1
    obtain ⟨v, j, one, l, er, rfl, rfl, HN, HK, HG, HD, HO⟩ := hrel
    cases gk with
    | zero => exact absurd HN.out (by simp [rowD])
    | succ k1 =>
      have hn := HN.out
      simp only [rowD] at hn
      by_cases cj : j < m
      · rw [if_pos cj] at hn
        obtain ⟨⟨x, lx, ex⟩, hx, hn⟩ := Option.bind_eq_some_iff.mp hn
        dsimp only at hx hn
        by_cases cl : one.length < 1000000
        case neg => rw [if_neg cl] at hn; exact absurd hn (by simp)
        rw [if_pos cl] at hn
        have d1 : decide (j < m) = true := decide_eq_true cj
        have HX := Aside0.mk hx
        have HN2 := Aside0.mk hn
        have HCL := Aside0.mk cl
        clear hx hn cl cj HN
        obtain ⟨A1, c1, rfl⟩ := Kd.R_slice HO.out
        go_wp2_with (first
          | (go_at_call 61; (with_reducible refine (num_calls k1 g l lx er ex 200 x _ HD.out HX.out).mono ?_); rintro e wb ⟨rfl, hrd, hg⟩; have HRD1 := Aside0.mk hrd; have HG1 := Aside0.mk hg; have HO1 := Aside0.mk (R_rdr HO.out HD.out hg (by decide)); clear hrd hg)
          | ((with_reducible refine gate_builtin (b := .append) (xs := #[.tmp 18, .tmp 22]) rfl ?_); at_builtin; refine Kd.R_append (Kd.int .i64) (w0 := wb) w.heap.size rfl (.tmp 18) (.tmp 22) 23 3 (.int .i64 0) 8 rfl Try.underlying23 info3 rfl (by decide) (by omega) (.slice A1 one.length c1) one (wrap64 x) [.int .i64 (wrap64 x)] (fun _ => True) (fun _ => False) rfl rfl ?aP (fun _ hk => hk.elim) ?aF ?aO ?aB ?aS ?aL ?_; (case aP => exact rfl); (case aF => exact (fun _ _ => trivial)); (case aO => exact HO1.out); (case aB => exact Below.refl _ _); (case aS => exact Nat.le_trans HG.out.size HG1.out.size); (case aL => have := HCL.out; omega); intro v1 w3 ho3 hb3 hg3 hat3; have HO3 := Aside0.mk ho3; have HG3 := Aside0.mk hg3; clear ho3 hb3 hg3 hat3))
        go_roundg k1
        case measure => have := HK.out; omega
        case rel => exact ⟨v1, wrap64 (j + 1), one ++ [wrap64 x], lx, ex, rfl, rfl, HN2, ⟨by have := HK.out; omega⟩, ⟨grown_own (grown_trans HG.out HG1.out) HO1.out HG3.out⟩, ⟨HRD1.out.grownT HG3.out (fun k hk => by
          obtain ⟨cs, hc⟩ := Kd.R_typed HO1.out k hk
          exact ⟨cs, 3, hc, by decide, by decide⟩)⟩, HO3⟩
      · rw [if_neg cj] at hn
        simp only [Option.some.injEq, Prod.mk.injEq] at hn
        obtain ⟨rfl, rfl, rfl⟩ := hn
        have d1 : decide (j < m) = false := decide_eq_false cj
        clear cj
        go_wp2
        go_ret2
        exact ⟨_, rfl, HO.out, HD.out, HG.out⟩
end Go.Proofs.Ytgfkcmmhnibaiaa.PRw
