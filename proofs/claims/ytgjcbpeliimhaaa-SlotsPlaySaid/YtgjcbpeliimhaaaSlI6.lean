/- slots.Table (int), walked by hand: the slots that are taken. -/
import Derived.Test.YtgjcbpeliimhaaaSlI5
namespace Go.Proofs.Ytgjcbpeliimhaaa.PSl.I
open Go.RowKit Go.Proofs.YtgjcbpeliimhaaaW.PrintWords Go.Proofs.YtgjcbpeliimhaaaW.PrintLast Go.Proofs.YtgjcbpeliimhaaaW.PrintMore
set_option linter.unusedVariables false
set_option linter.unusedSimpArgs false
/-- The slots that are taken, rising. -/
def idsL (l : List (El × Int × Bool)) : List Int := (l.zipIdx.filter (·.1.2.2)).map (fun p => (p.2 : Int) + 1)
theorem idsL_step (l : List (El × Int × Bool)) (i : Nat) (x : El) (g : Int) (t : Bool) (h : l[i]? = some (x, g, t)) : idsL (l.take (i + 1)) = if t = true then idsL (l.take i) ++ [(i : Int) + 1] else idsL (l.take i) := by
  obtain ⟨hi, he⟩ := List.getElem?_eq_some_iff.mp h
  have hl : (l.take i).length = i := by rw [List.length_take]; omega
  rw [List.take_succ_eq_append_getElem hi, he]
  unfold idsL
  rw [List.zipIdx_append, List.filter_append, List.map_append, hl]
  cases t <;> simp
theorem idsL_length (l : List (El × Int × Bool)) : (idsL l).length ≤ l.length := by
  unfold idsL
  rw [List.length_map]
  exact Nat.le_trans (List.length_filter_le _ _) (by simp)
set_option maxHeartbeats 4000000 in
theorem ids_calls {w : World} {F : Nat → Prop} {g : Nat} {s : Tb El} (h : Rep w F g s) :
    Calls Try.prog 40 #[.pointer (some ⟨g, 0, none⟩)] w fun e w' => ∃ v, e = .returned v ∧ Kd.R (Kd.int .i64) 3 w' w.heap.size (fun _ => True) v (idsL s.l) ∧ Below w.heap.size w w' := by
  obtain ⟨a, v, h⟩ := h
  have hle := h.le
  have k0 : w.cell? ⟨g, 0, none⟩ = some (.slice (some ⟨a, 0, none⟩) s.l.length s.l.length) := (blk_cell h.hd 0).trans rfl
  have H := Aside0.mk h
  have HL := Aside0.mk hle
  have HA := Aside0.mk (blk_lt h.sl)
  clear h hle
  generalize hn : s.l.length = n at *
  have HN := Aside0.mk hn
  clear hn
  go_enter Try.func40, Try.ntmps40
  go_wp2_with (go_at_call 60; (with_reducible refine (none_some H.out).mono ?_); rintro e w' ⟨rfl, rfl⟩)
  go_loopg [3, 13] (n + 1) (fun kq v3 v13 w' => ∃ (u : Value) (i : Nat), v3 = u ∧ v13 = .int .i64 (i : Int) ∧ Aside0 (i + kq = n + 1) ∧ Aside0 (i ≤ n) ∧ Aside0 (Below w.heap.size w w') ∧ Aside0 (Kd.R (Kd.int .i64) 3 w' w.heap.size (fun _ => True) u (idsL (s.l.take i))))
  case atStart => exact ⟨.slice none 0 0, 0, rfl, rfl, ⟨by omega⟩, ⟨by omega⟩, ⟨Below.refl _ _⟩, ⟨Kd.R_nil _ _ _ _ _⟩⟩
  case round =>
    obtain ⟨u, i, rfl, rfl, HK, HI, HB, HR⟩ := hrel
    cases gk with
    | zero => exact absurd HK.out (by have := HI.out; omega)
    | succ k1 =>
      obtain ⟨A1, c1, rfl⟩ := Kd.R_slice HR.out
      by_cases cc : i < n
      · obtain ⟨⟨x0, g0, t0⟩, hj⟩ : ∃ p, s.l[i]? = some p := ⟨_, List.getElem?_eq_getElem (by rw [HN.out]; exact cc)⟩
        obtain ⟨q0, q1, q2⟩ := slot_cells H.out i x0 g0 t0 hj
        have r0 : wr.cell? ⟨a, i * 3, none⟩ = some (enc x0) := (HB.out.cell (p := ⟨a, i * 3, none⟩) HA.out).trans q0
        have r1 : wr.cell? ⟨a, i * 3 + 1, none⟩ = some (.int .i64 g0) := (HB.out.cell (p := ⟨a, i * 3 + 1, none⟩) HA.out).trans q1
        have r2 : wr.cell? ⟨a, i * 3 + 2, none⟩ = some (.bool t0) := (HB.out.cell (p := ⟨a, i * 3 + 2, none⟩) HA.out).trans q2
        have d1 : decide ((i : Int) < (n : Int)) = true := decide_eq_true (by omega)
        have d2 : decide (i < n) = true := decide_eq_true cc
        have p0 := eq_true (show (0 : Int) ≤ (i : Int) by omega)
        have p1 := eq_true (show (i : Int) < (n : Int) by omega)
        have ew : wrap64 ((i : Int) + 1) = (i : Int) + 1 := by have := HL.out; unfold wrap64; omega
        have HS := Aside0.mk (idsL_step s.l i x0 g0 t0 hj)
        have CC := Aside0.mk cc
        have HLL := Aside0.mk (show (idsL (s.l.take i)).length < 1000000 from by have h1 := idsL_length (s.l.take i); have h2 := HL.out; have h3 : (s.l.take i).length ≤ i := List.length_take_le _ _; omega)
        clear q0 q1 q2 hj cc
        cases t0 with
        | true =>
          go_wp2_with ((with_reducible refine gate_builtin (b := .append) (xs := #[.tmp 20, .tmp 23]) rfl ?_); at_builtin; refine Kd.R_append (Kd.int .i64) (w0 := w) w.heap.size rfl (.tmp 20) (.tmp 23) 28 3 (.int .i64 0) 8 rfl Try.underlying28 info3 rfl (by decide) (by omega) (.slice A1 (idsL (s.l.take i)).length c1) (idsL (s.l.take i)) ((i : Int) + 1) [.int .i64 ((i : Int) + 1)] (fun _ => True) (fun _ => False) rfl ?aX ?aP (fun _ hk => hk.elim) ?aF ?aO ?aB ?aS ?aL ?_; (case aX => first | rfl | (simp [size_setCell, Act.eval]; done)); (case aP => exact rfl); (case aF => exact (fun _ _ => trivial)); (case aO => with_reducible repeat (first | exact HR.out | apply Kd.R_alloc)); (case aB => with_reducible repeat (first | exact HB.out | apply below_alloc)); (case aS => have := HB.out.size; simp; omega); (case aL => have := HLL.out; omega); intro v1 w3 ho3 hb3 hg3 hat3; have HO3 := Aside0.mk ho3; have HB3 := Aside0.mk hb3; clear ho3 hb3 hg3 hat3)
          go_roundg k1
          case measure => omega
          case rel => exact ⟨v1, i + 1, rfl, (by first | rfl | (simp; done) | (simp; exact ew)), ⟨by have := HK.out; omega⟩, ⟨by have := CC.out; omega⟩, HB3, ⟨by have q := HS.out; simp only [if_true] at q; rw [q]; exact HO3.out⟩⟩
        | false =>
          go_wp2
          go_roundg k1
          case measure => omega
          case rel => exact ⟨.slice A1 (idsL (s.l.take i)).length c1, i + 1, rfl, (by first | rfl | (simp; done) | (simp; exact ew)), ⟨by have := HK.out; omega⟩, ⟨by have := CC.out; omega⟩, ⟨by with_reducible repeat (first | exact HB.out | apply below_alloc)⟩, ⟨by have q := HS.out; simp only [Bool.false_eq_true, if_false] at q; rw [q]; with_reducible repeat (first | exact HR.out | apply Kd.R_alloc)⟩⟩
      · have d1 : decide ((i : Int) < (n : Int)) = false := decide_eq_false (by omega)
        have d2 : decide (i < n) = false := decide_eq_false cc
        have HE := Aside0.mk (show idsL (s.l.take i) = idsL s.l by rw [List.take_of_length_le (by rw [HN.out]; omega)])
        clear cc
        go_wp2
        go_ret
        exact ⟨_, rfl, by rw [← HE.out]; exact HR.out, HB.out⟩
theorem ids_nil (w : World) : Calls Try.prog 40 #[.pointer none] w fun e w' => e = .returned (.slice none 0 0) ∧ w = w' := by
  go_enter Try.func40, Try.ntmps40
  go_wp2_with (go_at_call 60; (with_reducible refine (none_nil _).mono ?_); rintro e w' ⟨rfl, rfl⟩)
  go_ret
  exact ⟨rfl, rfl⟩
end Go.Proofs.Ytgjcbpeliimhaaa.PSl.I
