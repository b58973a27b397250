/- slots.Table (int), walked by hand: a slot is taken. -/
import Derived.Test.YtgjcbpeliimhaaaSlI3
namespace Go.Proofs.Ytgjcbpeliimhaaa.PSl.I
open Go.RowKit Go.Proofs.YtgjcbpeliimhaaaW.PrintWords Go.Proofs.YtgjcbpeliimhaaaW.PrintLast Go.Proofs.YtgjcbpeliimhaaaW.PrintMore
set_option linter.unusedVariables false
set_option linter.unusedSimpArgs false
theorem take_close {w : World} {F : Nat → Prop} {g a : Nat} {v : Value} {s : Tb El} (h : RepA w F g a v s) (j : Nat) (x : El) (g1 : Int) (hj : j < s.l.length) (v1 : Value) (f1 : List Int) (n1 : Nat) (m1 : Int)
    (hv : Kd.R (Kd.int .i64) 3 w 0 (fun k => F k ∧ k ≠ g ∧ k ≠ a) v1 f1) (hf : ∀ x ∈ f1, 1 ≤ x ∧ x ≤ (s.l.length : Int)) (hn : n1 ≤ s.l.length) (w' : World) (hk : Kept w w' (fun k => k = g ∨ k = a))
    (hg : w'.heap[g]? = some (.cells #[.slice (some ⟨a, 0, none⟩) s.l.length s.l.length, v1, .int .i64 (n1 : Int), .int .i64 m1] 87 (0, 0)))
    (ha : w'.heap[a]? = some (.cells ((((slotCells enc s.l).toArray.setIfInBounds (j * 3) (enc x)).setIfInBounds (j * 3 + 2) (.bool true)).setIfInBounds (j * 3 + 1) (.int .i64 g1)) 110 (0, 0))) :
    RepA w' F g a v1 { l := s.l.set j (x, g1, true), free := f1, next := n1, many := m1 } := by
  have hl : (s.l.set j (x, g1, true)).length = s.l.length := List.length_set
  refine ⟨h.fg, h.fa, h.ne, ?_, ?_, Kd.R_kept hv hk (fun k hk hkk => by rcases hkk with e | e; exact hk.2.1 e; exact hk.2.2 e), by rw [hl]; exact h.pos, by rw [hl]; exact h.le, by rw [hl]; exact hn, fun y hy => by rw [hl]; exact hf y hy⟩
  · rw [hl]
    exact hg
  · rw [ha]
    simp only [List.setIfInBounds_toArray]
    rw [← slotCells_set (enc := enc) s.l j _ _ _ hj, List.set_comm _ _ (show j * 3 + 2 ≠ j * 3 + 1 by omega)]
set_option maxHeartbeats 4000000 in
theorem take_free {w : World} {F : Nat → Prop} {g : Nat} {s : Tb El} (h : Rep w F g s) (x : El) (f : List Int) (j : Nat) (x0 : El) (g0 : Int) (t0 : Bool) (hf : s.free = f ++ [(j : Int) + 1]) (hj : s.l[j]? = some (x0, g0, t0)) :
    Calls Try.prog 19 #[.pointer (some ⟨g, 0, none⟩), enc x] w fun e w' => e = .returned (.tuple #[.int .i64 ((j : Int) + 1), .int .i64 (max g0 1), .int .i64 0]) ∧ Rep w' F g { l := s.l.set j (x, max g0 1, true), free := f, next := s.next, many := wrap64 (s.many + 1) } ∧ Turns w w' F := by
  obtain ⟨a, v, h⟩ := h
  obtain ⟨c0, c1, c2⟩ := slot_cells h j x0 g0 t0 hj
  have f0 := blk_frozen h.sl (j * 3)
  have f1 := blk_frozen h.sl (j * 3 + 1)
  have f2 := blk_frozen h.sl (j * 3 + 2)
  have hga : g ≠ a := h.ne
  have hag : a ≠ g := h.ne.symm
  have hj1 : j < s.l.length := (List.getElem?_eq_some_iff.mp hj).1
  have hle := h.le
  obtain ⟨A1, cap1, ev⟩ := Kd.R_slice h.fr
  have hfl : s.free.length = f.length + 1 := by rw [hf, List.length_append, List.length_singleton]
  subst ev
  have hfr := h.fr
  have hre := Kd.R_reads' h.fr
  have hm := hre.2.2.2.1
  have hcap := hre.2.1
  obtain ⟨ad, ead, hx⟩ := Kd.at_int hre.2.2 (f.length : Int) (by omega) (by rw [hfl]; omega)
  subst ead
  have erd : rd s.free (f.length : Int) = (j : Int) + 1 := by rw [hf]; simp [rd]
  rw [erd, Int.toNat_natCast] at hx
  have k0 : w.cell? ⟨g, 0, none⟩ = some (.slice (some ⟨a, 0, none⟩) s.l.length s.l.length) := (blk_cell h.hd 0).trans rfl
  have k1 : w.cell? ⟨g, 1, none⟩ = some (.slice (some ad) (f.length + 1) cap1) := by rw [← hfl]; exact (blk_cell h.hd 1).trans rfl
  have k3 : w.cell? ⟨g, 3, none⟩ = some (.int .i64 s.many) := (blk_cell h.hd 3).trans rfl
  have e1 := blk_frozen h.hd 1
  have e3 := blk_frozen h.hd 3
  have H := Aside0.mk h
  have HJ := Aside0.mk hj
  have HF := Aside0.mk hf
  have HJ1 := Aside0.mk hj1
  have hc1 : f.length + 1 ≤ cap1 := by omega
  have d1 : decide ((0 : Int) < (f.length : Int) + 1) = true := decide_eq_true (by omega)
  have p0 := eq_true (show (0 : Int) ≤ (f.length : Int) by omega)
  have q0 := eq_true (show (f.length : Int) < (f.length : Int) + 1 by omega)
  have p1 := eq_true (show (0 : Int) ≤ (j : Int) by omega)
  have q1 := eq_true (show (j : Int) < (s.l.length : Int) by omega)
  have p2 := eq_true (show (f.length : Int) ≤ (cap1 : Int) by omega)
  have p3 := eq_true (show f.length ≤ cap1 by omega)
  have ew : wrap64 (j : Int) = (j : Int) := by unfold wrap64; omega
  have ew2 : wrap64 (f.length : Int) = (f.length : Int) := by rw [hfl] at hm; unfold wrap64; omega
  clear h hj hf hj1 hle hfr hre hm hcap erd hfl hc1
  generalize hn : s.l.length = n at *
  have HN := Aside0.mk hn
  clear hn
  go_enter Try.func19, Try.ntmps19
  go_wp2_with (go_at_call 60; (with_reducible refine (none_some H.out).mono ?_); rintro e w' ⟨rfl, rfl⟩)
  · go_quiet (fail)
    (try go_wp2)
    go_ret3
    have hl := HF.out
    have e1 : max g0 1 = (1 : Int) := by omega
    rw [e1]
    refine ⟨rfl, ⟨a, _, take_close H.out j x (1 : Int) (by rw [HN.out]; exact HJ1.out) (.slice (some ad) f.length cap1) f s.next (wrap64 (s.many + 1)) ?_ (fun y hy => H.out.fin y (by rw [hl]; exact List.mem_append_left _ hy)) H.out.nx _ ?_ ?_ ?_⟩, ?_⟩
    · have q := Kd.R_take (m := f.length) H.out.fr (by rw [hl, List.length_append]; omega)
      rw [hl, List.take_left] at q
      exact q
    · refine Kept.drewN ?_ _
      exact (((((Kept.refl w _).setCell (.inl (.inl rfl)) _).setCell (.inl (.inr rfl)) _).setCell (.inl (.inr rfl)) _).setCell (.inl (.inr rfl)) _).setCell (.inl (.inl rfl)) _
    · rw [HN.out]
      have hm := H.out.hd
      rw [HN.out] at hm
      refine blk_dr ?_ _
      exact blk_set (blk_far (blk_far (blk_far (blk_set hm 1 (.slice (some ad) f.length cap1)) hga _) hga _) hga _) 3 (.int .i64 (wrap64 (s.many + 1)))
    · refine blk_dr ?_ _
      exact blk_far (blk_set (blk_set (blk_set (blk_far H.out.sl hag _) (j * 3) (enc x)) (j * 3 + 2) (.bool true)) (j * 3 + 1) (.int .i64 (1 : Int))) hag _
    · refine Turns.drewN ?_ _
      exact (((((Turns.refl w F).set (.inl H.out.fg) _).set (.inl H.out.fa) _).set (.inl H.out.fa) _).set (.inl H.out.fa) _).set (.inl H.out.fg) _
  · go_quiet (fail)
    (try go_wp2)
    go_ret3
    have hl := HF.out
    have e1 : max g0 1 = g0 := by omega
    rw [e1]
    refine ⟨rfl, ⟨a, _, take_close H.out j x g0 (by rw [HN.out]; exact HJ1.out) (.slice (some ad) f.length cap1) f s.next (wrap64 (s.many + 1)) ?_ (fun y hy => H.out.fin y (by rw [hl]; exact List.mem_append_left _ hy)) H.out.nx _ ?_ ?_ ?_⟩, ?_⟩
    · have q := Kd.R_take (m := f.length) H.out.fr (by rw [hl, List.length_append]; omega)
      rw [hl, List.take_left] at q
      exact q
    · refine Kept.drewN ?_ _
      exact (((((Kept.refl w _).setCell (.inl (.inl rfl)) _).setCell (.inl (.inr rfl)) _).setCell (.inl (.inr rfl)) _).setCell (.inl (.inr rfl)) _).setCell (.inl (.inl rfl)) _
    · rw [HN.out]
      have hm := H.out.hd
      rw [HN.out] at hm
      refine blk_dr ?_ _
      exact blk_set (blk_far (blk_far (blk_far (blk_set hm 1 (.slice (some ad) f.length cap1)) hga _) hga _) hga _) 3 (.int .i64 (wrap64 (s.many + 1)))
    · refine blk_dr ?_ _
      exact blk_far (blk_set (blk_set (blk_set (blk_far H.out.sl hag _) (j * 3) (enc x)) (j * 3 + 2) (.bool true)) (j * 3 + 1) (.int .i64 g0)) hag _
    · refine Turns.drewN ?_ _
      exact (((((Turns.refl w F).set (.inl H.out.fg) _).set (.inl H.out.fa) _).set (.inl H.out.fa) _).set (.inl H.out.fa) _).set (.inl H.out.fg) _
set_option maxHeartbeats 4000000 in
theorem take_next {w : World} {F : Nat → Prop} {g : Nat} {s : Tb El} (h : Rep w F g s) (x : El) (x0 : El) (g0 : Int) (t0 : Bool) (hf : s.free = []) (hj : s.l[s.next]? = some (x0, g0, t0)) :
    Calls Try.prog 19 #[.pointer (some ⟨g, 0, none⟩), enc x] w fun e w' => e = .returned (.tuple #[.int .i64 ((s.next : Int) + 1), .int .i64 (max g0 1), .int .i64 0]) ∧ Rep w' F g { l := s.l.set s.next (x, max g0 1, true), free := [], next := s.next + 1, many := wrap64 (s.many + 1) } ∧ Turns w w' F := by
  obtain ⟨a, v, h⟩ := h
  obtain ⟨c0, c1, c2⟩ := slot_cells h s.next x0 g0 t0 hj
  have f0 := blk_frozen h.sl (s.next * 3)
  have f1 := blk_frozen h.sl (s.next * 3 + 1)
  have f2 := blk_frozen h.sl (s.next * 3 + 2)
  have hga : g ≠ a := h.ne
  have hag : a ≠ g := h.ne.symm
  have hj1 : s.next < s.l.length := (List.getElem?_eq_some_iff.mp hj).1
  have hle := h.le
  obtain ⟨A1, cap1, ev⟩ := Kd.R_slice h.fr
  rw [hf, List.length_nil] at ev
  subst ev
  have k0 : w.cell? ⟨g, 0, none⟩ = some (.slice (some ⟨a, 0, none⟩) s.l.length s.l.length) := (blk_cell h.hd 0).trans rfl
  have k1 : w.cell? ⟨g, 1, none⟩ = some (.slice A1 0 cap1) := (blk_cell h.hd 1).trans rfl
  have k2 : w.cell? ⟨g, 2, none⟩ = some (.int .i64 (s.next : Int)) := (blk_cell h.hd 2).trans rfl
  have k3 : w.cell? ⟨g, 3, none⟩ = some (.int .i64 s.many) := (blk_cell h.hd 3).trans rfl
  have e2 := blk_frozen h.hd 2
  have e3 := blk_frozen h.hd 3
  have H := Aside0.mk h
  have HJ := Aside0.mk hj
  have HF := Aside0.mk hf
  have HJ1 := Aside0.mk hj1
  obtain ⟨j, hjn⟩ : ∃ j, j = s.next := ⟨_, rfl⟩
  have HJN := Aside0.mk hjn
  rw [← hjn] at c0 c1 c2 f0 f1 f2 k2 hj1
  have d1 : decide ((j : Int) < (s.l.length : Int)) = true := decide_eq_true (by omega)
  have d2 : decide (j < s.l.length) = true := decide_eq_true (by omega)
  have p1 := eq_true (show (0 : Int) ≤ (j : Int) by omega)
  have q1 := eq_true (show (j : Int) < (s.l.length : Int) by omega)
  have ew : wrap64 (j : Int) = (j : Int) := by unfold wrap64; omega
  have ew2 : wrap64 ((j : Int) + 1) = (j : Int) + 1 := by unfold wrap64; omega
  clear h hj hf hj1 hle hjn
  generalize hn : s.l.length = n at *
  have HN := Aside0.mk hn
  clear hn
  go_enter Try.func19, Try.ntmps19
  go_wp2_with (go_at_call 60; (with_reducible refine (none_some H.out).mono ?_); rintro e w' ⟨rfl, rfl⟩)
  go_quiet (fail)
  go_wp2
  · go_quiet (fail)
    (try go_wp2)
    go_ret3
    have e1 : max g0 1 = (1 : Int) := by omega
    rw [e1, ← HJN.out]
    refine ⟨rfl, ⟨a, _, take_close H.out j x (1 : Int) (by have := HJ1.out; have := HJN.out; have := HN.out; omega) (.slice A1 0 cap1) [] (j + 1) (wrap64 (s.many + 1)) ?_ (fun y hy => absurd hy (by simp)) (by have := HJ1.out; have := HJN.out; have := HN.out; omega) _ ?_ ?_ ?_⟩, ?_⟩
    · have q := H.out.fr
      rw [HF.out] at q
      exact q
    · refine Kept.drewN ?_ _
      exact (((((Kept.refl w _).setCell (.inl (.inl rfl)) _).setCell (.inl (.inr rfl)) _).setCell (.inl (.inr rfl)) _).setCell (.inl (.inr rfl)) _).setCell (.inl (.inl rfl)) _
    · rw [HN.out]
      have hm := H.out.hd
      rw [HN.out] at hm
      refine blk_dr ?_ _
      exact blk_set (blk_far (blk_far (blk_far (blk_set hm 2 (.int .i64 ((j : Int) + 1))) hga _) hga _) hga _) 3 (.int .i64 (wrap64 (s.many + 1)))
    · refine blk_dr ?_ _
      exact blk_far (blk_set (blk_set (blk_set (blk_far H.out.sl hag _) (j * 3) (enc x)) (j * 3 + 2) (.bool true)) (j * 3 + 1) (.int .i64 (1 : Int))) hag _
    · (with_reducible repeat refine Turns.drewN ?_ _)
      exact ((((((Turns.refl w F).drewN _).set (.inl H.out.fg) _).set (.inl H.out.fa) _).set (.inl H.out.fa) _).set (.inl H.out.fa) _).set (.inl H.out.fg) _
  · go_quiet (fail)
    (try go_wp2)
    go_ret3
    have e1 : max g0 1 = g0 := by omega
    rw [e1, ← HJN.out]
    refine ⟨rfl, ⟨a, _, take_close H.out j x g0 (by have := HJ1.out; have := HJN.out; have := HN.out; omega) (.slice A1 0 cap1) [] (j + 1) (wrap64 (s.many + 1)) ?_ (fun y hy => absurd hy (by simp)) (by have := HJ1.out; have := HJN.out; have := HN.out; omega) _ ?_ ?_ ?_⟩, ?_⟩
    · have q := H.out.fr
      rw [HF.out] at q
      exact q
    · refine Kept.drewN ?_ _
      exact (((((Kept.refl w _).setCell (.inl (.inl rfl)) _).setCell (.inl (.inr rfl)) _).setCell (.inl (.inr rfl)) _).setCell (.inl (.inr rfl)) _).setCell (.inl (.inl rfl)) _
    · rw [HN.out]
      have hm := H.out.hd
      rw [HN.out] at hm
      refine blk_dr ?_ _
      exact blk_set (blk_far (blk_far (blk_far (blk_set hm 2 (.int .i64 ((j : Int) + 1))) hga _) hga _) hga _) 3 (.int .i64 (wrap64 (s.many + 1)))
    · refine blk_dr ?_ _
      exact blk_far (blk_set (blk_set (blk_set (blk_far H.out.sl hag _) (j * 3) (enc x)) (j * 3 + 2) (.bool true)) (j * 3 + 1) (.int .i64 g0)) hag _
    · (with_reducible repeat refine Turns.drewN ?_ _)
      exact ((((((Turns.refl w F).drewN _).set (.inl H.out.fg) _).set (.inl H.out.fa) _).set (.inl H.out.fa) _).set (.inl H.out.fa) _).set (.inl H.out.fg) _
theorem take_full {w : World} {F : Nat → Prop} {g : Nat} {s : Tb El} (h : Rep w F g s) (x : El) (hf : s.free = []) (hn : s.next = s.l.length) :
    Calls Try.prog 19 #[.pointer (some ⟨g, 0, none⟩), enc x] w fun e w' => e = .returned (.tuple #[.int .i64 0, .int .i64 0, .int .i64 13]) ∧ ∃ n, w' = w.drewN n := by
  obtain ⟨a, v, h⟩ := h
  obtain ⟨A1, cap1, ev⟩ := Kd.R_slice h.fr
  rw [hf, List.length_nil] at ev
  subst ev
  have k0 : w.cell? ⟨g, 0, none⟩ = some (.slice (some ⟨a, 0, none⟩) s.l.length s.l.length) := (blk_cell h.hd 0).trans rfl
  have k1 : w.cell? ⟨g, 1, none⟩ = some (.slice A1 0 cap1) := (blk_cell h.hd 1).trans rfl
  have k2 : w.cell? ⟨g, 2, none⟩ = some (.int .i64 (s.next : Int)) := (blk_cell h.hd 2).trans rfl
  have H := Aside0.mk h
  rw [hn] at k2
  clear h hf hn
  generalize s.l.length = n at *
  go_enter Try.func19, Try.ntmps19
  go_wp2_with (go_at_call 60; (with_reducible refine (none_some H.out).mono ?_); rintro e w' ⟨rfl, rfl⟩)
  go_quiet (fail)
  go_wp2
  go_ret3
  exact ⟨rfl, _, rfl⟩
end Go.Proofs.Ytgjcbpeliimhaaa.PSl.I
