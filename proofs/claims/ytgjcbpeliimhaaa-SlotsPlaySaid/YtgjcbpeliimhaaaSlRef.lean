/- dogwatchref07.Take and Drop, walked by hand. -/
import Derived.Test.YtgjcbpeliimhaaaPSpx1
import Derived.Test.YtgjcbpeliimhaaaSlLib
namespace Go.Proofs.Ytgjcbpeliimhaaa.PSl
open Go.RowKit Go.Proofs.YtgjcbpeliimhaaaW.PrintWords Go.Proofs.YtgjcbpeliimhaaaW.PrintLast Go.Proofs.YtgjcbpeliimhaaaW.PrintMore PSp
set_option linter.unusedVariables false
set_option linter.unusedSimpArgs false
theorem at82 {w : World} {A : Option Addr} {n : Nat} {xs : List S82} (h : Kd.C k82 w A n xs) (j : Nat) (x : S82) (hx : xs[j]? = some x) : ∃ ad, A = some ad ∧ w.cell? (ad.add (j * 4)) = some (.int .i64 x.f0) ∧ w.cell? ⟨(ad.add (j * 4)).block, (ad.add (j * 4)).off + 1, none⟩ = some (.bool x.f1) ∧ w.cell? ⟨(ad.add (j * 4)).block, (ad.add (j * 4)).off + 2, none⟩ = some (.int .i64 x.f2) ∧ w.cell? ⟨(ad.add (j * 4)).block, (ad.add (j * 4)).off + 3, none⟩ = some (.int .i64 x.f3) := by
  have hn : xs.length = n := h.1
  have hj : j < xs.length := (List.getElem?_eq_some_iff.mp hx).1
  have q := at_T82 h (j : Int) (by omega) (by omega)
  have e : rd_T82 xs (j : Int) = x := by unfold rd_T82; rw [Int.toNat_natCast, List.getD_eq_getElem?_getD, hx]; rfl
  rw [e, Int.toNat_natCast] at q
  exact q
theorem two_new {w : World} {p : Addr} {v : Value} (h : w.cell? p = some v) : ∀ o1 o2 : Obj, ((w.alloc o1).alloc o2).cell? p = some v := fun o1 o2 =>
  pw_cell_below (below_alloc (below_alloc (Below.refl _ _) _) _) h
theorem second_new (w : World) (o1 o2 o3 : Obj) : (((w.alloc o1).alloc o2).alloc o3).heap[w.heap.size + 1]? = some o2 := by
  refine (Below.heap_alloc _ _ _ (by simp)).trans ?_
  have e : (w.alloc o1).heap.size = w.heap.size + 1 := by simp
  rw [← e]
  exact heap_alloc_new _ _
set_option maxHeartbeats 2000000 in
set_option maxRecDepth 100000 in
theorem ref_drop (A : Option Addr) (c : Nat) (l : List S82) (clock : Int) (j : Nat) (s : S82) (r1 : List S82) (r2 : Int) (w : World) (hr : Kd.C k82 w A l.length l) (hc : l.length ≤ c) (hj : l[j]? = some s) (hm : l.length ≤ 1024)
    (h : dogwatchref07_with.f l clock ((j : Int) + 1) 0 false (wrap64 (s.f2 + 1)) (wrap64 (clock + 1)) = some (r1, r2)) :
    Calls Try.prog 68 #[.agg #[.slice A l.length c, .int .i64 clock], .int .i64 ((j : Int) + 1)] w fun e w' => ∃ v : Value, e = .returned (.agg #[v, .int .i64 r2]) ∧ Kd.R k82 82 w' w.heap.size (fun _ => True) v r1 ∧ Below w.heap.size w w' := by
  obtain ⟨ad, rfl, q0, q1, q2, q3⟩ := at82 hr j s hj
  have hjl : j < l.length := (List.getElem?_eq_some_iff.mp hj).1
  have p0 := eq_true (show (0 : Int) ≤ (j : Int) by omega)
  have p1 := eq_true (show (j : Int) < (l.length : Int) by omega)
  have ew : wrap64 (j : Int) = (j : Int) := by unfold wrap64; omega
  have hu := Try.underlying71
  have hu2 := Try.underlying82
  have t0 := two_new q0
  have t1 := two_new q1
  have t2 := two_new q2
  have t3 := two_new q3
  have HR := Aside0.mk hr
  have HC := Aside0.mk hc
  have HH := Aside0.mk h
  clear hr hc hj hm h hjl q0 q1 q2 q3
  obtain ⟨n, hn⟩ : ∃ n, n = l.length := ⟨_, rfl⟩
  rw [← hn] at p1 ⊢
  have HN := Aside0.mk hn
  clear hn
  have CW := Aside0.mk (fun (W : World) (hW : Kd.C k82 W (some ad) l.length l) => dogwatchref07_with.calls (some ad) c l clock ((j : Int) + 1) 0 false (wrap64 (s.f2 + 1)) (wrap64 (clock + 1)) r1 r2 W hW HC.out HH.out)
  rw [← HN.out] at CW
  have HW := HR.out
  rw [← HN.out] at HW
  have HRN := Aside0.mk HW
  clear HW
  go_enter Try.func68, Try.ntmps68
  go_wp2_with (go_at_call 76; (with_reducible refine (CW.out _ (Kd.C_alloc (Kd.C_alloc (Kd.C_alloc HRN.out _) _) _)).mono ?_); rintro e w4 ⟨v, rfl, hr4, hb4⟩; obtain ⟨A4, c4, rfl⟩ := Kd.R_slice hr4; have hb5 : w4.heap[w.heap.size + 1]? = some (.cells #[.slice none 0 0, .int .i64 0] 71 (0, 0)) := (hb4.block _ (by simp)).trans (second_new _ _ _ _); have k0 := (blk_cell hb5 0).trans rfl; have k1 := (blk_cell hb5 1).trans rfl; have f0 := blk_frozen hb5 0; have f1 := blk_frozen hb5 1; have HB5 := Aside0.mk hb5; have HR4 := Aside0.mk hr4; have HB4 := Aside0.mk hb4; clear hb5 hr4 hb4)
  refine bodyPost_ret (results_cell_row rfl _ _ (w.heap.size + 1) 71 #[.slice A4 r1.length c4, .int .i64 r2] (0, 0) _ rfl ?_ Try.underlying71 rfl (by kernel_rfl)) rfl ?_
  · exact blk_set (blk_set HB5.out 0 (.slice A4 r1.length c4)) 1 (.int .i64 r2)
  · have hb0 : Below w.heap.size w w4 := below_step (below_alloc (below_alloc (below_alloc (Below.refl _ _) _) _) _) HB4.out
    refine ⟨_, rfl, ?_, ?_⟩
    · refine Kd.R_mono (Kd.R_far (Kd.R_far (Kd.R_types HR4.out HB5.out (by decide)) (fun k hk => hk.2) _) (fun k hk => hk.2) _) (fun _ _ => trivial) |> fun q => Kd.R_lower q (by simp; omega)
    · exact (hb0.setCell (p := ⟨w.heap.size + 1, 0, none⟩) (Nat.le_succ _) _).setCell (p := ⟨w.heap.size + 1, 1, none⟩) (Nat.le_succ _) _
theorem first_new (w : World) (o1 o2 : Obj) : ((w.alloc o1).alloc o2).heap[w.heap.size]? = some o1 :=
  (Below.heap_alloc _ _ _ (by simp)).trans (heap_alloc_new _ _)
theorem last_new (w : World) (o1 o2 : Obj) : ((w.alloc o1).alloc o2).heap[w.heap.size + 1]? = some o2 := by
  have e : (w.alloc o1).heap.size = w.heap.size + 1 := by simp
  rw [← e]
  exact heap_alloc_new _ _
set_option maxHeartbeats 2000000 in
set_option maxRecDepth 100000 in
theorem ref_take_none (k : Nat) (A : Option Addr) (c : Nat) (l : List S82) (clock x : Int) (w : World) (hr : Kd.C k82 w A l.length l) (hc : l.length ≤ c)
    (h : dogwatchref07_which.f k l clock = some 0) :
    Calls Try.prog 67 #[.agg #[.slice A l.length c, .int .i64 clock], .int .i64 x] w fun e w' => e = .returned (.tuple #[.agg #[.slice A l.length c, .int .i64 clock], .int .i64 0]) ∧ Below w.heap.size w w' := by
  have hu := Try.underlying71
  have HC := Aside0.mk (fun (W : World) (hW : Kd.C k82 W A l.length l) => dogwatchref07_which.calls k A c l clock 0 W hW hc h)
  have HR := Aside0.mk hr
  clear hr hc h
  generalize l.length = n at *
  go_enter Try.func67, Try.ntmps67
  go_wp2_with (go_at_call 75; (with_reducible refine (HC.out _ (Kd.C_alloc (Kd.C_alloc HR.out _) _)).mono ?_); rintro e w3 ⟨rfl, hb3⟩; have hb4 : w3.heap[w.heap.size]? = some (.cells #[.slice A n c, .int .i64 clock] 71 (0, 0)) := (hb3.block _ (by simp <;> omega)).trans (first_new _ _ _); have hb5 : w3.heap[w.heap.size + 1]? = some (.cells #[.slice none 0 0, .int .i64 0] 71 (0, 0)) := (hb3.block _ (by simp <;> omega)).trans (last_new _ _ _); have j0 := (blk_cell hb4 0).trans rfl; have j1 := (blk_cell hb4 1).trans rfl; have k0 := (blk_cell hb5 0).trans rfl; have k1 := (blk_cell hb5 1).trans rfl; have f0 := blk_frozen hb5 0; have f1 := blk_frozen hb5 1; have HB5 := Aside0.mk hb5; have HB3 := Aside0.mk hb3; clear hb5 hb4 hb3)
  refine bodyPost_ret (results_ct rfl _ _ (w.heap.size + 1) 71 #[.slice A n c, .int .i64 clock] (0, 0) _ rfl ?_ Try.underlying71 rfl (by kernel_rfl)) rfl ?_
  · exact blk_set (blk_set HB5.out 0 (.slice A n c)) 1 (.int .i64 clock)
  · have hb0 : Below w.heap.size w w3 := below_step (below_alloc (below_alloc (Below.refl _ _) _) _) HB3.out
    exact ⟨rfl, (hb0.setCell (p := ⟨w.heap.size + 1, 0, none⟩) (Nat.le_succ _) _).setCell (p := ⟨w.heap.size + 1, 1, none⟩) (Nat.le_succ _) _⟩
set_option maxHeartbeats 2000000 in
set_option maxRecDepth 100000 in
theorem ref_take_some (k : Nat) (A : Option Addr) (c : Nat) (l : List S82) (clock x : Int) (j : Nat) (s : S82) (r1 : List S82) (r2 : Int) (w : World) (hr : Kd.C k82 w A l.length l) (hc : l.length ≤ c) (hj : l[j]? = some s) (hm : l.length ≤ 1024)
    (h0 : dogwatchref07_which.f k l clock = some ((j : Int) + 1)) (h : dogwatchref07_with.f l clock ((j : Int) + 1) x true s.f2 s.f3 = some (r1, r2)) :
    Calls Try.prog 67 #[.agg #[.slice A l.length c, .int .i64 clock], .int .i64 x] w fun e w' => ∃ v : Value, e = .returned (.tuple #[.agg #[v, .int .i64 r2], .int .i64 ((j : Int) + 1)]) ∧ Kd.R k82 82 w' w.heap.size (fun _ => True) v r1 ∧ Below w.heap.size w w' := by
  obtain ⟨ad, rfl, q0, q1, q2, q3⟩ := at82 hr j s hj
  have hjl : j < l.length := (List.getElem?_eq_some_iff.mp hj).1
  have p0 := eq_true (show (0 : Int) ≤ (j : Int) by omega)
  have p1 := eq_true (show (j : Int) < (l.length : Int) by omega)
  have ew : wrap64 (j : Int) = (j : Int) := by unfold wrap64; omega
  have d1 : ((j : Int) + 1 == 0) = false := beq_eq_false_iff_ne.mpr (by omega)
  have hu := Try.underlying71
  have hu2 := Try.underlying82
  have HC := Aside0.mk (fun (W : World) (hW : Kd.C k82 W (some ad) l.length l) => dogwatchref07_which.calls k (some ad) c l clock ((j : Int) + 1) W hW hc h0)
  have CW := Aside0.mk (fun (W : World) (hW : Kd.C k82 W (some ad) l.length l) => dogwatchref07_with.calls (some ad) c l clock ((j : Int) + 1) x true s.f2 s.f3 r1 r2 W hW hc h)
  have HR := Aside0.mk hr
  have T0 := Aside0.mk q0
  have T1 := Aside0.mk q1
  have T2 := Aside0.mk q2
  have T3 := Aside0.mk q3
  clear hr hc hj hm h h0 hjl q0 q1 q2 q3
  obtain ⟨n, hn⟩ : ∃ n, n = l.length := ⟨_, rfl⟩
  rw [← hn] at p1 HC CW HR ⊢
  clear hn
  go_enter Try.func67, Try.ntmps67
  go_wp2_with (first
    | (go_at_call 75; (with_reducible refine (HC.out _ (Kd.C_alloc (Kd.C_alloc HR.out _) _)).mono ?_); rintro e w3 ⟨rfl, hb3⟩; have hb0 : Below w.heap.size w w3 := below_step (below_alloc (below_alloc (Below.refl _ _) _) _) hb3; have hb4 : w3.heap[w.heap.size]? = some (.cells #[.slice (some ad) n c, .int .i64 clock] 71 (0, 0)) := (hb3.block _ (by simp <;> omega)).trans (first_new _ _ _); have hb5 : w3.heap[w.heap.size + 1]? = some (.cells #[.slice none 0 0, .int .i64 0] 71 (0, 0)) := (hb3.block _ (by simp <;> omega)).trans (last_new _ _ _); have j0 := (blk_cell hb4 0).trans rfl; have j1 := (blk_cell hb4 1).trans rfl; have q0 := pw_cell_below hb0 T0.out; have q1 := pw_cell_below hb0 T1.out; have q2 := pw_cell_below hb0 T2.out; have q3 := pw_cell_below hb0 T3.out; have l0 := blk_lt hb4; have l1 := blk_lt hb5; have HB5 := Aside0.mk hb5; have HB0 := Aside0.mk hb0; clear hb5 hb4 hb3 hb0)
    | (go_at_call 76; (with_reducible refine (CW.out _ (Kd.C_alloc (Kd.C_below HR.out HB0.out) _)).mono ?_); rintro e w4 ⟨v, rfl, hr4, hb4⟩; obtain ⟨A4, c4, rfl⟩ := Kd.R_slice hr4; have hb6 : w4.heap[w.heap.size + 1]? = some (.cells #[.slice none 0 0, .int .i64 0] 71 (0, 0)) := (hb4.block _ (by have := blk_lt HB5.out; simp <;> omega)).trans ((Below.heap_alloc _ _ _ (blk_lt HB5.out)).trans HB5.out); have k0 := (blk_cell hb6 0).trans rfl; have k1 := (blk_cell hb6 1).trans rfl; have f0 := blk_frozen hb6 0; have f1 := blk_frozen hb6 1; have HB6 := Aside0.mk hb6; have HR4 := Aside0.mk hr4; have HB4 := Aside0.mk hb4; clear hb6 hr4 hb4))
  refine bodyPost_ret (results_ct rfl _ _ (w.heap.size + 1) 71 #[.slice A4 r1.length c4, .int .i64 r2] (0, 0) _ rfl ?_ Try.underlying71 rfl (by kernel_rfl)) rfl ?_
  · exact blk_set (blk_set HB6.out 0 (.slice A4 r1.length c4)) 1 (.int .i64 r2)
  · have hb0 : Below w.heap.size w w4 := below_step (below_alloc HB0.out _) HB4.out
    refine ⟨_, rfl, ?_, ?_⟩
    · refine Kd.R_mono (Kd.R_far (Kd.R_far (Kd.R_types HR4.out HB6.out (by decide)) (fun k hk => hk.2) _) (fun k hk => hk.2) _) (fun _ _ => trivial) |> fun q => Kd.R_lower q (by have := HB0.out.size; simp <;> omega)
    · exact (hb0.setCell (p := ⟨w.heap.size + 1, 0, none⟩) (Nat.le_succ _) _).setCell (p := ⟨w.heap.size + 1, 1, none⟩) (Nat.le_succ _) _
end Go.Proofs.Ytgjcbpeliimhaaa.PSl
