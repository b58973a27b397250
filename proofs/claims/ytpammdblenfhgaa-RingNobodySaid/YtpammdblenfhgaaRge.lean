/- ring.Ring, walked by hand: slices.Clone, Fork. -/
import Derived.Test.YtpammdblenfhgaaRgd
namespace Go.Proofs.Ytpammdblenfhgaa.Rg
open Go.RowKit Go.Proofs.YtpammdblenfhgaaW.PrintWords Go.Proofs.YtpammdblenfhgaaW.PrintLast Go.Proofs.YtpammdblenfhgaaW.PrintMore Pt PRg Go.Proofs.Ytpammdblenfhgaa.FqMath
set_option linter.unusedVariables false
set_option linter.unusedSimpArgs false
section
variable {w w' : World} {F : Nat → Prop} {g : Nat} {s : Rg} {P : Nat → Prop} {v : Value} {l : List Mb}
set_option maxHeartbeats 2000000 in
set_option maxRecDepth 100000 in
theorem clone_calls (h : Row w P v l) (hl : l.length ≤ 1000) : Calls Try.prog 65 #[v] w fun e w' => ∃ v', e = .returned v' ∧ Row w' (fun k => w.heap.size ≤ k) v' l ∧ Below w.heap.size w w' := by
  have heq : ∀ w A n c n' c', (binOp .eql 56 (.slice A n c) (.slice none n' c')).run Try.prog w = .ok (.bool A.isNone) w := fun w A n c n' c' => Lib.run_eql_slice_nil w 56 103 A n c n' c' Try.underlying56
  rcases h with ⟨rfl, rfl⟩ | ⟨a, c, sp, rfl, hp, hb, h1, h2⟩
  · have heq0 := fun w => heq w none 0 0 0 0
    clear heq
    go_enter Try.func65, Try.ntmps65
    go_wp2
    go_ret
    exact ⟨_, rfl, .inl ⟨rfl, rfl⟩, Below.refl _ _⟩
  · have heq0 := fun w => heq w (some ⟨a, 0, none⟩) l.length c 0 0
    clear heq
    have hB0 : (w.alloc (.cells #[] 103)).heap[a]? = some (.cells (mbs l ++ sp).toArray 103 (0, 0)) := (Below.heap_alloc w _ _ (blk_lt hb)).trans hb
    have hsz : w.heap.size ≤ (w.alloc (.cells #[] 103)).heap.size := by simp
    have hcell : ∀ j u, (mbs l)[j]? = some u → (w.alloc (.cells #[] 103)).cell? (Addr.add ⟨a, 0, none⟩ j) = some u := fun j u hj => by
      rw [Addr.add_lit]
      refine (blk_cell hB0 (0 + j)).trans ?_
      rw [Nat.zero_add]
      simp only [List.getElem?_toArray]
      rw [List.getElem?_append_left (List.getElem?_eq_some_iff.1 hj).1]
      exact hj
    obtain ⟨i0, hi0, hz0, hzs, hzb⟩ := info_parts info103
    have hsrc : Src Try.prog i0.size 56 (.slice (some ⟨a, 0, none⟩) l.length c) l.length (mbs l) (w.alloc (.cells #[] 103)) := by
      rw [hzs]
      exact Src.ofSlice (size := 4) _ Try.underlying56 ⟨a, 0, none⟩ l.length c (mbs l) (mbs_length l) hcell (fun u hu => mbs_one _ u hu)
    have hal : w.alloc (.cells #[] 103) = w.alloc (.cells #[] 103) := rfl
    by_cases h0 : l.length = 0
    · have hl0 := List.length_eq_zero_iff.1 h0
      subst hl0
      have hrun : ∀ ty, (Builtin.append_ #[56, 56] ty #[.slice (some ⟨w.heap.size, 0, none⟩) 0 0, .slice (some ⟨a, 0, none⟩) 0 c]).run Try.prog (w.alloc (.cells #[] 103)) = .ok (.slice (some ⟨w.heap.size, 0, none⟩) 0 0) (w.alloc (.cells #[] 103)) := fun ty => by
        have h := run_append_room_src (P := Try.prog) (w := w.alloc (.cells #[] 103)) 56 56 ty 103 i0 Try.underlying56 hi0 w.heap.size 0 0 0 (.slice (some ⟨a, 0, none⟩) 0 c) 0 [] hsrc (Nat.le_refl _) (fun j hj => by simp at hj) (fun j hj => by simp at hj)
        exact h
      clear hsrc hcell hB0 hzs hi0 hz0 hzb
      simp only [List.length_nil] at heq0 ⊢
      go_enter Try.func65, Try.ntmps65
      go_wp2_with (at_builtin; refine Lib.wpList_append_run _ rfl _ _ _ _ rfl _ _ rfl rfl _ _ (hrun _) ?_)
      go_ret
      exact ⟨_, rfl, .inr ⟨w.heap.size, 0, [], rfl, Nat.le_refl _, heap_alloc_new w _, rfl, Nat.zero_le _⟩, below_alloc (Below.refl _ _) _⟩
    · have hold : (Builtin.firstCells i0.size 0 (.slice (some ⟨w.heap.size, 0, none⟩) 0 0)).run Try.prog (w.alloc (.cells #[] 103)).drew = .ok ([] : List Value).toArray (w.alloc (.cells #[] 103)).drew := by
        rw [hzs]
        exact run_firstCells_some _ 4 0 ⟨w.heap.size, 0, none⟩ 0 0 [] rfl (fun j u hj => by simp at hj)
      have hrun : ∀ ty, (Builtin.append_ #[56, 56] ty #[.slice (some ⟨w.heap.size, 0, none⟩) 0 0, .slice (some ⟨a, 0, none⟩) l.length c]).run Try.prog (w.alloc (.cells #[] 103)) = .ok (.slice (some ⟨w.heap.size + 1, 0, none⟩) l.length (grownCap (w.alloc (.cells #[] 103)) l.length 0 103)) ((w.alloc (.cells #[] 103)).drew.alloc (.cells (mbs l ++ spare (w.alloc (.cells #[] 103)) l.length 0).toArray 103)) := fun ty => by
        have h := run_append_grow_src (P := Try.prog) (w := w.alloc (.cells #[] 103)) 56 56 ty 103 i0 _ Try.underlying56 hi0 hz0 (some ⟨w.heap.size, 0, none⟩) 0 0 [] hold (.slice (some ⟨a, 0, none⟩) l.length c) l.length (mbs l) hsrc (by omega) (by omega) (by rw [hzb]; exact growslice_fits (by omega) (by omega))
        rw [h]
        simp only [Nat.zero_add, List.nil_append, spare]
        congr 1
        · simp
        · congr 2
          simp
      have hG := grownCap_ge (w.alloc (.cells #[] 103)) l.length 0 103
      have hG2 := grownCap_le_maxLen (w.alloc (.cells #[] 103)) l.length 0 103 (by unfold maxLen; omega)
      clear hsrc hcell hB0 hzs hi0 hz0 hzb hold
      go_enter Try.func65, Try.ntmps65
      go_wp2_with (at_builtin; refine Lib.wpList_append_run _ rfl _ _ _ _ rfl _ _ rfl rfl _ _ (hrun _) ?_)
      go_ret
      refine ⟨_, rfl, .inr ⟨w.heap.size + 1, _, spare (w.alloc (.cells #[] 103)) l.length 0, rfl, by show w.heap.size ≤ w.heap.size + 1; omega, ?_, ?_, hG2⟩, below_drew1 (below_alloc (below_alloc (Below.refl _ _) _) _)⟩
      · have e := heap_alloc_new (w.alloc (.cells #[] 103)) (.cells (mbs l ++ spare (w.alloc (.cells #[] 103)) l.length 0).toArray 103)
        have e2 : (w.alloc (.cells #[] 103)).heap.size = w.heap.size + 1 := by simp
        rw [e2] at e
        exact e
      · simp only [spare, Array.length_toList, zc_size]
        omega
theorem Rep.lims (h : Rep w F g s) : 2048 ≤ s.lim ∧ s.lim ≤ 1099511627776 := by
  obtain ⟨v, h⟩ := h
  exact ⟨h.lim0, h.lim1⟩
set_option maxHeartbeats 2000000 in
theorem fork_none {p : Value} (h : NoneV w p) : Calls Try.prog 30 #[p] w fun e w' => e = .returned (.pointer none) ∧ w = w' := by
  have H := Aside0.mk h
  clear h
  go_enter Try.func30, Try.ntmps30
  go_wp2_with (go_at_call 50; (with_reducible refine (none_v H.out).mono ?_); rintro e w' ⟨rfl, rfl⟩)
  go_ret
  exact ⟨rfl, rfl⟩
set_option maxHeartbeats 2000000 in
set_option maxRecDepth 100000 in
theorem fork_calls (h : Rep w F g s) (hl : s.l.length ≤ 1000) : Calls Try.prog 30 #[.pointer (some ⟨g, 0, none⟩)] w fun e w' => ∃ g', e = .returned (.pointer (some ⟨g', 0, none⟩)) ∧ Rep w' (fun k => w.heap.size ≤ k) g' s ∧ Below w.heap.size w w' := by
  have HX := Aside0.mk h
  obtain ⟨v, hA⟩ := h
  obtain ⟨A, cap, rfl, hcap, hmx⟩ := hA.row.slice
  have H := Aside0.mk hA
  have HL := Aside0.mk hl
  have k0 : w.cell? ⟨g, 0, none⟩ = some (.int .u64 s.lim) := (blk_cell hA.hd 0).trans rfl
  have k1 : w.cell? ⟨g, 1, none⟩ = some (.slice A s.l.length cap) := (blk_cell hA.hd 1).trans rfl
  have k2 : w.cell? ⟨g, 2, none⟩ = some (.int .u64 s.num) := (blk_cell hA.hd 2).trans rfl
  have k3 : w.cell? ⟨g, 3, none⟩ = some (.int .u64 s.den) := (blk_cell hA.hd 3).trans rfl
  have K1 : ∀ o, (w.alloc o).cell? ⟨g, 1, none⟩ = some (.slice A s.l.length cap) := fun o => pw_cell_below (below_alloc (Below.refl _ _) o) k1
  have HCL := Aside0.mk (fun o => clone_calls (RepA.row (hA.below (below_alloc (Below.refl w.heap.size w) o))) hl)
  clear hA hl hcap hmx
  go_enter Try.func30, Try.ntmps30
  go_wp2_with (first
    | (go_at_call 50; (with_reducible refine (none_rep HX.out).mono ?_); rintro e w' ⟨rfl, rfl⟩)
    | (go_at_call 65; (with_reducible refine (HCL.out _).mono ?_); rintro e w2 ⟨v2, rfl, hrow, hb⟩; obtain ⟨A2, c2, e2, _, _⟩ := hrow.slice; subst e2; have HRW := Aside0.mk hrow; have hq := (hb.block w.heap.size (by simp)).trans (heap_alloc_new w _); have q1 := (blk_cell hq 1).trans rfl; have z1 := blk_frozen hq 1; have HQ := Aside0.mk hq; have HB := Aside0.mk hb; clear hrow hb hq))
  go_ret
  have hs2 := HB.out.size
  have hgs : w.heap.size < w2.heap.size := blk_lt HQ.out
  have hal : (w.alloc (Obj.cells #[Value.int IntKind.u64 s.lim, Value.slice A s.l.length cap, Value.int IntKind.u64 s.num, Value.int IntKind.u64 s.den] 60)).heap.size = w.heap.size + 1 := by simp
  refine ⟨_, rfl, ⟨_, Nat.le_refl _, blk_set HQ.out 1 _, ?_, HX.out.lims.1, HX.out.lims.2⟩, (below_step (below_alloc (Below.refl _ _) _) HB.out).setCell (Nat.le_refl _) _⟩
  rcases HRW.out with q | ⟨b, c, sp, e, hp, hb, r⟩
  · exact .inl q
  · have hp2 : w.heap.size + 1 ≤ b := by rw [← hal]; exact hp
    exact .inr ⟨b, c, sp, e, ⟨Nat.le_of_succ_le hp2, Nat.ne_of_gt hp2⟩, blk_far hb (show b ≠ w.heap.size from Nat.ne_of_gt hp2) _, r⟩
end
end Go.Proofs.Ytpammdblenfhgaa.Rg
