/- slots.Table (string), walked by hand: a slot becomes free; a slot is taken. -/
import Derived.Test.YtgjcbpeliimhaaaSlS2
namespace Go.Proofs.Ytgjcbpeliimhaaa.PSl.S
open Go.RowKit Go.Proofs.YtgjcbpeliimhaaaW.PrintWords Go.Proofs.YtgjcbpeliimhaaaW.PrintLast Go.Proofs.YtgjcbpeliimhaaaW.PrintMore
set_option linter.unusedVariables false
set_option linter.unusedSimpArgs false
theorem info3 : (Try.prog.info? 3).map (fun i => (i.zero, i.size, i.bytes)) = some (some (.int .i64 0), 1, 8) := by kernel_rfl
def grow (w : World) (F : Nat → Prop) : Nat → Prop := fun k => F k ∨ w.heap.size ≤ k
set_option maxHeartbeats 4000000 in
theorem drop_yes {w : World} {F : Nat → Prop} {g : Nat} {s : Tb El} (h : Rep w F g s) (j : Nat) (x0 : El) (gen : Int) (hj : s.l[j]? = some (x0, gen, true)) (hf : s.free.length < 1000000) :
    Calls Try.prog 57 #[.pointer (some ⟨g, 0, none⟩), .int .i64 ((j : Int) + 1), .int .i64 gen] w fun e w' => e = .returned (.int .i64 0) ∧ Rep w' (grow w F) g { l := s.l.set j ((ByteArray.empty : ByteArray), wrap64 (gen + 1), false), free := s.free ++ [(j : Int) + 1], next := s.next, many := wrap64 (s.many - 1) } ∧ Turns w w' F := by
  obtain ⟨a, v, h⟩ := h
  obtain ⟨c0, c1, c2⟩ := slot_cells h j x0 gen true hj
  have f0 := blk_frozen h.sl (j * 3)
  have f1 := blk_frozen h.sl (j * 3 + 1)
  have f2 := blk_frozen h.sl (j * 3 + 2)
  have k1 : w.cell? ⟨g, 1, none⟩ = some v := (blk_cell h.hd 1).trans rfl
  have hga : g ≠ a := h.ne
  have hag : a ≠ g := h.ne.symm
  have d1 : (gen == gen) = true := beq_iff_eq.mpr rfl
  have d2 : (gen != gen) = false := by simp
  obtain ⟨A1, cap1, ev⟩ := Kd.R_slice h.fr
  have hga2 : g < w.heap.size := blk_lt h.hd
  have haa : a < w.heap.size := blk_lt h.sl
  have FR : Aside0 (∀ W : World, Kept w W (fun k => k = g ∨ k = a) → Kd.R (Kd.int .i64) 3 W 0 (fun k => (F k ∨ w.heap.size ≤ k) ∧ k ≠ g ∧ k ≠ a) v s.free) := ⟨fun W hW => Kd.R_mono (Kd.R_kept h.fr hW (fun k hk hkk => by rcases hkk with e | e; exact hk.2.1 e; exact hk.2.2 e)) (fun k hk => ⟨.inl hk.1, hk.2⟩)⟩
  have H := Aside0.mk h
  have HJ := Aside0.mk hj
  have HF := Aside0.mk hf
  have HG := Aside0.mk hga2
  have HA := Aside0.mk haa
  clear h hj hf hga2 haa
  subst ev
  go_enter Try.func57, Try.ntmps57
  have hm := H.out.hd
  have hs := H.out.sl
  have HM := Aside0.mk hm
  have HS := Aside0.mk hs
  clear hm hs
  go_wp2_with (first
    | (go_at_call 73; (with_reducible refine (none_some H.out).mono ?_); rintro e w' ⟨rfl, rfl⟩)
    | (go_at_call 74; (with_reducible refine (at_yes H.out j x0 gen HJ.out).mono ?_); rintro e w' ⟨rfl, rfl⟩)
    | ((with_reducible refine gate_builtin (b := .append) (xs := #[.tmp 46, .tmp 48]) rfl ?_); at_builtin; refine Kd.R_append (Kd.int .i64) (w0 := w) 0 rfl (.tmp 46) (.tmp 48) 28 3 (.int .i64 0) 8 rfl Try.underlying28 info3 rfl (by decide) (by omega) (.slice A1 s.free.length cap1) s.free ((j : Int) + 1) [.int .i64 ((j : Int) + 1)] (fun k => (F k ∨ w.heap.size ≤ k) ∧ k ≠ g ∧ k ≠ a) (fun _ => False) rfl ?aX ?aP (fun _ hk => hk.elim) ?aF ?aO ?aB ?aS ?aL ?_; (case aX => simp only [size_setCell]; rfl); (case aP => exact rfl); (case aF => intro k hk; simp at hk; have := HG.out; have := HA.out; exact ⟨.inr hk, by omega, by omega⟩); (case aO => exact FR.out _ ((((Kept.refl _ _).setCell (.inl (.inr rfl)) _).setCell (.inl (.inr rfl)) _).setCell (.inl (.inr rfl)) _)); (case aB => exact ⟨rfl, rfl, rfl, by simp, fun k hk => by omega⟩); (case aS => exact Nat.zero_le _); (case aL => have := HF.out; omega); intro v1 w3 ho3 hb3 hg3 hat3; obtain ⟨A2, cap2, rfl⟩ := Kd.R_slice ho3; rw [List.length_append, List.length_singleton] at ho3;
        have hv : ∀ k, (Value.slice A1 s.free.length cap1).ownBlock = some k → F k ∧ k ≠ g ∧ k ≠ a := H.out.fr.1;
        have hg4 := (hg3.block g (by simp; exact HG.out) (fun e => (hv g e.symm).2.1 rfl)).trans ((blk_far (blk_far (blk_far HM.out hga _) hga _) hga _));
        have ha4 := (hg3.block a (by simp; exact HA.out) (fun e => (hv a e.symm).2.2 rfl)).trans (blk_set (blk_set (blk_set HS.out (j * 3) _) (j * 3 + 2) _) (j * 3 + 1) _);
        have k1' : w3.cell? ⟨g, 1, none⟩ = some (.slice A1 s.free.length cap1) := (blk_cell hg4 1).trans rfl;
        have k3' : w3.cell? ⟨g, 3, none⟩ = some (.int .i64 s.many) := (blk_cell hg4 3).trans rfl;
        have f1' := blk_frozen hg4 1; have f3' := blk_frozen hg4 3;
        have HO3 := Aside0.mk ho3; have HG3 := Aside0.mk hg3; have HG4 := Aside0.mk hg4; have HA4 := Aside0.mk ha4; have HV := Aside0.mk hv; clear ho3 hb3 hg3 hat3 hg4 ha4 hv))
  go_ret
  refine ⟨rfl, ⟨a, .slice A2 (s.free.length + 1) cap2, ?_⟩, ?_⟩
  · have hjl := (List.getElem?_eq_some_iff.mp HJ.out).1
    have hl : (s.l.set j ((ByteArray.empty : ByteArray), wrap64 (gen + 1), false)).length = s.l.length := List.length_set
    refine ⟨.inl H.out.fg, .inl H.out.fa, hga, ?_, ?_, ?_, by rw [hl]; exact H.out.pos, by rw [hl]; exact H.out.le, by rw [hl]; exact H.out.nx, ?_⟩
    · rw [hl]
      exact blk_set (blk_set HG4.out 1 (.slice A2 (s.free.length + 1) cap2)) 3 (.int .i64 (wrap64 (s.many - 1)))
    · refine (blk_far (blk_far HA4.out hag _) hag _).trans ?_
      congr 2
      apply Array.ext'
      simp only [List.setIfInBounds_toArray]
      rw [List.set_comm _ _ (show j * 3 + 2 ≠ j * 3 + 1 by omega)]
      exact slotCells_set (enc := enc) s.l j _ _ _ hjl
    · exact Kd.R_far (Kd.R_far HO3.out (fun k hk => hk.2.1) _) (fun k hk => hk.2.1) _
    · intro x hx
      show 1 ≤ x ∧ x ≤ ((s.l.set j ((ByteArray.empty : ByteArray), wrap64 (gen + 1), false)).length : Int)
      rw [hl]
      rcases List.mem_append.mp hx with hx | hx
      · exact H.out.fin x hx
      · rw [List.mem_singleton.mp hx]
        omega
  · exact ((((((Turns.refl w F).set (.inl H.out.fa) _).set (.inl H.out.fa) _).set (.inl H.out.fa) _).grown HG3.out (fun k hk => .inl (HV.out k hk).1)).set (.inl H.out.fg) _).set (.inl H.out.fg) _
end Go.Proofs.Ytgjcbpeliimhaaa.PSl.S
