/- ring.Ring, walked by hand: the floor. -/
import Derived.Test.YtpammdblenfhgaaRg1
namespace Go.Proofs.Ytpammdblenfhgaa.Rg
open Go.RowKit Go.Proofs.YtpammdblenfhgaaW.PrintWords Go.Proofs.YtpammdblenfhgaaW.PrintLast Go.Proofs.YtpammdblenfhgaaW.PrintMore Pt PRg
set_option linter.unusedVariables false
set_option linter.unusedSimpArgs false
/-- The floor. -/
def floorF (s : Rg) : Int × Int := if (leastN s.l s.l.length).2 = true then ((s.l.getD (leastN s.l s.l.length).1 zM).f2, (s.l.getD (leastN s.l s.l.length).1 zM).f1) else (s.num, s.den)
theorem leastN_ok (l : List Mb) (n : Nat) (h : (leastN l n).2 = true) : (leastN l n).1 < n ∧ (l.getD (leastN l n).1 zM).f3 = true := by
  induction n with
  | zero => cases h
  | succ n ih =>
    rw [leastN] at h ⊢
    by_cases h1 : (l.getD n zM).f3 = true
    · rw [if_pos h1] at h ⊢
      by_cases h2 : (leastN l n).2 = false ∨ less (l.getD n zM) (l.getD (leastN l n).1 zM) = true
      · rw [if_pos h2]
        exact ⟨by omega, h1⟩
      · rw [if_neg h2] at h ⊢
        have := ih h
        exact ⟨by omega, this.2⟩
    · rw [if_neg h1] at h ⊢
      have := ih h
      exact ⟨by omega, this.2⟩
section
variable {w : World} {F : Nat → Prop} {g : Nat} {s : Rg}
set_option maxHeartbeats 2000000 in
set_option maxRecDepth 100000 in
theorem floor_calls (h : Rep w F g s) (hok : ∀ m ∈ s.l, MOk m) (n d : Int) (hf : floorF s = (n, d)) :
    Calls Try.prog 54 #[.pointer (some ⟨g, 0, none⟩)] w fun e w' => e = .returned (.agg #[.int .u64 n, .int .u64 d]) ∧ Below w.heap.size w w' := by
  obtain ⟨b, ok, hb⟩ : ∃ b ok, leastN s.l s.l.length = (b, ok) := ⟨_, _, rfl⟩
  unfold floorF at hf
  rw [hb] at hf
  have HX := Aside0.mk h
  have HO := Aside0.mk hok
  have HB := Aside0.mk hb
  cases ok with
  | true =>
    have hlt := (leastN_ok s.l s.l.length (by rw [hb])).1
    rw [hb] at hlt
    dsimp only at hf hlt
    rw [if_pos rfl] at hf
    obtain ⟨m, hm⟩ : ∃ m, s.l[b]? = some m := ⟨_, List.getElem?_eq_getElem hlt⟩
    rw [List.getD_eq_getElem?_getD, hm] at hf
    obtain ⟨rfl, rfl⟩ : m.f2 = n ∧ m.f1 = d := Prod.mk.inj hf
    have HM := Aside0.mk hm
    have HT := Aside0.mk hlt
    have p2 := eq_true (show (0 : Int) ≤ (b : Int) by omega)
    have p3 := eq_true (show (b : Int) < (s.l.length : Int) by omega)
    clear h hok hb hf hm hlt
    go_enter Try.func54, Try.ntmps54
    go_wp2_with (go_at_call 51; (with_reducible refine (least_calls (HX.out.below (below_alloc (Below.refl _ _) _)) HO.out b true HB.out).mono ?_); rintro e w1 ⟨rfl, hb1⟩; obtain ⟨v, hr⟩ := (HX.out.below (below_alloc (Below.refl _ _) _)).below hb1; obtain ⟨a, cap, sp, ev, _, hblk, _, _⟩ := hr.row.some_ (by have := HT.out; omega); subst ev; have k1 : w1.cell? ⟨g, 1, none⟩ = some (.slice (some ⟨a, 0, none⟩) s.l.length cap) := (blk_cell hr.hd 1).trans rfl; obtain ⟨c0, c1, c2, c3⟩ := mb_cells hblk b m HM.out; have hk := (hb1.block w.heap.size (by simp)).trans (heap_alloc_new w _); have z0 := blk_frozen hk 0; have z1 := blk_frozen hk 1; have y0 := (blk_cell hk 0).trans rfl; have y1 := (blk_cell hk 1).trans rfl; have HB1 := Aside0.mk hb1; clear hr hblk hk hb1 c0 c3)
    refine still_tail 17 (by kernel_rfl) (by kernel_rfl) ?_
    simp only [List.take_succ_cons, List.take_zero, List.drop_succ_cons, List.drop_zero]
    repeat still_step
    refine wpStill_nil ?_
    go_wp2
    refine bodyPost_ret (v := .agg #[.int .u64 m.f2, .int .u64 m.f1]) ?_ rfl ⟨rfl, ?_⟩
    · simp [results, Try.results54, go_sem, y0, y1]
    · exact (((below_alloc (Below.refl _ _) _).trans (HB1.out.mono (by simp))).setCell (Nat.le_refl _) _ |>.setCell (Nat.le_refl _) _).drew
  | false =>
    dsimp only at hf
    rw [if_neg (by decide)] at hf
    obtain ⟨rfl, rfl⟩ : s.num = n ∧ s.den = d := Prod.mk.inj hf
    clear h hok hb hf
    go_enter Try.func54, Try.ntmps54
    go_wp2_with (go_at_call 51; (with_reducible refine (least_calls (HX.out.below (below_alloc (Below.refl _ _) _)) HO.out b false HB.out).mono ?_); rintro e w1 ⟨rfl, hb1⟩; obtain ⟨v, hr⟩ := (HX.out.below (below_alloc (Below.refl _ _) _)).below hb1; have k2 : w1.cell? ⟨g, 2, none⟩ = some (.int .u64 s.num) := (blk_cell hr.hd 2).trans rfl; have k3 : w1.cell? ⟨g, 3, none⟩ = some (.int .u64 s.den) := (blk_cell hr.hd 3).trans rfl; have hk := (hb1.block w.heap.size (by simp)).trans (heap_alloc_new w _); have z0 := blk_frozen hk 0; have z1 := blk_frozen hk 1; have y0 := (blk_cell hk 0).trans rfl; have y1 := (blk_cell hk 1).trans rfl; have HB1 := Aside0.mk hb1; clear hr hk hb1)
    refine bodyPost_ret (v := .agg #[.int .u64 s.num, .int .u64 s.den]) ?_ rfl ⟨rfl, ?_⟩
    · simp [results, Try.results54, go_sem, y0, y1]
    · exact (((below_alloc (Below.refl _ _) _).trans (HB1.out.mono (by simp))).setCell (Nat.le_refl _) _ |>.setCell (Nat.le_refl _) _)
end
end Go.Proofs.Ytpammdblenfhgaa.Rg
