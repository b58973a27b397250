/- dogwatchref13.Decode, walked by hand. -/
import Derived.Test.YtgfkcmmhnibaiaaRwRefNum2
import Derived.Test.YtgfkcmmhnibaiaaRwDecode
import Derived.Test.YtgfkcmmhnibaiaaPRwx4
import Derived.Test.YtgfkcmmhnibaiaaPRwx8
namespace Go.Proofs.Ytgfkcmmhnibaiaa.PRw
open Go.RowKit Go.Proofs.YtgfkcmmhnibaiaaW.PrintWords Go.Proofs.YtgfkcmmhnibaiaaW.PrintLast Go.Proofs.YtgfkcmmhnibaiaaW.PrintMore
set_option linter.unusedVariables false
set_option linter.unusedSimpArgs false
def rowR : Nat → Int → Int → List Int → List Int → Int → Option (List Int × List Int × Int)
  | 0, _, _, _, _, _ => none
  | f + 1, m, j, one, l, er => if j < m then ((refNum f l er 200).bind fun x => if one.length < 1000000 then rowR f m (IntKind.u64.wrap (j + 1)) (one ++ [wrap64 x.1]) x.2.1 x.2.2 else none) else some (one, l, er)
def repR : Nat → Int → Int → List (List Int) → List Int → Option (List (List Int))
  | 0, _, _, _, _ => none
  | f + 1, n, j, rows, one => if j < n then (if rows.length < 1000000 then repR f n (IntKind.u64.wrap (j + 1)) (rows ++ [one]) one else none) else some rows
def rendR (k : Nat) (l0 : List Int) (m : Int) (rows : List (List Int)) (l : List Int) (er : Int) : Option (Int × List (List Int) × Bool) :=
  (dogwatchref09_Reader_End.f l er).bind fun t => if t = 0 then (dogwatchref13_Right.f k (wrap64 m) rows).bind fun r => if r = true then (dogwatchref13_Encode.f k (wrap64 m) rows).bind fun b =>
    if (strOfNums b).toList = (strOfNums l0).toList then some (wrap64 m, rows, true) else some (0, [], false) else some (0, [], false) else some (0, [], false)
def rdecL : Nat → List Int → Int → Int → List (List Int) → List Int → Int → Option (Int × List (List Int) × Bool)
  | 0, _, _, _, _, _, _ => none
  | f + 1, l0, m, left, rows, l, er =>
    if 0 < left ∧ er = 0 then (refNum f l er left).bind fun x => (rowR f m 0 [] x.2.1 x.2.2).bind fun y =>
      if x.1 = 0 then some (0, [], false) else (repR f x.1 0 rows y.1).bind fun rows' => rdecL f l0 m (IntKind.u64.wrap (left - x.1)) rows' y.2.1 y.2.2
    else rendR f l0 m rows l er
def dogwatchref13_Decode.f (k : Nat) (l : List Int) : Option (Int × List (List Int) × Bool) :=
  (refNum k l 0 16).bind fun a => (refNum k a.2.1 a.2.2 4096).bind fun b => rdecL k l a.1 b.1 [] b.2.1 b.2.2
theorem rowR_mono : ∀ k m j one l er, LeO (rowR k m j one l er) (rowR (k + 1) m j one l er)
  | 0, _, _, _, _, _ => fun r h => by simp [rowR] at h
  | k + 1, m, j, one, l, er => by
    rw [rowR, rowR]
    refine LeO.ite ?_ (LeO.refl _)
    refine LeO.bind (refNum_mono _ _ _ _) (fun _ => ?_)
    exact LeO.ite (rowR_mono k _ _ _ _ _) (LeO.refl _)
theorem repR_mono : ∀ k n j rows one, LeO (repR k n j rows one) (repR (k + 1) n j rows one)
  | 0, _, _, _, _ => fun r h => by simp [repR] at h
  | k + 1, n, j, rows, one => by
    rw [repR, repR]
    exact LeO.ite (LeO.ite (repR_mono k _ _ _ _) (LeO.refl _)) (LeO.refl _)
theorem rendR_mono (l0 : List Int) (m : Int) (rows : List (List Int)) (l : List Int) (er : Int) (k : Nat) : LeO (rendR k l0 m rows l er) (rendR (k + 1) l0 m rows l er) := by
  unfold rendR
  refine LeO.bind (LeO.refl _) (fun _ => ?_)
  refine LeO.ite ?_ (LeO.refl _)
  refine LeO.bind (dogwatchref13_Right.mono _ _ _) (fun _ => ?_)
  refine LeO.ite ?_ (LeO.refl _)
  exact LeO.bind (dogwatchref13_Encode.mono _ _ _) (fun _ => LeO.refl _)
theorem rdecL_mono : ∀ k l0 m left rows l er, LeO (rdecL k l0 m left rows l er) (rdecL (k + 1) l0 m left rows l er)
  | 0, _, _, _, _, _, _ => fun r h => by simp [rdecL] at h
  | k + 1, l0, m, left, rows, l, er => by
    rw [rdecL, rdecL]
    refine LeO.ite (LeO.bind (refNum_mono _ _ _ _) (fun _ => LeO.bind (rowR_mono _ _ _ _ _ _) (fun _ => ?_))) (rendR_mono _ _ _ _ _ _)
    exact LeO.ite (LeO.refl _) (LeO.bind (repR_mono _ _ _ _ _) (fun _ => rdecL_mono k _ _ _ _ _ _))
theorem dogwatchref13_Decode.mono : ∀ a0 k, LeO (dogwatchref13_Decode.f k a0) (dogwatchref13_Decode.f (k + 1) a0) := by
  intro a0 k
  unfold dogwatchref13_Decode.f
  exact LeO.bind (refNum_mono _ _ _ _) (fun _ => LeO.bind (refNum_mono _ _ _ _) (fun _ => rdecL_mono _ _ _ _ _ _ _))
/-- The reader by value: what is left lies in the blocks below N. -/
theorem refNum_step (k N : Nat) (A : Option Addr) (c : Nat) (l : List Int) (er limit n : Int) (l' : List Int) (er' : Int) (W : World) (hF : Kd.F (Kd.int .u8) W (fun b => b < N) A l.length l) (hc : l.length ≤ c) (hN : N ≤ W.heap.size) (h : refNum k l er limit = some (n, l', er')) :
    Calls Try.prog 63 #[.agg #[.slice A l.length c, .int .i64 er], .int .u64 limit] W fun e w' => ∃ A' c', e = .returned (.tuple #[.agg #[.slice A' l'.length c', .int .i64 er'], .int .u64 n]) ∧ l'.length ≤ c' ∧ Kd.F (Kd.int .u8) w' (fun b => b < N) A' l'.length l' ∧ Below W.heap.size W w' := by
  by_cases he : er = 0
  · subst he
    refine (refNum_ok k A c l l' er' limit n W (Kd.F_now hF) hc h).mono ?_
    rintro e w' ⟨A', c', rfl, hc', hs, hb⟩
    refine ⟨A', c', rfl, hc', ?_, hb⟩
    rcases hs with ⟨m, hm, rfl, rfl⟩ | rfl
    · exact Kd.F_below (F_cut hF m hm hc) hb
    · exact F_none _ _ _
  · unfold refNum at h
    rw [if_neg he] at h
    simp only [Option.some.injEq, Prod.mk.injEq] at h
    obtain ⟨rfl, rfl, rfl⟩ := h
    refine (refNum_err0 k A c l er limit W (Kd.F_now hF) hc (bne_iff_ne.mpr he)).mono ?_
    rintro e w' ⟨rfl, hb⟩
    exact ⟨_, _, rfl, hc, Kd.F_below hF hb, hb⟩
/-- The reader's variable, and all that was. -/
structure RS (w0 w : World) (l : List Int) (er : Int) (A : Option Addr) (c : Nat) : Prop where
  blk : w.heap[w0.heap.size]? = some (.cells #[.slice A l.length c, .int .i64 er] 97 (0, 0))
  le : l.length ≤ c
  foot : Kd.F (Kd.int .u8) w (fun b => b < w0.heap.size) A l.length l
  bel : Below w0.heap.size w0 w
theorem RS.lt {w0 w : World} {l : List Int} {er : Int} {A : Option Addr} {c : Nat} (h : RS w0 w l er A c) : w0.heap.size < w.heap.size := blk_lt h.blk
theorem RS.size {w0 w : World} {l : List Int} {er : Int} {A : Option Addr} {c : Nat} (h : RS w0 w l er A c) : w0.heap.size ≤ w.heap.size := Nat.le_of_lt h.lt
theorem RS.below {w0 w w' : World} {l : List Int} {er : Int} {A : Option Addr} {c : Nat} (h : RS w0 w l er A c) (hb : Below w.heap.size w w') : RS w0 w' l er A c :=
  ⟨blk_below h.blk hb, h.le, Kd.F_below h.foot hb, below_step h.bel hb⟩
theorem RS.put {w0 w : World} {l l' : List Int} {er er' : Int} {A A' : Option Addr} {c c' : Nat} (h : RS w0 w l er A c) (hc : l'.length ≤ c') (hF : Kd.F (Kd.int .u8) w (fun b => b < w0.heap.size) A' l'.length l') :
    RS w0 ((w.setCell ⟨w0.heap.size, 0, none⟩ (.slice A' l'.length c')).setCell ⟨w0.heap.size, 1, none⟩ (.int .i64 er')) l' er' A' c' := by
  refine ⟨blk_put (cs := #[.slice A' l'.length c', .int .i64 er]) (blk_put (cs := #[.slice A l.length c, .int .i64 er]) h.blk 0 _ rfl) 1 _ rfl, hc, ?_, below_set (below_set h.bel (Nat.le_refl _)) (Nat.le_refl _)⟩
  exact Kd.F_far (Kd.F_far hF (fun k hk => by show k ≠ w0.heap.size; omega) _) (fun k hk => by show k ≠ w0.heap.size; omega) _
theorem RS.row {w0 w w' : World} {l : List Int} {er : Int} {A : Option Addr} {c : Nat} {row : Option Nat} (h : RS w0 w l er A c) (hg : w.grownBy w' row) (hrow : ∀ k, row = some k → w0.heap.size ≤ k ∧ ∃ cs t, w.heap[k]? = some (.cells cs t (0, 0)) ∧ t ≠ 97) : RS w0 w' l er A c := by
  have ne : some w0.heap.size ≠ row := fun e => by
    obtain ⟨_, cs, t, h1, h2⟩ := hrow _ e.symm
    have := h.blk
    rw [h1] at this
    simp only [Option.some.injEq, Obj.cells.injEq] at this
    exact h2 this.2.1
  refine ⟨(hg.block _ h.lt ne).trans h.blk, h.le, Kd.F_grown h.foot hg (fun k hk e => ?_), h.bel.grown hg h.size (fun k hk => (hrow k hk).1)⟩
  have := (hrow k e.symm).1
  omega
theorem RS.cells {w0 w : World} {l : List Int} {er : Int} {A : Option Addr} {c : Nat} (h : RS w0 w l er A c) : w.cell? ⟨w0.heap.size, 0, none⟩ = some (.slice A l.length c) ∧ w.cell? ⟨w0.heap.size, 1, none⟩ = some (.int .i64 er) ∧ w.frozen? ⟨w0.heap.size, 0, none⟩ = false ∧ w.frozen? ⟨w0.heap.size, 1, none⟩ = false := by
  have hb := h.blk
  exact ⟨by simp [World.cell?, hb], by simp [World.cell?, hb], by simp [World.frozen?, hb], by simp [World.frozen?, hb]⟩
theorem R_put {α : Type} {d : Kd α} {e base : Nat} {w0 w : World} {l : List Int} {er : Int} {A : Option Addr} {c : Nat} {v : Value} {xs : List α} (h : Kd.R d e w base (fun _ => True) v xs) (hr : RS w0 w l er A c) (ht : ∀ q, q ∈ e :: d.E → q ≠ 97) (u1 u2 : Value) :
    Kd.R d e ((w.setCell ⟨w0.heap.size, 0, none⟩ u1).setCell ⟨w0.heap.size, 1, none⟩ u2) base (fun _ => True) v xs := by
  have h1 := Kd.R_types h hr.blk ht
  exact Kd.R_mono (Kd.R_far (Kd.R_far h1 (fun k hk => hk.2) _) (fun k hk => hk.2) _) (fun _ _ => trivial)
theorem R_putok {α : Type} {d : Kd α} {e base : Nat} {ok : Nat → Prop} {w0 w : World} {l : List Int} {er : Int} {A : Option Addr} {c : Nat} {v : Value} {xs : List α} (h : Kd.R d e w base ok v xs) (hr : RS w0 w l er A c) (ht : ∀ q, q ∈ e :: d.E → q ≠ 97) (u1 u2 : Value) :
    Kd.R d e ((w.setCell ⟨w0.heap.size, 0, none⟩ u1).setCell ⟨w0.heap.size, 1, none⟩ u2) base ok v xs := by
  have h1 := Kd.R_types h hr.blk ht
  exact Kd.R_mono (Kd.R_far (Kd.R_far h1 (fun k hk => hk.2) _) (fun k hk => hk.2) _) (fun _ hk => hk.1)
theorem held_more {P : Program} {md : Region.Mode} {ops : Array Oper} {Q : Exit → Act → World → Prop} {S S' : World → Prop} (hS : ∀ w, S' w → S w) :
    ∀ (fuel : Nat) (listed : Array Bool) (a : Act) (w : World), wpAnyH P md ops Q S' fuel listed a w → wpAnyH P md ops Q S fuel listed a w
  | 0, _, _, _, h => h
  | fuel + 1, _, _, _, h => ⟨h.1, fun i hi => wpOp_mono (fun a' w' h' => ⟨hS _ h'.1, held_more hS fuel _ a' w' h'.2⟩) (h.2 i hi)⟩
def RefPost (w : World) (r1 : Int) (r2 : List (List Int)) (r3 : Bool) (e : Ending) (w' : World) : Prop :=
  ∃ v1_ : Value, e = .returned (.tuple #[.int .i64 r1, v1_, .bool r3]) ∧ Kd.R RR 23 w' w.heap.size (fun _ => True) v1_ r2 ∧ Below w.heap.size w w'
set_option maxHeartbeats 8000000 in
set_option maxRecDepth 100000 in
theorem refDecode_walk (k : Nat) (A0 : Option Addr) (c0 : Nat) (l0 : List Int) (r1 : Int) (r2 : List (List Int)) (r3 : Bool) (w : World) (hf0 : Kd.F (Kd.int .u8) w (fun b => b < w.heap.size) A0 l0.length l0) (hc0 : l0.length ≤ c0) (h : dogwatchref13_Decode.f k l0 = some (r1, r2, r3)) :
    Calls Try.prog 45 #[.slice A0 l0.length c0] w (RefPost w r1 r2 r3) := by
  have HF0 := Aside0.mk hf0
  have HC0 := Aside0.mk hc0
  have hu97 := Try.underlying97
  unfold dogwatchref13_Decode.f at h
  obtain ⟨⟨n1, l1, e1⟩, h1, h⟩ := Option.bind_eq_some_iff.mp h
  obtain ⟨⟨n2, l2, e2⟩, h2, h⟩ := Option.bind_eq_some_iff.mp h
  dsimp only at h1 h2 h
  have H1 := Aside0.mk h1
  have H2 := Aside0.mk h2
  have HH := Aside0.mk h
  clear h1 h2 h hf0 hc0
  have hrs : RS w (w.alloc (.cells #[.slice A0 l0.length c0, .int .i64 0] 97)) l0 0 A0 c0 := ⟨heap_alloc_new w _, HC0.out, Kd.F_alloc HF0.out _, below_alloc (Below.refl _ _) _⟩
  have HRS := Aside0.mk hrs
  clear hrs
  go_enter Try.func45, Try.ntmps45
  go_upto_region 3 with (go_at_call 63; (with_reducible refine (refNum_step k w.heap.size A0 c0 l0 0 16 n1 l1 e1 _ HRS.out.foot HRS.out.le HRS.out.size H1.out).mono ?_); rintro e wa ⟨A1, c1, rfl, hc1, hF1, hb1⟩; have HCa := Aside0.mk hc1; have HFa := Aside0.mk hF1; have HRS1 := Aside0.mk (HRS.out.below hb1); obtain ⟨k0, k1, z0, z1⟩ := HRS1.out.cells; have hlt := HRS1.out.lt; clear hc1 hF1 hb1)
  have hp1 := RS.put (er' := e1) HRS1.out HCa.out HFa.out
  generalize (wa.setCell ⟨w.heap.size, 0, none⟩ (.slice A1 l1.length c1)).setCell ⟨w.heap.size, 1, none⟩ (.int .i64 e1) = wb at hp1 ⊢
  have HRS2 := Aside0.mk hp1
  clear hp1 k0 k1 z0 z1 hlt HRS HRS1 HCa HFa
  obtain ⟨k0, k1, z0, z1⟩ := HRS2.out.cells
  go_upto_region 4 with (go_at_call 63; (with_reducible refine (refNum_step k w.heap.size A1 c1 l1 e1 4096 n2 l2 e2 _ HRS2.out.foot HRS2.out.le HRS2.out.size H2.out).mono ?_); rintro e wa ⟨A2, c2, rfl, hc1, hF1, hb1⟩; have HCa := Aside0.mk hc1; have HFa := Aside0.mk hF1; have HRS3 := Aside0.mk (HRS2.out.below hb1); obtain ⟨k0, k1, z0, z1⟩ := HRS3.out.cells; have hlt := HRS3.out.lt; clear hc1 hF1 hb1)
  have hp1 := RS.put (er' := e2) HRS3.out HCa.out HFa.out
  generalize (wa.setCell ⟨w.heap.size, 0, none⟩ (.slice A2 l2.length c2)).setCell ⟨w.heap.size, 1, none⟩ (.int .i64 e2) = wc at hp1 ⊢
  have HRS4 := Aside0.mk hp1
  clear hp1 k0 k1 z0 z1 hlt HRS2 HRS3 HCa HFa
  go_wp2_with ((with_reducible refine gate_dst (N := 28) rfl ?_); refine Kd.R_lit RR _ 23 ?hg (N := 28) ?hd (xs := ([] : List (List Int))) (inner := []) (ok := fun _ => True) (okp := fun _ => True) ?hr ?hp (fun _ hk => hk) trivial (Below.refl _ _) (Nat.le_refl _) (by simp) ?_; (case hd => rfl); (case hg => rfl); (case hr => first | (go_simp; done) | (go_simp; rfl)); (case hp => exact (Reps.none _ _)); intro v1 w1 ho hb hg_ hnew_; clear hg_ hnew_; have HO1 := Aside0.mk (Kd.R_lower ho HRS4.out.size); have HRS5 := Aside0.mk (HRS4.out.below hb); clear ho hb)
  generalize n1 = m at *
  go_loopg [7, 8] k (fun kq v7 v8 w' => ∃ (left : Int) (v : Value) (rows : List (List Int)) (l : List Int) (er : Int) (A : Option Addr) (c : Nat), v7 = .int .u64 left ∧ v8 = v ∧ Aside0 (rdecL kq l0 m left rows l er = some (r1, r2, r3)) ∧ Aside0 (kq ≤ k) ∧ Aside0 (RS w w' l er A c) ∧ Aside0 (Kd.R RR 23 w' w.heap.size (fun _ => True) v rows))
  case atStart => exact ⟨n2, _, [], l2, e2, A2, c2, rfl, rfl, HH, ⟨Nat.le_refl _⟩, HRS5, HO1⟩
  case round =>
    clear HH HRS5 HO1 HRS4
    obtain ⟨left, v, rows, l, er, A, c, rfl, rfl, HN, HK, HRS, HO⟩ := hrel
    cases gk with
    | zero => exact absurd HN.out (by simp [rdecL])
    | succ k1_ =>
      have hn := HN.out
      simp only [rdecL] at hn
      by_cases cj : 0 < left ∧ er = 0
      · obtain ⟨cj, rfl⟩ := cj
        rw [if_pos ⟨cj, rfl⟩] at hn
        obtain ⟨⟨n, lx, ex⟩, hx, hn⟩ := Option.bind_eq_some_iff.mp hn
        obtain ⟨⟨one_, ly, ey⟩, hy, hn⟩ := Option.bind_eq_some_iff.mp hn
        dsimp only at hx hy hn
        have d1 : decide (0 < left) = true := decide_eq_true cj
        have e1 : ((0 : Int) == 0) = true := rfl
        have HX := Aside0.mk hx
        have HY := Aside0.mk hy
        have HN2 := Aside0.mk hn
        clear hx hy hn cj HN
        obtain ⟨AR, cR, rfl⟩ := Kd.R_slice HO.out
        obtain ⟨k0, kk1, z0, z1⟩ := HRS.out.cells
        go_upto_region 8 with (go_at_call 63; (with_reducible refine (refNum_step k1_ w.heap.size A c l 0 left n lx ex _ HRS.out.foot HRS.out.le HRS.out.size HX.out).mono ?_); rintro e wa ⟨A3, c3, rfl, hc1, hF1, hb1⟩; have HCa := Aside0.mk hc1; have HFa := Aside0.mk hF1; have HRS3 := Aside0.mk (HRS.out.below hb1); obtain ⟨k0, k1, z0, z1⟩ := HRS3.out.cells; have hlt := HRS3.out.lt; have HO3 := Aside0.mk (Kd.R_below HO.out hb1); clear hc1 hF1 hb1)
        have hp1 := RS.put (er' := ex) HRS3.out HCa.out HFa.out
        have hp2 := R_put HO3.out HRS3.out (by decide) (.slice A3 lx.length c3) (.int .i64 ex)
        have hp3 := hp1.below (below_alloc (Below.refl _ _) (.cells #[.slice A3 lx.length c3, .int .i64 ex] 97))
        have hp4 := Kd.R_alloc hp2 (.cells #[.slice A3 lx.length c3, .int .i64 ex] 97)
        clear hp1 hp2
        generalize ((wa.setCell ⟨w.heap.size, 0, none⟩ (.slice A3 lx.length c3)).setCell ⟨w.heap.size, 1, none⟩ (.int .i64 ex)).alloc (.cells #[.slice A3 lx.length c3, .int .i64 ex] 97) = wd at hp3 hp4 ⊢
        have HRS6 := Aside0.mk hp3
        have HO6 := Aside0.mk (show Kd.R RR 23 wd w.heap.size (fun q => q < wd.heap.size) (.slice AR rows.length cR) rows from Kd.R_mono (Kd.R_bound hp4) (fun _ hk => hk.2.2.1))
        clear hp3 hp4 k0 k1 z0 z1 hlt kk1 HRS HRS3 HO HO3 HCa HFa
        obtain ⟨k2, hk2⟩ : ∃ k2, k2 = k1_ := ⟨_, rfl⟩
        rw [← hk2] at HY
        have HK2 := Aside0.mk hk2
        clear hk2
        go_wp2_with ((with_reducible refine gate_dst (N := 43) rfl ?_); refine Kd.R_lit (Kd.int .i64) _ 3 ?hg (N := 43) ?hd (xs := ([] : List Int)) (inner := []) (ok := fun _ => True) (okp := fun _ => True) ?hr ?hp (fun _ hk => hk) trivial (Below.refl _ _) (Nat.le_refl _) (by simp) ?_; (case hd => rfl); (case hg => rfl); (case hr => first | (go_simp; done) | (go_simp; rfl)); (case hp => exact (Reps.none _ _)); intro v1 w1 ho hb hg_ hnew_; clear hg_ hnew_; have HONE7_ := Aside0.mk (Kd.R_lower ho HRS6.out.size); have HRS7 := Aside0.mk (HRS6.out.below hb); have HONE7 := Aside0.mk ho; have HO7 := Aside0.mk (Kd.R_below HO6.out hb); have HSZ7 := Aside0.mk hb.size; have HSZD := Aside0.mk HRS6.out.size; clear ho hb)
        go_loopg [11, 12] k2 (fun kp v11 v12 w' => ∃ (j : Int) (v : Value) (one : List Int) (l : List Int) (er : Int) (A : Option Addr) (c : Nat), v11 = v ∧ v12 = .int .u64 j ∧ Aside0 (rowR kp m j one l er = some (one_, ly, ey)) ∧ Aside0 (RS w w' l er A c) ∧ Aside0 (Kd.R RR 23 w' w.heap.size (fun q => q < wd.heap.size) (.slice AR rows.length cR) rows) ∧ Aside0 (Kd.R (Kd.int .i64) 3 w' wd.heap.size (fun _ => True) v one) ∧ Aside0 (wd.heap.size ≤ w'.heap.size))
        case atStart => exact ⟨0, _, [], lx, ex, A3, c3, rfl, rfl, HY, HRS7, HO7, HONE7, HSZ7⟩
        case round =>
          clear HY HRS7 HO7 HONE7 HSZ7
          obtain ⟨j, v, one, l, er, A, c, rfl, rfl, HP, HRS, HO, HONE, HSZ⟩ := hrel
          cases gk with
          | zero => exact absurd HP.out (by simp [rowR])
          | succ k3 =>
            have hp := HP.out
            simp only [rowR] at hp
            by_cases cjm : j < m
            · rw [if_pos cjm] at hp
              obtain ⟨⟨x, lz, ez⟩, hx, hp⟩ := Option.bind_eq_some_iff.mp hp
              dsimp only at hx hp
              by_cases cl : one.length < 1000000
              case neg => rw [if_neg cl] at hp; exact absurd hp (by simp)
              rw [if_pos cl] at hp
              have d3 : decide (j < m) = true := decide_eq_true cjm
              have HX := Aside0.mk hx
              have HP2 := Aside0.mk hp
              have CL := Aside0.mk cl
              clear hx hp cl cjm HP
              obtain ⟨AO, cO, rfl⟩ := Kd.R_slice HONE.out
              obtain ⟨k0, k1, z0, z1⟩ := HRS.out.cells
              go_upto_region 14 with (go_at_call 63; (with_reducible refine (refNum_step k3 w.heap.size A c l er 200 x lz ez _ HRS.out.foot HRS.out.le HRS.out.size HX.out).mono ?_); rintro e wa ⟨A4, c4, rfl, hc1, hF1, hb1⟩; have HCa := Aside0.mk hc1; have HFa := Aside0.mk hF1; have HRS3 := Aside0.mk (HRS.out.below hb1); obtain ⟨k0, k1, z0, z1⟩ := HRS3.out.cells; have hlt := HRS3.out.lt; have HO3 := Aside0.mk (Kd.R_below HO.out hb1); have HONE3 := Aside0.mk (Kd.R_below HONE.out hb1); have HSZ3 := Aside0.mk (Nat.le_trans HSZ.out hb1.size); clear hc1 hF1 hb1)
              have hp1 := (RS.put (er' := ez) HRS3.out HCa.out HFa.out).below (below_alloc (Below.refl _ _) (.cells #[.slice A4 lz.length c4, .int .i64 ez] 97))
              have hp2 := Kd.R_alloc (R_putok HO3.out HRS3.out (by decide) (.slice A4 lz.length c4) (.int .i64 ez)) (.cells #[.slice A4 lz.length c4, .int .i64 ez] 97)
              have hp3 := Kd.R_alloc (R_put HONE3.out HRS3.out (by decide) (.slice A4 lz.length c4) (.int .i64 ez)) (.cells #[.slice A4 lz.length c4, .int .i64 ez] 97)
              have hp4 : wd.heap.size ≤ (((wa.setCell ⟨w.heap.size, 0, none⟩ (.slice A4 lz.length c4)).setCell ⟨w.heap.size, 1, none⟩ (.int .i64 ez)).alloc (.cells #[.slice A4 lz.length c4, .int .i64 ez] 97)).heap.size := by have := HSZ3.out; simp; omega
              generalize ((wa.setCell ⟨w.heap.size, 0, none⟩ (.slice A4 lz.length c4)).setCell ⟨w.heap.size, 1, none⟩ (.int .i64 ez)).alloc (.cells #[.slice A4 lz.length c4, .int .i64 ez] 97) = we at hp1 hp2 hp3 hp4 ⊢
              have HRS8 := Aside0.mk hp1
              have HO8 := Aside0.mk hp2
              have HONE8 := Aside0.mk hp3
              have HSZ8 := Aside0.mk hp4
              clear hp1 hp2 hp3 hp4 k0 k1 z0 z1 hlt HRS HRS3 HO HO3 HONE HONE3 HSZ HSZ3 HCa HFa
              go_wp2_with ((with_reducible refine gate_builtin (b := .append) (xs := #[.tmp 55, .tmp 58]) rfl ?_); at_builtin; refine Kd.R_append (Kd.int .i64) (w0 := we) wd.heap.size rfl (.tmp 55) (.tmp 58) 23 3 (.int .i64 0) 8 rfl Try.underlying23 info3 rfl (by decide) (by omega) (.slice AO one.length cO) one (wrap64 x) [.int .i64 (wrap64 x)] (fun _ => True) (fun _ => False) rfl rfl ?aP (fun _ hk => hk.elim) ?aF ?aO ?aB ?aS ?aL ?_; (case aP => exact rfl); (case aF => exact (fun _ _ => trivial)); (case aO => exact HONE8.out); (case aB => exact Below.refl _ _); (case aS => exact HSZ8.out); (case aL => have := CL.out; omega); intro v1 w3 ho3 hb3 hg3 hat3; have HONE9 := Aside0.mk ho3; have HSZ9 := Aside0.mk (Nat.le_trans HSZ8.out hg3.size); have HRS9 := Aside0.mk (HRS8.out.row hg3 (fun k hk => ⟨Nat.le_trans HSZD.out (Kd.R_base HONE8.out k hk), (Kd.R_typed HONE8.out k hk).imp (fun cs h => ⟨3, h, by decide⟩)⟩)); have HO9 := Aside0.mk (Kd.R_grown HO8.out hg3 (fun k hk he => by have := Kd.R_base HONE8.out k he.symm; omega)); clear ho3 hb3 hg3 hat3)
              go_roundg k3
              case measure => omega
              case rel => exact ⟨IntKind.u64.wrap (j + 1), v1, one ++ [wrap64 x], lz, ez, A4, c4, rfl, rfl, HP2, HRS9, HO9, HONE9, HSZ9⟩
            · rw [if_neg cjm] at hp
              simp only [Option.some.injEq, Prod.mk.injEq] at hp
              obtain ⟨rfl, rfl, rfl⟩ := hp
              have d3 : decide (j < m) = false := decide_eq_false cjm
              clear cjm HP
              obtain ⟨AO, cO, rfl⟩ := Kd.R_slice HONE.out
              have hn2 := HN2.out
              by_cases cn : n = 0
              · rw [if_pos cn] at hn2
                simp only [Option.some.injEq, Prod.mk.injEq] at hn2
                obtain ⟨rfl, rfl, rfl⟩ := hn2
                have e2 : (n == 0) = true := beq_iff_eq.mpr cn
                clear cn HN2
                go_wp2
                go_ret3
                exact ⟨_, rfl, Kd.R_nil _ _ _ _ _, HRS.out.bel⟩
              · rw [if_neg cn] at hn2
                obtain ⟨rows', hrep, hn3⟩ := Option.bind_eq_some_iff.mp hn2
                have e2 : (n == 0) = false := beq_eq_false_iff_ne.mpr cn
                obtain ⟨k5, hk5⟩ : ∃ k5, k5 = k1_ := ⟨_, rfl⟩
                rw [← hk5] at hrep
                have HREP := Aside0.mk hrep
                have HN3 := Aside0.mk hn3
                have HO5 := Aside0.mk (show Kd.R RR 23 wr w.heap.size (fun _ => True) (.slice AR rows.length cR) rows from Kd.R_mono HO.out (fun _ _ => trivial))
                have HONE5 := Aside0.mk (Kd.R_lower HONE.out HSZD.out)
                clear hn2 hrep hn3 HN2 cn hk5 HO HONE
                go_wp2
                go_loopg [8, 15] k5 (fun kp v8 v15 w' => ∃ (j : Int) (v : Value) (rows : List (List Int)), v8 = v ∧ v15 = .int .u64 j ∧ Aside0 (repR kp n j rows one = some rows') ∧ Aside0 (RS w w' l er A c) ∧ Aside0 (Kd.R RR 23 w' w.heap.size (fun _ => True) v rows) ∧ Aside0 (Kd.R (Kd.int .i64) 3 w' w.heap.size (fun _ => True) (.slice AO one.length cO) one))
                case atStart => exact ⟨0, _, rows, rfl, rfl, HREP, HRS, HO5, HONE5⟩
                case round =>
                  clear HREP HRS HO5 HONE5
                  obtain ⟨j, v, rows, rfl, rfl, HP, HRS, HO, HONE⟩ := hrel
                  cases gk with
                  | zero => exact absurd HP.out (by simp [repR])
                  | succ k6 =>
                    have hp := HP.out
                    simp only [repR] at hp
                    by_cases cjn : j < n
                    · rw [if_pos cjn] at hp
                      by_cases cl : rows.length < 1000000
                      case neg => rw [if_neg cl] at hp; exact absurd hp (by simp)
                      rw [if_pos cl] at hp
                      have d4 : decide (j < n) = true := decide_eq_true cjn
                      have HP2 := Aside0.mk hp
                      have CL := Aside0.mk cl
                      have H57 := Aside0.mk (R_apartv HONE.out HO.out)
                      clear hp cl cjn HP
                      obtain ⟨A1, c1, rfl⟩ := Kd.R_slice HO.out
                      go_wp2_with ((with_reducible refine gate_builtin (b := .append) (xs := #[.tmp 67, .tmp 69]) rfl ?_); at_builtin; refine Kd.R_append RR (w0 := w) w.heap.size rfl (.tmp 67) (.tmp 69) 34 23 (.slice none 0 0) 24 rfl Try.underlying34 info23 rfl (by decide) (by omega) (.slice A1 rows.length c1) rows one [.slice AO one.length cO] (fun _ => True) (fun k => some k ≠ (Value.slice A1 rows.length c1).ownBlock) rfl rfl ?aP (fun _ hk => ⟨trivial, hk⟩) ?aF ?aO ?aB ?aS ?aL ?_; (case aP => exact Kd.M_row H57.out); (case aF => exact (fun _ _ => trivial)); (case aO => exact HO.out); (case aB => exact HRS.out.bel); (case aS => exact HRS.out.size); (case aL => have := CL.out; omega); intro v1 w3 ho3 hb3 hg3 hat3; have HO3 := Aside0.mk ho3; have HRS3 := Aside0.mk (HRS.out.row hg3 (fun k hk => ⟨Kd.R_base HO.out k hk, (Kd.R_typed HO.out k hk).imp (fun cs h => ⟨23, h, by decide⟩)⟩)); have HONE3 := Aside0.mk (Kd.R_mono (ok' := fun _ => True) (Kd.R_grown H57.out hg3 (fun _ hk => hk)) (fun _ _ => trivial)); clear ho3 hb3 hg3 hat3)
                      go_roundg k6
                      case measure => omega
                      case rel => exact ⟨IntKind.u64.wrap (j + 1), v1, rows ++ [one], rfl, rfl, HP2, HRS3, HO3, HONE3⟩
                    · rw [if_neg cjn] at hp
                      simp only [Option.some.injEq] at hp
                      subst hp
                      have d4 : decide (j < n) = false := decide_eq_false cjn
                      clear cjn
                      go_wp2
                      go_roundg k1_
                      case measure => have := HK.out; omega
                      case rel => exact ⟨IntKind.u64.wrap (left - n), _, rows, l, er, A, c, rfl, rfl, HN3, ⟨by have := HK.out; omega⟩, HRS, HO⟩
      · rw [if_neg cj] at hn
        unfold rendR at hn
        obtain ⟨k0, kk1, z0, z1⟩ := HRS.out.cells
        by_cases cl : 0 < left
        · have d1 : decide (0 < left) = true := decide_eq_true cl
          have e1 : (er == 0) = false := beq_eq_false_iff_ne.mpr (fun q => cj ⟨cl, q⟩)
          clear cl cj
          go_upto_region 22 with (fail)
          obtain ⟨ee, hee, hn⟩ := Option.bind_eq_some_iff.mp hn
          have HEE := Aside0.mk hee
          have hfor := HRS.out.foot
          have cv : ∀ W', Below wr.heap.size wr W' → (convert 27 9 (.slice A0 l0.length c0)).run Try.prog W' = .ok (.string (strOfNums l0)) W' := fun W' hb => Kd.C_string (P := Try.prog) (A := A0) (c := c0) Try.underlying27 Try.underlying5 Try.underlying9 (Kd.C_below (Kd.F_now HF0.out) (below_step HRS.out.bel hb))
          have CV := Aside0.mk cv
          have HN2 := Aside0.mk hn
          obtain ⟨AR, cR, rfl⟩ := Kd.R_slice HO.out
          clear hee hfor cv hn HN
          refine wp_region_held_drew (S := fun W' => Below wr.heap.size wr W' ∧ W'.cell? ⟨w.heap.size, 0, none⟩ = some (.slice A l.length c) ∧ W'.cell? ⟨w.heap.size, 1, none⟩ = some (.int .i64 er) ∧ (convert 27 9 (.slice A0 l0.length c0)).run Try.prog W' = .ok (.string (strOfNums l0)) W') (by kernel_rfl) ⟨below_drew (Below.refl _ _), k0, kk1, CV.out _ (below_drew (Below.refl _ _))⟩ (fun hHeld => ?_)
          refine wpAnyH_take (i := 0) (v := ?vx0) (oi := { dst := some 74, op := Op.load 97 (Operand.tmp 5), type := 97, pos := "ref.go:69", after := #[], guard := none }) rfl (by kernel_rfl) (by kernel_rfl) (by kernel_rfl) (fun _ _ _ h => h) (Or.inl ⟨by rfl, ?hyx0⟩) (by assumption) ?restx0
          case hyx0 => (intro w hSw; (try dsimp only at hSw); go_split_ands; go_simp; try with_reducible rfl)
          (try simp only [Act.put, List.setIfInBounds_toArray, List.set_cons_zero, List.set_cons_succ])
          refine wpAnyH_ready (rs := [1]) (by kernel_rfl) (by simp) ?_
          refine AllReadyH.cons (o := { dst := some 75, op := Op.call { callee := Callee.value (Operand.func 64), args := #[Operand.tmp 74], argTypes := #[97] }, type := 3, pos := "ref.go:69", after := #[{ on := 0, ground := Ground.data }], guard := none }) rfl (fun K hK => ?_) AllReadyH.nil
          go_simp
          with_reducible refine (dogwatchref09_Reader_End.calls A c l er ee _ (Kd.C_below (Kd.F_now HRS.out.foot) (below_drew (Below.refl _ _))) HRS.out.le HEE.out).mono ?_
          rintro e w5 ⟨rfl, hb5⟩
          have HB5 := Aside0.mk (show Below wr.heap.size wr w5 from below_step (below_drew (Below.refl _ _)) hb5)
          clear hb5
          refine hK.out _ _ ?_ (fun hHeld => ?_)
          · exact ⟨HB5.out, pw_cell_below HB5.out k0, pw_cell_below HB5.out kk1, CV.out _ HB5.out⟩
          clear hK K
          (try simp only [Act.put, List.setIfInBounds_toArray, List.set_cons_zero, List.set_cons_succ])
          have hn := HN2.out
          by_cases ce : ee = 0
          case neg =>
            rw [if_neg ce] at hn
            simp only [Option.some.injEq, Prod.mk.injEq] at hn
            obtain ⟨rfl, rfl, rfl⟩ := hn
            clear HN2
            have e3 : (ee != 0) = true := bne_iff_ne.mpr ce
            clear ce
            refine wpAnyH_take (i := 2) (v := ?vxa2) (oi := { dst := some 76, op := Op.binOp BinOp.neq 3 (Operand.tmp 75) (Operand.const (Value.int IntKind.i64 0)) 3, type := 4, pos := "ref.go:69", after := #[{ on := 1, ground := Ground.data }], guard := none }) rfl (by kernel_rfl) (by kernel_rfl) (by kernel_rfl) (fun _ _ _ h => h) (Or.inl ⟨by rfl, ?hyxa2⟩) (by assumption) ?restxa2
            case hyxa2 => (intro w hSw; (try dsimp only at hSw); go_split_ands; go_simp; try with_reducible rfl)
            (try simp only [Act.put, List.setIfInBounds_toArray, List.set_cons_zero, List.set_cons_succ])
            refine wpAnyH_take (i := 3) (v := ?vxa3) (oi := { dst := some 77, op := Op.move (Operand.tmp 76), type := 4, pos := "ref.go:69", after := #[{ on := 2, ground := Ground.data }, { on := 1, ground := Ground.chain }], guard := none }) rfl (by kernel_rfl) (by kernel_rfl) (by kernel_rfl) (fun _ _ _ h => h) (Or.inl ⟨by rfl, ?hyxa3⟩) (by assumption) ?restxa3
            case hyxa3 => (intro w hSw; (try dsimp only at hSw); go_split_ands; go_simp; try with_reducible rfl)
            (try simp only [Act.put, List.setIfInBounds_toArray, List.set_cons_zero, List.set_cons_succ])
            refine wpAnyH_take (i := 4) (v := undef) (oi := { dst := some 78, op := Op.move (Operand.tmp 6), type := 80, pos := "ref.go:69", after := #[{ on := 3, ground := Ground.guard }], guard := some (3, false) }) rfl (by kernel_rfl) (by kernel_rfl) (by kernel_rfl) (fun _ _ _ h => h) (Or.inr ⟨by rfl, rfl⟩) (by assumption) ?restxa4
            (try simp only [Act.put, List.setIfInBounds_toArray, List.set_cons_zero, List.set_cons_succ])
            refine wpAnyH_take (i := 5) (v := undef) (oi := { dst := some 79, op := Op.convert 80 3 (Operand.tmp 78), type := 3, pos := "ref.go:69", after := #[{ on := 4, ground := Ground.data }, { on := 3, ground := Ground.guard }], guard := some (3, false) }) rfl (by kernel_rfl) (by kernel_rfl) (by kernel_rfl) (fun _ _ _ h => h) (Or.inr ⟨by rfl, rfl⟩) (by assumption) ?restxa5
            (try simp only [Act.put, List.setIfInBounds_toArray, List.set_cons_zero, List.set_cons_succ])
            refine wpAnyH_take (i := 6) (v := undef) (oi := { dst := some 80, op := Op.move (Operand.tmp 8), type := 34, pos := "ref.go:69", after := #[{ on := 3, ground := Ground.guard }], guard := some (3, false) }) rfl (by kernel_rfl) (by kernel_rfl) (by kernel_rfl) (fun _ _ _ h => h) (Or.inr ⟨by rfl, rfl⟩) (by assumption) ?restxa6
            (try simp only [Act.put, List.setIfInBounds_toArray, List.set_cons_zero, List.set_cons_succ])
            refine wpAnyH_take (i := 7) (v := undef) (oi := { dst := some 81, op := Op.call { callee := Callee.value (Operand.func 24), args := #[Operand.tmp 79, Operand.tmp 80], argTypes := #[3, 34] }, type := 4, pos := "ref.go:69", after := #[{ on := 5, ground := Ground.data }, { on := 6, ground := Ground.data }, { on := 3, ground := Ground.chain }, { on := 3, ground := Ground.guard }], guard := some (3, false) }) rfl (by kernel_rfl) (by kernel_rfl) (by kernel_rfl) (fun _ _ _ h => h) (Or.inr ⟨by rfl, rfl⟩) (by assumption) ?restxa7
            (try simp only [Act.put, List.setIfInBounds_toArray, List.set_cons_zero, List.set_cons_succ])
            refine wpAnyH_take (i := 8) (v := undef) (oi := { dst := some 82, op := Op.unOp UnOp.not 4 (Operand.tmp 81), type := 4, pos := "ref.go:69", after := #[{ on := 7, ground := Ground.data }, { on := 3, ground := Ground.guard }], guard := some (3, false) }) rfl (by kernel_rfl) (by kernel_rfl) (by kernel_rfl) (fun _ _ _ h => h) (Or.inr ⟨by rfl, rfl⟩) (by assumption) ?restxa8
            (try simp only [Act.put, List.setIfInBounds_toArray, List.set_cons_zero, List.set_cons_succ])
            refine wpAnyH_take (i := 9) (v := ?vxa9) (oi := { dst := some 83, op := Op.pick (Operand.tmp 77) (Operand.const (Value.bool true)) (Operand.tmp 82), type := 4, pos := "ref.go:69", after := #[{ on := 3, ground := Ground.data }, { on := 8, ground := Ground.data }], guard := none }) rfl (by kernel_rfl) (by kernel_rfl) (by kernel_rfl) (fun _ _ _ h => h) (Or.inl ⟨by rfl, ?hyxa9⟩) (by assumption) ?restxa9
            case hyxa9 => (intro w hSw; (try dsimp only at hSw); go_split_ands; go_simp; try with_reducible rfl)
            (try simp only [Act.put, List.setIfInBounds_toArray, List.set_cons_zero, List.set_cons_succ])
            refine wpAnyH_take (i := 10) (v := ?vxa10) (oi := { dst := some 84, op := Op.move (Operand.tmp 83), type := 4, pos := "ref.go:69", after := #[{ on := 9, ground := Ground.data }, { on := 7, ground := Ground.chain }], guard := none }) rfl (by kernel_rfl) (by kernel_rfl) (by kernel_rfl) (fun _ _ _ h => h) (Or.inl ⟨by rfl, ?hyxa10⟩) (by assumption) ?restxa10
            case hyxa10 => (intro w hSw; (try dsimp only at hSw); go_split_ands; go_simp; try with_reducible rfl)
            (try simp only [Act.put, List.setIfInBounds_toArray, List.set_cons_zero, List.set_cons_succ])
            refine wpAnyH_take (i := 11) (v := undef) (oi := { dst := some 85, op := Op.move (Operand.tmp 6), type := 80, pos := "ref.go:69", after := #[{ on := 10, ground := Ground.guard }], guard := some (10, false) }) rfl (by kernel_rfl) (by kernel_rfl) (by kernel_rfl) (fun _ _ _ h => h) (Or.inr ⟨by rfl, rfl⟩) (by assumption) ?restxa11
            (try simp only [Act.put, List.setIfInBounds_toArray, List.set_cons_zero, List.set_cons_succ])
            refine wpAnyH_take (i := 12) (v := undef) (oi := { dst := some 86, op := Op.convert 80 3 (Operand.tmp 85), type := 3, pos := "ref.go:69", after := #[{ on := 11, ground := Ground.data }, { on := 10, ground := Ground.guard }], guard := some (10, false) }) rfl (by kernel_rfl) (by kernel_rfl) (by kernel_rfl) (fun _ _ _ h => h) (Or.inr ⟨by rfl, rfl⟩) (by assumption) ?restxa12
            (try simp only [Act.put, List.setIfInBounds_toArray, List.set_cons_zero, List.set_cons_succ])
            refine wpAnyH_take (i := 13) (v := undef) (oi := { dst := some 87, op := Op.move (Operand.tmp 8), type := 34, pos := "ref.go:69", after := #[{ on := 10, ground := Ground.guard }], guard := some (10, false) }) rfl (by kernel_rfl) (by kernel_rfl) (by kernel_rfl) (fun _ _ _ h => h) (Or.inr ⟨by rfl, rfl⟩) (by assumption) ?restxa13
            (try simp only [Act.put, List.setIfInBounds_toArray, List.set_cons_zero, List.set_cons_succ])
            refine wpAnyH_take (i := 14) (v := undef) (oi := { dst := some 88, op := Op.call { callee := Callee.value (Operand.func 25), args := #[Operand.tmp 86, Operand.tmp 87], argTypes := #[3, 34] }, type := 27, pos := "ref.go:69", after := #[{ on := 12, ground := Ground.data }, { on := 13, ground := Ground.data }, { on := 10, ground := Ground.chain }, { on := 10, ground := Ground.guard }], guard := some (10, false) }) rfl (by kernel_rfl) (by kernel_rfl) (by kernel_rfl) (fun _ _ _ h => h) (Or.inr ⟨by rfl, rfl⟩) (by assumption) ?restxa14
            (try simp only [Act.put, List.setIfInBounds_toArray, List.set_cons_zero, List.set_cons_succ])
            refine wpAnyH_take (i := 15) (v := undef) (oi := { dst := some 89, op := Op.convert 27 9 (Operand.tmp 88), type := 9, pos := "ref.go:69", after := #[{ on := 14, ground := Ground.data }, { on := 10, ground := Ground.guard }], guard := some (10, false) }) rfl (by kernel_rfl) (by kernel_rfl) (by kernel_rfl) (fun _ _ _ h => h) (Or.inr ⟨by rfl, rfl⟩) (by assumption) ?restxa15
            (try simp only [Act.put, List.setIfInBounds_toArray, List.set_cons_zero, List.set_cons_succ])
            refine wpAnyH_take (i := 16) (v := undef) (oi := { dst := some 90, op := Op.move (Operand.tmp 0), type := 27, pos := "ref.go:69", after := #[{ on := 10, ground := Ground.guard }], guard := some (10, false) }) rfl (by kernel_rfl) (by kernel_rfl) (by kernel_rfl) (fun _ _ _ h => h) (Or.inr ⟨by rfl, rfl⟩) (by assumption) ?restxa16
            (try simp only [Act.put, List.setIfInBounds_toArray, List.set_cons_zero, List.set_cons_succ])
            refine wpAnyH_take (i := 17) (v := undef) (oi := { dst := some 91, op := Op.convert 27 9 (Operand.tmp 90), type := 9, pos := "ref.go:69", after := #[{ on := 16, ground := Ground.data }, { on := 10, ground := Ground.guard }], guard := some (10, false) }) rfl (by kernel_rfl) (by kernel_rfl) (by kernel_rfl) (fun _ _ _ h => h) (Or.inr ⟨by rfl, rfl⟩) (by assumption) ?restxa17
            (try simp only [Act.put, List.setIfInBounds_toArray, List.set_cons_zero, List.set_cons_succ])
            refine wpAnyH_take (i := 18) (v := undef) (oi := { dst := some 92, op := Op.binOp BinOp.neq 9 (Operand.tmp 89) (Operand.tmp 91) 9, type := 4, pos := "ref.go:69", after := #[{ on := 15, ground := Ground.data }, { on := 17, ground := Ground.data }, { on := 10, ground := Ground.guard }], guard := some (10, false) }) rfl (by kernel_rfl) (by kernel_rfl) (by kernel_rfl) (fun _ _ _ h => h) (Or.inr ⟨by rfl, rfl⟩) (by assumption) ?restxa18
            (try simp only [Act.put, List.setIfInBounds_toArray, List.set_cons_zero, List.set_cons_succ])
            refine wpAnyH_take (i := 19) (v := ?vxa19) (oi := { dst := some 93, op := Op.pick (Operand.tmp 84) (Operand.const (Value.bool true)) (Operand.tmp 92), type := 4, pos := "ref.go:69", after := #[{ on := 10, ground := Ground.data }, { on := 18, ground := Ground.data }], guard := none }) rfl (by kernel_rfl) (by kernel_rfl) (by kernel_rfl) (fun _ _ _ h => h) (Or.inl ⟨by rfl, ?hyxa19⟩) (by assumption) ?restxa19
            case hyxa19 => (intro w hSw; (try dsimp only at hSw); go_split_ands; go_simp; try with_reducible rfl)
            (try simp only [Act.put, List.setIfInBounds_toArray, List.set_cons_zero, List.set_cons_succ])
            refine wpAnyH_done (by kernel_rfl) ?_ _
            go_wp2
            go_ret3
            exact ⟨_, rfl, Kd.R_nil _ _ _ _ _, below_step HRS.out.bel HB5.out⟩
          subst ce
          rw [if_pos rfl] at hn
          have e3 : ((0 : Int) != 0) = false := rfl
          obtain ⟨rb, hrb, hn⟩ := Option.bind_eq_some_iff.mp hn
          have HRB := Aside0.mk hrb
          have HN3 := Aside0.mk hn
          clear hrb hn HN2
          have hrw : Kd.R RR 23 w5 w.heap.size (fun _ => True) (.slice AR rows.length cR) rows := Kd.R_below HO.out HB5.out
          have HRW := Aside0.mk hrw
          clear hrw
          refine wpAnyH_take (i := 2) (v := ?vx2) (oi := { dst := some 76, op := Op.binOp BinOp.neq 3 (Operand.tmp 75) (Operand.const (Value.int IntKind.i64 0)) 3, type := 4, pos := "ref.go:69", after := #[{ on := 1, ground := Ground.data }], guard := none }) rfl (by kernel_rfl) (by kernel_rfl) (by kernel_rfl) (fun _ _ _ h => h) (Or.inl ⟨by rfl, ?hyx2⟩) (by assumption) ?restx2
          case hyx2 => (intro w hSw; (try dsimp only at hSw); go_split_ands; go_simp; try with_reducible rfl)
          (try simp only [Act.put, List.setIfInBounds_toArray, List.set_cons_zero, List.set_cons_succ])
          refine wpAnyH_take (i := 3) (v := ?vx3) (oi := { dst := some 77, op := Op.move (Operand.tmp 76), type := 4, pos := "ref.go:69", after := #[{ on := 2, ground := Ground.data }, { on := 1, ground := Ground.chain }], guard := none }) rfl (by kernel_rfl) (by kernel_rfl) (by kernel_rfl) (fun _ _ _ h => h) (Or.inl ⟨by rfl, ?hyx3⟩) (by assumption) ?restx3
          case hyx3 => (intro w hSw; (try dsimp only at hSw); go_split_ands; go_simp; try with_reducible rfl)
          (try simp only [Act.put, List.setIfInBounds_toArray, List.set_cons_zero, List.set_cons_succ])
          refine wpAnyH_take (i := 4) (v := ?vx4) (oi := { dst := some 78, op := Op.move (Operand.tmp 6), type := 80, pos := "ref.go:69", after := #[{ on := 3, ground := Ground.guard }], guard := some (3, false) }) rfl (by kernel_rfl) (by kernel_rfl) (by kernel_rfl) (fun _ _ _ h => h) (Or.inl ⟨by rfl, ?hyx4⟩) (by assumption) ?restx4
          case hyx4 => (intro w hSw; (try dsimp only at hSw); go_split_ands; go_simp; try with_reducible rfl)
          (try simp only [Act.put, List.setIfInBounds_toArray, List.set_cons_zero, List.set_cons_succ])
          refine wpAnyH_take (i := 5) (v := ?vx5) (oi := { dst := some 79, op := Op.convert 80 3 (Operand.tmp 78), type := 3, pos := "ref.go:69", after := #[{ on := 4, ground := Ground.data }, { on := 3, ground := Ground.guard }], guard := some (3, false) }) rfl (by kernel_rfl) (by kernel_rfl) (by kernel_rfl) (fun _ _ _ h => h) (Or.inl ⟨by rfl, ?hyx5⟩) (by assumption) ?restx5
          case hyx5 => (intro w hSw; (try dsimp only at hSw); go_split_ands; go_simp; try with_reducible rfl)
          (try simp only [Act.put, List.setIfInBounds_toArray, List.set_cons_zero, List.set_cons_succ])
          refine wpAnyH_take (i := 6) (v := ?vx6) (oi := { dst := some 80, op := Op.move (Operand.tmp 8), type := 34, pos := "ref.go:69", after := #[{ on := 3, ground := Ground.guard }], guard := some (3, false) }) rfl (by kernel_rfl) (by kernel_rfl) (by kernel_rfl) (fun _ _ _ h => h) (Or.inl ⟨by rfl, ?hyx6⟩) (by assumption) ?restx6
          case hyx6 => (intro w hSw; (try dsimp only at hSw); go_split_ands; go_simp; try with_reducible rfl)
          (try simp only [Act.put, List.setIfInBounds_toArray, List.set_cons_zero, List.set_cons_succ])
          refine wpAnyH_ready (rs := [7]) (by kernel_rfl) (by simp) ?_
          refine AllReadyH.cons (o := { dst := some 81, op := Op.call { callee := Callee.value (Operand.func 24), args := #[Operand.tmp 79, Operand.tmp 80], argTypes := #[3, 34] }, type := 4, pos := "ref.go:69", after := #[{ on := 5, ground := Ground.data }, { on := 6, ground := Ground.data }, { on := 3, ground := Ground.chain }, { on := 3, ground := Ground.guard }], guard := some (3, false) }) rfl (fun K hK => ?_) AllReadyH.nil
          go_simp
          simp only [i64_w]
          with_reducible refine (dogwatchref13_Right.calls k1_ (wrap64 m) AR cR rows rb _ (Kd.R_reads' HRW.out).2.2 (Kd.R_reads' HRW.out).2.1 HRB.out).mono ?_
          rintro e w6 ⟨rfl, ⟨n6, rfl⟩⟩
          have HB6 := Aside0.mk (pw_below_drewN HB5.out n6)
          replace HRW := Aside0.mk (Kd.R_drewN HRW.out n6)
          refine hK.out _ _ ?_ (fun hHeld => ?_)
          · exact ⟨HB6.out, pw_cell_below HB6.out k0, pw_cell_below HB6.out kk1, CV.out _ HB6.out⟩
          clear hK K
          (try simp only [Act.put, List.setIfInBounds_toArray, List.set_cons_zero, List.set_cons_succ])
          have hn := HN3.out
          cases rb with
          | false =>
            rw [if_neg (by decide)] at hn
            simp only [Option.some.injEq, Prod.mk.injEq] at hn
            obtain ⟨rfl, rfl, rfl⟩ := hn
            clear HN3
            refine wpAnyH_take (i := 8) (v := ?vxb8) (oi := { dst := some 82, op := Op.unOp UnOp.not 4 (Operand.tmp 81), type := 4, pos := "ref.go:69", after := #[{ on := 7, ground := Ground.data }, { on := 3, ground := Ground.guard }], guard := some (3, false) }) rfl (by kernel_rfl) (by kernel_rfl) (by kernel_rfl) (fun _ _ _ h => h) (Or.inl ⟨by rfl, ?hyxb8⟩) (by assumption) ?restxb8
            case hyxb8 => (intro w hSw; (try dsimp only at hSw); go_split_ands; go_simp; try with_reducible rfl)
            (try simp only [Act.put, List.setIfInBounds_toArray, List.set_cons_zero, List.set_cons_succ])
            refine wpAnyH_take (i := 9) (v := ?vxb9) (oi := { dst := some 83, op := Op.pick (Operand.tmp 77) (Operand.const (Value.bool true)) (Operand.tmp 82), type := 4, pos := "ref.go:69", after := #[{ on := 3, ground := Ground.data }, { on := 8, ground := Ground.data }], guard := none }) rfl (by kernel_rfl) (by kernel_rfl) (by kernel_rfl) (fun _ _ _ h => h) (Or.inl ⟨by rfl, ?hyxb9⟩) (by assumption) ?restxb9
            case hyxb9 => (intro w hSw; (try dsimp only at hSw); go_split_ands; go_simp; try with_reducible rfl)
            (try simp only [Act.put, List.setIfInBounds_toArray, List.set_cons_zero, List.set_cons_succ])
            refine wpAnyH_take (i := 10) (v := ?vxb10) (oi := { dst := some 84, op := Op.move (Operand.tmp 83), type := 4, pos := "ref.go:69", after := #[{ on := 9, ground := Ground.data }, { on := 7, ground := Ground.chain }], guard := none }) rfl (by kernel_rfl) (by kernel_rfl) (by kernel_rfl) (fun _ _ _ h => h) (Or.inl ⟨by rfl, ?hyxb10⟩) (by assumption) ?restxb10
            case hyxb10 => (intro w hSw; (try dsimp only at hSw); go_split_ands; go_simp; try with_reducible rfl)
            (try simp only [Act.put, List.setIfInBounds_toArray, List.set_cons_zero, List.set_cons_succ])
            refine wpAnyH_take (i := 11) (v := undef) (oi := { dst := some 85, op := Op.move (Operand.tmp 6), type := 80, pos := "ref.go:69", after := #[{ on := 10, ground := Ground.guard }], guard := some (10, false) }) rfl (by kernel_rfl) (by kernel_rfl) (by kernel_rfl) (fun _ _ _ h => h) (Or.inr ⟨by rfl, rfl⟩) (by assumption) ?restxb11
            (try simp only [Act.put, List.setIfInBounds_toArray, List.set_cons_zero, List.set_cons_succ])
            refine wpAnyH_take (i := 12) (v := undef) (oi := { dst := some 86, op := Op.convert 80 3 (Operand.tmp 85), type := 3, pos := "ref.go:69", after := #[{ on := 11, ground := Ground.data }, { on := 10, ground := Ground.guard }], guard := some (10, false) }) rfl (by kernel_rfl) (by kernel_rfl) (by kernel_rfl) (fun _ _ _ h => h) (Or.inr ⟨by rfl, rfl⟩) (by assumption) ?restxb12
            (try simp only [Act.put, List.setIfInBounds_toArray, List.set_cons_zero, List.set_cons_succ])
            refine wpAnyH_take (i := 13) (v := undef) (oi := { dst := some 87, op := Op.move (Operand.tmp 8), type := 34, pos := "ref.go:69", after := #[{ on := 10, ground := Ground.guard }], guard := some (10, false) }) rfl (by kernel_rfl) (by kernel_rfl) (by kernel_rfl) (fun _ _ _ h => h) (Or.inr ⟨by rfl, rfl⟩) (by assumption) ?restxb13
            (try simp only [Act.put, List.setIfInBounds_toArray, List.set_cons_zero, List.set_cons_succ])
            refine wpAnyH_take (i := 14) (v := undef) (oi := { dst := some 88, op := Op.call { callee := Callee.value (Operand.func 25), args := #[Operand.tmp 86, Operand.tmp 87], argTypes := #[3, 34] }, type := 27, pos := "ref.go:69", after := #[{ on := 12, ground := Ground.data }, { on := 13, ground := Ground.data }, { on := 10, ground := Ground.chain }, { on := 10, ground := Ground.guard }], guard := some (10, false) }) rfl (by kernel_rfl) (by kernel_rfl) (by kernel_rfl) (fun _ _ _ h => h) (Or.inr ⟨by rfl, rfl⟩) (by assumption) ?restxb14
            (try simp only [Act.put, List.setIfInBounds_toArray, List.set_cons_zero, List.set_cons_succ])
            refine wpAnyH_take (i := 15) (v := undef) (oi := { dst := some 89, op := Op.convert 27 9 (Operand.tmp 88), type := 9, pos := "ref.go:69", after := #[{ on := 14, ground := Ground.data }, { on := 10, ground := Ground.guard }], guard := some (10, false) }) rfl (by kernel_rfl) (by kernel_rfl) (by kernel_rfl) (fun _ _ _ h => h) (Or.inr ⟨by rfl, rfl⟩) (by assumption) ?restxb15
            (try simp only [Act.put, List.setIfInBounds_toArray, List.set_cons_zero, List.set_cons_succ])
            refine wpAnyH_take (i := 16) (v := undef) (oi := { dst := some 90, op := Op.move (Operand.tmp 0), type := 27, pos := "ref.go:69", after := #[{ on := 10, ground := Ground.guard }], guard := some (10, false) }) rfl (by kernel_rfl) (by kernel_rfl) (by kernel_rfl) (fun _ _ _ h => h) (Or.inr ⟨by rfl, rfl⟩) (by assumption) ?restxb16
            (try simp only [Act.put, List.setIfInBounds_toArray, List.set_cons_zero, List.set_cons_succ])
            refine wpAnyH_take (i := 17) (v := undef) (oi := { dst := some 91, op := Op.convert 27 9 (Operand.tmp 90), type := 9, pos := "ref.go:69", after := #[{ on := 16, ground := Ground.data }, { on := 10, ground := Ground.guard }], guard := some (10, false) }) rfl (by kernel_rfl) (by kernel_rfl) (by kernel_rfl) (fun _ _ _ h => h) (Or.inr ⟨by rfl, rfl⟩) (by assumption) ?restxb17
            (try simp only [Act.put, List.setIfInBounds_toArray, List.set_cons_zero, List.set_cons_succ])
            refine wpAnyH_take (i := 18) (v := undef) (oi := { dst := some 92, op := Op.binOp BinOp.neq 9 (Operand.tmp 89) (Operand.tmp 91) 9, type := 4, pos := "ref.go:69", after := #[{ on := 15, ground := Ground.data }, { on := 17, ground := Ground.data }, { on := 10, ground := Ground.guard }], guard := some (10, false) }) rfl (by kernel_rfl) (by kernel_rfl) (by kernel_rfl) (fun _ _ _ h => h) (Or.inr ⟨by rfl, rfl⟩) (by assumption) ?restxb18
            (try simp only [Act.put, List.setIfInBounds_toArray, List.set_cons_zero, List.set_cons_succ])
            refine wpAnyH_take (i := 19) (v := ?vxb19) (oi := { dst := some 93, op := Op.pick (Operand.tmp 84) (Operand.const (Value.bool true)) (Operand.tmp 92), type := 4, pos := "ref.go:69", after := #[{ on := 10, ground := Ground.data }, { on := 18, ground := Ground.data }], guard := none }) rfl (by kernel_rfl) (by kernel_rfl) (by kernel_rfl) (fun _ _ _ h => h) (Or.inl ⟨by rfl, ?hyxb19⟩) (by assumption) ?restxb19
            case hyxb19 => (intro w hSw; (try dsimp only at hSw); go_split_ands; go_simp; try with_reducible rfl)
            (try simp only [Act.put, List.setIfInBounds_toArray, List.set_cons_zero, List.set_cons_succ])
            refine wpAnyH_done (by kernel_rfl) ?_ _
            go_wp2
            go_ret3
            exact ⟨_, rfl, Kd.R_nil _ _ _ _ _, below_step HRS.out.bel HB6.out⟩
          | true =>
            rw [if_pos rfl] at hn
            obtain ⟨bb, hbb, hn⟩ := Option.bind_eq_some_iff.mp hn
            have HBB := Aside0.mk hbb
            clear hbb HN3
            refine wpAnyH_take (i := 8) (v := ?vxc8) (oi := { dst := some 82, op := Op.unOp UnOp.not 4 (Operand.tmp 81), type := 4, pos := "ref.go:69", after := #[{ on := 7, ground := Ground.data }, { on := 3, ground := Ground.guard }], guard := some (3, false) }) rfl (by kernel_rfl) (by kernel_rfl) (by kernel_rfl) (fun _ _ _ h => h) (Or.inl ⟨by rfl, ?hyxc8⟩) (by assumption) ?restxc8
            case hyxc8 => (intro w hSw; (try dsimp only at hSw); go_split_ands; go_simp; try with_reducible rfl)
            (try simp only [Act.put, List.setIfInBounds_toArray, List.set_cons_zero, List.set_cons_succ])
            refine wpAnyH_take (i := 9) (v := ?vxc9) (oi := { dst := some 83, op := Op.pick (Operand.tmp 77) (Operand.const (Value.bool true)) (Operand.tmp 82), type := 4, pos := "ref.go:69", after := #[{ on := 3, ground := Ground.data }, { on := 8, ground := Ground.data }], guard := none }) rfl (by kernel_rfl) (by kernel_rfl) (by kernel_rfl) (fun _ _ _ h => h) (Or.inl ⟨by rfl, ?hyxc9⟩) (by assumption) ?restxc9
            case hyxc9 => (intro w hSw; (try dsimp only at hSw); go_split_ands; go_simp; try with_reducible rfl)
            (try simp only [Act.put, List.setIfInBounds_toArray, List.set_cons_zero, List.set_cons_succ])
            refine wpAnyH_take (i := 10) (v := ?vxc10) (oi := { dst := some 84, op := Op.move (Operand.tmp 83), type := 4, pos := "ref.go:69", after := #[{ on := 9, ground := Ground.data }, { on := 7, ground := Ground.chain }], guard := none }) rfl (by kernel_rfl) (by kernel_rfl) (by kernel_rfl) (fun _ _ _ h => h) (Or.inl ⟨by rfl, ?hyxc10⟩) (by assumption) ?restxc10
            case hyxc10 => (intro w hSw; (try dsimp only at hSw); go_split_ands; go_simp; try with_reducible rfl)
            (try simp only [Act.put, List.setIfInBounds_toArray, List.set_cons_zero, List.set_cons_succ])
            refine wpAnyH_take (i := 11) (v := ?vxc11) (oi := { dst := some 85, op := Op.move (Operand.tmp 6), type := 80, pos := "ref.go:69", after := #[{ on := 10, ground := Ground.guard }], guard := some (10, false) }) rfl (by kernel_rfl) (by kernel_rfl) (by kernel_rfl) (fun _ _ _ h => h) (Or.inl ⟨by rfl, ?hyxc11⟩) (by assumption) ?restxc11
            case hyxc11 => (intro w hSw; (try dsimp only at hSw); go_split_ands; go_simp; try with_reducible rfl)
            (try simp only [Act.put, List.setIfInBounds_toArray, List.set_cons_zero, List.set_cons_succ])
            refine wpAnyH_take (i := 12) (v := ?vxc12) (oi := { dst := some 86, op := Op.convert 80 3 (Operand.tmp 85), type := 3, pos := "ref.go:69", after := #[{ on := 11, ground := Ground.data }, { on := 10, ground := Ground.guard }], guard := some (10, false) }) rfl (by kernel_rfl) (by kernel_rfl) (by kernel_rfl) (fun _ _ _ h => h) (Or.inl ⟨by rfl, ?hyxc12⟩) (by assumption) ?restxc12
            case hyxc12 => (intro w hSw; (try dsimp only at hSw); go_split_ands; go_simp; try with_reducible rfl)
            (try simp only [Act.put, List.setIfInBounds_toArray, List.set_cons_zero, List.set_cons_succ])
            refine wpAnyH_take (i := 13) (v := ?vxc13) (oi := { dst := some 87, op := Op.move (Operand.tmp 8), type := 34, pos := "ref.go:69", after := #[{ on := 10, ground := Ground.guard }], guard := some (10, false) }) rfl (by kernel_rfl) (by kernel_rfl) (by kernel_rfl) (fun _ _ _ h => h) (Or.inl ⟨by rfl, ?hyxc13⟩) (by assumption) ?restxc13
            case hyxc13 => (intro w hSw; (try dsimp only at hSw); go_split_ands; go_simp; try with_reducible rfl)
            (try simp only [Act.put, List.setIfInBounds_toArray, List.set_cons_zero, List.set_cons_succ])
            refine wpAnyH_take (i := 16) (v := ?vxc16) (oi := { dst := some 90, op := Op.move (Operand.tmp 0), type := 27, pos := "ref.go:69", after := #[{ on := 10, ground := Ground.guard }], guard := some (10, false) }) rfl (by kernel_rfl) (by kernel_rfl) (by kernel_rfl) (fun _ _ _ h => h) (Or.inl ⟨by rfl, ?hyxc16⟩) (by assumption) ?restxc16
            case hyxc16 => (intro w hSw; (try dsimp only at hSw); go_split_ands; go_simp; try with_reducible rfl)
            (try simp only [Act.put, List.setIfInBounds_toArray, List.set_cons_zero, List.set_cons_succ])
            refine wpAnyH_take (i := 17) (v := ?vxc17) (oi := { dst := some 91, op := Op.convert 27 9 (Operand.tmp 90), type := 9, pos := "ref.go:69", after := #[{ on := 16, ground := Ground.data }, { on := 10, ground := Ground.guard }], guard := some (10, false) }) rfl (by kernel_rfl) (by kernel_rfl) (by kernel_rfl) (fun _ _ _ h => h) (Or.inl ⟨by rfl, ?hyxc17⟩) (by assumption) ?restxc17
            case hyxc17 => (intro w hSw; (try dsimp only at hSw); go_split_ands; go_simp; try with_reducible rfl)
            (try simp only [Act.put, List.setIfInBounds_toArray, List.set_cons_zero, List.set_cons_succ])
            refine wpAnyH_ready (rs := [14]) (by kernel_rfl) (by simp) ?_
            refine AllReadyH.cons (o := { dst := some 88, op := Op.call { callee := Callee.value (Operand.func 25), args := #[Operand.tmp 86, Operand.tmp 87], argTypes := #[3, 34] }, type := 27, pos := "ref.go:69", after := #[{ on := 12, ground := Ground.data }, { on := 13, ground := Ground.data }, { on := 10, ground := Ground.chain }, { on := 10, ground := Ground.guard }], guard := some (10, false) }) rfl (fun K hK => ?_) AllReadyH.nil
            go_simp
            simp only [i64_w]
            with_reducible refine (dogwatchref13_Encode.calls k1_ (wrap64 m) AR cR rows bb _ (Kd.R_reads' HRW.out).2.2 (Kd.R_reads' HRW.out).2.1 HBB.out).mono ?_
            rintro e w7 ⟨v7, rfl, ho7, hb7⟩
            have HB7 := Aside0.mk (below_step HB6.out hb7)
            have HO7 := Aside0.mk ho7
            replace HRW := Aside0.mk (Kd.R_below HRW.out hb7)
            clear ho7 hb7
            refine hK.out _ _ ?_ (fun hHeld => ?_)
            · exact ⟨HB7.out, pw_cell_below HB7.out k0, pw_cell_below HB7.out kk1, CV.out _ HB7.out⟩
            clear hK K
            (try simp only [Act.put, List.setIfInBounds_toArray, List.set_cons_zero, List.set_cons_succ])
            have cv2 : (convert 27 9 v7).run Try.prog w7 = .ok (.string (strOfNums bb)) w7 := own_string (P := Try.prog) Try.underlying27 Try.underlying5 Try.underlying9 (Kd.own_of_R HO7.out)
            refine held_more (S' := fun W' => (convert 27 9 v7).run Try.prog W' = .ok (.string (strOfNums bb)) W' ∧ Below wr.heap.size wr W' ∧ W'.cell? ⟨w.heap.size, 0, none⟩ = some (.slice A l.length c) ∧ W'.cell? ⟨w.heap.size, 1, none⟩ = some (.int .i64 er) ∧ (convert 27 9 (.slice A0 l0.length c0)).run Try.prog W' = .ok (.string (strOfNums l0)) W') (fun _ h => h.2) _ _ _ _ ?_
            have hHeld0 : (fun W' => (convert 27 9 v7).run Try.prog W' = .ok (.string (strOfNums bb)) W' ∧ Below wr.heap.size wr W' ∧ W'.cell? ⟨w.heap.size, 0, none⟩ = some (.slice A l.length c) ∧ W'.cell? ⟨w.heap.size, 1, none⟩ = some (.int .i64 er) ∧ (convert 27 9 (.slice A0 l0.length c0)).run Try.prog W' = .ok (.string (strOfNums l0)) W') _ := ⟨cv2, hHeld⟩
            clear hHeld
            have hHeld := hHeld0
            clear hHeld0
            by_cases cs : (strOfNums bb).toList = (strOfNums l0).toList
            · rw [if_pos cs] at hn
              simp only [Option.some.injEq, Prod.mk.injEq] at hn
              obtain ⟨rfl, rfl, rfl⟩ := hn
              have f1 : ((strOfNums bb).toList == (strOfNums l0).toList) = true := beq_iff_eq.mpr cs
              have f2 : ((strOfNums bb).toList != (strOfNums l0).toList) = false := bne_eq_false_iff_eq.mpr cs
              clear cs cv2
              refine wpAnyH_take (i := 15) (v := ?vxd15) (oi := { dst := some 89, op := Op.convert 27 9 (Operand.tmp 88), type := 9, pos := "ref.go:69", after := #[{ on := 14, ground := Ground.data }, { on := 10, ground := Ground.guard }], guard := some (10, false) }) rfl (by kernel_rfl) (by kernel_rfl) (by kernel_rfl) (fun _ _ _ h => h) (Or.inl ⟨by rfl, ?hyxd15⟩) (by assumption) ?restxd15
              case hyxd15 => (intro w hSw; (try dsimp only at hSw); go_split_ands; go_simp; try with_reducible rfl)
              (try simp only [Act.put, List.setIfInBounds_toArray, List.set_cons_zero, List.set_cons_succ])
              refine wpAnyH_take (i := 18) (v := ?vxd18) (oi := { dst := some 92, op := Op.binOp BinOp.neq 9 (Operand.tmp 89) (Operand.tmp 91) 9, type := 4, pos := "ref.go:69", after := #[{ on := 15, ground := Ground.data }, { on := 17, ground := Ground.data }, { on := 10, ground := Ground.guard }], guard := some (10, false) }) rfl (by kernel_rfl) (by kernel_rfl) (by kernel_rfl) (fun _ _ _ h => h) (Or.inl ⟨by rfl, ?hyxd18⟩) (by assumption) ?restxd18
              case hyxd18 => (intro w hSw; (try dsimp only at hSw); go_split_ands; go_simp; try with_reducible rfl)
              (try simp only [Act.put, List.setIfInBounds_toArray, List.set_cons_zero, List.set_cons_succ])
              refine wpAnyH_take (i := 19) (v := ?vxd19) (oi := { dst := some 93, op := Op.pick (Operand.tmp 84) (Operand.const (Value.bool true)) (Operand.tmp 92), type := 4, pos := "ref.go:69", after := #[{ on := 10, ground := Ground.data }, { on := 18, ground := Ground.data }], guard := none }) rfl (by kernel_rfl) (by kernel_rfl) (by kernel_rfl) (fun _ _ _ h => h) (Or.inl ⟨by rfl, ?hyxd19⟩) (by assumption) ?restxd19
              case hyxd19 => (intro w hSw; (try dsimp only at hSw); go_split_ands; go_simp; try with_reducible rfl)
              (try simp only [Act.put, List.setIfInBounds_toArray, List.set_cons_zero, List.set_cons_succ])
              refine wpAnyH_done (by kernel_rfl) ?_ _
              go_wp2
              go_ret3
              exact ⟨_, rfl, HRW.out, below_step HRS.out.bel HB7.out⟩
            · rw [if_neg cs] at hn
              simp only [Option.some.injEq, Prod.mk.injEq] at hn
              obtain ⟨rfl, rfl, rfl⟩ := hn
              have f1 : ((strOfNums bb).toList == (strOfNums l0).toList) = false := beq_eq_false_iff_ne.mpr cs
              have f2 : ((strOfNums bb).toList != (strOfNums l0).toList) = true := bne_iff_ne.mpr cs
              clear cs cv2
              refine wpAnyH_take (i := 15) (v := ?vxe15) (oi := { dst := some 89, op := Op.convert 27 9 (Operand.tmp 88), type := 9, pos := "ref.go:69", after := #[{ on := 14, ground := Ground.data }, { on := 10, ground := Ground.guard }], guard := some (10, false) }) rfl (by kernel_rfl) (by kernel_rfl) (by kernel_rfl) (fun _ _ _ h => h) (Or.inl ⟨by rfl, ?hyxe15⟩) (by assumption) ?restxe15
              case hyxe15 => (intro w hSw; (try dsimp only at hSw); go_split_ands; go_simp; try with_reducible rfl)
              (try simp only [Act.put, List.setIfInBounds_toArray, List.set_cons_zero, List.set_cons_succ])
              refine wpAnyH_take (i := 18) (v := ?vxe18) (oi := { dst := some 92, op := Op.binOp BinOp.neq 9 (Operand.tmp 89) (Operand.tmp 91) 9, type := 4, pos := "ref.go:69", after := #[{ on := 15, ground := Ground.data }, { on := 17, ground := Ground.data }, { on := 10, ground := Ground.guard }], guard := some (10, false) }) rfl (by kernel_rfl) (by kernel_rfl) (by kernel_rfl) (fun _ _ _ h => h) (Or.inl ⟨by rfl, ?hyxe18⟩) (by assumption) ?restxe18
              case hyxe18 => (intro w hSw; (try dsimp only at hSw); go_split_ands; go_simp; try with_reducible rfl)
              (try simp only [Act.put, List.setIfInBounds_toArray, List.set_cons_zero, List.set_cons_succ])
              refine wpAnyH_take (i := 19) (v := ?vxe19) (oi := { dst := some 93, op := Op.pick (Operand.tmp 84) (Operand.const (Value.bool true)) (Operand.tmp 92), type := 4, pos := "ref.go:69", after := #[{ on := 10, ground := Ground.data }, { on := 18, ground := Ground.data }], guard := none }) rfl (by kernel_rfl) (by kernel_rfl) (by kernel_rfl) (fun _ _ _ h => h) (Or.inl ⟨by rfl, ?hyxe19⟩) (by assumption) ?restxe19
              case hyxe19 => (intro w hSw; (try dsimp only at hSw); go_split_ands; go_simp; try with_reducible rfl)
              (try simp only [Act.put, List.setIfInBounds_toArray, List.set_cons_zero, List.set_cons_succ])
              refine wpAnyH_done (by kernel_rfl) ?_ _
              go_wp2
              go_ret3
              exact ⟨_, rfl, Kd.R_nil _ _ _ _ _, below_step HRS.out.bel HB7.out⟩
        · have d1 : decide (0 < left) = false := decide_eq_false cl
          clear cl cj
          go_upto_region 22 with (fail)
          obtain ⟨ee, hee, hn⟩ := Option.bind_eq_some_iff.mp hn
          have HEE := Aside0.mk hee
          have hfor := HRS.out.foot
          have cv : ∀ W', Below wr.heap.size wr W' → (convert 27 9 (.slice A0 l0.length c0)).run Try.prog W' = .ok (.string (strOfNums l0)) W' := fun W' hb => Kd.C_string (P := Try.prog) (A := A0) (c := c0) Try.underlying27 Try.underlying5 Try.underlying9 (Kd.C_below (Kd.F_now HF0.out) (below_step HRS.out.bel hb))
          have CV := Aside0.mk cv
          have HN2 := Aside0.mk hn
          obtain ⟨AR, cR, rfl⟩ := Kd.R_slice HO.out
          clear hee hfor cv hn HN
          refine wp_region_held_drew (S := fun W' => Below wr.heap.size wr W' ∧ W'.cell? ⟨w.heap.size, 0, none⟩ = some (.slice A l.length c) ∧ W'.cell? ⟨w.heap.size, 1, none⟩ = some (.int .i64 er) ∧ (convert 27 9 (.slice A0 l0.length c0)).run Try.prog W' = .ok (.string (strOfNums l0)) W') (by kernel_rfl) ⟨below_drew (Below.refl _ _), k0, kk1, CV.out _ (below_drew (Below.refl _ _))⟩ (fun hHeld => ?_)
          refine wpAnyH_take (i := 0) (v := ?vy0) (oi := { dst := some 74, op := Op.load 97 (Operand.tmp 5), type := 97, pos := "ref.go:69", after := #[], guard := none }) rfl (by kernel_rfl) (by kernel_rfl) (by kernel_rfl) (fun _ _ _ h => h) (Or.inl ⟨by rfl, ?hyy0⟩) (by assumption) ?resty0
          case hyy0 => (intro w hSw; (try dsimp only at hSw); go_split_ands; go_simp; try with_reducible rfl)
          (try simp only [Act.put, List.setIfInBounds_toArray, List.set_cons_zero, List.set_cons_succ])
          refine wpAnyH_ready (rs := [1]) (by kernel_rfl) (by simp) ?_
          refine AllReadyH.cons (o := { dst := some 75, op := Op.call { callee := Callee.value (Operand.func 64), args := #[Operand.tmp 74], argTypes := #[97] }, type := 3, pos := "ref.go:69", after := #[{ on := 0, ground := Ground.data }], guard := none }) rfl (fun K hK => ?_) AllReadyH.nil
          go_simp
          with_reducible refine (dogwatchref09_Reader_End.calls A c l er ee _ (Kd.C_below (Kd.F_now HRS.out.foot) (below_drew (Below.refl _ _))) HRS.out.le HEE.out).mono ?_
          rintro e w5 ⟨rfl, hb5⟩
          have HB5 := Aside0.mk (show Below wr.heap.size wr w5 from below_step (below_drew (Below.refl _ _)) hb5)
          clear hb5
          refine hK.out _ _ ?_ (fun hHeld => ?_)
          · exact ⟨HB5.out, pw_cell_below HB5.out k0, pw_cell_below HB5.out kk1, CV.out _ HB5.out⟩
          clear hK K
          (try simp only [Act.put, List.setIfInBounds_toArray, List.set_cons_zero, List.set_cons_succ])
          have hn := HN2.out
          by_cases ce : ee = 0
          case neg =>
            rw [if_neg ce] at hn
            simp only [Option.some.injEq, Prod.mk.injEq] at hn
            obtain ⟨rfl, rfl, rfl⟩ := hn
            clear HN2
            have e3 : (ee != 0) = true := bne_iff_ne.mpr ce
            clear ce
            refine wpAnyH_take (i := 2) (v := ?vya2) (oi := { dst := some 76, op := Op.binOp BinOp.neq 3 (Operand.tmp 75) (Operand.const (Value.int IntKind.i64 0)) 3, type := 4, pos := "ref.go:69", after := #[{ on := 1, ground := Ground.data }], guard := none }) rfl (by kernel_rfl) (by kernel_rfl) (by kernel_rfl) (fun _ _ _ h => h) (Or.inl ⟨by rfl, ?hyya2⟩) (by assumption) ?restya2
            case hyya2 => (intro w hSw; (try dsimp only at hSw); go_split_ands; go_simp; try with_reducible rfl)
            (try simp only [Act.put, List.setIfInBounds_toArray, List.set_cons_zero, List.set_cons_succ])
            refine wpAnyH_take (i := 3) (v := ?vya3) (oi := { dst := some 77, op := Op.move (Operand.tmp 76), type := 4, pos := "ref.go:69", after := #[{ on := 2, ground := Ground.data }, { on := 1, ground := Ground.chain }], guard := none }) rfl (by kernel_rfl) (by kernel_rfl) (by kernel_rfl) (fun _ _ _ h => h) (Or.inl ⟨by rfl, ?hyya3⟩) (by assumption) ?restya3
            case hyya3 => (intro w hSw; (try dsimp only at hSw); go_split_ands; go_simp; try with_reducible rfl)
            (try simp only [Act.put, List.setIfInBounds_toArray, List.set_cons_zero, List.set_cons_succ])
            refine wpAnyH_take (i := 4) (v := undef) (oi := { dst := some 78, op := Op.move (Operand.tmp 6), type := 80, pos := "ref.go:69", after := #[{ on := 3, ground := Ground.guard }], guard := some (3, false) }) rfl (by kernel_rfl) (by kernel_rfl) (by kernel_rfl) (fun _ _ _ h => h) (Or.inr ⟨by rfl, rfl⟩) (by assumption) ?restya4
            (try simp only [Act.put, List.setIfInBounds_toArray, List.set_cons_zero, List.set_cons_succ])
            refine wpAnyH_take (i := 5) (v := undef) (oi := { dst := some 79, op := Op.convert 80 3 (Operand.tmp 78), type := 3, pos := "ref.go:69", after := #[{ on := 4, ground := Ground.data }, { on := 3, ground := Ground.guard }], guard := some (3, false) }) rfl (by kernel_rfl) (by kernel_rfl) (by kernel_rfl) (fun _ _ _ h => h) (Or.inr ⟨by rfl, rfl⟩) (by assumption) ?restya5
            (try simp only [Act.put, List.setIfInBounds_toArray, List.set_cons_zero, List.set_cons_succ])
            refine wpAnyH_take (i := 6) (v := undef) (oi := { dst := some 80, op := Op.move (Operand.tmp 8), type := 34, pos := "ref.go:69", after := #[{ on := 3, ground := Ground.guard }], guard := some (3, false) }) rfl (by kernel_rfl) (by kernel_rfl) (by kernel_rfl) (fun _ _ _ h => h) (Or.inr ⟨by rfl, rfl⟩) (by assumption) ?restya6
            (try simp only [Act.put, List.setIfInBounds_toArray, List.set_cons_zero, List.set_cons_succ])
            refine wpAnyH_take (i := 7) (v := undef) (oi := { dst := some 81, op := Op.call { callee := Callee.value (Operand.func 24), args := #[Operand.tmp 79, Operand.tmp 80], argTypes := #[3, 34] }, type := 4, pos := "ref.go:69", after := #[{ on := 5, ground := Ground.data }, { on := 6, ground := Ground.data }, { on := 3, ground := Ground.chain }, { on := 3, ground := Ground.guard }], guard := some (3, false) }) rfl (by kernel_rfl) (by kernel_rfl) (by kernel_rfl) (fun _ _ _ h => h) (Or.inr ⟨by rfl, rfl⟩) (by assumption) ?restya7
            (try simp only [Act.put, List.setIfInBounds_toArray, List.set_cons_zero, List.set_cons_succ])
            refine wpAnyH_take (i := 8) (v := undef) (oi := { dst := some 82, op := Op.unOp UnOp.not 4 (Operand.tmp 81), type := 4, pos := "ref.go:69", after := #[{ on := 7, ground := Ground.data }, { on := 3, ground := Ground.guard }], guard := some (3, false) }) rfl (by kernel_rfl) (by kernel_rfl) (by kernel_rfl) (fun _ _ _ h => h) (Or.inr ⟨by rfl, rfl⟩) (by assumption) ?restya8
            (try simp only [Act.put, List.setIfInBounds_toArray, List.set_cons_zero, List.set_cons_succ])
            refine wpAnyH_take (i := 9) (v := ?vya9) (oi := { dst := some 83, op := Op.pick (Operand.tmp 77) (Operand.const (Value.bool true)) (Operand.tmp 82), type := 4, pos := "ref.go:69", after := #[{ on := 3, ground := Ground.data }, { on := 8, ground := Ground.data }], guard := none }) rfl (by kernel_rfl) (by kernel_rfl) (by kernel_rfl) (fun _ _ _ h => h) (Or.inl ⟨by rfl, ?hyya9⟩) (by assumption) ?restya9
            case hyya9 => (intro w hSw; (try dsimp only at hSw); go_split_ands; go_simp; try with_reducible rfl)
            (try simp only [Act.put, List.setIfInBounds_toArray, List.set_cons_zero, List.set_cons_succ])
            refine wpAnyH_take (i := 10) (v := ?vya10) (oi := { dst := some 84, op := Op.move (Operand.tmp 83), type := 4, pos := "ref.go:69", after := #[{ on := 9, ground := Ground.data }, { on := 7, ground := Ground.chain }], guard := none }) rfl (by kernel_rfl) (by kernel_rfl) (by kernel_rfl) (fun _ _ _ h => h) (Or.inl ⟨by rfl, ?hyya10⟩) (by assumption) ?restya10
            case hyya10 => (intro w hSw; (try dsimp only at hSw); go_split_ands; go_simp; try with_reducible rfl)
            (try simp only [Act.put, List.setIfInBounds_toArray, List.set_cons_zero, List.set_cons_succ])
            refine wpAnyH_take (i := 11) (v := undef) (oi := { dst := some 85, op := Op.move (Operand.tmp 6), type := 80, pos := "ref.go:69", after := #[{ on := 10, ground := Ground.guard }], guard := some (10, false) }) rfl (by kernel_rfl) (by kernel_rfl) (by kernel_rfl) (fun _ _ _ h => h) (Or.inr ⟨by rfl, rfl⟩) (by assumption) ?restya11
            (try simp only [Act.put, List.setIfInBounds_toArray, List.set_cons_zero, List.set_cons_succ])
            refine wpAnyH_take (i := 12) (v := undef) (oi := { dst := some 86, op := Op.convert 80 3 (Operand.tmp 85), type := 3, pos := "ref.go:69", after := #[{ on := 11, ground := Ground.data }, { on := 10, ground := Ground.guard }], guard := some (10, false) }) rfl (by kernel_rfl) (by kernel_rfl) (by kernel_rfl) (fun _ _ _ h => h) (Or.inr ⟨by rfl, rfl⟩) (by assumption) ?restya12
            (try simp only [Act.put, List.setIfInBounds_toArray, List.set_cons_zero, List.set_cons_succ])
            refine wpAnyH_take (i := 13) (v := undef) (oi := { dst := some 87, op := Op.move (Operand.tmp 8), type := 34, pos := "ref.go:69", after := #[{ on := 10, ground := Ground.guard }], guard := some (10, false) }) rfl (by kernel_rfl) (by kernel_rfl) (by kernel_rfl) (fun _ _ _ h => h) (Or.inr ⟨by rfl, rfl⟩) (by assumption) ?restya13
            (try simp only [Act.put, List.setIfInBounds_toArray, List.set_cons_zero, List.set_cons_succ])
            refine wpAnyH_take (i := 14) (v := undef) (oi := { dst := some 88, op := Op.call { callee := Callee.value (Operand.func 25), args := #[Operand.tmp 86, Operand.tmp 87], argTypes := #[3, 34] }, type := 27, pos := "ref.go:69", after := #[{ on := 12, ground := Ground.data }, { on := 13, ground := Ground.data }, { on := 10, ground := Ground.chain }, { on := 10, ground := Ground.guard }], guard := some (10, false) }) rfl (by kernel_rfl) (by kernel_rfl) (by kernel_rfl) (fun _ _ _ h => h) (Or.inr ⟨by rfl, rfl⟩) (by assumption) ?restya14
            (try simp only [Act.put, List.setIfInBounds_toArray, List.set_cons_zero, List.set_cons_succ])
            refine wpAnyH_take (i := 15) (v := undef) (oi := { dst := some 89, op := Op.convert 27 9 (Operand.tmp 88), type := 9, pos := "ref.go:69", after := #[{ on := 14, ground := Ground.data }, { on := 10, ground := Ground.guard }], guard := some (10, false) }) rfl (by kernel_rfl) (by kernel_rfl) (by kernel_rfl) (fun _ _ _ h => h) (Or.inr ⟨by rfl, rfl⟩) (by assumption) ?restya15
            (try simp only [Act.put, List.setIfInBounds_toArray, List.set_cons_zero, List.set_cons_succ])
            refine wpAnyH_take (i := 16) (v := undef) (oi := { dst := some 90, op := Op.move (Operand.tmp 0), type := 27, pos := "ref.go:69", after := #[{ on := 10, ground := Ground.guard }], guard := some (10, false) }) rfl (by kernel_rfl) (by kernel_rfl) (by kernel_rfl) (fun _ _ _ h => h) (Or.inr ⟨by rfl, rfl⟩) (by assumption) ?restya16
            (try simp only [Act.put, List.setIfInBounds_toArray, List.set_cons_zero, List.set_cons_succ])
            refine wpAnyH_take (i := 17) (v := undef) (oi := { dst := some 91, op := Op.convert 27 9 (Operand.tmp 90), type := 9, pos := "ref.go:69", after := #[{ on := 16, ground := Ground.data }, { on := 10, ground := Ground.guard }], guard := some (10, false) }) rfl (by kernel_rfl) (by kernel_rfl) (by kernel_rfl) (fun _ _ _ h => h) (Or.inr ⟨by rfl, rfl⟩) (by assumption) ?restya17
            (try simp only [Act.put, List.setIfInBounds_toArray, List.set_cons_zero, List.set_cons_succ])
            refine wpAnyH_take (i := 18) (v := undef) (oi := { dst := some 92, op := Op.binOp BinOp.neq 9 (Operand.tmp 89) (Operand.tmp 91) 9, type := 4, pos := "ref.go:69", after := #[{ on := 15, ground := Ground.data }, { on := 17, ground := Ground.data }, { on := 10, ground := Ground.guard }], guard := some (10, false) }) rfl (by kernel_rfl) (by kernel_rfl) (by kernel_rfl) (fun _ _ _ h => h) (Or.inr ⟨by rfl, rfl⟩) (by assumption) ?restya18
            (try simp only [Act.put, List.setIfInBounds_toArray, List.set_cons_zero, List.set_cons_succ])
            refine wpAnyH_take (i := 19) (v := ?vya19) (oi := { dst := some 93, op := Op.pick (Operand.tmp 84) (Operand.const (Value.bool true)) (Operand.tmp 92), type := 4, pos := "ref.go:69", after := #[{ on := 10, ground := Ground.data }, { on := 18, ground := Ground.data }], guard := none }) rfl (by kernel_rfl) (by kernel_rfl) (by kernel_rfl) (fun _ _ _ h => h) (Or.inl ⟨by rfl, ?hyya19⟩) (by assumption) ?restya19
            case hyya19 => (intro w hSw; (try dsimp only at hSw); go_split_ands; go_simp; try with_reducible rfl)
            (try simp only [Act.put, List.setIfInBounds_toArray, List.set_cons_zero, List.set_cons_succ])
            refine wpAnyH_done (by kernel_rfl) ?_ _
            go_wp2
            go_ret3
            exact ⟨_, rfl, Kd.R_nil _ _ _ _ _, below_step HRS.out.bel HB5.out⟩
          subst ce
          rw [if_pos rfl] at hn
          have e3 : ((0 : Int) != 0) = false := rfl
          obtain ⟨rb, hrb, hn⟩ := Option.bind_eq_some_iff.mp hn
          have HRB := Aside0.mk hrb
          have HN3 := Aside0.mk hn
          clear hrb hn HN2
          have hrw : Kd.R RR 23 w5 w.heap.size (fun _ => True) (.slice AR rows.length cR) rows := Kd.R_below HO.out HB5.out
          have HRW := Aside0.mk hrw
          clear hrw
          refine wpAnyH_take (i := 2) (v := ?vy2) (oi := { dst := some 76, op := Op.binOp BinOp.neq 3 (Operand.tmp 75) (Operand.const (Value.int IntKind.i64 0)) 3, type := 4, pos := "ref.go:69", after := #[{ on := 1, ground := Ground.data }], guard := none }) rfl (by kernel_rfl) (by kernel_rfl) (by kernel_rfl) (fun _ _ _ h => h) (Or.inl ⟨by rfl, ?hyy2⟩) (by assumption) ?resty2
          case hyy2 => (intro w hSw; (try dsimp only at hSw); go_split_ands; go_simp; try with_reducible rfl)
          (try simp only [Act.put, List.setIfInBounds_toArray, List.set_cons_zero, List.set_cons_succ])
          refine wpAnyH_take (i := 3) (v := ?vy3) (oi := { dst := some 77, op := Op.move (Operand.tmp 76), type := 4, pos := "ref.go:69", after := #[{ on := 2, ground := Ground.data }, { on := 1, ground := Ground.chain }], guard := none }) rfl (by kernel_rfl) (by kernel_rfl) (by kernel_rfl) (fun _ _ _ h => h) (Or.inl ⟨by rfl, ?hyy3⟩) (by assumption) ?resty3
          case hyy3 => (intro w hSw; (try dsimp only at hSw); go_split_ands; go_simp; try with_reducible rfl)
          (try simp only [Act.put, List.setIfInBounds_toArray, List.set_cons_zero, List.set_cons_succ])
          refine wpAnyH_take (i := 4) (v := ?vy4) (oi := { dst := some 78, op := Op.move (Operand.tmp 6), type := 80, pos := "ref.go:69", after := #[{ on := 3, ground := Ground.guard }], guard := some (3, false) }) rfl (by kernel_rfl) (by kernel_rfl) (by kernel_rfl) (fun _ _ _ h => h) (Or.inl ⟨by rfl, ?hyy4⟩) (by assumption) ?resty4
          case hyy4 => (intro w hSw; (try dsimp only at hSw); go_split_ands; go_simp; try with_reducible rfl)
          (try simp only [Act.put, List.setIfInBounds_toArray, List.set_cons_zero, List.set_cons_succ])
          refine wpAnyH_take (i := 5) (v := ?vy5) (oi := { dst := some 79, op := Op.convert 80 3 (Operand.tmp 78), type := 3, pos := "ref.go:69", after := #[{ on := 4, ground := Ground.data }, { on := 3, ground := Ground.guard }], guard := some (3, false) }) rfl (by kernel_rfl) (by kernel_rfl) (by kernel_rfl) (fun _ _ _ h => h) (Or.inl ⟨by rfl, ?hyy5⟩) (by assumption) ?resty5
          case hyy5 => (intro w hSw; (try dsimp only at hSw); go_split_ands; go_simp; try with_reducible rfl)
          (try simp only [Act.put, List.setIfInBounds_toArray, List.set_cons_zero, List.set_cons_succ])
          refine wpAnyH_take (i := 6) (v := ?vy6) (oi := { dst := some 80, op := Op.move (Operand.tmp 8), type := 34, pos := "ref.go:69", after := #[{ on := 3, ground := Ground.guard }], guard := some (3, false) }) rfl (by kernel_rfl) (by kernel_rfl) (by kernel_rfl) (fun _ _ _ h => h) (Or.inl ⟨by rfl, ?hyy6⟩) (by assumption) ?resty6
          case hyy6 => (intro w hSw; (try dsimp only at hSw); go_split_ands; go_simp; try with_reducible rfl)
          (try simp only [Act.put, List.setIfInBounds_toArray, List.set_cons_zero, List.set_cons_succ])
          refine wpAnyH_ready (rs := [7]) (by kernel_rfl) (by simp) ?_
          refine AllReadyH.cons (o := { dst := some 81, op := Op.call { callee := Callee.value (Operand.func 24), args := #[Operand.tmp 79, Operand.tmp 80], argTypes := #[3, 34] }, type := 4, pos := "ref.go:69", after := #[{ on := 5, ground := Ground.data }, { on := 6, ground := Ground.data }, { on := 3, ground := Ground.chain }, { on := 3, ground := Ground.guard }], guard := some (3, false) }) rfl (fun K hK => ?_) AllReadyH.nil
          go_simp
          simp only [i64_w]
          with_reducible refine (dogwatchref13_Right.calls k1_ (wrap64 m) AR cR rows rb _ (Kd.R_reads' HRW.out).2.2 (Kd.R_reads' HRW.out).2.1 HRB.out).mono ?_
          rintro e w6 ⟨rfl, ⟨n6, rfl⟩⟩
          have HB6 := Aside0.mk (pw_below_drewN HB5.out n6)
          replace HRW := Aside0.mk (Kd.R_drewN HRW.out n6)
          refine hK.out _ _ ?_ (fun hHeld => ?_)
          · exact ⟨HB6.out, pw_cell_below HB6.out k0, pw_cell_below HB6.out kk1, CV.out _ HB6.out⟩
          clear hK K
          (try simp only [Act.put, List.setIfInBounds_toArray, List.set_cons_zero, List.set_cons_succ])
          have hn := HN3.out
          cases rb with
          | false =>
            rw [if_neg (by decide)] at hn
            simp only [Option.some.injEq, Prod.mk.injEq] at hn
            obtain ⟨rfl, rfl, rfl⟩ := hn
            clear HN3
            refine wpAnyH_take (i := 8) (v := ?vyb8) (oi := { dst := some 82, op := Op.unOp UnOp.not 4 (Operand.tmp 81), type := 4, pos := "ref.go:69", after := #[{ on := 7, ground := Ground.data }, { on := 3, ground := Ground.guard }], guard := some (3, false) }) rfl (by kernel_rfl) (by kernel_rfl) (by kernel_rfl) (fun _ _ _ h => h) (Or.inl ⟨by rfl, ?hyyb8⟩) (by assumption) ?restyb8
            case hyyb8 => (intro w hSw; (try dsimp only at hSw); go_split_ands; go_simp; try with_reducible rfl)
            (try simp only [Act.put, List.setIfInBounds_toArray, List.set_cons_zero, List.set_cons_succ])
            refine wpAnyH_take (i := 9) (v := ?vyb9) (oi := { dst := some 83, op := Op.pick (Operand.tmp 77) (Operand.const (Value.bool true)) (Operand.tmp 82), type := 4, pos := "ref.go:69", after := #[{ on := 3, ground := Ground.data }, { on := 8, ground := Ground.data }], guard := none }) rfl (by kernel_rfl) (by kernel_rfl) (by kernel_rfl) (fun _ _ _ h => h) (Or.inl ⟨by rfl, ?hyyb9⟩) (by assumption) ?restyb9
            case hyyb9 => (intro w hSw; (try dsimp only at hSw); go_split_ands; go_simp; try with_reducible rfl)
            (try simp only [Act.put, List.setIfInBounds_toArray, List.set_cons_zero, List.set_cons_succ])
            refine wpAnyH_take (i := 10) (v := ?vyb10) (oi := { dst := some 84, op := Op.move (Operand.tmp 83), type := 4, pos := "ref.go:69", after := #[{ on := 9, ground := Ground.data }, { on := 7, ground := Ground.chain }], guard := none }) rfl (by kernel_rfl) (by kernel_rfl) (by kernel_rfl) (fun _ _ _ h => h) (Or.inl ⟨by rfl, ?hyyb10⟩) (by assumption) ?restyb10
            case hyyb10 => (intro w hSw; (try dsimp only at hSw); go_split_ands; go_simp; try with_reducible rfl)
            (try simp only [Act.put, List.setIfInBounds_toArray, List.set_cons_zero, List.set_cons_succ])
            refine wpAnyH_take (i := 11) (v := undef) (oi := { dst := some 85, op := Op.move (Operand.tmp 6), type := 80, pos := "ref.go:69", after := #[{ on := 10, ground := Ground.guard }], guard := some (10, false) }) rfl (by kernel_rfl) (by kernel_rfl) (by kernel_rfl) (fun _ _ _ h => h) (Or.inr ⟨by rfl, rfl⟩) (by assumption) ?restyb11
            (try simp only [Act.put, List.setIfInBounds_toArray, List.set_cons_zero, List.set_cons_succ])
            refine wpAnyH_take (i := 12) (v := undef) (oi := { dst := some 86, op := Op.convert 80 3 (Operand.tmp 85), type := 3, pos := "ref.go:69", after := #[{ on := 11, ground := Ground.data }, { on := 10, ground := Ground.guard }], guard := some (10, false) }) rfl (by kernel_rfl) (by kernel_rfl) (by kernel_rfl) (fun _ _ _ h => h) (Or.inr ⟨by rfl, rfl⟩) (by assumption) ?restyb12
            (try simp only [Act.put, List.setIfInBounds_toArray, List.set_cons_zero, List.set_cons_succ])
            refine wpAnyH_take (i := 13) (v := undef) (oi := { dst := some 87, op := Op.move (Operand.tmp 8), type := 34, pos := "ref.go:69", after := #[{ on := 10, ground := Ground.guard }], guard := some (10, false) }) rfl (by kernel_rfl) (by kernel_rfl) (by kernel_rfl) (fun _ _ _ h => h) (Or.inr ⟨by rfl, rfl⟩) (by assumption) ?restyb13
            (try simp only [Act.put, List.setIfInBounds_toArray, List.set_cons_zero, List.set_cons_succ])
            refine wpAnyH_take (i := 14) (v := undef) (oi := { dst := some 88, op := Op.call { callee := Callee.value (Operand.func 25), args := #[Operand.tmp 86, Operand.tmp 87], argTypes := #[3, 34] }, type := 27, pos := "ref.go:69", after := #[{ on := 12, ground := Ground.data }, { on := 13, ground := Ground.data }, { on := 10, ground := Ground.chain }, { on := 10, ground := Ground.guard }], guard := some (10, false) }) rfl (by kernel_rfl) (by kernel_rfl) (by kernel_rfl) (fun _ _ _ h => h) (Or.inr ⟨by rfl, rfl⟩) (by assumption) ?restyb14
            (try simp only [Act.put, List.setIfInBounds_toArray, List.set_cons_zero, List.set_cons_succ])
            refine wpAnyH_take (i := 15) (v := undef) (oi := { dst := some 89, op := Op.convert 27 9 (Operand.tmp 88), type := 9, pos := "ref.go:69", after := #[{ on := 14, ground := Ground.data }, { on := 10, ground := Ground.guard }], guard := some (10, false) }) rfl (by kernel_rfl) (by kernel_rfl) (by kernel_rfl) (fun _ _ _ h => h) (Or.inr ⟨by rfl, rfl⟩) (by assumption) ?restyb15
            (try simp only [Act.put, List.setIfInBounds_toArray, List.set_cons_zero, List.set_cons_succ])
            refine wpAnyH_take (i := 16) (v := undef) (oi := { dst := some 90, op := Op.move (Operand.tmp 0), type := 27, pos := "ref.go:69", after := #[{ on := 10, ground := Ground.guard }], guard := some (10, false) }) rfl (by kernel_rfl) (by kernel_rfl) (by kernel_rfl) (fun _ _ _ h => h) (Or.inr ⟨by rfl, rfl⟩) (by assumption) ?restyb16
            (try simp only [Act.put, List.setIfInBounds_toArray, List.set_cons_zero, List.set_cons_succ])
            refine wpAnyH_take (i := 17) (v := undef) (oi := { dst := some 91, op := Op.convert 27 9 (Operand.tmp 90), type := 9, pos := "ref.go:69", after := #[{ on := 16, ground := Ground.data }, { on := 10, ground := Ground.guard }], guard := some (10, false) }) rfl (by kernel_rfl) (by kernel_rfl) (by kernel_rfl) (fun _ _ _ h => h) (Or.inr ⟨by rfl, rfl⟩) (by assumption) ?restyb17
            (try simp only [Act.put, List.setIfInBounds_toArray, List.set_cons_zero, List.set_cons_succ])
            refine wpAnyH_take (i := 18) (v := undef) (oi := { dst := some 92, op := Op.binOp BinOp.neq 9 (Operand.tmp 89) (Operand.tmp 91) 9, type := 4, pos := "ref.go:69", after := #[{ on := 15, ground := Ground.data }, { on := 17, ground := Ground.data }, { on := 10, ground := Ground.guard }], guard := some (10, false) }) rfl (by kernel_rfl) (by kernel_rfl) (by kernel_rfl) (fun _ _ _ h => h) (Or.inr ⟨by rfl, rfl⟩) (by assumption) ?restyb18
            (try simp only [Act.put, List.setIfInBounds_toArray, List.set_cons_zero, List.set_cons_succ])
            refine wpAnyH_take (i := 19) (v := ?vyb19) (oi := { dst := some 93, op := Op.pick (Operand.tmp 84) (Operand.const (Value.bool true)) (Operand.tmp 92), type := 4, pos := "ref.go:69", after := #[{ on := 10, ground := Ground.data }, { on := 18, ground := Ground.data }], guard := none }) rfl (by kernel_rfl) (by kernel_rfl) (by kernel_rfl) (fun _ _ _ h => h) (Or.inl ⟨by rfl, ?hyyb19⟩) (by assumption) ?restyb19
            case hyyb19 => (intro w hSw; (try dsimp only at hSw); go_split_ands; go_simp; try with_reducible rfl)
            (try simp only [Act.put, List.setIfInBounds_toArray, List.set_cons_zero, List.set_cons_succ])
            refine wpAnyH_done (by kernel_rfl) ?_ _
            go_wp2
            go_ret3
            exact ⟨_, rfl, Kd.R_nil _ _ _ _ _, below_step HRS.out.bel HB6.out⟩
          | true =>
            rw [if_pos rfl] at hn
            obtain ⟨bb, hbb, hn⟩ := Option.bind_eq_some_iff.mp hn
            have HBB := Aside0.mk hbb
            clear hbb HN3
            refine wpAnyH_take (i := 8) (v := ?vyc8) (oi := { dst := some 82, op := Op.unOp UnOp.not 4 (Operand.tmp 81), type := 4, pos := "ref.go:69", after := #[{ on := 7, ground := Ground.data }, { on := 3, ground := Ground.guard }], guard := some (3, false) }) rfl (by kernel_rfl) (by kernel_rfl) (by kernel_rfl) (fun _ _ _ h => h) (Or.inl ⟨by rfl, ?hyyc8⟩) (by assumption) ?restyc8
            case hyyc8 => (intro w hSw; (try dsimp only at hSw); go_split_ands; go_simp; try with_reducible rfl)
            (try simp only [Act.put, List.setIfInBounds_toArray, List.set_cons_zero, List.set_cons_succ])
            refine wpAnyH_take (i := 9) (v := ?vyc9) (oi := { dst := some 83, op := Op.pick (Operand.tmp 77) (Operand.const (Value.bool true)) (Operand.tmp 82), type := 4, pos := "ref.go:69", after := #[{ on := 3, ground := Ground.data }, { on := 8, ground := Ground.data }], guard := none }) rfl (by kernel_rfl) (by kernel_rfl) (by kernel_rfl) (fun _ _ _ h => h) (Or.inl ⟨by rfl, ?hyyc9⟩) (by assumption) ?restyc9
            case hyyc9 => (intro w hSw; (try dsimp only at hSw); go_split_ands; go_simp; try with_reducible rfl)
            (try simp only [Act.put, List.setIfInBounds_toArray, List.set_cons_zero, List.set_cons_succ])
            refine wpAnyH_take (i := 10) (v := ?vyc10) (oi := { dst := some 84, op := Op.move (Operand.tmp 83), type := 4, pos := "ref.go:69", after := #[{ on := 9, ground := Ground.data }, { on := 7, ground := Ground.chain }], guard := none }) rfl (by kernel_rfl) (by kernel_rfl) (by kernel_rfl) (fun _ _ _ h => h) (Or.inl ⟨by rfl, ?hyyc10⟩) (by assumption) ?restyc10
            case hyyc10 => (intro w hSw; (try dsimp only at hSw); go_split_ands; go_simp; try with_reducible rfl)
            (try simp only [Act.put, List.setIfInBounds_toArray, List.set_cons_zero, List.set_cons_succ])
            refine wpAnyH_take (i := 11) (v := ?vyc11) (oi := { dst := some 85, op := Op.move (Operand.tmp 6), type := 80, pos := "ref.go:69", after := #[{ on := 10, ground := Ground.guard }], guard := some (10, false) }) rfl (by kernel_rfl) (by kernel_rfl) (by kernel_rfl) (fun _ _ _ h => h) (Or.inl ⟨by rfl, ?hyyc11⟩) (by assumption) ?restyc11
            case hyyc11 => (intro w hSw; (try dsimp only at hSw); go_split_ands; go_simp; try with_reducible rfl)
            (try simp only [Act.put, List.setIfInBounds_toArray, List.set_cons_zero, List.set_cons_succ])
            refine wpAnyH_take (i := 12) (v := ?vyc12) (oi := { dst := some 86, op := Op.convert 80 3 (Operand.tmp 85), type := 3, pos := "ref.go:69", after := #[{ on := 11, ground := Ground.data }, { on := 10, ground := Ground.guard }], guard := some (10, false) }) rfl (by kernel_rfl) (by kernel_rfl) (by kernel_rfl) (fun _ _ _ h => h) (Or.inl ⟨by rfl, ?hyyc12⟩) (by assumption) ?restyc12
            case hyyc12 => (intro w hSw; (try dsimp only at hSw); go_split_ands; go_simp; try with_reducible rfl)
            (try simp only [Act.put, List.setIfInBounds_toArray, List.set_cons_zero, List.set_cons_succ])
            refine wpAnyH_take (i := 13) (v := ?vyc13) (oi := { dst := some 87, op := Op.move (Operand.tmp 8), type := 34, pos := "ref.go:69", after := #[{ on := 10, ground := Ground.guard }], guard := some (10, false) }) rfl (by kernel_rfl) (by kernel_rfl) (by kernel_rfl) (fun _ _ _ h => h) (Or.inl ⟨by rfl, ?hyyc13⟩) (by assumption) ?restyc13
            case hyyc13 => (intro w hSw; (try dsimp only at hSw); go_split_ands; go_simp; try with_reducible rfl)
            (try simp only [Act.put, List.setIfInBounds_toArray, List.set_cons_zero, List.set_cons_succ])
            refine wpAnyH_take (i := 16) (v := ?vyc16) (oi := { dst := some 90, op := Op.move (Operand.tmp 0), type := 27, pos := "ref.go:69", after := #[{ on := 10, ground := Ground.guard }], guard := some (10, false) }) rfl (by kernel_rfl) (by kernel_rfl) (by kernel_rfl) (fun _ _ _ h => h) (Or.inl ⟨by rfl, ?hyyc16⟩) (by assumption) ?restyc16
            case hyyc16 => (intro w hSw; (try dsimp only at hSw); go_split_ands; go_simp; try with_reducible rfl)
            (try simp only [Act.put, List.setIfInBounds_toArray, List.set_cons_zero, List.set_cons_succ])
            refine wpAnyH_take (i := 17) (v := ?vyc17) (oi := { dst := some 91, op := Op.convert 27 9 (Operand.tmp 90), type := 9, pos := "ref.go:69", after := #[{ on := 16, ground := Ground.data }, { on := 10, ground := Ground.guard }], guard := some (10, false) }) rfl (by kernel_rfl) (by kernel_rfl) (by kernel_rfl) (fun _ _ _ h => h) (Or.inl ⟨by rfl, ?hyyc17⟩) (by assumption) ?restyc17
            case hyyc17 => (intro w hSw; (try dsimp only at hSw); go_split_ands; go_simp; try with_reducible rfl)
            (try simp only [Act.put, List.setIfInBounds_toArray, List.set_cons_zero, List.set_cons_succ])
            refine wpAnyH_ready (rs := [14]) (by kernel_rfl) (by simp) ?_
            refine AllReadyH.cons (o := { dst := some 88, op := Op.call { callee := Callee.value (Operand.func 25), args := #[Operand.tmp 86, Operand.tmp 87], argTypes := #[3, 34] }, type := 27, pos := "ref.go:69", after := #[{ on := 12, ground := Ground.data }, { on := 13, ground := Ground.data }, { on := 10, ground := Ground.chain }, { on := 10, ground := Ground.guard }], guard := some (10, false) }) rfl (fun K hK => ?_) AllReadyH.nil
            go_simp
            simp only [i64_w]
            with_reducible refine (dogwatchref13_Encode.calls k1_ (wrap64 m) AR cR rows bb _ (Kd.R_reads' HRW.out).2.2 (Kd.R_reads' HRW.out).2.1 HBB.out).mono ?_
            rintro e w7 ⟨v7, rfl, ho7, hb7⟩
            have HB7 := Aside0.mk (below_step HB6.out hb7)
            have HO7 := Aside0.mk ho7
            replace HRW := Aside0.mk (Kd.R_below HRW.out hb7)
            clear ho7 hb7
            refine hK.out _ _ ?_ (fun hHeld => ?_)
            · exact ⟨HB7.out, pw_cell_below HB7.out k0, pw_cell_below HB7.out kk1, CV.out _ HB7.out⟩
            clear hK K
            (try simp only [Act.put, List.setIfInBounds_toArray, List.set_cons_zero, List.set_cons_succ])
            have cv2 : (convert 27 9 v7).run Try.prog w7 = .ok (.string (strOfNums bb)) w7 := own_string (P := Try.prog) Try.underlying27 Try.underlying5 Try.underlying9 (Kd.own_of_R HO7.out)
            refine held_more (S' := fun W' => (convert 27 9 v7).run Try.prog W' = .ok (.string (strOfNums bb)) W' ∧ Below wr.heap.size wr W' ∧ W'.cell? ⟨w.heap.size, 0, none⟩ = some (.slice A l.length c) ∧ W'.cell? ⟨w.heap.size, 1, none⟩ = some (.int .i64 er) ∧ (convert 27 9 (.slice A0 l0.length c0)).run Try.prog W' = .ok (.string (strOfNums l0)) W') (fun _ h => h.2) _ _ _ _ ?_
            have hHeld0 : (fun W' => (convert 27 9 v7).run Try.prog W' = .ok (.string (strOfNums bb)) W' ∧ Below wr.heap.size wr W' ∧ W'.cell? ⟨w.heap.size, 0, none⟩ = some (.slice A l.length c) ∧ W'.cell? ⟨w.heap.size, 1, none⟩ = some (.int .i64 er) ∧ (convert 27 9 (.slice A0 l0.length c0)).run Try.prog W' = .ok (.string (strOfNums l0)) W') _ := ⟨cv2, hHeld⟩
            clear hHeld
            have hHeld := hHeld0
            clear hHeld0
            by_cases cs : (strOfNums bb).toList = (strOfNums l0).toList
            · rw [if_pos cs] at hn
              simp only [Option.some.injEq, Prod.mk.injEq] at hn
              obtain ⟨rfl, rfl, rfl⟩ := hn
              have f1 : ((strOfNums bb).toList == (strOfNums l0).toList) = true := beq_iff_eq.mpr cs
              have f2 : ((strOfNums bb).toList != (strOfNums l0).toList) = false := bne_eq_false_iff_eq.mpr cs
              clear cs cv2
              refine wpAnyH_take (i := 15) (v := ?vyd15) (oi := { dst := some 89, op := Op.convert 27 9 (Operand.tmp 88), type := 9, pos := "ref.go:69", after := #[{ on := 14, ground := Ground.data }, { on := 10, ground := Ground.guard }], guard := some (10, false) }) rfl (by kernel_rfl) (by kernel_rfl) (by kernel_rfl) (fun _ _ _ h => h) (Or.inl ⟨by rfl, ?hyyd15⟩) (by assumption) ?restyd15
              case hyyd15 => (intro w hSw; (try dsimp only at hSw); go_split_ands; go_simp; try with_reducible rfl)
              (try simp only [Act.put, List.setIfInBounds_toArray, List.set_cons_zero, List.set_cons_succ])
              refine wpAnyH_take (i := 18) (v := ?vyd18) (oi := { dst := some 92, op := Op.binOp BinOp.neq 9 (Operand.tmp 89) (Operand.tmp 91) 9, type := 4, pos := "ref.go:69", after := #[{ on := 15, ground := Ground.data }, { on := 17, ground := Ground.data }, { on := 10, ground := Ground.guard }], guard := some (10, false) }) rfl (by kernel_rfl) (by kernel_rfl) (by kernel_rfl) (fun _ _ _ h => h) (Or.inl ⟨by rfl, ?hyyd18⟩) (by assumption) ?restyd18
              case hyyd18 => (intro w hSw; (try dsimp only at hSw); go_split_ands; go_simp; try with_reducible rfl)
              (try simp only [Act.put, List.setIfInBounds_toArray, List.set_cons_zero, List.set_cons_succ])
              refine wpAnyH_take (i := 19) (v := ?vyd19) (oi := { dst := some 93, op := Op.pick (Operand.tmp 84) (Operand.const (Value.bool true)) (Operand.tmp 92), type := 4, pos := "ref.go:69", after := #[{ on := 10, ground := Ground.data }, { on := 18, ground := Ground.data }], guard := none }) rfl (by kernel_rfl) (by kernel_rfl) (by kernel_rfl) (fun _ _ _ h => h) (Or.inl ⟨by rfl, ?hyyd19⟩) (by assumption) ?restyd19
              case hyyd19 => (intro w hSw; (try dsimp only at hSw); go_split_ands; go_simp; try with_reducible rfl)
              (try simp only [Act.put, List.setIfInBounds_toArray, List.set_cons_zero, List.set_cons_succ])
              refine wpAnyH_done (by kernel_rfl) ?_ _
              go_wp2
              go_ret3
              exact ⟨_, rfl, HRW.out, below_step HRS.out.bel HB7.out⟩
            · rw [if_neg cs] at hn
              simp only [Option.some.injEq, Prod.mk.injEq] at hn
              obtain ⟨rfl, rfl, rfl⟩ := hn
              have f1 : ((strOfNums bb).toList == (strOfNums l0).toList) = false := beq_eq_false_iff_ne.mpr cs
              have f2 : ((strOfNums bb).toList != (strOfNums l0).toList) = true := bne_iff_ne.mpr cs
              clear cs cv2
              refine wpAnyH_take (i := 15) (v := ?vye15) (oi := { dst := some 89, op := Op.convert 27 9 (Operand.tmp 88), type := 9, pos := "ref.go:69", after := #[{ on := 14, ground := Ground.data }, { on := 10, ground := Ground.guard }], guard := some (10, false) }) rfl (by kernel_rfl) (by kernel_rfl) (by kernel_rfl) (fun _ _ _ h => h) (Or.inl ⟨by rfl, ?hyye15⟩) (by assumption) ?restye15
              case hyye15 => (intro w hSw; (try dsimp only at hSw); go_split_ands; go_simp; try with_reducible rfl)
              (try simp only [Act.put, List.setIfInBounds_toArray, List.set_cons_zero, List.set_cons_succ])
              refine wpAnyH_take (i := 18) (v := ?vye18) (oi := { dst := some 92, op := Op.binOp BinOp.neq 9 (Operand.tmp 89) (Operand.tmp 91) 9, type := 4, pos := "ref.go:69", after := #[{ on := 15, ground := Ground.data }, { on := 17, ground := Ground.data }, { on := 10, ground := Ground.guard }], guard := some (10, false) }) rfl (by kernel_rfl) (by kernel_rfl) (by kernel_rfl) (fun _ _ _ h => h) (Or.inl ⟨by rfl, ?hyye18⟩) (by assumption) ?restye18
              case hyye18 => (intro w hSw; (try dsimp only at hSw); go_split_ands; go_simp; try with_reducible rfl)
              (try simp only [Act.put, List.setIfInBounds_toArray, List.set_cons_zero, List.set_cons_succ])
              refine wpAnyH_take (i := 19) (v := ?vye19) (oi := { dst := some 93, op := Op.pick (Operand.tmp 84) (Operand.const (Value.bool true)) (Operand.tmp 92), type := 4, pos := "ref.go:69", after := #[{ on := 10, ground := Ground.data }, { on := 18, ground := Ground.data }], guard := none }) rfl (by kernel_rfl) (by kernel_rfl) (by kernel_rfl) (fun _ _ _ h => h) (Or.inl ⟨by rfl, ?hyye19⟩) (by assumption) ?restye19
              case hyye19 => (intro w hSw; (try dsimp only at hSw); go_split_ands; go_simp; try with_reducible rfl)
              (try simp only [Act.put, List.setIfInBounds_toArray, List.set_cons_zero, List.set_cons_succ])
              refine wpAnyH_done (by kernel_rfl) ?_ _
              go_wp2
              go_ret3
              exact ⟨_, rfl, Kd.R_nil _ _ _ _ _, below_step HRS.out.bel HB7.out⟩
theorem dogwatchref13_Decode.calls (k : Nat) (A0 : Option Addr) (c0 : Nat) (l0 : List Int) (r1 : Int) (r2 : List (List Int)) (r3 : Bool) (w : World) (hr0 : Kd.C (Kd.int .u8) w A0 l0.length l0) (hc0 : l0.length ≤ c0) (h : dogwatchref13_Decode.f k l0 = some (r1, r2, r3)) :
    Calls Try.prog 45 #[.slice A0 l0.length c0] w fun e w' => ∃ v1_ : Value, e = .returned (.tuple #[.int .i64 r1, v1_, .bool r3]) ∧ Kd.N RR 23 w' w.heap.size (fun k_ => (w.heap.size ≤ k_)) v1_ r2 ∧ Below w.heap.size w w' := by
  have hF : Kd.F (Kd.int .u8) w (fun b => b < w.heap.size) A0 l0.length l0 := fun W' hW => by
    refine ⟨hr0.1, hr0.2.1, fun hn => ?_⟩
    obtain ⟨ad, e, hc⟩ := hr0.2.2 hn
    refine ⟨ad, e, fun j p hj => ?_⟩
    obtain ⟨c, hs, hr, hcell⟩ := hc j p hj
    refine ⟨c, hs, hr, fun i u hu => ?_⟩
    have h1 := hcell i u hu
    have hlt := World.block_lt_of_cell? w _ h1
    rw [World.cell?_of_block (hW _ hlt hlt)]
    exact h1
  refine (refDecode_walk k A0 c0 l0 r1 r2 r3 w hF hc0 h).mono ?_
  rintro e w' ⟨v, rfl, ho, hb⟩
  exact ⟨v, rfl, Kd.R_N (Kd.R_mono (Kd.R_bound ho) (fun _ hk => hk.2.1)), hb⟩
end Go.Proofs.Ytgfkcmmhnibaiaa.PRw
