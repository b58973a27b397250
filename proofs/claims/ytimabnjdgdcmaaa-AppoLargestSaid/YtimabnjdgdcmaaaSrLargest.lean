/- appo.Largest, walked. -/
import Derived.Test.YtimabnjdgdcmaaaSrMem
import Derived.Test.YtimabnjdgdcmaaaSrStable
import Derived.Test.YtimabnjdgdcmaaaPAppx1
namespace Go.Proofs.Ytimabnjdgdcmaaa.PApp
open Go Go.Proofs Go.Shelf Go.RowKit Go.Lib Go.Sort Go.Proofs.YtimabnjdgdcmaaaW.PrintWords Go.Proofs.YtimabnjdgdcmaaaW.PrintLast Go.Proofs.YtimabnjdgdcmaaaW.PrintMore
set_option linter.unusedVariables false
set_option linter.unusedSimpArgs false
def qtL (a all x : Int) : Int := wrap64 (Int.tdiv (wrap64 (a * x)) all)
def rtL (a all x : Int) : Int := Int.tmod (wrap64 (a * x)) all
def leftL (a all : Int) (l : List Int) : Int := l.foldl (fun s x => wrap64 (s - qtL a all x)) a
def idA (n : Nat) : Array (Fin n) := Array.ofFn (fun i => i)
def ordL (rs : List Int) : List Int :=
  if h : 0 < rs.length then
    haveI : Inhabited (Fin rs.length) := ⟨⟨0, h⟩⟩
    valsF (stableA (ltOf (cfF rs)) (idA rs.length))
  else []
def bumpL (o idx : List Int) : List Int := idx.foldl (fun o i => o.set i.toNat (wrap64 (rd o i + 1))) o
theorem rd_at (l : List Int) (i : Nat) (h : i < l.length) : rd l (i : Int) = l[i] := by
  simp [rd, List.getD_eq_getElem?_getD, h]
def fillL (F : List Int) (i : Nat) : List Int := F.take i ++ List.replicate (F.length - i) 0
theorem fillL_length (F : List Int) (i : Nat) (h : i ≤ F.length) : (fillL F i).length = F.length := by simp [fillL]; omega
theorem fillL_zero (F : List Int) : fillL F 0 = List.replicate F.length 0 := by simp [fillL]
theorem fillL_all (F : List Int) : fillL F F.length = F := by simp [fillL]
theorem fillL_set (F : List Int) (i : Nat) (h : i < F.length) : (fillL F i).set i (F.getD i 0) = fillL F (i + 1) := by
  unfold fillL
  have h1 : (F.take i).length = i := by simp; omega
  rw [List.set_append_right _ _ (by omega), h1, Nat.sub_self, List.take_add_one, show F.length - i = (F.length - (i + 1)) + 1 by omega, List.replicate_succ, List.set_cons_zero, List.append_assoc]
  congr 1
  rw [List.getD_eq_getElem?_getD, List.getElem?_eq_getElem h]
  rfl
theorem fillL_get (F : List Int) (i : Nat) (h : i < F.length) : (fillL F (i + 1)).getD i 0 = F.getD i 0 := by
  rw [← fillL_set F i h, List.getD_eq_getElem?_getD, List.getElem?_set_self (by rw [fillL_length F i (by omega)]; exact h)]
  rfl
def appo_Largest.f (k : Nat) (a0 : Int) (l1 : List Int) : Option (List Int × Int) :=
  (appo_right.f k a0 l1).bind fun t => if t = true then
    (if 0 < l1.length ∧ l1.length ≤ 64 then (appo_sum.f k l1).bind fun all =>
      if all = 0 then none else
        if 0 ≤ leftL a0 all l1 ∧ leftL a0 all l1 ≤ (l1.length : Int) then
          some (bumpL (l1.map (qtL a0 all)) ((ordL (l1.map (rtL a0 all))).take (leftL a0 all l1).toNat), 0)
        else none
    else none)
  else some ([], 1)
theorem bumpL_length (o : List Int) : ∀ idx : List Int, (bumpL o idx).length = o.length := by
  intro idx
  unfold bumpL
  induction idx generalizing o with
  | nil => rfl
  | cons i t ih => rw [List.foldl_cons, ih, List.length_set]
theorem bumpL_step (o idx : List Int) (j : Nat) (hj : j < idx.length) (v : Nat) (hv : idx.getD j 0 = (v : Int)) :
    bumpL o (idx.take (j + 1)) = (bumpL o (idx.take j)).set v (wrap64 ((bumpL o (idx.take j)).getD v 0 + 1)) := by
  have e : idx[j] = (v : Int) := by rw [← hv, List.getD_eq_getElem?_getD, List.getElem?_eq_getElem hj]; rfl
  unfold bumpL
  rw [List.take_add_one, List.getElem?_eq_getElem hj, List.foldl_append]
  simp only [Option.toList, List.foldl_cons, List.foldl_nil, e, Int.toNat_natCast]
  rfl
theorem appo_Largest.mono : ∀ a0 a1 k, LeO (appo_Largest.f k a0 a1) (appo_Largest.f (k + 1) a0 a1) := by
  intro a0 a1 k
  unfold appo_Largest.f
  refine LeO.bind (appo_right.mono _ _ _) (fun _ => ?_)
  refine LeO.ite ?_ (LeO.refl _)
  refine LeO.ite ?_ (LeO.refl _)
  exact LeO.bind (appo_sum.mono _ _) (fun _ => LeO.refl _)
theorem below_set' {B : Nat} {w W : World} {g j : Nat} {v : Value} (h : Below B w W) (hg : B ≤ g) : Below B w (W.setCell ⟨g, j, none⟩ v) := h.setCell hg _
section
variable {α : Type} [Inhabited α]
theorem blkF_size (lt : α → α → Bool) (n : Nat) : ∀ (f a : Nat) (d : Array α), (blkF lt n f a d).2.size = d.size
  | 0, _, d => rfl
  | f + 1, a, d => by
    rw [blkF]
    split
    · rw [blkF_size lt n f, insSize]
    · rfl
theorem mrgF_size (lt : α → α → Bool) (n B : Nat) : ∀ (f a : Nat) (d : Array α), (mrgF lt n B f a d).2.size = d.size
  | 0, _, d => rfl
  | f + 1, a, d => by
    rw [mrgF]
    split
    · rw [mrgF_size lt n B f, symA_size]
    · rfl
theorem mrgEnd_size (lt : α → α → Bool) (n B : Nat) (x : Nat × Array α) : (mrgEnd lt n B x).size = x.2.size := by
  unfold mrgEnd
  split
  · exact symA_size _ _ _ _ _
  · rfl
theorem allF_size (lt : α → α → Bool) (n : Nat) : ∀ (f B : Nat) (d : Array α), (allF lt n f B d).size = d.size
  | 0, _, d => rfl
  | f + 1, B, d => by
    rw [allF]
    split
    · rw [allF_size lt n f, mrgEnd_size, mrgF_size]
    · rfl
theorem stableA_size (lt : α → α → Bool) (d : Array α) : (stableA lt d).size = d.size := by
  unfold stableA
  dsimp only
  rw [allF_size, insSize, blkF_size]
theorem stableA_small (lt : α → α → Bool) (d : Array α) (h : d.size < 20) : stableA lt d = Sort.insertionSort lt d 0 d.size := by
  unfold stableA
  rw [blkF_end _ _ _ _ _ (by omega)]
  dsimp only
  rw [allF_end _ _ _ _ _ (by omega)]
end
theorem ordL_arr (rs : List Int) (h : 0 < rs.length) : ∃ dd : Array (Fin rs.length), ordL rs = valsF dd ∧ dd.size = rs.length := by
  letI : Inhabited (Fin rs.length) := ⟨⟨0, h⟩⟩
  exact ⟨stableA (ltOf (cfF rs)) (idA rs.length), by unfold ordL; rw [dif_pos h], by rw [stableA_size]; simp [idA]⟩
theorem ordL_length (rs : List Int) : (ordL rs).length = rs.length := by
  by_cases h : 0 < rs.length
  · obtain ⟨dd, e, hs⟩ := ordL_arr rs h
    rw [e, valsF_length, hs]
  · unfold ordL
    rw [dif_neg h]; simp; omega
theorem ordL_range (rs : List Int) (j : Nat) (hj : j < rs.length) : ∃ v : Nat, v < rs.length ∧ (ordL rs).getD j 0 = (v : Int) := by
  obtain ⟨dd, e, hs⟩ := ordL_arr rs (by omega)
  rw [e]
  refine ⟨(dd[j]'(by omega)).val, (dd[j]'(by omega)).isLt, ?_⟩
  simp only [valsF, List.getD_eq_getElem?_getD, List.getElem?_map, Array.getElem?_toList, Array.getElem?_eq_getElem (show j < dd.size by omega), Option.map_some, Option.getD_some]
/-- The memory in the first loop: n numbers each. -/
structure MemL (w0 w : World) (B n : Nat) (O R D : List Int) : Prop where
  below : Below w0.heap.size w0 w
  le : w0.heap.size ≤ B
  o : BlkI w B O
  r : BlkI w (B + 1) R
  d : BlkI w (B + 1 + 1 + 1) D
  box : w.cell? ⟨B + 1 + 1, 0, none⟩ = some (.slice (some ⟨B + 1, 0, none⟩) n n)
theorem memL_step {w0 w : World} {B n : Nat} {O R D : List Int} (h : MemL w0 w B n O R D) (i : Nat) (a b c : Int) :
    MemL w0 ((((w.setCell ⟨B, i, none⟩ (.int .i64 a)).setCell ⟨B + 1, i, none⟩ (.int .i64 b)).setCell ⟨B + 1 + 1 + 1, i, none⟩ (.int .i64 c)).drew) B n (O.set i a) (R.set i b) (D.set i c) := by
  refine ⟨below_drew (below_set' (below_set' (below_set' h.below h.le) (by have := h.le; omega)) (by have := h.le; omega)), h.le, blk_drew (blk_other (blk_other (blk_set h.o i a) (by omega) _ _) (by omega) _ _), blk_drew (blk_other (blk_set (blk_other h.r (by omega) _ _) i b) (by omega) _ _), blk_drew (blk_set (blk_other (blk_other h.d (by omega) _ _) (by omega) _ _) i c), ?_⟩
  rw [← h.box]
  show (World.setCell _ _ _).cell? _ = _
  exact World.cell?_of_block ((Below.heap_setCell _ _ _ _ (by simp)).trans ((Below.heap_setCell _ _ _ _ (by simp)).trans (Below.heap_setCell _ _ _ _ (by simp; try omega))))
theorem memL_start (w : World) (nd n : Nat) : MemL w (((((w.drewN nd).alloc (.cells (madeCells #[.int .i64 0] n) 3)).alloc (.cells (madeCells #[.int .i64 0] n) 3)).alloc (.cells #[.slice (some ⟨w.heap.size + 1, 0, none⟩) n n] 48)).alloc (.cells (madeCells #[.int .i64 0] n) 3)) w.heap.size n (List.replicate n 0) (List.replicate n 0) (List.replicate n 0) := by
  have s1 : ((w.drewN nd).alloc (.cells (madeCells #[.int .i64 0] n) 3)).heap.size = w.heap.size + 1 := by simp [World.drewN]
  have s2 : (((w.drewN nd).alloc (.cells (madeCells #[.int .i64 0] n) 3)).alloc (.cells (madeCells #[.int .i64 0] n) 3)).heap.size = w.heap.size + 1 + 1 := by simp [World.drewN]
  have s3 : ((((w.drewN nd).alloc (.cells (madeCells #[.int .i64 0] n) 3)).alloc (.cells (madeCells #[.int .i64 0] n) 3)).alloc (.cells #[.slice (some ⟨w.heap.size + 1, 0, none⟩) n n] 48)).heap.size = w.heap.size + 1 + 1 + 1 := by simp [World.drewN]
  refine ⟨?_, Nat.le_refl _, ?_, ?_, ?_, ?_⟩
  · exact below_alloc (below_alloc (below_alloc (below_alloc (pw_below_drewN (Below.refl _ _) _) _) _) _) _
  · exact blk_alloc (blk_alloc (blk_alloc (blk_made (w.drewN nd) n) _) _) _
  · have := blk_made ((w.drewN nd).alloc (.cells (madeCells #[.int .i64 0] n) 3)) n
    rw [s1] at this
    exact blk_alloc (blk_alloc this _) _
  · have := blk_made ((((w.drewN nd).alloc (.cells (madeCells #[.int .i64 0] n) 3)).alloc (.cells (madeCells #[.int .i64 0] n) 3)).alloc (.cells #[.slice (some ⟨w.heap.size + 1, 0, none⟩) n n] 48)) n
    rw [s3] at this
    exact this
  · have e : ((((w.drewN nd).alloc (.cells (madeCells #[.int .i64 0] n) 3)).alloc (.cells (madeCells #[.int .i64 0] n) 3)).alloc (.cells #[.slice (some ⟨w.heap.size + 1, 0, none⟩) n n] 48)).cell? ⟨w.heap.size + 1 + 1, 0, none⟩ = some (.slice (some ⟨w.heap.size + 1, 0, none⟩) n n) := by
      have hn := heap_alloc_new (((w.drewN nd).alloc (.cells (madeCells #[.int .i64 0] n) 3)).alloc (.cells (madeCells #[.int .i64 0] n) 3)) (.cells #[.slice (some ⟨w.heap.size + 1, 0, none⟩) n n] 48)
      rw [s2] at hn
      simp only [World.cell?, hn]
      rfl
    exact (World.cell?_of_block (Below.heap_alloc _ _ _ (World.block_lt_of_cell? _ _ e))).trans e
theorem memL_bump {w0 w : World} {B n : Nat} {O R D : List Int} (h : MemL w0 w B n O R D) (i : Nat) (a : Int) :
    MemL w0 (w.setCell ⟨B, i, none⟩ (.int .i64 a)) B n (O.set i a) R D := by
  refine ⟨below_set' h.below h.le, h.le, blk_set h.o i a, blk_other h.r (by omega) _ _, blk_other h.d (by omega) _ _, ?_⟩
  rw [← h.box]
  exact World.cell?_of_block (Below.heap_setCell _ _ _ _ (by simp; try omega))
theorem sort_mem {w0 w : World} {B : Nat} {O R : List Int} (hp : 0 < R.length) (hlt : R.length ≤ 64) (h : MemL w0 w B R.length O R (valsF (idA R.length))) :
    Calls Try.prog 54 #[.slice (some ⟨B + 1 + 1 + 1, 0, none⟩) R.length R.length, .func (.func 55) #[] #[.pointer (some ⟨B + 1 + 1, 0, none⟩)]] w fun e w' => e = .returned (.tuple #[]) ∧ MemL w0 w' B R.length O R (ordL R) := by
  letI : Inhabited (Fin R.length) := ⟨⟨0, hp⟩⟩
  have hsz : (idA R.length).size = R.length := by simp [idA]
  have hr : Rests w (B + 1 + 1) (B + 1) R.length R := ⟨h.box, fun i hi => blk_cell h.r i hi⟩
  have hc := sort54A encF oneF (cfF R) 55 #[.pointer (some ⟨B + 1 + 1, 0, none⟩)] (B + 1 + 1 + 1) 0 R.length (idA R.length) w enters55 (by rw [hsz]; exact reads55 hr (by omega) (by omega)) (blk_holds h.d) (by rw [hsz]; omega)
  have ho : ordL R = valsF (stableA (ltOf (cfF R)) (idA R.length)) := by unfold ordL; rw [dif_pos hp]
  have hs2 : (stableA (ltOf (cfF R)) (idA R.length)).size = (idA R.length).size := stableA_size _ _
  rw [ho]
  generalize stableA (ltOf (cfF R)) (idA R.length) = dd at hc hs2 ⊢
  rw [hsz] at hc
  refine hc.mono ?_
  rintro e w' ⟨rfl, n, rfl⟩
  refine ⟨rfl, pw_below_drewN (below_put h.below (by have := h.le; omega) _) _, h.le, blk_drewN (blk_put_other h.o (by omega) _) _, blk_drewN (blk_put_other h.r (by omega) _) _, blk_drewN (blk_put h.d hs2) _, ?_⟩
  rw [← h.box]
  show (putRow encF w (B + 1 + 1 + 1) 0 dd).cell? _ = _
  exact cell?_putRow_other _ _ _ _ _ _ (Or.inl (by simp; try omega))
theorem info3' : (Try.prog.info? 3).map (fun i => (i.zero, i.size, i.bytes)) = some (some (.int .i64 0), 1, 8) := info3
set_option maxHeartbeats 8000000 in
set_option maxRecDepth 100000 in
theorem appo_Largest.calls (k : Nat) (a0 : Int) (A1 : Option Addr) (c1 : Nat) (l1 : List Int) (r1 : List Int) (r2 : Int) (w : World) (hr1 : Kd.C (Kd.int .i64) w A1 l1.length l1) (hc1 : l1.length ≤ c1) (h : appo_Largest.f k a0 l1 = some (r1, r2)) :
    Calls Try.prog 33 #[.int .i64 a0, .slice A1 l1.length c1] w fun e w' => ∃ v0_ : Value, e = .returned (.tuple #[v0_, .int .i64 r2]) ∧ Kd.R (Kd.int .i64) 3 w' w.heap.size (fun _ => True) v0_ r1 ∧ Below w.heap.size w w' := by
  have HR1 := Aside0.mk hr1
  have HC1 := Aside0.mk hc1
  clear hr1 hc1
  unfold appo_Largest.f at h
  obtain ⟨t, ht, h⟩ := Option.bind_eq_some_iff.mp h
  have A3 := Aside0.mk ht
  clear ht
  cases t with
  | false =>
    rw [if_neg (by decide)] at h
    simp only [Option.some.injEq, Prod.mk.injEq] at h
    obtain ⟨rfl, rfl⟩ := h
    go_enter Try.func33, Try.ntmps33
    go_wp2_with (go_at_call 52; (with_reducible refine (appo_right.calls k a0 _ _ l1 false _ HR1.out HC1.out A3.out).mono ?_); rintro e w2 ⟨rfl, ⟨nd, rfl⟩⟩)
    go_ret2
    exact ⟨_, rfl, Kd.R_nil _ _ _ _ _, pw_below_drewN (Below.refl _ _) _⟩
  | true =>
    rw [if_pos rfl] at h
    by_cases hn : 0 < l1.length ∧ l1.length ≤ 64
    case neg => rw [if_neg hn] at h; exact absurd h (by simp)
    rw [if_pos hn] at h
    obtain ⟨all, hs, h⟩ := Option.bind_eq_some_iff.mp h
    have A4 := Aside0.mk hs
    clear hs
    by_cases ha : all = 0
    · rw [if_pos ha] at h; exact absurd h (by simp)
    rw [if_neg ha] at h
    have za : (all == 0) = false := beq_eq_false_iff_ne.mpr ha
    have hmk := run_make_row' (P := Try.prog) 48 3 (.int .i64 0) 8 Try.underlying48 info3' rfl .i64 .i64 l1.length (by omega) (by omega)
    have HN := Aside0.mk hn
    have HH := Aside0.mk h
    clear h hn
    go_enter Try.func33, Try.ntmps33
    go_wp2_with (first | (go_at_call 52; (with_reducible refine (appo_right.calls k a0 _ _ l1 true _ HR1.out HC1.out A3.out).mono ?_); rintro e w2 ⟨rfl, ⟨nd, rfl⟩⟩) | (go_at_call 53; (with_reducible refine (appo_sum.calls k _ _ l1 all _ (Kd.C_drewN HR1.out _) HC1.out A4.out).mono ?_); rintro e w2 ⟨rfl, ⟨nd2, rfl⟩⟩))
    go_loopg [10, 33] (l1.length + 1) (fun kq v10 v33 w' => ∃ i : Nat, v10 = .int .i64 (leftL a0 all (l1.take i)) ∧ v33 = .int .i64 (i : Int) ∧ Aside0 (i ≤ l1.length) ∧ Aside0 (i + kq = l1.length + 1) ∧ Aside0 (MemL w w' w.heap.size l1.length (fillL (l1.map (qtL a0 all)) i) (fillL (l1.map (rtL a0 all)) i) (fillL (valsF (idA l1.length)) i)))
    case atStart =>
      refine ⟨0, rfl, rfl, ⟨by omega⟩, ⟨by omega⟩, ⟨?_⟩⟩
      rw [fillL_zero, fillL_zero, fillL_zero, List.length_map, List.length_map, valsF_length, show (idA l1.length).size = l1.length by simp [idA]]
      exact memL_start w _ _
    case round =>
      obtain ⟨i, rfl, rfl, HI, HK, HM⟩ := hrel
      cases gk with
      | zero => exact absurd HK.out (by have := HI.out; omega)
      | succ k1 =>
        by_cases cc : i < l1.length
        · have d1 : decide ((i : Int) < (l1.length : Int)) = true := decide_eq_true (by omega)
          have d2 : decide (i < l1.length) = true := decide_eq_true cc
          obtain ⟨ad, ead, hx⟩ := Kd.at_int HR1.out (i : Int) (by omega) (by omega)
          cases ead
          replace hx := (HM.out.below.cell (World.block_lt_of_cell? w _ hx)).trans hx
          rw [Int.toNat_natCast] at hx
          have p0 := eq_true (show (0 : Int) ≤ (i : Int) by omega)
          have q0 := eq_true (show (i : Int) < (l1.length : Int) by omega)
          have bx := HM.out.box
          have fo := blk_thaw HM.out.o i
          have fr := blk_thaw HM.out.r i
          have fd := blk_thaw HM.out.d i
          have co := blk_cell HM.out.o i (by rw [fillL_length _ _ (by rw [List.length_map]; omega), List.length_map]; exact cc)
          have cr := blk_cell HM.out.r i (by rw [fillL_length _ _ (by rw [List.length_map]; omega), List.length_map]; exact cc)
          have cd := blk_cell HM.out.d i (by rw [fillL_length _ _ (by rw [valsF_length]; simp [idA]; omega), valsF_length]; simpa [idA] using cc)
          obtain ⟨uo, huo⟩ : ∃ u, u = (fillL (l1.map (qtL a0 all)) i).getD i 0 := ⟨_, rfl⟩
          obtain ⟨ur, hur⟩ : ∃ u, u = (fillL (l1.map (rtL a0 all)) i).getD i 0 := ⟨_, rfl⟩
          obtain ⟨ud, hud⟩ : ∃ u, u = (fillL (valsF (idA l1.length)) i).getD i 0 := ⟨_, rfl⟩
          rw [← huo] at co
          rw [← hur] at cr
          rw [← hud] at cd
          clear huo hur hud
          generalize hxx : rd l1 (i : Int) = x at hx
          have HXX := Aside0.mk hxx
          have HCC := Aside0.mk cc
          clear hxx cc
          go_wp2
          go_big_region
          have hF : (l1.map (qtL a0 all)).getD i 0 = wrap64 ((wrap64 (a0 * x)).tdiv all) := by
            rw [List.getD_eq_getElem?_getD, List.getElem?_map, List.getElem?_eq_getElem HCC.out]
            show qtL a0 all (l1[i]'HCC.out) = _
            rw [← HXX.out, rd_at l1 i HCC.out]; rfl
          have hG : (l1.map (rtL a0 all)).getD i 0 = (wrap64 (a0 * x)).tmod all := by
            rw [List.getD_eq_getElem?_getD, List.getElem?_map, List.getElem?_eq_getElem HCC.out]
            show rtL a0 all (l1[i]'HCC.out) = _
            rw [← HXX.out, rd_at l1 i HCC.out]; rfl
          have hD : (valsF (idA l1.length)).getD i 0 = (i : Int) := by
            simp [valsF, idA, List.getD_eq_getElem?_getD, HCC.out]
          have hM2 := memL_step HM.out i (wrap64 ((wrap64 (a0 * x)).tdiv all)) ((wrap64 (a0 * x)).tmod all) (i : Int)
          rw [← hF, ← hG, ← hD, fillL_set _ _ (by rw [List.length_map]; exact HCC.out), fillL_set _ _ (by rw [List.length_map]; exact HCC.out), fillL_set _ _ (by rw [valsF_length]; simpa [idA] using HCC.out)] at hM2
          rw [hF, hG, hD] at hM2
          clear co cr cd bx fo fr fd hF hG hD hx
          generalize (((wr.setCell ⟨w.heap.size, i, none⟩ (.int .i64 (wrap64 ((wrap64 (a0 * x)).tdiv all)))).setCell ⟨w.heap.size + 1, i, none⟩ (.int .i64 ((wrap64 (a0 * x)).tmod all))).setCell ⟨w.heap.size + 1 + 1 + 1, i, none⟩ (.int .i64 (i : Int))).drew = w3 at hM2 ⊢
          have hc3 := blk_cell hM2.o i (by rw [fillL_length _ _ (by rw [List.length_map]; exact HCC.out), List.length_map]; exact HCC.out)
          rw [fillL_get _ _ (by rw [List.length_map]; exact HCC.out)] at hc3
          have hF : (l1.map (qtL a0 all)).getD i 0 = qtL a0 all x := by
            rw [List.getD_eq_getElem?_getD, List.getElem?_map, List.getElem?_eq_getElem HCC.out]
            show qtL a0 all (l1[i]'HCC.out) = _
            rw [← HXX.out, rd_at l1 i HCC.out]
          rw [hF] at hc3
          have hL : leftL a0 all (l1.take (i + 1)) = wrap64 (leftL a0 all (l1.take i) - qtL a0 all x) := by
            rw [← HXX.out, rd_at l1 i HCC.out]
            unfold leftL
            rw [List.take_add_one, List.getElem?_eq_getElem HCC.out, List.foldl_append]
            rfl
          have HL3 := Aside0.mk hL
          have HM3 := Aside0.mk hM2
          clear hM2 hL hF
          go_wp2
          go_roundg k1
          case measure => omega
          case rel => exact ⟨i + 1, by rw [HL3.out], by first | rfl | (congr 1; unfold wrap64; have := HCC.out; have := HN.out; omega), ⟨HCC.out⟩, ⟨by have := HK.out; omega⟩, HM3⟩
        · have d1 : decide ((i : Int) < (l1.length : Int)) = false := decide_eq_false (by omega)
          have d2 : decide (i < l1.length) = false := decide_eq_false cc
          obtain rfl : i = l1.length := by have := HI.out; omega
          have hM := HM.out
          have hRl : (l1.map (rtL a0 all)).length = l1.length := List.length_map ..
          rw [List.take_length]
          rw [show fillL (l1.map (qtL a0 all)) l1.length = l1.map (qtL a0 all) by rw [← (List.length_map (qtL a0 all) : (l1.map (qtL a0 all)).length = l1.length)]; exact fillL_all _,
            show fillL (l1.map (rtL a0 all)) l1.length = l1.map (rtL a0 all) by rw [← hRl]; exact fillL_all _,
            show fillL (valsF (idA l1.length)) l1.length = valsF (idA l1.length) by
              conv => lhs; arg 2; rw [show l1.length = (valsF (idA l1.length)).length by rw [valsF_length]; simp [idA]]
              exact fillL_all _] at hM
          have h := HH.out
          by_cases hlr : 0 ≤ leftL a0 all l1 ∧ leftL a0 all l1 ≤ (l1.length : Int)
          case neg => rw [if_neg hlr] at h; exact absurd h (by simp)
          rw [if_pos hlr] at h
          simp only [Option.some.injEq, Prod.mk.injEq] at h
          obtain ⟨hr, rfl⟩ := h
          obtain ⟨m, hm⟩ : ∃ m : Nat, leftL a0 all l1 = (m : Int) := ⟨(leftL a0 all l1).toNat, by omega⟩
          rw [hm] at hlr hr ⊢
          rw [Int.toNat_natCast] at hr
          have hcS : Calls Try.prog 54 #[.slice (some ⟨w.heap.size + 1 + 1 + 1, 0, none⟩) l1.length l1.length, .func (.func 55) #[] #[.pointer (some ⟨w.heap.size + 1 + 1, 0, none⟩)]] wr fun e w' => e = .returned (.tuple #[]) ∧ MemL w w' w.heap.size l1.length (l1.map (qtL a0 all)) (l1.map (rtL a0 all)) (ordL (l1.map (rtL a0 all))) := by
            have := sort_mem (B := w.heap.size) (w0 := w) (w := wr) (O := l1.map (qtL a0 all)) (R := l1.map (rtL a0 all)) (by rw [hRl]; exact HN.out.1) (by rw [hRl]; exact HN.out.2) (by rw [hRl]; exact hM)
            rw [hRl] at this
            exact this
          have HCS := Aside0.mk hcS
          have HR := Aside0.mk hr
          have HLR := Aside0.mk hlr
          have p1 := eq_true hlr.1
          have p2 := eq_true hlr.2
          have p3 : (m ≤ l1.length) = True := eq_true (by omega)
          clear hcS hr hlr hM HM cc HH hm
          go_wp2_with (go_at_call 54; refine HCS.out.mono ?_; rintro e w4 ⟨rfl, hm4⟩; have HM4 := Aside0.mk hm4; clear hm4)
          go_loopg [72] (m + 1) (fun kq v72 w' => ∃ j : Nat, v72 = .int .i64 (j : Int) ∧ Aside0 (j ≤ m) ∧ Aside0 (j + kq = m + 1) ∧ Aside0 (MemL w w' w.heap.size l1.length (bumpL (l1.map (qtL a0 all)) ((ordL (l1.map (rtL a0 all))).take j)) (l1.map (rtL a0 all)) (ordL (l1.map (rtL a0 all)))))
          case atStart => exact ⟨0, rfl, ⟨Nat.zero_le _⟩, ⟨by omega⟩, HM4⟩
          case round =>
            clear HM4
            obtain ⟨j, rfl, HJ, HK2, HM5⟩ := hrel
            cases gk with
            | zero => exact absurd HK2.out (by have := HJ.out; omega)
            | succ k2 =>
              by_cases cj : j < m
              · have d3 : decide ((j : Int) < (m : Int)) = true := decide_eq_true (by omega)
                have d4 : decide (j < m) = true := decide_eq_true cj
                have hlen : j < (l1.map (rtL a0 all)).length := by rw [hRl]; have := HLR.out; omega
                obtain ⟨v, hv, hve⟩ := ordL_range (l1.map (rtL a0 all)) j hlen
                have hx := blk_cell HM5.out.d j (by rw [ordL_length]; exact hlen)
                rw [hve] at hx
                rw [hRl] at hv
                have hOl : (bumpL (l1.map (qtL a0 all)) ((ordL (l1.map (rtL a0 all))).take j)).length = l1.length := by rw [bumpL_length, List.length_map]
                have cy := blk_cell HM5.out.o v (by rw [hOl]; exact hv)
                have fy := blk_thaw HM5.out.o v
                have hb := bumpL_step (l1.map (qtL a0 all)) (ordL (l1.map (rtL a0 all))) j (by rw [ordL_length]; exact hlen) v hve
                obtain ⟨y, hy⟩ : ∃ y, y = (bumpL (l1.map (qtL a0 all)) ((ordL (l1.map (rtL a0 all))).take j)).getD v 0 := ⟨_, rfl⟩
                rw [← hy] at cy
                have hM6 := memL_bump HM5.out v (wrap64 (y + 1))
                rw [hy, ← hb, ← hy] at hM6
                have HM6 := Aside0.mk hM6
                have q1 := eq_true (show (0 : Int) ≤ (j : Int) by omega)
                have q2 := eq_true (show (j : Int) < (m : Int) by omega)
                have q3 := eq_true (show (0 : Int) ≤ (v : Int) by omega)
                have q4 := eq_true (show (v : Int) < (l1.length : Int) by omega)
                have CJ := Aside0.mk cj
                clear hM6 hy hb hve hv hlen hOl cj
                go_wp2
                go_roundg k2
                case measure => omega
                case rel => exact ⟨j + 1, by first | rfl | (congr 1; unfold wrap64; have := CJ.out; have := HLR.out; have := HN.out; omega), ⟨CJ.out⟩, ⟨by have := HK2.out; omega⟩, HM6⟩
              · have d3 : decide ((j : Int) < (m : Int)) = false := decide_eq_false (by omega)
                have d4 : decide (j < m) = false := decide_eq_false cj
                obtain rfl : j = m := by have := HJ.out; omega
                have hM7 := HM5.out
                rw [HR.out] at hM7
                have HM7 := Aside0.mk hM7
                have HLN := Aside0.mk (show r1.length = l1.length by rw [← HR.out, bumpL_length, List.length_map])
                clear hM7 cj
                go_wp2
                go_ret2
                refine ⟨_, rfl, ?_, HM7.out.below⟩
                have := blk_R HM7.out.o (Nat.le_refl _) (by rw [HLN.out]; have := HN.out; unfold maxLen; omega)
                rw [HLN.out] at this
                exact this
end Go.Proofs.Ytimabnjdgdcmaaa.PApp
