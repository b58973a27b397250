/- slices.Insert at ring.member: at the end, and into a new row. -/
import Derived.Test.YtpammdblenfhgaaRg6
namespace Go.Proofs.Ytpammdblenfhgaa.Rg
open Go.RowKit Go.Proofs.YtpammdblenfhgaaW.PrintWords Go.Proofs.YtpammdblenfhgaaW.PrintLast Go.Proofs.YtpammdblenfhgaaW.PrintMore Pt PRg
set_option linter.unusedVariables false
set_option linter.unusedSimpArgs false
def zMb : Value := .agg #[.int .i64 0, .int .u64 0, .int .u64 0, .bool false]
theorem info103 : (Try.prog.info? 103).map (fun i => (i.zero, i.size, i.bytes)) = some (some zMb, 4, 32) := by kernel_rfl
theorem zc_size (n : Nat) : (Builtin.zeroCells zMb.cells n).size = n * 4 := by simp [Builtin.zeroCells, zMb, Value.cells]
/-- Stored cell by cell, or the row anew: one world. -/
theorem setCells_row (w : World) (g o : Nat) (cur : Array Value) (t : TypeId) (cs : List Value) (hg : w.heap[g]? = some (.cells cur t (0, 0))) (hfit : o + cs.length ≤ cur.size) (h1 : ∀ v ∈ cs, v.oneCell' = true) :
    w.setCells g o cs = w.setRow g (cur.toList.take o ++ cs ++ cur.toList.drop (o + cs.length)).toArray := by
  have a := run_storeCells_at Try.prog g o t cs 0 cur w hg (by simpa using hfit) h1
  have b := run_storeCells_cells (P := Try.prog) g o cs 0 w (fun j hj => by rw [blk_cell hg (o + 0 + j), Array.getElem?_eq_getElem (by omega)]; rfl) (fun j _ => blk_frozen hg _) h1
  rw [a] at b
  injection b with _ h
  exact h.symm
theorem mb4_one (x : Mb) : ∀ v ∈ mb4 x, v.oneCell' = true := by simp [mb4, Value.oneCell']
theorem mb4_cells {w : World} {vb : Nat} {x : Mb} (hv : w.heap[vb]? = some (.cells (mb4 x).toArray 103 (0, 0))) : ∀ j u, (mb4 x)[j]? = some u → w.cell? (Addr.add ⟨vb, 0, none⟩ j) = some u := fun j u hj => by
  rw [Addr.add_lit]
  refine (blk_cell hv (0 + j)).trans ?_
  simpa using hj
theorem src4 {w : World} {vb : Nat} {x : Mb} (hv : w.heap[vb]? = some (.cells (mb4 x).toArray 103 (0, 0))) : Src Try.prog 4 56 (.slice (some ⟨vb, 0, none⟩) 1 1) 1 (mb4 x) w :=
  Src.ofSlice (size := 4) w Try.underlying56 ⟨vb, 0, none⟩ 1 1 (mb4 x) rfl (mb4_cells hv) (mb4_one x)
theorem insF_end (l : List Mb) (x : Mb) : insF l l.length x = l ++ [x] := by simp [insF]
set_option maxHeartbeats 4000000 in
set_option maxRecDepth 100000 in
theorem ins_end_room (w : World) (b c vb : Nat) (l : List Mb) (sp : List Value) (x : Mb) (hb : w.heap[b]? = some (.cells (mbs l ++ sp).toArray 103 (0, 0))) (hsz : l.length * 4 + sp.length = c * 4) (hc : c ≤ maxLen) (hroom : l.length + 1 ≤ c)
    (hv : w.heap[vb]? = some (.cells (mb4 x).toArray 103 (0, 0))) :
    Calls Try.prog 62 #[.slice (some ⟨b, 0, none⟩) l.length c, .int .i64 l.length, .slice (some ⟨vb, 0, none⟩) 1 1] w fun e w' =>
      e = .returned (.slice (some ⟨b, 0, none⟩) (l.length + 1) c) ∧ w' = w.setRow b (mbs (insF l l.length x) ++ sp.drop 4).toArray := by
  have hc63 : c ≤ 9223372036854775807 := by unfold maxLen at hc; omega
  have hz1 : ¬ ((1 : Int) = 0) := by omega
  obtain ⟨i0, hi0, hz0, hzs, hzb⟩ := info_parts info103
  have hml := mbs_length l
  have hrun : ∀ ty, (Builtin.append_ #[56, 56] ty #[.slice (some ⟨b, 0, none⟩) l.length c, .slice (some ⟨vb, 0, none⟩) 1 1]).run Try.prog w = .ok (.slice (some ⟨b, 0, none⟩) (l.length + 1) c) (w.setRow b (mbs (insF l l.length x) ++ sp.drop 4).toArray) := fun ty => by
    have h := run_append_room_src (P := Try.prog) (w := w) 56 56 ty 103 i0 Try.underlying56 hi0 b 0 l.length c (.slice (some ⟨vb, 0, none⟩) 1 1) 1 (mb4 x) (by rw [hzs]; exact src4 hv) hroom
      (fun j hj => by rw [hzs, blk_cell hb, Array.getElem?_eq_getElem (by have : (mb4 x).length = 4 := rfl; simp only [List.size_toArray, List.length_append]; omega)]; rfl) (fun j hj => blk_frozen hb _)
    rw [h, hzs, setCells_row w b _ _ _ _ hb (by show 0 + l.length * 4 + 4 ≤ _; simp only [List.size_toArray, List.length_append]; omega) (mb4_one x), List.toList_toArray, Nat.zero_add, ← hml, List.take_left, insF_end, mbs_append, show mbs [x] = mb4 x from List.append_nil _]
    congr 4
    rw [List.drop_append, List.drop_of_length_le (by omega), List.nil_append]
    congr 1
    show (mbs l).length + 4 - _ = 4
    omega
  clear hml hb hsz hzs hi0
  go_enter Try.func62, Try.ntmps62
  go_wp2_with (at_builtin; refine Lib.wpList_append_run _ rfl _ _ _ _ rfl _ _ rfl rfl _ _ (hrun _) ?_)
  go_ret
  exact ⟨rfl, rfl⟩
/-- The new row's spare cells. -/
def spare (w : World) (n c : Nat) : List Value := (Builtin.zeroCells zMb.cells (grownCap w n c 103 - n)).toList
set_option maxHeartbeats 4000000 in
set_option maxRecDepth 100000 in
theorem ins_end_grow (w : World) (base : Option Addr) (c vb : Nat) (l : List Mb) (x : Mb) (hbase : (base = none ∧ l = [] ∧ c = 0) ∨ ∃ b sp, base = some ⟨b, 0, none⟩ ∧ w.heap[b]? = some (.cells (mbs l ++ sp).toArray 103 (0, 0))) (hlc : l.length ≤ c) (hroom : c < l.length + 1) (hl : l.length ≤ 1000)
    (hv : w.heap[vb]? = some (.cells (mb4 x).toArray 103 (0, 0))) :
    Calls Try.prog 62 #[.slice base l.length c, .int .i64 l.length, .slice (some ⟨vb, 0, none⟩) 1 1] w fun e w' =>
      e = .returned (.slice (some ⟨w.heap.size, 0, none⟩) (l.length + 1) (grownCap w (l.length + 1) c 103)) ∧ w' = w.drew.alloc (.cells (mbs (insF l l.length x) ++ spare w (l.length + 1) c).toArray 103) := by
  have hz1 : ¬ ((1 : Int) = 0) := by omega
  obtain ⟨i0, hi0, hz0, hzs, hzb⟩ := info_parts info103
  have hml := mbs_length l
  have hold : (Builtin.firstCells i0.size l.length (.slice base l.length c)).run Try.prog w.drew = .ok (mbs l).toArray w.drew := by
    rw [hzs]
    rcases hbase with ⟨rfl, rfl, rfl⟩ | ⟨b, sp, rfl, hb⟩
    · exact run_firstCells_none w.drew 4 0 0 0
    · exact run_firstCells_some w.drew 4 l.length ⟨b, 0, none⟩ l.length c (mbs l) hml (fun j u hj => by
        rw [Addr.add_lit]
        refine (blk_cell (show w.drew.heap[b]? = _ from hb) (0 + j)).trans ?_
        rw [Nat.zero_add]
        simp only [List.getElem?_toArray]
        rw [List.getElem?_append_left (List.getElem?_eq_some_iff.1 hj).1]
        exact hj)
  have hrun : ∀ ty, (Builtin.append_ #[56, 56] ty #[.slice base l.length c, .slice (some ⟨vb, 0, none⟩) 1 1]).run Try.prog w = .ok (.slice (some ⟨w.heap.size, 0, none⟩) (l.length + 1) (grownCap w (l.length + 1) c 103)) (w.drew.alloc (.cells (mbs (insF l l.length x) ++ spare w (l.length + 1) c).toArray 103)) := fun ty => by
    have h := run_append_grow_src (P := Try.prog) (w := w) 56 56 ty 103 i0 _ Try.underlying56 hi0 hz0 base l.length c (mbs l) hold (.slice (some ⟨vb, 0, none⟩) 1 1) 1 (mb4 x) (by rw [hzs]; exact src4 hv) hroom (by omega) (by rw [hzb]; exact growslice_fits hroom (by omega))
    rw [h, insF_end, mbs_append, show mbs [x] = mb4 x from List.append_nil _]
    congr 2
    simp [spare]
  clear hml hzs hi0 hold
  obtain ⟨b, rfl | rfl⟩ : ∃ b : Nat, base = none ∨ base = some ⟨b, 0, none⟩ := by
    rcases hbase with ⟨rfl, _⟩ | ⟨b, sp, rfl, _⟩
    · exact ⟨0, .inl rfl⟩
    · exact ⟨b, .inr rfl⟩
  · have hl0 : l.length = 0 := by
      rcases hbase with ⟨_, rfl, _⟩ | ⟨_, _, h, _⟩
      · rfl
      · cases h
    have hc0 : c = 0 := by omega
    subst hc0
    clear hbase
    generalize hE : mbs (insF l l.length x) = E at *
    rw [hl0] at hrun ⊢
    go_enter Try.func62, Try.ntmps62
    go_wp2_with (at_builtin; refine Lib.wpList_append_run _ rfl _ _ _ _ rfl _ _ rfl rfl _ _ (hrun _) ?_)
    go_ret
    exact ⟨rfl, rfl⟩
  · clear hbase
    have hc63 : c ≤ 9223372036854775807 := by omega
    go_enter Try.func62, Try.ntmps62
    go_wp2_with (at_builtin; refine Lib.wpList_append_run _ rfl _ _ _ _ rfl _ _ rfl rfl _ _ (hrun _) ?_)
    all_goals (go_ret; exact ⟨rfl, rfl⟩)
end Go.Proofs.Ytpammdblenfhgaa.Rg
