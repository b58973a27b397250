/- slices.Insert at ring.member: whole. -/
import Derived.Test.YtpammdblenfhgaaRg7
namespace Go.Proofs.Ytpammdblenfhgaa.Rg
open Go.RowKit Go.Proofs.YtpammdblenfhgaaW.PrintWords Go.Proofs.YtpammdblenfhgaaW.PrintLast Go.Proofs.YtpammdblenfhgaaW.PrintMore Pt PRg
set_option linter.unusedVariables false
set_option linter.unusedSimpArgs false
/-- The new row: what stood ahead, room for the rest. -/
def midRow (w : World) (l : List Mb) (i c : Nat) : List Value := mbs (l.take i) ++ (Builtin.zeroCells zMb.cells (l.length + 1 - i)).toList ++ spare w (l.length + 1) c
def midRow2 (w : World) (l : List Mb) (i c : Nat) (x : Mb) : List Value := (midRow w l i c).take (i * 4) ++ mb4 x ++ (midRow w l i c).drop (i * 4 + 4)
theorem midRow_length (w : World) (l : List Mb) (i c : Nat) (hi : i ≤ l.length) : (midRow w l i c).length = (l.length + 1) * 4 + (spare w (l.length + 1) c).length := by
  have h1 := mbs_length (l.take i)
  rw [List.length_take, Nat.min_eq_left hi] at h1
  have h2 := zc_size (l.length + 1 - i)
  simp only [midRow, List.length_append, h1, Array.length_toList, h2]
  omega
theorem midRow_take (w : World) (l : List Mb) (i c : Nat) (hi : i ≤ l.length) : (midRow w l i c).take (i * 4) = mbs (l.take i) := by
  have h1 := mbs_length (l.take i)
  rw [List.length_take, Nat.min_eq_left hi] at h1
  rw [midRow, List.append_assoc, ← h1, List.take_left]
theorem midRow_drop (w : World) (l : List Mb) (i c : Nat) (hi : i ≤ l.length) : (midRow w l i c).drop ((l.length + 1) * 4) = spare w (l.length + 1) c := by
  have h1 := mbs_length (l.take i)
  rw [List.length_take, Nat.min_eq_left hi] at h1
  have h2 := zc_size (l.length + 1 - i)
  have h3 : (mbs (l.take i) ++ (Builtin.zeroCells zMb.cells (l.length + 1 - i)).toList).length = (l.length + 1) * 4 := by rw [List.length_append, h1, Array.length_toList, h2]; omega
  rw [midRow, ← h3, List.drop_left]
theorem midRow2_length (w : World) (l : List Mb) (i c : Nat) (x : Mb) (hi : i ≤ l.length) : (midRow2 w l i c x).length = (midRow w l i c).length := by
  have h := midRow_length w l i c hi
  simp only [midRow2, List.length_append, List.length_take, List.length_drop, show (mb4 x).length = 4 from rfl]
  omega
theorem midRow3 (w : World) (l : List Mb) (i c : Nat) (x : Mb) (hi : i < l.length) :
    (midRow2 w l i c x).take ((i + 1) * 4) ++ mbs (l.drop i) ++ (midRow2 w l i c x).drop ((i + 1) * 4 + (mbs (l.drop i)).length) = mbs (insF l i x) ++ spare w (l.length + 1) c := by
  have h1 := mbs_length (l.take i)
  rw [List.length_take, Nat.min_eq_left (by omega)] at h1
  have h2 := mbs_length (l.drop i)
  rw [List.length_drop] at h2
  have hm := midRow_length w l i c (by omega)
  have e : (midRow2 w l i c x).take ((i + 1) * 4) = mbs (l.take i) ++ mb4 x := by
    rw [midRow2, midRow_take w l i c (by omega), show (i + 1) * 4 = (mbs (l.take i) ++ mb4 x).length by rw [List.length_append, h1]; show _ = i * 4 + 4; omega, List.take_left]
  have e2 : (midRow2 w l i c x).drop ((i + 1) * 4 + (mbs (l.drop i)).length) = spare w (l.length + 1) c := by
    rw [midRow2, midRow_take w l i c (by omega), List.drop_append, List.drop_of_length_le (by rw [List.length_append, h1]; show i * 4 + 4 ≤ _; omega), List.nil_append, List.drop_drop, ← midRow_drop w l i c (by omega)]
    congr 1
    rw [List.length_append, h1, h2]
    show i * 4 + 4 + ((i + 1) * 4 + (l.length - i) * 4 - (i * 4 + 4)) = _
    omega
  rw [e, e2, mbs_insF]
set_option maxHeartbeats 4000000 in
set_option maxRecDepth 100000 in
theorem ins_grow (w : World) (b c i vb : Nat) (l : List Mb) (sp : List Value) (x : Mb) (hb : w.heap[b]? = some (.cells (mbs l ++ sp).toArray 103 (0, 0))) (hi : i < l.length) (hlc : l.length ≤ c) (hroom : c < l.length + 1) (hl : l.length ≤ 1000)
    (hv : w.heap[vb]? = some (.cells (mb4 x).toArray 103 (0, 0))) :
    Calls Try.prog 62 #[.slice (some ⟨b, 0, none⟩) l.length c, .int .i64 i, .slice (some ⟨vb, 0, none⟩) 1 1] w fun e w' =>
      e = .returned (.slice (some ⟨w.heap.size, 0, none⟩) (l.length + 1) (grownCap w (l.length + 1) c 103)) ∧
      w' = (((w.drew.alloc (.cells (midRow w l i c).toArray 103)).setRow w.heap.size (midRow2 w l i c x).toArray).drew).setRow w.heap.size (mbs (insF l i x) ++ spare w (l.length + 1) c).toArray := by
  obtain ⟨i0, hi0, hz0, hzs, hzb⟩ := info_parts info103
  have hz1 : ¬ ((1 : Int) = 0) := by omega
  have hz2 : ¬ ((i : Int) = (l.length : Int)) := by omega
  have hz3 : (c : Int) < (l.length : Int) + 1 := by omega
  have hml := mbs_length l
  have hdl : (mbs (l.drop i)).length = (l.length - i) * 4 := by rw [mbs_length, List.length_drop]
  have hrow := midRow_length w l i c (by omega)
  have hrow2 := midRow2_length w l i c x (by omega)
  have hkk : (l.length : Int) + 1 - (i : Int) = ((l.length + 1 - i : Nat) : Int) := by omega
  have hik : i + (l.length + 1 - i) = l.length + 1 := by omega
  have hold : (Builtin.firstCells i0.size i (.slice (some ⟨b, 0, none⟩) i c)).run Try.prog w.drew = .ok (mbs (l.take i)).toArray w.drew := by
    rw [hzs]
    exact run_firstCells_some w.drew 4 i ⟨b, 0, none⟩ i c (mbs (l.take i)) (by rw [mbs_length, List.length_take]; omega) (fun j u hj => by
        rw [Addr.add_lit]
        refine (blk_cell (show w.drew.heap[b]? = _ from hb) (0 + j)).trans ?_
        rw [Nat.zero_add]
        simp only [List.getElem?_toArray]
        rw [← mbs_take, List.getElem?_take] at hj
        split at hj
        · rw [List.getElem?_append_left (List.getElem?_eq_some_iff.1 hj).1]
          exact hj
        · cases hj)
  have hrz : ∀ ty, (Builtin.append_ #[56, 3] ty #[.slice (some ⟨b, 0, none⟩) i c, .int .i64 ((l.length : Int) + 1 - (i : Int))]).run Try.prog w =
      .ok (.slice (some ⟨w.heap.size, 0, none⟩) (l.length + 1) (grownCap w (l.length + 1) c 103)) (w.drew.alloc (.cells (midRow w l i c).toArray 103)) := fun ty => by
    have h := Lib.run_append_grow_zeros w 56 3 ty 103 i0 _ .i64 .i64 Try.underlying56 Try.underlying3 hi0 hz0 (some ⟨b, 0, none⟩) i c (mbs (l.take i)) hold (l.length + 1 - i) (by omega) (by omega) (by omega) (by omega) (by rw [hzb]; omega) (by rw [hzb, hik]; exact growslice_fits hroom (by omega))
    rw [hik] at h
    rw [hkk, h]
    congr 2
    simp [midRow, spare]
  obtain ⟨G, hG⟩ : ∃ G, G = grownCap w (l.length + 1) c 103 := ⟨_, rfl⟩
  have hGn : l.length + 1 ≤ G := by rw [hG]; exact grownCap_ge w _ _ _
  have hG63 : G ≤ 9223372036854775807 := by
    have := grownCap_le_maxLen w (l.length + 1) c 103 (by unfold maxLen; omega)
    rw [← hG] at this
    unfold maxLen at this
    omega
  rw [← hG] at hrz ⊢
  obtain ⟨W1, hW1⟩ : ∃ W1, W1 = w.drew.alloc (.cells (midRow w l i c).toArray 103) := ⟨_, rfl⟩
  have hn1 : W1.heap[w.heap.size]? = some (.cells (midRow w l i c).toArray 103 (0, 0)) := by rw [hW1]; exact heap_alloc_new w.drew _
  have hv1 : W1.heap[vb]? = some (.cells (mb4 x).toArray 103 (0, 0)) := by rw [hW1]; exact (Below.heap_alloc w.drew _ _ (blk_lt hv)).trans hv
  have hb1 : W1.heap[b]? = some (.cells (mbs l ++ sp).toArray 103 (0, 0)) := by rw [hW1]; exact (Below.heap_alloc w.drew _ _ (blk_lt hb)).trans hb
  have hvw := blk_lt hv
  have hbw := blk_lt hb
  rw [← hW1] at hrz
  have hcpA : ∀ ty dc, (Builtin.copy_ #[56, 56] ty #[.slice (some ⟨w.heap.size, i * 4, none⟩) (l.length + 1 - i) dc, .slice (some ⟨vb, 0, none⟩) 1 1]).run Try.prog W1 = .ok (goInt 1) (W1.setRow w.heap.size (midRow2 w l i c x).toArray) := fun ty dc => by
    have h := copy4 W1 ty w.heap.size (i * 4) (l.length + 1 - i) dc ⟨vb, 0, none⟩ 1 1 1 _ 103 (mb4 x) hn1 (by simp only [Nat.min_def]; split <;> omega) rfl (mb4_cells hv1) (by simp only [List.size_toArray, hrow]; show i * 4 + 4 ≤ _; omega) (mb4_one x)
    rw [List.toList_toArray] at h
    exact h
  obtain ⟨W2, hW2⟩ : ∃ W2, W2 = (W1.setRow w.heap.size (midRow2 w l i c x).toArray) := ⟨_, rfl⟩
  have hn2 : W2.heap[w.heap.size]? = some (.cells (midRow2 w l i c x).toArray 103 (0, 0)) := by rw [hW2]; exact setRow_heap _ _ _ _ _ _ hn1
  have hb2 : W2.heap[b]? = some (.cells (mbs l ++ sp).toArray 103 (0, 0)) := by rw [hW2]; exact (setRow_other _ _ _ _ (by omega)).trans hb1
  rw [← hW2] at hcpA
  have hcpB : ∀ ty dc sc, (Builtin.copy_ #[56, 56] ty #[.slice (some ⟨w.heap.size, (i + 1) * 4, none⟩) (l.length - i) dc, .slice (some ⟨b, i * 4, none⟩) (l.length - i) sc]).run Try.prog W2.drew = .ok (goInt ((l.length - i : Nat) : Int)) (W2.drew.setRow w.heap.size (mbs (insF l i x) ++ spare w (l.length + 1) c).toArray) := fun ty dc sc => by
    have h := copy4 W2.drew ty w.heap.size ((i + 1) * 4) (l.length - i) dc ⟨b, i * 4, none⟩ (l.length - i) sc (l.length - i) _ 103 (mbs (l.drop i)) hn2 (by simp) hdl (fun j u hj => by
        rw [Addr.add_lit]
        refine (blk_cell (show W2.drew.heap[b]? = _ from hb2) (i * 4 + j)).trans ?_
        rw [← mbs_drop, List.getElem?_drop] at hj
        simp only [List.getElem?_toArray]
        rw [List.getElem?_append_left (List.getElem?_eq_some_iff.1 hj).1]
        exact hj) (by simp only [List.size_toArray, hrow2, hrow, hdl]; omega) (fun v hv' => mbs_one _ v hv')
    rw [List.toList_toArray, midRow3 w l i c x hi] at h
    exact h
  obtain ⟨W3, hW3⟩ : ∃ W3, W3 = (W2.drew.setRow w.heap.size (mbs (insF l i x) ++ spare w (l.length + 1) c).toArray) := ⟨_, rfl⟩
  rw [← hW3] at hcpB
  have HW : Aside0 (W3 = (((w.drew.alloc (.cells (midRow w l i c).toArray 103)).setRow w.heap.size (midRow2 w l i c x).toArray).drew).setRow w.heap.size (mbs (insF l i x) ++ spare w (l.length + 1) c).toArray) := ⟨by rw [hW3, hW2, hW1]⟩
  have hGi : ¬ (G = i) := by omega
  have hGim : ¬ (G = i + 1) := by omega
  have hci : ¬ (c = i) := by omega
  have hw1 : IntKind.i64.wrap ((i : Int) + 1) = (i : Int) + 1 := by rw [IntKind.wrap_i64]; omega
  have hb1' : (0 : Int) ≤ (i : Int) + 1 := by omega
  have hin : i ≤ l.length := by omega
  have htn : ((i : Int) + 1).toNat = i + 1 := by omega
  have hb3 : (i : Int) ≤ (l.length : Int) := by omega
  have mixed : Try.prog.follows .mixedOrders = true := by kernel_rfl
  clear hkk hik hold hG hW1 hW2 hW3 hn1 hn2 hb1 hb2 hv1 hrow hrow2 hdl hml hi0 hz0 hzs hzb hb hv
  rw [← HW.out]
  go_enter Try.func62, Try.ntmps62
  go_wp2_with (first
    | (at_builtin; refine Lib.wpList_append_run _ rfl _ _ _ _ rfl _ _ rfl rfl _ _ (hrz _) ?_)
    | (at_builtin; refine wpList_copy_runI _ rfl _ _ 56 56 rfl _ _ rfl rfl (hcpA _ _) ?_))
  go_region_law_o (refine step_copy_runI rfl _ _ 56 56 rfl (.slice (some ⟨w.heap.size, (i + 1) * 4, none⟩) (l.length - i) (G - (i + 1))) (.slice (some ⟨b, i * 4, none⟩) (l.length - i) (c - i)) (by simp [Act.eval, Act.put]) (by simp [Act.eval, Act.put]) (hcpB 3 (G - (i + 1)) (c - i)) ?_)
  go_wp2
  go_ret
  exact ⟨rfl, rfl⟩
end Go.Proofs.Ytpammdblenfhgaa.Rg
