/- slices.Insert at ring.member: the laws of its parts (elements of four cells). -/
import Derived.Test.YtpammdblenfhgaaRg5
import Derived.Laws.CopyRow
import Derived.Lib.AppendZerosOnto
import Derived.Lib.Overlaps
import Derived.Lib.SliceRun
import Derived.Lib.AppendZeros
import Derived.Lib.JoinLaws
import Derived.Lib.Walk
import Derived.Deep.AppendSrc
import Derived.Laws.Externs
import Derived.Laws.IdiomCopy
import Derived.Laws.NewBlocks
import Derived.Shelf.Spec.SlicesInsert
namespace Go.Proofs.Ytpammdblenfhgaa.Rg
open Go.RowKit Go.Proofs.YtpammdblenfhgaaW.PrintWords Go.Proofs.YtpammdblenfhgaaW.PrintLast Go.Proofs.YtpammdblenfhgaaW.PrintMore Pt PRg
set_option linter.unusedVariables false
set_option linter.unusedSimpArgs false
/-- copy at elements of four cells, into a row known whole. -/
theorem copy4 (w : World) (ty : TypeId) (g o dLen dCap : Nat) (a : Addr) (sLen sCap n : Nat) (cur : Array Value) (t : TypeId) (cs : List Value)
    (hg : w.heap[g]? = some (.cells cur t (0, 0))) (hmin : Nat.min sLen dLen = n) (hn : cs.length = n * 4)
    (hsrc : ∀ j v, cs[j]? = some v → w.cell? (a.add j) = some v) (hfit : o + cs.length ≤ cur.size) (h1 : ∀ v ∈ cs, v.oneCell' = true) :
    (Builtin.copy_ #[56, 56] ty #[.slice (some ⟨g, o, none⟩) dLen dCap, .slice (some a) sLen sCap]).run Try.prog w =
      .ok (goInt n) (w.setRow g (cur.toList.take o ++ cs ++ cur.toList.drop (o + cs.length)).toArray) := by
  have hl := run_loadCells_list (P := Try.prog) w a cs hsrc
  have hst := run_storeCells_at Try.prog g o t cs 0 cur w hg (by simpa using hfit) h1
  simp [Builtin.copy_, run_underlying Try.underlying56, Builtin.lenOf, Builtin.firstCells, Try.sizeOf103, hmin, ← hn, hl, hst]
def insF (l : List Mb) (i : Nat) (x : Mb) : List Mb := l.take i ++ x :: l.drop i
theorem insF_length (l : List Mb) (i : Nat) (x : Mb) (h : i ≤ l.length) : (insF l i x).length = l.length + 1 := by
  simp [insF]; omega
theorem mbs_take (l : List Mb) (i : Nat) : (mbs l).take (i * 4) = mbs (l.take i) := by
  induction i generalizing l with
  | zero => simp [mbs]
  | succ i ih =>
    cases l with
    | nil => simp [mbs]
    | cons x l => rw [mbs_cons, List.take_succ_cons, mbs_cons, ← ih, show (i + 1) * 4 = i * 4 + 1 + 1 + 1 + 1 by omega]; simp only [List.take_succ_cons]
theorem mbs_drop (l : List Mb) (i : Nat) : (mbs l).drop (i * 4) = mbs (l.drop i) := by
  induction i generalizing l with
  | zero => simp
  | succ i ih =>
    cases l with
    | nil => simp [mbs]
    | cons x l => rw [mbs_cons, List.drop_succ_cons, ← ih, show (i + 1) * 4 = i * 4 + 1 + 1 + 1 + 1 by omega]; simp only [List.drop_succ_cons]
theorem mbs_insF (l : List Mb) (i : Nat) (x : Mb) : mbs (insF l i x) = mbs (l.take i) ++ mb4 x ++ mbs (l.drop i) := by
  rw [insF, mbs_append, List.append_assoc]
  rfl
/-- The row after the shift, and after the element is laid. -/
def shiftRow (l : List Mb) (sp : List Value) (i : Nat) : List Value := (mbs l ++ sp).take ((i + 1) * 4) ++ mbs (l.drop i) ++ (mbs l ++ sp).drop ((i + 1) * 4 + (mbs (l.drop i)).length)
theorem shiftRow_length (l : List Mb) (sp : List Value) (i : Nat) (hi : i < l.length) (hs : 4 ≤ sp.length) : (shiftRow l sp i).length = (mbs l ++ sp).length := by
  have h1 := mbs_length l
  have h2 := mbs_length (l.drop i)
  rw [List.length_drop] at h2
  simp only [shiftRow, List.length_append, List.length_take, List.length_drop, h1, h2]
  omega
theorem shiftRow_take (l : List Mb) (sp : List Value) (i : Nat) (hi : i < l.length) : (shiftRow l sp i).take (i * 4) = mbs (l.take i) := by
  have h1 := mbs_length l
  rw [shiftRow, List.append_assoc, List.take_append_of_le_length (by rw [List.length_take, List.length_append]; omega), List.take_take, Nat.min_eq_left (by omega), List.take_append_of_le_length (by omega), mbs_take]
theorem shiftRow_drop (l : List Mb) (sp : List Value) (i : Nat) (hi : i < l.length) (hs : 4 ≤ sp.length) : (shiftRow l sp i).drop (i * 4 + 4) = mbs (l.drop i) ++ sp.drop 4 := by
  have h1 := mbs_length l
  have h2 := mbs_length (l.drop i)
  rw [List.length_drop] at h2
  have e : (mbs l ++ sp).drop ((i + 1) * 4 + (mbs (l.drop i)).length) = sp.drop 4 := by
    rw [List.drop_append, List.drop_of_length_le (by omega), List.nil_append]
    congr 1
    omega
  have e2 : ((mbs l ++ sp).take ((i + 1) * 4)).drop (i * 4 + 4) = [] := List.drop_of_length_le (by rw [List.length_take]; omega)
  have h3 : ((mbs l ++ sp).take ((i + 1) * 4)).length = i * 4 + 4 := by rw [List.length_take, List.length_append]; omega
  rw [shiftRow, e, List.append_assoc, List.drop_append, e2, h3, Nat.sub_self]
  rfl
theorem insRow (l : List Mb) (sp : List Value) (i : Nat) (x : Mb) (hi : i < l.length) (hs : 4 ≤ sp.length) :
    (shiftRow l sp i).take (i * 4) ++ mb4 x ++ (shiftRow l sp i).drop (i * 4 + (mb4 x).length) = mbs (insF l i x) ++ sp.drop 4 := by
  rw [shiftRow_take l sp i hi, show i * 4 + (mb4 x).length = i * 4 + 4 from rfl, shiftRow_drop l sp i hi hs, mbs_insF]
  simp only [List.append_assoc]
/-- What the overlaps of slices says of two blocks. -/
theorem no_overlap (w : World) (vb b ob la ca lb cb : Nat) (hne : vb ≠ b) (cA cB : Array Value) (tA tB : TypeId) (hA : w.heap[vb]? = some (.cells cA tA (0, 0))) (hB : w.heap[b]? = some (.cells cB tB (0, 0))) (hk : cB.size ≠ 0) :
    (callFunc 100 #[.slice (some ⟨vb, 0, none⟩) la ca, .slice (some ⟨b, ob, none⟩) lb cb]).run Try.prog w = .ok (.value (.bool false)) w := by
  have sA : w.shape? vb = some (tA, cA.size) := by simp [World.shape?, hA]
  have sB : w.shape? b = some (tB, cB.size) := by simp [World.shape?, hB]
  rw [run_callFunc_extern Try.func100 (by kernel_rfl) (by kernel_rfl) (by kernel_rfl) (e := Extern.SlicesOverlaps.overlaps #[56, 56] #[4]) (by kernel_rfl),
    Lib.run_overlaps_apart w 56 4 103 Try.underlying56 4 Try.sizeOf103 ⟨vb, 0, none⟩ ⟨b, ob, none⟩ la ca lb cb hne tA tB cA.size cB.size sA sB hk (blk_frozen hA 0) (blk_frozen hA _)]
  rfl
set_option maxHeartbeats 4000000 in
set_option maxRecDepth 100000 in
theorem ins_shift (w : World) (b c i vb : Nat) (l : List Mb) (sp : List Value) (x : Mb) (hb : w.heap[b]? = some (.cells (mbs l ++ sp).toArray 103 (0, 0))) (hsz : l.length * 4 + sp.length = c * 4) (hc : c ≤ maxLen) (hi : i < l.length) (hroom : l.length + 1 ≤ c)
    (hv : w.heap[vb]? = some (.cells (mb4 x).toArray 103 (0, 0))) (hvb : vb ≠ b) :
    Calls Try.prog 62 #[.slice (some ⟨b, 0, none⟩) l.length c, .int .i64 i, .slice (some ⟨vb, 0, none⟩) 1 1] w fun e w' =>
      e = .returned (.slice (some ⟨b, 0, none⟩) (l.length + 1) c) ∧ w' = (w.drew.setRow b (shiftRow l sp i).toArray).setRow b (mbs (insF l i x) ++ sp.drop 4).toArray := by
  have hc63 : c ≤ 9223372036854775807 := by unfold maxLen at hc; omega
  have hz1 : ¬ ((1 : Int) = 0) := by omega
  have hz2 : ¬ ((i : Int) = (l.length : Int)) := by omega
  have hov := fun lb cb => no_overlap w vb b ((i + 1) * 4) 1 1 lb cb hvb _ _ _ _ hv hb (by simp [mbs_length]; omega)
  have hml := mbs_length l
  have hdl : (mbs (l.drop i)).length = (l.length - i) * 4 := by rw [mbs_length, List.length_drop]
  have hcell : ∀ j u, (mbs (l.drop i))[j]? = some u → w.drew.cell? (Addr.add ⟨b, i * 4, none⟩ j) = some u := fun j u hj => by
    rw [Addr.add_lit]
    refine (blk_cell (show w.drew.heap[b]? = _ from hb) (i * 4 + j)).trans ?_
    rw [← mbs_drop, List.getElem?_drop] at hj
    simp only [List.getElem?_toArray]
    rw [List.getElem?_append_left (List.getElem?_eq_some_iff.1 hj).1]
    exact hj
  have hcp1 : ∀ ty dc sc, (Builtin.copy_ #[56, 56] ty #[.slice (some ⟨b, (i + 1) * 4, none⟩) (l.length - i) dc, .slice (some ⟨b, i * 4, none⟩) (l.length + 1 - i) sc]).run Try.prog w.drew = .ok (goInt ((l.length - i : Nat) : Int)) (w.drew.setRow b (shiftRow l sp i).toArray) := fun ty dc sc =>
    copy4 w.drew ty b ((i + 1) * 4) (l.length - i) dc ⟨b, i * 4, none⟩ (l.length + 1 - i) sc (l.length - i) _ 103 (mbs (l.drop i)) hb (by simp only [Nat.min_def]; split <;> omega) hdl hcell (by simp only [List.size_toArray, List.length_append, hdl]; omega) (fun v hv' => mbs_one _ v hv')
  obtain ⟨W1, hW1⟩ : ∃ W1, W1 = w.drew.setRow b (shiftRow l sp i).toArray := ⟨_, rfl⟩
  have hb1 : W1.heap[b]? = some (.cells (shiftRow l sp i).toArray 103 (0, 0)) := by rw [hW1]; exact setRow_heap _ _ _ _ _ _ hb
  have hv1 : W1.heap[vb]? = some (.cells (mb4 x).toArray 103 (0, 0)) := by rw [hW1]; exact (setRow_other _ _ _ _ hvb).trans hv
  have hcp2 : ∀ ty dc, (Builtin.copy_ #[56, 56] ty #[.slice (some ⟨b, i * 4, none⟩) (l.length + 1 - i) dc, .slice (some ⟨vb, 0, none⟩) 1 1]).run Try.prog W1 = .ok (goInt 1) (W1.setRow b (mbs (insF l i x) ++ sp.drop 4).toArray) := fun ty dc => by
    have h := copy4 W1 ty b (i * 4) (l.length + 1 - i) dc ⟨vb, 0, none⟩ 1 1 1 _ 103 (mb4 x) hb1 (by simp only [Nat.min_def]; split <;> omega) rfl (fun j u hj => by
      rw [Addr.add_lit]
      refine (blk_cell hv1 (0 + j)).trans ?_
      simpa using hj) (by simp only [List.size_toArray, shiftRow_length l sp i hi (by omega), List.length_append]; show i * 4 + 4 ≤ _; omega) (by simp [mb4, Value.oneCell'])
    rw [List.toList_toArray, insRow l sp i x hi (by omega)] at h
    exact h
  rw [← hW1] at hcp1
  have hw1 : IntKind.i64.wrap ((i : Int) + 1) = (i : Int) + 1 := by rw [IntKind.wrap_i64]; omega
  have hb1' : (0 : Int) ≤ (i : Int) + 1 := by omega
  have htn : ((i : Int) + 1).toNat = i + 1 := by omega
  have hb2 : ¬ (c = i + 1) := by omega
  have hb3 : (i : Int) ≤ (l.length : Int) + 1 := by omega
  have hb4 : ¬ (c = i) := by omega
  have hin : i ≤ l.length := by omega
  have mixed : Try.prog.follows .mixedOrders = true := by kernel_rfl
  have HW1 := Aside0.mk hW1
  clear hcell hb1 hv1 hW1
  go_enter Try.func62, Try.ntmps62
  go_wp2_with (simp only [hov])
  go_region_law_o (refine step_copy_runI rfl _ _ 56 56 rfl _ _ (by simp [Act.eval, Act.put]) (by simp [Act.eval, Act.put]) (hcp1 _ _ _) ?_)
  go_wp2_with (at_builtin; refine wpList_copy_runI _ rfl _ _ 56 56 rfl _ _ rfl rfl (hcp2 _ _) ?_)
  go_ret
  exact ⟨rfl, by rw [HW1.out]⟩
end Go.Proofs.Ytpammdblenfhgaa.Rg
