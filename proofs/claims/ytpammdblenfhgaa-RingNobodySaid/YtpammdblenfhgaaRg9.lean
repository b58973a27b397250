/- slices.Insert and slices.Delete at ring.member: what a caller needs. -/
import Derived.Test.YtpammdblenfhgaaRg8
namespace Go.Proofs.Ytpammdblenfhgaa.Rg
open Go.RowKit Go.Proofs.YtpammdblenfhgaaW.PrintWords Go.Proofs.YtpammdblenfhgaaW.PrintLast Go.Proofs.YtpammdblenfhgaaW.PrintMore Pt PRg
set_option linter.unusedVariables false
set_option linter.unusedSimpArgs false
theorem setRow_size (w : World) (g : Nat) (cs : Array Value) : (w.setRow g cs).heap.size = w.heap.size := by unfold World.setRow; simp
theorem Turns.setRow {w w' : World} {F : Nat → Prop} (h : Turns w w' F) {g : Nat} (hg : F g ∨ w.heap.size ≤ g) (cs : Array Value) : Turns w (w'.setRow g cs) F := by
  refine ⟨h.os, h.tape, h.output, ?_, fun i hi hn => ?_⟩
  · rw [setRow_size]; exact h.size
  · rw [setRow_other _ _ _ _ (fun e => by subst e; exact hg.elim hn (fun q => by omega))]
    exact h.kept.2 i hi hn
theorem insert_calls {w : World} {P : Nat → Prop} {v : Value} {l : List Mb} (h : Row w P v l) (i : Nat) (hi : i ≤ l.length) (hl : l.length ≤ 1000) (vb : Nat) (x : Mb) (hv : w.heap[vb]? = some (.cells (mb4 x).toArray 103 (0, 0))) (hvb : ¬ P vb) :
    Calls Try.prog 62 #[v, .int .i64 i, .slice (some ⟨vb, 0, none⟩) 1 1] w fun e w' => ∃ v', e = .returned v' ∧ Row w' (fun k => P k ∨ w.heap.size ≤ k) v' (insF l i x) ∧ Turns w w' P := by
  have hg1 := grownCap_ge w (l.length + 1)
  have hil := insF_length l i x hi
  rcases h with ⟨rfl, rfl⟩ | ⟨a, c, sp, rfl, hp, hb, h1, h2⟩
  · obtain rfl : i = 0 := by simp at hi; exact hi
    refine (ins_end_grow w none 0 vb [] x (.inl ⟨rfl, rfl, rfl⟩) (Nat.le_refl _) (by simp) (by simp) hv).mono ?_
    rintro e w' ⟨rfl, rfl⟩
    refine ⟨_, rfl, .inr ⟨_, _, _, by rw [hil], .inr (Nat.le_refl _), heap_alloc_new w.drew _, ?_, grownCap_le_maxLen w _ _ _ (by decide)⟩, (Turns.refl w P).drew.alloc _⟩
    have := hg1 0 103
    rw [hil]
    simp only [spare, Array.length_toList, zc_size, List.length_nil] at *
    omega
  · have hmx : l.length + 1 ≤ maxLen := by unfold maxLen; omega
    by_cases hroom : l.length + 1 ≤ c
    · by_cases hin : i < l.length
      · refine (ins_shift w a c i vb l sp x hb h1 h2 hin hroom hv (fun e => hvb (e ▸ hp))).mono ?_
        rintro e w' ⟨rfl, rfl⟩
        refine ⟨_, rfl, .inr ⟨a, c, _, by rw [hil], .inl hp, setRow_heap _ _ _ _ _ _ (setRow_heap _ _ _ _ _ _ hb), ?_, h2⟩, Turns.setRow (Turns.setRow (Turns.refl w P).drew (.inl hp) _) (.inl hp) _⟩
        rw [hil, List.length_drop]
        omega
      · obtain rfl : i = l.length := by omega
        refine (ins_end_room w a c vb l sp x hb h1 h2 hroom hv).mono ?_
        rintro e w' ⟨rfl, rfl⟩
        refine ⟨_, rfl, .inr ⟨a, c, _, by rw [hil], .inl hp, setRow_heap _ _ _ _ _ _ hb, ?_, h2⟩, Turns.setRow (Turns.refl w P) (.inl hp) _⟩
        rw [hil, List.length_drop]
        omega
    · have hG := hg1 c 103
      have hG2 := grownCap_le_maxLen w (l.length + 1) c 103 hmx
      by_cases hin : i < l.length
      · refine (ins_grow w a c i vb l sp x hb hin (by omega) (by omega) hl hv).mono ?_
        rintro e w' ⟨rfl, rfl⟩
        refine ⟨_, rfl, .inr ⟨_, _, _, by rw [hil], .inr (Nat.le_refl _), setRow_heap _ _ _ _ _ _ (show _ from setRow_heap _ _ _ _ _ _ (heap_alloc_new w.drew _)), ?_, hG2⟩, Turns.setRow (Turns.setRow ((Turns.refl w P).drew.alloc _) (.inr (Nat.le_refl _)) _).drew (.inr (Nat.le_refl _)) _⟩
        rw [hil]
        simp only [spare, Array.length_toList, zc_size]
        omega
      · obtain rfl : i = l.length := by omega
        refine (ins_end_grow w (some ⟨a, 0, none⟩) c vb l x (.inr ⟨a, sp, rfl, hb⟩) (by omega) (by omega) hl hv).mono ?_
        rintro e w' ⟨rfl, rfl⟩
        refine ⟨_, rfl, .inr ⟨_, _, _, by rw [hil], .inr (Nat.le_refl _), heap_alloc_new w.drew _, ?_, hG2⟩, (Turns.refl w P).drew.alloc _⟩
        rw [hil]
        simp only [spare, Array.length_toList, zc_size]
        omega
/-! Delete -/
def z4 : List Value := [.int .i64 0, .int .u64 0, .int .u64 0, .bool false]
theorem clear4 (w : World) (ty : TypeId) (g o c : Nat) (cur : Array Value) (t : TypeId) (hg : w.heap[g]? = some (.cells cur t (0, 0))) (hfit : o + 4 ≤ cur.size) :
    (Builtin.clear_ #[56] ty #[.slice (some ⟨g, o, none⟩) 1 c]).run Try.prog w = .ok (.tuple #[]) (w.setRow g (cur.toList.take o ++ z4 ++ cur.toList.drop (o + 4)).toArray) := by
  have hst := run_storeCells_at Try.prog g o t z4 0 cur w hg hfit (by simp [z4, Value.oneCell'])
  have hz : (Builtin.zeroCells zMb.cells 1).toList = z4 := by kernel_rfl
  simp only [Nat.add_zero] at hst
  simp [Builtin.clear_, run_underlying Try.underlying56, Try.zeroValue103]
  rw [show Value.agg #[Value.int IntKind.i64 0, Value.int IntKind.u64 0, Value.int IntKind.u64 0, Value.bool false] = zMb from rfl, hz, hst, List.append_assoc]
  rfl
def delF (l : List Mb) (i : Nat) : List Mb := l.take i ++ l.drop (i + 1)
theorem delF_length (l : List Mb) (i : Nat) (h : i < l.length) : (delF l i).length = l.length - 1 := by
  simp [delF]; omega
def delRow (l : List Mb) (sp : List Value) (i : Nat) : List Value := (mbs l ++ sp).take (i * 4) ++ mbs (l.drop (i + 1)) ++ (mbs l ++ sp).drop (i * 4 + (mbs (l.drop (i + 1))).length)
theorem delRow_eq (l : List Mb) (sp : List Value) (i : Nat) (h : i < l.length) : delRow l sp i = mbs (delF l i) ++ (mbs l ++ sp).drop ((l.length - 1) * 4) := by
  have h1 := mbs_length l
  have h2 := mbs_length (l.drop (i + 1))
  rw [List.length_drop] at h2
  rw [delRow, List.take_append_of_le_length (by omega), mbs_take, delF, mbs_append, h2]
  congr 2
  omega
theorem delRow2 (l : List Mb) (sp : List Value) (i n : Nat) (h : i < l.length) (hn : l.length = n + 1) :
    (delRow l sp i).take (n * 4) ++ z4 ++ (delRow l sp i).drop (n * 4 + 4) = mbs (delF l i) ++ (z4 ++ sp) := by
  have h1 := mbs_length l
  have h3 := mbs_length (delF l i)
  rw [delF_length l i h] at h3
  have e : n * 4 = (mbs (delF l i)).length := by omega
  have e2 : (mbs l ++ sp).drop (n * 4 + 4) = sp := by rw [show n * 4 + 4 = (mbs l).length by omega, List.drop_left]
  have e3 : (mbs (delF l i) ++ (mbs l ++ sp).drop (n * 4)).drop (n * 4 + 4) = sp := by
    rw [List.drop_append, List.drop_of_length_le (by omega), List.nil_append, List.drop_drop, show n * 4 + (n * 4 + 4 - (mbs (delF l i)).length) = n * 4 + 4 by omega, e2]
  have e4 : (mbs (delF l i) ++ (mbs l ++ sp).drop (n * 4)).take (n * 4) = mbs (delF l i) := by
    rw [e]
    exact List.take_left
  rw [delRow_eq l sp i h, hn, Nat.add_sub_cancel, e3, e4, List.append_assoc]
set_option maxHeartbeats 4000000 in
set_option maxRecDepth 100000 in
theorem del_run (w : World) (b c i n : Nat) (l : List Mb) (sp : List Value) (hb : w.heap[b]? = some (.cells (mbs l ++ sp).toArray 103 (0, 0))) (hsz : l.length * 4 + sp.length = c * 4) (hc : c ≤ maxLen) (hi : i < l.length) (hn : l.length = n + 1) :
    Calls Try.prog 63 #[.slice (some ⟨b, 0, none⟩) (n + 1) c, .int .i64 i, .int .i64 ((i : Int) + 1)] w fun e w' =>
      e = .returned (.slice (some ⟨b, 0, none⟩) n c) ∧ w' = (w.drew.setRow b (delRow l sp i).toArray).setRow b (mbs (delF l i) ++ (z4 ++ sp)).toArray := by
  have hc63 : c ≤ 9223372036854775807 := by unfold maxLen at hc; omega
  obtain ⟨i0, hi0, hz0, hz1, hzb⟩ := info_parts info103
  have hml := mbs_length l
  have hdl : (mbs (l.drop (i + 1))).length = (n - i) * 4 := by rw [mbs_length, List.length_drop]; omega
  have hbd : w.drew.heap[b]? = some (.cells (mbs l ++ sp).toArray 103 (0, 0)) := hb
  obtain ⟨A, hA, hsrc⟩ : ∃ A : Addr, (if c = i + 1 then (some ⟨b, 0, none⟩ : Option Addr) else some ⟨b, (i + 1) * 4, none⟩) = some A ∧ Hid (∀ t u, (mbs (l.drop (i + 1)))[t]? = some u → w.drew.cell? (A.add t) = some u) := by
    by_cases h : c = i + 1
    · refine ⟨⟨b, 0, none⟩, by simp [h], fun t u hu => ?_⟩
      have h0 : (mbs (l.drop (i + 1))).length = 0 := by omega
      rw [List.length_eq_zero_iff.1 h0] at hu
      simp at hu
    · refine ⟨⟨b, (i + 1) * 4, none⟩, by simp [h], fun t u hj => ?_⟩
      rw [Addr.add_lit]
      refine (blk_cell hbd ((i + 1) * 4 + t)).trans ?_
      rw [← mbs_drop, List.getElem?_drop] at hj
      simp only [List.getElem?_toArray]
      rw [List.getElem?_append_left (List.getElem?_eq_some_iff.1 hj).1]
      exact hj
  have s1 : Hid ((mbs (l.drop (i + 1))).length = (n - i) * 4) := hdl
  have s2 : Hid (∀ u ∈ mbs (l.drop (i + 1)), u.oneCell' = true) := fun u hu => mbs_one _ u hu
  have s3 : Hid (∀ t, t < (mbs (l.drop (i + 1))).length → (w.drew.cell? ⟨b, 0 + i * 4 + t, none⟩).isSome = true ∧ w.drew.frozen? ⟨b, 0 + i * 4 + t, none⟩ = false) := by
    intro t ht
    refine ⟨?_, blk_frozen hbd _⟩
    rw [blk_cell hbd, Array.getElem?_eq_getElem (by simp only [List.size_toArray, List.length_append]; omega)]
    rfl
  have hrow := setCells_row w.drew b (0 + i * 4) _ _ (mbs (l.drop (i + 1))) hbd (by simp only [List.size_toArray, List.length_append]; omega) s2
  rw [List.toList_toArray, Nat.zero_add] at hrow
  obtain ⟨W1, hW1⟩ : ∃ W1, W1 = w.drew.setRow b (delRow l sp i).toArray := ⟨_, rfl⟩
  have hW : Hid (W1 = w.drew.setCells b (0 + i * 4) (mbs (l.drop (i + 1)))) := by rw [hW1, Nat.zero_add, hrow]; rfl
  have hb1 : W1.heap[b]? = some (.cells (delRow l sp i).toArray 103 (0, 0)) := by rw [hW1]; exact setRow_heap _ _ _ _ _ _ hbd
  obtain ⟨W2, hW2⟩ : ∃ W2, W2 = W1.setRow b (mbs (delF l i) ++ (z4 ++ sp)).toArray := ⟨_, rfl⟩
  have hcl : ∀ ty q, (Builtin.clear_ #[56] ty #[.slice (some ⟨b, n * 4, none⟩) 1 q]).run Try.prog W1 = .ok (.tuple #[]) W2 := fun ty q => by
    have h := clear4 W1 ty b (n * 4) q _ 103 hb1 (by rw [List.size_toArray, delRow_eq l sp i hi, List.length_append, mbs_length, delF_length l i hi, List.length_drop, List.length_append]; omega)
    rw [List.toList_toArray, delRow2 l sp i n hi hn, ← hW2] at h
    exact h
  have X : Aside0 (W2 = (w.drew.setRow b (delRow l sp i).toArray).setRow b (mbs (delF l i) ++ (z4 ++ sp)).toArray) := ⟨by rw [hW2, hW1]⟩
  have hnc : n + 1 ≤ c := by omega
  have hin : i ≤ n := by omega
  have hic : i ≤ c := by omega
  have hjc : i + 1 ≤ c := by omega
  have hcn : ¬ (c = n) := by omega
  have hnn : n ≤ c := by omega
  have hb1' : (0 : Int) ≤ (i : Int) + 1 := by omega
  have htn : ((i : Int) + 1).toNat = i + 1 := by omega
  have hii : ¬ ((i : Int) = (i : Int) + 1) := by omega
  have hnx : i + (n - i) = n := by omega
  have mixed : Try.prog.follows .mixedOrders = true := by kernel_rfl
  clear hW1 hW2 hb1 hrow hdl hml hbd hb hz0 hzb hsz hi hn
  go_enter Try.func63, Try.ntmps63
  go_wp2_with fail
  go_region_law_o (refine step_append_room rfl (.tmp 22) (.tmp 25) 56 rfl 103 i0 4 Try.underlying56 hi0 hz1 b 0 i c (by simp [Act.eval, Act.put]) A (n - i) (c - (i + 1)) (mbs (l.drop (i + 1))) (by simp [Act.eval, Act.put]) s1.out hsrc.out s2.out (by omega) s3.out ?_; rw [← hW.out])
  go_wp2
  go_ret
  exact ⟨rfl, X.out⟩
theorem delete_calls {w : World} {P : Nat → Prop} {b c : Nat} {sp : List Value} {l : List Mb} (hp : P b) (hb : w.heap[b]? = some (.cells (mbs l ++ sp).toArray 103 (0, 0))) (hsz : l.length * 4 + sp.length = c * 4) (hc : c ≤ maxLen) (i : Nat) (hi : i < l.length) :
    Calls Try.prog 63 #[.slice (some ⟨b, 0, none⟩) l.length c, .int .i64 i, .int .i64 ((i : Int) + 1)] w fun e w' => ∃ v', e = .returned v' ∧ Row w' P v' (delF l i) ∧ Turns w w' P := by
  obtain ⟨n, hn⟩ : ∃ n, l.length = n + 1 := ⟨l.length - 1, by omega⟩
  have hd := delF_length l i hi
  have h := del_run w b c i n l sp hb hsz hc hi hn
  rw [← hn] at h
  refine h.mono ?_
  rintro e w' ⟨rfl, rfl⟩
  refine ⟨_, rfl, .inr ⟨b, c, z4 ++ sp, by rw [hd, hn]; rfl, hp, setRow_heap _ _ _ _ _ _ (setRow_heap _ _ _ _ _ _ hb), ?_, hc⟩, Turns.setRow (Turns.setRow (Turns.refl w P).drew (.inl hp) _) (.inl hp) _⟩
  rw [hd, List.length_append]
  show _ + (4 + _) = _
  omega
end Go.Proofs.Ytpammdblenfhgaa.Rg
