/- A map keyed by whole numbers, as a function: what stands at a number. -/
import Derived.Test.YtpammdblenfhgaaPtLib
import Derived.Maps.OwnSet
namespace Go.Proofs.Ytpammdblenfhgaa.Pt
open Go.RowKit Go.Proofs.YtpammdblenfhgaaW.PrintWords Go.Proofs.YtpammdblenfhgaaW.PrintLast Go.Proofs.YtpammdblenfhgaaW.PrintMore
open Go.Maps (Keyed IsMap Tidy keyOf_int_mk int_keyed)
set_option linter.unusedVariables false
set_option linter.unusedSimpArgs false
/-- An element as it stands. -/
def rawElem (v : Value) : Option (DataW Value × List MemPlace) := some (.held v, [])
def ikey (x : Int) : Lit := .int .i64 x
def IsInt (x : Int) : Prop := (Lit.int .i64 x).wf = true
theorem isInt_of {x : Int} (h0 : -9223372036854775808 ≤ x) (h1 : x ≤ 9223372036854775807) : IsInt x := WalkArith.wf_i64 (by omega)
theorem isInt_small {x : Int} (h0 : 0 ≤ x) (h1 : x < 1024) : IsInt x := isInt_of (by omega) (by omega)
/-- Block b is a map that holds M (keys from 0 to 1023). -/
structure MapAt {α : Type} (P : Program) (k : TypeId) (enc : α → Value) (w : World) (b : Nat) (M : Int → Option α) : Prop where
  ex : ∃ D, w.ownsMap P k rawElem b 1024 D ∧ (∀ x, IsInt x → Maps.has D (ikey x) = (M x).isSome) ∧ ∀ x z, IsInt x → D.atKey (ikey x) z = (match M x with | some a => .held (enc a) | none => z)
  dom : ∀ x, M x ≠ none → 0 ≤ x ∧ x < 1024
section
variable {α : Type} {P : Program} {k e t : TypeId} {enc : α → Value} {w w' : World} {b : Nat} {M : Int → Option α} {x : Int}
theorem ikey_ok (hk : P.underlying k = some (.int .i64)) (hx : IsInt x) : keyOf P k (.int .i64 x) = some (ikey x) := keyOf_int_mk hk hx
theorem isKeyLit (x : Int) : WideAt.IsKeyLit (ikey x) := trivial
theorem ikey_inj {x y : Int} (h : ikey x = ikey y) : x = y := by cases h; rfl
theorem MapAt.block (h : MapAt P k enc w b M) : b < w.heap.size := by
  obtain ⟨⟨D, h, _⟩, _⟩ := h
  exact h.lt
theorem MapAt.same (h : MapAt P k enc w b M) (hb : w'.heap[b]? = w.heap[b]?) : MapAt P k enc w' b M := by
  obtain ⟨⟨D, ⟨es, clock, hm, r⟩, h1, h2⟩, hd⟩ := h
  exact ⟨⟨D, ⟨es, clock, hb.trans hm, r⟩, h1, h2⟩, hd⟩
theorem MapAt.kept {S : Nat → Prop} (h : MapAt P k enc w b M) (hk : Kept w w' S) (hn : ¬ S b) : MapAt P k enc w' b M := h.same (hk.2 b h.block hn)
theorem MapAt.ext {M' : Int → Option α} (h : MapAt P k enc w b M) (he : ∀ x, M' x = M x) : MapAt P k enc w b M' := by
  obtain rfl : M' = M := funext he
  exact h
/-- Its keys are few. -/
theorem tight {D : DataW Value} {n : Nat} (hk : P.underlying k = some (.int .i64)) (h : w.ownsMap P k rawElem b n D) (hdom : ∀ x, IsInt x → Maps.has D (ikey x) = true → 0 ≤ x ∧ x < 1024) : w.ownsMap P k rawElem b 1024 D := by
  have ht := h.tidy (int_keyed hk)
  obtain ⟨es, clock, hb, F, hs, rfl⟩ := h
  refine ⟨es, clock, hb, F, ?_, rfl⟩
  obtain ⟨l, el, hp⟩ := ht
  have hlen : l.length = es.size := by
    have e1 : (DataW.map l : DataW Value) = .map l := rfl
    injection el with el
    rw [← el]
    exact length_read es
  have hkeys : ∀ p ∈ l, ∃ x, IsInt x ∧ p.1 = ikey x := by
    intro p hp
    injection el with el
    rw [← el] at hp
    have hp' := (WideShapes.sorted_perm _).mem_iff.1 hp
    obtain ⟨q, hq, rfl⟩ := List.mem_map.1 hp'
    obtain ⟨y, hy⟩ := F.reads q hq
    have hkey := WideElems.rd_key hy
    rw [WideElems.rg_of hy]
    simp only [keyOf, hk] at hkey
    cases hqk : q.key with
    | int kd a =>
      rw [hqk] at hkey
      simp only [mapKey, hk] at hkey
      split at hkey
      · rename_i hc
        simp only [Option.some.injEq] at hkey
        obtain ⟨rfl, hw⟩ := hc
        exact ⟨a, hw, hkey.symm⟩
      · cases hkey
    | _ => rw [hqk] at hkey; simp [mapKey, hk] at hkey
  have hrange : ∀ p ∈ l, ∃ j, j < 1024 ∧ p.1 = ikey (j : Nat) := by
    intro p hp
    obtain ⟨x, hx, he⟩ := hkeys p hp
    have := hdom x hx (by
      rw [el]
      show l.any (fun q => q.1.sameKey (ikey x)) = true
      rw [List.any_eq_true]
      exact ⟨p, hp, by rw [he]; exact WideAt.sameKey_self (isKeyLit x)⟩)
    exact ⟨x.toNat, by omega, by rw [he, Int.toNat_of_nonneg this.1]⟩
  have hnd : (l.map (·.1)).Nodup := List.pairwise_map.2 hp
  have hsub : (l.map (·.1)) ⊆ (List.range 1024).map (fun j : Nat => ikey (j : Int)) := by
    intro a ha
    obtain ⟨p, hp, rfl⟩ := List.mem_map.1 ha
    obtain ⟨j, hj, he⟩ := hrange p hp
    exact List.mem_map.2 ⟨j, List.mem_range.2 hj, he.symm⟩
  have := hnd.length_le_of_subset hsub
  simp only [List.length_map, List.length_range] at this
  omega
theorem MapAt.made (w : World) (P : Program) (k : TypeId) (enc : α → Value) : MapAt P k enc (w.alloc (.map #[] 0)) w.heap.size (fun _ => none) := by
  refine ⟨⟨_, (World.ownsMap_made w P k rawElem).mono (by omega), fun x _ => rfl, fun x z _ => rfl⟩, fun x h => absurd rfl h⟩
/-- m[k] = v. -/
def upd (M : Int → Option α) (x : Int) (v : Option α) : Int → Option α := fun y => if y = x then v else M y
theorem MapAt.store_owns (h : MapAt P k enc w b M) (hk : P.underlying k = some (.int .i64)) (h0 : 0 ≤ x) (h1 : x < 1024) (a : α) {n : Nat} {D D' : DataW Value}
    (hD : w.ownsMap P k rawElem b 1024 D ∧ (∀ x, IsInt x → Maps.has D (ikey x) = (M x).isSome) ∧ ∀ x z, IsInt x → D.atKey (ikey x) z = (match M x with | some a => .held (enc a) | none => z))
    (hD' : w'.ownsMap P k rawElem b n (D.put (ikey x) (.held (enc a)))) : MapAt P k enc w' b (upd M x (some a)) := by
  obtain ⟨h2, h3, h4⟩ := hD
  have hm := h2.isMap
  have hx := isInt_small h0 h1
  have q3 : ∀ y, IsInt y → Maps.has (D.put (ikey x) (.held (enc a))) (ikey y) = (upd M x (some a) y).isSome := by
    intro y hy
    unfold upd
    by_cases e : y = x
    · subst e
      rw [Maps.has_put_same hm (isKeyLit y), if_pos rfl]
      rfl
    · rw [Maps.has_put_other (fun q => e (ikey_inj q)), if_neg e]
      exact h3 y hy
  have hdom : ∀ y, upd M x (some a) y ≠ none → 0 ≤ y ∧ y < 1024 := by
    intro y hy
    unfold upd at hy
    by_cases e : y = x
    · subst e
      exact ⟨h0, h1⟩
    · rw [if_neg e] at hy
      exact h.dom y hy
  refine ⟨⟨_, tight hk hD' (fun y hy hh => hdom y (by rw [q3 y hy] at hh; intro hn; rw [hn] at hh; cases hh)), q3, ?_⟩, hdom⟩
  intro y z hy
  unfold upd
  by_cases e : y = x
  · subst e
    rw [Maps.atKey_put_same hm (isKeyLit y), if_pos rfl]
  · rw [Maps.atKey_put_other (fun q => e (ikey_inj q)), if_neg e]
    exact h4 y z hy
theorem MapAt.drop_owns (h : MapAt P k enc w b M) {n : Nat} {D D' : DataW Value}
    (hD : w.ownsMap P k rawElem b 1024 D ∧ (∀ x, IsInt x → Maps.has D (ikey x) = (M x).isSome) ∧ ∀ x z, IsInt x → D.atKey (ikey x) z = (match M x with | some a => .held (enc a) | none => z))
    (hD' : w'.ownsMap P k rawElem b 1024 (D.del (ikey x))) : MapAt P k enc w' b (upd M x none) := by
  obtain ⟨h2, h3, h4⟩ := hD
  refine ⟨⟨_, hD', ?_, ?_⟩, ?_⟩
  · intro y hy
    unfold upd
    by_cases e : y = x
    · subst e
      rw [Maps.has_del_same, if_pos rfl]
      rfl
    · rw [Maps.has_del_other (fun q => e (ikey_inj q)), if_neg e]
      exact h3 y hy
  · intro y z hy
    unfold upd
    by_cases e : y = x
    · subst e
      rw [Maps.atKey_del_same, if_pos rfl]
    · rw [Maps.atKey_del_other (fun q => e (ikey_inj q)), if_neg e]
      exact h4 y z hy
  · intro y hy
    unfold upd at hy
    by_cases e : y = x
    · subst e
      rw [if_pos rfl] at hy
      exact absurd rfl hy
    · rw [if_neg e] at hy
      exact h.dom y hy
/-- 'v := m[k]', 'v, ok := m[k]'. -/
theorem MapAt.look (h : MapAt P k enc w b M) (hk : P.underlying k = some (.int .i64)) (ht : P.underlying t = some (.map k e)) {z : Value} (hz : (zeroValue e).run P w = .ok z w) (hx : IsInt x) :
    (Instr.lookup t (.map (some b)) (.int .i64 x) false).run P w = .ok (match M x with | some a => enc a | none => z) w := by
  obtain ⟨⟨D, h2, h3, h4⟩, hd⟩ := h
  obtain ⟨v, ps, hrun, hv⟩ := h2.lookup (int_keyed hk) ht hz (zd := .held z) (zp := []) rfl (ikey_ok hk hx)
  rw [hrun, h4 x _ hx] at *
  cases hm : M x <;> simp only [hm, rawElem, Option.some.injEq, Prod.mk.injEq, DataW.held.injEq] at hv ⊢ <;> rw [hv.1]
theorem MapAt.look_ok (h : MapAt P k enc w b M) (hk : P.underlying k = some (.int .i64)) (ht : P.underlying t = some (.map k e)) {z : Value} (hz : (zeroValue e).run P w = .ok z w) (hx : IsInt x) :
    (Instr.lookup t (.map (some b)) (.int .i64 x) true).run P w = .ok (match M x with | some a => .tuple #[enc a, .bool true] | none => .tuple #[z, .bool false]) w := by
  obtain ⟨⟨D, h2, h3, h4⟩, hd⟩ := h
  obtain ⟨v, ps, hrun, hv⟩ := h2.look_ok (int_keyed hk) ht hz (zd := .held z) (zp := []) rfl (ikey_ok hk hx)
  rw [hrun, h3 x hx]
  rw [h4 x _ hx] at hv
  cases hm : M x <;> simp only [hm, rawElem, Option.some.injEq, Prod.mk.injEq, DataW.held.injEq] at hv ⊢ <;> rw [hv.1] <;> rfl
theorem MapAt.store (h : MapAt P k enc w b M) (hk : P.underlying k = some (.int .i64)) (ht : P.underlying t = some (.map k e)) (h0 : 0 ≤ x) (h1 : x < 1024) (a : α) :
    ∃ w', (Instr.mapUpdate t (.map (some b)) (.int .i64 x) (enc a)).run P w = .ok () w' ∧ MapAt P k enc w' b (upd M x (some a)) ∧ w.grownBy w' (some b) := by
  obtain ⟨D, h2, h3, h4⟩ := h.ex
  obtain ⟨w', hrun, r1, r2⟩ := h2.update (int_keyed hk) ht (by unfold maxLen; omega) (ikey_ok hk (isInt_small h0 h1)) (d := .held (enc a)) (ps := []) rfl
  exact ⟨w', hrun, h.store_owns hk h0 h1 a ⟨h2, h3, h4⟩ (D' := D.put (ikey x) (.held (enc a))) r1, r2⟩
theorem MapAt.drop (h : MapAt P k enc w b M) (hk : P.underlying k = some (.int .i64)) (ht : P.underlying t = some (.map k e)) (hx : IsInt x) (ty : TypeId) :
    ∃ w', (Builtin.delete_ #[t, k] ty #[.map (some b), .int .i64 x]).run P w = .ok (.tuple #[]) w' ∧ MapAt P k enc w' b (upd M x none) ∧ w.grownBy w' (some b) := by
  obtain ⟨D, h2, h3, h4⟩ := h.ex
  obtain ⟨w', hrun, r1, r2⟩ := h2.drop (int_keyed hk) ht (ikey_ok hk hx) ty
  exact ⟨w', hrun, h.drop_owns ⟨h2, h3, h4⟩ (D' := D.del (ikey x)) r1 (n := 0), r2.grown⟩
end
section
variable {α : Type} {P : Program} (w : World) {ops : Array Oper} {rest : List Oper} {o : Oper} {a : Act} {Q : Exit → Act → World → Prop}
/-- At the operation: 'v, ok := m[k]'. -/
theorem at_look_ok_some (hg : o.guard = none) (m x : Operand) (t : TypeId) (hop : o.op = Op.lookup t m x true) (k e : TypeId) (hk : P.underlying k = some (.int .i64)) (ht : P.underlying t = some (.map k e)) (z : Value) (hz : (zeroValue e).run P w = .ok z w)
    (enc : α → Value) (b : Nat) (M : Int → Option α) (h : MapAt P k enc w b M) (hm : a.eval m = .map (some b)) (y : Int) (hy : a.eval x = .int .i64 y) (hi : IsInt y) (v : α) (hv : M y = some v) (val : Value) (he : enc v = val)
    (hK : wpList P ops Q rest (a.put o.dst (.tuple #[val, .bool true])) w) : wpList P ops Q (o :: rest) a w := by
  refine wpList_plain hg fun K' hK' => ?_
  have hrun := h.look_ok hk ht hz hi
  subst he
  rw [hv] at hrun
  unfold Oper.wp
  simp [execOp, hop, hm, hy, hrun, Result.andThen]
  exact hK' _ _ hK
theorem at_look_ok_none (hg : o.guard = none) (m x : Operand) (t : TypeId) (hop : o.op = Op.lookup t m x true) (k e : TypeId) (hk : P.underlying k = some (.int .i64)) (ht : P.underlying t = some (.map k e)) (z : Value) (hz : (zeroValue e).run P w = .ok z w)
    (enc : α → Value) (b : Nat) (M : Int → Option α) (h : MapAt P k enc w b M) (hm : a.eval m = .map (some b)) (y : Int) (hy : a.eval x = .int .i64 y) (hi : IsInt y) (hv : M y = none)
    (hK : wpList P ops Q rest (a.put o.dst (.tuple #[z, .bool false])) w) : wpList P ops Q (o :: rest) a w := by
  refine wpList_plain hg fun K' hK' => ?_
  have hrun := h.look_ok hk ht hz hi
  rw [hv] at hrun
  unfold Oper.wp
  simp [execOp, hop, hm, hy, hrun, Result.andThen]
  exact hK' _ _ hK
/-- 'm[k]'; the value where the key is not there is the zero of its type. -/
theorem at_look_val (hg : o.guard = none) (m x : Operand) (t : TypeId) (hop : o.op = Op.lookup t m x false) (k e : TypeId) (hk : P.underlying k = some (.int .i64)) (ht : P.underlying t = some (.map k e)) (z : Value) (hz : (zeroValue e).run P w = .ok z w)
    (enc : α → Value) (b : Nat) (M : Int → Option α) (h : MapAt P k enc w b M) (hm : a.eval m = .map (some b)) (y : Int) (hy : a.eval x = .int .i64 y) (hi : IsInt y) (d : α) (hd : enc d = z) (v : α) (hv : (M y).getD d = v) (val : Value) (he : enc v = val)
    (hK : wpList P ops Q rest (a.put o.dst val) w) : wpList P ops Q (o :: rest) a w := by
  refine wpList_plain hg fun K' hK' => ?_
  have hrun := h.look hk ht hz hi
  have hval : (match M y with | some a => enc a | none => z) = val := by
    subst hd
    subst hv
    subst he
    cases M y <;> rfl
  rw [hval] at hrun
  unfold Oper.wp
  simp [execOp, hop, hm, hy, hrun, Result.andThen]
  exact hK' _ _ hK
theorem at_store (hg : o.guard = none) (m x v : Operand) (t : TypeId) (hop : o.op = Op.mapUpdate t m x v) (k e : TypeId) (hk : P.underlying k = some (.int .i64)) (ht : P.underlying t = some (.map k e))
    (enc : α → Value) (b : Nat) (M : Int → Option α) (h : MapAt P k enc w b M) (hm : a.eval m = .map (some b)) (y : Int) (hy : a.eval x = .int .i64 y) (h0 : 0 ≤ y) (h1 : y < 1024) (u : α) (hu : a.eval v = enc u)
    (hK : ∀ w', MapAt P k enc w' b (upd M y (some u)) → w.grownBy w' (some b) → wpList P ops Q rest (a.put o.dst undef) w') : wpList P ops Q (o :: rest) a w := by
  refine wpList_plain hg fun K' hK' => ?_
  obtain ⟨w', hrun, r1, r2⟩ := h.store hk ht h0 h1 u
  unfold Oper.wp
  simp [execOp, hop, hm, hy, hu, hrun, Result.andThen]
  exact hK' _ _ (hK w' r1 r2)
theorem at_drop (hg : o.guard = none) (m x : Operand) (t k : TypeId) (hop : o.op = Op.call { callee := Callee.builtin Builtin.delete, args := #[m, x], argTypes := #[t, k] }) (e : TypeId) (hk : P.underlying k = some (.int .i64)) (ht : P.underlying t = some (.map k e))
    (enc : α → Value) (b : Nat) (M : Int → Option α) (h : MapAt P k enc w b M) (hm : a.eval m = .map (some b)) (y : Int) (hy : a.eval x = .int .i64 y) (hi : IsInt y)
    (hK : ∀ w', MapAt P k enc w' b (upd M y none) → w.grownBy w' (some b) → wpList P ops Q rest (a.put o.dst (.tuple #[])) w') : wpList P ops Q (o :: rest) a w := by
  refine wpList_plain hg fun K' hK' => ?_
  obtain ⟨w', hrun, r1, r2⟩ := h.drop hk ht hi o.type
  unfold Oper.wp
  simp [execOp, hop, resolve, invoke, builtin, hm, hy, hrun, Result.andThen]
  exact hK' _ _ (hK w' r1 r2)
end
end Go.Proofs.Ytpammdblenfhgaa.Pt
