/- SlotsMix in plain lists: what is kept of every thing that was put: its slot's generation is not below the one it was given; where it is that one and the slot is taken, the thing is there. -/
import Derived.Test.YtgjcbpeliimhaaaSlI6
namespace Go.Proofs.Ytgjcbpeliimhaaa.PSl
open Go.RowKit Go.Proofs.YtgjcbpeliimhaaaW.PrintWords Go.Proofs.YtgjcbpeliimhaaaW.PrintLast Go.Proofs.YtgjcbpeliimhaaaW.PrintMore
set_option linter.unusedVariables false
set_option linter.unusedSimpArgs false
/-- A table of n slots behind at most b calls. -/
structure TInv (n b : Nat) (s : Tb Int) : Prop where
  len : s.l.length = n
  n1 : 1 ≤ n
  n2 : n ≤ 1024
  nx : s.next ≤ n
  nb : s.next ≤ b
  fb : s.free.length ≤ b
  nodup : s.free.Nodup
  free : ∀ id ∈ s.free, ∃ (j : Nat) (x g : Int), id = (j : Int) + 1 ∧ j < s.next ∧ s.l[j]? = some (x, g, false)
  fresh : ∀ j, s.next ≤ j → j < n → s.l[j]? = some (0, 0, false)
  gens : ∀ (j : Nat) (x g : Int) (t : Bool), s.l[j]? = some (x, g, t) → 0 ≤ g ∧ g ≤ b + 1 ∧ (t = true → 1 ≤ g)
  many : s.many = (s.next : Int) - s.free.length
theorem TInv.new (n : Nat) (h1 : 1 ≤ n) (h2 : n ≤ 1024) : TInv n 0 (I.newT n) := by
  refine ⟨by simp [I.newT], h1, h2, Nat.zero_le _, Nat.zero_le _, Nat.zero_le _, by simp [I.newT], fun id h => absurd h (by simp [I.newT]), fun j _ hj => by simp [I.newT, hj], fun j x g t h => ?_, by simp [I.newT]⟩
  have : (x, g, t) = ((0 : Int), (0 : Int), false) := by
    have q := List.getElem?_replicate (a := ((0 : Int), (0 : Int), false)) (n := n) (i := j)
    simp only [I.newT] at h
    rw [q] at h
    split at h
    · exact (Option.some.inj h).symm
    · cases h
  simp only [Prod.mk.injEq] at this
  obtain ⟨rfl, rfl, rfl⟩ := this
  simp
theorem TInv.up {n b : Nat} {s : Tb Int} (h : TInv n b s) (c : Nat) (hc : b ≤ c) : TInv n c s :=
  ⟨h.len, h.n1, h.n2, h.nx, Nat.le_trans h.nb hc, Nat.le_trans h.fb hc, h.nodup, h.free, h.fresh, fun j x g t e => by have := h.gens j x g t e; exact ⟨this.1, by omega, this.2.2⟩, h.many⟩
theorem many_bound {n b : Nat} {s : Tb Int} (h : TInv n b s) (hb : b ≤ 1000) : wrap64 (s.many + 1) = s.many + 1 ∧ wrap64 (s.many - 1) = s.many - 1 := by
  have h1 := h.many
  have h2 := h.nb
  have h3 := h.fb
  unfold wrap64
  omega
/-- The slot that is taken next. -/
def slotNext (s : Tb Int) : Option Nat := match s.free.getLast? with | some id => some (id - 1).toNat | none => if s.next < s.l.length then some s.next else none
theorem take_none {n b : Nat} {s : Tb Int} (h : TInv n b s) (x : Int) (hn : slotNext s = none) : I.takeF s x = (s, 0, 0, 13) ∧ s.free = [] ∧ s.next = n := by
  unfold slotNext at hn
  unfold I.takeF
  cases hl : s.free.getLast? with
  | some id => rw [hl] at hn; cases hn
  | none =>
    rw [hl] at hn
    dsimp only at hn ⊢
    by_cases c : s.next < s.l.length
    · rw [if_pos c] at hn; cases hn
    · rw [if_neg c]
      exact ⟨rfl, List.getLast?_eq_none_iff.mp hl, by have := h.nx; have := h.len; omega⟩
/-- What a take does, whichever slot it is. -/
theorem take_some {n b : Nat} {s : Tb Int} (h : TInv n b s) (hb : b ≤ 1000) (x : Int) (j : Nat) (hn : slotNext s = some j) :
    ∃ (g0 x0 : Int) (f : List Int) (nx : Nat), s.l[j]? = some (x0, g0, false) ∧ I.takeF s x = ({ l := s.l.set j (x, max g0 1, true), free := f, next := nx, many := s.many + 1 }, (j : Int) + 1, max g0 1, 0) ∧ j < n ∧
      TInv n (b + 1) { l := s.l.set j (x, max g0 1, true), free := f, next := nx, many := s.many + 1 } ∧ s.many < n := by
  unfold slotNext at hn
  unfold I.takeF
  rw [(many_bound h hb).1]
  cases hl : s.free.getLast? with
  | some id =>
    rw [hl] at hn
    simp only [Option.some.injEq] at hn
    have hf : s.free = s.free.dropLast ++ [id] := by
      obtain ⟨ys, e⟩ := List.getLast?_eq_some_iff.mp hl
      rw [e, List.dropLast_concat]
    obtain ⟨j', x0, g0, rfl, hj, hs⟩ := h.free id (by rw [hf]; simp)
    have ej : ((j' : Int) + 1 - 1).toNat = j' := by omega
    rw [ej] at hn
    subst hn
    have eg : I.genAt s j' = g0 := by simp [I.genAt, hs]
    dsimp only
    rw [ej, eg]
    have hjn : j' < s.l.length := (List.getElem?_eq_some_iff.mp hs).1
    have hlen : s.free.length = s.free.dropLast.length + 1 := by rw [hf]; simp
    have hnd := h.nodup
    rw [hf, List.nodup_append] at hnd
    refine ⟨g0, x0, s.free.dropLast, s.next, hs, rfl, by rw [← h.len]; exact hjn, ⟨by rw [List.length_set]; exact h.len, h.n1, h.n2, h.nx, by have := h.nb; show s.next ≤ _; omega, by have := h.fb; show s.free.dropLast.length ≤ _; omega, hnd.1, ?_, ?_, ?_, ?_⟩, ?_⟩
    · intro id hid
      obtain ⟨i, xi, gi, rfl, hi, hsi⟩ := h.free id (by rw [hf]; exact List.mem_append_left _ hid)
      refine ⟨i, xi, gi, rfl, hi, ?_⟩
      have hne : j' ≠ i := by
        rintro rfl
        exact hnd.2.2 _ hid _ (List.mem_singleton.mpr rfl) rfl
      show (s.l.set j' _)[i]? = _
      rw [List.getElem?_set_ne hne]
      exact hsi
    · intro i h1 h2
      show (s.l.set j' _)[i]? = _
      rw [List.getElem?_set_ne (by have : s.next ≤ i := h1; omega)]
      exact h.fresh i h1 h2
    · intro i xi gi ti hi
      have hi' : (s.l.set j' (x, max g0 1, true))[i]? = some (xi, gi, ti) := hi
      by_cases e : j' = i
      · subst e
        rw [List.getElem?_set_self hjn] at hi'
        simp only [Option.some.injEq, Prod.mk.injEq] at hi'
        obtain ⟨rfl, rfl, rfl⟩ := hi'
        have := h.gens j' x0 g0 false hs
        refine ⟨by omega, by omega, fun _ => by omega⟩
      · rw [List.getElem?_set_ne e] at hi'
        have := h.gens i xi gi ti hi'
        exact ⟨this.1, by omega, this.2.2⟩
    · have := h.many
      show s.many + 1 = (s.next : Int) - s.free.dropLast.length
      omega
    · have := h.many
      have := h.nx
      omega
  | none =>
    rw [hl] at hn
    dsimp only at hn ⊢
    have hf : s.free = [] := List.getLast?_eq_none_iff.mp hl
    by_cases c : s.next < s.l.length
    · rw [if_pos c] at hn ⊢
      simp only [Option.some.injEq] at hn
      subst hn
      have hs := h.fresh s.next (Nat.le_refl _) (by rw [← h.len]; exact c)
      have eg : I.genAt s s.next = 0 := by simp [I.genAt, hs]
      rw [eg]
      have hlen := h.len
      refine ⟨0, 0, [], s.next + 1, hs, rfl, by omega, ⟨by rw [List.length_set]; exact h.len, h.n1, h.n2, by show s.next + 1 ≤ n; omega, by have := h.nb; show s.next + 1 ≤ b + 1; omega, Nat.zero_le _, List.nodup_nil, fun id hid => absurd hid (by simp), ?_, ?_, ?_⟩, ?_⟩
      · intro i h1 h2
        show (s.l.set s.next _)[i]? = _
        have h3 : s.next + 1 ≤ i := h1
        rw [List.getElem?_set_ne (by omega)]
        exact h.fresh i (by omega) h2
      · intro i xi gi ti hi
        have hi' : (s.l.set s.next (x, max 0 1, true))[i]? = some (xi, gi, ti) := hi
        by_cases e : s.next = i
        · subst e
          rw [List.getElem?_set_self c] at hi'
          simp only [Option.some.injEq, Prod.mk.injEq] at hi'
          obtain ⟨rfl, rfl, rfl⟩ := hi'
          refine ⟨by omega, by omega, fun _ => by omega⟩
        · rw [List.getElem?_set_ne e] at hi'
          have := h.gens i xi gi ti hi'
          exact ⟨this.1, by omega, this.2.2⟩
      · have := h.many
        rw [hf] at this
        show s.many + 1 = ((s.next + 1 : Nat) : Int) - ([] : List Int).length
        simp only [List.length_nil] at this ⊢
        omega
      · have := h.many
        rw [hf] at this
        simp only [List.length_nil] at this
        omega
    · rw [if_neg c] at hn
      cases hn
/-- What a drop does. -/
theorem drop_some {n b : Nat} {s : Tb Int} (h : TInv n b s) (j : Nat) (x g : Int) (hs : s.l[j]? = some (x, g, true)) :
    TInv n (b + 1) { l := s.l.set j (0, g + 1, false), free := s.free ++ [(j : Int) + 1], next := s.next, many := s.many - 1 } := by
  have hjn : j < s.l.length := (List.getElem?_eq_some_iff.mp hs).1
  have hjx : j < s.next := by
    rcases Nat.lt_or_ge j s.next with q | q
    · exact q
    · have := h.fresh j q (by rw [← h.len]; exact hjn)
      rw [hs] at this
      simp at this
  have hnot : ((j : Int) + 1) ∉ s.free := by
    intro hm
    obtain ⟨i, xi, gi, e, hi, hsi⟩ := h.free _ hm
    obtain rfl : j = i := by omega
    rw [hs] at hsi
    simp at hsi
  refine ⟨by rw [List.length_set]; exact h.len, h.n1, h.n2, h.nx, by have := h.nb; show s.next ≤ _; omega, by have := h.fb; show (s.free ++ [_]).length ≤ _; simp; omega, ?_, ?_, ?_, ?_, ?_⟩
  · show (s.free ++ [(j : Int) + 1]).Nodup
    rw [List.nodup_append]
    exact ⟨h.nodup, by simp, fun a ha b hb e => hnot (by rw [← List.mem_singleton.mp hb, ← e]; exact ha)⟩
  · intro id hid
    rcases List.mem_append.mp hid with hid | hid
    · obtain ⟨i, xi, gi, rfl, hi, hsi⟩ := h.free id hid
      have hne : j ≠ i := by
        rintro rfl
        exact hnot hid
      refine ⟨i, xi, gi, rfl, hi, ?_⟩
      show (s.l.set j _)[i]? = _
      rw [List.getElem?_set_ne hne]
      exact hsi
    · rw [List.mem_singleton.mp hid]
      exact ⟨j, 0, g + 1, rfl, hjx, List.getElem?_set_self hjn⟩
  · intro i h1 h2
    show (s.l.set j _)[i]? = _
    rw [List.getElem?_set_ne (by have : s.next ≤ i := h1; omega)]
    exact h.fresh i h1 h2
  · intro i xi gi ti hi
    have hi' : (s.l.set j (0, g + 1, false))[i]? = some (xi, gi, ti) := hi
    by_cases e : j = i
    · subst e
      rw [List.getElem?_set_self hjn] at hi'
      simp only [Option.some.injEq, Prod.mk.injEq] at hi'
      obtain ⟨rfl, rfl, rfl⟩ := hi'
      have := h.gens j x g true hs
      refine ⟨by omega, by omega, fun q => by cases q⟩
    · rw [List.getElem?_set_ne e] at hi'
      have := h.gens i xi gi ti hi'
      exact ⟨this.1, by omega, this.2.2⟩
  · have := h.many
    show s.many - 1 = (s.next : Int) - (s.free ++ [_]).length
    simp only [List.length_append, List.length_singleton]
    omega
/-- What is kept of every thing that was put. -/
structure MInv (n b : Nat) (s : Tb Int) (ids gens : List Int) : Prop where
  t : TInv n b s
  len : ids.length = gens.length
  lb : ids.length ≤ b
  kept : ∀ (i : Nat) (id gen : Int), ids[i]? = some id → gens[i]? = some gen → ∃ (j : Nat) (x g : Int) (t : Bool), id = (j : Int) + 1 ∧ s.l[j]? = some (x, g, t) ∧ gen ≤ g ∧ (t = true → gen = g → x = (i : Int)) ∧ (t = false → gen < g)
theorem MInv.new (n : Nat) (h1 : 1 ≤ n) (h2 : n ≤ 1024) : MInv n 0 (I.newT n) [] [] :=
  ⟨TInv.new n h1 h2, rfl, Nat.le_refl _, fun i id gen h => by simp at h⟩
theorem snoc_get {α : Type} {l : List α} {a x : α} {i : Nat} (h : (l ++ [a])[i]? = some x) : (i < l.length ∧ l[i]? = some x) ∨ (i = l.length ∧ x = a) := by
  rcases Nat.lt_or_ge i l.length with c | c
  · rw [List.getElem?_append_left c] at h
    exact .inl ⟨c, h⟩
  · have hl := (List.getElem?_eq_some_iff.mp h).1
    rw [List.length_append, List.length_singleton] at hl
    obtain rfl : i = l.length := by omega
    rw [List.getElem?_concat_length] at h
    exact .inr ⟨rfl, (Option.some.inj h).symm⟩
theorem MInv.take {n b : Nat} {s : Tb Int} {ids gens : List Int} (h : MInv n b s ids gens) (hb : b ≤ 1000) (j : Nat) (hn : slotNext s = some j) :
    ∃ s' gen, I.takeF s (ids.length : Int) = (s', (j : Int) + 1, gen, 0) ∧ MInv n (b + 1) s' (ids ++ [(j : Int) + 1]) (gens ++ [gen]) ∧ s.many < n := by
  obtain ⟨g0, x0, f, nx, hs, ht, hj, hT, hm⟩ := take_some h.t hb (ids.length : Int) j hn
  refine ⟨_, _, ht, ⟨hT, by simp [h.len], by have := h.lb; simp; omega, fun i id gen h1 h2 => ?_⟩, hm⟩
  have hjl : j < s.l.length := (List.getElem?_eq_some_iff.mp hs).1
  rcases snoc_get h1 with ⟨c1, h1⟩ | ⟨c1, rfl⟩
  · rcases snoc_get h2 with ⟨c2, h2⟩ | ⟨c2, _⟩
    · obtain ⟨k, x, g, t, rfl, hk, q1, q2, q3⟩ := h.kept i id gen h1 h2
      by_cases e : j = k
      · subst e
        rw [hs] at hk
        simp only [Option.some.injEq, Prod.mk.injEq] at hk
        obtain ⟨rfl, rfl, rfl⟩ := hk
        have := q3 rfl
        exact ⟨j, _, _, true, rfl, List.getElem?_set_self hjl, by omega, fun _ e => by omega, fun e => by cases e⟩
      · refine ⟨k, x, g, t, rfl, ?_, q1, q2, q3⟩
        show (s.l.set j _)[k]? = _
        rw [List.getElem?_set_ne e]
        exact hk
    · have := h.len
      omega
  · rcases snoc_get h2 with ⟨c2, h2⟩ | ⟨c2, rfl⟩
    · have := h.len
      omega
    · exact ⟨j, _, _, true, rfl, List.getElem?_set_self hjl, Int.le_refl _, fun _ _ => by rw [c1], fun e => by cases e⟩
theorem MInv.none {n b : Nat} {s : Tb Int} {ids gens : List Int} (h : MInv n b s ids gens) (hn : slotNext s = none) :
    I.takeF s (ids.length : Int) = (s, 0, 0, 13) ∧ MInv n (b + 1) s ids gens ∧ ¬ s.many < n := by
  obtain ⟨h1, h2, h3⟩ := take_none h.t (ids.length : Int) hn
  refine ⟨h1, ⟨h.t.up _ (Nat.le_succ _), h.len, by have := h.lb; omega, h.kept⟩, ?_⟩
  have := h.t.many
  rw [h2, h3] at this
  simp at this
  omega
theorem MInv.drop {n b : Nat} {s : Tb Int} {ids gens : List Int} (h : MInv n b s ids gens) (hb : b ≤ 1000) (id gen : Int) : MInv n (b + 1) (I.dropF s id gen).1 ids gens := by
  have keep : MInv n (b + 1) s ids gens := ⟨h.t.up _ (Nat.le_succ _), h.len, by have := h.lb; omega, h.kept⟩
  unfold I.dropF
  cases hl : I.look s id with
  | none => exact keep
  | some p =>
    obtain ⟨x, g⟩ := p
    dsimp only
    by_cases hg : g = gen
    · rw [if_pos hg]
      obtain ⟨j, rfl, hs⟩ := I.look_some hl
      have ej : ((j : Int) + 1 - 1).toNat = j := by omega
      have hgb := h.t.gens j x g true hs
      have ew : wrap64 (g + 1) = g + 1 := by unfold wrap64; omega
      rw [ej, ew, (many_bound h.t hb).2]
      have hjl : j < s.l.length := (List.getElem?_eq_some_iff.mp hs).1
      refine ⟨drop_some h.t j x g hs, h.len, by have := h.lb; omega, fun i id gen h1 h2 => ?_⟩
      obtain ⟨k, xk, gk, tk, rfl, hk, q1, q2, q3⟩ := h.kept i id gen h1 h2
      by_cases e : j = k
      · subst e
        rw [hs] at hk
        simp only [Option.some.injEq, Prod.mk.injEq] at hk
        obtain ⟨rfl, rfl, rfl⟩ := hk
        exact ⟨j, _, _, false, rfl, List.getElem?_set_self hjl, by omega, fun e => (by cases e), fun _ => by omega⟩
      · refine ⟨k, xk, gk, tk, rfl, ?_, q1, q2, q3⟩
        show (s.l.set j _)[k]? = _
        rw [List.getElem?_set_ne e]
        exact hk
    · rw [if_neg hg]
      exact keep
theorem MInv.get {n b : Nat} {s : Tb Int} {ids gens : List Int} (h : MInv n b s ids gens) (i : Nat) (id gen : Int) (h1 : ids[i]? = some id) (h2 : gens[i]? = some gen) :
    (I.getF s id gen).2 = true → (I.getF s id gen).1 = (i : Int) := by
  obtain ⟨j, x, g, t, rfl, hk, q1, q2, q3⟩ := h.kept i id gen h1 h2
  have ej : ((j : Int) + 1 - 1).toNat = j := by omega
  unfold I.getF I.look
  rw [if_pos (by omega), ej, hk]
  cases t with
  | false => intro q; cases q
  | true =>
    dsimp only
    by_cases hg : g = gen
    · rw [if_pos hg]
      intro _
      exact q2 rfl hg.symm
    · rw [if_neg hg]
      intro q
      cases q
end Go.Proofs.Ytgjcbpeliimhaaa.PSl
