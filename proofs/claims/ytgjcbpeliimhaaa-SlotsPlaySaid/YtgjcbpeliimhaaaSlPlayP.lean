/- SlotsPlay in plain lists: the table and the document's, slot by slot; the slot that is taken next is the one that became free last, else the first that nobody had. -/
import Derived.Test.YtgjcbpeliimhaaaSlMixP
import Derived.Test.YtgjcbpeliimhaaaSlRef
namespace Go.Proofs.Ytgjcbpeliimhaaa.PSl
open Go.RowKit Go.Proofs.YtgjcbpeliimhaaaW.PrintWords Go.Proofs.YtgjcbpeliimhaaaW.PrintLast Go.Proofs.YtgjcbpeliimhaaaW.PrintMore PSp
set_option linter.unusedVariables false
set_option linter.unusedSimpArgs false
theorem rd82 (l : List S82) (j : Nat) (r : S82) (h : l[j]? = some r) : rd_T82 l (j : Int) = r := by
  unfold rd_T82; rw [Int.toNat_natCast, List.getD_eq_getElem?_getD, h]; rfl
theorem wn (i : Nat) (h : i ≤ 100000) : wrap64 ((i : Int) + 1) = ((i + 1 : Nat) : Int) := by unfold wrap64; omega
theorem wn1 (i : Nat) (h : i ≤ 100000) : wrap64 ((i : Int) + 1 - 1) = (i : Int) := by unfold wrap64; omega
/-- The best slot so far, of the first i: 0: none. -/
def Best (l : List S82) (j i : Nat) (b : Int) : Prop :=
  (i ≤ j ∧ (b = 0 ∨ ∃ (q : Nat) (r rj : S82), b = (q : Int) + 1 ∧ q < j ∧ l[q]? = some r ∧ l[j]? = some rj ∧ r.f1 = false ∧ r.f3 < rj.f3)) ∨ (j < i ∧ b = (j : Int) + 1)
theorem which_l0 (l : List S82) (hl : l.length ≤ 1024) (c : Int) (j : Nat) (rj : S82) (hj : l[j]? = some rj) (hf : rj.f1 = false)
    (h1 : ∀ i r, i < j → l[i]? = some r → r.f1 = false → r.f3 < rj.f3) (h2 : ∀ i r, j < i → l[i]? = some r → r.f1 = false → r.f3 ≤ rj.f3) :
    ∀ (d i k : Nat) (b : Int), i + d = l.length → d < k → Best l j i b → dogwatchref07_which.l0 k b (i : Int) l c = some ((j : Int) + 1) := by
  have hjl : j < l.length := (List.getElem?_eq_some_iff.mp hj).1
  intro d
  induction d with
  | zero =>
    intro i k b hi hk hb
    obtain ⟨k, rfl⟩ : ∃ m, k = m + 1 := ⟨k - 1, by omega⟩
    simp only [dogwatchref07_which.l0]
    rw [if_neg (by omega)]
    rcases hb with ⟨h, _⟩ | ⟨_, rfl⟩
    · omega
    · rfl
  | succ d ih =>
    intro i k b hi hk hb
    obtain ⟨k, rfl⟩ : ∃ m, k = m + 1 := ⟨k - 1, by omega⟩
    have hil : i < l.length := by omega
    obtain ⟨r, hr⟩ : ∃ r, l[i]? = some r := ⟨_, List.getElem?_eq_getElem hil⟩
    simp only [dogwatchref07_which.l0]
    rw [if_pos (by omega), if_pos (by omega), rd82 l i r hr, wn i (by omega)]
    by_cases ht : r.f1 = true
    · rw [if_pos ht]
      refine ih (i + 1) k b (by omega) (by omega) ?_
      have hne : i ≠ j := by
        rintro rfl
        rw [hj] at hr
        cases hr
        rw [hf] at ht
        cases ht
      rcases hb with ⟨h, hq⟩ | ⟨h, rfl⟩
      · exact .inl ⟨by omega, hq⟩
      · exact .inr ⟨by omega, rfl⟩
    · have hff : r.f1 = false := by simpa using ht
      rw [if_neg ht]
      rcases hb with ⟨h, hq⟩ | ⟨h, rfl⟩
      · have next : Best l j (i + 1) ((i + 1 : Nat) : Int) := by
          by_cases e : i = j
          · subst e
            exact .inr ⟨by omega, by omega⟩
          · exact .inl ⟨by omega, .inr ⟨i, r, rj, by omega, by omega, hr, hj, hff, h1 i r (by omega) hr hff⟩⟩
        rcases hq with rfl | ⟨q, rq, rj', rfl, hqj, hq, hj', hqf, hlt⟩
        · rw [if_pos rfl]
          exact ih (i + 1) k _ (by omega) (by omega) next
        · rw [hj] at hj'
          cases hj'
          rw [if_neg (by omega), wn1 q (by omega), if_pos (by omega), if_pos (by omega), rd82 l q rq hq]
          by_cases hgt : r.f3 > rq.f3
          · rw [if_pos hgt]
            exact ih (i + 1) k _ (by omega) (by omega) next
          · rw [if_neg hgt]
            refine ih (i + 1) k _ (by omega) (by omega) ?_
            by_cases e : i = j
            · subst e
              rw [hj] at hr
              cases hr
              omega
            · exact .inl ⟨by omega, .inr ⟨q, rq, rj, rfl, hqj, hq, hj, hqf, hlt⟩⟩
      · rw [if_neg (by omega), wn1 j (by omega), if_pos (by omega), if_pos (by omega), rd82 l j rj hj, if_neg (by have := h2 i r h hr hff; omega)]
        exact ih (i + 1) k _ (by omega) (by omega) (.inr ⟨by omega, rfl⟩)
theorem which_none (l : List S82) (hl : l.length ≤ 1024) (c : Int) (h : ∀ (i : Nat) (r : S82), l[i]? = some r → r.f1 = true) :
    ∀ (d i k : Nat), i + d = l.length → d < k → dogwatchref07_which.l0 k 0 (i : Int) l c = some 0 := by
  intro d
  induction d with
  | zero =>
    intro i k hi hk
    obtain ⟨k, rfl⟩ : ∃ m, k = m + 1 := ⟨k - 1, by omega⟩
    simp only [dogwatchref07_which.l0]
    rw [if_neg (by omega)]
  | succ d ih =>
    intro i k hi hk
    obtain ⟨k, rfl⟩ : ∃ m, k = m + 1 := ⟨k - 1, by omega⟩
    obtain ⟨r, hr⟩ : ∃ r, l[i]? = some r := ⟨_, List.getElem?_eq_getElem (show i < l.length by omega)⟩
    simp only [dogwatchref07_which.l0]
    rw [if_pos (by omega), if_pos (by omega), rd82 l i r hr, wn i (by omega), if_pos (h i r hr)]
    exact ih (i + 1) k (by omega) (by omega)
theorem with_eq (l : List S82) (hl : l.length ≤ 1024) (c : Int) (j : Nat) (hj : j < l.length) (x : Int) (t : Bool) (f w : Int) :
    dogwatchref07_with.f l c ((j : Int) + 1) x t f w = some (l.set j ⟨x, t, f, w⟩, wrap64 (c + 1)) := by
  unfold dogwatchref07_with.f
  rw [Option.bind_some, if_pos (by simp; omega), Option.bind_some, List.nil_append, wn1 j (by omega), if_pos (by omega), if_pos (by omega), Int.toNat_natCast]
theorem cnt_set (l : List (Int × Int × Bool)) (j : Nat) (p q : Int × Int × Bool) (h : l[j]? = some p) : ((l.set j q).countP (·.2.2) : Int) = l.countP (·.2.2) - (if p.2.2 = true then 1 else 0) + (if q.2.2 = true then 1 else 0) := by
  induction l generalizing j with
  | nil => simp at h
  | cons a l ih =>
    cases j with
    | zero =>
      simp only [List.getElem?_cons_zero, Option.some.injEq] at h
      subst h
      rw [List.set_cons_zero, List.countP_cons, List.countP_cons]
      split <;> split <;> simp <;> omega
    | succ j =>
      have := ih j (by simpa using h)
      rw [List.set_cons_succ, List.countP_cons, List.countP_cons]
      omega
/-- The table and the document's. -/
structure PInv (n b : Nat) (s : Tb Int) (l : List S82) (c : Int) : Prop where
  t : TInv n b s
  len : l.length = n
  c0 : 0 ≤ c
  c1 : c ≤ b
  slot : ∀ (j : Nat) (x g : Int) (t : Bool), s.l[j]? = some (x, g, t) → ∃ r : S82, l[j]? = some r ∧ r.f0 = x ∧ r.f1 = t ∧ (j < s.next → g = r.f2 + 1) ∧ (s.next ≤ j → r.f2 = 0 ∧ r.f3 = 0) ∧ 0 ≤ r.f3 ∧ r.f3 ≤ c ∧ 0 ≤ r.f2 ∧ r.f2 ≤ b
  cover : ∀ (j : Nat) (x g : Int), j < s.next → s.l[j]? = some (x, g, false) → ((j : Int) + 1) ∈ s.free
  ord : s.free.Pairwise (fun a b => ∀ (ra rb : S82), l[(a - 1).toNat]? = some ra → l[(b - 1).toNat]? = some rb → ra.f3 < rb.f3)
  posi : ∀ id ∈ s.free, ∀ r : S82, l[(id - 1).toNat]? = some r → 0 < r.f3
  cnt : s.many = (s.l.countP (·.2.2) : Int)
theorem PInv.new (n : Nat) (h1 : 1 ≤ n) (h2 : n ≤ 1024) : PInv n 0 (I.newT n) (List.replicate n z82) 0 := by
  refine ⟨TInv.new n h1 h2, by simp, Int.le_refl _, Int.le_refl _, fun j x g t h => ?_, fun j x g h => absurd h (by simp [I.newT]), by simp [I.newT], fun id h => absurd h (by simp [I.newT]), by simp [I.newT, List.countP_replicate]⟩
  have hj : j < n := by
    have := (List.getElem?_eq_some_iff.mp h).1
    simpa [I.newT] using this
  have e : (x, g, t) = ((0 : Int), (0 : Int), false) := by
    simp only [I.newT] at h
    rw [List.getElem?_replicate, if_pos hj] at h
    exact (Option.some.inj h).symm
  simp only [Prod.mk.injEq] at e
  obtain ⟨rfl, rfl, rfl⟩ := e
  exact ⟨z82, by rw [List.getElem?_replicate, if_pos hj], rfl, rfl, fun h => absurd h (by simp [I.newT]), fun _ => ⟨rfl, rfl⟩, Int.le_refl _, Int.le_refl _, Int.le_refl _, Int.le_refl _⟩
theorem PInv.ref {n b : Nat} {s : Tb Int} {l : List S82} {c : Int} (h : PInv n b s l c) (j : Nat) (r : S82) (hr : l[j]? = some r) : ∃ (x g : Int) (t : Bool), s.l[j]? = some (x, g, t) ∧ r.f0 = x ∧ r.f1 = t ∧ (j < s.next → g = r.f2 + 1) ∧ (s.next ≤ j → r.f2 = 0 ∧ r.f3 = 0) ∧ 0 ≤ r.f3 ∧ r.f3 ≤ c ∧ 0 ≤ r.f2 ∧ r.f2 ≤ b := by
  have hj : j < s.l.length := by
    rw [h.t.len, ← h.len]
    exact (List.getElem?_eq_some_iff.mp hr).1
  obtain ⟨⟨x, g, t⟩, hs⟩ : ∃ p, s.l[j]? = some p := ⟨_, List.getElem?_eq_getElem hj⟩
  obtain ⟨r', hr', q⟩ := h.slot j x g t hs
  rw [hr] at hr'
  cases hr'
  exact ⟨x, g, t, hs, q⟩
theorem PInv.which {n b : Nat} {s : Tb Int} {l : List S82} {c : Int} (h : PInv n b s l c) : dogwatchref07_which.f 2000 l c = some (match slotNext s with | some j => (j : Int) + 1 | none => 0) := by
  have hl : l.length ≤ 1024 := by rw [h.len]; exact h.t.n2
  unfold dogwatchref07_which.f
  cases hn : slotNext s with
  | none =>
    obtain ⟨_, hf, hx⟩ := take_none h.t 0 hn
    refine which_none l hl c (fun i r hr => ?_) l.length 0 2000 (by omega) (by omega)
    obtain ⟨x, g, t, hs, _, ht, _⟩ := h.ref i r hr
    cases t with
    | true => exact ht
    | false =>
      have hi : i < s.next := by
        have := (List.getElem?_eq_some_iff.mp hr).1
        rw [h.len] at this
        omega
      have := h.cover i x g hi hs
      rw [hf] at this
      cases this
  | some j =>
    dsimp only
    unfold slotNext at hn
    cases hl2 : s.free.getLast? with
    | some id =>
      rw [hl2] at hn
      simp only [Option.some.injEq] at hn
      have hf : s.free = s.free.dropLast ++ [id] := by
        obtain ⟨ys, e⟩ := List.getLast?_eq_some_iff.mp hl2
        rw [e, List.dropLast_concat]
      have hm : id ∈ s.free := by rw [hf]; simp
      obtain ⟨j', x0, g0, hid, hj, hs⟩ := h.t.free id hm
      obtain rfl : j = j' := by omega
      obtain ⟨rj, hrj, _, htj, _⟩ := h.slot j x0 g0 false hs
      have hpos := h.posi id hm rj (by rw [hn]; exact hrj)
      have all : ∀ i r, i ≠ j → l[i]? = some r → r.f1 = false → r.f3 < rj.f3 := by
        intro i r hne hr hff
        obtain ⟨x, g, t, hsi, _, hti, _, h0, _⟩ := h.ref i r hr
        rw [hti] at hff
        subst hff
        by_cases hi : i < s.next
        · have hmi := h.cover i x g hi hsi
          rw [hf] at hmi
          rcases List.mem_append.mp hmi with hmi | hmi
          · have ho := h.ord
            rw [hf, List.pairwise_append] at ho
            exact ho.2.2 _ hmi _ (List.mem_singleton.mpr rfl) r rj (by rw [show ((i : Int) + 1 - 1).toNat = i by omega]; exact hr) (by rw [hn]; exact hrj)
          · rw [List.mem_singleton] at hmi
            omega
        · rw [(h0 (by omega)).2]
          exact hpos
      exact which_l0 l hl c j rj hrj htj (fun i r hi => all i r (by omega)) (fun i r hi hr hff => Int.le_of_lt (all i r (by omega) hr hff)) l.length 0 2000 0 (by omega) (by omega) (.inl ⟨Nat.zero_le _, .inl rfl⟩)
    | none =>
      rw [hl2] at hn
      dsimp only at hn
      have hf : s.free = [] := List.getLast?_eq_none_iff.mp hl2
      by_cases cc : s.next < s.l.length
      · rw [if_pos cc] at hn
        simp only [Option.some.injEq] at hn
        subst hn
        have hs := h.t.fresh s.next (Nat.le_refl _) (by rw [← h.t.len]; exact cc)
        obtain ⟨rj, hrj, _, htj, _, h0j, _⟩ := h.slot s.next 0 0 false hs
        refine which_l0 l hl c s.next rj hrj htj (fun i r hi hr hff => ?_) (fun i r hi hr hff => ?_) l.length 0 2000 0 (by omega) (by omega) (.inl ⟨Nat.zero_le _, .inl rfl⟩)
        · obtain ⟨x, g, t, hsi, _, hti, _⟩ := h.ref i r hr
          rw [hti] at hff
          subst hff
          have := h.cover i x g hi hsi
          rw [hf] at this
          cases this
        · obtain ⟨x, g, t, hsi, _, hti, _, h0, _⟩ := h.ref i r hr
          rw [(h0 (by omega)).2, (h0j (Nat.le_refl _)).2]
          exact Int.le_refl _
      · rw [if_neg cc] at hn
        cases hn
theorem PInv.take {n b : Nat} {s : Tb Int} {l : List S82} {c : Int} (h : PInv n b s l c) (hb : b ≤ 1000) (x : Int) (j : Nat) (hn : slotNext s = some j) :
    ∃ (s' : Tb Int) (r : S82), l[j]? = some r ∧ r.f2 ≤ b ∧ 0 ≤ r.f2 ∧ I.takeF s x = (s', (j : Int) + 1, r.f2 + 1, 0) ∧ PInv n (b + 1) s' (l.set j ⟨x, true, r.f2, r.f3⟩) (c + 1) := by
  obtain ⟨g0, x0, f, nx, hs, ht, hj, hT, hm⟩ := take_some h.t hb x j hn
  obtain ⟨r, hr, h0, h1, h2, h3, h4, h5, h6, h7⟩ := h.slot j x0 g0 false hs
  have hjl : j < l.length := by rw [h.len]; exact hj
  have hjs : j < s.l.length := (List.getElem?_eq_some_iff.mp hs).1
  -- which free ones stay, how far next is
  have hfx : (∀ id ∈ f, id ∈ s.free ∧ id ≠ (j : Int) + 1) ∧ (∀ id ∈ s.free, id ∈ f ∨ id = (j : Int) + 1) ∧ f.Sublist s.free ∧ s.next ≤ nx ∧ j < nx ∧ (∀ i, s.next ≤ i → i < nx → i = j) ∧ max g0 1 = r.f2 + 1 := by
    unfold slotNext at hn
    unfold I.takeF at ht
    cases hl2 : s.free.getLast? with
    | some id =>
      rw [hl2] at hn ht
      simp only [Option.some.injEq] at hn
      have hf : s.free = s.free.dropLast ++ [id] := by
        obtain ⟨ys, e⟩ := List.getLast?_eq_some_iff.mp hl2
        rw [e, List.dropLast_concat]
      simp only [Prod.mk.injEq, Tb.mk.injEq] at ht
      obtain ⟨⟨_, hff, hnx, _⟩, hid, _⟩ := ht
      subst hff
      have hnd := h.t.nodup
      rw [hf, List.nodup_append] at hnd
      obtain ⟨j', _, _, e', hjn, _⟩ := h.t.free id (by rw [hf]; simp)
      have hg := h2 (by omega)
      refine ⟨fun id' hm' => ⟨by rw [hf]; exact List.mem_append_left _ hm', fun e => ?_⟩, fun id' hm' => ?_, ?_, by omega, by omega, fun i a b => by omega, by omega⟩
      · exact hnd.2.2 _ hm' _ (List.mem_singleton.mpr rfl) (by rw [e, hid])
      · rw [hf] at hm'
        rcases List.mem_append.mp hm' with q | q
        · exact .inl q
        · exact .inr (by rw [List.mem_singleton.mp q, hid])
      · exact List.dropLast_sublist _
    | none =>
      rw [hl2] at hn ht
      dsimp only at hn ht
      have hf : s.free = [] := List.getLast?_eq_none_iff.mp hl2
      by_cases cc : s.next < s.l.length
      · rw [if_pos cc] at hn ht
        simp only [Option.some.injEq] at hn
        simp only [Prod.mk.injEq, Tb.mk.injEq] at ht
        obtain ⟨⟨_, hff, hnx, _⟩, _⟩ := ht
        subst hff hn
        have hz := h.t.fresh s.next (Nat.le_refl _) (by rw [← h.t.len]; exact cc)
        rw [hs] at hz
        simp only [Option.some.injEq, Prod.mk.injEq] at hz
        obtain ⟨_, rfl, _⟩ := hz
        have := (h3 (Nat.le_refl _)).1
        refine ⟨fun id' hm' => absurd hm' (by simp), fun id' hm' => by rw [hf] at hm'; exact absurd hm' (by simp), by simp, by omega, by omega, fun i a b => by omega, by omega⟩
      · rw [if_neg cc] at hn
        cases hn
  obtain ⟨f1, f2, f3, f4, f5, f6, f7⟩ := hfx
  refine ⟨_, r, hr, h7, h6, by rw [ht, f7], ⟨by rw [← f7]; exact hT, by rw [List.length_set]; exact h.len, by have := h.c0; omega, by have := h.c1; omega, ?_, ?_, ?_, ?_, by have q := cnt_set s.l j _ (x, r.f2 + 1, true) hs; have q2 := h.cnt; simp at q; show s.many + 1 = ((s.l.set j (x, r.f2 + 1, true)).countP (·.2.2) : Int); omega⟩⟩
  · intro i xi gi ti hi
    have hi' : (s.l.set j (x, r.f2 + 1, true))[i]? = some (xi, gi, ti) := hi
    show ∃ r', (l.set j _)[i]? = some r' ∧ _ ∧ _ ∧ (i < nx → _) ∧ (nx ≤ i → _) ∧ _
    by_cases e : j = i
    · subst e
      rw [List.getElem?_set_self hjs] at hi'
      simp only [Option.some.injEq, Prod.mk.injEq] at hi'
      obtain ⟨rfl, rfl, rfl⟩ := hi'
      exact ⟨_, List.getElem?_set_self hjl, rfl, rfl, fun _ => rfl, fun q => by omega, h4, by show r.f3 ≤ c + 1; omega, h6, by show r.f2 ≤ ((b + 1 : Nat) : Int); omega⟩
    · rw [List.getElem?_set_ne e] at hi'
      obtain ⟨r', q0, q1, q2, q3, q4, q5, q6, q7, q8⟩ := h.slot i xi gi ti hi'
      refine ⟨r', by rw [List.getElem?_set_ne e]; exact q0, q1, q2, fun q => ?_, fun q => q4 (by omega), q5, by omega, q7, by omega⟩
      by_cases hi2 : i < s.next
      · exact q3 hi2
      · exact absurd (f6 i (by omega) q) (fun e2 => e e2.symm)
  · intro i xi gi hi hs'
    have hi' : (s.l.set j (x, r.f2 + 1, true))[i]? = some (xi, gi, false) := hs'
    show (i : Int) + 1 ∈ f
    by_cases e : j = i
    · subst e
      rw [List.getElem?_set_self hjs] at hi'
      simp at hi'
    · rw [List.getElem?_set_ne e] at hi'
      have hlt : i < s.next := by
        rcases Nat.lt_or_ge i s.next with q | q
        · exact q
        · exact absurd (f6 i q hi) (fun e2 => e e2.symm)
      rcases f2 _ (h.cover i xi gi hlt hi') with q | q
      · exact q
      · omega
  · show f.Pairwise _
    refine ((h.ord.sublist f3).imp_of_mem (fun {a b'} ha hb' hab ra rb h1 h2 => ?_))
    obtain ⟨ja, _, _, ea, _⟩ := h.t.free a (f1 a ha).1
    obtain ⟨jb, _, _, eb, _⟩ := h.t.free b' (f1 b' hb').1
    have na := (f1 a ha).2
    have nb := (f1 b' hb').2
    refine hab ra rb ?_ ?_
    · rw [← h1, List.getElem?_set_ne (by omega)]
    · rw [← h2, List.getElem?_set_ne (by omega)]
  · intro id hid r' hr'
    obtain ⟨ja, _, _, ea, _⟩ := h.t.free id (f1 id hid).1
    have na := (f1 id hid).2
    refine h.posi id (f1 id hid).1 r' ?_
    rw [← hr', List.getElem?_set_ne (by omega)]
end Go.Proofs.Ytgjcbpeliimhaaa.PSl
