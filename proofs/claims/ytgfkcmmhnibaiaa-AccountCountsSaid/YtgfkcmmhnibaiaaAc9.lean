/- What an account holds of one task and one core behind any rows (for AccountCounts): plain. -/
import Derived.Test.YtgfkcmmhnibaiaaAc7
namespace Go.Proofs.Ytgfkcmmhnibaiaa.Ac
open Go.RowKit Go.Proofs.YtgfkcmmhnibaiaaW.PrintWords Go.Proofs.YtgfkcmmhnibaiaaW.PrintLast Go.Proofs.YtgfkcmmhnibaiaaW.PrintMore Pt
set_option linter.unusedVariables false
set_option linter.unusedSimpArgs false
def tz : Tk := ⟨0, 0, 0, 0, -1⟩
/-- A task runs on a core. -/
def stepT (T : Tk) (c : Int) : Tk := ⟨T.ticks + 1, T.last, T.now + 1, if 0 ≤ T.core ∧ T.core ≠ c then T.changes + 1 else T.changes, c⟩
def rowT (T : Tk) (r : List Int) (x : Int) : Nat → Tk
  | 0 => T
  | n + 1 => if r.getD n 0 = x then stepT (rowT T r x n) (n : Int) else rowT T r x n
def addT (f n : Nat) (T : Tk) (r : List Int) (x : Int) : Tk := if (n + 1) % f = 0 then turnT (rowT T r x 16) else rowT T r x 16
/-- A task behind the first n rows; those ahead of row a are forgotten. -/
def accT (f : Nat) (x : Int) (l : List (List Int)) (a : Nat) : Nat → Tk
  | 0 => tz
  | n + 1 => if a ≤ n then addT f n (accT f x l a n) (l.getD n []) x else tz
theorem accT_ext (f : Nat) (x : Int) (l : List (List Int)) (r : List Int) (a : Nat) : ∀ n, n ≤ l.length → accT f x (l ++ [r]) a n = accT f x l a n := by
  intro n
  induction n with
  | zero => intro _; rfl
  | succ n ih =>
    intro h
    have e : (l ++ [r]).getD n [] = l.getD n [] := by simp only [List.getD_eq_getElem?_getD]; rw [List.getElem?_append_left (by omega)]
    rw [accT, accT, ih (by omega), e]
theorem accT_snoc (f : Nat) (x : Int) (l : List (List Int)) (r : List Int) (a : Nat) (h : a ≤ l.length) : accT f x (l ++ [r]) a (l ++ [r]).length = addT f l.length (accT f x l a l.length) r x := by
  have e : (l ++ [r]).getD l.length [] = r := by simp
  rw [List.length_append, List.length_singleton, accT, if_pos h, accT_ext f x l r a _ (Nat.le_refl _), e]
theorem accT_from (f : Nat) (x : Int) (l : List (List Int)) : ∀ n, accT f x l n n = tz := by
  intro n
  cases n with
  | zero => rfl
  | succ n => rw [accT, if_neg (by omega)]
/-- What the map holds of a task. -/
structure TInv (s : Ac) (x : Int) (T : Tk) (b : Nat) : Prop where
  val : (s.M x).getD tz = T
  iff : s.M x = none ↔ T.ticks = 0
  t0 : 0 ≤ T.ticks
  tb : T.ticks ≤ (b : Int)
  c0 : 0 ≤ T.changes
  cb : T.changes ≤ T.ticks
  n0 : 0 ≤ T.now
  nb : T.now ≤ T.ticks
  co : 0 < T.ticks → 0 ≤ T.core
theorem TInv.step {s : Ac} {x : Int} {T : Tk} {b j : Nat} {id : Int} (h : TInv s x T b) (hx : x ≠ 0) (hb : b ≤ 1000000) : TInv (stepF s j id) x (if id = x then stepT T (j : Int) else T) (b + 1) := by
  have hold : TInv s x T (b + 1) := ⟨h.val, h.iff, h.t0, by have := h.tb; omega, h.c0, h.cb, h.n0, h.nb, h.co⟩
  unfold stepF
  by_cases hz : id = 0
  · dsimp only
    rw [if_pos hz, if_neg (by omega)]
    exact ⟨hold.val, hold.iff, hold.t0, hold.tb, hold.c0, hold.cb, hold.n0, hold.nb, hold.co⟩
  · dsimp only
    rw [if_neg hz]
    by_cases he : id = x
    · subst he
      rw [if_pos rfl]
      have ht0 := h.t0
      have htb := h.tb
      have key : taskF (s.M id) (j : Int) = stepT T (j : Int) := by
        have hv := h.val
        cases hm : s.M id with
        | none =>
          rw [hm] at hv
          subst hv
          simp [taskF, tk0, stepT, tz, wrap64]
        | some t =>
          rw [hm] at hv
          obtain rfl : t = T := hv
          have hp : 0 < t.ticks := by
            have := h.iff
            rw [hm] at this
            have h3 : t.ticks ≠ 0 := fun q => by have := this.2 q; cases this
            omega
          have hc := h.co hp
          have w1 : wrap64 (t.ticks + 1) = t.ticks + 1 := by unfold wrap64; omega
          have w2 : wrap64 (t.now + 1) = t.now + 1 := by have := h.n0; have := h.nb; unfold wrap64; omega
          have w3 : wrap64 (t.changes + 1) = t.changes + 1 := by have := h.c0; have := h.cb; unfold wrap64; omega
          simp [taskF, stepT, w1, w2, w3, hc]
      refine ⟨?_, ?_, ?_, ?_, ?_, ?_, ?_, ?_, ?_⟩
      · dsimp only [upd]
        rw [if_pos rfl, key]
        rfl
      · dsimp only [upd, stepT]
        rw [if_pos rfl]
        constructor
        · intro q; cases q
        · intro q; omega
      · dsimp only [stepT]; omega
      · dsimp only [stepT]; omega
      · have := h.c0; dsimp only [stepT]; split <;> omega
      · have := h.cb; dsimp only [stepT]; split <;> omega
      · have := h.n0; dsimp only [stepT]; omega
      · have := h.nb; dsimp only [stepT]; omega
      · intro _; dsimp only [stepT]; omega
    · rw [if_neg he]
      have e : upd s.M id (some (taskF (s.M id) (j : Int))) x = s.M x := by unfold upd; rw [if_neg (fun q => he q.symm)]
      exact ⟨by show (upd s.M id _ x).getD tz = T; rw [e]; exact hold.val, by show upd s.M id _ x = none ↔ _; rw [e]; exact hold.iff, hold.t0, hold.tb, hold.c0, hold.cb, hold.n0, hold.nb, hold.co⟩
theorem TInv.row {s : Ac} {x : Int} {T : Tk} {b : Nat} {l : List Int} (h : TInv s x T b) (hx : x ≠ 0) (hb : b ≤ 100000) : ∀ k, k ≤ 16 → TInv (rowF s l k) x (rowT T l x k) (b + k) := by
  intro k
  induction k with
  | zero => intro _; exact h
  | succ k ih =>
    intro hk
    rw [rowF_succ]
    exact (ih (by omega)).step hx (by omega)
theorem TInv.add {s : Ac} {x : Int} {T : Tk} {b f n : Nat} {l : List Int} (h : TInv s x T b) (hx : 1 ≤ x ∧ x ≤ 200) (hb : b ≤ 100000) (hf : s.f = (f : Int)) (hn : s.ticks = (n : Int)) : TInv (addF s l) x (addT f n T l x) (b + 16) := by
  have q := h.row (l := l) (by omega) hb 16 (Nat.le_refl _)
  have hff := rowF_f s l 16
  unfold addF addT
  generalize rowF s l 16 = y at *
  dsimp only
  have hmod : ((n : Int) + 1) % (f : Int) = (((n + 1) % f : Nat) : Int) := by rw [Int.natCast_emod]; rfl
  rw [hff.1, hff.2.1, hf, hn, hmod]
  by_cases hc : (n + 1) % f = 0
  · rw [if_pos hc, if_pos (by omega)]
    have e : overN 201 y.M x = (y.M x).map turnT := by unfold overN; rw [if_pos (by omega)]
    generalize rowT T l x 16 = U at *
    refine ⟨?_, ?_, q.t0, q.tb, q.c0, q.cb, Int.le_refl 0, q.t0, q.co⟩
    · show (overN 201 y.M x).getD tz = turnT U
      rw [e]
      have hv := q.val
      cases hm : y.M x with
      | none =>
        rw [hm] at hv
        subst hv
        rfl
      | some t =>
        rw [hm] at hv
        obtain rfl : t = U := hv
        rfl
    · show overN 201 y.M x = none ↔ U.ticks = 0
      rw [e, ← q.iff]
      cases y.M x <;> simp
  · rw [if_neg hc, if_neg (by omega)]
    exact ⟨q.val, q.iff, q.t0, q.tb, q.c0, q.cb, q.n0, q.nb, q.co⟩
theorem TInv.new (f : Int) (x : Int) (b : Nat) : TInv (newA f) x tz b := ⟨rfl, ⟨fun _ => rfl, fun _ => rfl⟩, Int.le_refl 0, Int.natCast_nonneg _, Int.le_refl 0, Int.le_refl 0, Int.le_refl 0, Int.le_refl 0, fun h => absurd h (Int.lt_irrefl 0)⟩
theorem TInv.gone (s : Ac) (x : Int) (b : Nat) : TInv { s with M := upd s.M x none } x tz b :=
  ⟨by show (upd s.M x none x).getD tz = tz; unfold upd; rw [if_pos rfl]; rfl, ⟨fun _ => rfl, fun _ => by show upd s.M x none x = none; unfold upd; rw [if_pos rfl]⟩, Int.le_refl 0, Int.natCast_nonneg _, Int.le_refl 0, Int.le_refl 0, Int.le_refl 0, Int.le_refl 0, fun h => absurd h (Int.lt_irrefl 0)⟩
theorem TInv.weak {s : Ac} {x : Int} {T : Tk} {b b' : Nat} (h : TInv s x T b) (hb : b ≤ b') : TInv s x T b' := ⟨h.val, h.iff, h.t0, by have := h.tb; omega, h.c0, h.cb, h.n0, h.nb, h.co⟩
/-! A core. -/
def accC (l : List (List Int)) (c : Nat) : Nat → Cr
  | 0 => ⟨0, 0, 0, 0⟩
  | n + 1 => coreF (accC l c n) ((l.getD n []).getD c 0)
theorem accC_ext (l : List (List Int)) (r : List Int) (c : Nat) : ∀ n, n ≤ l.length → accC (l ++ [r]) c n = accC l c n := by
  intro n
  induction n with
  | zero => intro _; rfl
  | succ n ih =>
    intro h
    have e : (l ++ [r]).getD n [] = l.getD n [] := by simp only [List.getD_eq_getElem?_getD]; rw [List.getElem?_append_left (by omega)]
    rw [accC, accC, ih (by omega), e]
theorem accC_snoc (l : List (List Int)) (r : List Int) (c : Nat) : accC (l ++ [r]) c (l ++ [r]).length = coreF (accC l c l.length) (r.getD c 0) := by
  have e : (l ++ [r]).getD l.length [] = r := by simp
  rw [List.length_append, List.length_singleton, accC, accC_ext l r c _ (Nat.le_refl _), e]
theorem rowF_core (s : Ac) (l : List Int) (hs : s.C.length = 16) (c : Nat) (hc : c < 16) : ∀ k, k ≤ 16 → (rowF s l k).C.getD c ⟨0, 0, 0, 0⟩ = if c < k then coreF (s.C.getD c ⟨0, 0, 0, 0⟩) (l.getD c 0) else s.C.getD c ⟨0, 0, 0, 0⟩ := by
  intro k
  induction k with
  | zero => intro _; rw [if_neg (by omega)]; rfl
  | succ k ih =>
    intro hk
    have ih := ih (by omega)
    rw [rowF_succ]
    have e : (stepF (rowF s l k) k (l.getD k 0)).C = (rowF s l k).C.set k (coreF ((rowF s l k).C.getD k ⟨0, 0, 0, 0⟩) (l.getD k 0)) := by
      unfold stepF
      dsimp only
      split <;> rfl
    have hl := (rowF_f s l k).2.2
    rw [e]
    by_cases hck : c = k
    · subst hck
      rw [if_neg (by omega)] at ih
      rw [if_pos (by omega), ih]
      simp [List.getD_eq_getElem?_getD, hl, hs, hc]
    · have e2 : ((rowF s l k).C.set k (coreF ((rowF s l k).C.getD k ⟨0, 0, 0, 0⟩) (l.getD k 0))).getD c ⟨0, 0, 0, 0⟩ = (rowF s l k).C.getD c ⟨0, 0, 0, 0⟩ := by
        simp only [List.getD_eq_getElem?_getD]
        rw [List.getElem?_set_ne (fun q => hck q.symm)]
      rw [e2, ih]
      by_cases h2 : c < k
      · rw [if_pos h2, if_pos (by omega)]
      · rw [if_neg h2, if_neg (by omega)]
theorem addF_core (s : Ac) (l : List Int) (hs : s.C.length = 16) (c : Nat) (hc : c < 16) : (addF s l).C.getD c ⟨0, 0, 0, 0⟩ = coreF (s.C.getD c ⟨0, 0, 0, 0⟩) (l.getD c 0) := by
  have q := rowF_core s l hs c hc 16 (Nat.le_refl _)
  rw [if_pos hc] at q
  rw [← q]
  unfold addF
  dsimp only
  split <;> rfl
theorem addF_f (s : Ac) (l : List Int) : (addF s l).f = s.f ∧ (addF s l).ticks = s.ticks + 1 ∧ (addF s l).C.length = s.C.length := by
  have q := rowF_f s l 16
  unfold addF
  dsimp only
  split
  · exact ⟨q.1, by rw [q.2.1], q.2.2⟩
  · exact ⟨q.1, by rw [q.2.1], q.2.2⟩
/-- All that the law asks of an account. -/
structure CInv (s : Ac) (f : Nat) (l : List (List Int)) (a : Nat) (x : Int) : Prop where
  sf : s.f = (f : Int)
  ticks : s.ticks = (l.length : Int)
  len : s.C.length = 16
  right : ∀ r ∈ l, rightRow r = true
  from_ : a ≤ l.length
  task : 1 ≤ x ∧ x ≤ 200 → TInv s x (accT f x l a l.length) (l.length * 16)
  core : ∀ c, c < 16 → s.C.getD c ⟨0, 0, 0, 0⟩ = accC l c l.length
theorem CInv.new (f : Nat) (x : Int) : CInv (newA (f : Int)) f [] 0 x := by
  refine ⟨rfl, rfl, rfl, by simp, Nat.le_refl _, fun _ => TInv.new _ _ _, fun c hc => ?_⟩
  simp only [newA, List.getD_eq_getElem?_getD, List.getElem?_replicate]
  split <;> rfl
theorem CInv.add {s : Ac} {f : Nat} {l : List (List Int)} {a : Nat} {x : Int} (h : CInv s f l a x) (hl : l.length ≤ 1000) {r : List Int} (hr : rightRow r = true) : CInv (addF s r) f (l ++ [r]) a x := by
  have q := addF_f s r
  refine ⟨by rw [q.1, h.sf], by rw [q.2.1, h.ticks, List.length_append, List.length_singleton]; omega, by rw [q.2.2, h.len], ?_, by rw [List.length_append]; have := h.from_; omega, ?_, ?_⟩
  · intro y hy
    rcases List.mem_append.1 hy with hy | hy
    · exact h.right y hy
    · rw [List.mem_singleton.1 hy]
      exact hr
  · intro hx
    rw [accT_snoc f x l r a h.from_]
    have := (h.task hx).add (l := r) hx (by omega) h.sf h.ticks
    rw [List.length_append, List.length_singleton, Nat.add_mul, Nat.one_mul]
    exact this
  · intro c hc
    rw [accC_snoc, addF_core s r h.len c hc, h.core c hc]
theorem CInv.gone {s : Ac} {f : Nat} {l : List (List Int)} {a : Nat} {x : Int} (h : CInv s f l a x) : CInv { s with M := upd s.M x none } f l l.length x :=
  ⟨h.sf, h.ticks, h.len, h.right, Nat.le_refl _, fun hx => by rw [accT_from]; exact TInv.gone s x _, h.core⟩
theorem CInv.gone' {s : Ac} {f : Nat} {l : List (List Int)} {a : Nat} {x : Int} (h : CInv s f l a x) (n : Nat) (hn : n = l.length) : CInv { s with M := upd s.M x none } f l n x := by
  rw [hn]
  exact h.gone
end Go.Proofs.Ytgfkcmmhnibaiaa.Ac
