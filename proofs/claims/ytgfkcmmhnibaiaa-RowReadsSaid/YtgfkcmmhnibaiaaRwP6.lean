/- Rows that are read, in plain lists: both readers take the same bytes. -/
import Derived.Test.YtgfkcmmhnibaiaaRwP5
namespace Go.Proofs.Ytgfkcmmhnibaiaa.PRw
open Go.RowKit Go.Proofs.YtgfkcmmhnibaiaaW.PrintWords Go.Proofs.YtgfkcmmhnibaiaaW.PrintLast Go.Proofs.YtgfkcmmhnibaiaaW.PrintMore
set_option linter.unusedVariables false
set_option linter.unusedSimpArgs false
theorem cnt_rep (r : List Int) : ∀ t, List.replicate (cnt r t) r ++ rest r t = t
  | [] => rfl
  | x :: t => by
    unfold cnt rest
    by_cases c : x = r
    · rw [if_pos c, if_pos c, List.replicate_succ, List.cons_append, cnt_rep r t, c]
    · rw [if_neg c, if_neg c]; rfl
theorem cnt_app (r : List Int) (new : List (List Int)) (h : new.head? ≠ some r) : ∀ j, cnt r (List.replicate j r ++ new) = j ∧ rest r (List.replicate j r ++ new) = new
  | 0 => by
    cases new with
    | nil => exact ⟨rfl, rfl⟩
    | cons x t =>
      have hx : ¬ x = r := fun e => h (by rw [e]; rfl)
      exact ⟨by simp [cnt, hx], by simp [rest, hx]⟩
  | j + 1 => by
    obtain ⟨h1, h2⟩ := cnt_app r new h j
    rw [List.replicate_succ, List.cons_append]
    unfold cnt rest
    rw [if_pos rfl, if_pos rfl]
    exact ⟨by rw [h1], h2⟩
theorem rest_head (r : List Int) : ∀ t, (rest r t).head? ≠ some r
  | [] => by simp [rest]
  | x :: t => by
    unfold rest
    by_cases c : x = r
    · rw [if_pos c]; exact rest_head r t
    · rw [if_neg c]; simpa using c
theorem g_cons (r : List Int) (t : List (List Int)) : g (r :: t) = enc 9 ((cnt r t + 1 : Nat) : Int) ++ (encs r ++ g (rest r t)) := by
  unfold g
  rw [List.length_cons, G_cons]
theorem g_group (r : List Int) (new : List (List Int)) (h : new.head? ≠ some r) (n : Nat) (hn : 1 ≤ n) : g (List.replicate n r ++ new) = enc 9 (n : Int) ++ (encs r ++ g new) := by
  obtain ⟨j, rfl⟩ : ∃ j, n = j + 1 := ⟨n - 1, by omega⟩
  obtain ⟨h1, h2⟩ := cnt_app r new h j
  rw [List.replicate_succ, List.cons_append, g_cons, h1, h2]
theorem last_rep (rows : List (List Int)) (r : List Int) (n : Nat) (hn : 1 ≤ n) : (rows ++ List.replicate n r).getLast? = some r := by
  obtain ⟨j, rfl⟩ : ∃ j, n = j + 1 := ⟨n - 1, by omega⟩
  rw [List.replicate_succ', ← List.append_assoc, List.getLast?_concat]
theorem dec_ok : ∀ (f m left : Nat) (rows : List (List Int)) (l : List Int) (er : Int) (rows' : List (List Int)), Bytes l → dec f m left rows l er = some rows' →
    m ≠ 0 ∧ er = 0 ∧ ∃ new, rows' = rows ++ new ∧ l = g new ∧ new.length = left ∧ (∀ r ∈ new, r.length = m ∧ ∀ x ∈ r, 0 ≤ x ∧ x ≤ 200) ∧ ∀ r, new.head? = some r → rows.getLast? ≠ some r
  | 0, m, left, rows, l, er, rows', hb, h => by simp [dec] at h
  | f + 1, m, left, rows, l, er, rows', hb, h => by
    rw [dec] at h
    by_cases c : 0 < left
    · rw [if_pos c] at h
      dsimp only at h
      have h1 := rnum_rest l er (left : Int) hb
      have h2 := rnum_range l er (left : Int) hb (by omega)
      have h2' := rnum_ok l er (left : Int) hb
      generalize rnum l er (left : Int) = a at *
      have h3 := rrow_len m a.2.1 a.2.2
      have h4 := rrow_rest m a.2.1 a.2.2 h1.1
      have h5 := rrow_ok m a.2.1 a.2.2 h1.1
      generalize rrow m a.2.1 a.2.2 = x at *
      by_cases c2 : x.2.2 = 0 ∧ a.1 ≠ 0 ∧ lst rows x.1 = false
      · rw [if_pos c2] at h
        obtain ⟨q1, q2, q3⟩ := c2
        obtain ⟨m0, _, new, e1, e2, e3, e4, e5⟩ := dec_ok f m _ _ _ _ rows' h4.1 h
        obtain ⟨f1, f2, f3⟩ := h5 q1
        obtain ⟨g1, g2, g3, g4, g5⟩ := h2' f1
        have ht : ((a.1.toNat : Nat) : Int) = a.1 := Int.toNat_of_nonneg h2.1
        have hn : 1 ≤ a.1.toNat := by omega
        have hh : new.head? ≠ some x.1 := fun q => e5 _ q (last_rep rows x.1 _ hn)
        refine ⟨m0, g1, List.replicate a.1.toNat x.1 ++ new, by rw [e1, List.append_assoc], ?_, by rw [List.length_append, List.length_replicate]; omega, ?_, ?_⟩
        · rw [g_group x.1 new hh _ hn, ht, ← e2, ← f2]; exact g2
        · intro r hr
          rcases List.mem_append.mp hr with q | q
          · rw [(List.mem_replicate.mp q).2]; exact ⟨h3, f3⟩
          · exact e4 r q
        · intro r hr hl
          obtain ⟨j, ej⟩ : ∃ j, a.1.toNat = j + 1 := ⟨a.1.toNat - 1, by omega⟩
          rw [ej, List.replicate_succ, List.cons_append, List.head?_cons] at hr
          cases hr
          unfold lst at q3
          exact of_decide_eq_false q3 hl
      · rw [if_neg c2] at h; exact absurd h (by simp)
    · rw [if_neg c] at h
      by_cases c2 : er = 0 ∧ l = [] ∧ m ≠ 0
      · rw [if_pos c2] at h
        cases h
        exact ⟨c2.2.2, c2.1, [], by simp, by rw [c2.2.1]; simp [g, G], by simp; omega, by simp, by simp⟩
      · rw [if_neg c2] at h; exact absurd h (by simp)
theorem dec_g (m : Nat) (hm : m ≠ 0) : ∀ (N : Nat) (new acc : List (List Int)), new.length ≤ N → new.length ≤ 4096 → (∀ r ∈ new, rowOk m r = true) → (∀ r, new.head? = some r → acc.getLast? ≠ some r) → dec (N + 1) m new.length acc (g new) 0 = some (acc ++ new)
  | N, [], acc, hN, hl, ho, hs => by
    rw [dec, if_neg (show ¬ 0 < ([] : List (List Int)).length by decide), if_pos ⟨rfl, by simp [g, G], hm⟩, List.append_nil]
  | 0, r :: t, acc, hN, hl, ho, hs => by simp at hN
  | N + 1, r :: t, acc, hN, hl, ho, hs => by
    simp only [List.length_cons] at hN hl
    have hr := ho r (by simp)
    have hcr := cnt_rest r t
    have hlen : r.length = m := by have := (rowOk_len hr).1; omega
    rw [dec, if_pos (by simp), g_cons, rnum_enc ((cnt r t + 1 : Nat) : Int) _ _ (by omega) (by omega) (by simp only [List.length_cons]; omega)]
    dsimp only
    have hrow := rrow_enc r (g (rest r t)) (rowOk_ids hr)
    rw [hlen] at hrow
    rw [hrow]
    dsimp only
    have hlst : lst acc r = false := by
      unfold lst
      exact decide_eq_false (hs r rfl)
    rw [if_pos ⟨rfl, by omega, hlst⟩]
    have e1 : (((cnt r t + 1 : Nat) : Int)).toNat = cnt r t + 1 := Int.toNat_natCast _
    rw [e1, show (r :: t).length - (cnt r t + 1) = (rest r t).length by simp only [List.length_cons]; omega]
    rw [dec_g m hm N (rest r t) _ (by omega) (by omega) (fun x hx => ho x (List.mem_cons_of_mem _ (rest_sub r t x hx))) (fun x hx hy => by
      rw [last_rep acc r _ (by omega)] at hy
      cases hy
      exact rest_head r t hx)]
    rw [List.append_assoc, List.replicate_succ, List.cons_append, cnt_rep]
/-- The document's loop. -/
def rdec : Nat → List Int → Nat → Nat → List (List Int) → List Int → Int → Option (List (List Int))
  | 0, _, _, _, _, _, _ => none
  | f + 1, l0, m, left, rows, l, er =>
    if 0 < left ∧ er = 0 then
      let a := rnum l er (left : Int)
      let x := rrow m a.2.1 a.2.2
      if a.1 = 0 then none else rdec f l0 m (left - a.1.toNat) (rows ++ List.replicate a.1.toNat x.1) x.2.1 x.2.2
    else if er = 0 ∧ l = [] ∧ rightR m rows = true ∧ bytesR m rows = l0 then some rows else none
def toR (m : Nat) : Option (List (List Int)) → Int × List (List Int) × Bool
  | some rows => ((m : Int), rows, true)
  | none => (0, [], false)
theorem rdec_ok : ∀ (f : Nat) (l0 : List Int) (m left : Nat) (rows : List (List Int)) (l : List Int) (er : Int) (rows' : List (List Int)), rdec f l0 m left rows l er = some rows' → rightR m rows' = true ∧ bytesR m rows' = l0
  | 0, l0, m, left, rows, l, er, rows', h => by simp [rdec] at h
  | f + 1, l0, m, left, rows, l, er, rows', h => by
    rw [rdec] at h
    by_cases c : 0 < left ∧ er = 0
    · rw [if_pos c] at h
      dsimp only at h
      by_cases c2 : (rnum l er (left : Int)).1 = 0
      · rw [if_pos c2] at h; exact absurd h (by simp)
      · rw [if_neg c2] at h; exact rdec_ok f _ _ _ _ _ _ _ h
    · rw [if_neg c] at h
      by_cases c2 : er = 0 ∧ l = [] ∧ rightR m rows = true ∧ bytesR m rows = l0
      · rw [if_pos c2] at h
        cases h
        exact c2.2.2
      · rw [if_neg c2] at h; exact absurd h (by simp)
theorem rdec_nil (l0 : List Int) (m N : Nat) (acc : List (List Int)) (h1 : rightR m acc = true) (h2 : bytesR m acc = l0) : rdec (N + 1) l0 m 0 acc [] 0 = some acc := by
  rw [rdec, if_neg (show ¬ (0 < 0 ∧ (0 : Int) = 0) from fun q => absurd q.1 (by decide)), if_pos (show (0 : Int) = 0 ∧ ([] : List Int) = [] ∧ rightR m acc = true ∧ bytesR m acc = l0 from ⟨rfl, rfl, h1, h2⟩)]
theorem rdec_g (l0 : List Int) (m : Nat) (all : List (List Int)) (h1 : rightR m all = true) (h2 : bytesR m all = l0) : ∀ (N : Nat) (new acc : List (List Int)), new.length ≤ N → new.length ≤ 4096 → (∀ r ∈ new, rowOk m r = true) → acc ++ new = all → rdec (N + 1) l0 m new.length acc (g new) 0 = some all := by
  intro N
  induction N with
  | zero =>
    intro new acc hN hl ho he
    cases new with
    | cons r t => simp at hN
    | nil =>
      rw [List.append_nil] at he
      subst he
      exact rdec_nil l0 m 0 acc h1 h2
  | succ N ih =>
    intro new acc hN hl ho he
    cases new with
    | nil =>
      rw [List.append_nil] at he
      subst he
      exact rdec_nil l0 m (N + 1) acc h1 h2
    | cons r t =>
      simp only [List.length_cons] at hN hl
      have hr := ho r (by simp)
      have hcr := cnt_rest r t
      have hlen : r.length = m := by have := (rowOk_len hr).1; omega
      rw [rdec, if_pos (show 0 < (r :: t).length ∧ (0 : Int) = 0 from ⟨by simp, rfl⟩), g_cons, rnum_enc ((cnt r t + 1 : Nat) : Int) _ _ (by omega) (by omega) (by simp only [List.length_cons]; omega)]
      dsimp only
      have hrow := rrow_enc r (g (rest r t)) (rowOk_ids hr)
      rw [hlen] at hrow
      rw [hrow]
      dsimp only
      rw [if_neg (by omega)]
      have e1 : (((cnt r t + 1 : Nat) : Int)).toNat = cnt r t + 1 := Int.toNat_natCast _
      have e2 : acc ++ List.replicate (cnt r t + 1) r ++ rest r t = all := by rw [List.append_assoc, List.replicate_succ, List.cons_append, cnt_rep]; exact he
      rw [e1, show (r :: t).length - (cnt r t + 1) = (rest r t).length by simp only [List.length_cons]; omega]
      exact ih (rest r t) _ (by omega) (by omega) (fun x hx => ho x (List.mem_cons_of_mem _ (rest_sub r t x hx))) e2
theorem G_bytes (m : Int) (hm : m ≤ 16) : ∀ (f : Nat) (rows : List (List Int)), f ≤ 5000 → Okr m rows → rows.length ≤ 5000 → Bytes (G f rows)
  | 0, rows, hf, ho, hl => fun x hx => absurd hx (by simp [G])
  | f + 1, [], hf, ho, hl => fun x hx => absurd hx (by simp [G])
  | f + 1, r :: t, hf, ho, hl => by
    have hcr := cnt_rest r t
    simp only [List.length_cons] at hl
    intro x hx
    rw [G] at hx
    rcases List.mem_append.mp hx with q | q
    · exact enc_bytes 9 _ (by omega) (by rw [lim9]; omega) x q
    · rcases List.mem_append.mp q with q | q
      · exact encs_bytes r (fun y hy => by have := rowOk_ids (ho r (by simp)) y hy; omega) x q
      · exact G_bytes m hm f (rest r t) (by omega) ho.rest (by omega) x q
theorem bytesR_bytes (m : Int) (rows : List (List Int)) (h : rightR m rows = true) : Bytes (bytesR m rows) := by
  obtain ⟨h1, h2, h3, h4⟩ := right_parts h
  intro x hx
  unfold bytesR at hx
  rcases List.mem_append.mp hx with q | q
  · exact enc_bytes 9 m (by omega) (by rw [lim9]; omega) x q
  · rcases List.mem_append.mp q with q | q
    · exact enc_bytes 9 _ (by omega) (by rw [lim9]; omega) x q
    · exact G_bytes m h2 rows.length rows (by omega) h4 (by omega) x q
theorem bytesR_len (m : Int) (rows : List (List Int)) (h : rightR m rows = true) : (bytesR m rows).length ≤ 1000000 := by
  obtain ⟨h1, h2, h3, h4⟩ := right_parts h
  have e1 := enc_len 9 m
  have e2 := enc_len 9 (rows.length : Int)
  have e3 := G_len m h2 rows.length rows h4
  unfold bytesR
  simp only [List.length_append]
  omega
theorem rendR_ev (l0 : List Int) (m : Nat) (hm : m ≤ 16) (rows : List (List Int)) (l : List Int) (er : Int) (hb : Bytes l0) : Ev (fun k => rendR k l0 m rows l er) (toR m (if er = 0 ∧ l = [] ∧ rightR m rows = true ∧ bytesR m rows = l0 then some rows else none)) := by
  have ew : wrap64 (m : Int) = (m : Int) := by unfold wrap64; omega
  by_cases c : er = 0 ∧ l = []
  · have e0 : endErr l er = 0 := by unfold endErr; rw [if_pos c.1, if_pos c.2]
    cases hr : rightR m rows with
    | true =>
      have h1 := Right_ev (m : Int) rows
      rw [hr] at h1
      refine Ev.congr (f := fun k => (dogwatchref13_Right.f k (m : Int) rows).bind fun r => if r = true then (dogwatchref13_Encode.f k (m : Int) rows).bind fun b => if (strOfNums b).toList = (strOfNums l0).toList then some ((m : Int), rows, true) else some (0, [], false) else some (0, [], false)) (fun k => ?_) (Ev.bind h1 (Ev.congr (f := fun k => (dogwatchref13_Encode.f k (m : Int) rows).bind fun b => if (strOfNums b).toList = (strOfNums l0).toList then some ((m : Int), rows, true) else some (0, [], false)) (fun k => by rw [if_pos rfl]) (Ev.bind (refE_ev (m : Int) rows hr) ?_)))
      · show rendR k l0 m rows l er = _
        unfold rendR
        rw [End_is, Option.bind_some, if_pos e0, ew]
      · by_cases c3 : bytesR m rows = l0
        · rw [if_pos (show er = 0 ∧ l = [] ∧ true = true ∧ bytesR m rows = l0 from ⟨c.1, c.2, rfl, c3⟩)]
          exact Ev.congr (fun k => by rw [if_pos (by rw [c3])]; rfl) (Ev.now _)
        · rw [if_neg (show ¬ (er = 0 ∧ l = [] ∧ true = true ∧ bytesR m rows = l0) from fun q => c3 q.2.2.2)]
          exact Ev.congr (fun k => by rw [if_neg (fun q => c3 (str_inj (bytesR_bytes m rows hr) hb q))]; rfl) (Ev.now _)
    | false =>
      have h1 := Right_ev (m : Int) rows
      rw [hr] at h1
      rw [if_neg (fun q => by simp at q)]
      refine Ev.congr (f := fun k => (dogwatchref13_Right.f k (m : Int) rows).bind fun r => if r = true then (dogwatchref13_Encode.f k (m : Int) rows).bind fun b => if (strOfNums b).toList = (strOfNums l0).toList then some ((m : Int), rows, true) else some (0, [], false) else some (0, [], false)) (fun k => ?_) (Ev.bind h1 (Ev.congr (f := fun k => some (0, [], false)) (fun k => by rw [if_neg (by decide)]) (Ev.now _)))
      show rendR k l0 m rows l er = _
      unfold rendR
      rw [End_is, Option.bind_some, if_pos e0, ew]
  · have e0 : ¬ endErr l er = 0 := by
      unfold endErr
      by_cases he : er = 0
      · rw [if_pos he, if_neg (fun q => c ⟨he, q⟩)]; decide
      · rw [if_neg he]; exact he
    rw [if_neg (fun q => c ⟨q.1, q.2.1⟩)]
    refine Ev.congr (f := fun k => some (0, [], false)) (fun k => ?_) (Ev.now _)
    show rendR k l0 m rows l er = _
    unfold rendR
    rw [End_is, Option.bind_some, if_neg e0]
theorem rdecL_ev (l0 : List Int) (hb0 : Bytes l0) : ∀ (N m left : Nat) (rows : List (List Int)) (l : List Int) (er : Int), m ≤ 16 → left ≤ N → rows.length + left ≤ 4096 → Bytes l → l.length ≤ 1000000 → Ev (fun k => rdecL k l0 m left rows l er) (toR m (rdec (N + 1) l0 m left rows l er)) := by
  intro N
  induction N with
  | zero =>
    intro m left rows l er hm hN hr hb hl
    have : left = 0 := by omega
    subst this
    rw [rdec, if_neg (by simp)]
    refine Ev.step (f := fun k => rendR k l0 m rows l er) (fun k => ?_) (rendR_ev l0 m hm rows l er hb0)
    show rdecL (k + 1) l0 m ((0 : Nat) : Int) rows l er = _
    rw [rdecL, if_neg (show ¬ ((0 : Int) < ((0 : Nat) : Int) ∧ er = 0) from fun q => absurd q.1 (by decide))]
  | succ N ih =>
    intro m left rows l er hm hN hr hb hl
    rw [rdec]
    by_cases c : 0 < left ∧ er = 0
    · rw [if_pos c]
      dsimp only
      have h1 := rnum_rest l er (left : Int) hb
      have h2 := rnum_range l er (left : Int) hb (by omega)
      have hN2 : Ev (fun k => refNum k l er (left : Int)) (rnum l er (left : Int)) := ⟨30, fun k hk => refNum_is k l er left hb hl hk⟩
      generalize rnum l er (left : Int) = a at *
      have h3 := rrow_len m a.2.1 a.2.2
      have h4 := rrow_rest m a.2.1 a.2.2 h1.1
      have hrow := rowR_ev m (m : Int) 0 [] a.2.1 a.2.2 (Int.le_refl 0) (by omega) (by omega) (by simp; omega) h1.1 (by omega)
      rw [List.nil_append] at hrow
      generalize rrow m a.2.1 a.2.2 = x at *
      refine Ev.step (f := fun k => (refNum k l er (left : Int)).bind fun x => (rowR k m 0 [] x.2.1 x.2.2).bind fun y =>
        if x.1 = 0 then some (0, [], false) else (repR k x.1 0 rows y.1).bind fun rows' => rdecL k l0 m (IntKind.u64.wrap ((left : Int) - x.1)) rows' y.2.1 y.2.2) (fun k => ?_) (Ev.bind hN2 (Ev.bind hrow ?_))
      · show rdecL (k + 1) l0 m (left : Int) rows l er = _
        rw [rdecL, if_pos (show (0 : Int) < (left : Int) ∧ er = 0 from ⟨by omega, c.2⟩)]
      · by_cases c2 : a.1 = 0
        · rw [if_pos c2]
          exact Ev.congr (fun k => by rw [if_pos c2]; rfl) (Ev.now _)
        · rw [if_neg c2]
          have ht : ((a.1.toNat : Nat) : Int) = a.1 := Int.toNat_of_nonneg h2.1
          have hrep := repR_ev a.1.toNat a.1 0 rows x.1 (Int.le_refl 0) (by omega) (by omega) (by omega)
          have ih2 := ih m (left - a.1.toNat) (rows ++ List.replicate a.1.toNat x.1) x.2.1 x.2.2 hm (by omega) (by rw [List.length_append, List.length_replicate]; omega) h4.1 (by omega)
          refine Ev.congr (f := fun k => (repR k a.1 0 rows x.1).bind fun rows' => rdecL k l0 m ((left - a.1.toNat : Nat) : Int) rows' x.2.1 x.2.2) (fun k => ?_) (Ev.bind hrep ih2)
          rw [if_neg c2, u64_wrap ((left : Int) - a.1) (by omega) (by omega), show (left : Int) - a.1 = ((left - a.1.toNat : Nat) : Int) by omega]
    · rw [if_neg c]
      refine Ev.step (f := fun k => rendR k l0 m rows l er) (fun k => ?_) (rendR_ev l0 m hm rows l er hb0)
      show rdecL (k + 1) l0 m (left : Int) rows l er = _
      rw [rdecL, if_neg (show ¬ ((0 : Int) < (left : Int) ∧ er = 0) from fun q => c ⟨by omega, q.2⟩)]
theorem ref_ev (l : List Int) (hb : Bytes l) (hl : l.length ≤ 1000000) : Ev (fun k => dogwatchref13_Decode.f k l) (toR (rnum l 0 16).1.toNat (rdec 4097 l (rnum l 0 16).1.toNat (rnum (rnum l 0 16).2.1 (rnum l 0 16).2.2 4096).1.toNat [] (rnum (rnum l 0 16).2.1 (rnum l 0 16).2.2 4096).2.1 (rnum (rnum l 0 16).2.1 (rnum l 0 16).2.2 4096).2.2)) := by
  have h1 := rnum_rest l 0 16 hb
  have h2 := rnum_range l 0 16 hb (by decide)
  have hN : Ev (fun k => refNum k l 0 16) (rnum l 0 16) := ⟨30, fun k hk => refNum_is k l 0 16 hb hl hk⟩
  generalize rnum l 0 16 = a at *
  have h3 := rnum_rest a.2.1 a.2.2 4096 h1.1
  have h4 := rnum_range a.2.1 a.2.2 4096 h1.1 (by decide)
  have hN2 : Ev (fun k => refNum k a.2.1 a.2.2 4096) (rnum a.2.1 a.2.2 4096) := ⟨30, fun k hk => refNum_is k a.2.1 a.2.2 4096 h1.1 (by omega) hk⟩
  generalize rnum a.2.1 a.2.2 4096 = b at *
  have hd := rdecL_ev l hb 4096 a.1.toNat b.1.toNat [] b.2.1 b.2.2 (by omega) (by omega) (by simp; omega) h3.1 (by omega)
  rw [Int.toNat_of_nonneg h2.1, Int.toNat_of_nonneg h4.1] at hd
  exact Ev.bind hN (Ev.bind hN2 hd)
theorem own_ev (l : List Int) (hb : Bytes l) (hl : l.length ≤ 1000000) : Ev (fun k => row_Decode.f k l) (toD (rnum l 0 16).1.toNat (dec 4097 (rnum l 0 16).1.toNat (rnum (rnum l 0 16).2.1 (rnum l 0 16).2.2 4096).1.toNat [] (rnum (rnum l 0 16).2.1 (rnum l 0 16).2.2 4096).2.1 (rnum (rnum l 0 16).2.1 (rnum l 0 16).2.2 4096).2.2)) := by
  have h1 := rnum_rest l 0 16 hb
  have h2 := rnum_range l 0 16 hb (by decide)
  have hN : Ev (fun k => rdNum k l 0 16) (rnum l 0 16) := ⟨30, fun k hk => rdNum_is k l 0 16 hb hk⟩
  have hf : ∀ k, row_Decode.f k l = (rdNum k l 0 16).bind fun a => (rdNum k a.2.1 a.2.2 4096).bind fun b => decL k (wrap64 a.1) (wrap64 b.1) [] b.2.1 b.2.2 := fun k => by
    unfold row_Decode.f
    rw [if_pos (by omega)]
  generalize rnum l 0 16 = a at *
  have h3 := rnum_rest a.2.1 a.2.2 4096 h1.1
  have h4 := rnum_range a.2.1 a.2.2 4096 h1.1 (by decide)
  have hN2 : Ev (fun k => rdNum k a.2.1 a.2.2 4096) (rnum a.2.1 a.2.2 4096) := ⟨30, fun k hk => rdNum_is k a.2.1 a.2.2 4096 h1.1 hk⟩
  generalize rnum a.2.1 a.2.2 4096 = b at *
  have hd := decL_ev 4096 a.1.toNat b.1.toNat [] b.2.1 b.2.2 (by omega) (by omega) (by simp; omega) (by simp) h3.1
  rw [Int.toNat_of_nonneg h2.1, Int.toNat_of_nonneg h4.1] at hd
  refine Ev.congr hf (Ev.bind hN (Ev.bind hN2 (Ev.congr (fun k => ?_) hd)))
  rw [show wrap64 a.1 = a.1 by unfold wrap64; omega, show wrap64 b.1 = b.1 by unfold wrap64; omega]
theorem start_is (m : Int) (rows : List (List Int)) (h : rightR m rows = true) : rnum (bytesR m rows) 0 16 = (m, enc 9 (rows.length : Int) ++ g rows, 0) ∧ rnum (enc 9 (rows.length : Int) ++ g rows) 0 4096 = ((rows.length : Int), g rows, 0) := by
  obtain ⟨h1, h2, h3, h4⟩ := right_parts h
  exact ⟨rnum_enc m 16 _ (by omega) (by omega) h2, rnum_enc _ 4096 _ (by omega) (by omega) (by omega)⟩
theorem own_is (m : Int) (rows : List (List Int)) (h : rightR m rows = true) : Ev (fun k => row_Decode.f k (bytesR m rows)) (m, rows, 0) := by
  obtain ⟨h1, h2, h3, h4⟩ := right_parts h
  obtain ⟨s1, s2⟩ := start_is m rows h
  have ho := own_ev _ (bytesR_bytes m rows h) (bytesR_len m rows h)
  rw [s1] at ho
  dsimp only at ho
  rw [s2] at ho
  dsimp only at ho
  have em : ((m.toNat : Nat) : Int) = m := Int.toNat_of_nonneg (by omega)
  rw [Int.toNat_natCast, dec_g m.toNat (by omega) 4096 rows [] h3 h3 (by rw [em]; exact h4) (by simp), List.nil_append] at ho
  unfold toD at ho
  rw [em] at ho
  exact ho
theorem ref_is (m : Int) (rows : List (List Int)) (h : rightR m rows = true) : Ev (fun k => dogwatchref13_Decode.f k (bytesR m rows)) (m, rows, true) := by
  obtain ⟨h1, h2, h3, h4⟩ := right_parts h
  obtain ⟨s1, s2⟩ := start_is m rows h
  have ho := ref_ev _ (bytesR_bytes m rows h) (bytesR_len m rows h)
  rw [s1] at ho
  dsimp only at ho
  rw [s2] at ho
  dsimp only at ho
  have em : ((m.toNat : Nat) : Int) = m := Int.toNat_of_nonneg (by omega)
  rw [Int.toNat_natCast, rdec_g _ m.toNat rows (by rw [em]; exact h) (by rw [em]) 4096 rows [] h3 h3 (by rw [em]; exact h4) (List.nil_append _)] at ho
  unfold toR at ho
  rw [em] at ho
  exact ho
/-- Bytes that no rows make. -/
def Bad (l : List Int) : Prop := ∀ m rows, rightR m rows = true → l ≠ bytesR m rows
theorem own_no (l : List Int) (hb : Bytes l) (hl : l.length ≤ 1000000) (h : Bad l) : Ev (fun k => row_Decode.f k l) (0, [], 3) := by
  have ho := own_ev l hb hl
  have h1 := rnum_rest l 0 16 hb
  have h2 := rnum_range l 0 16 hb (by decide)
  have h2' := rnum_ok l 0 16 hb
  generalize rnum l 0 16 = a at *
  have h3 := rnum_rest a.2.1 a.2.2 4096 h1.1
  have h4 := rnum_range a.2.1 a.2.2 4096 h1.1 (by decide)
  have h4' := rnum_ok a.2.1 a.2.2 4096 h1.1
  generalize rnum a.2.1 a.2.2 4096 = b at *
  cases hd : dec 4097 a.1.toNat b.1.toNat [] b.2.1 b.2.2 with
  | none => rw [hd] at ho; exact ho
  | some rows =>
    exfalso
    obtain ⟨m0, e0, new, e1, e2, e3, e4, e5⟩ := dec_ok _ _ _ _ _ _ _ h3.1 hd
    obtain ⟨f1, f2, _⟩ := h4' e0
    obtain ⟨_, g2, _⟩ := h2' f1
    have em : ((a.1.toNat : Nat) : Int) = a.1 := Int.toNat_of_nonneg h2.1
    refine h a.1 new ?_ ?_
    · unfold rightR
      rw [decide_eq_true (by omega), decide_eq_true (by omega), decide_eq_true (by omega), Bool.true_and, Bool.true_and, Bool.true_and, List.all_eq_true]
      intro r hr
      obtain ⟨q1, q2⟩ := e4 r hr
      unfold rowOk
      rw [Bool.and_eq_true, beq_iff_eq, Bool.not_eq_true', List.any_eq_false]
      refine ⟨by omega, fun x hx => ?_⟩
      have := q2 x hx
      unfold badId
      simp
      omega
    · rw [g2, f2, e2]
      unfold bytesR
      rw [show (new.length : Int) = b.1 by omega]
      rfl
theorem ref_no (l : List Int) (hb : Bytes l) (hl : l.length ≤ 1000000) (h : Bad l) : Ev (fun k => dogwatchref13_Decode.f k l) (0, [], false) := by
  have ho := ref_ev l hb hl
  have h2 := rnum_range l 0 16 hb (by decide)
  generalize rnum l 0 16 = a at *
  generalize rnum a.2.1 a.2.2 4096 = b at *
  cases hd : rdec 4097 l a.1.toNat b.1.toNat [] b.2.1 b.2.2 with
  | none => rw [hd] at ho; exact ho
  | some rows =>
    exfalso
    obtain ⟨e1, e2⟩ := rdec_ok _ _ _ _ _ _ _ _ hd
    exact h _ rows e1 e2.symm
end Go.Proofs.Ytgfkcmmhnibaiaa.PRw
