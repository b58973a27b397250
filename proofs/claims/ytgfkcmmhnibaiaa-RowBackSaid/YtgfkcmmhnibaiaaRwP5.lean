/- Rows that are read, in plain lists: what both readers do with the bytes. -/
import Derived.Test.YtgfkcmmhnibaiaaRwP3
import Derived.Test.YtgfkcmmhnibaiaaRwRefDecode
namespace Go.Proofs.Ytgfkcmmhnibaiaa.PRw
open Go.RowKit Go.Proofs.YtgfkcmmhnibaiaaW.PrintWords Go.Proofs.YtgfkcmmhnibaiaaW.PrintLast Go.Proofs.YtgfkcmmhnibaiaaW.PrintMore
set_option linter.unusedVariables false
set_option linter.unusedSimpArgs false
/-- A row of n ids that is read. -/
def rrow : Nat → List Int → Int → List Int × List Int × Int
  | 0, l, er => ([], l, er)
  | n + 1, l, er => ((rnum l er 200).1 :: (rrow n (rnum l er 200).2.1 (rnum l er 200).2.2).1, (rrow n (rnum l er 200).2.1 (rnum l er 200).2.2).2)
theorem rrow_len : ∀ (n : Nat) (l : List Int) (er : Int), (rrow n l er).1.length = n
  | 0, _, _ => rfl
  | n + 1, l, er => by rw [rrow, List.length_cons, rrow_len n]
theorem rrow_rest : ∀ (n : Nat) (l : List Int) (er : Int), Bytes l → Bytes (rrow n l er).2.1 ∧ (rrow n l er).2.1.length ≤ l.length
  | 0, l, er, hb => ⟨hb, Nat.le_refl _⟩
  | n + 1, l, er, hb => by
    have h1 := rnum_rest l er 200 hb
    have h2 := rrow_rest n (rnum l er 200).2.1 (rnum l er 200).2.2 h1.1
    exact ⟨h2.1, Nat.le_trans h2.2 h1.2⟩
theorem rrow_enc : ∀ (r : List Int) (l : List Int), (∀ x ∈ r, 0 ≤ x ∧ x ≤ 200) → rrow r.length (encs r ++ l) 0 = (r, l, 0)
  | [], l, h => rfl
  | x :: r, l, h => by
    have hx := h x (by simp)
    have e : encs (x :: r) ++ l = enc 9 x ++ (encs r ++ l) := by unfold encs; rw [List.flatMap_cons, List.append_assoc]
    rw [e, List.length_cons, rrow, rnum_enc x 200 _ hx.1 (by omega) hx.2]
    have ih := rrow_enc r l (fun y hy => h y (by simp [hy]))
    show (x :: (rrow r.length (encs r ++ l) 0).1, (rrow r.length (encs r ++ l) 0).2) = _
    rw [ih]
theorem rrow_ok : ∀ (n : Nat) (l : List Int) (er : Int), Bytes l → (rrow n l er).2.2 = 0 → er = 0 ∧ l = encs (rrow n l er).1 ++ (rrow n l er).2.1 ∧ ∀ x ∈ (rrow n l er).1, 0 ≤ x ∧ x ≤ 200
  | 0, l, er, hb, h => ⟨h, by simp [rrow, encs], by simp [rrow]⟩
  | n + 1, l, er, hb, h => by
    have h1 := rnum_rest l er 200 hb
    obtain ⟨e1, e2, e3⟩ := rrow_ok n (rnum l er 200).2.1 (rnum l er 200).2.2 h1.1 h
    obtain ⟨f1, f2, f3, f4, f5⟩ := rnum_ok l er 200 hb e1
    refine ⟨f1, ?_, ?_⟩
    · have e : encs (rrow (n + 1) l er).1 = enc 9 (rnum l er 200).1 ++ encs (rrow n (rnum l er 200).2.1 (rnum l er 200).2.2).1 := by rw [rrow]; unfold encs; rw [List.flatMap_cons]
      rw [e, List.append_assoc]
      show l = enc 9 (rnum l er 200).1 ++ (encs (rrow n (rnum l er 200).2.1 (rnum l er 200).2.2).1 ++ (rrow n (rnum l er 200).2.1 (rnum l er 200).2.2).2.1)
      rw [← e2]
      exact f2
    · intro x hx
      rw [rrow] at hx
      rcases List.mem_cons.mp hx with rfl | hx
      · exact ⟨f3, f4⟩
      · exact e3 x hx
theorem rowD_ev : ∀ (n : Nat) (m j : Int) (one l : List Int) (er : Int), 0 ≤ j → j + n = m → m ≤ 16 → one.length + n ≤ 100 → Bytes l → Ev (fun k => rowD k m j one l er) (one ++ (rrow n l er).1, (rrow n l er).2.1, (rrow n l er).2.2)
  | 0, m, j, one, l, er, h0, hj, hm, ho, hb => by
    refine Ev.step (f := fun _ => some (one, l, er)) (fun k => ?_) ?_
    · show rowD (k + 1) m j one l er = _
      rw [rowD, if_neg (by omega)]
    · rw [rrow, List.append_nil]; exact Ev.now _
  | n + 1, m, j, one, l, er, h0, hj, hm, ho, hb => by
    have h1 := rnum_rest l er 200 hb
    have h2 := rnum_range l er 200 hb (by decide)
    have ih := rowD_ev n m (j + 1) (one ++ [(rnum l er 200).1]) (rnum l er 200).2.1 (rnum l er 200).2.2 (by omega) (by omega) hm (by rw [List.length_append]; simp only [List.length_singleton]; omega) h1.1
    rw [List.append_assoc] at ih
    have hN : Ev (fun k => rdNum k l er 200) (rnum l er 200) := ⟨30, fun k hk => rdNum_is k l er 200 hb hk⟩
    refine Ev.step (f := fun k => (rdNum k l er 200).bind fun x => if one.length < 1000000 then rowD k m (wrap64 (j + 1)) (one ++ [wrap64 x.1]) x.2.1 x.2.2 else none) (fun k => ?_) (Ev.bind hN (Ev.congr (fun k => ?_) ih))
    · show rowD (k + 1) m j one l er = _
      rw [rowD, if_pos (by omega)]
    · rw [if_pos (by omega), show wrap64 (j + 1) = j + 1 by unfold wrap64; omega, show wrap64 (rnum l er 200).1 = (rnum l er 200).1 by unfold wrap64; omega]
theorem rowR_ev : ∀ (n : Nat) (m j : Int) (one l : List Int) (er : Int), 0 ≤ j → j + n = m → m ≤ 16 → one.length + n ≤ 100 → Bytes l → l.length ≤ 1000000 → Ev (fun k => rowR k m j one l er) (one ++ (rrow n l er).1, (rrow n l er).2.1, (rrow n l er).2.2)
  | 0, m, j, one, l, er, h0, hj, hm, ho, hb, hl => by
    refine Ev.step (f := fun _ => some (one, l, er)) (fun k => ?_) ?_
    · show rowR (k + 1) m j one l er = _
      rw [rowR, if_neg (by omega)]
    · rw [rrow, List.append_nil]; exact Ev.now _
  | n + 1, m, j, one, l, er, h0, hj, hm, ho, hb, hl => by
    have h1 := rnum_rest l er 200 hb
    have h2 := rnum_range l er 200 hb (by decide)
    have ih := rowR_ev n m (j + 1) (one ++ [(rnum l er 200).1]) (rnum l er 200).2.1 (rnum l er 200).2.2 (by omega) (by omega) hm (by rw [List.length_append]; simp only [List.length_singleton]; omega) h1.1 (by omega)
    rw [List.append_assoc] at ih
    have hN : Ev (fun k => refNum k l er 200) (rnum l er 200) := ⟨30, fun k hk => refNum_is k l er 200 hb hl hk⟩
    refine Ev.step (f := fun k => (refNum k l er 200).bind fun x => if one.length < 1000000 then rowR k m (IntKind.u64.wrap (j + 1)) (one ++ [wrap64 x.1]) x.2.1 x.2.2 else none) (fun k => ?_) (Ev.bind hN (Ev.congr (fun k => ?_) ih))
    · show rowR (k + 1) m j one l er = _
      rw [rowR, if_pos (by omega)]
    · rw [if_pos (by omega), u64_wrap (j + 1) (by omega) (by omega), show wrap64 (rnum l er 200).1 = (rnum l er 200).1 by unfold wrap64; omega]
theorem repD_ev : ∀ (d : Nat) (n j : Int) (rows : List (List Int)) (one : List Int), 0 ≤ j → j + d = n → n ≤ 5000 → one.length ≤ 100 → rows.length + d ≤ 100000 → Ev (fun k => repD k n j rows one) (rows ++ List.replicate d one)
  | 0, n, j, rows, one, h0, hj, hn, ho, hr => by
    refine Ev.step (f := fun _ => some rows) (fun k => ?_) ?_
    · show repD (k + 1) n j rows one = _
      rw [repD, if_neg (by omega)]
    · rw [List.replicate_zero, List.append_nil]; exact Ev.now _
  | d + 1, n, j, rows, one, h0, hj, hn, ho, hr => by
    have ih := repD_ev d n (j + 1) (rows ++ [one]) one (by omega) (by omega) hn ho (by rw [List.length_append]; simp only [List.length_singleton]; omega)
    rw [List.append_assoc, List.singleton_append, ← List.replicate_succ] at ih
    refine Ev.step (f := fun k => repD k n (j + 1) (rows ++ [one]) one) (fun k => ?_) ih
    show repD (k + 1) n j rows one = _
    rw [repD, if_pos (by omega), if_pos (by omega), show wrap64 (j + 1) = j + 1 by unfold wrap64; omega]
theorem repR_ev : ∀ (d : Nat) (n j : Int) (rows : List (List Int)) (one : List Int), 0 ≤ j → j + d = n → n ≤ 5000 → rows.length + d ≤ 100000 → Ev (fun k => repR k n j rows one) (rows ++ List.replicate d one)
  | 0, n, j, rows, one, h0, hj, hn, hr => by
    refine Ev.step (f := fun _ => some rows) (fun k => ?_) ?_
    · show repR (k + 1) n j rows one = _
      rw [repR, if_neg (by omega)]
    · rw [List.replicate_zero, List.append_nil]; exact Ev.now _
  | d + 1, n, j, rows, one, h0, hj, hn, hr => by
    have ih := repR_ev d n (j + 1) (rows ++ [one]) one (by omega) (by omega) hn (by rw [List.length_append]; simp only [List.length_singleton]; omega)
    rw [List.append_assoc, List.singleton_append, ← List.replicate_succ] at ih
    refine Ev.step (f := fun k => repR k n (j + 1) (rows ++ [one]) one) (fun k => ?_) ih
    show repR (k + 1) n j rows one = _
    rw [repR, if_pos (by omega), if_pos (by omega), u64_wrap (j + 1) (by omega) (by omega)]
/-- Is the row the last one? -/
def lst (rows : List (List Int)) (one : List Int) : Bool := decide (rows.getLast? = some one)
theorem lastD_ev (rows : List (List Int)) (one : List Int) (h : ∀ r ∈ rows, r.length ≤ 100) : Ev (fun k => lastD k rows one) (lst rows one) := by
  unfold lst
  by_cases c : 0 < rows.length
  · have hx := rd_L1_nat rows (rows.length - 1) (by omega)
    have e : rows.getLast? = some rows[rows.length - 1] := by rw [List.getLast?_eq_getElem?]; exact List.getElem?_eq_getElem _
    refine Ev.congr (f := fun k => slices_Equal_int_int.f k rows[rows.length - 1] one) (fun k => ?_) ?_
    · show lastD k rows one = _
      unfold lastD
      rw [if_pos c, show (rows.length : Int) - 1 = ((rows.length - 1 : Nat) : Int) by omega, hx]
    · have := Equal_ev rows[rows.length - 1] one (by have := h _ (List.getElem_mem (show rows.length - 1 < rows.length by omega)); omega)
      rw [e]
      simpa using this
  · have e : rows = [] := List.eq_nil_of_length_eq_zero (by omega)
    subst e
    exact Ev.congr (f := fun _ => some false) (fun k => rfl) (by simpa using Ev.now false)
/-- The program's loop. -/
def dec : Nat → Nat → Nat → List (List Int) → List Int → Int → Option (List (List Int))
  | 0, _, _, _, _, _ => none
  | f + 1, m, left, rows, l, er =>
    if 0 < left then
      let a := rnum l er (left : Int)
      let x := rrow m a.2.1 a.2.2
      if x.2.2 = 0 ∧ a.1 ≠ 0 ∧ lst rows x.1 = false then dec f m (left - a.1.toNat) (rows ++ List.replicate a.1.toNat x.1) x.2.1 x.2.2 else none
    else if er = 0 ∧ l = [] ∧ m ≠ 0 then some rows else none
def toD (m : Nat) : Option (List (List Int)) → Int × List (List Int) × Int
  | some rows => ((m : Int), rows, 0)
  | none => (0, [], 3)
theorem runD_ev (m left : Nat) (hm : m ≤ 16) (hl : left ≤ 5000) (l : List Int) (er : Int) (hb : Bytes l) : Ev (fun k => runD k m left l er) ((rrow m (rnum l er left).2.1 (rnum l er left).2.2).1, (rnum l er left).1, (rrow m (rnum l er left).2.1 (rnum l er left).2.2).2.1, (rrow m (rnum l er left).2.1 (rnum l er left).2.2).2.2) := by
  have h1 := rnum_rest l er left hb
  have h2 := rnum_range l er left hb (by omega)
  have hN : Ev (fun k => rdNum k l er (left : Int)) (rnum l er (left : Int)) := ⟨30, fun k hk => rdNum_is k l er left hb hk⟩
  have hR := rowD_ev m (m : Int) 0 [] (rnum l er left).2.1 (rnum l er left).2.2 (Int.le_refl 0) (by omega) (by omega) (by simp; omega) h1.1
  rw [List.nil_append] at hR
  refine Ev.congr (f := fun k => (rdNum k l er (left : Int)).bind fun a => (rowD k m 0 [] a.2.1 a.2.2).bind fun x => some (x.1, wrap64 a.1, x.2.1, x.2.2)) (fun k => ?_) (Ev.bind hN (Ev.bind hR ?_))
  · show runD k m left l er = _
    unfold runD
    rw [u64_wrap (left : Int) (by omega) (by omega)]
  · rw [show wrap64 (rnum l er left).1 = (rnum l er left).1 by unfold wrap64; omega]
    exact Ev.now _
theorem decL_ev : ∀ (N m left : Nat) (rows : List (List Int)) (l : List Int) (er : Int), m ≤ 16 → left ≤ N → rows.length + left ≤ 4096 → (∀ r ∈ rows, r.length ≤ 100) → Bytes l → Ev (fun k => decL k m left rows l er) (toD m (dec (N + 1) m left rows l er))
  | N, m, 0, rows, l, er, hm, hN, hl, hr, hb => by
    refine Ev.step (f := fun _ => if endErr l er = 0 ∧ (m : Int) ≠ 0 then some ((m : Int), rows, 0) else some (0, [], 3)) (fun k => ?_) ?_
    · show decL (k + 1) m ((0 : Nat) : Int) rows l er = _
      rw [decL, if_neg (show ¬ (0 : Int) < ((0 : Nat) : Int) by decide)]
    · rw [dec, if_neg (show ¬ 0 < 0 by decide)]
      have e : (endErr l er = 0 ∧ (m : Int) ≠ 0) ↔ (er = 0 ∧ l = [] ∧ m ≠ 0) := by
        unfold endErr
        by_cases he : er = 0
        · by_cases h2 : l = []
          · simp [he, h2]
          · simp [he, h2]
        · simp [he]
      by_cases c : er = 0 ∧ l = [] ∧ m ≠ 0
      · rw [if_pos c]
        exact Ev.congr (fun k => by rw [if_pos (e.mpr c)]; rfl) (Ev.now _)
      · rw [if_neg c]
        exact Ev.congr (fun k => by rw [if_neg (fun q => c (e.mp q))]; rfl) (Ev.now _)
  | 0, m, left + 1, rows, l, er, hm, hN, hl, hr, hb => by omega
  | N + 1, m, left + 1, rows, l, er, hm, hN, hl, hr, hb => by
    have h1 := rnum_rest l er ((left + 1 : Nat) : Int) hb
    have h2 := rnum_range l er ((left + 1 : Nat) : Int) hb (by omega)
    have h3 := rrow_len m (rnum l er ((left + 1 : Nat) : Int)).2.1 (rnum l er ((left + 1 : Nat) : Int)).2.2
    have h4 := rrow_rest m (rnum l er ((left + 1 : Nat) : Int)).2.1 (rnum l er ((left + 1 : Nat) : Int)).2.2 h1.1
    have hrun := runD_ev m (left + 1) hm (by omega) l er hb
    have hlast := lastD_ev rows (rrow m (rnum l er ((left + 1 : Nat) : Int)).2.1 (rnum l er ((left + 1 : Nat) : Int)).2.2).1 hr
    refine Ev.step (f := fun k => (runD k m ((left + 1 : Nat) : Int) l er).bind fun x => (lastD k rows x.1).bind fun last =>
      if x.2.2.2 = 0 ∧ x.2.1 ≠ 0 ∧ last = false then (repD k x.2.1 0 rows x.1).bind fun rows' => decL k m (wrap64 (((left + 1 : Nat) : Int) - x.2.1)) rows' x.2.2.1 x.2.2.2
      else some (0, [], 3)) (fun k => ?_) (Ev.bind hrun (Ev.bind hlast ?_))
    · show decL (k + 1) m ((left + 1 : Nat) : Int) rows l er = _
      rw [decL, if_pos (by omega), if_pos (by omega)]
    · rw [dec, if_pos (by omega)]
      dsimp only
      generalize ea : rnum l er ((left + 1 : Nat) : Int) = a at *
      generalize ex : rrow m a.2.1 a.2.2 = x at *
      by_cases c : x.2.2 = 0 ∧ a.1 ≠ 0 ∧ lst rows x.1 = false
      · rw [if_pos c]
        have ht : ((a.1.toNat : Nat) : Int) = a.1 := Int.toNat_of_nonneg h2.1
        have hrep := repD_ev a.1.toNat a.1 0 rows x.1 (Int.le_refl 0) (by omega) (by omega) (by omega) (by omega)
        have ih := decL_ev N m (left + 1 - a.1.toNat) (rows ++ List.replicate a.1.toNat x.1) x.2.1 x.2.2 hm (by omega) (by rw [List.length_append, List.length_replicate]; omega) (fun r hr2 => by
          rcases List.mem_append.mp hr2 with q | q
          · exact hr r q
          · rw [(List.mem_replicate.mp q).2]; omega) h4.1
        refine Ev.congr (f := fun k => (repD k a.1 0 rows x.1).bind fun rows' => decL k m ((left + 1 - a.1.toNat : Nat) : Int) rows' x.2.1 x.2.2) (fun k => ?_) (Ev.bind hrep ih)
        rw [if_pos c, show wrap64 (((left + 1 : Nat) : Int) - a.1) = ((left + 1 - a.1.toNat : Nat) : Int) by unfold wrap64; omega]
      · rw [if_neg c]
        exact Ev.congr (fun k => by rw [if_neg c]; rfl) (Ev.now _)
end Go.Proofs.Ytgfkcmmhnibaiaa.PRw
