/- What a number that is read comes to; rows that are the same. -/
import Derived.Test.YtgfkcmmhnibaiaaRwRn
import Derived.Test.YtgfkcmmhnibaiaaPRwx8
namespace Go.Proofs.Ytgfkcmmhnibaiaa.PRw
open Go.RowKit Go.Proofs.YtgfkcmmhnibaiaaW.PrintWords Go.Proofs.YtgfkcmmhnibaiaaW.PrintLast Go.Proofs.YtgfkcmmhnibaiaaW.PrintMore
set_option linter.unusedVariables false
set_option linter.unusedSimpArgs false
theorem rnum_enc (m limit : Int) (r : List Int) (h0 : 0 ≤ m) (h1 : m < 18446744073709551616) (h2 : m ≤ limit) : rnum (enc 9 m ++ r) 0 limit = (m, r, 0) := by
  unfold rnum
  rw [if_pos rfl, enc_pn 9 true m r h0 (by rw [top9]; exact h1) (fun h => absurd h (by decide))]
  show (if limit < m then _ else _) = _
  rw [if_neg (by omega), List.drop_left]
theorem rnum_err (l : List Int) (er limit : Int) (h : er ≠ 0) : rnum l er limit = (0, l, er) := by
  unfold rnum
  rw [if_neg h]
theorem rnum_none (l : List Int) (limit : Int) (h : pn 9 true l = none) : rnum l 0 limit = (0, [], 3) := by
  unfold rnum
  rw [if_pos rfl, h]
theorem rnum_some (l : List Int) (limit m : Int) (c : Nat) (h : pn 9 true l = some (m, c)) : rnum l 0 limit = if limit < m then (0, [], 5) else (m, l.drop c, 0) := by
  unfold rnum
  rw [if_pos rfl, h]
theorem rnum_ok (l : List Int) (er limit : Int) (hb : Bytes l) (h : (rnum l er limit).2.2 = 0) : er = 0 ∧ l = enc 9 (rnum l er limit).1 ++ (rnum l er limit).2.1 ∧ 0 ≤ (rnum l er limit).1 ∧ (rnum l er limit).1 ≤ limit ∧ (rnum l er limit).1 < 18446744073709551616 := by
  by_cases he : er = 0
  · subst he
    cases hp : pn 9 true l with
    | none => rw [rnum_none l limit hp] at h; exact absurd h (by decide)
    | some x =>
      obtain ⟨m, c⟩ := x
      obtain ⟨h0, h1, _, rfl, r, hr⟩ := pn_enc 9 true l m c hb hp
      rw [top9] at h1
      rw [rnum_some l limit m _ hp] at h ⊢
      by_cases c1 : limit < m
      · rw [if_pos c1] at h; exact absurd h (by decide)
      · rw [if_neg c1]
        refine ⟨rfl, ?_, h0, by show m ≤ limit; omega, h1⟩
        show l = enc 9 m ++ l.drop (enc 9 m).length
        rw [hr, List.drop_left]
  · rw [rnum_err l er limit he] at h
    exact absurd h he
theorem rnum_range (l : List Int) (er limit : Int) (hb : Bytes l) (hl : 0 ≤ limit) : 0 ≤ (rnum l er limit).1 ∧ (rnum l er limit).1 ≤ limit := by
  by_cases he : er = 0
  · subst he
    cases hp : pn 9 true l with
    | none => rw [rnum_none l limit hp]; exact ⟨Int.le_refl 0, hl⟩
    | some x =>
      obtain ⟨m, c⟩ := x
      obtain ⟨h0, h1, _⟩ := pn_enc 9 true l m c hb hp
      rw [rnum_some l limit m _ hp]
      by_cases c1 : limit < m
      · rw [if_pos c1]; exact ⟨Int.le_refl 0, hl⟩
      · rw [if_neg c1]; exact ⟨h0, by show m ≤ limit; omega⟩
  · rw [rnum_err l er limit he]
    exact ⟨Int.le_refl 0, hl⟩
theorem rnum_rest (l : List Int) (er limit : Int) (hb : Bytes l) : Bytes (rnum l er limit).2.1 ∧ (rnum l er limit).2.1.length ≤ l.length := by
  by_cases he : er = 0
  · subst he
    cases hp : pn 9 true l with
    | none => rw [rnum_none l limit hp]; exact ⟨fun x hx => absurd hx (by simp), by simp⟩
    | some x =>
      obtain ⟨m, c⟩ := x
      rw [rnum_some l limit m _ hp]
      by_cases c1 : limit < m
      · rw [if_pos c1]; exact ⟨fun x hx => absurd hx (by simp), by simp⟩
      · rw [if_neg c1]; exact ⟨Bytes_drop hb c, by show (l.drop c).length ≤ _; rw [List.length_drop]; omega⟩
  · rw [rnum_err l er limit he]
    exact ⟨hb, Nat.le_refl _⟩
theorem Reader_is (k : Nat) (l : List Int) (er limit : Int) (hb : Bytes l) (hl : l.length ≤ 1000000) (hk : 30 ≤ k) :
    dogwatchref09_Reader_Num.f k l er limit = some ((rnum l er limit).2.1, (rnum l er limit).2.2, (rnum l er limit).1) := by
  unfold dogwatchref09_Reader_Num.f
  rw [refNum_is k l er limit hb hl hk, Option.bind_some]
theorem End_is (l : List Int) (er : Int) : dogwatchref09_Reader_End.f l er = some (endErr l er) := by
  unfold dogwatchref09_Reader_End.f endErr
  by_cases he : er = 0
  · rw [if_pos he, if_pos he]
    by_cases hl : l = []
    · rw [if_pos hl, hl, if_neg (by decide), he]
    · have : 0 < l.length := List.length_pos_iff.mpr hl
      rw [if_neg hl, if_pos (by omega)]
  · rw [if_neg he, if_neg he]
theorem encs_bytes (l : List Int) (h : ∀ x ∈ l, 0 ≤ x ∧ x < 2 ^ 63) : Bytes (encs l) := by
  intro y hy
  unfold encs at hy
  obtain ⟨x, hx, hyx⟩ := List.mem_flatMap.mp hy
  exact enc_bytes 9 x (h x hx).1 (by have := (h x hx).2; rw [lim9]; omega) y hyx
theorem drop_eq (a b : List Int) (i : Nat) (ha : i < a.length) (hb : i < b.length) : (a.drop i = b.drop i) ↔ (rd a (i : Int) = rd b (i : Int) ∧ a.drop (i + 1) = b.drop (i + 1)) := by
  rw [List.drop_eq_getElem_cons ha, List.drop_eq_getElem_cons hb, rd_nth a i ha, rd_nth b i hb, List.cons.injEq]
theorem Same_l0 (a b : List Int) (hab : a.length = b.length) (hl : a.length ≤ 1000) : ∀ (d k i : Nat), i + d = a.length → d + 1 ≤ k → dogwatchref03_Same.l0 k a b (i : Int) = some (decide (a.drop i = b.drop i)) := by
  intro d
  induction d with
  | zero =>
    intro k i hi hk
    obtain ⟨k, rfl⟩ : ∃ m, k = m + 1 := ⟨k - 1, by omega⟩
    simp only [dogwatchref03_Same.l0]
    rw [if_neg (by omega), List.drop_of_length_le (by omega), List.drop_of_length_le (by omega)]
    rfl
  | succ d ih =>
    intro k i hi hk
    obtain ⟨k, rfl⟩ : ∃ m, k = m + 1 := ⟨k - 1, by omega⟩
    have ew : wrap64 ((i : Int) + 1) = ((i + 1 : Nat) : Int) := by unfold wrap64; omega
    simp only [dogwatchref03_Same.l0]
    rw [if_pos (by omega), if_pos (by omega), if_pos (by omega)]
    by_cases h : rd a (i : Int) = rd b (i : Int)
    · rw [if_pos h, ew, ih k (i + 1) (by omega) (by omega)]
      congr 1
      exact decide_eq_decide.mpr ((drop_eq a b i (by omega) (by omega)).trans ⟨fun q => q.2, fun q => ⟨h, q⟩⟩).symm
    · rw [if_neg h]
      congr 1
      exact (decide_eq_false fun q => h ((drop_eq a b i (by omega) (by omega)).mp q).1).symm
theorem Same_f (k : Nat) (a b : List Int) (hl : a.length ≤ 1000) (hk : 1001 ≤ k) : dogwatchref03_Same.f k a b = some (decide (a = b)) := by
  unfold dogwatchref03_Same.f
  by_cases h : (a.length : Int) = (b.length : Int)
  · rw [if_pos h]
    have := Same_l0 a b (by omega) hl a.length k 0 (by omega) (by omega)
    simpa using this
  · rw [if_neg h]
    congr 1
    exact (decide_eq_false fun q => h (by rw [q])).symm
end Go.Proofs.Ytgfkcmmhnibaiaa.PRw
