/- The rows' bytes, in plain lists: both ways tell the same. -/
import Derived.Test.YtgfkcmmhnibaiaaRwP1
namespace Go.Proofs.Ytgfkcmmhnibaiaa.PRw
open Go.RowKit Go.Proofs.YtgfkcmmhnibaiaaW.PrintWords Go.Proofs.YtgfkcmmhnibaiaaW.PrintLast Go.Proofs.YtgfkcmmhnibaiaaW.PrintMore
set_option linter.unusedVariables false
set_option linter.unusedSimpArgs false
/-- How many rows ahead are like this one; and those behind them. -/
def cnt (r : List Int) : List (List Int) → Nat
  | [] => 0
  | x :: t => if x = r then cnt r t + 1 else 0
def rest (r : List Int) : List (List Int) → List (List Int)
  | [] => []
  | x :: t => if x = r then rest r t else x :: t
theorem cnt_rest (r : List Int) : ∀ t, cnt r t + (rest r t).length = t.length
  | [] => rfl
  | x :: t => by
    unfold cnt rest
    have := cnt_rest r t
    split
    · simp only [List.length_cons]; omega
    · simp
theorem drop_cnt (r : List Int) : ∀ t, t.drop (cnt r t) = rest r t
  | [] => rfl
  | x :: t => by
    unfold cnt rest
    split
    · rw [List.drop_succ_cons]; exact drop_cnt r t
    · rfl
/-- Groups of rows that are alike. -/
def G : Nat → List (List Int) → List Int
  | 0, _ => []
  | _ + 1, [] => []
  | f + 1, r :: t => enc 9 ((cnt r t + 1 : Nat) : Int) ++ (encs r ++ G f (rest r t))
theorem G_fuel : ∀ (f f' : Nat) (rows : List (List Int)), rows.length ≤ f → rows.length ≤ f' → G f rows = G f' rows
  | 0, f', rows, h, h' => by
    have : rows = [] := List.eq_nil_of_length_eq_zero (by omega)
    subst this
    cases f' <;> rfl
  | f + 1, 0, rows, h, h' => by
    have : rows = [] := List.eq_nil_of_length_eq_zero (by omega)
    subst this
    rfl
  | f + 1, f' + 1, [], h, h' => rfl
  | f + 1, f' + 1, r :: t, h, h' => by
    have := cnt_rest r t
    simp only [List.length_cons] at h h'
    rw [G, G, G_fuel f f' (rest r t) (by omega) (by omega)]
def bytesR (m : Int) (rows : List (List Int)) : List Int := enc 9 m ++ (enc 9 (rows.length : Int) ++ G rows.length rows)
theorem G_cons (r : List Int) (t : List (List Int)) : G (t.length + 1) (r :: t) = enc 9 ((cnt r t + 1 : Nat) : Int) ++ (encs r ++ G (rest r t).length (rest r t)) := by
  have := cnt_rest r t
  rw [G, G_fuel t.length (rest r t).length (rest r t) (by omega) (Nat.le_refl _)]
/-- Rows of ids that are in range, none too long. -/
def Okr (m : Int) (rows : List (List Int)) : Prop := ∀ r ∈ rows, rowOk m r = true
theorem Okr.ids {m : Int} {rows : List (List Int)} (h : Okr m rows) {r : List Int} (hr : r ∈ rows) : ∀ x ∈ r, 0 ≤ x ∧ x < 2 ^ 64 := fun x hx => by have := rowOk_ids (h r hr) x hx; omega
theorem Okr.len {m : Int} {rows : List (List Int)} (h : Okr m rows) (hm : m ≤ 16) {r : List Int} (hr : r ∈ rows) : r.length ≤ 16 := by have := (rowOk_len (h r hr)).1; omega
theorem rest_sub (r : List Int) : ∀ t, ∀ x ∈ rest r t, x ∈ t
  | [], x, hx => hx
  | y :: t, x, hx => by
    unfold rest at hx
    split at hx
    · exact List.mem_cons_of_mem _ (rest_sub r t x hx)
    · exact hx
theorem Okr.rest {m : Int} {r : List Int} {t : List (List Int)} (h : Okr m (r :: t)) : Okr m (rest r t) := fun x hx => h x (List.mem_cons_of_mem _ (rest_sub r t x hx))
theorem G_len (m : Int) (hm : m ≤ 16) : ∀ (f : Nat) (rows : List (List Int)), Okr m rows → (G f rows).length ≤ 200 * rows.length
  | 0, rows, h => by simp [G]
  | f + 1, [], h => by simp [G]
  | f + 1, r :: t, h => by
    have h1 := enc_len 9 ((cnt r t + 1 : Nat) : Int)
    have h2 := encs_len r
    have h3 := h.len hm (List.mem_cons_self)
    have h4 := G_len m hm f (rest r t) h.rest
    have h5 := cnt_rest r t
    rw [G]
    simp only [List.length_append, List.length_cons]
    omega
/-- The program's count of the rows that are alike. -/
theorem alike_l0 (r : List Int) (t : List (List Int)) (hb : ∀ x ∈ r :: t, x.length < 4611686018427387904) (hl : t.length < 4611686018427387904) : ∀ (d i : Nat), i + d = t.length → Ev (fun k => row_alike.l0 k (r :: t) ((i + 1 : Nat) : Int)) ((i + 1 + cnt r (t.drop i) : Nat) : Int) := by
  intro d
  induction d with
  | zero =>
    intro i hi
    rw [List.drop_of_length_le (by omega)]
    refine Ev.step (f := fun _ => some ((i + 1 : Nat) : Int)) (fun k => ?_) (Ev.now _)
    show row_alike.l0 (k + 1) (r :: t) ((i + 1 : Nat) : Int) = _
    simp only [row_alike.l0]
    rw [if_neg (by rw [List.length_cons]; omega)]
  | succ d ih =>
    intro i hi
    have hlt : i < t.length := by omega
    have e0 : rd_L1 (r :: t) ((i + 1 : Nat) : Int) = t[i] := by rw [rd_L1_nat (r :: t) (i + 1) (by rw [List.length_cons]; omega)]; rfl
    have e1 : rd_L1 (r :: t) 0 = r := rfl
    rw [List.drop_eq_getElem_cons hlt]
    have hq := Equal_ev t[i] r (hb _ (List.mem_cons_of_mem _ (List.getElem_mem _)))
    by_cases c : t[i] = r
    · have e2 : cnt r (t[i] :: t.drop (i + 1)) = cnt r (t.drop (i + 1)) + 1 := by simp only [cnt]; rw [if_pos c]
      rw [e2, show i + 1 + (cnt r (t.drop (i + 1)) + 1) = i + 1 + 1 + cnt r (t.drop (i + 1)) by omega]
      refine Ev.step (f := fun k => (slices_Equal_int_int.f k t[i] r).bind fun t113 => if t113 = true then row_alike.l0 k (r :: t) ((i + 1 + 1 : Nat) : Int) else some ((i + 1 : Nat) : Int)) (fun k => ?_) (Ev.bind hq ?_)
      · show row_alike.l0 (k + 1) (r :: t) ((i + 1 : Nat) : Int) = _
        simp only [row_alike.l0]
        rw [if_pos (by rw [List.length_cons]; omega), if_pos (by omega), if_pos (by rw [List.length_cons]; omega), e0, e1, wnat (i + 1) (by omega)]
      · rw [decide_eq_true c]
        exact Ev.congr (fun k => by rw [if_pos rfl]) (ih (i + 1) (by omega))
    · have e2 : cnt r (t[i] :: t.drop (i + 1)) = 0 := by simp only [cnt]; rw [if_neg c]
      rw [e2]
      refine Ev.step (f := fun k => (slices_Equal_int_int.f k t[i] r).bind fun t113 => if t113 = true then row_alike.l0 k (r :: t) ((i + 1 + 1 : Nat) : Int) else some ((i + 1 : Nat) : Int)) (fun k => ?_) (Ev.bind hq ?_)
      · show row_alike.l0 (k + 1) (r :: t) ((i + 1 : Nat) : Int) = _
        simp only [row_alike.l0]
        rw [if_pos (by rw [List.length_cons]; omega), if_pos (by omega), if_pos (by rw [List.length_cons]; omega), e0, e1, wnat (i + 1) (by omega)]
      · rw [decide_eq_false c]
        exact Ev.congr (fun k => by rw [if_neg (by decide)]) (Ev.now _)
theorem alike_ev (r : List Int) (t : List (List Int)) (hb : ∀ x ∈ r :: t, x.length < 4611686018427387904) (hl : t.length < 4611686018427387904) : Ev (fun k => row_alike.f k (r :: t)) ((cnt r t + 1 : Nat) : Int) := by
  have := alike_l0 r t hb hl t.length 0 (Nat.zero_add _)
  rw [List.drop_zero, show 0 + 1 + cnt r t = cnt r t + 1 by omega] at this
  exact this
theorem Put_ev (b l : List Int) (hb : b.length ≤ 5000000) (hl : l.length ≤ 100) (h : ∀ x ∈ l, 0 ≤ x ∧ x < 2 ^ 64) : Ev (fun k => octet_Put.f k b l) (b ++ encs l) := ⟨111, fun k hk => Put_enc k b l hb hl h hk⟩
theorem encs_one (x : Int) : encs [x] = enc 9 x := by simp [encs]
theorem Encode_l1 (rows : List (List Int)) (n : Nat) (hn : n ≤ rows.length) (one : List Int) (h1 : one.length ≤ 16) (hid : ∀ x ∈ one, 0 ≤ x ∧ x < 2 ^ 64) (res : List Int × Int) : ∀ (d j : Nat) (out : List Int), j + d = one.length → out.length + 10 * d ≤ 5000000 →
    Ev (fun k => row_Encode.l0 k (rows.drop n) (out ++ encs (one.drop j))) res → Ev (fun k => row_Encode.l1 k rows out (n : Int) one (one.length : Int) (j : Int)) res := by
  intro d
  induction d with
  | zero =>
    intro j out hj ho h
    have e0 : one.drop j = [] := List.drop_of_length_le (by omega)
    rw [e0] at h
    refine Ev.step (f := fun k => row_Encode.l0 k (rows.drop n) (out ++ encs [])) (fun k => ?_) h
    show row_Encode.l1 (k + 1) rows out (n : Int) one (one.length : Int) (j : Int) = _
    simp only [row_Encode.l1]
    rw [if_neg (by omega), if_pos (by omega), if_pos (by omega), Int.toNat_natCast]
    simp [encs]
  | succ d ih =>
    intro j out hj ho h
    have hlt : j < one.length := by omega
    have hr : rd one (j : Int) = one[j] := rd_nth one j hlt
    have hx := hid one[j] (List.getElem_mem _)
    have hle := enc_len 9 one[j]
    rw [List.drop_eq_getElem_cons hlt] at h
    have e : encs (one[j] :: one.drop (j + 1)) = enc 9 one[j] ++ encs (one.drop (j + 1)) := by unfold encs; rw [List.flatMap_cons]
    rw [e, ← List.append_assoc] at h
    have hp := Put_ev out [one[j]] (by omega) (by simp) (by intro y hy; simp at hy; rw [hy]; exact hx)
    rw [encs_one] at hp
    refine Ev.step (f := fun k => (octet_Put.f k out [one[j]]).bind fun t133 => row_Encode.l1 k rows t133 (n : Int) one (one.length : Int) ((j + 1 : Nat) : Int)) (fun k => ?_) (Ev.bind hp (ih (j + 1) _ (by omega) (by rw [List.length_append]; omega) h))
    show row_Encode.l1 (k + 1) rows out (n : Int) one (one.length : Int) (j : Int) = _
    simp only [row_Encode.l1]
    rw [if_pos (by omega), if_pos (by omega), if_pos (by omega), hr, u64_wrap _ hx.1 hx.2, wnat j (by omega)]
theorem Encode_l0 (m : Int) (hm : m ≤ 16) : ∀ (N : Nat) (rows : List (List Int)) (out : List Int), rows.length ≤ N → rows.length ≤ 4096 → Okr m rows → out.length + 200 * rows.length ≤ 1000000 → Ev (fun k => row_Encode.l0 k rows out) (out ++ G rows.length rows, 0)
  | N, [], out, hN, hl, ho, hb => by
    refine Ev.step (f := fun _ => some (out, 0)) (fun k => ?_) ?_
    · show row_Encode.l0 (k + 1) [] out = _
      simp only [row_Encode.l0]
      rw [if_neg (by simp)]
    · rw [show out ++ G ([] : List (List Int)).length [] = out by simp [G]]
      exact Ev.now _
  | 0, r :: t, out, hN, hl, ho, hb => by simp at hN
  | N + 1, r :: t, out, hN, hl, ho, hb => by
    simp only [List.length_cons] at hN hl hb
    have h3 := ho.len hm (List.mem_cons_self)
    have h5 := cnt_rest r t
    have h1 := enc_len 9 ((cnt r t + 1 : Nat) : Int)
    have h2 := encs_len r
    have ha := alike_ev r t (fun x hx => by have := ho.len hm hx; omega) (by omega)
    have hp := Put_ev out [((cnt r t + 1 : Nat) : Int)] (by omega) (by simp) (by intro y hy; simp at hy; rw [hy]; omega)
    rw [encs_one] at hp
    have ih := Encode_l0 m hm N (rest r t) (out ++ enc 9 ((cnt r t + 1 : Nat) : Int) ++ encs r) (by omega) (by omega) ho.rest (by simp only [List.length_append]; omega)
    have hin := Encode_l1 (r :: t) (cnt r t + 1) (by rw [List.length_cons]; omega) r h3 (ho.ids (List.mem_cons_self)) (out ++ (enc 9 ((cnt r t + 1 : Nat) : Int) ++ (encs r ++ G (rest r t).length (rest r t))), 0) r.length 0 (out ++ enc 9 ((cnt r t + 1 : Nat) : Int)) (Nat.zero_add _) (by rw [List.length_append]; omega) (by
      rw [List.drop_zero, List.drop_succ_cons, drop_cnt]
      simp only [List.append_assoc] at ih ⊢
      exact ih)
    rw [List.length_cons, G_cons]
    refine Ev.step (f := fun k => (row_alike.f k (r :: t)).bind fun t121 => (octet_Put.f k out [IntKind.u64.wrap t121]).bind fun t125 => row_Encode.l1 k (r :: t) t125 t121 r (r.length : Int) ((0 : Nat) : Int)) (fun k => ?_) (Ev.bind ha (Ev.bind (a := out ++ enc 9 ((cnt r t + 1 : Nat) : Int)) (Ev.congr (fun k => by rw [u64_wrap _ (by omega) (by omega)]) hp) hin))
    show row_Encode.l0 (k + 1) (r :: t) out = _
    simp only [row_Encode.l0]
    have c0 : ((r :: t).length : Int) > 0 := by rw [List.length_cons]; omega
    have c1 : (0 : Int) < ((r :: t).length : Int) := c0
    rw [if_pos c0]
    simp only [if_pos c1]
    rfl
theorem Encode_ev (m : Int) (rows : List (List Int)) (h : rightR m rows = true) : Ev (fun k => row_Encode.f k m rows) (bytesR m rows, 0) := by
  obtain ⟨h1, h2, h3, h4⟩ := right_parts h
  have l1 := enc_len 9 m
  have l2 := enc_len 9 (rows.length : Int)
  have hp := Put_ev [] [m, (rows.length : Int)] (by simp) (by simp) (by intro y hy; simp at hy; rcases hy with rfl | rfl <;> omega)
  have e : ([] : List Int) ++ encs [m, (rows.length : Int)] = enc 9 m ++ enc 9 (rows.length : Int) := by simp [encs]
  rw [e] at hp
  have hl := Encode_l0 m h2 rows.length rows (enc 9 m ++ enc 9 (rows.length : Int)) (Nat.le_refl _) h3 h4 (by rw [List.length_append]; omega)
  rw [List.append_assoc] at hl
  refine Ev.congr (f := fun k => (octet_Put.f k [] [m, (rows.length : Int)]).bind fun t118 => row_Encode.l0 k rows t118) (fun k => ?_) (Ev.bind hp hl)
  show row_Encode.f k m rows = _
  unfold row_Encode.f
  rw [Check_is, h, if_pos rfl, Option.bind_some, if_pos rfl, u64_wrap m (by omega) (by omega), u64_wrap (rows.length : Int) (by omega) (by omega)]
theorem Encode_no (m : Int) (rows : List (List Int)) (h : rightR m rows = false) : Ev (fun k => row_Encode.f k m rows) ([], 1) := by
  refine Ev.congr (f := fun _ => some ([], 1)) (fun k => ?_) (Ev.now _)
  show row_Encode.f k m rows = _
  unfold row_Encode.f
  rw [Check_is, h, if_neg (by decide), Option.bind_some, if_neg (by decide)]
end Go.Proofs.Ytgfkcmmhnibaiaa.PRw
