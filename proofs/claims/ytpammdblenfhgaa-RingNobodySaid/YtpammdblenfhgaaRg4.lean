/- ring.Ring, walked by hand: a member, who is next, a new ring. -/
import Derived.Test.YtpammdblenfhgaaRg3
namespace Go.Proofs.Ytpammdblenfhgaa.Rg
open Go.RowKit Go.Proofs.YtpammdblenfhgaaW.PrintWords Go.Proofs.YtpammdblenfhgaaW.PrintLast Go.Proofs.YtpammdblenfhgaaW.PrintMore Pt PRg
set_option linter.unusedVariables false
set_option linter.unusedSimpArgs false
/-! A member's fields are written. -/
theorem mbs_n (l sp : List Value) (L : List Mb) (j : Nat) (m : Mb) (hj : L[j]? = some m) (n : Int) (hl : l = mbs L ++ sp) : l.set (j * 4 + 2) (.int .u64 n) = mbs (L.set j { m with f2 := n }) ++ sp := by
  have hjl := (List.getElem?_eq_some_iff.mp hj).1
  have hm := mbs_length L
  have q := mbs_get L j m hj
  rw [hl, List.set_append_left _ _ (by omega), ← mbs_set L j _ hjl]
  dsimp only
  rw [set_same (mbs L) (j * 4) _ q.1, set_same (mbs L) (j * 4 + 1) _ q.2.1, set_same _ (j * 4 + 3) _ (by rw [List.getElem?_set_ne (by omega)]; exact q.2.2.2)]
theorem mbs_on (l sp : List Value) (L : List Mb) (j : Nat) (m : Mb) (hj : L[j]? = some m) (b : Bool) (hl : l = mbs L ++ sp) : l.set (j * 4 + 3) (.bool b) = mbs (L.set j { m with f3 := b }) ++ sp := by
  have hjl := (List.getElem?_eq_some_iff.mp hj).1
  have hm := mbs_length L
  have q := mbs_get L j m hj
  rw [hl, List.set_append_left _ _ (by omega), ← mbs_set L j _ hjl]
  dsimp only
  rw [set_same (mbs L) (j * 4) _ q.1, set_same (mbs L) (j * 4 + 1) _ q.2.1, set_same (mbs L) (j * 4 + 2) _ q.2.2.1]
theorem mbs_w (l sp : List Value) (L : List Mb) (j : Nat) (m : Mb) (hj : L[j]? = some m) (n : Int) (hl : l = mbs L ++ sp) : l.set (j * 4 + 1) (.int .u64 n) = mbs (L.set j { m with f1 := n }) ++ sp := by
  have hjl := (List.getElem?_eq_some_iff.mp hj).1
  have hm := mbs_length L
  have q := mbs_get L j m hj
  rw [hl, List.set_append_left _ _ (by omega), ← mbs_set L j _ hjl]
  dsimp only
  rw [set_same (mbs L) (j * 4) _ q.1, set_same _ (j * 4 + 2) _ (by rw [List.getElem?_set_ne (by omega)]; exact q.2.2.1), set_same _ (j * 4 + 3) _ (by rw [List.getElem?_set_ne (by omega)]; exact q.2.2.2)]
/-- A ring with members: its row known whole. -/
structure RepB (w : World) (F : Nat → Prop) (g a cap : Nat) (sp : List Value) (s : Rg) : Prop where
  fg : F g
  fa : F a
  ne : a ≠ g
  hd : w.heap[g]? = some (.cells #[.int .u64 s.lim, .slice (some ⟨a, 0, none⟩) s.l.length cap, .int .u64 s.num, .int .u64 s.den] 60 (0, 0))
  row : w.heap[a]? = some (.cells (mbs s.l ++ sp).toArray 103 (0, 0))
  size : s.l.length * 4 + sp.length = cap * 4
  mx : cap ≤ maxLen
  lim0 : 2048 ≤ s.lim
  lim1 : s.lim ≤ 1099511627776
section
variable {w w' : World} {F : Nat → Prop} {g a cap : Nat} {sp : List Value} {v : Value} {s : Rg}
theorem Rep.open_ (h : Rep w F g s) (hl : 0 < s.l.length) : ∃ a cap sp, RepB w F g a cap sp s := by
  obtain ⟨v, h⟩ := h
  obtain ⟨a, cap, sp, rfl, hp, hb, h1, h2⟩ := h.row.some_ hl
  exact ⟨a, cap, sp, h.fg, hp.1, hp.2, h.hd, hb, h1, h2, h.lim0, h.lim1⟩
theorem RepB.rep (h : RepB w F g a cap sp s) : Rep w F g s := ⟨_, h.fg, h.hd, .inr ⟨a, cap, sp, rfl, ⟨h.fa, h.ne⟩, h.row, h.size, h.mx⟩, h.lim0, h.lim1⟩
theorem RepB.below (h : RepB w F g a cap sp s) (k : Below w.heap.size w w') : RepB w' F g a cap sp s :=
  ⟨h.fg, h.fa, h.ne, (k.block g (blk_lt h.hd)).trans h.hd, (k.block a (blk_lt h.row)).trans h.row, h.size, h.mx, h.lim0, h.lim1⟩
theorem RepB.set_n (h : RepB w F g a cap sp s) (j : Nat) (m : Mb) (hj : s.l[j]? = some m) (n : Int) : RepB (w.setCell ⟨a, j * 4 + 2, none⟩ (.int .u64 n)) F g a cap sp { s with l := s.l.set j { m with f2 := n } } :=
  ⟨h.fg, h.fa, h.ne, by rw [List.length_set]; exact blk_far h.hd h.ne.symm _, by rw [blk_set h.row, List.setIfInBounds_toArray, mbs_n _ sp s.l j m hj n rfl], by rw [List.length_set]; exact h.size, h.mx, h.lim0, h.lim1⟩
theorem RepB.set_on (h : RepB w F g a cap sp s) (j : Nat) (m : Mb) (hj : s.l[j]? = some m) (b : Bool) : RepB (w.setCell ⟨a, j * 4 + 3, none⟩ (.bool b)) F g a cap sp { s with l := s.l.set j { m with f3 := b } } :=
  ⟨h.fg, h.fa, h.ne, by rw [List.length_set]; exact blk_far h.hd h.ne.symm _, by rw [blk_set h.row, List.setIfInBounds_toArray, mbs_on _ sp s.l j m hj b rfl], by rw [List.length_set]; exact h.size, h.mx, h.lim0, h.lim1⟩
theorem RepB.set_w (h : RepB w F g a cap sp s) (j : Nat) (m : Mb) (hj : s.l[j]? = some m) (n : Int) : RepB (w.setCell ⟨a, j * 4 + 1, none⟩ (.int .u64 n)) F g a cap sp { s with l := s.l.set j { m with f1 := n } } :=
  ⟨h.fg, h.fa, h.ne, by rw [List.length_set]; exact blk_far h.hd h.ne.symm _, by rw [blk_set h.row, List.setIfInBounds_toArray, mbs_w _ sp s.l j m hj n rfl], by rw [List.length_set]; exact h.size, h.mx, h.lim0, h.lim1⟩
/-! one -/
theorem one_none {p : Value} (h : NoneV w p) (id : Int) : Calls Try.prog 53 #[p, .int .i64 id] w fun e w' => e = .returned (.tuple #[.pointer none, .int .i64 2]) ∧ w = w' := by
  have H := Aside0.mk h
  clear h
  go_enter Try.func53, Try.ntmps53
  go_wp2_with (go_at_call 50; (with_reducible refine (none_v H.out).mono ?_); rintro e w' ⟨rfl, rfl⟩)
  go_ret2
  exact ⟨rfl, rfl⟩
theorem one_no (h : Rep w F g s) (hs : Sorted s.l) (hl : s.l.length ≤ 64) (id : Int) (hb : findB s.l id = false) : Calls Try.prog 53 #[.pointer (some ⟨g, 0, none⟩), .int .i64 id] w fun e w' => e = .returned (.tuple #[.pointer none, .int .i64 10]) ∧ Below w.heap.size w w' := by
  have H := Aside0.mk h
  have HS := Aside0.mk hs
  have HL := Aside0.mk hl
  have HB := Aside0.mk hb
  clear h hs hl hb
  go_enter Try.func53, Try.ntmps53
  go_wp2_with (first
    | (go_at_call 50; (with_reducible refine (none_rep H.out).mono ?_); rintro e w' ⟨rfl, rfl⟩)
    | (go_at_call 60; (with_reducible refine (find_calls H.out HS.out HL.out id _ false rfl HB.out).mono ?_); rintro e w1 ⟨rfl, hb⟩; have HW := Aside0.mk hb; clear hb))
  go_ret2
  exact ⟨rfl, HW.out⟩
theorem findB_at {l : List Mb} {id : Int} (h : findB l id = true) : ∃ m, l[findN l id]? = some m ∧ m.f0 = id := by
  unfold findB at h
  cases hm : l[findN l id]? with
  | none => rw [hm] at h; cases h
  | some m => rw [hm] at h; exact ⟨m, rfl, by simpa using h⟩
theorem one_yes (h : RepB w F g a cap sp s) (hs : Sorted s.l) (hl : s.l.length ≤ 64) (id : Int) (hb : findB s.l id = true) (n : Nat) (hn : findN s.l id = n) : Calls Try.prog 53 #[.pointer (some ⟨g, 0, none⟩), .int .i64 id] w fun e w' => e = .returned (.tuple #[.pointer (some ⟨a, n * 4, none⟩), .int .i64 0]) ∧ Below w.heap.size w w' := by
  have H := Aside0.mk h
  have HS := Aside0.mk hs
  have HL := Aside0.mk hl
  have HB := Aside0.mk hb
  have HN := Aside0.mk hn
  obtain ⟨m, hm, _⟩ := findB_at hb
  rw [hn] at hm
  have hlt := (List.getElem?_eq_some_iff.1 hm).1
  have p0 := eq_true (show (0 : Int) ≤ (n : Int) by omega)
  have p1 := eq_true (show (n : Int) < (s.l.length : Int) by omega)
  clear h hs hl hb hn hm hlt
  go_enter Try.func53, Try.ntmps53
  go_wp2_with (first
    | (go_at_call 50; (with_reducible refine (none_rep H.out.rep).mono ?_); rintro e w' ⟨rfl, rfl⟩)
    | (go_at_call 60; (with_reducible refine (find_calls H.out.rep HS.out HL.out id n true HN.out HB.out).mono ?_); rintro e w1 ⟨rfl, hb⟩; have hr := H.out.below hb; have k1 : w1.cell? ⟨g, 1, none⟩ = some (.slice (some ⟨a, 0, none⟩) s.l.length cap) := (blk_cell hr.hd 1).trans rfl; have HW := Aside0.mk hb; clear hb hr))
  go_ret2
  exact ⟨rfl, HW.out⟩
/-! New -/
def newR (lim : Int) : Rg := ⟨lim, [], 0, 1⟩
theorem new_bad (lim : Int) (h : lim < 2048 ∨ 1099511627776 < lim) (w : World) : Calls Try.prog 14 #[.int .i64 lim] w fun e w' => e = .returned (.tuple #[.pointer none, .int .i64 1]) ∧ w = w' := by
  by_cases h0 : lim < 2048
  · have d1 : decide (lim < 2048) = true := decide_eq_true h0
    clear h h0
    go_enter Try.func14, Try.ntmps14
    go_wp2
    go_ret2
    exact ⟨rfl, rfl⟩
  · have d1 : decide (lim < 2048) = false := decide_eq_false h0
    have d2 : decide (1099511627776 < lim) = true := decide_eq_true (by omega)
    clear h h0
    go_enter Try.func14, Try.ntmps14
    go_wp2
    go_ret2
    exact ⟨rfl, rfl⟩
theorem new_ok (lim : Int) (h0 : 2048 ≤ lim) (h1 : lim ≤ 1099511627776) (w : World) : Calls Try.prog 14 #[.int .i64 lim] w fun e w' => ∃ g, e = .returned (.tuple #[.pointer (some ⟨g, 0, none⟩), .int .i64 0]) ∧ Rep w' (fun k => w.heap.size ≤ k) g (newR lim) ∧ Below w.heap.size w w' := by
  have H0 := Aside0.mk h0
  have H1 := Aside0.mk h1
  have d1 : decide (lim < 2048) = false := decide_eq_false (by omega)
  have d2 : decide (1099511627776 < lim) = false := decide_eq_false (by omega)
  go_enter Try.func14, Try.ntmps14
  go_wp2
  go_ret2
  refine ⟨_, rfl, ⟨.slice none 0 0, Nat.le_refl _, ?_, .inl ⟨rfl, rfl⟩, H0.out, H1.out⟩, below_alloc (Below.refl _ _) _⟩
  exact heap_alloc_new _ _
/-! Next -/
def nextF (s : Rg) : Int × Bool := if (leastN s.l s.l.length).2 = true then ((s.l.getD (leastN s.l s.l.length).1 zM).f0, true) else (0, false)
theorem next_none {p : Value} (h : NoneV w p) : Calls Try.prog 24 #[p] w fun e w' => e = .returned (.tuple #[.int .i64 0, .bool false]) ∧ w = w' := by
  have H := Aside0.mk h
  clear h
  go_enter Try.func24, Try.ntmps24
  go_wp2_with (go_at_call 50; (with_reducible refine (none_v H.out).mono ?_); rintro e w' ⟨rfl, rfl⟩)
  go_ret2
  exact ⟨rfl, rfl⟩
set_option maxHeartbeats 1000000 in
theorem next_calls (h : Rep w F g s) (hok : ∀ m ∈ s.l, MOk m) (id : Int) (b : Bool) (hn : nextF s = (id, b)) : Calls Try.prog 24 #[.pointer (some ⟨g, 0, none⟩)] w fun e w' => e = .returned (.tuple #[.int .i64 id, .bool b]) ∧ Below w.heap.size w w' := by
  obtain ⟨i, ok, hi⟩ : ∃ b ok, leastN s.l s.l.length = (b, ok) := ⟨_, _, rfl⟩
  unfold nextF at hn
  rw [hi] at hn
  have HX := Aside0.mk h
  have HO := Aside0.mk hok
  have HB := Aside0.mk hi
  cases ok with
  | true =>
    have hlt := (leastN_ok s.l s.l.length (by rw [hi])).1
    rw [hi] at hlt
    dsimp only at hn hlt
    rw [if_pos rfl] at hn
    obtain ⟨m, hm⟩ : ∃ m, s.l[i]? = some m := ⟨_, List.getElem?_eq_getElem hlt⟩
    rw [List.getD_eq_getElem?_getD, hm] at hn
    obtain ⟨rfl, rfl⟩ : m.f0 = id ∧ true = b := Prod.mk.inj hn
    obtain ⟨a, cap, sp, hB⟩ := h.open_ (by omega)
    have HH := Aside0.mk hB
    have HM := Aside0.mk hm
    have p2 := eq_true (show (0 : Int) ≤ (i : Int) by omega)
    have p3 := eq_true (show (i : Int) < (s.l.length : Int) by omega)
    clear h hok hi hn hm hlt hB
    go_enter Try.func24, Try.ntmps24
    go_wp2_with (first
      | (go_at_call 50; (with_reducible refine (none_rep HX.out).mono ?_); rintro e w' ⟨rfl, rfl⟩)
      | (go_at_call 51; (with_reducible refine (least_calls HX.out HO.out i true HB.out).mono ?_); rintro e w1 ⟨rfl, hb1⟩; have hr := HH.out.below hb1; have k1 : w1.cell? ⟨g, 1, none⟩ = some (.slice (some ⟨a, 0, none⟩) s.l.length cap) := (blk_cell hr.hd 1).trans rfl; obtain ⟨c0, c1, c2, c3⟩ := mb_cells hr.row i m HM.out; have HB1 := Aside0.mk hb1; clear hr hb1 c1 c2 c3))
    go_ret2
    exact ⟨rfl, HB1.out⟩
  | false =>
    dsimp only at hn
    rw [if_neg (by decide)] at hn
    obtain ⟨rfl, rfl⟩ : 0 = id ∧ false = b := Prod.mk.inj hn
    clear h hok hi hn
    go_enter Try.func24, Try.ntmps24
    go_wp2_with (first
      | (go_at_call 50; (with_reducible refine (none_rep HX.out).mono ?_); rintro e w' ⟨rfl, rfl⟩)
      | (go_at_call 51; (with_reducible refine (least_calls HX.out HO.out i false HB.out).mono ?_); rintro e w1 ⟨rfl, hb1⟩; have HB1 := Aside0.mk hb1; clear hb1))
    go_ret2
    exact ⟨rfl, HB1.out⟩
end
end Go.Proofs.Ytpammdblenfhgaa.Rg
