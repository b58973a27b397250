/- ring.Ring, walked by hand: where a member stands. -/
import Derived.Test.YtpammdblenfhgaaRg2
namespace Go.Proofs.Ytpammdblenfhgaa.Rg
open Go.RowKit Go.Proofs.YtpammdblenfhgaaW.PrintWords Go.Proofs.YtpammdblenfhgaaW.PrintLast Go.Proofs.YtpammdblenfhgaaW.PrintMore Pt PRg
set_option linter.unusedVariables false
set_option linter.unusedSimpArgs false
theorem nan_call (a : Int) (w : World) : Calls Try.prog 115 #[.int .i64 a] w fun e w' => e = .returned (.bool false) ∧ w = w' := by
  go_enter Try.func115, Try.ntmps115
  go_wp2
  go_ret
  exact ⟨by simp, rfl⟩
theorem cmp_call (a b r : Int) (hr : cmp a b = r) (w : World) : Calls Try.prog 98 #[.int .i64 a, .int .i64 b] w fun e w' => e = .returned (.int .i64 r) ∧ w = w' := by
  unfold cmp at hr
  by_cases h : a < b
  · rw [if_pos h] at hr
    subst hr
    have d1 : decide (a < b) = true := decide_eq_true h
    clear h
    go_enter Try.func98, Try.ntmps98
    go_wp2_with (go_at_call 115; (with_reducible refine (nan_call _ _).mono ?_); rintro e w1 ⟨rfl, rfl⟩)
    go_ret
    exact ⟨rfl, rfl⟩
  · rw [if_neg h] at hr
    have d1 : decide (a < b) = false := decide_eq_false h
    by_cases h2 : a = b
    · rw [if_pos h2] at hr
      subst hr
      have d2 : decide (b < a) = false := decide_eq_false (by omega)
      clear h h2
      go_enter Try.func98, Try.ntmps98
      go_wp2_with (go_at_call 115; (with_reducible refine (nan_call _ _).mono ?_); rintro e w1 ⟨rfl, rfl⟩)
      go_ret
      exact ⟨rfl, rfl⟩
    · rw [if_neg h2] at hr
      subst hr
      have d2 : decide (b < a) = true := decide_eq_true (by omega)
      clear h h2
      go_enter Try.func98, Try.ntmps98
      go_wp2_with (go_at_call 115; (with_reducible refine (nan_call _ _).mono ?_); rintro e w1 ⟨rfl, rfl⟩)
      go_ret
      exact ⟨rfl, rfl⟩
theorem cmp_member (m0 m1 m2 id r : Int) (m3 : Bool) (hr : cmp m0 id = r) (w : World) : Calls Try.prog 97 #[.agg #[.int .i64 m0, .int .u64 m1, .int .u64 m2, .bool m3], .int .i64 id] w fun e w' => e = .returned (.int .i64 r) ∧ Below w.heap.size w w' := by
  have HR := Aside0.mk hr
  clear hr
  go_enter Try.func97, Try.ntmps97
  go_wp2_with (go_at_call 98; (with_reducible refine (cmp_call _ _ r HR.out _).mono ?_); rintro e w1 ⟨rfl, rfl⟩)
  go_ret
  exact ⟨rfl, below_alloc (Below.refl _ _) _⟩
/-- By rising ids. -/
def Sorted (l : List Mb) : Prop := ∀ (i j : Nat) (x y : Mb), l[i]? = some x → l[j]? = some y → i < j → x.f0 < y.f0
/-- Where an id stands, or would. -/
def findN (l : List Mb) (id : Int) : Nat := (l.takeWhile (fun m => decide (m.f0 < id))).length
def findB (l : List Mb) (id : Int) : Bool := match l[findN l id]? with | some m => decide (m.f0 = id) | none => false
theorem findN_le (l : List Mb) (id : Int) : findN l id ≤ l.length := by
  unfold findN
  induction l with
  | nil => exact Nat.le_refl _
  | cons x l ih => rw [List.takeWhile_cons]; split <;> simp; omega
theorem findN_before (l : List Mb) (id : Int) (i : Nat) (x : Mb) (hx : l[i]? = some x) (h : i < findN l id) : x.f0 < id := by
  unfold findN at h
  induction l generalizing i with
  | nil => simp at hx
  | cons y l ih =>
    rw [List.takeWhile_cons] at h
    split at h
    · rename_i hy
      cases i with
      | zero =>
        simp at hx
        subst hx
        simpa using hy
      | succ i => exact ih i (by simpa using hx) (by simpa using h)
    · simp at h
theorem findN_at (l : List Mb) (id : Int) (x : Mb) (hx : l[findN l id]? = some x) : id ≤ x.f0 := by
  unfold findN at hx
  induction l with
  | nil => simp at hx
  | cons y l ih =>
    rw [List.takeWhile_cons] at hx
    split at hx
    · exact ih (by simpa using hx)
    · rename_i hy
      simp at hx
      subst hx
      simp at hy
      exact hy
theorem findN_of {l : List Mb} (hs : Sorted l) (id : Int) (n : Nat) (hn : n ≤ l.length) (h1 : ∀ i x, i < n → l[i]? = some x → x.f0 < id) (h2 : ∀ i x, n ≤ i → l[i]? = some x → id ≤ x.f0) : findN l id = n := by
  have hle := findN_le l id
  rcases Nat.lt_trichotomy (findN l id) n with h | h | h
  · obtain ⟨x, hx⟩ : ∃ x, l[findN l id]? = some x := ⟨_, List.getElem?_eq_getElem (by omega)⟩
    have := h1 _ x h hx
    have := findN_at l id x hx
    omega
  · exact h
  · obtain ⟨x, hx⟩ : ∃ x, l[n]? = some x := ⟨_, List.getElem?_eq_getElem (by omega)⟩
    have := h2 n x (Nat.le_refl _) hx
    have := findN_before l id n x hx h
    omega
theorem sorted_le {l : List Mb} (hs : Sorted l) {i j : Nat} {x y : Mb} (hx : l[i]? = some x) (hy : l[j]? = some y) (h : i ≤ j) : x.f0 ≤ y.f0 := by
  by_cases e : i = j
  · subst e
    rw [hx] at hy
    cases hy
    exact Int.le_refl _
  · have := hs i j x y hx hy (by omega)
    omega
section
variable {w : World} {P : Nat → Prop} {v : Value} {l : List Mb}
set_option maxHeartbeats 4000000 in
set_option maxRecDepth 100000 in
theorem bsearch (A : Option Addr) (cap : Nat) (h : Row w P (.slice A l.length cap) l) (hs : Sorted l) (hl : l.length ≤ 64) (id : Int) :
    Calls Try.prog 96 #[.slice A l.length cap, .int .i64 id, .func (.func 97) #[] #[]] w fun e w' => e = .returned (.tuple #[.int .i64 (findN l id : Int), .bool (findB l id)]) ∧ Below w.heap.size w w' := by
  have H := Aside0.mk h
  have HS := Aside0.mk hs
  have HL := Aside0.mk hl
  clear h hs hl
  go_enter Try.func96, Try.ntmps96
  go_wp2
  go_loopg [9, 10] 65 (fun kq v9 v10 w' => ∃ i j : Nat, v9 = .int .i64 (i : Int) ∧ v10 = .int .i64 (j : Int) ∧ Aside0 (j - i < kq) ∧ Aside0 (i ≤ j ∧ j ≤ l.length) ∧ Aside0 (∀ k x, k < i → l[k]? = some x → x.f0 < id) ∧ Aside0 (∀ k x, j ≤ k → l[k]? = some x → id ≤ x.f0) ∧ Aside0 (Below w.heap.size w w'))
  case atStart => exact ⟨0, l.length, rfl, rfl, ⟨by have := HL.out; omega⟩, ⟨Nat.zero_le _, Nat.le_refl _⟩, ⟨fun k x hk => by omega⟩, ⟨fun k x hk hx => by have := (List.getElem?_eq_some_iff.1 hx).1; omega⟩, ⟨Below.refl _ _⟩⟩
  case round =>
    obtain ⟨i, j, rfl, rfl, HK, HI, HA, HZ, HW⟩ := hrel
    cases gk with
    | zero => exact absurd HK.out (by omega)
    | succ k1 =>
      by_cases cc : i < j
      · have d1 : decide ((i : Int) < (j : Int)) = true := decide_eq_true (by omega)
        have d2 : decide (i < j) = true := decide_eq_true cc
        have hij := HI.out
        have hll := HL.out
        obtain ⟨h, hh⟩ : ∃ h, h = (i + j) / 2 := ⟨_, rfl⟩
        have eh : ((i : Int) + (j : Int)) / 2 = (h : Int) := by omega
        have hlt : h < l.length := by omega
        have HB := Aside0.mk (show i ≤ h ∧ h < j by omega)
        have p0 := eq_true (show (0 : Int) ≤ (h : Int) by omega)
        have p1 := eq_true (show (h : Int) < (l.length : Int) by omega)
        obtain ⟨a, cap', sp, ev, _, hblk, _, _⟩ := (H.out.kept (Kept.of_below HW.out (fun _ => False)) (fun _ _ => _root_.id)).some_ (by omega)
        cases ev
        obtain ⟨m, hm⟩ : ∃ m, l[h]? = some m := ⟨_, List.getElem?_eq_getElem hlt⟩
        obtain ⟨c0, c1, c2, c3⟩ := mb_cells hblk h m hm
        have HMM := Aside0.mk hm
        have HIJ := Aside0.mk hij
        have HLL := Aside0.mk hll
        clear cc hh hlt hblk hm
        obtain ⟨m0, m1, m2, m3⟩ := m
        by_cases hc : m0 < id
        · have HRR := Aside0.mk (show cmp m0 id = -1 by unfold cmp; rw [if_pos hc])
          have HC := Aside0.mk hc
          clear hc
          go_wp2_with (go_at_call 97; (with_reducible refine (cmp_member m0 m1 m2 id (-1) m3 HRR.out _).mono ?_); rintro e w2 ⟨rfl, hb⟩; have HB2 := Aside0.mk (below_step HW.out hb); clear hb)
          go_roundg k1
          case measure => omega
          case rel => exact ⟨h + 1, j, (by first | (congr 1; done) | rfl | (congr 1; unfold wrap64; have := HIJ.out; have := HLL.out; have := HB.out; omega)), rfl, ⟨by have := HB.out; have := HK.out; omega⟩, ⟨by have := HB.out; have := HIJ.out; omega⟩, ⟨fun k x hk hx => by have h9 : x.f0 ≤ m0 := sorted_le HS.out hx HMM.out (by omega); have := HC.out; omega⟩, HZ, HB2⟩
        · obtain ⟨r, hr, hr0⟩ : ∃ r, cmp m0 id = r ∧ ¬ r < 0 := ⟨_, rfl, by unfold cmp; rw [if_neg hc]; split <;> decide⟩
          have HRR := Aside0.mk hr
          have HC := Aside0.mk hc
          have d5 : decide (r < 0) = false := decide_eq_false hr0
          clear hc hr hr0
          go_wp2_with (go_at_call 97; (with_reducible refine (cmp_member m0 m1 m2 id (r) m3 HRR.out _).mono ?_); rintro e w2 ⟨rfl, hb⟩; have HB2 := Aside0.mk (below_step HW.out hb); clear hb)
          go_roundg k1
          case measure => omega
          case rel => exact ⟨i, h, rfl, rfl, ⟨by have := HB.out; have := HK.out; omega⟩, ⟨by have := HB.out; have := HIJ.out; omega⟩, HA, ⟨fun k x hk hx => by have h9 : m0 ≤ x.f0 := sorted_le HS.out HMM.out hx hk; have := HC.out; omega⟩, HB2⟩
      · have d1 : decide ((i : Int) < (j : Int)) = false := decide_eq_false (by omega)
        have d2 : decide (i < j) = false := decide_eq_false cc
        have e : j = i := by have := HI.out; omega
        rw [e] at HZ HI
        have HN : Aside0 (findN l id = i) := ⟨findN_of HS.out id i HI.out.2 HA.out HZ.out⟩
        have HE := Aside0.mk e
        by_cases ci : i < l.length
        · have d3 : decide ((i : Int) < (l.length : Int)) = true := decide_eq_true (by omega)
          have d4 : decide (i < l.length) = true := decide_eq_true ci
          have p0 := eq_true (show (0 : Int) ≤ (i : Int) by omega)
          have p1 := eq_true (show (i : Int) < (l.length : Int) by omega)
          obtain ⟨a, cap', sp, ev, _, hblk, _, _⟩ := (H.out.kept (Kept.of_below HW.out (fun _ => False)) (fun _ _ => _root_.id)).some_ (by omega)
          cases ev
          obtain ⟨m, hm⟩ : ∃ m, l[i]? = some m := ⟨_, List.getElem?_eq_getElem ci⟩
          obtain ⟨c0, c1, c2, c3⟩ := mb_cells hblk i m hm
          obtain ⟨m0, m1, m2, m3⟩ := m
          obtain ⟨r, hr⟩ : ∃ r, cmp m0 id = r := ⟨_, rfl⟩
          have HF : Aside0 (findB l id = (r == 0)) := ⟨by
            unfold findB
            rw [HN.out, hm, ← hr]
            dsimp only
            unfold cmp
            by_cases h1 : m0 < id
            · rw [if_pos h1, decide_eq_false (by omega)]; rfl
            · rw [if_neg h1]
              by_cases h2 : m0 = id
              · rw [if_pos h2, decide_eq_true h2]; rfl
              · rw [if_neg h2, decide_eq_false h2]; rfl⟩
          have HRR := Aside0.mk hr
          clear cc e ci hblk hm hr
          go_wp2_with (go_at_call 97; (with_reducible refine (cmp_member m0 m1 m2 id r m3 HRR.out _).mono ?_); rintro e w2 ⟨rfl, hb⟩; have HB2 := Aside0.mk (below_step HW.out hb); clear hb)
          go_ret2
          exact ⟨by rw [HN.out, HF.out]; rfl, HB2.out⟩
        · have d3 : decide ((i : Int) < (l.length : Int)) = false := decide_eq_false (by omega)
          have d4 : decide (i < l.length) = false := decide_eq_false ci
          have HF : Aside0 (findB l id = false) := ⟨by
            unfold findB
            rw [HN.out, List.getElem?_eq_none (by omega)]⟩
          clear cc e ci
          go_wp2
          go_ret2
          exact ⟨by rw [HN.out, HF.out]; rfl, HW.out⟩
theorem find_calls {F : Nat → Prop} {g : Nat} {s : Rg} (h : Rep w F g s) (hs : Sorted s.l) (hl : s.l.length ≤ 64) (id : Int) (n : Nat) (b : Bool) (hn : findN s.l id = n) (hb : findB s.l id = b) :
    Calls Try.prog 60 #[.pointer (some ⟨g, 0, none⟩), .int .i64 id] w fun e w' => e = .returned (.tuple #[.int .i64 (n : Int), .bool b]) ∧ Below w.heap.size w w' := by
  subst hn
  subst hb
  obtain ⟨v, h⟩ := h
  obtain ⟨A, cap, rfl, _, _⟩ := h.row.slice
  have k1 : w.cell? ⟨g, 1, none⟩ = some (.slice A s.l.length cap) := (blk_cell h.hd 1).trans rfl
  have HR := Aside0.mk h.row
  have HS := Aside0.mk hs
  have HL := Aside0.mk hl
  clear h hs hl
  go_enter Try.func60, Try.ntmps60
  go_wp2_with (go_at_call 96; (with_reducible refine (bsearch A cap HR.out HS.out HL.out id).mono ?_); rintro e w1 ⟨rfl, hb⟩; have HB := Aside0.mk hb; clear hb)
  go_ret2
  exact ⟨rfl, HB.out⟩
end
end Go.Proofs.Ytpammdblenfhgaa.Rg
