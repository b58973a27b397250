/- ring.Ring, walked by hand: who is least. -/
import Derived.Test.YtpammdblenfhgaaRg0
import Derived.Test.YtpammdblenfhgaaFqMore
namespace Go.Proofs.Ytpammdblenfhgaa.Rg
open Go.RowKit Go.Proofs.YtpammdblenfhgaaW.PrintWords Go.Proofs.YtpammdblenfhgaaW.PrintLast Go.Proofs.YtpammdblenfhgaaW.PrintMore Pt PRg
set_option linter.unusedVariables false
set_option linter.unusedSimpArgs false
/-- A member that can be compared. -/
def MOk (m : Mb) : Prop := 1 ≤ m.f1 ∧ m.f1 ≤ 1000 ∧ 0 ≤ m.f2 ∧ m.f2 ≤ 9007199254740992
theorem compare_call (a b c d : Int) (ha : 0 ≤ a ∧ a ≤ 9007199254740992) (hb : 1 ≤ b ∧ b ≤ 1000) (hc : 0 ≤ c ∧ c ≤ 9007199254740992) (hd : 1 ≤ d ∧ d ≤ 1000) (r : Int) (hr : cmp (a * d) (c * b) = r) (w : World) :
    Calls Try.prog 84 #[.int .u64 a, .int .u64 b, .int .u64 c, .int .u64 d] w fun e w' => e = .returned (.tuple #[.int .i64 r, .int .i64 0]) ∧ ∃ n, w' = w.drewN n := by
  have h := compare 0 a b c d (by omega) (by omega) (by omega) (by omega) (by omega) (by omega) (by omega) (by omega)
  rw [if_neg (by omega), hr] at h
  exact (fixq_Compare.calls 2 a b c d r 0 w h).mono fun e w' q => ⟨q.1, q.2.out⟩
def zM : Mb := ⟨0, 0, 0, false⟩
/-- Is a member's pass less than another's? -/
def less (x y : Mb) : Bool := decide (x.f2 * y.f1 < y.f2 * x.f1)
/-- Who is least of the first n. -/
def leastN (l : List Mb) : Nat → Nat × Bool
  | 0 => (0, false)
  | n + 1 => if (l.getD n zM).f3 = true then (if (leastN l n).2 = false ∨ less (l.getD n zM) (l.getD (leastN l n).1 zM) = true then (n, true) else leastN l n) else leastN l n
theorem leastN_lt (l : List Mb) (n : Nat) (h : n ≤ l.length) (hl : 0 < l.length) : (leastN l n).1 < l.length := by
  induction n with
  | zero => exact hl
  | succ n ih =>
    rw [leastN]
    split
    · split
      · show n < l.length
        omega
      · exact ih (by omega)
    · exact ih (by omega)
theorem cmp_less (x y : Int) : decide (cmp x y < 0) = decide (x < y) := by
  unfold cmp
  by_cases h : x < y
  · rw [if_pos h, decide_eq_true h]; rfl
  · rw [if_neg h, decide_eq_false h]
    split <;> rfl
section
variable {w : World} {F : Nat → Prop} {g : Nat} {s : Rg}
set_option maxHeartbeats 4000000 in
set_option maxRecDepth 100000 in
theorem least_calls (h : Rep w F g s) (hok : ∀ m ∈ s.l, MOk m) (b : Nat) (ok : Bool) (hb : leastN s.l s.l.length = (b, ok)) :
    Calls Try.prog 51 #[.pointer (some ⟨g, 0, none⟩)] w fun e w' => e = .returned (.tuple #[.int .i64 (b : Int), .bool ok]) ∧ Below w.heap.size w w' := by
  obtain ⟨v, h⟩ := h
  obtain ⟨A, cap, rfl, hcap, hmx⟩ := h.row.slice
  have kw : w.cell? ⟨g, 1, none⟩ = some (.slice A s.l.length cap) := (blk_cell h.hd 1).trans rfl
  have H := Aside0.mk h
  have HO := Aside0.mk hok
  have HB := Aside0.mk hb
  have HL := Aside0.mk (show s.l.length ≤ 9223372036854775807 by unfold maxLen at hmx; omega)
  clear h hok hb hcap hmx
  go_enter Try.func51, Try.ntmps51
  go_wp2
  go_loopg [4, 5, 15] (s.l.length + 1) (fun kq v4 v5 v15 w' => ∃ (i b : Nat) (ok : Bool), v4 = .int .i64 (b : Int) ∧ v5 = .bool ok ∧ v15 = .int .i64 (i : Int) ∧ Aside0 (i + kq = s.l.length + 1) ∧ Aside0 (i ≤ s.l.length) ∧ Aside0 (leastN s.l i = (b, ok)) ∧ Aside0 (Below w.heap.size w w'))
  case atStart => exact ⟨0, 0, false, rfl, rfl, rfl, ⟨by omega⟩, ⟨by omega⟩, ⟨rfl⟩, ⟨Below.refl _ _⟩⟩
  case round =>
    obtain ⟨i, b, ok, rfl, rfl, rfl, HK, HI, HN, HW⟩ := hrel
    cases gk with
    | zero => exact absurd HK.out (by have := HI.out; omega)
    | succ k1 =>
      by_cases cc : i < s.l.length
      · have d1 : decide ((i : Int) < (s.l.length : Int)) = true := decide_eq_true (by omega)
        have d2 : decide (i < s.l.length) = true := decide_eq_true cc
        have p0 := eq_true (show (0 : Int) ≤ (i : Int) by omega)
        have p1 := eq_true (show (i : Int) < (s.l.length : Int) by omega)
        have hbl : b < s.l.length := by have := leastN_lt s.l i (by omega) (by omega); rw [HN.out] at this; exact this
        have p2 := eq_true (show (0 : Int) ≤ (b : Int) by omega)
        have p3 := eq_true (show (b : Int) < (s.l.length : Int) by omega)
        have hR := H.out.below HW.out
        obtain ⟨a, cap', sp, ev, _, hblk, _, _⟩ := hR.row.some_ (by omega)
        cases ev
        obtain ⟨m, hm⟩ : ∃ m, s.l[i]? = some m := ⟨_, List.getElem?_eq_getElem cc⟩
        obtain ⟨mb, hmb⟩ : ∃ m, s.l[b]? = some m := ⟨_, List.getElem?_eq_getElem hbl⟩
        obtain ⟨c0, c1, c2, c3⟩ := mb_cells hblk i m hm
        obtain ⟨e0, e1, e2, e3⟩ := mb_cells hblk b mb hmb
        have k7 : wr.cell? ⟨g, 1, none⟩ = some (.slice (some ⟨a, 0, none⟩) s.l.length cap) := (blk_cell hR.hd 1).trans rfl
        have K0 : ∀ o, (wr.alloc o).cell? ⟨g, 1, none⟩ = some (.slice (some ⟨a, 0, none⟩) s.l.length cap) := fun o => pw_cell_below (below_alloc (Below.refl _ _) o) k7
        have K1 : ∀ o, (wr.alloc o).cell? ⟨a, b * 4 + 1, none⟩ = some (.int .u64 mb.f1) := fun o => pw_cell_below (below_alloc (Below.refl _ _) o) e1
        have K2 : ∀ o, (wr.alloc o).cell? ⟨a, b * 4 + 2, none⟩ = some (.int .u64 mb.f2) := fun o => pw_cell_below (below_alloc (Below.refl _ _) o) e2
        have HM := Aside0.mk (HO.out m (List.mem_of_getElem? hm))
        have HMB := Aside0.mk (HO.out mb (List.mem_of_getElem? hmb))
        have HST : Aside0 (leastN s.l (i + 1) = if m.f3 = true then (if ok = false ∨ less m mb = true then (i, true) else (b, ok)) else (b, ok)) := ⟨by
          rw [leastN, HN.out]
          dsimp only
          rw [List.getD_eq_getElem?_getD, hm, List.getD_eq_getElem?_getD, hmb]
          rfl⟩
        have HC := Aside0.mk cc
        have HLS : Aside0 (less m mb = decide (cmp (m.f2 * mb.f1) (mb.f2 * m.f1) < 0)) := ⟨by rw [cmp_less]; rfl⟩
        clear hR hblk hm hmb cc hbl e0 e1 e2 e3
        obtain ⟨m0, m1, m2, m3⟩ := m
        obtain ⟨n0, n1, n2, n3⟩ := mb
        unfold MOk at HM HMB
        dsimp only at HM HMB HST HLS c0 c1 c2 c3 K1 K2
        cases m3 with
        | false =>
          rw [if_neg (by decide)] at HST
          go_wp2
          go_roundg k1
          case measure => omega
          case rel => exact ⟨i + 1, b, ok, rfl, rfl, (by congr 1; unfold wrap64; have := HC.out; have := HL.out; omega), ⟨by have := HK.out; omega⟩, ⟨by have := HC.out; omega⟩, HST, ⟨below_alloc HW.out _⟩⟩
        | true =>
          rw [if_pos rfl] at HST
          obtain ⟨r, hr⟩ : ∃ r, cmp (m2 * n1) (n2 * m1) = r := ⟨_, rfl⟩
          have HCM := Aside0.mk (fun W => compare_call m2 m1 n2 n1 ⟨HM.out.2.2.1, HM.out.2.2.2⟩ ⟨HM.out.1, HM.out.2.1⟩ ⟨HMB.out.2.2.1, HMB.out.2.2.2⟩ ⟨HMB.out.1, HMB.out.2.1⟩ r hr W)
          rw [hr] at HLS
          clear hr
          cases ok with
          | false =>
            go_wp2
            go_quiet ((go_at_call 84; exact Calls.quiet_of (HCM.out _)))
            go_wp2
            go_roundg k1
            case measure => omega
            case rel => exact ⟨i + 1, i, true, rfl, rfl, (by congr 1; unfold wrap64; have := HC.out; have := HL.out; omega), ⟨by have := HK.out; omega⟩, ⟨by have := HC.out; omega⟩, ⟨HST.out.trans (if_pos (by simp))⟩, ⟨pw_below_drewN (below_alloc HW.out _) _⟩⟩
          | true =>
            by_cases hr0 : r < 0
            · have d5 : decide (r < 0) = true := decide_eq_true hr0
              have HR0 := Aside0.mk (HLS.out.trans d5)
              clear hr0
              go_wp2
              go_quiet ((go_at_call 84; exact Calls.quiet_of (HCM.out _)))
              go_wp2
              go_roundg k1
              case measure => omega
              case rel => exact ⟨i + 1, i, true, rfl, rfl, (by congr 1; unfold wrap64; have := HC.out; have := HL.out; omega), ⟨by have := HK.out; omega⟩, ⟨by have := HC.out; omega⟩, ⟨HST.out.trans (if_pos (.inr HR0.out))⟩, ⟨pw_below_drewN (below_alloc HW.out _) _⟩⟩
            · have d5 : decide (r < 0) = false := decide_eq_false hr0
              have HR0 := Aside0.mk (HLS.out.trans d5)
              clear hr0
              go_wp2
              go_quiet ((go_at_call 84; exact Calls.quiet_of (HCM.out _)))
              go_wp2
              go_roundg k1
              case measure => omega
              case rel => exact ⟨i + 1, b, true, rfl, rfl, (by congr 1; unfold wrap64; have := HC.out; have := HL.out; omega), ⟨by have := HK.out; omega⟩, ⟨by have := HC.out; omega⟩, ⟨HST.out.trans (if_neg (fun q => q.elim (fun q => by cases q) (fun q => by rw [HR0.out] at q; cases q)))⟩, ⟨pw_below_drewN (below_alloc HW.out _) _⟩⟩
      · have d1 : decide ((i : Int) < (s.l.length : Int)) = false := decide_eq_false (by omega)
        have d2 : decide (i < s.l.length) = false := decide_eq_false cc
        have e : i = s.l.length := by have := HI.out; omega
        have HE : Aside0 (leastN s.l s.l.length = (b, ok)) := ⟨by rw [← e]; exact HN.out⟩
        clear cc e
        go_wp2
        go_ret2
        rw [HB.out] at HE
        cases HE.out
        exact ⟨rfl, HW.out⟩
end
end Go.Proofs.Ytpammdblenfhgaa.Rg
