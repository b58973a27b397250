/- The document's sum of bytes, in plain lists. -/
import Derived.Test.YtgjcbpeliimhaaaRbPure
import Derived.Test.YtgjcbpeliimhaaaPRcbx2
namespace Go.Proofs.Ytgjcbpeliimhaaa.PRcb
open Go.RowKit Go.Proofs.YtgjcbpeliimhaaaW.PrintWords Go.Proofs.YtgjcbpeliimhaaaW.PrintLast Go.Proofs.YtgjcbpeliimhaaaW.PrintMore
set_option linter.unusedVariables false
set_option linter.unusedSimpArgs false
theorem ofInt64 (a : Nat) (ha : a < 256) : (BitVec.ofInt 64 (a : Int)).toNat = a := by
  rw [BitVec.ofInt_natCast, BitVec.toNat_ofNat]; exact Nat.mod_eq_of_lt (by omega)
theorem xor64_nat (a b : Nat) (ha : a < 256) (hb : b < 256) : bits .xor .i64 (a : Int) (b : Int) = ((a ^^^ b : Nat) : Int) := by
  have h : a ^^^ b < 2 ^ 8 := Nat.xor_lt_two_pow (by omega) (by omega)
  show IntKind.i64.wrap ((BitVec.ofInt 64 (a : Int) ^^^ BitVec.ofInt 64 (b : Int)).toNat : Int) = _
  rw [BitVec.toNat_xor, ofInt64 a ha, ofInt64 b hb, i64_w]
  unfold wrap64
  omega
theorem xor64 {a b : Int} (ha0 : 0 ≤ a) (ha : a < 256) (hb0 : 0 ≤ b) (hb : b < 256) : bits .xor .i64 a b = bits .xor .u8 a b := by
  obtain ⟨m, rfl⟩ := Int.eq_ofNat_of_zero_le ha0
  obtain ⟨n, rfl⟩ := Int.eq_ofNat_of_zero_le hb0
  rw [xor64_nat m n (by omega) (by omega), xor8_nat m n (by omega) (by omega)]
theorem wnat (i : Nat) (h : i < 9223372036854775807) : wrap64 ((i : Int) + 1) = ((i + 1 : Nat) : Int) := by unfold wrap64; omega
theorem rsum_l1 (l : List Int) (i : Int) (res : Int) : ∀ (j : Nat) (r : Int), j ≤ 8 → 0 ≤ r → r < 256 → Ev (fun k => dogwatchref10_Sum.l0 k l (turns j r) (wrap64 (i + 1))) res → Ev (fun k => dogwatchref10_Sum.l1 k l r i ((8 - j : Nat) : Int)) res := by
  intro j
  induction j with
  | zero =>
    intro r hj h0 h1 h
    refine Ev.step (f := fun k => dogwatchref10_Sum.l0 k l r (wrap64 (i + 1))) (fun k => ?_) h
    show dogwatchref10_Sum.l1 (k + 1) l r i ((8 - 0 : Nat) : Int) = _
    simp only [dogwatchref10_Sum.l1]
    rw [if_neg (by omega)]
  | succ j ih =>
    intro r hj h0 h1 h
    have ht := turn_byte r
    have ih2 := ih (turn r) (by omega) ht.1 ht.2 h
    refine Ev.step (f := fun k => dogwatchref10_Sum.l1 k l (turn r) i ((8 - j : Nat) : Int)) (fun k => ?_) ih2
    show dogwatchref10_Sum.l1 (k + 1) l r i ((8 - (j + 1) : Nat) : Int) = _
    have ew : wrap64 (((8 - (j + 1) : Nat) : Int) + 1) = ((8 - j : Nat) : Int) := by unfold wrap64; omega
    have ew2 : wrap64 (2 * r) = 2 * r := by unfold wrap64; omega
    simp only [dogwatchref10_Sum.l1]
    rw [if_pos (by omega), ew, ew2]
    have hd : turn r = if r ≥ 128 then bits .xor .u8 ((r * 2) % 256) 7 else (r * 2) % 256 := rfl
    by_cases c : r ≥ 128
    · rw [if_pos (by omega), hd, if_pos c]
      rw [Int.tmod_eq_emod_of_nonneg (by omega), show 2 * r = r * 2 by omega, xor64 (by omega) (by omega) (by decide) (by decide)]
    · rw [if_neg (by omega), hd, if_neg c, show 2 * r = r * 2 % 256 by omega]
theorem rsum_l0 (l : List Int) (hb : Bytes l) (hl : l.length ≤ 100000) : ∀ (d i : Nat) (r : Int), i + d = l.length → 0 ≤ r → r < 256 → Ev (fun k => dogwatchref10_Sum.l0 k l r (i : Int)) (crcFrom r (l.drop i)) := by
  intro d
  induction d with
  | zero =>
    intro i r hi h0 h1
    rw [List.drop_of_length_le (by omega)]
    refine Ev.step (f := fun _ => some (r % 256)) (fun k => ?_) ?_
    · show dogwatchref10_Sum.l0 (k + 1) l r (i : Int) = _
      simp only [dogwatchref10_Sum.l0]
      rw [if_neg (by omega)]
    · rw [show r % 256 = r by omega]; exact Ev.now _
  | succ d ih =>
    intro i r hi h0 h1
    have hx := hb l[i] (List.getElem_mem _)
    have ew : wrap64 l[i] = l[i] := by unfold wrap64; omega
    have hq := xor8 r l[i]
    have h8 := eat_byte r l[i]
    have ih2 := ih (i + 1) (eat r l[i]) (by omega) h8.1 h8.2
    rw [← wnat i (by omega)] at ih2
    have := rsum_l1 l (i : Int) _ 8 (bits .xor .u8 r l[i]) (by omega) hq.1 hq.2 ih2
    rw [List.drop_eq_getElem_cons (show i < l.length by omega)]
    refine Ev.step (f := fun k => dogwatchref10_Sum.l1 k l (bits .xor .u8 r l[i]) (i : Int) 0) (fun k => ?_) this
    show dogwatchref10_Sum.l0 (k + 1) l r (i : Int) = _
    simp only [dogwatchref10_Sum.l0]
    rw [if_pos (by omega), if_pos (by omega), rd_nth l i (by omega), ew, xor64 h0 h1 hx.1 hx.2]
theorem rsum_ev (l : List Int) (hb : Bytes l) (hl : l.length ≤ 100000) : Ev (fun k => dogwatchref10_Sum.f k l) (crc l) := by
  have := rsum_l0 l hb hl l.length 0 0 (Nat.zero_add _) (by omega) (by omega)
  rw [List.drop_zero] at this
  exact this
end Go.Proofs.Ytgjcbpeliimhaaa.PRcb
