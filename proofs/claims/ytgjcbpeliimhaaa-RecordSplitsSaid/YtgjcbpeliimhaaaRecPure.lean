/- What the records' functions come to, as plain lists of numbers. -/
import Derived.Test.YtgjcbpeliimhaaaPRecx2
import Derived.Laws.BitsLemmas
namespace Go.Proofs.Ytgjcbpeliimhaaa.PRec
open Go.RowKit Go.Proofs.YtgjcbpeliimhaaaW.PrintWords Go.Proofs.YtgjcbpeliimhaaaW.PrintLast Go.Proofs.YtgjcbpeliimhaaaW.PrintMore
set_option linter.unusedVariables false
set_option linter.unusedSimpArgs false

theorem wf8 {x : Int} (h : (Lit.int .u8 x).wf = true) : 0 ≤ x ∧ x < 256 := by
  simp [Lit.wf, IntKind.min, IntKind.max, IntKind.bits, IntKind.signed] at h
  omega
def Bytes (l : List Int) : Prop := ∀ x ∈ l, 0 ≤ x ∧ x < 256
theorem bytes_of {l : List Int} (h : ∀ x ∈ l, (Lit.int .u8 x).wf = true) : Bytes l := fun x hx => wf8 (h x hx)
theorem rd_nth (l : List Int) (i : Nat) (h : i < l.length) : rd l (i : Int) = l[i] := by
  simp [rd, List.getD_eq_getElem?_getD, h]
theorem rd_bytes {l : List Int} (hl : Bytes l) (i : Int) (h0 : 0 ≤ i) (h : i < l.length) : 0 ≤ rd l i ∧ rd l i < 256 := by
  obtain ⟨j, rfl⟩ := Int.eq_ofNat_of_zero_le h0
  rw [rd_nth l j (by omega)]
  exact hl _ (List.getElem_mem _)
theorem xor8 (a b : Int) : 0 ≤ bits .xor .u8 a b ∧ bits .xor .u8 a b < 256 := by
  unfold bits
  simp only [IntKind.wrap_u8]
  omega
theorem ofInt8 (a : Nat) (ha : a < 256) : (BitVec.ofInt 8 (a : Int)).toNat = a := by
  rw [BitVec.ofInt_natCast, BitVec.toNat_ofNat]; exact Nat.mod_eq_of_lt (by omega)
theorem xor8_nat (a b : Nat) (ha : a < 256) (hb : b < 256) : bits .xor .u8 (a : Int) (b : Int) = ((a ^^^ b : Nat) : Int) := by
  have h : a ^^^ b < 2 ^ 8 := Nat.xor_lt_two_pow (by omega) (by omega)
  show IntKind.u8.wrap ((BitVec.ofInt 8 (a : Int) ^^^ BitVec.ofInt 8 (b : Int)).toNat : Int) = _
  rw [BitVec.toNat_xor, ofInt8 a ha, ofInt8 b hb, IntKind.wrap_u8]
  omega
/-- One turn of a rest. -/
def turn (r : Int) : Int := if r ≥ 128 then bits .xor .u8 ((r * 2) % 256) 7 else (r * 2) % 256
theorem turn_byte (r : Int) : 0 ≤ turn r ∧ turn r < 256 := by
  unfold turn
  split
  · exact xor8 _ _
  · omega
def unturn (r : Nat) : Nat := if r % 2 = 1 then (r ^^^ 7) / 2 + 128 else r / 2
theorem turn_nat : ∀ r : Fin 256, unturn (turn (r.val : Int)).toNat = r.val := by decide +kernel
theorem turn_inj {a b : Int} (ha0 : 0 ≤ a) (ha : a < 256) (hb0 : 0 ≤ b) (hb : b < 256) (h : turn a = turn b) : a = b := by
  obtain ⟨m, rfl⟩ := Int.eq_ofNat_of_zero_le ha0
  obtain ⟨n, rfl⟩ := Int.eq_ofNat_of_zero_le hb0
  have h1 := turn_nat ⟨m, by omega⟩
  have h2 := turn_nat ⟨n, by omega⟩
  simp only [] at h1 h2
  rw [h] at h1
  omega
def turns : Nat → Int → Int
  | 0, r => r
  | n + 1, r => turns n (turn r)
theorem turns_byte : ∀ (n : Nat) (r : Int), 0 ≤ r → r < 256 → 0 ≤ turns n r ∧ turns n r < 256
  | 0, r, h0, h1 => ⟨h0, h1⟩
  | n + 1, r, h0, h1 => turns_byte n _ (turn_byte r).1 (turn_byte r).2
theorem turns_inj : ∀ (n : Nat) {a b : Int}, 0 ≤ a → a < 256 → 0 ≤ b → b < 256 → turns n a = turns n b → a = b
  | 0, _, _, _, _, _, _, h => h
  | n + 1, a, b, h1, h2, h3, h4, h => turn_inj h1 h2 h3 h4 (turns_inj n (turn_byte a).1 (turn_byte a).2 (turn_byte b).1 (turn_byte b).2 h)
def eat (r c : Int) : Int := turns 8 (bits .xor .u8 r c)
theorem eat_byte (r c : Int) : 0 ≤ eat r c ∧ eat r c < 256 := turns_byte 8 _ (xor8 r c).1 (xor8 r c).2
theorem xor8_inj {a b c : Int} (ha0 : 0 ≤ a) (ha : a < 256) (hb0 : 0 ≤ b) (hb : b < 256) (hc0 : 0 ≤ c) (hc : c < 256) (h : bits .xor .u8 c a = bits .xor .u8 c b) : a = b := by
  obtain ⟨m, rfl⟩ := Int.eq_ofNat_of_zero_le ha0
  obtain ⟨n, rfl⟩ := Int.eq_ofNat_of_zero_le hb0
  obtain ⟨p, rfl⟩ := Int.eq_ofNat_of_zero_le hc0
  rw [xor8_nat p m (by omega) (by omega), xor8_nat p n (by omega) (by omega)] at h
  have h2 : p ^^^ m = p ^^^ n := by omega
  have h3 : p ^^^ (p ^^^ m) = p ^^^ (p ^^^ n) := by rw [h2]
  rw [← Nat.xor_assoc, ← Nat.xor_assoc, Nat.xor_self, Nat.zero_xor, Nat.zero_xor] at h3
  rw [h3]
theorem xor8_comm {a c : Int} (ha0 : 0 ≤ a) (ha : a < 256) (hc0 : 0 ≤ c) (hc : c < 256) : bits .xor .u8 c a = bits .xor .u8 a c := by
  obtain ⟨m, rfl⟩ := Int.eq_ofNat_of_zero_le ha0
  obtain ⟨p, rfl⟩ := Int.eq_ofNat_of_zero_le hc0
  rw [xor8_nat p m (by omega) (by omega), xor8_nat m p (by omega) (by omega), Nat.xor_comm]
theorem xor8_zero {a : Int} (ha0 : 0 ≤ a) (ha : a < 256) : bits .xor .u8 a 0 = a := by
  obtain ⟨m, rfl⟩ := Int.eq_ofNat_of_zero_le ha0
  have := xor8_nat m 0 (by omega) (by omega)
  simpa using this
/-- The sum of bytes, from a rest on. -/
def crcFrom (r : Int) (l : List Int) : Int := l.foldl eat r
def crc (l : List Int) : Int := crcFrom 0 l
theorem crcFrom_byte : ∀ (l : List Int) (r : Int), 0 ≤ r → r < 256 → 0 ≤ crcFrom r l ∧ crcFrom r l < 256
  | [], r, h0, h1 => ⟨h0, h1⟩
  | c :: l, r, _, _ => crcFrom_byte l _ (eat_byte r c).1 (eat_byte r c).2
theorem crc_byte (l : List Int) : 0 ≤ crc l ∧ crc l < 256 := crcFrom_byte l 0 (by omega) (by omega)
theorem crcFrom_inj : ∀ (l : List Int) {a b : Int}, Bytes l → 0 ≤ a → a < 256 → 0 ≤ b → b < 256 → crcFrom a l = crcFrom b l → a = b
  | [], _, _, _, _, _, _, _, h => h
  | c :: l, a, b, hl, h1, h2, h3, h4, h => by
    have hc := hl c (by simp)
    have h5 : eat a c = eat b c := crcFrom_inj l (fun x hx => hl x (by simp [hx])) (eat_byte a c).1 (eat_byte a c).2 (eat_byte b c).1 (eat_byte b c).2 h
    have h6 := turns_inj 8 (xor8 a c).1 (xor8 a c).2 (xor8 b c).1 (xor8 b c).2 h5
    rw [xor8_comm hc.1 hc.2 h1 h2, xor8_comm hc.1 hc.2 h3 h4] at h6
    exact xor8_inj h1 h2 h3 h4 hc.1 hc.2 h6
/-- Another byte somewhere makes another sum. -/
theorem crc_other (l : List Int) (hl : Bytes l) (i : Nat) (hi : i < l.length) (c : Int) (hc0 : 0 ≤ c) (hc : c < 256) (hne : c ≠ l[i]) : crc (l.set i c) ≠ crc l := by
  have e1 : l = l.take i ++ l[i] :: l.drop (i + 1) := by rw [← List.drop_eq_getElem_cons hi, List.take_append_drop]
  have e2 : l.set i c = l.take i ++ c :: l.drop (i + 1) := by
    rw [List.set_eq_take_append_cons_drop, if_pos hi]
  intro h
  rw [e2] at h
  conv at h => rhs; rw [e1]
  simp only [crc, crcFrom, List.foldl_append, List.foldl_cons] at h
  have hr := crcFrom_byte (l.take i) 0 (by omega) (by omega)
  have hli := hl l[i] (List.getElem_mem _)
  have h5 := crcFrom_inj (l.drop (i + 1)) (fun x hx => hl x (List.mem_of_mem_drop hx)) (eat_byte _ _).1 (eat_byte _ _).2 (eat_byte _ _).1 (eat_byte _ _).2 h
  have h6 := turns_inj 8 (xor8 _ _).1 (xor8 _ _).2 (xor8 _ _).1 (xor8 _ _).2 h5
  exact hne (xor8_inj hc0 hc hli.1 hli.2 hr.1 hr.2 h6)

theorem sum_l1 (l : List Int) (i : Int) (j : Nat) : ∀ (k : Nat) (r : Int), j ≤ 8 → 0 ≤ r → r < 256 →
    record_Sum.l1 (k + j + 1) r l (l.length : Int) i ((8 - j : Nat) : Int) = record_Sum.l0 k (turns j r) l (l.length : Int) (wrap64 (i + 1)) := by
  induction j with
  | zero =>
    intro k r _ h0 h1
    simp only [Nat.add_zero, record_Sum.l1, turns]
    rw [if_neg (by omega)]
  | succ j ih =>
    intro k r hj h0 h1
    rw [show k + (j + 1) + 1 = (k + j + 1) + 1 by omega]
    simp only [record_Sum.l1, turns]
    rw [if_pos (by omega)]
    have ew : wrap64 (((8 - (j + 1) : Nat) : Int) + 1) = ((8 - j : Nat) : Int) := by unfold wrap64; omega
    rw [ew]
    have ht : turn r = if r ≥ 128 then bits .xor .u8 ((r * 2) % 256) 7 else (r * 2) % 256 := rfl
    by_cases h : r ≥ 128
    · rw [if_pos h]
      rw [if_pos h] at ht
      rw [← ht]
      exact ih k _ (by omega) (turn_byte r).1 (turn_byte r).2
    · rw [if_neg h]
      rw [if_neg h] at ht
      rw [← ht]
      exact ih k _ (by omega) (turn_byte r).1 (turn_byte r).2
theorem sum_l0 (l : List Int) (hl : l.length ≤ 140737488355328) (d : Nat) : ∀ (k i : Nat) (r : Int), l.length = i + d → 10 * d < k → 0 ≤ r → r < 256 →
    record_Sum.l0 k r l (l.length : Int) (i : Int) = some (crcFrom r (l.drop i)) := by
  induction d with
  | zero =>
    intro k i r hd hk h0 h1
    obtain ⟨k, rfl⟩ : ∃ m, k = m + 1 := ⟨k - 1, by omega⟩
    simp only [record_Sum.l0]
    rw [if_neg (by omega), List.drop_of_length_le (by omega)]
    rfl
  | succ d ih =>
    intro k i r hd hk h0 h1
    obtain ⟨k, rfl⟩ : ∃ m, k = m + 8 + 1 + 1 := ⟨k - 10, by omega⟩
    simp only [record_Sum.l0]
    rw [if_pos (by omega), if_pos (by omega), if_pos (by omega), rd_nth l i (by omega)]
    have hx := xor8 r l[i]
    have h8 := sum_l1 l (i : Int) 8 k (bits .xor .u8 r l[i]) (by omega) hx.1 hx.2
    rw [show ((8 - 8 : Nat) : Int) = 0 from rfl] at h8
    rw [show turns 8 (bits .xor .u8 r l[i]) = eat r l[i] from rfl] at h8
    rw [h8, show wrap64 ((i : Int) + 1) = ((i + 1 : Nat) : Int) by unfold wrap64; omega, ih k (i + 1) _ (by omega) (by omega) (eat_byte _ _).1 (eat_byte _ _).2]
    rw [List.drop_eq_getElem_cons (show i < l.length by omega)]
    rfl
theorem sum (l : List Int) (hl : l.length ≤ 140737488355328) (k : Nat) (hk : 10 * l.length < k) : record_Sum.f k l = some (crc l) := by
  unfold record_Sum.f
  have := sum_l0 l hl l.length k 0 0 (by omega) hk (by omega) (by omega)
  rw [List.drop_zero] at this
  exact this

/-- The first record of bytes that are there: how long, its body, its error. -/
def firstOf (l : List Int) : Int × List Int × Int :=
  if rd l 0 = 0 ∨ rd l 0 > 120 then (1, [], 3) else if (l.length : Int) < rd l 0 + 2 then ((l.length : Int), [], 3)
  else if crc (l.take (rd l 0 + 1).toNat) = rd l (rd l 0 + 1) then (rd l 0 + 2, (l.take (rd l 0 + 1).toNat).drop 1, 0) else (rd l 0 + 2, [], 3)
theorem first (l : List Int) (hb : Bytes l) (hn : 0 < l.length) (hl : l.length ≤ 140737488351232) (k : Nat) (hk : 1300 < k) :
    record_first.f k l = some (0, (firstOf l).1, (firstOf l).2.1, (firstOf l).2.2) := by
  unfold record_first.f
  have hr := rd_bytes hb 0 (by omega) (by omega)
  have ew : wrap64 (rd l 0) = rd l 0 := by unfold wrap64; omega
  obtain ⟨k, rfl⟩ : ∃ m, k = m + 1 := ⟨k - 1, by omega⟩
  rw [if_pos (by omega), ew]
  unfold firstOf
  by_cases h0 : rd l 0 = 0
  · rw [if_pos h0, if_pos (Or.inl h0)]
    simp [record_first.j0]
  · rw [if_neg h0]
    by_cases h1 : rd l 0 > 120
    · rw [decide_eq_true h1, if_pos (Or.inr h1)]
      simp [record_first.j0]
    · rw [decide_eq_false h1, if_neg (by omega)]
      simp only [record_first.j0]
      have ew2 : wrap64 (rd l 0 + 2) = rd l 0 + 2 := by unfold wrap64; omega
      have ew1 : wrap64 (rd l 0 + 1) = rd l 0 + 1 := by unfold wrap64; omega
      rw [if_neg (by simp), ew2, ew1]
      by_cases h2 : (l.length : Int) < rd l 0 + 2
      · rw [if_pos h2, if_pos h2]
      · have hlt : (l.take (rd l 0 + 1).toNat).length ≤ 121 := by rw [List.length_take]; omega
        rw [if_neg h2, if_neg h2, if_pos (by omega), if_pos (by omega), sum _ (by omega) k (by omega)]
        simp only [Option.bind_some]
        rw [if_pos (by omega)]
        by_cases h3 : crc (l.take (rd l 0 + 1).toNat) = rd l (rd l 0 + 1)
        · rw [if_pos h3, if_pos h3, if_pos (by omega)]
          unfold slices_Clone_byte_byte.f
          rw [if_pos (by rw [List.length_drop]; omega)]
          rfl
        · rw [if_neg h3, if_neg h3]
theorem firstOf_len (l : List Int) (hb : Bytes l) (hn : 0 < l.length) : 1 ≤ (firstOf l).1 ∧ (firstOf l).1 ≤ l.length := by
  have hr := rd_bytes hb 0 (by omega) (by omega)
  unfold firstOf
  split
  · simp; omega
  · split
    · simp; omega
    · split <;> simp <;> omega

/-- All records, from a place on (d: more than there are). -/
def recs : Nat → List Int → Int → List S47
  | 0, _, _ => []
  | d + 1, l, at_ => if at_ < (l.length : Int) then ⟨at_, (firstOf (l.drop at_.toNat)).1, (firstOf (l.drop at_.toNat)).2.1, (firstOf (l.drop at_.toNat)).2.2⟩ :: recs d l (at_ + (firstOf (l.drop at_.toNat)).1) else []
theorem bytes_drop {l : List Int} (h : Bytes l) (n : Nat) : Bytes (l.drop n) := fun x hx => h x (List.mem_of_mem_drop hx)
theorem bytes_take {l : List Int} (h : Bytes l) (n : Nat) : Bytes (l.take n) := fun x hx => h x (List.mem_of_mem_take hx)
theorem split_l0 (l : List Int) (hb : Bytes l) (hl : l.length ≤ 100000) (d : Nat) : ∀ (k : Nat) (acc : List S47) (at_ : Int), 0 ≤ at_ → at_ ≤ l.length → (l.length : Int) ≤ at_ + d → acc.length + d ≤ 100000 → 1300 + d + 1 < k →
    record_Split.l0 k l acc at_ = some (acc ++ recs d l at_) := by
  induction d with
  | zero =>
    intro k acc at_ h0 h1 hd ha hk
    obtain ⟨k, rfl⟩ : ∃ m, k = m + 1 := ⟨k - 1, by omega⟩
    simp only [record_Split.l0, recs]
    rw [if_neg (by omega), List.append_nil]
  | succ d ih =>
    intro k acc at_ h0 h1 hd ha hk
    obtain ⟨k, rfl⟩ : ∃ m, k = m + 1 := ⟨k - 1, by omega⟩
    simp only [record_Split.l0, recs]
    by_cases h : at_ < (l.length : Int)
    · have hdl : (l.drop at_.toNat).length = l.length - at_.toNat := List.length_drop
      have hf := firstOf_len (l.drop at_.toNat) (bytes_drop hb _) (by omega)
      rw [if_pos h, if_pos h0, if_pos (by omega), first _ (bytes_drop hb _) (by omega) (by omega) k (by omega)]
      simp only [Option.bind_some]
      have ew : wrap64 (at_ + (firstOf (l.drop at_.toNat)).1) = at_ + (firstOf (l.drop at_.toNat)).1 := by unfold wrap64; omega
      rw [if_pos (by omega), ew, ih k _ _ (by omega) (by omega) (by omega) (by simp; omega) (by omega), if_pos h]
      simp
    · rw [if_neg h, if_neg h, List.append_nil]
theorem split (l : List Int) (hb : Bytes l) (hl : l.length ≤ 100000) (k : Nat) (hk : 1302 + l.length < k) : record_Split.f k l = some (recs l.length l 0) := by
  unfold record_Split.f
  have := split_l0 l hb hl l.length k [] 0 (by omega) (by omega) (by omega) (by simpa using hl) (by omega)
  simpa using this
theorem seal_of (l : List Int) (h1 : 1 ≤ l.length) (h2 : l.length ≤ 120) (k : Nat) (hk : 1300 < k) :
    record_Seal.f k l = some ((l.length : Int) :: l ++ [crc ((l.length : Int) :: l)], 0) := by
  unfold record_Seal.f
  rw [if_neg (by omega), if_neg (by omega)]
  simp only [Option.bind_some, List.length_cons, List.length_nil]
  rw [if_pos (by omega)]
  have e : ((l.length : Int)) % 256 = (l.length : Int) := by omega
  rw [e]
  simp only [List.cons_append, List.nil_append]
  rw [sum _ (by simp; omega) k (by simp; omega)]
  simp only [Option.bind_some, List.length_cons]
  rw [if_pos (by omega)]
end Go.Proofs.Ytgjcbpeliimhaaa.PRec
