/- The document's records, and how many are right; in plain lists. -/
import Derived.Test.YtgjcbpeliimhaaaRecPure
import Derived.Test.YtgjcbpeliimhaaaPRecx4
namespace Go.Proofs.Ytgjcbpeliimhaaa.PRec
open Go.RowKit Go.Proofs.YtgjcbpeliimhaaaW.PrintWords Go.Proofs.YtgjcbpeliimhaaaW.PrintLast Go.Proofs.YtgjcbpeliimhaaaW.PrintMore
set_option linter.unusedVariables false
set_option linter.unusedSimpArgs false
theorem ofInt64 (a : Nat) (ha : a < 256) : (BitVec.ofInt 64 (a : Int)).toNat = a := by
  rw [BitVec.ofInt_natCast, BitVec.toNat_ofNat]; exact Nat.mod_eq_of_lt (by omega)
theorem xor64_nat (a b : Nat) (ha : a < 256) (hb : b < 256) : bits .xor .i64 (a : Int) (b : Int) = ((a ^^^ b : Nat) : Int) := by
  have h : a ^^^ b < 2 ^ 8 := Nat.xor_lt_two_pow (by omega) (by omega)
  show IntKind.i64.wrap ((BitVec.ofInt 64 (a : Int) ^^^ BitVec.ofInt 64 (b : Int)).toNat : Int) = _
  rw [BitVec.toNat_xor, ofInt64 a ha, ofInt64 b hb, i64_w]
  unfold wrap64
  omega
theorem xor64 {a b : Int} (ha0 : 0 ≤ a) (ha : a < 256) (hb0 : 0 ≤ b) (hb : b < 256) : bits .xor .i64 a b = bits .xor .u8 a b := by
  obtain ⟨m, rfl⟩ := Int.eq_ofNat_of_zero_le ha0
  obtain ⟨n, rfl⟩ := Int.eq_ofNat_of_zero_le hb0
  rw [xor64_nat m n (by omega) (by omega), xor8_nat m n (by omega) (by omega)]
theorem wnat (i : Nat) (h : i < 9223372036854775807) : wrap64 ((i : Int) + 1) = ((i + 1 : Nat) : Int) := by unfold wrap64; omega
theorem rsum_l1 (l : List Int) (i : Int) (res : Int) : ∀ (j : Nat) (r : Int), j ≤ 8 → 0 ≤ r → r < 256 → Ev (fun k => dogwatchref10_Sum.l0 k l (turns j r) (wrap64 (i + 1))) res → Ev (fun k => dogwatchref10_Sum.l1 k l r i ((8 - j : Nat) : Int)) res := by
  intro j
  induction j with
  | zero =>
    intro r hj h0 h1 h
    refine Ev.step (f := fun k => dogwatchref10_Sum.l0 k l r (wrap64 (i + 1))) (fun k => ?_) h
    show dogwatchref10_Sum.l1 (k + 1) l r i ((8 - 0 : Nat) : Int) = _
    simp only [dogwatchref10_Sum.l1]
    rw [if_neg (by omega)]
  | succ j ih =>
    intro r hj h0 h1 h
    have ht := turn_byte r
    have ih2 := ih (turn r) (by omega) ht.1 ht.2 h
    refine Ev.step (f := fun k => dogwatchref10_Sum.l1 k l (turn r) i ((8 - j : Nat) : Int)) (fun k => ?_) ih2
    show dogwatchref10_Sum.l1 (k + 1) l r i ((8 - (j + 1) : Nat) : Int) = _
    have ew : wrap64 (((8 - (j + 1) : Nat) : Int) + 1) = ((8 - j : Nat) : Int) := by unfold wrap64; omega
    have ew2 : wrap64 (2 * r) = 2 * r := by unfold wrap64; omega
    simp only [dogwatchref10_Sum.l1]
    rw [if_pos (by omega), ew, ew2]
    have hd : turn r = if r ≥ 128 then bits .xor .u8 ((r * 2) % 256) 7 else (r * 2) % 256 := rfl
    by_cases c : r ≥ 128
    · rw [if_pos (by omega), hd, if_pos c]
      rw [Int.tmod_eq_emod_of_nonneg (by omega), show 2 * r = r * 2 by omega, xor64 (by omega) (by omega) (by decide) (by decide)]
    · rw [if_neg (by omega), hd, if_neg c, show 2 * r = r * 2 % 256 by omega]
theorem rsum_l0 (l : List Int) (hb : Bytes l) (hl : l.length ≤ 100000) : ∀ (d i : Nat) (r : Int), i + d = l.length → 0 ≤ r → r < 256 → Ev (fun k => dogwatchref10_Sum.l0 k l r (i : Int)) (crcFrom r (l.drop i)) := by
  intro d
  induction d with
  | zero =>
    intro i r hi h0 h1
    rw [List.drop_of_length_le (by omega)]
    refine Ev.step (f := fun _ => some (r % 256)) (fun k => ?_) ?_
    · show dogwatchref10_Sum.l0 (k + 1) l r (i : Int) = _
      simp only [dogwatchref10_Sum.l0]
      rw [if_neg (by omega)]
    · rw [show r % 256 = r by omega]; exact Ev.now _
  | succ d ih =>
    intro i r hi h0 h1
    have hx := hb l[i] (List.getElem_mem _)
    have ew : wrap64 l[i] = l[i] := by unfold wrap64; omega
    have hq := xor8 r l[i]
    have h8 := eat_byte r l[i]
    have ih2 := ih (i + 1) (eat r l[i]) (by omega) h8.1 h8.2
    rw [← wnat i (by omega)] at ih2
    have := rsum_l1 l (i : Int) _ 8 (bits .xor .u8 r l[i]) (by omega) hq.1 hq.2 ih2
    rw [List.drop_eq_getElem_cons (show i < l.length by omega)]
    refine Ev.step (f := fun k => dogwatchref10_Sum.l1 k l (bits .xor .u8 r l[i]) (i : Int) 0) (fun k => ?_) this
    show dogwatchref10_Sum.l0 (k + 1) l r (i : Int) = _
    simp only [dogwatchref10_Sum.l0]
    rw [if_pos (by omega), if_pos (by omega), rd_nth l i (by omega), ew, xor64 h0 h1 hx.1 hx.2]
theorem rsum_ev (l : List Int) (hb : Bytes l) (hl : l.length ≤ 100000) : Ev (fun k => dogwatchref10_Sum.f k l) (crc l) := by
  have := rsum_l0 l hb hl l.length 0 0 (Nat.zero_add _) (by omega) (by omega)
  rw [List.drop_zero] at this
  exact this
def conv (r : S47) : S49 := ⟨r.f0, r.f1, r.f2, r.f3 == 0⟩
theorem cut_len (l : List Int) (a b : Nat) : (l.take b).drop a = (l.drop a).take (b - a) := by rw [List.drop_take]
theorem rsplit_l0 (l : List Int) (hb : Bytes l) (hl : l.length ≤ 3000) (d : Nat) : ∀ (acc : List S49) (at_ : Nat), at_ ≤ l.length → l.length ≤ at_ + d → acc.length + d ≤ 100000 →
    Ev (fun k => dogwatchref10_Split.l0 k l acc (at_ : Int)) (acc ++ (recs d l (at_ : Int)).map conv) := by
  induction d with
  | zero =>
    intro acc at_ h1 hd ha
    refine Ev.step (f := fun _ => some acc) (fun k => ?_) ?_
    · show dogwatchref10_Split.l0 (k + 1) l acc (at_ : Int) = _
      simp only [dogwatchref10_Split.l0]
      rw [if_neg (by omega)]
    · rw [recs, List.map_nil, List.append_nil]; exact Ev.now _
  | succ d ih =>
    intro acc at_ h1 hd ha
    by_cases h : at_ < l.length
    · have hdl : (l.drop at_).length = l.length - at_ := List.length_drop
      have hf := firstOf_len (l.drop at_) (bytes_drop hb _) (by omega)
      have hn := hb l[at_] (List.getElem_mem _)
      have er : rd l (at_ : Int) = l[at_] := rd_nth l at_ h
      have er0 : rd (l.drop at_) 0 = l[at_] := by
        have := rd_nth (l.drop at_) 0 (by omega)
        rw [show ((0 : Nat) : Int) = 0 from rfl] at this
        rw [this, List.getElem_drop]
        rfl
      generalize hnn : l[at_] = n at *
      have EWN : Aside0 (wrap64 n = n) := ⟨by unfold wrap64; omega⟩
      have hrec : (recs (d + 1) l (at_ : Int)).map conv = (⟨(at_ : Int), (firstOf (l.drop at_)).1, (firstOf (l.drop at_)).2.1, (firstOf (l.drop at_)).2.2 == 0⟩ : S49) :: (recs d l ((at_ : Int) + (firstOf (l.drop at_)).1)).map conv := by
        rw [recs, if_pos (by omega), Int.toNat_natCast]
        rfl
      rw [hrec]
      have go : ∀ (ln : Int) (bd : List Int) (ri : Bool), firstOf (l.drop at_) = (ln, bd, if ri = true then 0 else 3) → Ev (fun k => dogwatchref10_Split.l0 k l (acc ++ [(⟨(at_ : Int), ln, bd, ri⟩ : S49)]) (wrap64 ((at_ : Int) + ln))) (acc ++ (⟨(at_ : Int), (firstOf (l.drop at_)).1, (firstOf (l.drop at_)).2.1, (firstOf (l.drop at_)).2.2 == 0⟩ : S49) :: (recs d l ((at_ : Int) + (firstOf (l.drop at_)).1)).map conv) := by
        intro ln bd ri e
        rw [e] at hf ⊢
        dsimp only at hf ⊢
        obtain ⟨m, rfl⟩ := Int.eq_ofNat_of_zero_le (show 0 ≤ ln by omega)
        have := ih (acc ++ [(⟨(at_ : Int), (m : Int), bd, ri⟩ : S49)]) (at_ + m) (by omega) (by omega) (by rw [List.length_append]; simp only [List.length_singleton]; omega)
        have e5 : ((at_ : Int) + (m : Int)) = ((at_ + m : Nat) : Int) := by omega
        have e2 : wrap64 ((at_ : Int) + (m : Int)) = ((at_ + m : Nat) : Int) := by unfold wrap64; omega
        rw [e2]
        rw [List.append_assoc, List.singleton_append] at this
        have e3 : ((if ri = true then (0 : Int) else 3) == 0) = ri := by cases ri <;> rfl
        rw [e3, e5]
        exact this
      have bad : (n = 0 ∨ n > 120) → Ev (fun k => dogwatchref10_Split.j1 k l acc (at_ : Int) n false (at_ : Int) 1 false) (acc ++ (⟨(at_ : Int), (firstOf (l.drop at_)).1, (firstOf (l.drop at_)).2.1, (firstOf (l.drop at_)).2.2 == 0⟩ : S49) :: (recs d l ((at_ : Int) + (firstOf (l.drop at_)).1)).map conv) := by
        intro hbad
        refine Ev.step (f := fun k => dogwatchref10_Split.l0 k l (acc ++ [(⟨(at_ : Int), 1, ([] : List Int), false⟩ : S49)]) (wrap64 ((at_ : Int) + 1))) (fun k => ?_) (go 1 [] false (by unfold firstOf; rw [er0, if_pos hbad]; rfl))
        show dogwatchref10_Split.j1 (k + 1) l acc (at_ : Int) n false (at_ : Int) 1 false = _
        simp only [dogwatchref10_Split.j1]
        rw [if_neg (by decide), if_neg (by decide), if_pos (by omega)]
      have start : ∀ k, dogwatchref10_Split.l0 (k + 1) l acc (at_ : Int) = if n ≥ 1 then dogwatchref10_Split.j1 k l acc (at_ : Int) n (decide (n ≤ 120)) (at_ : Int) 1 false else dogwatchref10_Split.j1 k l acc (at_ : Int) n false (at_ : Int) 1 false := fun k => by
        simp only [dogwatchref10_Split.l0]
        rw [if_pos (by omega), if_pos (by omega), er, EWN.out]
      refine Ev.step (f := fun k => _) start ?_
      by_cases c1 : n ≥ 1
      · refine Ev.congr (f := fun k => _) (fun k => if_pos c1) ?_
        by_cases c2 : n ≤ 120
        · rw [decide_eq_true c2]
          have W1 : Aside0 (wrap64 ((l.length : Int) - (at_ : Int)) = (l.length : Int) - at_) := ⟨by unfold wrap64; omega⟩
          have W2 : Aside0 (wrap64 (n + 2) = n + 2) := ⟨by unfold wrap64; omega⟩
          have W3 : Aside0 (wrap64 (wrap64 ((at_ : Int) + n) + 1) = (at_ : Int) + n + 1) := ⟨by unfold wrap64; omega⟩
          have W4 : Aside0 (wrap64 ((at_ : Int) + 1) = (at_ : Int) + 1) := ⟨by unfold wrap64; omega⟩
          by_cases c3 : (l.length : Int) - at_ < n + 2
          · refine Ev.step (f := fun k => dogwatchref10_Split.l0 k l (acc ++ [(⟨(at_ : Int), (l.length : Int) - at_, ([] : List Int), false⟩ : S49)]) (wrap64 ((at_ : Int) + ((l.length : Int) - at_)))) (fun k => ?_) (go _ [] false ?_)
            · show dogwatchref10_Split.j1 (k + 1) l acc (at_ : Int) n true (at_ : Int) 1 false = _
              simp only [dogwatchref10_Split.j1]
              rw [if_pos trivial, W1.out, W2.out, if_pos c3, if_neg (by decide), if_pos (by omega)]
            · unfold firstOf
              rw [er0, if_neg (by omega), if_pos (by omega), hdl]
              show _ = ((l.length : Int) - (at_ : Int), ([] : List Int), (3 : Int))
              rw [show ((l.length - at_ : Nat) : Int) = (l.length : Int) - at_ by omega]
          · obtain ⟨m, rfl⟩ := Int.eq_ofNat_of_zero_le (show 0 ≤ n by omega)
            have t1 : ((at_ : Int) + (m : Int) + 1).toNat = at_ + m + 1 := by omega
            have t2 : ((at_ : Int)).toNat = at_ := by omega
            have t3 : ((m : Int) + 1).toNat = m + 1 := by omega
            have t4 : ((at_ : Int) + 1).toNat = at_ + 1 := by omega
            have s1 : (l.take (at_ + m + 1)).drop at_ = (l.drop at_).take (m + 1) := by rw [cut_len]; congr 1; omega
            have s2 : (l.take (at_ + m + 1)).drop (at_ + 1) = ((l.drop at_).take (m + 1)).drop 1 := by rw [← s1, List.drop_drop]
            have r1 : rd l ((at_ : Int) + (m : Int) + 1) = rd (l.drop at_) ((m : Int) + 1) := by
              rw [show (at_ : Int) + (m : Int) + 1 = ((at_ + m + 1 : Nat) : Int) by omega, show (m : Int) + 1 = ((m + 1 : Nat) : Int) by omega, rd_nth l _ (by omega), rd_nth _ _ (by omega), List.getElem_drop]
              congr 1
            have hs := rsum_ev ((l.drop at_).take (m + 1)) (bytes_take (bytes_drop hb _) _) (by rw [List.length_take]; omega)
            refine Ev.step (f := fun k => (dogwatchref10_Sum.f k ((l.drop at_).take (m + 1))).bind fun t203 => if t203 = rd (l.drop at_) ((m : Int) + 1) then dogwatchref10_Split.l0 k l (acc ++ [(⟨(at_ : Int), (m : Int) + 2, ((l.drop at_).take (m + 1)).drop 1, t203 == rd (l.drop at_) ((m : Int) + 1)⟩ : S49)]) (wrap64 ((at_ : Int) + ((m : Int) + 2))) else dogwatchref10_Split.l0 k l (acc ++ [(⟨(at_ : Int), (m : Int) + 2, ([] : List Int), t203 == rd (l.drop at_) ((m : Int) + 1)⟩ : S49)]) (wrap64 ((at_ : Int) + ((m : Int) + 2)))) (fun k => ?_) (Ev.bind hs ?_)
            · show dogwatchref10_Split.j1 (k + 1) l acc (at_ : Int) (m : Int) true (at_ : Int) 1 false = _
              simp only [dogwatchref10_Split.j1]
              rw [if_pos trivial, W1.out, W2.out, if_neg c3, W3.out, W4.out, t1, t2, t4, s1, s2, r1]
              rw [if_pos (by omega), if_pos (by omega), if_pos (by omega)]
              have e1 : (0 : Int) ≤ (at_ : Int) + (m : Int) + 1 := by omega
              have e2 : (at_ : Int) + (m : Int) + 1 < (l.length : Int) := by omega
              have e3 : (0 : Int) ≤ (at_ : Int) + 1 := by omega
              have e4 : (at_ : Int) + 1 ≤ (at_ : Int) + (m : Int) + 1 := by omega
              have e5 : acc.length < 2932031007402 := by omega
              simp only [if_pos e1, if_pos e2, if_pos e3, if_pos e4, if_pos e5]
            · by_cases c4 : crc ((l.drop at_).take (m + 1)) = rd (l.drop at_) ((m : Int) + 1)
              · refine Ev.congr (f := fun k => _) (fun k => if_pos c4) ?_
                rw [beq_iff_eq.mpr c4]
                refine go _ _ true ?_
                unfold firstOf
                rw [er0, if_neg (by omega), if_neg (by omega), t3, if_pos c4]
                rfl
              · refine Ev.congr (f := fun k => _) (fun k => if_neg c4) ?_
                rw [beq_eq_false_iff_ne.mpr c4]
                refine go _ _ false ?_
                unfold firstOf
                rw [er0, if_neg (by omega), if_neg (by omega), t3, if_neg c4]
                rfl
        · rw [decide_eq_false c2]
          exact bad (Or.inr (by omega))
      · exact Ev.congr (f := fun k => _) (fun k => if_neg c1) (bad (Or.inl (by omega)))
    · refine Ev.step (f := fun _ => some acc) (fun k => ?_) ?_
      · show dogwatchref10_Split.l0 (k + 1) l acc (at_ : Int) = _
        simp only [dogwatchref10_Split.l0]
        rw [if_neg (by omega)]
      · rw [recs, if_neg (by omega), List.map_nil, List.append_nil]; exact Ev.now _
theorem rsplit_ev (l : List Int) (hb : Bytes l) (hl : l.length ≤ 3000) : Ev (fun k => dogwatchref10_Split.f k l) ((recs l.length l 0).map conv) := by
  have := rsplit_l0 l hb hl l.length [] 0 (by omega) (by omega) (by simp; omega)
  rw [List.nil_append] at this
  exact this
/-- How many of the records are right, how many wrong. -/
def rights (l : List S47) : Nat := l.countP (fun r => r.f3 == 0)
theorem rd47 (l : List S47) (i : Nat) (h : i < l.length) : rd_T47 l (i : Int) = l[i] := by
  simp [rd_T47, List.getD_eq_getElem?_getD, h]
theorem rd49 (l : List S49) (i : Nat) (h : i < l.length) : rd_T49 l (i : Int) = l[i] := by
  simp [rd_T49, List.getD_eq_getElem?_getD, h]
theorem count_l0 (l : List S47) (hl : l.length ≤ 100000) : ∀ (d i a b : Nat), i + d = l.length → a + b ≤ i → Ev (fun k => record_Count.l0 k (a : Int) (b : Int) l (l.length : Int) (i : Int)) (((a + rights (l.drop i) : Nat) : Int), ((b + (d - rights (l.drop i)) : Nat) : Int)) := by
  intro d
  induction d with
  | zero =>
    intro i a b hi hab
    have e : rights (l.drop i) = 0 := by rw [List.drop_of_length_le (by omega)]; rfl
    rw [e]
    refine Ev.step (f := fun _ => some ((a : Int), (b : Int))) (fun k => ?_) (Ev.now _)
    show record_Count.l0 (k + 1) (a : Int) (b : Int) l (l.length : Int) (i : Int) = _
    simp only [record_Count.l0]
    rw [if_neg (by omega)]
  | succ d ih =>
    intro i a b hi hab
    have hlt : i < l.length := by omega
    have hx := rd47 l i hlt
    have hle : rights (l.drop (i + 1)) ≤ d := by
      have : rights (l.drop (i + 1)) ≤ (l.drop (i + 1)).length := List.countP_le_length
      rw [List.length_drop] at this
      omega
    have hd := List.drop_eq_getElem_cons hlt
    by_cases c : l[i].f3 = 0
    · have e : rights (l.drop i) = rights (l.drop (i + 1)) + 1 := by
        unfold rights
        rw [hd, List.countP_cons_of_pos (by simpa using c)]
      have ih2 := ih (i + 1) (a + 1) b (by omega) (by omega)
      rw [show a + rights (l.drop i) = a + 1 + rights (l.drop (i + 1)) by omega, show d + 1 - rights (l.drop i) = d - rights (l.drop (i + 1)) by omega]
      refine Ev.step (f := fun k => record_Count.l0 k ((a + 1 : Nat) : Int) (b : Int) l (l.length : Int) ((i + 1 : Nat) : Int)) (fun k => ?_) ih2
      show record_Count.l0 (k + 1) (a : Int) (b : Int) l (l.length : Int) (i : Int) = _
      simp only [record_Count.l0]
      rw [if_pos (by omega), if_pos (by omega), if_pos (by omega), hx, if_pos c, wnat a (by omega), wnat i (by omega)]
    · have e : rights (l.drop i) = rights (l.drop (i + 1)) := by
        unfold rights
        rw [hd, List.countP_cons_of_neg (by simpa using c)]
      have ih2 := ih (i + 1) a (b + 1) (by omega) (by omega)
      rw [e, show b + (d + 1 - rights (l.drop (i + 1))) = b + 1 + (d - rights (l.drop (i + 1))) by omega]
      refine Ev.step (f := fun k => record_Count.l0 k (a : Int) ((b + 1 : Nat) : Int) l (l.length : Int) ((i + 1 : Nat) : Int)) (fun k => ?_) ih2
      show record_Count.l0 (k + 1) (a : Int) (b : Int) l (l.length : Int) (i : Int) = _
      simp only [record_Count.l0]
      rw [if_pos (by omega), if_pos (by omega), if_pos (by omega), hx, if_neg c, wnat b (by omega), wnat i (by omega)]
end Go.Proofs.Ytgjcbpeliimhaaa.PRec
