/- Which bytes are a reply: what the document's Decode tells. -/
import Derived.Test.YtgfkcmmhnibaiaaHdDec
import Derived.Test.YtgfkcmmhnibaiaaPRpdx7
namespace Go.Proofs.Ytgfkcmmhnibaiaa.PRpd
open Go.RowKit Go.Proofs.YtgfkcmmhnibaiaaW.PrintWords Go.Proofs.YtgfkcmmhnibaiaaW.PrintLast Go.Proofs.YtgfkcmmhnibaiaaW.PrintMore
set_option linter.unusedVariables false
set_option linter.unusedSimpArgs false
theorem Reader_is (k : Nat) (l : List Int) (er limit : Int) (hb : Bytes l) (hl : l.length ≤ 1000000) (hk : 30 ≤ k) :
    dogwatchref09_Reader_Num.f k l er limit = some ((rnum l er limit).2.1, (rnum l er limit).2.2, (rnum l er limit).1) := by
  unfold dogwatchref09_Reader_Num.f
  rw [refNum_is k l er limit hb hl hk, Option.bind_some]
theorem End_is (l : List Int) (er : Int) : dogwatchref09_Reader_End.f l er = some (endErr l er) := by
  unfold dogwatchref09_Reader_End.f endErr
  by_cases he : er = 0
  · rw [if_pos he, if_pos he]
    by_cases hl : l = []
    · rw [if_pos hl, hl, if_neg (by decide), he]
    · have : 0 < l.length := List.length_pos_iff.mpr hl
      rw [if_neg hl, if_pos (by omega)]
  · rw [if_neg he, if_neg he]
def numsR : Nat → List Int → List Int → Int → List Int × List Int × Int
  | 0, nums, l, er => (nums, l, er)
  | n + 1, nums, l, er => if er = 0 then numsR n (nums ++ [(rnum l er big).1]) (rnum l er big).2.1 (rnum l er big).2.2 else (nums, l, er)
theorem numsR_encs : ∀ (ns pre r : List Int), (∀ x ∈ ns, 0 ≤ x ∧ x < 2 ^ 63) → numsR ns.length pre (encs ns ++ r) 0 = (pre ++ ns, r, 0)
  | [], pre, r, h => by simp [numsR, encs]
  | x :: ns, pre, r, h => by
    have hx := h x (by simp)
    have e : encs (x :: ns) ++ r = enc 9 x ++ (encs ns ++ r) := by simp [encs]
    rw [List.length_cons, numsR, if_pos rfl, e, rnum_enc x big _ hx.1 (by omega) (by unfold big; omega)]
    show numsR ns.length (pre ++ [x]) (encs ns ++ r) 0 = _
    rw [numsR_encs ns (pre ++ [x]) r (fun y hy => h y (by simp [hy]))]
    simp
theorem numsR_ok (n : Nat) : ∀ (nums l : List Int) (er : Int), Bytes l → (numsR n nums l er).2.2 = 0 → er = 0 ∧ ∃ ns, ns.length = n ∧ (∀ x ∈ ns, 0 ≤ x ∧ x < 2 ^ 63) ∧ (numsR n nums l er).1 = nums ++ ns ∧ l = encs ns ++ (numsR n nums l er).2.1 := by
  induction n with
  | zero => intro nums l er hb h; exact ⟨h, [], rfl, fun x hx => absurd hx (by simp), by simp [numsR], by simp [numsR, encs]⟩
  | succ n ih =>
    intro nums l er hb h
    rw [numsR] at h ⊢
    by_cases he : er = 0
    case neg => rw [if_neg he] at h; exact absurd h he
    rw [if_pos he] at h ⊢
    have hrest := rnum_rest l er big hb
    obtain ⟨h1, ns, h2, h3, h4, h5⟩ := ih _ _ _ hrest.1 h
    obtain ⟨q0, q1, q2, q3, q4⟩ := rnum_ok l er big hb h1
    refine ⟨q0, (rnum l er big).1 :: ns, by rw [List.length_cons, h2], ?_, ?_, ?_⟩
    · intro x hx
      simp only [List.mem_cons] at hx
      rcases hx with rfl | hx
      · unfold big at q3 ⊢; exact ⟨q2, by omega⟩
      · exact h3 x hx
    · rw [h4, List.append_assoc]; rfl
    · have e : encs ((rnum l er big).1 :: ns) = enc 9 (rnum l er big).1 ++ encs ns := by simp [encs]
      rw [e, List.append_assoc, ← h5]
      exact q1
theorem numsR_len (n : Nat) : ∀ (nums l : List Int) (er : Int), (numsR n nums l er).1.length ≤ nums.length + n := by
  induction n with
  | zero => intro nums l er; exact Nat.le_refl _
  | succ n ih =>
    intro nums l er
    rw [numsR]
    split
    · have := ih (nums ++ [(rnum l er big).1]) (rnum l er big).2.1 (rnum l er big).2.2
      rw [List.length_append, List.length_singleton] at this
      omega
    · show nums.length ≤ _; omega
theorem l1_is (x0 x5 : List Int) (N e : Int) (m : Bool) (w : Int) (h5 : 3 < x5.length) (hN : rd x5 3 = N) (hN1 : N ≤ 255) : ∀ (n k : Nat) (j : Int) (nums l : List Int) (er : Int), 0 ≤ j → j + n = N → Bytes l → l.length ≤ 1000000 → nums.length + n ≤ 1000 → n + 1501 ≤ k →
    ∃ kq, 1500 ≤ kq ∧ dogwatchref12_Decode.l1 k x0 x5 j l er e m w nums = dogwatchref12_Decode.j2 kq x0 (numsR n nums l er).2.1 (numsR n nums l er).2.2 e m w (numsR n nums l er).1
  | 0, k, j, nums, l, er, hj, hn, hb, hl, hnl, hk => by
    obtain ⟨k, rfl⟩ : ∃ q, k = q + 1 := ⟨k - 1, by omega⟩
    refine ⟨k, by omega, ?_⟩
    simp only [dogwatchref12_Decode.l1]
    rw [if_pos (by omega), hN, if_neg (by omega)]; rfl
  | n + 1, k, j, nums, l, er, hj, hn, hb, hl, hnl, hk => by
    obtain ⟨k, rfl⟩ : ∃ q, k = q + 1 := ⟨k - 1, by omega⟩
    have hr := rnum_range l er big hb (by decide)
    have hrest := rnum_rest l er big hb
    have ew : IntKind.u64.wrap (j + 1) = j + 1 := by rw [IntKind.wrap_u64]; omega
    have e2 : wrap64 (rnum l er big).1 = (rnum l er big).1 := by unfold big at hr ⊢; unfold wrap64; omega
    by_cases he : er = 0
    · obtain ⟨kq, hq, h⟩ := l1_is x0 x5 N e m w h5 hN hN1 n k (j + 1) (nums ++ [(rnum l er big).1]) (rnum l er big).2.1 (rnum l er big).2.2 (by omega) (by omega) hrest.1 (by omega) (by rw [List.length_append, List.length_singleton]; omega) (by omega)
      refine ⟨kq, hq, ?_⟩
      simp only [dogwatchref12_Decode.l1]
      have hx : dogwatchref09_Reader_Num.f k l er 9223372036854775807 = some ((rnum l er big).2.1, (rnum l er big).2.2, (rnum l er big).1) := Reader_is k l er _ hb hl (by omega)
      rw [if_pos (by omega), hN, if_pos (by omega), if_pos he, hx, Option.bind_some, if_pos (by omega), ew, e2, h, numsR, if_pos he]
    · refine ⟨k, by omega, ?_⟩
      simp only [dogwatchref12_Decode.l1]
      rw [if_pos (by omega), hN, if_pos (by omega), if_neg he, numsR, if_neg he]
theorem rdec_is (k : Nat) (l : List Int) (hb : Bytes l) (hl : l.length ≤ 1000000) (hk : 3000 ≤ k) (a b c d : Int × List Int × Int) (ha : rnum l 0 255 = a) (hb' : rnum a.2.1 a.2.2 255 = b) (hc : rnum b.2.1 b.2.2 255 = c) (hd : rnum c.2.1 c.2.2 255 = d) (x : List Int × List Int × Int) (hx : numsR d.1.toNat [] d.2.1 d.2.2 = x) :
    ∃ kq, 1400 ≤ kq ∧ dogwatchref12_Decode.f k l = (if endErr x.2.1 x.2.2 = 0 then (dogwatchref12_Right.f kq a.1 (b.1 == 1) c.1 x.1).bind fun t => if t = true then (dogwatchref12_Encode.f kq a.1 (b.1 == 1) c.1 x.1).bind fun y => if (strOfNums y).toList = (strOfNums l).toList then some (a.1, (b.1 == 1), c.1, x.1, true) else some (0, false, 0, [], false) else some (0, false, 0, [], false) else some (0, false, 0, [], false)) := by
  have h1 := rnum_rest l 0 255 hb
  have h1r := rnum_range l 0 255 hb (by decide)
  rw [ha] at h1 h1r
  have h2 := rnum_rest a.2.1 a.2.2 255 h1.1
  rw [hb'] at h2
  have h3 := rnum_rest b.2.1 b.2.2 255 h2.1
  have h3r := rnum_range b.2.1 b.2.2 255 h2.1 (by decide)
  rw [hc] at h3 h3r
  have h4 := rnum_rest c.2.1 c.2.2 255 h3.1
  have h4r := rnum_range c.2.1 c.2.2 255 h3.1 (by decide)
  rw [hd] at h4 h4r
  obtain ⟨k, rfl⟩ : ∃ q, k = q + 5 := ⟨k - 5, by omega⟩
  have w1 : wrap64 (0 + 1) = 1 := by unfold wrap64; omega
  have w2 : wrap64 (1 + 1) = 2 := by unfold wrap64; omega
  have w3 : wrap64 (2 + 1) = 3 := by unfold wrap64; omega
  have w4 : wrap64 (3 + 1) = 4 := by unfold wrap64; omega
  have e1 : wrap64 (rd [a.1, b.1, c.1, d.1] 0) = a.1 := by show wrap64 a.1 = a.1; unfold wrap64; omega
  have e2 : wrap64 (rd [a.1, b.1, c.1, d.1] 2) = c.1 := by show wrap64 c.1 = c.1; unfold wrap64; omega
  have e3 : rd [a.1, b.1, c.1, d.1] 1 = b.1 := rfl
  obtain ⟨kq, hq, hl1⟩ := l1_is l [a.1, b.1, c.1, d.1] d.1 a.1 (b.1 == 1) c.1 (show 3 < 4 by decide) rfl h4r.2 d.1.toNat k 0 [] d.2.1 d.2.2 (by omega) (by omega) h4.1 (by omega) (by simp only [List.length_nil]; omega) (by omega)
  obtain ⟨kq, rfl⟩ : ∃ q, kq = q + 1 := ⟨kq - 1, by omega⟩
  refine ⟨kq, by omega, ?_⟩
  unfold dogwatchref12_Decode.f
  simp only [dogwatchref12_Decode.l0]
  rw [if_pos (by decide), Reader_is _ l 0 255 hb hl (by omega), ha, Option.bind_some, if_pos (by decide), w1]
  rw [if_pos (by decide), Reader_is _ _ _ 255 h1.1 (by omega) (by omega), hb', Option.bind_some, if_pos (by show 1 < _; decide), w2]
  rw [if_pos (by decide), Reader_is _ _ _ 255 h2.1 (by omega) (by omega), hc, Option.bind_some, if_pos (by show 2 < _; decide), w3]
  rw [if_pos (by decide), Reader_is _ _ _ 255 h3.1 (by omega) (by omega), hd, Option.bind_some, if_pos (by show 3 < _; decide), w4]
  rw [if_neg (by decide)]
  show (if (0 : Int) < 4 then if (1 : Int) < 4 then if (2 : Int) < 4 then dogwatchref12_Decode.l1 k l [a.1, b.1, c.1, d.1] 0 d.2.1 d.2.2 (wrap64 (rd [a.1, b.1, c.1, d.1] 0)) (rd [a.1, b.1, c.1, d.1] 1 == 1) (wrap64 (rd [a.1, b.1, c.1, d.1] 2)) [] else none else none else none) = _
  rw [if_pos (by decide), if_pos (by decide), if_pos (by decide), e1, e2, e3, hl1, hx]
  simp only [dogwatchref12_Decode.j2]
  rw [End_is, Option.bind_some]
theorem rdec_bytesOf (k : Nat) (e : Int) (m : Bool) (n : Int) (l : List Int) (hr : rightB e m n l = true) (hm : ∀ x ∈ l, x < 2 ^ 63) (hbb : Bytes (bytesOf e m n l)) (hbl : (bytesOf e m n l).length ≤ 1000000) (hk : 3000 ≤ k) : dogwatchref12_Decode.f k (bytesOf e m n l) = some (e, m, n, l, true) := by
  obtain ⟨h1, h2, h3, h4, h5, h6⟩ := right_parts hr
  have hnn := nn_of l h6
  have hf : (0 : Int) ≤ (if m = true then 1 else 0) ∧ (if m = true then (1 : Int) else 0) ≤ 1 := by split <;> decide
  have E := bytesOf_eq e m n l h5
  have s1 : rnum (bytesOf e m n l) 0 255 = (e, enc 9 (if m = true then 1 else 0) ++ (enc 9 n ++ (enc 9 (l.length : Int) ++ (encs l ++ []))), 0) := by
    rw [E]; exact rnum_enc e 255 _ h1 (by omega) (by omega)
  have s2 : rnum (enc 9 (if m = true then 1 else 0) ++ (enc 9 n ++ (enc 9 (l.length : Int) ++ (encs l ++ [])))) 0 255 = ((if m = true then 1 else 0), enc 9 n ++ (enc 9 (l.length : Int) ++ (encs l ++ [])), 0) := rnum_enc _ 255 _ hf.1 (by omega) (by omega)
  have s3 : rnum (enc 9 n ++ (enc 9 (l.length : Int) ++ (encs l ++ []))) 0 255 = (n, enc 9 (l.length : Int) ++ (encs l ++ []), 0) := rnum_enc n 255 _ h3 (by omega) h4
  have s4 : rnum (enc 9 (l.length : Int) ++ (encs l ++ [])) 0 255 = ((l.length : Int), encs l ++ [], 0) := rnum_enc _ 255 _ (by omega) (by omega) (by omega)
  have s5 : numsR (l.length : Int).toNat [] (encs l ++ []) 0 = (l, [], 0) := by
    rw [Int.toNat_natCast, numsR_encs l [] [] (fun x hx => ⟨hnn x hx, hm x hx⟩)]; rfl
  obtain ⟨kq, hq, h⟩ := rdec_is k _ hbb hbl hk _ _ _ _ s1 s2 s3 s4 _ s5
  rw [h]
  have hm1 : ((if m = true then (1 : Int) else 0) == 1) = m := by cases m <;> rfl
  have e0 : endErr (l, ([] : List Int), (0 : Int)).2.1 (l, ([] : List Int), (0 : Int)).2.2 = 0 := rfl
  rw [if_pos e0]
  dsimp only
  rw [hm1, Right_is kq e m n l (by omega) (by omega), hr, Option.bind_some, if_pos rfl, refEncode_is kq e m n l hr hm (by omega), Option.bind_some, if_pos rfl]
theorem encs_bytes (l : List Int) (h : ∀ x ∈ l, 0 ≤ x ∧ x < 2 ^ 63) : Bytes (encs l) := by
  intro y hy
  unfold encs at hy
  obtain ⟨x, hx, hyx⟩ := List.mem_flatMap.mp hy
  exact enc_bytes 9 x (h x hx).1 (by have := (h x hx).2; rw [lim9]; omega) y hyx
theorem bytesOf_bytes (e : Int) (m : Bool) (n : Int) (l : List Int) (hr : rightB e m n l = true) (hm : ∀ x ∈ l, x < 2 ^ 63) : Bytes (bytesOf e m n l) ∧ (bytesOf e m n l).length ≤ 300 := by
  obtain ⟨h1, h2, h3, h4, h5, h6⟩ := right_parts hr
  have hnn := nn_of l h6
  have q1 := enc_bytes 9 e h1 (by rw [lim9]; omega)
  have q2 := enc_bytes 9 n h3 (by rw [lim9]; omega)
  have q3 := encs_bytes l (fun x hx => ⟨hnn x hx, hm x hx⟩)
  have l1 := enc_len 9 e
  have l2 := enc_len 9 n
  have l3 := encs_len l
  unfold bytesOf
  refine ⟨?_, by simp only [List.length_append, List.length_cons, List.length_nil]; omega⟩
  intro y hy
  simp only [List.mem_append, List.mem_singleton] at hy
  rcases hy with hy | hy | hy | hy | hy
  · exact q1 y hy
  · rw [hy]; split <;> decide
  · exact q2 y hy
  · omega
  · exact q3 y hy
theorem rdec_none (k : Nat) (l : List Int) (hb : Bytes l) (hl : l.length ≤ 1000000) (hk : 3000 ≤ k) (hno : ∀ e m n ns, rightB e m n ns = true → (∀ x ∈ ns, x < 2 ^ 63) → l ≠ bytesOf e m n ns) : dogwatchref12_Decode.f k l = some (0, false, 0, [], false) := by
  obtain ⟨kq, hq, h⟩ := rdec_is k l hb hl hk _ _ _ _ rfl rfl rfl rfl _ rfl
  rw [h]
  clear h
  generalize ha : rnum l 0 255 = a
  have h1 := rnum_rest l 0 255 hb
  rw [ha] at h1
  generalize hb' : rnum a.2.1 a.2.2 255 = b
  have h2 := rnum_rest a.2.1 a.2.2 255 h1.1
  rw [hb'] at h2
  generalize hc : rnum b.2.1 b.2.2 255 = c
  have h3 := rnum_rest b.2.1 b.2.2 255 h2.1
  rw [hc] at h3
  generalize hd : rnum c.2.1 c.2.2 255 = d
  have h4 := rnum_rest c.2.1 c.2.2 255 h3.1
  have h4r := rnum_range c.2.1 c.2.2 255 h3.1 (by decide)
  rw [hd] at h4 h4r
  generalize hx : numsR d.1.toNat [] d.2.1 d.2.2 = x
  have hxl := numsR_len d.1.toNat [] d.2.1 d.2.2
  rw [hx, List.length_nil] at hxl
  by_cases he : endErr x.2.1 x.2.2 = 0
  case neg => rw [if_neg he]
  rw [if_pos he]
  obtain ⟨he1, he2⟩ := endErr_ok he
  have q5 := numsR_ok d.1.toNat [] d.2.1 d.2.2 h4.1 (by rw [hx]; exact he1)
  rw [hx] at q5
  obtain ⟨d0, ns, hns, hrange, hx1, hdl⟩ := q5
  rw [List.nil_append] at hx1
  rw [hx1] at hxl
  rw [hx1, Right_is kq a.1 (b.1 == 1) c.1 ns (by omega) (by omega), Option.bind_some]
  cases hr : rightB a.1 (b.1 == 1) c.1 ns with
  | false => rw [if_neg (by decide)]
  | true =>
    have hm : ∀ y ∈ ns, y < 2 ^ 63 := fun y hy => (hrange y hy).2
    rw [if_pos rfl, refEncode_is kq a.1 (b.1 == 1) c.1 ns hr hm (by omega), Option.bind_some]
    by_cases hs : (strOfNums (bytesOf a.1 (b.1 == 1) c.1 ns)).toList = (strOfNums l).toList
    · exact absurd (str_inj (bytesOf_bytes _ _ _ _ hr hm).1 hb hs).symm (hno a.1 (b.1 == 1) c.1 ns hr hm)
    · rw [if_neg hs]
end Go.Proofs.Ytgfkcmmhnibaiaa.PRpd
