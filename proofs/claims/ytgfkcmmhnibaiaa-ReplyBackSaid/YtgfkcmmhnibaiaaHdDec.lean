/- Which bytes are a reply: what the program's Decode tells. -/
import Derived.Test.YtgfkcmmhnibaiaaHdRn
import Derived.Test.YtgfkcmmhnibaiaaHdRep4
import Derived.Test.YtgfkcmmhnibaiaaHDecode
namespace Go.Proofs.Ytgfkcmmhnibaiaa.PRpd
open Go.RowKit Go.Proofs.YtgfkcmmhnibaiaaW.PrintWords Go.Proofs.YtgfkcmmhnibaiaaW.PrintLast Go.Proofs.YtgfkcmmhnibaiaaW.PrintMore
set_option linter.unusedVariables false
set_option linter.unusedSimpArgs false
theorem rnum_enc (m limit : Int) (r : List Int) (h0 : 0 ≤ m) (h1 : m < 18446744073709551616) (h2 : m ≤ limit) : rnum (enc 9 m ++ r) 0 limit = (m, r, 0) := by
  unfold rnum
  rw [if_pos rfl, enc_pn 9 true m r h0 (by rw [top9]; exact h1) (fun h => absurd h (by decide))]
  show (if limit < m then _ else _) = _
  rw [if_neg (by omega), List.drop_left]
theorem rnum_err (l : List Int) (er limit : Int) (h : er ≠ 0) : rnum l er limit = (0, l, er) := by
  unfold rnum
  rw [if_neg h]
theorem rnum_none (l : List Int) (limit : Int) (h : pn 9 true l = none) : rnum l 0 limit = (0, [], 3) := by
  unfold rnum
  rw [if_pos rfl, h]
theorem rnum_some (l : List Int) (limit m : Int) (c : Nat) (h : pn 9 true l = some (m, c)) : rnum l 0 limit = if limit < m then (0, [], 5) else (m, l.drop c, 0) := by
  unfold rnum
  rw [if_pos rfl, h]
theorem rnum_ok (l : List Int) (er limit : Int) (hb : Bytes l) (h : (rnum l er limit).2.2 = 0) : er = 0 ∧ l = enc 9 (rnum l er limit).1 ++ (rnum l er limit).2.1 ∧ 0 ≤ (rnum l er limit).1 ∧ (rnum l er limit).1 ≤ limit ∧ (rnum l er limit).1 < 18446744073709551616 := by
  by_cases he : er = 0
  · subst he
    cases hp : pn 9 true l with
    | none => rw [rnum_none l limit hp] at h; exact absurd h (by decide)
    | some x =>
      obtain ⟨m, c⟩ := x
      obtain ⟨h0, h1, _, rfl, r, hr⟩ := pn_enc 9 true l m c hb hp
      rw [top9] at h1
      rw [rnum_some l limit m _ hp] at h ⊢
      by_cases c1 : limit < m
      · rw [if_pos c1] at h; exact absurd h (by decide)
      · rw [if_neg c1]
        refine ⟨rfl, ?_, h0, by show m ≤ limit; omega, h1⟩
        show l = enc 9 m ++ l.drop (enc 9 m).length
        rw [hr, List.drop_left]
  · rw [rnum_err l er limit he] at h
    exact absurd h he
theorem rnum_range (l : List Int) (er limit : Int) (hb : Bytes l) (hl : 0 ≤ limit) : 0 ≤ (rnum l er limit).1 ∧ (rnum l er limit).1 ≤ limit := by
  by_cases he : er = 0
  · subst he
    cases hp : pn 9 true l with
    | none => rw [rnum_none l limit hp]; exact ⟨Int.le_refl 0, hl⟩
    | some x =>
      obtain ⟨m, c⟩ := x
      obtain ⟨h0, h1, _⟩ := pn_enc 9 true l m c hb hp
      rw [rnum_some l limit m _ hp]
      by_cases c1 : limit < m
      · rw [if_pos c1]; exact ⟨Int.le_refl 0, hl⟩
      · rw [if_neg c1]; exact ⟨h0, by show m ≤ limit; omega⟩
  · rw [rnum_err l er limit he]
    exact ⟨Int.le_refl 0, hl⟩
theorem rnum_rest (l : List Int) (er limit : Int) (hb : Bytes l) : Bytes (rnum l er limit).2.1 ∧ (rnum l er limit).2.1.length ≤ l.length := by
  by_cases he : er = 0
  · subst he
    cases hp : pn 9 true l with
    | none => rw [rnum_none l limit hp]; exact ⟨fun x hx => absurd hx (by simp), by simp⟩
    | some x =>
      obtain ⟨m, c⟩ := x
      rw [rnum_some l limit m _ hp]
      by_cases c1 : limit < m
      · rw [if_pos c1]; exact ⟨fun x hx => absurd hx (by simp), by simp⟩
      · rw [if_neg c1]; exact ⟨Bytes_drop hb c, by show (l.drop c).length ≤ _; rw [List.length_drop]; omega⟩
  · rw [rnum_err l er limit he]
    exact ⟨hb, Nat.le_refl _⟩
def big : Int := 9223372036854775807
/-- n numbers read one behind the other. -/
def numsP : Nat → List Int → List Int → Int → List Int × List Int × Int
  | 0, nums, l, er => (nums, l, er)
  | n + 1, nums, l, er => numsP n (nums ++ [(rnum l er big).1]) (rnum l er big).2.1 (rnum l er big).2.2
theorem numsD_is (N : Int) (hN : N ≤ 20) : ∀ (n k : Nat) (j : Int) (nums l : List Int) (er : Int), 0 ≤ j → j + n = N → Bytes l → nums.length + n ≤ 100 → n + 31 ≤ k → numsD k N j nums l er = some (numsP n nums l er)
  | 0, k, j, nums, l, er, hj, hn, hb, hl, hk => by
    obtain ⟨k, rfl⟩ : ∃ q, k = q + 1 := ⟨k - 1, by omega⟩
    rw [numsD, if_neg (by omega)]; rfl
  | n + 1, k, j, nums, l, er, hj, hn, hb, hl, hk => by
    obtain ⟨k, rfl⟩ : ∃ q, k = q + 1 := ⟨k - 1, by omega⟩
    have hr := rnum_range l er big hb (by decide)
    have hrest := rnum_rest l er big hb
    have ew : IntKind.u64.wrap (j + 1) = j + 1 := by rw [IntKind.wrap_u64]; omega
    have e2 : IntKind.i64.wrap (rnum l er big).1 = (rnum l er big).1 := by unfold big at hr ⊢; rw [IntKind.wrap_i64]; omega
    rw [numsD, if_pos (by omega)]
    have hx : rdNum k l er 9223372036854775807 = some (rnum l er big) := rdNum_is k l er _ hb (by omega)
    rw [hx, Option.bind_some, if_pos (by omega), ew, e2]
    exact numsD_is N hN n k (j + 1) _ _ _ (by omega) (by omega) hrest.1 (by rw [List.length_append, List.length_singleton]; omega) (by omega)
theorem numsP_encs : ∀ (ns pre r : List Int), (∀ x ∈ ns, 0 ≤ x ∧ x < 2 ^ 63) → numsP ns.length pre (encs ns ++ r) 0 = (pre ++ ns, r, 0)
  | [], pre, r, h => by simp [numsP, encs]
  | x :: ns, pre, r, h => by
    have hx := h x (by simp)
    have e : encs (x :: ns) ++ r = enc 9 x ++ (encs ns ++ r) := by simp [encs]
    rw [List.length_cons, numsP, e, rnum_enc x big _ hx.1 (by omega) (by unfold big; omega)]
    show numsP ns.length (pre ++ [x]) (encs ns ++ r) 0 = _
    rw [numsP_encs ns (pre ++ [x]) r (fun y hy => h y (by simp [hy]))]
    simp
theorem numsP_er (n : Nat) : ∀ (nums l : List Int) (er : Int), er ≠ 0 → (numsP n nums l er).2.2 = er := by
  induction n with
  | zero => intro nums l er h; rfl
  | succ n ih => intro nums l er h; rw [numsP, rnum_err l er big h]; exact ih _ _ _ h
theorem numsP_ok (n : Nat) : ∀ (nums l : List Int) (er : Int), Bytes l → (numsP n nums l er).2.2 = 0 → er = 0 ∧ ∃ ns, ns.length = n ∧ (∀ x ∈ ns, 0 ≤ x ∧ x < 2 ^ 63) ∧ (numsP n nums l er).1 = nums ++ ns ∧ l = encs ns ++ (numsP n nums l er).2.1 := by
  induction n with
  | zero => intro nums l er hb h; exact ⟨h, [], rfl, fun x hx => absurd hx (by simp), by simp [numsP], by simp [numsP, encs]⟩
  | succ n ih =>
    intro nums l er hb h
    rw [numsP] at h ⊢
    have hrest := rnum_rest l er big hb
    obtain ⟨h1, ns, h2, h3, h4, h5⟩ := ih _ _ _ hrest.1 h
    obtain ⟨q0, q1, q2, q3, q4⟩ := rnum_ok l er big hb h1
    refine ⟨q0, (rnum l er big).1 :: ns, by rw [List.length_cons, h2], ?_, ?_, ?_⟩
    · intro x hx
      simp only [List.mem_cons] at hx
      rcases hx with rfl | hx
      · unfold big at q3 ⊢; exact ⟨q2, by omega⟩
      · exact h3 x hx
    · rw [h4, List.append_assoc]; rfl
    · have e : encs ((rnum l er big).1 :: ns) = enc 9 (rnum l er big).1 ++ encs ns := by simp [encs]
      rw [e, List.append_assoc, ← h5]
      exact q1
theorem bytesOf_eq (e : Int) (m : Bool) (n : Int) (l : List Int) (hl : l.length ≤ 20) : bytesOf e m n l = enc 9 e ++ (enc 9 (if m = true then 1 else 0) ++ (enc 9 n ++ (enc 9 (l.length : Int) ++ (encs l ++ [])))) := by
  unfold bytesOf
  rw [enc_small 9 (if m = true then 1 else 0) (by split <;> decide), enc_small 9 (l.length : Int) (by omega), List.append_nil]
/-- Decode, step by step, in plain numbers. -/
theorem dec_is (k : Nat) (l : List Int) (hb : Bytes l) (hl : l.length ≤ 1000000) (hk : 100 ≤ k) (a b c d : Int × List Int × Int) (ha : rnum l 0 30 = a) (hb' : rnum a.2.1 a.2.2 1 = b) (hc : rnum b.2.1 b.2.2 255 = c) (hd : rnum c.2.1 c.2.2 20 = d) (x : List Int × List Int × Int) (hx : numsP d.1.toNat [] d.2.1 d.2.2 = x) :
    reply_Decode.f k l = (if endErr x.2.1 x.2.2 = 0 then (reply_Check.f a.1 (b.1 == 1) c.1 x.1).bind fun q => if q = 0 then some (a.1, (b.1 == 1), c.1, x.1, 0) else some (0, false, 0, [], 3) else some (0, false, 0, [], 3)) := by
  have h1 := rnum_rest l 0 30 hb
  have h1r := rnum_range l 0 30 hb (by decide)
  rw [ha] at h1 h1r
  have h2 := rnum_rest a.2.1 a.2.2 1 h1.1
  rw [hb'] at h2
  have h3 := rnum_rest b.2.1 b.2.2 255 h2.1
  have h3r := rnum_range b.2.1 b.2.2 255 h2.1 (by decide)
  rw [hc] at h3 h3r
  have h4 := rnum_rest c.2.1 c.2.2 20 h3.1
  have h4r := rnum_range c.2.1 c.2.2 20 h3.1 (by decide)
  rw [hd] at h4 h4r
  unfold reply_Decode.f
  rw [if_pos (by omega), rdNum_is k l 0 30 hb (by omega), ha, Option.bind_some, rdNum_is k _ _ 1 h1.1 (by omega), hb', Option.bind_some, rdNum_is k _ _ 255 h2.1 (by omega), hc, Option.bind_some, rdNum_is k _ _ 20 h3.1 (by omega), hd, Option.bind_some]
  rw [numsD_is d.1 h4r.2 d.1.toNat k 0 [] d.2.1 d.2.2 (by omega) (by omega) h4.1 (by simp only [List.length_nil]; omega) (by omega), hx, Option.bind_some]
  have e1 : wrap64 a.1 = a.1 := by unfold wrap64; omega
  have e2 : wrap64 c.1 = c.1 := by unfold wrap64; omega
  rw [e1, e2]
theorem endErr_ok {l : List Int} {er : Int} (h : endErr l er = 0) : er = 0 ∧ l = [] := by
  unfold endErr at h
  by_cases he : er = 0
  · rw [if_pos he] at h
    by_cases hl : l = []
    · exact ⟨he, hl⟩
    · rw [if_neg hl] at h; exact absurd h (by decide)
  · rw [if_neg he] at h; exact absurd h he
theorem nn_of (l : List Int) (h : neg l = false) : ∀ x ∈ l, 0 ≤ x := by
  intro x hx
  unfold neg at h
  have := List.any_eq_false.mp h x hx
  simpa using this
/-- A right reply is read of its bytes. -/
theorem dec_bytesOf (k : Nat) (e : Int) (m : Bool) (n : Int) (l : List Int) (hr : rightB e m n l = true) (hm : ∀ x ∈ l, x < 2 ^ 63) (hbb : Bytes (bytesOf e m n l)) (hbl : (bytesOf e m n l).length ≤ 1000000) (hk : 100 ≤ k) : reply_Decode.f k (bytesOf e m n l) = some (e, m, n, l, 0) := by
  obtain ⟨h1, h2, h3, h4, h5, h6⟩ := right_parts hr
  have hnn := nn_of l h6
  have hf : (0 : Int) ≤ (if m = true then 1 else 0) ∧ (if m = true then (1 : Int) else 0) ≤ 1 := by split <;> decide
  have E := bytesOf_eq e m n l h5
  have s1 : rnum (bytesOf e m n l) 0 30 = (e, enc 9 (if m = true then 1 else 0) ++ (enc 9 n ++ (enc 9 (l.length : Int) ++ (encs l ++ []))), 0) := by
    rw [E]; exact rnum_enc e 30 _ h1 (by omega) h2
  have s2 : rnum (enc 9 (if m = true then 1 else 0) ++ (enc 9 n ++ (enc 9 (l.length : Int) ++ (encs l ++ [])))) 0 1 = ((if m = true then 1 else 0), enc 9 n ++ (enc 9 (l.length : Int) ++ (encs l ++ [])), 0) := rnum_enc _ 1 _ hf.1 (by omega) hf.2
  have s3 : rnum (enc 9 n ++ (enc 9 (l.length : Int) ++ (encs l ++ []))) 0 255 = (n, enc 9 (l.length : Int) ++ (encs l ++ []), 0) := rnum_enc n 255 _ h3 (by omega) h4
  have s4 : rnum (enc 9 (l.length : Int) ++ (encs l ++ [])) 0 20 = ((l.length : Int), encs l ++ [], 0) := rnum_enc _ 20 _ (by omega) (by omega) (by omega)
  have s5 : numsP (l.length : Int).toNat [] (encs l ++ []) 0 = (l, [], 0) := by
    rw [Int.toNat_natCast, numsP_encs l [] [] (fun x hx => ⟨hnn x hx, hm x hx⟩)]; rfl
  rw [dec_is k _ hbb hbl hk _ _ _ _ s1 s2 s3 s4 _ s5]
  have hm1 : ((if m = true then (1 : Int) else 0) == 1) = m := by cases m <;> rfl
  have e0 : endErr (l, ([] : List Int), (0 : Int)).2.1 (l, ([] : List Int), (0 : Int)).2.2 = 0 := rfl
  rw [if_pos e0]
  dsimp only
  rw [hm1, Check_is e m n l (by omega), hr, if_pos rfl, Option.bind_some, if_pos rfl]
/-- What is none's bytes is refused. -/
theorem dec_none (k : Nat) (l : List Int) (hb : Bytes l) (hl : l.length ≤ 1000000) (hk : 100 ≤ k) (hno : ∀ e m n ns, rightB e m n ns = true → (∀ x ∈ ns, x < 2 ^ 63) → l ≠ bytesOf e m n ns) : reply_Decode.f k l = some (0, false, 0, [], 3) := by
  rw [dec_is k l hb hl hk _ _ _ _ rfl rfl rfl rfl _ rfl]
  generalize ha : rnum l 0 30 = a
  have h1 := rnum_rest l 0 30 hb
  rw [ha] at h1
  generalize hb' : rnum a.2.1 a.2.2 1 = b
  have h2 := rnum_rest a.2.1 a.2.2 1 h1.1
  have h2r := rnum_range a.2.1 a.2.2 1 h1.1 (by decide)
  rw [hb'] at h2 h2r
  generalize hc : rnum b.2.1 b.2.2 255 = c
  have h3 := rnum_rest b.2.1 b.2.2 255 h2.1
  rw [hc] at h3
  generalize hd : rnum c.2.1 c.2.2 20 = d
  have h4 := rnum_rest c.2.1 c.2.2 20 h3.1
  have h4r := rnum_range c.2.1 c.2.2 20 h3.1 (by decide)
  rw [hd] at h4 h4r
  generalize hx : numsP d.1.toNat [] d.2.1 d.2.2 = x
  by_cases he : endErr x.2.1 x.2.2 = 0
  case neg => rw [if_neg he]
  rw [if_pos he]
  obtain ⟨he1, he2⟩ := endErr_ok he
  have q5 := numsP_ok d.1.toNat [] d.2.1 d.2.2 h4.1 (by rw [hx]; exact he1)
  rw [hx] at q5
  obtain ⟨d0, ns, hns, hrange, hx1, hdl⟩ := q5
  rw [List.nil_append] at hx1
  have q4 := rnum_ok c.2.1 c.2.2 20 h3.1 (by rw [hd]; exact d0)
  rw [hd] at q4
  have q3 := rnum_ok b.2.1 b.2.2 255 h2.1 (by rw [hc]; exact q4.1)
  rw [hc] at q3
  have q2 := rnum_ok a.2.1 a.2.2 1 h1.1 (by rw [hb']; exact q3.1)
  rw [hb'] at q2
  have q1 := rnum_ok l 0 30 hb (by rw [ha]; exact q2.1)
  rw [ha] at q1
  have hlen : ns.length ≤ 20 := by omega
  have hd1 : d.1 = (ns.length : Int) := by omega
  rw [hx1, Check_is a.1 (b.1 == 1) c.1 ns (by omega)]
  cases hr : rightB a.1 (b.1 == 1) c.1 ns with
  | false => rw [if_neg (by decide), Option.bind_some, if_neg (by decide)]
  | true =>
    refine absurd ?_ (hno a.1 (b.1 == 1) c.1 ns hr (fun y hy => (hrange y hy).2))
    have hb1 : (if (b.1 == 1) = true then (1 : Int) else 0) = b.1 := by
      by_cases c1 : b.1 = 1
      · rw [if_pos (by rw [c1]; rfl), c1]
      · rw [if_neg (by simp [c1])]; omega
    rw [bytesOf_eq _ _ _ _ hlen, hb1, ← hd1, ← he2, ← hdl, ← q4.2.1, ← q3.2.1, ← q2.2.1]
    exact q1.2.1
end Go.Proofs.Ytgfkcmmhnibaiaa.PRpd
