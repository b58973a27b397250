/- The laws of the replies' reading, in plain numbers. -/
import Derived.Test.YtgfkcmmhnibaiaaHdRdec
import Derived.Test.YtgfkcmmhnibaiaaPRpdx8
namespace Go.Proofs.Ytgfkcmmhnibaiaa.PRpd
open Go.RowKit Go.Proofs.YtgfkcmmhnibaiaaW.PrintWords Go.Proofs.YtgfkcmmhnibaiaaW.PrintLast Go.Proofs.YtgfkcmmhnibaiaaW.PrintMore
set_option linter.unusedVariables false
set_option linter.unusedSimpArgs false
theorem rSame_self (k : Nat) (e : Int) (m : Bool) (n : Int) (l : List Int) (hl : l.length ≤ 1000) (hk : 1001 ≤ k) : dogwatchref12_Same.f k e m n l e m n l = some true := by
  unfold dogwatchref12_Same.f
  rw [Same_f k l l hl hk, if_pos rfl, if_pos (by simp), if_pos rfl, Option.bind_some, decide_eq_true rfl]
theorem ReplyReads_is (l : List Int) (hb : Bytes l) : ∃ k, dogwatchlaw12_ReplyReads.f k l = some true := by
  obtain ⟨k, hk⟩ : ∃ k : Nat, k = 10000 := ⟨_, rfl⟩
  refine ⟨k, ?_⟩
  unfold dogwatchlaw12_ReplyReads.f
  by_cases c0 : (l.length : Int) > 500
  · rw [if_pos c0, awake_ge k (by omega)]; rfl
  rw [if_neg c0]
  by_cases h : ∃ e m n ns, rightB e m n ns = true ∧ (∀ x ∈ ns, x < 2 ^ 63) ∧ l = bytesOf e m n ns
  · obtain ⟨e, m, n, ns, hr, hm, rfl⟩ := h
    obtain ⟨h1, h2, h3, h4, h5, h6⟩ := right_parts hr
    rw [dec_bytesOf k e m n ns hr hm hb (by omega) (by omega), Option.bind_some, rdec_bytesOf k e m n ns hr hm hb (by omega) (by omega), Option.bind_some]
    dsimp only
    rw [rSame_self k e m n ns (by omega) (by omega), Option.bind_some, if_pos rfl, if_pos (by decide), if_pos rfl, awake_ge k (by omega)]
    rfl
  · have hno : ∀ e m n ns, rightB e m n ns = true → (∀ x ∈ ns, x < 2 ^ 63) → l ≠ bytesOf e m n ns := fun e m n ns hr hm he => h ⟨e, m, n, ns, hr, hm, he⟩
    rw [dec_none k l hb (by omega) (by omega) hno, Option.bind_some, rdec_none k l hb (by omega) (by omega) hno, Option.bind_some]
    dsimp only
    rw [rSame_self k 0 false 0 [] (by simp) (by omega), Option.bind_some, if_pos rfl, if_pos (by decide), if_neg (by decide), if_pos rfl, awake_ge k (by omega)]
    rfl
theorem Back_j1 (k : Nat) (l : List Int) (hb : Bytes l) (hl : l.length ≤ 500) (hk : 5000 ≤ k) : dogwatchlaw12_ReplyBack.j1 k l = some true := by
  obtain ⟨k, rfl⟩ : ∃ q, k = q + 1 := ⟨k - 1, by omega⟩
  simp only [dogwatchlaw12_ReplyBack.j1]
  by_cases h : ∃ e m n ns, rightB e m n ns = true ∧ (∀ x ∈ ns, x < 2 ^ 63) ∧ l = bytesOf e m n ns
  · obtain ⟨e, m, n, ns, hr, hm, rfl⟩ := h
    rw [dec_bytesOf k e m n ns hr hm hb (by omega) (by omega), Option.bind_some]
    dsimp only
    rw [if_pos rfl, Encode_is k e m n ns hr hm (by omega), Option.bind_some]
    dsimp only
    rw [if_pos rfl, if_pos rfl, awake_ge k (by omega)]
    rfl
  · have hno : ∀ e m n ns, rightB e m n ns = true → (∀ x ∈ ns, x < 2 ^ 63) → l ≠ bytesOf e m n ns := fun e m n ns hr hm he => h ⟨e, m, n, ns, hr, hm, he⟩
    rw [dec_none k l hb (by omega) (by omega) hno, Option.bind_some]
    dsimp only
    rw [if_neg (by decide), awake_ge k (by omega)]
    rfl
theorem ReplyBack_is (e : Int) (m : Bool) (n : Int) (ns : List Int) (l : List Int) (hm : ∀ x ∈ ns, x < 2 ^ 63) (hb : Bytes l) : ∃ k, dogwatchlaw12_ReplyBack.f k e m n ns l = some true := by
  obtain ⟨k, hk⟩ : ∃ k : Nat, k = 10000 := ⟨_, rfl⟩
  refine ⟨k + 1, ?_⟩
  unfold dogwatchlaw12_ReplyBack.f
  by_cases c0 : (ns.length : Int) > 100
  · rw [if_pos c0]
    simp only [dogwatchlaw12_ReplyBack.j0]
    rw [if_pos trivial, awake_ge k (by omega)]; rfl
  rw [if_neg c0]
  simp only [dogwatchlaw12_ReplyBack.j0]
  by_cases c1 : (l.length : Int) > 500
  · rw [decide_eq_true c1, if_pos rfl, awake_ge k (by omega)]; rfl
  rw [decide_eq_false c1, if_neg (by decide)]
  cases hr : rightB e m n ns with
  | true =>
    have hbb := bytesOf_bytes e m n ns hr hm
    rw [Encode_is k e m n ns hr hm (by omega), Option.bind_some]
    dsimp only
    rw [if_pos rfl, dec_bytesOf k e m n ns hr hm hbb.1 (by omega) (by omega), Option.bind_some]
    dsimp only
    rw [if_pos rfl, rSame_self k e m n ns (by omega) (by omega), Option.bind_some, if_pos rfl]
    exact Back_j1 k l hb (by omega) (by omega)
  | false =>
    rw [Encode_not k e m n ns (by omega) hr, Option.bind_some]
    dsimp only
    rw [if_neg (by decide)]
    exact Back_j1 k l hb (by omega) (by omega)
end Go.Proofs.Ytgfkcmmhnibaiaa.PRpd
