/- AccountCounts: an account and the rows that it took, beside each other. -/
import Derived.Test.YtgfkcmmhnibaiaaAcb
import Derived.Test.YtgfkcmmhnibaiaaAc8
namespace Go.Proofs.Ytgfkcmmhnibaiaa.Ac
open Go.RowKit Go.Proofs.YtgfkcmmhnibaiaaW.PrintWords Go.Proofs.YtgfkcmmhnibaiaaW.PrintLast Go.Proofs.YtgfkcmmhnibaiaaW.PrintMore Pt
set_option linter.unusedVariables false
set_option linter.unusedSimpArgs false
/-- A row as it stands in a slice of rows. -/
abbrev Hd := Option Addr × Nat × Nat
abbrev hdr (h : Hd) : Value := .slice h.1 h.2.1 h.2.2
abbrev kh : Kd Hd := Kd.scalar hdr (fun _ => rfl)
theorem info23 : (Try.prog.info? 23).map (fun i => (i.zero, i.size, i.bytes)) = some (some (.slice none 0 0), 1, 24) := by kernel_rfl
/-- They read as rows that came in. -/
structure Hds (w0 : World) (hs : List Hd) (l : List (List Int)) : Prop where
  len : hs.length = l.length
  at_ : ∀ (i : Nat) (h : Hd) (r : List Int), hs[i]? = some h → l[i]? = some r → h.2.1 = r.length ∧ r.length ≤ h.2.2 ∧ Kd.C (Kd.int .i64) w0 h.1 r.length r
theorem Hds.nil (w0 : World) : Hds w0 [] [] := ⟨rfl, fun i h r hi => by simp at hi⟩
theorem Hds.snoc {w0 : World} {hs : List Hd} {l : List (List Int)} (h : Hds w0 hs l) {A : Option Addr} {c : Nat} {r : List Int} (hc : r.length ≤ c) (hr : Kd.C (Kd.int .i64) w0 A r.length r) : Hds w0 (hs ++ [(A, r.length, c)]) (l ++ [r]) := by
  refine ⟨by simp [h.len], fun i x y hx hy => ?_⟩
  by_cases e : i < hs.length
  · rw [List.getElem?_append_left e] at hx
    rw [List.getElem?_append_left (by rw [← h.len]; exact e)] at hy
    exact h.at_ i x y hx hy
  · have h1 := (List.getElem?_eq_some_iff.1 hx).1
    rw [List.length_append, List.length_singleton] at h1
    obtain rfl : i = hs.length := by omega
    rw [List.getElem?_concat_length] at hx
    rw [h.len, List.getElem?_concat_length] at hy
    cases hx
    cases hy
    exact ⟨rfl, hc, hr⟩
theorem Hds.reads {w0 w : World} {hs : List Hd} {l : List (List Int)} (h : Hds w0 hs l) (hb : Below w0.heap.size w0 w) {A : Option Addr} (hr : Kd.C kh w A hs.length hs) : Kd.C (Kd.slice 3 (Kd.int .i64)) w A l.length l := by
  obtain ⟨r1, r2, r3⟩ := hr
  refine ⟨rfl, by rw [← h.len]; exact r2, fun hn => ?_⟩
  obtain ⟨ad, e, hc⟩ := r3 (by rw [h.len]; exact hn)
  refine ⟨ad, e, fun j p hj => ?_⟩
  have hjl := (List.getElem?_eq_some_iff.1 hj).1
  obtain ⟨x, hx⟩ : ∃ x, hs[j]? = some x := ⟨_, List.getElem?_eq_getElem (by rw [h.len]; exact hjl)⟩
  obtain ⟨c, c1, c2, c3⟩ := hc j x hx
  obtain ⟨q1, q2, q3⟩ := h.at_ j x p hx hj
  refine ⟨c, c1, ⟨x.1, x.2.2, ?_, q2, Kd.C_below q3 hb⟩, c3⟩
  rw [c2, ← q1]
/-- An account and a slice of rows, both of the call's own. -/
structure Cw (w0 w : World) (F P : Nat → Prop) (g : Nat) (s : Ac) (v : Value) (hs : List Hd) : Prop where
  t : Rep w F g s
  r : kh.R 23 w w0.heap.size P v hs
  f0 : ∀ k, F k → w0.heap.size ≤ k ∧ k < w.heap.size
  fp : ∀ k, F k → ¬ P k
  p0 : ∀ k, P k → w0.heap.size ≤ k ∧ k < w.heap.size
  bl : Below w0.heap.size w0 w
section
variable {w0 w w' : World} {F P : Nat → Prop} {g : Nat} {s s' : Ac} {v v' : Value} {hs hs' : List Hd}
theorem Cw.below (h : Cw w0 w F P g s v hs) (hb : Below w.heap.size w w') : Cw w0 w' F P g s v hs :=
  ⟨h.t.below hb, Kd.R_below h.r hb, fun k hk => ⟨(h.f0 k hk).1, Nat.lt_of_lt_of_le (h.f0 k hk).2 hb.size⟩, h.fp, fun k hk => ⟨(h.p0 k hk).1, Nat.lt_of_lt_of_le (h.p0 k hk).2 hb.size⟩, below_step h.bl hb⟩
theorem Cw.acct (h : Cw w0 w F P g s v hs) (hr : Rep w' F g s') (ht : Turns w w' F) : Cw w0 w' F P g s' v hs :=
  ⟨hr, Kd.R_kept h.r ht.kept (fun k hk hf => h.fp k hf hk), fun k hk => ⟨(h.f0 k hk).1, Nat.lt_of_lt_of_le (h.f0 k hk).2 ht.size⟩, h.fp, fun k hk => ⟨(h.p0 k hk).1, Nat.lt_of_lt_of_le (h.p0 k hk).2 ht.size⟩, ht.to_below h.bl h.bl.size (fun k hk => (h.f0 k hk).1)⟩
theorem Cw.app (h : Cw w0 w F P g s v hs) (hr : kh.R 23 w' w0.heap.size (fun k => P k ∨ w.heap.size ≤ k) v' hs') (hg : w.grownBy w' v.ownBlock) : Cw w0 w' F (fun k => (P k ∨ w.heap.size ≤ k) ∧ w0.heap.size ≤ k ∧ k < w'.heap.size) g s v' hs' := by
  have hk : Kept w w' P := Kept.of_grown hg (Kept.refl _ _) (fun k e => .inl (h.r.1 k e))
  refine ⟨h.t.turns hk h.fp, Kd.R_mono (Kd.R_bound hr) (fun k q => ⟨q.1, q.2.1, q.2.2.1⟩), fun k q => ⟨(h.f0 k q).1, Nat.lt_of_lt_of_le (h.f0 k q).2 hk.1⟩, ?_, fun k q => q.2, h.bl.grown hg h.bl.size (fun k e => (h.p0 k (h.r.1 k e)).1)⟩
  rintro k hf ⟨hp | hp, _⟩
  · exact h.fp k hf hp
  · have := (h.f0 k hf).2
    omega
end
/-- A block that is neither's. -/
def Free (F P : Nat → Prop) (B q : Nat) : Prop := B ≤ q ∧ ¬ F q ∧ ¬ P q
theorem Cw.fresh {w0 w : World} {F P : Nat → Prop} {g : Nat} {s : Ac} {v : Value} {hs : List Hd} (h : Cw w0 w F P g s v hs) (q : Nat) (hq : w.heap.size ≤ q) : Free F P w0.heap.size q :=
  ⟨Nat.le_trans h.bl.size hq, fun hf => by have := (h.f0 q hf).2; omega, fun hp => by have := (h.p0 q hp).2; omega⟩
theorem Cw.setc {w0 w : World} {F P : Nat → Prop} {g : Nat} {s : Ac} {v : Value} {hs : List Hd} (h : Cw w0 w F P g s v hs) {p : Addr} (hp : Free F P w0.heap.size p.block) (u : Value) : Cw w0 (w.setCell p u) F P g s v hs := by
  have hk : Kept w (w.setCell p u) (fun k => k = p.block) := Kept.setCell (S := fun k => k = p.block) (p := p) (Kept.refl _ _) (.inl rfl) _
  exact ⟨h.t.turns hk (fun k hf e => hp.2.1 (e ▸ hf)), Kd.R_kept h.r hk (fun k hf e => hp.2.2 (e ▸ hf)), fun k hf => ⟨(h.f0 k hf).1, by simpa using (h.f0 k hf).2⟩, h.fp, fun k hf => ⟨(h.p0 k hf).1, by simpa using (h.p0 k hf).2⟩, h.bl.setCell hp.1 u⟩
theorem core_lit' {w : World} {F : Nat → Prop} {g : Nat} {s : Ac} (h : Rep w F g s) (j : Int) {b d ch tk : Int} (hc : coreOf s j = ⟨b, d, ch, tk⟩) : Calls Try.prog 29 #[.pointer (some ⟨g, 0, none⟩), .int .i64 j] w fun e w' => e = .returned (.agg #[.int .i64 b, .int .i64 d, .int .i64 ch, .int .i64 tk]) ∧ Below w.heap.size w w' := by
  have q := core_of h j
  rw [hc] at q
  exact q
def CwE (w0 w : World) (g : Nat) (s : Ac) (v : Value) (hs : List Hd) : Prop := ∃ F P, Cw w0 w F P g s v hs
end Go.Proofs.Ytgfkcmmhnibaiaa.Ac
