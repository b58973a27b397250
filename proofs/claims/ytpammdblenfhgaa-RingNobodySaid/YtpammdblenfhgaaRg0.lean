/- ring.Ring, walked by hand: its blocks. -/
import Derived.Test.YtpammdblenfhgaaPtMap
import Derived.Test.YtpammdblenfhgaaPRgx0
namespace Go.Proofs.Ytpammdblenfhgaa.Rg
open Go.RowKit Go.Proofs.YtpammdblenfhgaaW.PrintWords Go.Proofs.YtpammdblenfhgaaW.PrintLast Go.Proofs.YtpammdblenfhgaaW.PrintMore Pt PRg
set_option linter.unusedVariables false
set_option linter.unusedSimpArgs false
abbrev Mb := S103
def mb4 (x : Mb) : List Value := [.int .i64 x.f0, .int .u64 x.f1, .int .u64 x.f2, .bool x.f3]
def mbs (l : List Mb) : List Value := l.flatMap mb4
theorem mbs_cons (x : Mb) (l : List Mb) : mbs (x :: l) = .int .i64 x.f0 :: .int .u64 x.f1 :: .int .u64 x.f2 :: .bool x.f3 :: mbs l := by simp [mbs, mb4]
theorem mbs_append (l l' : List Mb) : mbs (l ++ l') = mbs l ++ mbs l' := by simp [mbs]
theorem mbs_length (l : List Mb) : (mbs l).length = l.length * 4 := by
  induction l with
  | nil => rfl
  | cons s l ih => rw [mbs_cons]; simp only [List.length_cons]; omega
theorem mbs_one (l : List Mb) : ∀ v ∈ mbs l, v.oneCell' = true := by
  intro v hv
  obtain ⟨x, _, hx⟩ := List.mem_flatMap.1 hv
  simp only [mb4, List.mem_cons, List.not_mem_nil, or_false] at hx
  rcases hx with rfl | rfl | rfl | rfl <;> rfl
theorem mbs_get (l : List Mb) (j : Nat) (c : Mb) (h : l[j]? = some c) :
    (mbs l)[j * 4]? = some (.int .i64 c.f0) ∧ (mbs l)[j * 4 + 1]? = some (.int .u64 c.f1) ∧ (mbs l)[j * 4 + 2]? = some (.int .u64 c.f2) ∧ (mbs l)[j * 4 + 3]? = some (.bool c.f3) := by
  induction l generalizing j with
  | nil => simp at h
  | cons t l ih =>
    rw [mbs_cons]
    cases j with
    | zero =>
      simp at h
      subst h
      simp
    | succ j =>
      have h2 := ih j (by simpa using h)
      rw [show (j + 1) * 4 = j * 4 + 1 + 1 + 1 + 1 from by omega]
      simpa using h2
theorem mbs_set (l : List Mb) (j : Nat) (c : Mb) (h : j < l.length) :
    ((((mbs l).set (j * 4) (.int .i64 c.f0)).set (j * 4 + 1) (.int .u64 c.f1)).set (j * 4 + 2) (.int .u64 c.f2)).set (j * 4 + 3) (.bool c.f3) = mbs (l.set j c) := by
  induction l generalizing j with
  | nil => simp at h
  | cons s l ih =>
    cases j with
    | zero => rw [List.set_cons_zero, mbs_cons, mbs_cons]; rfl
    | succ j =>
      rw [List.set_cons_succ, mbs_cons, mbs_cons, show (j + 1) * 4 = j * 4 + 1 + 1 + 1 + 1 from by omega, show j * 4 + 1 + 1 + 1 + 1 + 1 = (j * 4 + 1) + 1 + 1 + 1 + 1 from rfl, show j * 4 + 1 + 1 + 1 + 1 + 2 = (j * 4 + 2) + 1 + 1 + 1 + 1 from by omega, show j * 4 + 1 + 1 + 1 + 1 + 3 = (j * 4 + 3) + 1 + 1 + 1 + 1 from by omega]
      simp only [List.set_cons_succ]
      rw [ih j (by simpa using h)]
/-- A slice of members, its row in P (if it has one). -/
def Row (w : World) (P : Nat → Prop) (v : Value) (l : List Mb) : Prop :=
  (v = .slice none 0 0 ∧ l = []) ∨ ∃ a cap sp, v = .slice (some ⟨a, 0, none⟩) l.length cap ∧ P a ∧ w.heap[a]? = some (.cells (mbs l ++ sp).toArray 103 (0, 0)) ∧ l.length * 4 + sp.length = cap * 4 ∧ cap ≤ maxLen
section
variable {w w' : World} {P Q : Nat → Prop} {v : Value} {l : List Mb}
theorem Row.same (h : Row w P v l) (hs : ∀ k, P k → k < w.heap.size → w'.heap[k]? = w.heap[k]?) : Row w' P v l := by
  rcases h with h | ⟨a, cap, sp, e, hp, hb, r⟩
  · exact .inl h
  · exact .inr ⟨a, cap, sp, e, hp, (hs a hp (blk_lt hb)).trans hb, r⟩
theorem Row.kept {S : Nat → Prop} (h : Row w P v l) (k : Kept w w' S) (hn : ∀ k, P k → ¬ S k) : Row w' P v l := h.same (fun i hi hl => k.2 i hl (hn i hi))
theorem Row.mono (h : Row w P v l) (hq : ∀ k, P k → Q k) : Row w Q v l := by
  rcases h with h | ⟨a, cap, sp, e, hp, r⟩
  · exact .inl h
  · exact .inr ⟨a, cap, sp, e, hq a hp, r⟩
theorem Row.bound (h : Row w P v l) : Row w (fun k => P k ∧ k < w.heap.size) v l := by
  rcases h with h | ⟨a, cap, sp, e, hp, hb, r⟩
  · exact .inl h
  · exact .inr ⟨a, cap, sp, e, ⟨hp, blk_lt hb⟩, hb, r⟩
theorem Row.slice (h : Row w P v l) : ∃ A cap, v = .slice A l.length cap ∧ l.length ≤ cap ∧ cap ≤ maxLen := by
  rcases h with ⟨rfl, rfl⟩ | ⟨a, cap, sp, e, hp, hb, h1, h2⟩
  · exact ⟨none, 0, rfl, Nat.le_refl _, Nat.zero_le _⟩
  · exact ⟨_, cap, e, by omega, h2⟩
/-- Where there is a member there is a row. -/
theorem Row.some_ (h : Row w P v l) (hl : 0 < l.length) : ∃ a cap sp, v = .slice (some ⟨a, 0, none⟩) l.length cap ∧ P a ∧ w.heap[a]? = some (.cells (mbs l ++ sp).toArray 103 (0, 0)) ∧ l.length * 4 + sp.length = cap * 4 ∧ cap ≤ maxLen := by
  rcases h with ⟨_, rfl⟩ | h
  · simp at hl
  · exact h
theorem Row.of_owns {base n : Nat} (h : w.ownsRow base 103 4 v n (mbs l)) (hn : n = l.length) (hp : ∀ k, v.ownBlock = some k → P k) : Row w P v l := by
  subst hn
  obtain ⟨h1, ⟨rfl, h2⟩ | ⟨a, cap, cur, rfl, h2, h3, h4, h5, h6, h7⟩⟩ := h
  · exact .inl ⟨rfl, List.length_eq_zero_iff.1 h2⟩
  · refine .inr ⟨a, cap, cur.toList.drop (l.length * 4), rfl, hp a (by simp [Value.ownBlock]), ?_, ?_, h5⟩
    · rw [h3, ← h7, List.take_append_drop]
    · have e : cur.toList.length = cur.size := Array.length_toList
      rw [List.length_drop, e, h6]
      omega
theorem mb_cells {a : Nat} {sp : List Value} (hb : w.heap[a]? = some (.cells (mbs l ++ sp).toArray 103 (0, 0))) (j : Nat) (c : Mb) (hj : l[j]? = some c) :
    w.cell? ⟨a, j * 4, none⟩ = some (.int .i64 c.f0) ∧ w.cell? ⟨a, j * 4 + 1, none⟩ = some (.int .u64 c.f1) ∧ w.cell? ⟨a, j * 4 + 2, none⟩ = some (.int .u64 c.f2) ∧ w.cell? ⟨a, j * 4 + 3, none⟩ = some (.bool c.f3) := by
  have q := mbs_get l j c hj
  have hl := (List.getElem?_eq_some_iff.mp hj).1
  have hm := mbs_length l
  refine ⟨?_, ?_, ?_, ?_⟩ <;> rw [blk_cell hb, List.getElem?_toArray, List.getElem?_append_left (by omega)]
  · exact q.1
  · exact q.2.1
  · exact q.2.2.1
  · exact q.2.2.2
end
/-- What a ring holds. -/
structure Rg where
  lim : Int
  l : List Mb
  num : Int
  den : Int
structure RepA (w : World) (F : Nat → Prop) (g : Nat) (v : Value) (s : Rg) : Prop where
  fg : F g
  hd : w.heap[g]? = some (.cells #[.int .u64 s.lim, v, .int .u64 s.num, .int .u64 s.den] 60 (0, 0))
  row : Row w (fun k => F k ∧ k ≠ g) v s.l
  lim0 : 2048 ≤ s.lim
  lim1 : s.lim ≤ 1099511627776
/-- A ring at block g, its blocks in F. -/
def Rep (w : World) (F : Nat → Prop) (g : Nat) (s : Rg) : Prop := ∃ v, RepA w F g v s
section
variable {w w' : World} {F G : Nat → Prop} {g : Nat} {v : Value} {s : Rg}
theorem RepA.turns (h : RepA w F g v s) (k : Kept w w' G) (hd : ∀ k, F k → ¬ G k) : RepA w' F g v s :=
  ⟨h.fg, blk_kept h.hd k (hd _ h.fg), h.row.kept k (fun k hk => hd k hk.1), h.lim0, h.lim1⟩
theorem Rep.turns (h : Rep w F g s) (k : Kept w w' G) (hd : ∀ k, F k → ¬ G k) : Rep w' F g s := by
  obtain ⟨v, h⟩ := h
  exact ⟨v, h.turns k hd⟩
theorem Rep.below (h : Rep w F g s) (k : Below w.heap.size w w') : Rep w' F g s := h.turns (G := fun _ => False) (Kept.of_below k _) (fun _ _ => id)
theorem RepA.below (h : RepA w F g v s) (k : Below w.heap.size w w') : RepA w' F g v s := h.turns (G := fun _ => False) (Kept.of_below k _) (fun _ _ => id)
theorem Rep.bound (h : Rep w F g s) : Rep w (fun k => F k ∧ k < w.heap.size) g s := by
  obtain ⟨v, h⟩ := h
  exact ⟨v, ⟨h.fg, blk_lt h.hd⟩, h.hd, (h.row.bound).mono (fun k hk => ⟨⟨hk.1.1, hk.2⟩, hk.1.2⟩), h.lim0, h.lim1⟩
theorem none_some (h : RepA w F g v s) : Calls Try.prog 50 #[.pointer (some ⟨g, 0, none⟩)] w fun e w' => e = .returned (.bool false) ∧ w = w' := by
  have k0 : w.cell? ⟨g, 0, none⟩ = some (.int .u64 s.lim) := (blk_cell h.hd 0).trans rfl
  have d1 : (s.lim == 0) = false := beq_eq_false_iff_ne.mpr (by have := h.lim0; omega)
  clear h
  generalize s.lim = n at *
  go_enter Try.func50, Try.ntmps50
  go_wp2
  go_ret
  exact ⟨rfl, rfl⟩
theorem none_rep (h : Rep w F g s) : Calls Try.prog 50 #[.pointer (some ⟨g, 0, none⟩)] w fun e w' => e = .returned (.bool false) ∧ w = w' := by
  obtain ⟨v, h⟩ := h
  exact none_some h
/-- Nobody made it. -/
def NoneV (w : World) (p : Value) : Prop := p = .pointer none ∨ ∃ g, p = .pointer (some ⟨g, 0, none⟩) ∧ w.cell? ⟨g, 0, none⟩ = some (.int .u64 0)
theorem NoneV.below {p : Value} (h : NoneV w p) (k : Below w.heap.size w w') : NoneV w' p := by
  rcases h with h | ⟨g, h, hc⟩
  · exact .inl h
  · exact .inr ⟨g, h, pw_cell_below k hc⟩
theorem none_v {p : Value} (h : NoneV w p) : Calls Try.prog 50 #[p] w fun e w' => e = .returned (.bool true) ∧ w = w' := by
  rcases h with rfl | ⟨g, rfl, hc⟩
  · go_enter Try.func50, Try.ntmps50
    go_wp2
    go_ret
    exact ⟨rfl, rfl⟩
  · go_enter Try.func50, Try.ntmps50
    go_wp2
    go_ret
    exact ⟨rfl, rfl⟩
end
end Go.Proofs.Ytpammdblenfhgaa.Rg
