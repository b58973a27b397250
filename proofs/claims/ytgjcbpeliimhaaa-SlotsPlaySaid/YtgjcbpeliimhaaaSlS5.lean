/- slots.Table (string), walked by hand: a table is made; who is there; each call in one word. -/
import Derived.Test.YtgjcbpeliimhaaaSlS4
namespace Go.Proofs.Ytgjcbpeliimhaaa.PSl.S
open Go.RowKit Go.Proofs.YtgjcbpeliimhaaaW.PrintWords Go.Proofs.YtgjcbpeliimhaaaW.PrintLast Go.Proofs.YtgjcbpeliimhaaaW.PrintMore
set_option linter.unusedVariables false
set_option linter.unusedSimpArgs false
theorem RepA.mono {w : World} {F G : Nat → Prop} {g a : Nat} {v : Value} {s : Tb El} (h : RepA w F g a v s) (hG : ∀ k, F k → G k) : RepA w G g a v s :=
  ⟨hG _ h.fg, hG _ h.fa, h.ne, h.hd, h.sl, Kd.R_mono h.fr (fun k hk => ⟨hG k hk.1, hk.2⟩), h.pos, h.le, h.nx, h.fin⟩
theorem Rep.mono {w : World} {F G : Nat → Prop} {g : Nat} {s : Tb El} (h : Rep w F g s) (hG : ∀ k, F k → G k) : Rep w G g s := by
  obtain ⟨a, v, h⟩ := h
  exact ⟨a, v, h.mono hG⟩
theorem infoS : (Try.prog.info? 138).map (fun i => (i.zero, i.size, i.bytes)) = some (some (.agg #[.string ByteArray.empty, .int .i64 0, .bool false]), 3, 32) := by kernel_rfl
theorem madeS (m : Nat) : madeCells (#[.string ByteArray.empty, .int .i64 0, .bool false] : Array Value) (m * 3) = (slotCells enc (List.replicate m (((ByteArray.empty : ByteArray) : El), (0 : Int), false))).toArray := by
  apply Array.ext
  · simp [size_madeCells, slotCells_length]
  · intro i h1 h2
    have hi : i < m * 3 := by simpa [size_madeCells] using h1
    have hj : i / 3 < m := by omega
    have q := slotCells_get (enc := enc) (List.replicate m (((ByteArray.empty : ByteArray) : El), (0 : Int), false)) (i / 3) ((ByteArray.empty : ByteArray), 0, false) (by rw [List.getElem?_replicate]; simp [hj])
    have hr : i % 3 = 0 ∨ i % 3 = 1 ∨ i % 3 = 2 := by omega
    have e : ∀ v : Value, (slotCells enc (List.replicate m (((ByteArray.empty : ByteArray) : El), (0 : Int), false)))[i]? = some v → (slotCells enc (List.replicate m (((ByteArray.empty : ByteArray) : El), (0 : Int), false))).toArray[i] = v := by
      intro v hv
      obtain ⟨_, rfl⟩ := List.getElem?_eq_some_iff.mp hv
      rfl
    rcases hr with hr | hr | hr
    · rw [e (.string ByteArray.empty) (by rw [show i = i / 3 * 3 from by omega]; exact q.1)]
      simp [madeCells, hr]
    · rw [e (.int .i64 0) (by rw [show i = i / 3 * 3 + 1 from by omega]; exact q.2.1)]
      simp [madeCells, hr]
    · rw [e (.bool false) (by rw [show i = i / 3 * 3 + 2 from by omega]; exact q.2.2)]
      simp [madeCells, hr]
def newT (m : Nat) : Tb El := { l := List.replicate m (((ByteArray.empty : ByteArray) : El), (0 : Int), false), free := [], next := 0, many := 0 }
set_option maxHeartbeats 4000000 in
theorem new_ok (m : Nat) (h1 : 1 ≤ m) (h2 : m ≤ 1024) (w : World) :
    Calls Try.prog 55 #[.int .i64 (m : Int)] w fun e w' => ∃ g, e = .returned (.tuple #[.pointer (some ⟨g, 0, none⟩), .int .i64 0]) ∧ Rep w' (fun k => w.heap.size ≤ k) g (newT m) ∧ Below w.heap.size w w' := by
  obtain ⟨i0, hi, hzz⟩ := Option.map_eq_some_iff.1 infoS
  simp only [Prod.mk.injEq] at hzz
  obtain ⟨hz0, hz1, hz2⟩ := hzz
  have hmk : ∀ W : World, (Instr.makeSlice 133 (.int .i64 (m : Int)) (.int .i64 (m : Int))).run Try.prog W = .ok (.slice (some ⟨W.heap.size, 0, none⟩) m m) (W.alloc (.cells (slotCells enc (newT m).l).toArray 138)) := by
    intro W
    have hr := run_make (P := Try.prog) W 133 138 i0 _ Try.underlying133 hi hz0 .i64 .i64 (m : Int) (m : Int) (by omega) (by omega) (by rw [hz2]; omega) (by omega)
    simp only [Int.toNat_natCast] at hr
    rw [hz1] at hr
    refine hr.trans ?_
    exact congrArg (fun c => Result.ok (Value.slice (some ⟨W.heap.size, 0, none⟩) m m) (W.alloc (.cells c 138))) (madeS m)
  have HL := Aside0.mk (show (newT m).l.length = m by simp [newT])
  have H1 := Aside0.mk h1
  have H2 := Aside0.mk h2
  have d1 : decide ((m : Int) < 1) = false := decide_eq_false (by omega)
  have d2 : decide ((1024 : Int) < (m : Int)) = false := decide_eq_false (by omega)
  obtain ⟨cs, hcs⟩ : ∃ cs, cs = (slotCells enc (newT m).l).toArray := ⟨_, rfl⟩
  rw [← hcs] at hmk
  have HC := Aside0.mk hcs
  have p0 := eq_true (show (0 : Int) ≤ (m : Int) by omega)
  have hu := Try.underlying135
  clear h1 h2 hcs hi hz0 hz1 hz2
  go_enter Try.func55, Try.ntmps55
  go_wp2
  go_ret2
  have hb : Below w.heap.size w (w.alloc (.cells cs 138)) := (Below.refl _ _).alloc (Nat.le_refl _) _
  refine ⟨w.heap.size + 1, rfl, ⟨w.heap.size, .slice none 0 0, ⟨by show _ ≤ _; omega, Nat.le_refl _, by omega, ?_, ?_, Kd.R_nil _ _ _ _ _, by rw [HL.out]; exact H1.out, by rw [HL.out]; exact H2.out, Nat.zero_le _, fun x hx => absurd hx (by simp [newT])⟩⟩, hb.alloc hb.size _⟩
  · rw [HL.out]
    have e : (w.alloc (.cells cs 138)).heap.size = w.heap.size + 1 := by simp
    rw [← e]
    exact heap_alloc_new _ _
  · refine (Below.heap_alloc _ _ _ (by simp)).trans ?_
    rw [← HC.out]
    exact heap_alloc_new _ _
theorem new_bad (n : Int) (h : n < 1 ∨ 1024 < n) (w : World) :
    Calls Try.prog 55 #[.int .i64 n] w fun e w' => e = .returned (.tuple #[.pointer none, .int .i64 1]) ∧ w = w' := by
  rcases h with h | h
  · have d1 : decide (n < 1) = true := decide_eq_true h
    clear h
    go_enter Try.func55, Try.ntmps55
    go_wp2
    go_ret2
    exact ⟨rfl, rfl⟩
  · have d1 : decide (n < 1) = false := decide_eq_false (by omega)
    have d2 : decide (1024 < n) = true := decide_eq_true h
    clear h
    go_enter Try.func55, Try.ntmps55
    go_wp2
    go_ret2
    exact ⟨rfl, rfl⟩
def genAt (s : Tb El) (j : Nat) : Int := ((s.l[j]?).map (·.2.1)).getD 0
def takeF (s : Tb El) (x : El) : Tb El × Int × Int × Int := match s.free.getLast? with
  | some id => ({ l := s.l.set (id - 1).toNat (x, max (genAt s (id - 1).toNat) 1, true), free := s.free.dropLast, next := s.next, many := wrap64 (s.many + 1) }, id, max (genAt s (id - 1).toNat) 1, 0)
  | none => if s.next < s.l.length then ({ l := s.l.set s.next (x, max (genAt s s.next) 1, true), free := [], next := s.next + 1, many := wrap64 (s.many + 1) }, (s.next : Int) + 1, max (genAt s s.next) 1, 0) else (s, 0, 0, 13)
theorem take_calls {w : World} {F : Nat → Prop} {g : Nat} {s : Tb El} (h : Rep w F g s) (x : El) :
    Calls Try.prog 56 #[.pointer (some ⟨g, 0, none⟩), enc x] w fun e w' => e = .returned (.tuple #[.int .i64 (takeF s x).2.1, .int .i64 (takeF s x).2.2.1, .int .i64 (takeF s x).2.2.2]) ∧ Rep w' F g (takeF s x).1 ∧ Turns w w' F := by
  unfold takeF
  cases hl : s.free.getLast? with
  | none =>
    have hf : s.free = [] := List.getLast?_eq_none_iff.mp hl
    dsimp only
    by_cases hn : s.next < s.l.length
    · rw [if_pos hn]
      obtain ⟨⟨x0, g0, t0⟩, hj⟩ : ∃ p, s.l[s.next]? = some p := ⟨_, List.getElem?_eq_getElem hn⟩
      have eg : genAt s s.next = g0 := by simp [genAt, hj]
      rw [eg]
      exact take_next h x x0 g0 t0 hf hj
    · rw [if_neg hn]
      have hq : s.next = s.l.length := by
        obtain ⟨a, v, h⟩ := h
        have := h.nx
        omega
      refine (take_full h x hf hq).mono ?_
      rintro e w' ⟨rfl, n, rfl⟩
      exact ⟨rfl, h.drewN n, (Turns.refl _ _).drewN n⟩
  | some id =>
    dsimp only
    have hf : s.free = s.free.dropLast ++ [id] := by
      obtain ⟨ys, e⟩ := List.getLast?_eq_some_iff.mp hl
      rw [e, List.dropLast_concat]
    have hb : 1 ≤ id ∧ id ≤ (s.l.length : Int) := by
      obtain ⟨a, v, h⟩ := h
      exact h.fin id (by rw [hf]; simp)
    obtain ⟨j, hj⟩ : ∃ j : Nat, j = (id - 1).toNat := ⟨_, rfl⟩
    have hid : id = (j : Int) + 1 := by omega
    obtain ⟨⟨x0, g0, t0⟩, hjl⟩ : ∃ p, s.l[j]? = some p := ⟨_, List.getElem?_eq_getElem (by omega)⟩
    have eg : genAt s j = g0 := by simp [genAt, hjl]
    rw [← hj, eg, hid]
    exact take_free h x s.free.dropLast j x0 g0 t0 (by rw [← hid]; exact hf) hjl
theorem drop_calls {w : World} {F : Nat → Prop} {g : Nat} {s : Tb El} (h : Rep w F g s) (id gen : Int) (hf : s.free.length < 1000000) :
    Calls Try.prog 57 #[.pointer (some ⟨g, 0, none⟩), .int .i64 id, .int .i64 gen] w fun e w' => e = .returned (.int .i64 (dropF s id gen).2) ∧ Rep w' (grow w F) g (dropF s id gen).1 ∧ Turns w w' F := by
  have keep : ∀ {e : Ending} {w' : World}, e = .returned (.int .i64 10) ∧ w = w' → e = .returned (.int .i64 10) ∧ Rep w' (grow w F) g s ∧ Turns w w' F := by
    rintro e w' ⟨rfl, rfl⟩
    exact ⟨rfl, h.mono (fun k hk => .inl hk), Turns.refl _ _⟩
  cases hl : look s id with
  | none =>
    have hd : dropF s id gen = (s, 10) := by unfold dropF; rw [hl]
    rw [hd]
    exact (drop_no h id gen hd (fun x => by rw [hl]; simp)).mono (fun e w' hq => keep hq)
  | some p =>
    obtain ⟨x0, g0⟩ := p
    by_cases hg : g0 = gen
    · obtain ⟨j, rfl, hj⟩ := look_some hl
      subst hg
      have ej : ((j : Int) + 1 - 1).toNat = j := by omega
      unfold dropF
      rw [hl]
      dsimp only
      rw [if_pos rfl, ej]
      exact drop_yes h j x0 g0 hj hf
    · have hd : dropF s id gen = (s, 10) := by unfold dropF; rw [hl]; dsimp only; rw [if_neg hg]
      rw [hd]
      exact (drop_no h id gen hd (fun x => by rw [hl]; simp [hg])).mono (fun e w' hq => keep hq)
end Go.Proofs.Ytgjcbpeliimhaaa.PSl.S
