/- octet's reader, walked by hand: a number is read; the end; a reader is opened; nobody's reader. -/
import Derived.Test.YtgfkcmmhnibaiaaRwReader
namespace Go.Proofs.Ytgfkcmmhnibaiaa.PRw
open Go.RowKit Go.Proofs.YtgfkcmmhnibaiaaW.PrintWords Go.Proofs.YtgfkcmmhnibaiaaW.PrintLast Go.Proofs.YtgfkcmmhnibaiaaW.PrintMore
set_option linter.unusedVariables false
set_option linter.unusedSimpArgs false

theorem cut_at (A : Option Addr) (n c m : Nat) (hm : m ≤ n) :
    ∀ W : World, (Instr.slice 27 (.slice A n c) (some (.int .i64 (m : Int))) none none).run Try.prog W = .ok (.slice (if c = m then A else A.map (·.add m)) (n - m) (c - m)) W := by
  intro W
  obtain ⟨i0, hi, _, hsz, _⟩ := info_parts info5
  have hel : Try.prog.elem 27 = 5 := by simp [Program.elem, Try.underlying27]
  have hu : Try.prog.underlying 27 = some (.slice (Try.prog.elem 27)) := by rw [hel]; exact Try.underlying27
  rw [run_slice_l W 27 A n c hu .i64 (m : Int) (Int.natCast_nonneg _) (by omega), hel]
  simp [sizeOf, typeInfo, hi, hsz, sliced, Result.andThen]
theorem cut_C {w : World} {A : Option Addr} {c : Nat} {l : List Int} (h : Kd.C (Kd.int .u8) w A l.length l) (m : Nat) (hm : m ≤ l.length) (hc : l.length ≤ c) :
    Kd.C (Kd.int .u8) w (if c = m then A else A.map (·.add m)) (l.drop m).length (l.drop m) := by
  have := (Kd.reads_of_C (enc := Value.int .u8) (d := (0 : Int)) (h1 := fun _ => rfl) h).drop_ m hm hc
  rw [List.length_drop]
  exact Kd.C_of_reads (h1 := fun _ => rfl) this
theorem cut_block {P : Nat → Prop} {A : Option Addr} {c m : Nat} (h : ∀ ad, A = some ad → P ad.block) : ∀ ad, (if c = m then A else A.map (·.add m)) = some ad → P ad.block := by
  intro ad he
  split at he
  · exact h ad he
  · obtain ⟨b, rfl, rfl⟩ := Option.map_eq_some_iff.1 he
    rw [add_block]
    exact h b rfl

theorem num_bad (k : Nat) (g : Nat) (l : List Int) (limit n : Int) (w : World) (h : Rdr w g l 0) (hn : octet_number.f k l = some (n, 0)) :
    Calls Try.prog 61 #[.pointer (some ⟨g, 0, none⟩), .int .u64 limit] w fun e w' => e = .returned (.int .u64 0) ∧ Rdr w' g [] 3 ∧ w.grownBy w' (some g) := by
  have HN := Aside0.mk hn
  have HR := Aside0.mk h
  obtain ⟨A, c, h1, h2, h3, h4⟩ := h
  have k0 : w.cell? ⟨g, 0, none⟩ = some (.slice A l.length c) := (blk_cell h1 0).trans rfl
  have H3 := Aside0.mk h3
  have H2 := Aside0.mk h2
  clear h1 h2 h3 h4 hn
  go_enter Try.func61, Try.ntmps61
  go_wp2_with (first
    | (go_at_call 66; (with_reducible refine (err_of g l 0 _ HR.out).mono ?_); rintro e w' ⟨rfl, rfl⟩)
    | (go_at_call 71; (with_reducible refine (octet_number.calls k A c l n 0 _ H3.out H2.out HN.out).mono ?_); rintro e w' ⟨rfl, ⟨nd, rfl⟩⟩)
    | (go_at_call 72; have hx : Rdr (w.drewN nd) g l 0 := HR.out; (with_reducible refine (fail_of g l 0 3 _ hx).mono ?_); clear hx; rintro e w1 ⟨rfl, hr1, hg1⟩; have HR1 := Aside0.mk hr1; have HG1 := Aside0.mk hg1; clear hr1 hg1))
  go_ret
  exact ⟨rfl, HR1.out, (grown_drewN (World.grownBy.refl w _) nd |> fun a => grown_trans a HG1.out)⟩
theorem num_over (k : Nat) (g : Nat) (l : List Int) (limit n kk : Int) (w : World) (h : Rdr w g l 0) (hn : octet_number.f k l = some (n, kk)) (hk : (kk == 0) = false) (hl : decide (limit < n) = true) :
    Calls Try.prog 61 #[.pointer (some ⟨g, 0, none⟩), .int .u64 limit] w fun e w' => e = .returned (.int .u64 0) ∧ Rdr w' g [] 5 ∧ w.grownBy w' (some g) := by
  have HN := Aside0.mk hn
  have HR := Aside0.mk h
  obtain ⟨A, c, h1, h2, h3, h4⟩ := h
  have k0 : w.cell? ⟨g, 0, none⟩ = some (.slice A l.length c) := (blk_cell h1 0).trans rfl
  have H3 := Aside0.mk h3
  have H2 := Aside0.mk h2
  clear h1 h2 h3 h4 hn
  go_enter Try.func61, Try.ntmps61
  go_wp2_with (first
    | (go_at_call 66; (with_reducible refine (err_of g l 0 _ HR.out).mono ?_); rintro e w' ⟨rfl, rfl⟩)
    | (go_at_call 71; (with_reducible refine (octet_number.calls k A c l n kk _ H3.out H2.out HN.out).mono ?_); rintro e w' ⟨rfl, ⟨nd, rfl⟩⟩)
    | (go_at_call 72; have hx : Rdr (w.drewN nd) g l 0 := HR.out; (with_reducible refine (fail_of g l 0 5 _ hx).mono ?_); clear hx; rintro e w1 ⟨rfl, hr1, hg1⟩; have HR1 := Aside0.mk hr1; have HG1 := Aside0.mk hg1; clear hr1 hg1))
  go_ret
  exact ⟨rfl, HR1.out, (grown_drewN (World.grownBy.refl w _) nd |> fun a => grown_trans a HG1.out)⟩
theorem num_ok (k : Nat) (g : Nat) (l : List Int) (limit n : Int) (m : Nat) (w : World) (h : Rdr w g l 0) (hn : octet_number.f k l = some (n, (m : Int))) (hm0 : 0 < m) (hm : m ≤ l.length) (hl : decide (limit < n) = false) :
    Calls Try.prog 61 #[.pointer (some ⟨g, 0, none⟩), .int .u64 limit] w fun e w' => e = .returned (.int .u64 n) ∧ Rdr w' g (l.drop m) 0 ∧ w.grownBy w' (some g) := by
  have HN := Aside0.mk hn
  have HR := Aside0.mk h
  obtain ⟨A, c, h1, h2, h3, h4⟩ := h
  have k0 : w.cell? ⟨g, 0, none⟩ = some (.slice A l.length c) := (blk_cell h1 0).trans rfl
  have f0 := blk_frozen h1 0
  have H1 := Aside0.mk h1
  have H3 := Aside0.mk h3
  have H2 := Aside0.mk h2
  have H4 := Aside0.mk h4
  have HM := Aside0.mk hm
  have hk : ((m : Int) == 0) = false := beq_eq_false_iff_ne.mpr (by omega)
  have hcut := cut_at A l.length c m hm
  obtain ⟨A', hA'⟩ : ∃ A', A' = (if c = m then A else A.map (·.add m)) := ⟨_, rfl⟩
  rw [← hA'] at hcut
  have HA := Aside0.mk hA'
  clear h1 h2 h3 h4 hn hm hA' hm0
  go_enter Try.func61, Try.ntmps61
  go_wp2_with (first
    | (go_at_call 66; (with_reducible refine (err_of g l 0 _ HR.out).mono ?_); rintro e w' ⟨rfl, rfl⟩)
    | (go_at_call 71; (with_reducible refine (octet_number.calls k A c l n (m : Int) _ H3.out H2.out HN.out).mono ?_); rintro e w' ⟨rfl, ⟨nd, rfl⟩⟩))
  go_ret
  have hg : w.grownBy ((w.setCell ⟨g, 0, none⟩ (.slice A' (l.length - m) (c - m))).drewN nd) (some g) := grown_drewN (grown_set w g 0 _) nd
  refine ⟨rfl, ⟨A', c - m, ?_, ?_, ?_, ?_⟩, hg⟩
  · rw [List.length_drop]
    exact blk_put (cs := #[.slice A l.length c, .int .i64 0]) H1.out 0 _ rfl
  · have := H2.out
    rw [List.length_drop]
    omega
  · have h5 := cut_C H3.out m HM.out H2.out
    rw [← HA.out] at h5
    have h6 := cut_block (P := fun b => b ≠ g ∧ ∃ cs, w.heap[b]? = some (.cells cs 5 (0, 0))) (c := c) (m := m) H4.out
    rw [← HA.out] at h6
    exact C_grown h5 hg (fun ad e => (h6 ad e).1)
  · have h6 := cut_block (P := fun b => b ≠ g ∧ ∃ cs, w.heap[b]? = some (.cells cs 5 (0, 0))) (c := c) (m := m) H4.out
    rw [← HA.out] at h6
    intro ad e
    obtain ⟨q1, cs, q2⟩ := h6 ad e
    exact ⟨q1, cs, (hg.block ad.block (blk_lt q2) (fun he => q1 (Option.some.inj he))).trans q2⟩
theorem num_err (g : Nat) (l : List Int) (er limit : Int) (w : World) (h : Rdr w g l er) (he : (er != 0) = true) :
    Calls Try.prog 61 #[.pointer (some ⟨g, 0, none⟩), .int .u64 limit] w fun e w' => e = .returned (.int .u64 0) ∧ w = w' := by
  have HR := Aside0.mk h
  clear h
  go_enter Try.func61, Try.ntmps61
  go_wp2_with (go_at_call 66; (with_reducible refine (err_of g l er _ HR.out).mono ?_); rintro e w' ⟨rfl, rfl⟩)
  go_ret
  exact ⟨rfl, rfl⟩
theorem num_nil (limit : Int) (w : World) : Calls Try.prog 61 #[.pointer none, .int .u64 limit] w fun e w' => e = .returned (.int .u64 0) ∧ w = w' := by
  go_enter Try.func61, Try.ntmps61
  go_wp2_with (go_at_call 66; (with_reducible refine (err_nil _).mono ?_); rintro e w' ⟨rfl, rfl⟩)
  go_ret
  exact ⟨rfl, rfl⟩
theorem end_nil (w : World) : Calls Try.prog 62 #[.pointer none] w fun e w' => e = .returned (.int .i64 2) ∧ w = w' := by
  go_enter Try.func62, Try.ntmps62
  go_wp2_with (go_at_call 66; (with_reducible refine (err_nil _).mono ?_); rintro e w' ⟨rfl, rfl⟩)
  go_ret
  exact ⟨rfl, rfl⟩
/-- What End tells. -/
def endErr (l : List Int) (er : Int) : Int := if er = 0 then (if l = [] then 0 else 3) else er
theorem end_of (g : Nat) (l : List Int) (er : Int) (w : World) (h : Rdr w g l er) :
    Calls Try.prog 62 #[.pointer (some ⟨g, 0, none⟩)] w fun e w' => e = .returned (.int .i64 (endErr l er)) ∧ w = w' := by
  have HR := Aside0.mk h
  clear h
  unfold endErr
  by_cases he : er = 0
  · subst he
    rw [if_pos rfl]
    cases l with
    | nil =>
      rw [if_pos rfl]
      go_enter Try.func62, Try.ntmps62
      go_wp2_with (first | (go_at_call 66; (with_reducible refine (err_of g [] 0 _ HR.out).mono ?_); rintro e w' ⟨rfl, rfl⟩) | (go_at_call 73; (with_reducible refine (left_of g [] 0 _ HR.out).mono ?_); rintro e w' ⟨rfl, rfl⟩))
      go_ret
      exact ⟨rfl, rfl⟩
    | cons x l =>
      rw [if_neg (by simp)]
      obtain ⟨l', hl'⟩ : ∃ l', l' = x :: l := ⟨_, rfl⟩
      rw [← hl'] at HR
      have hp : decide (0 < (l'.length : Int)) = true := decide_eq_true (by rw [hl', List.length_cons]; omega)
      have hp2 : decide (0 < l'.length) = true := decide_eq_true (by rw [hl']; simp)
      clear hl'
      go_enter Try.func62, Try.ntmps62
      go_wp2_with (first | (go_at_call 66; (with_reducible refine (err_of g l' 0 _ HR.out).mono ?_); rintro e w' ⟨rfl, rfl⟩) | (go_at_call 73; (with_reducible refine (left_of g l' 0 _ HR.out).mono ?_); rintro e w' ⟨rfl, rfl⟩))
      go_ret
      exact ⟨rfl, rfl⟩
  · rw [if_neg he]
    have he1 : (er != 0) = true := bne_iff_ne.mpr he
    clear he
    go_enter Try.func62, Try.ntmps62
    go_wp2_with (go_at_call 66; (with_reducible refine (err_of g l er _ HR.out).mono ?_); rintro e w' ⟨rfl, rfl⟩)
    go_ret
    exact ⟨rfl, rfl⟩
theorem open_of (A : Option Addr) (c : Nat) (l : List Int) (w : World) (hr : Kd.C (Kd.int .u8) w A l.length l) (hc : l.length ≤ c) (hl : l.length < 140737488355328) :
    Calls Try.prog 60 #[.slice A l.length c] w fun e w' => ∃ g, e = .returned (.pointer (some ⟨g, 0, none⟩)) ∧ Rdr w' g l 0 ∧ w.heap.size ≤ g ∧ Below w.heap.size w w' := by
  have HR := Aside0.mk hr
  have HC := Aside0.mk hc
  have HL := Aside0.mk (show slices_Clone_byte_byte.f l = some l by unfold slices_Clone_byte_byte.f; rw [if_pos hl])
  clear hr hc hl
  have hu := Try.underlying109
  go_enter Try.func60, Try.ntmps60
  go_wp2_with (go_at_call 68; (with_reducible refine (slices_Clone_byte_byte.calls A c l l _ HR.out HC.out HL.out).mono ?_); rintro e w1 ⟨v1, rfl, ho1, hb1⟩; obtain ⟨A1, c1, rfl⟩ := Kd.R_slice ho1; have HO1 := Aside0.mk ho1; have HB1 := Aside0.mk hb1; clear ho1 hb1)
  go_ret
  obtain ⟨q1, q2, q3⟩ := Kd.R_reads' HO1.out
  refine ⟨w1.heap.size, rfl, ⟨A1, c1, heap_alloc_new w1 _, q2, Kd.C_alloc q3 _, fun ad e => ?_⟩, HB1.out.size, HB1.out.alloc HB1.out.size _⟩
  have h1 := Kd.R_lt HO1.out ad.block (by rw [e]; rfl)
  obtain ⟨cs, h2⟩ := Kd.R_typed HO1.out ad.block (by rw [e]; rfl)
  exact ⟨by omega, cs, (Below.heap_alloc _ _ _ h1).trans h2⟩
end Go.Proofs.Ytgfkcmmhnibaiaa.PRw
