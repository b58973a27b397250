/- RingNobody, walked by hand. -/
import Derived.Test.YtpammdblenfhgaaRgf
namespace Go.Proofs.Ytpammdblenfhgaa.Rg
open Go.RowKit Go.Proofs.YtpammdblenfhgaaW.PrintWords Go.Proofs.YtpammdblenfhgaaW.PrintLast Go.Proofs.YtpammdblenfhgaaW.PrintMore Pt PRg Go.Proofs.Ytpammdblenfhgaa.FqMath
set_option linter.unusedVariables false
set_option linter.unusedSimpArgs false
set_option maxHeartbeats 4000000 in
set_option maxRecDepth 100000 in
theorem nobody (a0 a1 : Int) (w : World) : Calls Try.prog 8 #[.int .i64 a0, .int .i64 a1] w fun e w' => e = .returned (.bool true) ∧ Below w.heap.size w w' := by
  go_enter Try.func8, Try.ntmps8
  go_wp2
  have HB := Aside0.mk (below_alloc (below_alloc (Below.refl w.heap.size w) (Obj.cells #[Value.int IntKind.u64 0, Value.slice none 0 0, Value.int IntKind.u64 0, Value.int IntKind.u64 0] 60)) (Obj.cells #[Value.pointer none, Value.pointer (some { block := w.heap.size, off := 0 })] 24))
  have h1 := heap_alloc_new w (Obj.cells #[Value.int IntKind.u64 0, Value.slice none 0 0, Value.int IntKind.u64 0, Value.int IntKind.u64 0] 60)
  have h2 := heap_alloc_new (w.alloc (Obj.cells #[Value.int IntKind.u64 0, Value.slice none 0 0, Value.int IntKind.u64 0, Value.int IntKind.u64 0] 60)) (Obj.cells #[Value.pointer none, Value.pointer (some { block := w.heap.size, off := 0 })] 24)
  have h3 := (Below.heap_alloc (w.alloc (Obj.cells #[Value.int IntKind.u64 0, Value.slice none 0 0, Value.int IntKind.u64 0, Value.int IntKind.u64 0] 60)) (Obj.cells #[Value.pointer none, Value.pointer (some { block := w.heap.size, off := 0 })] 24) w.heap.size (by simp)).trans h1
  have e0 : (w.alloc (Obj.cells #[Value.int IntKind.u64 0, Value.slice none 0 0, Value.int IntKind.u64 0, Value.int IntKind.u64 0] 60)).heap.size = w.heap.size + 1 := by simp
  rw [e0] at h2
  generalize (w.alloc (Obj.cells #[Value.int IntKind.u64 0, Value.slice none 0 0, Value.int IntKind.u64 0, Value.int IntKind.u64 0] 60)).alloc (Obj.cells #[Value.pointer none, Value.pointer (some { block := w.heap.size, off := 0 })] 24) = W at *
  have c0 : W.cell? ⟨w.heap.size + 1, 0, none⟩ = some (.pointer none) := (blk_cell h2 0).trans rfl
  have c1 : W.cell? ⟨w.heap.size + 1, 1, none⟩ = some (.pointer (some ⟨w.heap.size, 0, none⟩)) := (blk_cell h2 1).trans rfl
  have N0 : Aside0 (NoneV W (.pointer none)) := ⟨.inl rfl⟩
  have N1 : Aside0 (NoneV W (.pointer (some ⟨w.heap.size, 0, none⟩))) := ⟨.inr ⟨_, rfl, (blk_cell h3 0).trans rfl⟩⟩
  have HBS : Aside0 (∀ W2, Below W.heap.size W W2 → Below w.heap.size w W2) := ⟨fun W2 h => below_step HB.out h⟩
  clear h1 h2 h3 e0
  generalize w.heap.size = q at c0 c1 N1 ⊢
  go_loopg [7] 3 (fun kq v7 w' => ∃ (i : Nat), v7 = .int .i64 (i : Int) ∧ Aside0 (i + kq = 3) ∧ Aside0 (i ≤ 2) ∧ W = w')
  case atStart => exact ⟨0, rfl, ⟨by omega⟩, ⟨by omega⟩, rfl⟩
  case round =>
    obtain ⟨i, rfl, HK, HI, rfl⟩ := hrel
    cases gk with
    | zero => exact absurd HK.out (by have := HI.out; omega)
    | succ k1 =>
      by_cases cc : i < 2
      · obtain ⟨p, hp, HN⟩ : ∃ p, W.cell? ⟨q + 1, i, none⟩ = some p ∧ Aside0 (NoneV W p) := by
          have : i = 0 ∨ i = 1 := by omega
          rcases this with rfl | rfl
          · exact ⟨_, c0, N0⟩
          · exact ⟨_, c1, N1⟩
        have d1 : decide ((i : Int) < 2) = true := decide_eq_true (by omega)
        have d2 : decide (i < 2) = true := decide_eq_true cc
        have p0 := eq_true (show (0 : Int) ≤ (i : Int) by omega)
        have p1 := eq_true (show (i : Int) < 2 by omega)
        have HCC := Aside0.mk cc
        clear cc c0 c1
        go_wp2_with (first
          | (go_at_call 24; (with_reducible refine (next_none HN.out).mono ?_); rintro e w' ⟨rfl, rfl⟩)
          | (go_at_call 16; (with_reducible refine (pick_none HN.out).mono ?_); rintro e w' ⟨rfl, rfl⟩)
          | (go_at_call 20; (with_reducible refine (lead_none HN.out _).mono ?_); rintro e w' ⟨rfl, rfl⟩)
          | (go_at_call 25; (with_reducible refine (join_none HN.out _ _).mono ?_); rintro e w' ⟨rfl, rfl⟩)
          | (go_at_call 26; (with_reducible refine (leave_none HN.out _).mono ?_); rintro e w' ⟨rfl, rfl⟩)
          | (go_at_call 27; (with_reducible refine (block_none HN.out _).mono ?_); rintro e w' ⟨rfl, rfl⟩)
          | (go_at_call 28; (with_reducible refine (wake_none HN.out _).mono ?_); rintro e w' ⟨rfl, rfl⟩)
          | (go_at_call 29; (with_reducible refine (weigh_none HN.out _ _).mono ?_); rintro e w' ⟨rfl, rfl⟩)
          | (go_at_call 17; (with_reducible refine (members_none HN.out).mono ?_); rintro e w' ⟨rfl, rfl⟩)
          | (go_at_call 30; (with_reducible refine (fork_none HN.out).mono ?_); rintro e w' ⟨rfl, rfl⟩))
        go_roundg k1
        case measure => omega
        case rel => exact ⟨i + 1, (by congr 1; unfold wrap64; have := HCC.out; omega), ⟨by have := HK.out; omega⟩, ⟨HCC.out⟩, rfl⟩
      · have d1 : decide ((i : Int) < 2) = false := decide_eq_false (by omega)
        have d2 : decide (i < 2) = false := decide_eq_false cc
        obtain rfl : i = 2 := by have := HI.out; omega
        clear cc
        go_wp2_with (go_at_call 19; (with_reducible refine (awake_calls _).mono ?_); rintro e w8 ⟨rfl, hb⟩; have HB8 := Aside0.mk (HBS.out _ hb); clear hb)
        go_ret
        exact ⟨rfl, HB8.out⟩
end Go.Proofs.Ytpammdblenfhgaa.Rg
