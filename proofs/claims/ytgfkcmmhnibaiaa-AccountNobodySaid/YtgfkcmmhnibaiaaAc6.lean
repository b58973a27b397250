/- AccountNobody, walked by hand. -/
import Derived.Test.YtgfkcmmhnibaiaaAc5
namespace Go.Proofs.Ytgfkcmmhnibaiaa.Ac
open Go.RowKit Go.Proofs.YtgfkcmmhnibaiaaW.PrintWords Go.Proofs.YtgfkcmmhnibaiaaW.PrintLast Go.Proofs.YtgfkcmmhnibaiaaW.PrintMore Pt
set_option linter.unusedVariables false
set_option linter.unusedSimpArgs false
theorem row_any (a b : Int) (w : World) : Calls Try.prog 37 #[.int .i64 a, .int .i64 b] w fun e w' => ∃ (A : Option Addr) (n c : Nat), e = .returned (.slice A n c) ∧ Below w.heap.size w w' :=
  (row_calls a b w).mono fun e w' ⟨v, h1, h2, h3⟩ => by
    obtain ⟨A, c, rfl⟩ := Kd.R_slice h2
    exact ⟨A, _, c, h1, h3⟩
theorem task_none' {w : World} {p : Value} (h : NoneV w p) (id : Int) : Calls Try.prog 31 #[p, .int .i64 id] w fun e w' => e = .returned (.agg #[.int .i64 0, .int .i64 0, .int .i64 0, .int .i64 0, .int .i64 0]) ∧ Below w.heap.size w w' := task_none h id
set_option maxHeartbeats 4000000 in
set_option maxRecDepth 100000 in
theorem nobody (id : Int) (A1 : Option Addr) (n1 c1 : Nat) (w : World) :
    Calls Try.prog 7 #[.int .i64 id, .slice A1 n1 c1] w fun e w' => e = .returned (.bool true) ∧ Below w.heap.size w w' := by
  go_enter Try.func7, Try.ntmps7
  go_wp2
  obtain ⟨wz, hwz⟩ : ∃ wz, wz = (w.alloc (.cells Try.zeroCells61 61)).alloc (.cells #[.pointer none, .pointer (some ⟨w.heap.size, 0, none⟩)] 40) := ⟨_, rfl⟩
  have hs : (w.alloc (.cells Try.zeroCells61 61)).heap.size = w.heap.size + 1 := by simp
  have h1 : wz.heap[w.heap.size + 1]? = some (.cells #[.pointer none, .pointer (some ⟨w.heap.size, 0, none⟩)] 40 (0, 0)) := by
    rw [hwz, ← hs]
    exact heap_alloc_new _ _
  have h0 : wz.heap[w.heap.size]? = some (.cells Try.zeroCells61 61 (0, 0)) := by
    rw [hwz]
    refine (Below.heap_alloc _ _ _ ?_).trans (heap_alloc_new w _)
    rw [hs]
    omega
  have C0 := Aside0.mk ((blk_cell h1 0).trans rfl)
  have C1 := Aside0.mk ((blk_cell h1 1).trans rfl)
  have Z0 : Aside0 (wz.cell? ⟨w.heap.size, 0, none⟩ = some (.int .i64 0)) := ⟨(blk_cell h0 0).trans rfl⟩
  have HW : Aside0 (Below w.heap.size w wz) := ⟨by rw [hwz]; exact below_alloc (below_alloc (Below.refl _ _) _) _⟩
  have HL := Aside0.mk (blk_lt h1)
  rw [← hwz]
  clear hwz hs h0 h1
  go_loopg [7] 3 (fun kq v7 w' => ∃ i : Nat, v7 = .int .i64 (i : Int) ∧ Aside0 (i + kq = 3) ∧ Aside0 (i ≤ 2) ∧ Aside0 (Below wz.heap.size wz w'))
  case atStart => exact ⟨0, rfl, ⟨by omega⟩, ⟨by omega⟩, ⟨Below.refl _ _⟩⟩
  case round =>
    obtain ⟨i, rfl, HK, HI, HB⟩ := hrel
    cases gk with
    | zero => exact absurd HK.out (by have := HI.out; omega)
    | succ k1 =>
      have tok1 := Aside0.mk True.intro
      have hc0 := (HB.out.cell (p := ⟨w.heap.size + 1, 0, none⟩) HL.out).trans C0.out
      have hc1 := (HB.out.cell (p := ⟨w.heap.size + 1, 1, none⟩) HL.out).trans C1.out
      by_cases e0 : i = 0
      · subst e0
        have HN : Aside0 (NoneV wz (.pointer none)) := ⟨.inl rfl⟩
        go_wp2_with (first
            | (go_at_call 33; (with_reducible refine (forget_none (HN.out.below HB.out) id).mono ?_); rintro e w1 ⟨rfl, rfl⟩)
            | (go_at_call 28; have _t := tok1; (with_reducible refine (add_none (HN.out.below HB.out) _ _ _).mono ?_); rintro e w2 ⟨rfl, rfl⟩; clear tok1 _t)
            | (go_at_call 37; (with_reducible refine (row_any 1 2 _).mono ?_); rintro e w3 ⟨A3, n3, c3, rfl, hb⟩; have HB3 := Aside0.mk (below_step HB.out hb); clear hb)
            | (go_at_call 28; (with_reducible refine (add_none (HN.out.below HB3.out) _ _ _).mono ?_); rintro e w2 ⟨rfl, rfl⟩)
            | (go_at_call 31; (with_reducible refine (task_none' (HN.out.below HB3.out) id).mono ?_); rintro e w4 ⟨rfl, hb⟩; have HB4 := Aside0.mk (below_step HB3.out hb); clear hb)
            | (go_at_call 29; (with_reducible refine (core_none (HN.out.below HB4.out) id).mono ?_); rintro e w5 ⟨rfl, hb⟩; have HB5 := Aside0.mk (below_step HB4.out hb); clear hb)
            | (go_at_call 30; (with_reducible refine (ticks_none (HN.out.below HB5.out)).mono ?_); rintro e w6 ⟨rfl, rfl⟩)
            | (go_at_call 34; (with_reducible refine (frames_none (HN.out.below HB5.out)).mono ?_); rintro e w7 ⟨rfl, rfl⟩))
        go_roundg k1
        case measure => omega
        case rel => exact ⟨1, rfl, ⟨by have := HK.out; omega⟩, ⟨by omega⟩, HB5⟩
      · by_cases e1 : i = 1
        · subst e1
          have HN : Aside0 (NoneV wz (.pointer (some ⟨w.heap.size, 0, none⟩))) := ⟨.inr ⟨_, rfl, Z0.out⟩⟩
          go_wp2_with (first
            | (go_at_call 33; (with_reducible refine (forget_none (HN.out.below HB.out) id).mono ?_); rintro e w1 ⟨rfl, rfl⟩)
            | (go_at_call 28; have _t := tok1; (with_reducible refine (add_none (HN.out.below HB.out) _ _ _).mono ?_); rintro e w2 ⟨rfl, rfl⟩; clear tok1 _t)
            | (go_at_call 37; (with_reducible refine (row_any 1 2 _).mono ?_); rintro e w3 ⟨A3, n3, c3, rfl, hb⟩; have HB3 := Aside0.mk (below_step HB.out hb); clear hb)
            | (go_at_call 28; (with_reducible refine (add_none (HN.out.below HB3.out) _ _ _).mono ?_); rintro e w2 ⟨rfl, rfl⟩)
            | (go_at_call 31; (with_reducible refine (task_none' (HN.out.below HB3.out) id).mono ?_); rintro e w4 ⟨rfl, hb⟩; have HB4 := Aside0.mk (below_step HB3.out hb); clear hb)
            | (go_at_call 29; (with_reducible refine (core_none (HN.out.below HB4.out) id).mono ?_); rintro e w5 ⟨rfl, hb⟩; have HB5 := Aside0.mk (below_step HB4.out hb); clear hb)
            | (go_at_call 30; (with_reducible refine (ticks_none (HN.out.below HB5.out)).mono ?_); rintro e w6 ⟨rfl, rfl⟩)
            | (go_at_call 34; (with_reducible refine (frames_none (HN.out.below HB5.out)).mono ?_); rintro e w7 ⟨rfl, rfl⟩))
          go_roundg k1
          case measure => omega
          case rel => exact ⟨2, rfl, ⟨by have := HK.out; omega⟩, ⟨by omega⟩, HB5⟩
        · obtain rfl : i = 2 := by have := HI.out; omega
          clear e0 e1
          go_wp2_with (go_at_call 27; (with_reducible refine (awake _).mono ?_); rintro e w8 ⟨rfl, hb⟩; have HB8 := Aside0.mk (below_step HB.out hb); clear hb)
          go_ret
          exact ⟨rfl, below_step HW.out HB8.out⟩
end Go.Proofs.Ytgfkcmmhnibaiaa.Ac
