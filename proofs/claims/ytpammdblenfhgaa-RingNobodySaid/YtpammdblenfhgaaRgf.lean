/- ring.Ring, walked by hand: Lead and Members where nobody made a ring; the law's own awake. -/
import Derived.Test.YtpammdblenfhgaaRge
namespace Go.Proofs.Ytpammdblenfhgaa.Rg
open Go.RowKit Go.Proofs.YtpammdblenfhgaaW.PrintWords Go.Proofs.YtpammdblenfhgaaW.PrintLast Go.Proofs.YtpammdblenfhgaaW.PrintMore Pt PRg Go.Proofs.Ytpammdblenfhgaa.FqMath
set_option linter.unusedVariables false
set_option linter.unusedSimpArgs false
section
variable {w w' : World} {F : Nat → Prop} {g : Nat} {s : Rg}
theorem lead_none {p : Value} (h : NoneV w p) (id : Int) : Calls Try.prog 20 #[p, .int .i64 id] w fun e w' => e = .returned (.tuple #[.int .u64 0, .int .u64 0, .bool false]) ∧ w = w' := by
  have H := Aside0.mk h
  clear h
  go_enter Try.func20, Try.ntmps20
  go_wp2_with (go_at_call 53; (with_reducible refine (one_none H.out id).mono ?_); rintro e w' ⟨rfl, rfl⟩)
  refine bodyPost_ret (v := .tuple #[.int .u64 0, .int .u64 0, .bool false]) (by simp [results, Try.results20, go_sem]) rfl ?_
  exact ⟨rfl, rfl⟩
theorem members_none {p : Value} (h : NoneV w p) : Calls Try.prog 17 #[p] w fun e w' => e = .returned (.slice none 0 0) ∧ w = w' := by
  have H := Aside0.mk h
  clear h
  go_enter Try.func17, Try.ntmps17
  go_wp2_with (go_at_call 50; (with_reducible refine (none_v H.out).mono ?_); rintro e w' ⟨rfl, rfl⟩)
  go_ret
  exact ⟨rfl, rfl⟩
theorem Rep.mono {Q : Nat → Prop} (h : Rep w F g s) (hq : ∀ k, F k → Q k) : Rep w Q g s := by
  obtain ⟨v, h⟩ := h
  exact ⟨v, hq _ h.fg, h.hd, h.row.mono (fun k hk => ⟨hq k hk.1, hk.2⟩), h.lim0, h.lim1⟩
theorem sorted0 : Sorted [] := fun i j x y hx => by simp at hx
theorem sorted1 (x : Mb) : Sorted [x] := fun i j a b ha hb hij => by
  have h1 := (List.getElem?_eq_some_iff.1 hb).1
  simp at h1
  omega
theorem sorted2 (x y : Mb) (h : x.f0 < y.f0) : Sorted [x, y] := fun i j a b ha hb hij => by
  have h1 := (List.getElem?_eq_some_iff.1 hb).1
  simp at h1
  obtain rfl : i = 0 := by omega
  obtain rfl : j = 1 := by omega
  simp at ha hb
  subst ha
  subst hb
  exact h
/-- The law's own ring: two members, of weights 2 and 1. -/
def st2 (a b : Int) : Rg := ⟨2048, [⟨1, 2, a, true⟩, ⟨2, 1, b, true⟩], 0, 1⟩
theorem st2_ok (a b : Int) (ha : 0 ≤ a ∧ a ≤ 10) (hb : 0 ≤ b ∧ b ≤ 10) : ∀ m ∈ (st2 a b).l, MOk m := by
  intro m hm
  simp only [st2, List.mem_cons, List.not_mem_nil, or_false] at hm
  rcases hm with rfl | rfl <;> (unfold MOk; dsimp only; omega)
theorem pick_st (a b : Int) (ha : 0 ≤ a ∧ a ≤ 10) (hb : 0 ≤ b ∧ b ≤ 10) (x : Bool) (hx : decide (b * 2 < a * 1) = x) (h : Rep w F g (st2 a b)) :
    Calls Try.prog 16 #[.pointer (some ⟨g, 0, none⟩)] w fun e w' => e = .returned (.tuple #[.int .i64 (if x = true then 2 else 1), .bool true]) ∧ Rep w' F g (st2 (if x = true then a else a + 1) (if x = true then b + 1 else b)) ∧ Turns w w' F := by
  obtain ⟨A, cap, sp, hB⟩ := h.open_ (show 0 < 2 by decide)
  have hl : leastN (st2 a b).l (st2 a b).l.length = (if x = true then 1 else 0, true) := by
    show leastN [⟨1, 2, a, true⟩, ⟨2, 1, b, true⟩] 2 = _
    have e1 : leastN ([⟨1, 2, a, true⟩, ⟨2, 1, b, true⟩] : List Mb) 1 = (0, true) := rfl
    rw [leastN, e1]
    subst hx
    simp [less]
    split <;> rfl
  cases x with
  | true =>
    have hq := pick_yes hB (st2_ok a b ha hb) 1 hl ⟨2, 1, b, true⟩ rfl (by dsimp only; omega) (.inl (by show ¬ (2048 ≤ b + 1); omega))
    refine hq.mono ?_
    rintro e w' ⟨rfl, hr, ht⟩
    rw [afterPick, if_neg (by show ¬ (2048 ≤ b + 1); omega)] at hr
    exact ⟨rfl, hr.rep, ht⟩
  | false =>
    have hq := pick_yes hB (st2_ok a b ha hb) 0 hl ⟨1, 2, a, true⟩ rfl (by dsimp only; omega) (.inl (by show ¬ (2048 ≤ a + 1); omega))
    refine hq.mono ?_
    rintro e w' ⟨rfl, hr, ht⟩
    rw [afterPick, if_neg (by show ¬ (2048 ≤ a + 1); omega)] at hr
    exact ⟨rfl, hr.rep, ht⟩
/-- How far the two members are behind i picks. -/
def stA : Nat → Int := fun i => [0, 1, 1, 2, 3, 3, 4].getD i 0
def stB : Nat → Int := fun i => [0, 0, 1, 1, 1, 2, 2].getD i 0
def stW : Nat → Int := fun i => [1, 2, 1, 1, 2, 1].getD i 0
theorem pick_i (i : Nat) (hi : i < 6) (h : Rep w F g (st2 (stA i) (stB i))) :
    Calls Try.prog 16 #[.pointer (some ⟨g, 0, none⟩)] w fun e w' => e = .returned (.tuple #[.int .i64 (stW i), .bool true]) ∧ Rep w' F g (st2 (stA (i + 1)) (stB (i + 1))) ∧ Turns w w' F := by
  have e : i = 0 ∨ i = 1 ∨ i = 2 ∨ i = 3 ∨ i = 4 ∨ i = 5 := by omega
  rcases e with rfl | rfl | rfl | rfl | rfl | rfl
  all_goals exact pick_st _ _ (by decide) (by decide) _ rfl h
theorem st_bound (i : Nat) (hi : i ≤ 6) : (0 ≤ stA i ∧ stA i ≤ 10) ∧ (0 ≤ stB i ∧ stB i ≤ 10) := by
  have e : i = 0 ∨ i = 1 ∨ i = 2 ∨ i = 3 ∨ i = 4 ∨ i = 5 ∨ i = 6 := by omega
  rcases e with rfl | rfl | rfl | rfl | rfl | rfl | rfl <;> decide
def st1 : Rg := ⟨2048, [⟨1, 2, 0, true⟩], 0, 1⟩
theorem join_a (h : Rep w F g (newR 2048)) : Calls Try.prog 25 #[.pointer (some ⟨g, 0, none⟩), .int .i64 1, .int .i64 2] w fun e w' => e = .returned (.int .i64 0) ∧ Rep w' (fun k => F k ∨ w.heap.size ≤ k) g st1 ∧ Turns w w' F :=
  join_ok h (fun m hm => by cases hm) sorted0 (by decide) 1 2 (by decide) rfl rfl 0 rfl 0 1 rfl ⟨by decide, by decide, by decide, by decide⟩ 0 rfl
theorem join_b (h : Rep w F g st1) : Calls Try.prog 25 #[.pointer (some ⟨g, 0, none⟩), .int .i64 2, .int .i64 1] w fun e w' => e = .returned (.int .i64 0) ∧ Rep w' (fun k => F k ∨ w.heap.size ≤ k) g (st2 0 0) ∧ Turns w w' F :=
  join_ok h (fun m hm => by simp [st1] at hm; subst hm; unfold MOk; decide) (sorted1 _) (by decide) 2 1 (by decide) rfl rfl 1 rfl 0 2 rfl ⟨by decide, by decide, by decide, by decide⟩ 0 rfl
theorem wake_two (h : Rep w F g (st2 4 2)) : Calls Try.prog 28 #[.pointer (some ⟨g, 0, none⟩), .int .i64 1] w fun e w' => e = .returned (.int .i64 15) ∧ Below w.heap.size w w' := by
  obtain ⟨A, cap, sp, hB⟩ := h.open_ (show 0 < 2 by decide)
  exact wake_on hB (sorted2 _ _ (by decide)) (by decide) 1 rfl 0 rfl ⟨1, 2, 4, true⟩ rfl rfl
theorem st_cell (i : Nat) (hi : i < 6) : #[Value.int IntKind.i64 1, Value.int IntKind.i64 2, Value.int IntKind.i64 1, Value.int IntKind.i64 1, Value.int IntKind.i64 2, Value.int IntKind.i64 1][i]? = some (.int .i64 (stW i)) := by
  have e : i = 0 ∨ i = 1 ∨ i = 2 ∨ i = 3 ∨ i = 4 ∨ i = 5 := by omega
  rcases e with rfl | rfl | rfl | rfl | rfl | rfl <;> rfl
set_option maxHeartbeats 4000000 in
set_option maxRecDepth 100000 in
theorem awake_calls (w : World) : Calls Try.prog 19 #[] w fun e w' => e = .returned (.bool true) ∧ Below w.heap.size w w' := by
  go_enter Try.func19, Try.ntmps19
  go_wp2_with (first
    | (go_at_call 14; (with_reducible refine (new_ok 2048 (by decide) (by decide) w).mono ?_); rintro e w1 ⟨g, rfl, hr, hb⟩; have HR0 := Aside0.mk hr; have HB0 := Aside0.mk hb; clear hr hb)
    | (go_at_call 25; (with_reducible refine (join_a HR0.out).mono ?_); rintro e w2 ⟨rfl, hr, ht⟩; have HR1 := Aside0.mk hr; have HT1 := Aside0.mk ht; clear hr ht)
    | (go_at_call 25; (with_reducible refine (join_b HR1.out).mono ?_); rintro e w3 ⟨rfl, hr, ht⟩; have HR2 := Aside0.mk hr; have HT2 := Aside0.mk ht; clear hr ht))
  have s1 := HB0.out.size
  have s2 := HT1.out.size
  have s3 := HT2.out.size
  have HB3 := Aside0.mk (Turns.to_below (Turns.to_below HB0.out s1 HT1.out (fun k hk => hk)) (Nat.le_trans s1 s2) HT2.out (fun k hk => hk.elim id (fun q => Nat.le_trans s1 q)))
  have HB4 := Aside0.mk (below_alloc HB3.out (Obj.cells #[Value.int IntKind.i64 1, Value.int IntKind.i64 2, Value.int IntKind.i64 1, Value.int IntKind.i64 1, Value.int IntKind.i64 2, Value.int IntKind.i64 1] 3))
  have HQ := Aside0.mk (heap_alloc_new w3 (Obj.cells #[Value.int IntKind.i64 1, Value.int IntKind.i64 2, Value.int IntKind.i64 1, Value.int IntKind.i64 1, Value.int IntKind.i64 2, Value.int IntKind.i64 1] 3))
  have HR := Aside0.mk (((HR2.out.bound).below (below_alloc (Below.refl _ w3) (Obj.cells #[Value.int IntKind.i64 1, Value.int IntKind.i64 2, Value.int IntKind.i64 1, Value.int IntKind.i64 1, Value.int IntKind.i64 2, Value.int IntKind.i64 1] 3))).mono (Q := fun k => w.heap.size ≤ k ∧ k < w3.heap.size) (fun k hk => ⟨hk.1.elim (fun q => q.elim id (fun q => Nat.le_trans s1 q)) (fun q => Nat.le_trans s1 (Nat.le_trans s2 q)), hk.2⟩))
  generalize w3.alloc (Obj.cells #[Value.int IntKind.i64 1, Value.int IntKind.i64 2, Value.int IntKind.i64 1, Value.int IntKind.i64 1, Value.int IntKind.i64 2, Value.int IntKind.i64 1] 3) = w4 at *
  generalize w3.heap.size = q at *
  clear s1 s2 s3 HR0 HR1 HR2 HT1 HT2 HB0 HB3
  go_loopg [4] 7 (fun kq v4 w' => ∃ (i : Nat), v4 = .int .i64 (i : Int) ∧ Aside0 (i + kq = 7) ∧ Aside0 (i ≤ 6) ∧ Aside0 (Rep w' (fun k => w.heap.size ≤ k ∧ k < q) g (st2 (stA i) (stB i))) ∧ Aside0 (w'.heap[q]? = some (.cells #[Value.int IntKind.i64 1, Value.int IntKind.i64 2, Value.int IntKind.i64 1, Value.int IntKind.i64 1, Value.int IntKind.i64 2, Value.int IntKind.i64 1] 3 (0, 0))) ∧ Aside0 (Below w.heap.size w w'))
  case atStart => exact ⟨0, rfl, ⟨by omega⟩, ⟨by omega⟩, ⟨HR.out⟩, ⟨HQ.out⟩, ⟨HB4.out⟩⟩
  case round =>
    obtain ⟨i, rfl, HK, HI, HRi, HQi, HBi⟩ := hrel
    cases gk with
    | zero => exact absurd HK.out (by have := HI.out; omega)
    | succ k1 =>
      by_cases cc : i < 6
      · have d1 : decide ((i : Int) < 6) = true := decide_eq_true (by omega)
        have d2 : decide (i < 6) = true := decide_eq_true cc
        have p0 := eq_true (show (0 : Int) ≤ (i : Int) by omega)
        have p1 := eq_true (show (i : Int) < 6 by omega)
        have HP := Aside0.mk (pick_i i cc HRi.out)
        have HCC := Aside0.mk cc
        clear cc
        go_wp2_with (go_at_call 16; (with_reducible refine HP.out.mono ?_); rintro e w5 ⟨rfl, hr, ht⟩; have HR5 := Aside0.mk hr; have HT5 := Aside0.mk ht; have hq5 := (ht.kept.2 q (blk_lt HQi.out) (fun z => Nat.lt_irrefl _ z.2)).trans HQi.out; have k5 : w5.cell? ⟨q, i, none⟩ = some (.int .i64 (stW i)) := (blk_cell hq5 i).trans (st_cell i HCC.out); have HQ5 := Aside0.mk hq5; clear hr ht hq5)
        go_roundg k1
        case measure => omega
        case rel => exact ⟨i + 1, (by congr 1; unfold wrap64; have := HCC.out; omega), ⟨by have := HK.out; omega⟩, ⟨HCC.out⟩, ⟨HR5.out⟩, ⟨HQ5.out⟩, ⟨Turns.to_below HBi.out HBi.out.size HT5.out (fun k hk => hk.1)⟩⟩
      · have d1 : decide ((i : Int) < 6) = false := decide_eq_false (by omega)
        have d2 : decide (i < 6) = false := decide_eq_false cc
        obtain rfl : i = 6 := by have := HI.out; omega
        clear cc
        have HR6 := Aside0.mk (show Rep wr (fun k => w.heap.size ≤ k ∧ k < q) g (st2 4 2) from HRi.out)
        have hs : Sorted (st2 4 2).l := sorted2 _ _ (by decide)
        have HJ := Aside0.mk (join_had HR6.out hs (by decide) 1 5 (by decide) rfl rfl)
        have HBL := Aside0.mk (fun W (b : Below wr.heap.size wr W) => block_no (HR6.out.below b) hs (by decide) 3 rfl)
        have HWA := Aside0.mk (fun W (b : Below wr.heap.size wr W) => wake_two (HR6.out.below b))
        clear hs
        go_wp2_with (first
          | (go_at_call 25; (with_reducible refine HJ.out.mono ?_); rintro e w6 ⟨rfl, hb⟩; have HB6 := Aside0.mk hb; clear hb)
          | (go_at_call 27; (with_reducible refine (HBL.out _ HB6.out).mono ?_); rintro e w7 ⟨rfl, hb⟩; have HB7 := Aside0.mk (below_step HB6.out hb); clear hb)
          | (go_at_call 28; (with_reducible refine (HWA.out _ HB7.out).mono ?_); rintro e w8 ⟨rfl, hb⟩; have HB8 := Aside0.mk (below_step HB7.out hb); clear hb))
        go_ret
        exact ⟨rfl, below_step HBi.out HB8.out⟩
end
end Go.Proofs.Ytpammdblenfhgaa.Rg
