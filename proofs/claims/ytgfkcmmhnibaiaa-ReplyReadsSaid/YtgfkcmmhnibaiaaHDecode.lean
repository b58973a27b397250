/- reply.Decode, walked by hand. -/
import Derived.Test.YtgfkcmmhnibaiaaHdNum
import Derived.Test.YtgfkcmmhnibaiaaHdCheck
namespace Go.Proofs.Ytgfkcmmhnibaiaa.PRpd
open Go.RowKit Go.Proofs.YtgfkcmmhnibaiaaW.PrintWords Go.Proofs.YtgfkcmmhnibaiaaW.PrintLast Go.Proofs.YtgfkcmmhnibaiaaW.PrintMore
set_option linter.unusedVariables false
set_option linter.unusedSimpArgs false
def numsD : Nat → Int → Int → List Int → List Int → Int → Option (List Int × List Int × Int)
  | 0, _, _, _, _, _ => none
  | f + 1, N, j, nums, l, er => if j < N then ((rdNum f l er 9223372036854775807).bind fun x => if nums.length < 1000000 then numsD f N (IntKind.u64.wrap (j + 1)) (nums ++ [IntKind.i64.wrap x.1]) x.2.1 x.2.2 else none) else some (nums, l, er)
def reply_Decode.f (k : Nat) (l : List Int) : Option (Int × Bool × Int × List Int × Int) :=
  if l.length < 140737488355328 then
    (rdNum k l 0 30).bind fun a => (rdNum k a.2.1 a.2.2 1).bind fun b => (rdNum k b.2.1 b.2.2 255).bind fun c => (rdNum k c.2.1 c.2.2 20).bind fun d =>
      (numsD k d.1 0 [] d.2.1 d.2.2).bind fun x =>
        if endErr x.2.1 x.2.2 = 0 then (reply_Check.f (wrap64 a.1) (b.1 == 1) (wrap64 c.1) x.1).bind fun q =>
          if q = 0 then some (wrap64 a.1, (b.1 == 1), wrap64 c.1, x.1, 0) else some (0, false, 0, [], 3)
        else some (0, false, 0, [], 3)
  else none
theorem numsD_mono : ∀ k N j nums l er, LeO (numsD k N j nums l er) (numsD (k + 1) N j nums l er)
  | 0, _, _, _, _, _ => fun r h => by simp [numsD] at h
  | k + 1, N, j, nums, l, er => by
    rw [numsD, numsD]
    refine LeO.ite ?_ (LeO.refl _)
    refine LeO.bind (rdNum_mono _ _ _ _) (fun _ => ?_)
    exact LeO.ite (numsD_mono k _ _ _ _ _) (LeO.refl _)
theorem reply_Decode.mono : ∀ a0 k, LeO (reply_Decode.f k a0) (reply_Decode.f (k + 1) a0) := by
  intro a0 k
  unfold reply_Decode.f
  refine LeO.ite ?_ (LeO.none _)
  refine LeO.bind (rdNum_mono _ _ _ _) (fun _ => ?_)
  refine LeO.bind (rdNum_mono _ _ _ _) (fun _ => ?_)
  refine LeO.bind (rdNum_mono _ _ _ _) (fun _ => ?_)
  refine LeO.bind (rdNum_mono _ _ _ _) (fun _ => ?_)
  exact LeO.bind (numsD_mono _ _ _ _ _ _) (fun _ => LeO.refl _)
/-- The memory behind each number: the reader, the reply (block X), its numbers. -/
structure DSt (w0 w : World) (g X : Nat) (e mv : Int) (rp : Bool) (v : Value) (nums l : List Int) (er : Int) : Prop where
  below : Below w0.heap.size w0 w
  rd : Rdr w g l er
  gl : w0.heap.size ≤ g
  xb : w.heap[X]? = some (.cells #[.int .i64 e, .bool rp, .int .i64 mv, v] 25 (0, 0))
  xl : w0.heap.size ≤ X
  xg : X ≠ g
  nb : Kd.R (Kd.int .i64) 3 w w0.heap.size (fun _ => True) v nums
  res : w.heap[w0.heap.size]? = some (.cells #[.int .i64 0, .bool false, .int .i64 0, .slice none 0 0] 25 (0, 0))
  rg : w0.heap.size ≠ g
  rx : w0.heap.size ≠ X
theorem DSt.step {w0 w w2 : World} {g X : Nat} {e mv : Int} {rp : Bool} {v : Value} {nums l : List Int} {er : Int} (h : DSt w0 w g X e mv rp v nums l er) (hg : w.grownBy w2 (some g)) :
    Below w0.heap.size w0 w2 ∧ Kd.R (Kd.int .i64) 3 w2 w0.heap.size (fun _ => True) v nums ∧ w2.heap[X]? = some (.cells #[.int .i64 e, .bool rp, .int .i64 mv, v] 25 (0, 0)) ∧ w2.heap[w0.heap.size]? = some (.cells #[.int .i64 0, .bool false, .int .i64 0, .slice none 0 0] 25 (0, 0)) := by
  obtain ⟨A, c, hb, _⟩ := h.rd
  refine ⟨h.below.grown hg h.below.size (fun k hk => by cases hk; exact h.gl), ?_, ?_, ?_⟩
  · have h1 := Kd.R_types h.nb hb (by decide)
    exact Kd.R_mono (Kd.R_grown h1 hg (fun k hk he => hk.2 (by cases he; rfl))) (fun _ _ => trivial)
  · exact (hg.block X (blk_lt h.xb) (fun he => h.xg (by cases he; rfl))).trans h.xb
  · exact (hg.block w0.heap.size (blk_lt h.res) (fun he => h.rg (by cases he; rfl))).trans h.res
theorem Rdr.grownT {w w' : World} {g : Nat} {l : List Int} {er : Int} {row : Option Nat} (h : Rdr w g l er) (hg : w.grownBy w' row) (hrow : ∀ k, row = some k → ∃ cs t, w.heap[k]? = some (.cells cs t (0, 0)) ∧ t ≠ 109 ∧ t ≠ 5) : Rdr w' g l er := by
  obtain ⟨A, c, h1, h2, h3, h4⟩ := h
  have ne : ∀ k cs t, w.heap[k]? = some (.cells cs t (0, 0)) → (t = 109 ∨ t = 5) → some k ≠ row := fun k cs t hk ht he => by
    obtain ⟨cs', t', h', q1, q2⟩ := hrow k he.symm
    rw [hk] at h'
    simp only [Option.some.injEq, Obj.cells.injEq] at h'
    obtain ⟨_, e2, _⟩ := h'
    rcases ht with e | e
    · exact q1 (e2.symm.trans e)
    · exact q2 (e2.symm.trans e)
  have hne := ne g _ _ h1 (Or.inl rfl)
  have hneA : ∀ ad, A = some ad → some ad.block ≠ row := fun ad e => by
    obtain ⟨cs, hc⟩ := (h4 ad e).2
    exact ne _ _ _ hc (Or.inr rfl)
  refine ⟨A, c, (hg.block g (blk_lt h1) hne).trans h1, h2, ⟨h3.1, h3.2.1, fun hn => ?_⟩, fun ad e => ⟨(h4 ad e).1, ?_⟩⟩
  · obtain ⟨ad, e, hc⟩ := h3.2.2 hn
    refine ⟨ad, e, fun j p hj => ?_⟩
    obtain ⟨c, hs, hr, hcell⟩ := hc j p hj
    refine ⟨c, hs, hr, fun i u hu => hg.cell (hcell i u hu) ?_⟩
    rw [add_block]
    exact hneA ad e
  · obtain ⟨cs, hc⟩ := (h4 ad e).2
    exact ⟨cs, (hg.block ad.block (blk_lt hc) (hneA ad e)).trans hc⟩
theorem DSt.next {w0 w w2 w3 : World} {g X : Nat} {e mv : Int} {rp : Bool} {v v1 : Value} {nums nums' l l' : List Int} {er er' : Int} (h : DSt w0 w g X e mv rp v nums l er) (hg : w.grownBy w2 (some g)) (hrd : Rdr w2 g l' er')
    (hR : Kd.R (Kd.int .i64) 3 w3 w0.heap.size (fun _ => True) v1 nums') (hB : Below w0.heap.size w0 w3) (hg3 : w2.grownBy w3 v.ownBlock) : DSt w0 (w3.setCell ⟨X, 3, none⟩ v1) g X e mv rp v1 nums' l' er' := by
  obtain ⟨s1, s2, s3, s4⟩ := h.step hg
  have hX3 : w3.heap[X]? = some (.cells #[.int .i64 e, .bool rp, .int .i64 mv, v] 25 (0, 0)) := (hg3.block X (blk_lt s3) (Kd.R_ne s2 s3 (by decide))).trans s3
  have hr3 : Rdr w3 g l' er' := hrd.grownT hg3 (fun k hk => by
    obtain ⟨cs, hc⟩ := Kd.R_typed s2 k hk
    exact ⟨cs, 3, hc, by decide, by decide⟩)
  refine ⟨hB.setCell h.xl _, ?_, h.gl, ?_, h.xl, h.xg, Kd.R_set hR hX3 (by decide) 3 v1, ?_, h.rg, h.rx⟩
  · exact hr3.grownT (grown_set w3 X 3 v1) (fun k hk => by cases hk; exact ⟨_, 25, hX3, by decide, by decide⟩)
  · exact blk_put (cs := #[.int .i64 e, .bool rp, .int .i64 mv, v]) hX3 3 v1 rfl
  · rw [Below.heap_setCell w3 ⟨X, 3, none⟩ v1 _ h.rx]
    exact (hg3.block _ (blk_lt s4) (Kd.R_ne s2 s4 (by decide))).trans s4
theorem DSt.at3 {w0 w w2 w3 : World} {g X : Nat} {e mv : Int} {rp : Bool} {v : Value} {nums l : List Int} {er : Int} (h : DSt w0 w g X e mv rp v nums l er) (hg : w.grownBy w2 (some g)) (hg3 : w2.grownBy w3 v.ownBlock) : w3.cell? ⟨X, 3, none⟩ = some v ∧ w3.frozen? ⟨X, 3, none⟩ = false := by
  obtain ⟨s1, s2, s3, s4⟩ := h.step hg
  have hX3 := (hg3.block X (blk_lt s3) (Kd.R_ne s2 s3 (by decide))).trans s3
  exact ⟨by simp [World.cell?, hX3], by simp [World.frozen?, hX3]⟩
theorem DSt.at2 {w0 w w2 : World} {g X : Nat} {e mv : Int} {rp : Bool} {v : Value} {nums l : List Int} {er : Int} (h : DSt w0 w g X e mv rp v nums l er) (hg : w.grownBy w2 (some g)) : w2.cell? ⟨X, 3, none⟩ = some v ∧ ∀ o, (w2.alloc o).cell? ⟨X, 3, none⟩ = some v := by
  obtain ⟨s1, s2, s3, s4⟩ := h.step hg
  have e : w2.cell? ⟨X, 3, none⟩ = some v := by simp [World.cell?, s3]
  exact ⟨e, fun o => (World.cell?_of_block (Below.heap_alloc _ _ _ (blk_lt s3))).trans e⟩
theorem DSt.cell3 {w0 w : World} {g X : Nat} {e mv : Int} {rp : Bool} {v : Value} {nums l : List Int} {er : Int} (h : DSt w0 w g X e mv rp v nums l er) : w.cell? ⟨X, 3, none⟩ = some v := by
  simp [World.cell?, h.xb]
set_option maxHeartbeats 8000000 in
set_option maxRecDepth 100000 in
theorem reply_Decode.calls (k : Nat) (A0 : Option Addr) (c0 : Nat) (l0 : List Int) (r1 : Int) (r2 : Bool) (r3 : Int) (r4 : List Int) (r5 : Int) (w : World) (hr0 : Kd.C (Kd.int .u8) w A0 l0.length l0) (hc0 : l0.length ≤ c0) (h : reply_Decode.f k l0 = some (r1, r2, r3, r4, r5)) :
    Calls Try.prog 42 #[.slice A0 l0.length c0] w fun e w' => ∃ v0_ : Value, e = .returned (.tuple #[.agg #[.int .i64 r1, .bool r2, .int .i64 r3, v0_], .int .i64 r5]) ∧ Kd.R (Kd.int .i64) 3 w' w.heap.size (fun _ => True) v0_ r4 ∧ Below w.heap.size w w' := by
  have HR0 := Aside0.mk hr0
  have HC0 := Aside0.mk hc0
  clear hr0 hc0
  have hu25 := Try.underlying25
  unfold reply_Decode.f at h
  by_cases hl : l0.length < 140737488355328
  case neg => rw [if_neg hl] at h; exact absurd h (by simp)
  rw [if_pos hl] at h
  obtain ⟨⟨n1, l1, e1⟩, h1, h⟩ := Option.bind_eq_some_iff.mp h
  obtain ⟨⟨n2, l2, e2⟩, h2, h⟩ := Option.bind_eq_some_iff.mp h
  obtain ⟨⟨n3, l3, e3⟩, h3, h⟩ := Option.bind_eq_some_iff.mp h
  obtain ⟨⟨n4, l4, e4⟩, h4, h⟩ := Option.bind_eq_some_iff.mp h
  dsimp only at h1 h2 h3 h4 h
  have HL := Aside0.mk hl
  have H1 := Aside0.mk h1
  have H2 := Aside0.mk h2
  have H3 := Aside0.mk h3
  have H4 := Aside0.mk h4
  have HH := Aside0.mk h
  clear hl h1 h2 h3 h4 h
  go_enter Try.func42, Try.ntmps42
  go_wp2_with (first
    | (go_at_call 60; (with_reducible refine (open_of A0 c0 l0 _ (Kd.C_alloc HR0.out _) HC0.out HL.out).mono ?_); rintro e wa ⟨g, rfl, hrd, hg, hb⟩; have HRD := Aside0.mk hrd; have HG := Aside0.mk hg; have HBL := Aside0.mk hb; clear hrd hg hb)
    | (go_at_call 61; (with_reducible refine (num_calls k g l0 l1 0 e1 30 n1 _ HRD.out H1.out).mono ?_); rintro e wb ⟨rfl, hrd, hg⟩; have HRD1 := Aside0.mk hrd; have HG1 := Aside0.mk hg; clear hrd hg)
    | (go_at_call 61; (with_reducible refine (num_calls k g l1 l2 e1 e2 1 n2 _ HRD1.out H2.out).mono ?_); rintro e wc ⟨rfl, hrd, hg⟩; have HRD2 := Aside0.mk hrd; have HG2 := Aside0.mk hg; clear hrd hg)
    | (go_at_call 61; (with_reducible refine (num_calls k g l2 l3 e2 e3 255 n3 _ HRD2.out H3.out).mono ?_); rintro e wd ⟨rfl, hrd, hg⟩; have HRD3 := Aside0.mk hrd; have HG3 := Aside0.mk hg; clear hrd hg)
    | (go_at_call 61; (with_reducible refine (num_calls k g l3 l4 e3 e4 20 n4 _ (HRD3.out.below (below_alloc (Below.refl _ _) _)) H4.out).mono ?_); rintro e we ⟨rfl, hrd, hg⟩; have HRD4 := Aside0.mk hrd; have HG4 := Aside0.mk hg; clear hrd hg))
  have hst : DSt w we g wd.heap.size (wrap64 n1) (wrap64 n3) (n2 == 1) (.slice none 0 0) [] l4 e4 := by
    have gl : w.heap.size + 1 ≤ g := by simpa using HG.out
    have b1 := (Below.refl w.heap.size w).alloc (Nat.le_refl _) (.cells #[.int .i64 0, .bool false, .int .i64 0, .slice none 0 0] 25)
    have b2 := below_step b1 HBL.out
    have hr : ∀ k, some g = some k → w.heap.size ≤ k := fun k hk => by cases hk; omega
    have b3 := b2.grown HG1.out b2.size hr
    have b4 := b3.grown HG2.out b3.size hr
    have b5 := b4.grown HG3.out b4.size hr
    have b6 := b5.alloc b5.size (.cells #[.int .i64 (wrap64 n1), .bool (n2 == 1), .int .i64 (wrap64 n3), .slice none 0 0] 25)
    have b7 := b6.grown HG4.out b6.size hr
    have glt := HRD3.out.lt
    have hne : some w.heap.size ≠ some g := fun he => by have := Option.some.inj he; omega
    have z1 := HBL.out.size
    simp only [World.size_alloc] at z1
    have r1 : wa.heap[w.heap.size]? = some (.cells #[.int .i64 0, .bool false, .int .i64 0, .slice none 0 0] 25 (0, 0)) := (HBL.out.block _ (by simp)).trans (heap_alloc_new w _)
    have r2 := (HG1.out.block _ (blk_lt r1) hne).trans r1
    have r3 := (HG2.out.block _ (blk_lt r2) hne).trans r2
    have r4 := (HG3.out.block _ (blk_lt r3) hne).trans r3
    have r5 := (Below.heap_alloc wd (.cells #[.int .i64 (wrap64 n1), .bool (n2 == 1), .int .i64 (wrap64 n3), .slice none 0 0] 25) _ (blk_lt r4)).trans r4
    have r6 := (HG4.out.block _ (blk_lt r5) hne).trans r5
    have x1 : (wd.alloc (.cells #[.int .i64 (wrap64 n1), .bool (n2 == 1), .int .i64 (wrap64 n3), .slice none 0 0] 25)).heap[wd.heap.size]? = some (.cells #[.int .i64 (wrap64 n1), .bool (n2 == 1), .int .i64 (wrap64 n3), .slice none 0 0] 25 (0, 0)) := heap_alloc_new wd _
    have x2 := (HG4.out.block _ (blk_lt x1) (fun he => by have := Option.some.inj he; omega)).trans x1
    exact ⟨b7, HRD4.out, by omega, x2, b5.size, by omega, Kd.R_nil _ _ _ _ _, r6, by omega, by have := blk_lt r4; omega⟩
  have HST := Aside0.mk hst
  clear hst HRD HRD1 HRD2 HRD3 HRD4 HG HG1 HG2 HG3 HG4 HBL H1 H2 H3 H4 HR0
  obtain ⟨⟨nf, lf, ef⟩, h5, h⟩ := Option.bind_eq_some_iff.mp HH.out
  dsimp only at h5 h
  have H5 := Aside0.mk h5
  have HF := Aside0.mk h
  clear h5 h HH
  generalize wd.heap.size = X at HST ⊢
  go_loopg [20] k (fun kq v20 w' => ∃ (j : Int) (nums l : List Int) (er : Int) (v : Value), v20 = .int .u64 j ∧ Aside0 (numsD kq n4 j nums l er = some (nf, lf, ef)) ∧ Aside0 (kq ≤ k) ∧ Aside0 (DSt w w' g X (wrap64 n1) (wrap64 n3) (n2 == 1) v nums l er))
  case atStart => exact ⟨0, [], l4, e4, .slice none 0 0, rfl, H5, ⟨Nat.le_refl _⟩, HST⟩
  case round =>
    clear HST H5
    obtain ⟨j, nums, l, er, v, rfl, HN, HK, HS⟩ := hrel
    cases gk with
    | zero => exact absurd HN.out (by simp [numsD])
    | succ k1 =>
      have hn := HN.out
      simp only [numsD] at hn
      by_cases cj : j < n4
      · rw [if_pos cj] at hn
        obtain ⟨⟨x, l', er'⟩, hx, hn⟩ := Option.bind_eq_some_iff.mp hn
        dsimp only at hx hn
        by_cases cl : nums.length < 1000000
        case neg => rw [if_neg cl] at hn; exact absurd hn (by simp)
        rw [if_pos cl] at hn
        have d1 : decide (j < n4) = true := decide_eq_true cj
        have HX := Aside0.mk hx
        have HN2 := Aside0.mk hn
        have HCL := Aside0.mk cl
        have cx := HS.out.cell3
        clear hx hn cl cj HN
        go_wp2_with (fail)
        refine wp_region_held_drew (S := fun _ => True) (by kernel_rfl) trivial (fun hHeld => ?_)
        refine wpAnyH_take (i := 0) (v := ?v0) (oi := { dst := some 22, op := Op.fieldAddr 25 (Operand.tmp 5) 3, type := 0, pos := "reply.go:63", after := #[], guard := none }) rfl (by kernel_rfl) (by kernel_rfl) (by kernel_rfl) (fun _ _ _ h => h) (Or.inl ⟨by rfl, ?hy0⟩) (by assumption) ?rest0
        case hy0 => (intro w hSw; (try dsimp only at hSw); go_split_ands; go_simp; try with_reducible rfl)
        (try simp only [Act.put, List.setIfInBounds_toArray, List.set_cons_zero, List.set_cons_succ])
        refine wpAnyH_take (i := 2) (v := ?v2) (oi := { dst := some 24, op := Op.move (Operand.tmp 4), type := 92, pos := "reply.go:63", after := #[], guard := none }) rfl (by kernel_rfl) (by kernel_rfl) (by kernel_rfl) (fun _ _ _ h => h) (Or.inl ⟨by rfl, ?hy2⟩) (by assumption) ?rest2
        case hy2 => (intro w hSw; (try dsimp only at hSw); go_split_ands; go_simp; try with_reducible rfl)
        (try simp only [Act.put, List.setIfInBounds_toArray, List.set_cons_zero, List.set_cons_succ])
        refine wpAnyH_ready (rs := [1, 3]) (by kernel_rfl) (by simp) ?_
        refine AllReadyH.cons (o := { dst := some 23, op := Op.load 23 (Operand.tmp 22), type := 23, pos := "reply.go:63", after := #[{ on := 0, ground := Ground.data }], guard := none }) rfl (fun K hK => ?_) (AllReadyH.cons (o := { dst := some 25, op := Op.call { callee := Callee.value (Operand.func 61), args := #[Operand.tmp 24, Operand.const (Value.int IntKind.u64 9223372036854775807)], argTypes := #[92, 80] }, type := 80, pos := "reply.go:63", after := #[{ on := 2, ground := Ground.data }], guard := none }) rfl (fun K hK => ?_) AllReadyH.nil)
        · go_simp
          refine hK.out _ _ ?_ (fun hHeld => ?_)
          · trivial
          clear hK K
          (try simp only [Act.put, List.setIfInBounds_toArray, List.set_cons_zero, List.set_cons_succ])
          refine wpAnyH_ready (rs := [3]) (by kernel_rfl) (by simp) ?_
          refine AllReadyH.cons (o := { dst := some 25, op := Op.call { callee := Callee.value (Operand.func 61), args := #[Operand.tmp 24, Operand.const (Value.int IntKind.u64 9223372036854775807)], argTypes := #[92, 80] }, type := 80, pos := "reply.go:63", after := #[{ on := 2, ground := Ground.data }], guard := none }) rfl (fun K hK => ?_) AllReadyH.nil
          go_simp
          with_reducible refine (num_calls k1 g l l' er er' 9223372036854775807 x _ (HS.out.rd.below (below_drew (Below.refl _ _))) HX.out).mono ?_
          rintro e w2 ⟨rfl, hrd, hg⟩
          have HRD := Aside0.mk hrd
          have HG := Aside0.mk (grown_trans (grown_drewN (World.grownBy.refl wr (some g)) 1) hg)
          clear hrd hg
          refine hK.out _ _ ?_ (fun hHeld => ?_)
          · trivial
          clear hK K
          (try simp only [Act.put, List.setIfInBounds_toArray, List.set_cons_zero, List.set_cons_succ])
          refine wpAnyH_take (i := 4) (v := ?va4) (oi := { dst := some 26, op := Op.convert 80 3 (Operand.tmp 25), type := 3, pos := "reply.go:63", after := #[{ on := 3, ground := Ground.data }], guard := none }) rfl (by kernel_rfl) (by kernel_rfl) (by kernel_rfl) (fun _ _ _ h => h) (Or.inl ⟨by rfl, ?hya4⟩) (by assumption) ?resta4
          case hya4 => (intro w hSw; (try dsimp only at hSw); go_split_ands; go_simp; try with_reducible rfl)
          (try simp only [Act.put, List.setIfInBounds_toArray, List.set_cons_zero, List.set_cons_succ])
          refine wpAnyH_ready (rs := [5]) (by kernel_rfl) (by simp) ?_
          refine AllReadyH.cons (o := { dst := some 27, op := Op.buildSlice 23 1 #[(0, Operand.tmp 26)], type := 23, pos := "reply.go:63", after := #[{ on := 4, ground := Ground.data }], guard := none }) rfl (fun K hK => ?_) AllReadyH.nil
          go_simp
          refine hK.out _ _ ?_ (fun hHeld => ?_)
          · trivial
          clear hK K
          (try simp only [Act.put, List.setIfInBounds_toArray, List.set_cons_zero, List.set_cons_succ])
          refine wpAnyH_ready (rs := [6]) (by kernel_rfl) (by simp) ?_
          refine AllReadyH.cons (o := { dst := some 28, op := Op.call { callee := Callee.builtin Builtin.append, args := #[Operand.tmp 23, Operand.tmp 27], argTypes := #[23, 23] }, type := 23, pos := "reply.go:63", after := #[{ on := 1, ground := Ground.data }, { on := 5, ground := Ground.data }, { on := 3, ground := Ground.chain }], guard := none }) rfl (fun K hK => ?_) AllReadyH.nil
          refine Kd.R_append_step (w0 := w) (Kd.int .i64) w.heap.size (by kernel_rfl) (.tmp 23) (.tmp 27) 23 3 (.int .i64 0) 8 ?ho Try.underlying23 info3 rfl (by decide) (by decide) v nums (IntKind.i64.wrap x) [.int .i64 (IntKind.i64.wrap x)] (fun _ => True) (fun _ => False) ?hs ?hx rfl (fun _ hk => hk.elim) (fun _ _ => trivial) ?hO ?hB ?hbase ?hl ?_
          case ho => rfl
          case hs => rfl
          case hx => rfl
          case hO => exact (HS.out.step HG.out).2.1
          case hB => exact (HS.out.step HG.out).1
          case hbase => exact (HS.out.step HG.out).1.size
          case hl => have := HCL.out; omega
          intro v1 w3 hR hB hg3 hat
          obtain ⟨A1, c1, rfl⟩ := Kd.R_slice hR
          have HR3 := Aside0.mk hR
          have HB3 := Aside0.mk hB
          have HG3 := Aside0.mk hg3
          have HA3 := Aside0.mk hat
          clear hR hB hg3 hat
          refine hK.out _ _ ?_ (fun hHeld => ?_)
          · trivial
          clear hK K
          (try simp only [Act.put, List.setIfInBounds_toArray, List.set_cons_zero, List.set_cons_succ])
          obtain ⟨cx3, fx3⟩ := HS.out.at3 HG.out HG3.out
          refine wpAnyH_take (i := 7) (v := ?va7) (oi := { dst := some 29, op := Op.fieldAddr 25 (Operand.tmp 5) 3, type := 0, pos := "reply.go:63", after := #[{ on := 0, ground := Ground.phase }, { on := 1, ground := Ground.phase }, { on := 2, ground := Ground.phase }, { on := 3, ground := Ground.phase }, { on := 4, ground := Ground.phase }, { on := 5, ground := Ground.phase }, { on := 6, ground := Ground.phase }], guard := none }) rfl (by kernel_rfl) (by kernel_rfl) (by kernel_rfl) (fun _ _ _ h => h) (Or.inl ⟨by rfl, ?hya7⟩) (by assumption) ?resta7
          case hya7 => (intro w hSw; (try dsimp only at hSw); go_split_ands; go_simp; try with_reducible rfl)
          (try simp only [Act.put, List.setIfInBounds_toArray, List.set_cons_zero, List.set_cons_succ])
          refine wpAnyH_ready (rs := [8]) (by kernel_rfl) (by simp) ?_
          refine AllReadyH.cons (o := { dst := none, op := Op.store 23 (Operand.tmp 29) (Operand.tmp 28), type := 0, pos := "reply.go:63", after := #[{ on := 7, ground := Ground.data }, { on := 6, ground := Ground.data }, { on := 6, ground := Ground.chain }, { on := 0, ground := Ground.phase }, { on := 1, ground := Ground.phase }, { on := 2, ground := Ground.phase }, { on := 3, ground := Ground.phase }, { on := 4, ground := Ground.phase }, { on := 5, ground := Ground.phase }, { on := 6, ground := Ground.phase }], guard := none }) rfl (fun K hK => ?_) AllReadyH.nil
          go_simp
          refine hK.out _ _ ?_ (fun hHeld => ?_)
          · trivial
          clear hK K
          (try simp only [Act.put, List.setIfInBounds_toArray, List.set_cons_zero, List.set_cons_succ])
          refine wpAnyH_done (by kernel_rfl) ?_ _
          go_wp2
          go_roundg k1
          case measure => have := HK.out; omega
          case rel => exact ⟨IntKind.u64.wrap (j + 1), nums ++ [IntKind.i64.wrap x], l', er', _, rfl, HN2, ⟨by have := HK.out; omega⟩, ⟨HS.out.next HG.out HRD.out (by have h_ := HR3.out; simp only [List.length_append, List.length_cons, List.length_nil] at h_; exact h_) HB3.out HG3.out⟩⟩
        · go_simp
          with_reducible refine (num_calls k1 g l l' er er' 9223372036854775807 x _ (HS.out.rd.below (below_drew (Below.refl _ _))) HX.out).mono ?_
          rintro e w2 ⟨rfl, hrd, hg⟩
          have HRD := Aside0.mk hrd
          have HG := Aside0.mk (grown_trans (grown_drewN (World.grownBy.refl wr (some g)) 1) hg)
          clear hrd hg
          refine hK.out _ _ ?_ (fun hHeld => ?_)
          · trivial
          clear hK K
          (try simp only [Act.put, List.setIfInBounds_toArray, List.set_cons_zero, List.set_cons_succ])
          obtain ⟨cx2, cx4⟩ := HS.out.at2 HG.out
          clear cx
          refine wpAnyH_take (i := 4) (v := ?vb4) (oi := { dst := some 26, op := Op.convert 80 3 (Operand.tmp 25), type := 3, pos := "reply.go:63", after := #[{ on := 3, ground := Ground.data }], guard := none }) rfl (by kernel_rfl) (by kernel_rfl) (by kernel_rfl) (fun _ _ _ h => h) (Or.inl ⟨by rfl, ?hyb4⟩) (by assumption) ?restb4
          case hyb4 => (intro w hSw; (try dsimp only at hSw); go_split_ands; go_simp; try with_reducible rfl)
          (try simp only [Act.put, List.setIfInBounds_toArray, List.set_cons_zero, List.set_cons_succ])
          refine wpAnyH_ready (rs := [1, 5]) (by kernel_rfl) (by simp) ?_
          refine AllReadyH.cons (o := { dst := some 23, op := Op.load 23 (Operand.tmp 22), type := 23, pos := "reply.go:63", after := #[{ on := 0, ground := Ground.data }], guard := none }) rfl (fun K hK => ?_) (AllReadyH.cons (o := { dst := some 27, op := Op.buildSlice 23 1 #[(0, Operand.tmp 26)], type := 23, pos := "reply.go:63", after := #[{ on := 4, ground := Ground.data }], guard := none }) rfl (fun K hK => ?_) AllReadyH.nil)
          · go_simp
            refine hK.out _ _ ?_ (fun hHeld => ?_)
            · trivial
            clear hK K
            (try simp only [Act.put, List.setIfInBounds_toArray, List.set_cons_zero, List.set_cons_succ])
            refine wpAnyH_ready (rs := [5]) (by kernel_rfl) (by simp) ?_
            refine AllReadyH.cons (o := { dst := some 27, op := Op.buildSlice 23 1 #[(0, Operand.tmp 26)], type := 23, pos := "reply.go:63", after := #[{ on := 4, ground := Ground.data }], guard := none }) rfl (fun K hK => ?_) AllReadyH.nil
            go_simp
            refine hK.out _ _ ?_ (fun hHeld => ?_)
            · trivial
            clear hK K
            (try simp only [Act.put, List.setIfInBounds_toArray, List.set_cons_zero, List.set_cons_succ])
            refine wpAnyH_ready (rs := [6]) (by kernel_rfl) (by simp) ?_
            refine AllReadyH.cons (o := { dst := some 28, op := Op.call { callee := Callee.builtin Builtin.append, args := #[Operand.tmp 23, Operand.tmp 27], argTypes := #[23, 23] }, type := 23, pos := "reply.go:63", after := #[{ on := 1, ground := Ground.data }, { on := 5, ground := Ground.data }, { on := 3, ground := Ground.chain }], guard := none }) rfl (fun K hK => ?_) AllReadyH.nil
            refine Kd.R_append_step (w0 := w) (Kd.int .i64) w.heap.size (by kernel_rfl) (.tmp 23) (.tmp 27) 23 3 (.int .i64 0) 8 ?ho Try.underlying23 info3 rfl (by decide) (by decide) v nums (IntKind.i64.wrap x) [.int .i64 (IntKind.i64.wrap x)] (fun _ => True) (fun _ => False) ?hs ?hx rfl (fun _ hk => hk.elim) (fun _ _ => trivial) ?hO ?hB ?hbase ?hl ?_
            case ho => rfl
            case hs => rfl
            case hx => rfl
            case hO => exact (HS.out.step HG.out).2.1
            case hB => exact (HS.out.step HG.out).1
            case hbase => exact (HS.out.step HG.out).1.size
            case hl => have := HCL.out; omega
            intro v1 w3 hR hB hg3 hat
            obtain ⟨A1, c1, rfl⟩ := Kd.R_slice hR
            have HR3 := Aside0.mk hR
            have HB3 := Aside0.mk hB
            have HG3 := Aside0.mk hg3
            have HA3 := Aside0.mk hat
            clear hR hB hg3 hat
            refine hK.out _ _ ?_ (fun hHeld => ?_)
            · trivial
            clear hK K
            (try simp only [Act.put, List.setIfInBounds_toArray, List.set_cons_zero, List.set_cons_succ])
            obtain ⟨cx3, fx3⟩ := HS.out.at3 HG.out HG3.out
            refine wpAnyH_take (i := 7) (v := ?vc7) (oi := { dst := some 29, op := Op.fieldAddr 25 (Operand.tmp 5) 3, type := 0, pos := "reply.go:63", after := #[{ on := 0, ground := Ground.phase }, { on := 1, ground := Ground.phase }, { on := 2, ground := Ground.phase }, { on := 3, ground := Ground.phase }, { on := 4, ground := Ground.phase }, { on := 5, ground := Ground.phase }, { on := 6, ground := Ground.phase }], guard := none }) rfl (by kernel_rfl) (by kernel_rfl) (by kernel_rfl) (fun _ _ _ h => h) (Or.inl ⟨by rfl, ?hyc7⟩) (by assumption) ?restc7
            case hyc7 => (intro w hSw; (try dsimp only at hSw); go_split_ands; go_simp; try with_reducible rfl)
            (try simp only [Act.put, List.setIfInBounds_toArray, List.set_cons_zero, List.set_cons_succ])
            refine wpAnyH_ready (rs := [8]) (by kernel_rfl) (by simp) ?_
            refine AllReadyH.cons (o := { dst := none, op := Op.store 23 (Operand.tmp 29) (Operand.tmp 28), type := 0, pos := "reply.go:63", after := #[{ on := 7, ground := Ground.data }, { on := 6, ground := Ground.data }, { on := 6, ground := Ground.chain }, { on := 0, ground := Ground.phase }, { on := 1, ground := Ground.phase }, { on := 2, ground := Ground.phase }, { on := 3, ground := Ground.phase }, { on := 4, ground := Ground.phase }, { on := 5, ground := Ground.phase }, { on := 6, ground := Ground.phase }], guard := none }) rfl (fun K hK => ?_) AllReadyH.nil
            go_simp
            refine hK.out _ _ ?_ (fun hHeld => ?_)
            · trivial
            clear hK K
            (try simp only [Act.put, List.setIfInBounds_toArray, List.set_cons_zero, List.set_cons_succ])
            refine wpAnyH_done (by kernel_rfl) ?_ _
            go_wp2
            go_roundg k1
            case measure => have := HK.out; omega
            case rel => exact ⟨IntKind.u64.wrap (j + 1), nums ++ [IntKind.i64.wrap x], l', er', _, rfl, HN2, ⟨by have := HK.out; omega⟩, ⟨HS.out.next HG.out HRD.out (by have h_ := HR3.out; simp only [List.length_append, List.length_cons, List.length_nil] at h_; exact h_) HB3.out HG3.out⟩⟩
          · go_simp
            refine hK.out _ _ ?_ (fun hHeld => ?_)
            · trivial
            clear hK K
            (try simp only [Act.put, List.setIfInBounds_toArray, List.set_cons_zero, List.set_cons_succ])
            refine wpAnyH_ready (rs := [1]) (by kernel_rfl) (by simp) ?_
            refine AllReadyH.cons (o := { dst := some 23, op := Op.load 23 (Operand.tmp 22), type := 23, pos := "reply.go:63", after := #[{ on := 0, ground := Ground.data }], guard := none }) rfl (fun K hK => ?_) AllReadyH.nil
            go_simp
            refine hK.out _ _ ?_ (fun hHeld => ?_)
            · trivial
            clear hK K
            (try simp only [Act.put, List.setIfInBounds_toArray, List.set_cons_zero, List.set_cons_succ])
            refine wpAnyH_ready (rs := [6]) (by kernel_rfl) (by simp) ?_
            refine AllReadyH.cons (o := { dst := some 28, op := Op.call { callee := Callee.builtin Builtin.append, args := #[Operand.tmp 23, Operand.tmp 27], argTypes := #[23, 23] }, type := 23, pos := "reply.go:63", after := #[{ on := 1, ground := Ground.data }, { on := 5, ground := Ground.data }, { on := 3, ground := Ground.chain }], guard := none }) rfl (fun K hK => ?_) AllReadyH.nil
            refine Kd.R_append_step (w0 := w) (Kd.int .i64) w.heap.size (by kernel_rfl) (.tmp 23) (.tmp 27) 23 3 (.int .i64 0) 8 ?ho Try.underlying23 info3 rfl (by decide) (by decide) v nums (IntKind.i64.wrap x) [.int .i64 (IntKind.i64.wrap x)] (fun _ => True) (fun _ => False) ?hs ?hx rfl (fun _ hk => hk.elim) (fun _ _ => trivial) ?hO ?hB ?hbase ?hl ?_
            case ho => rfl
            case hs => rfl
            case hx => rfl
            case hO => exact (HS.out.step HG.out).2.1
            case hB => exact (HS.out.step HG.out).1
            case hbase => exact (HS.out.step HG.out).1.size
            case hl => have := HCL.out; omega
            intro v1 w3 hR hB hg3 hat
            obtain ⟨A1, c1, rfl⟩ := Kd.R_slice hR
            have HR3 := Aside0.mk hR
            have HB3 := Aside0.mk hB
            have HG3 := Aside0.mk hg3
            have HA3 := Aside0.mk hat
            clear hR hB hg3 hat
            refine hK.out _ _ ?_ (fun hHeld => ?_)
            · trivial
            clear hK K
            (try simp only [Act.put, List.setIfInBounds_toArray, List.set_cons_zero, List.set_cons_succ])
            obtain ⟨cx3, fx3⟩ := HS.out.at3 HG.out HG3.out
            refine wpAnyH_take (i := 7) (v := ?vd7) (oi := { dst := some 29, op := Op.fieldAddr 25 (Operand.tmp 5) 3, type := 0, pos := "reply.go:63", after := #[{ on := 0, ground := Ground.phase }, { on := 1, ground := Ground.phase }, { on := 2, ground := Ground.phase }, { on := 3, ground := Ground.phase }, { on := 4, ground := Ground.phase }, { on := 5, ground := Ground.phase }, { on := 6, ground := Ground.phase }], guard := none }) rfl (by kernel_rfl) (by kernel_rfl) (by kernel_rfl) (fun _ _ _ h => h) (Or.inl ⟨by rfl, ?hyd7⟩) (by assumption) ?restd7
            case hyd7 => (intro w hSw; (try dsimp only at hSw); go_split_ands; go_simp; try with_reducible rfl)
            (try simp only [Act.put, List.setIfInBounds_toArray, List.set_cons_zero, List.set_cons_succ])
            refine wpAnyH_ready (rs := [8]) (by kernel_rfl) (by simp) ?_
            refine AllReadyH.cons (o := { dst := none, op := Op.store 23 (Operand.tmp 29) (Operand.tmp 28), type := 0, pos := "reply.go:63", after := #[{ on := 7, ground := Ground.data }, { on := 6, ground := Ground.data }, { on := 6, ground := Ground.chain }, { on := 0, ground := Ground.phase }, { on := 1, ground := Ground.phase }, { on := 2, ground := Ground.phase }, { on := 3, ground := Ground.phase }, { on := 4, ground := Ground.phase }, { on := 5, ground := Ground.phase }, { on := 6, ground := Ground.phase }], guard := none }) rfl (fun K hK => ?_) AllReadyH.nil
            go_simp
            refine hK.out _ _ ?_ (fun hHeld => ?_)
            · trivial
            clear hK K
            (try simp only [Act.put, List.setIfInBounds_toArray, List.set_cons_zero, List.set_cons_succ])
            refine wpAnyH_done (by kernel_rfl) ?_ _
            go_wp2
            go_roundg k1
            case measure => have := HK.out; omega
            case rel => exact ⟨IntKind.u64.wrap (j + 1), nums ++ [IntKind.i64.wrap x], l', er', _, rfl, HN2, ⟨by have := HK.out; omega⟩, ⟨HS.out.next HG.out HRD.out (by have h_ := HR3.out; simp only [List.length_append, List.length_cons, List.length_nil] at h_; exact h_) HB3.out HG3.out⟩⟩
      · rw [if_neg cj] at hn
        simp only [Option.some.injEq, Prod.mk.injEq] at hn
        obtain ⟨rfl, rfl, rfl⟩ := hn
        have d1 : decide (j < n4) = false := decide_eq_false cj
        clear cj
        obtain ⟨A1, c1, rfl⟩ := Kd.R_slice HS.out.nb
        obtain ⟨ee, hee⟩ : ∃ ee, endErr l er = ee := ⟨_, rfl⟩
        have xb := HS.out.xb
        have rb := HS.out.res
        have k0 : wr.cell? ⟨X, 0, none⟩ = some (.int .i64 (wrap64 n1)) := by simp [World.cell?, xb]
        have k1 : wr.cell? ⟨X, 1, none⟩ = some (.bool (n2 == 1)) := by simp [World.cell?, xb]
        have k2 : wr.cell? ⟨X, 2, none⟩ = some (.int .i64 (wrap64 n3)) := by simp [World.cell?, xb]
        have k3 : wr.cell? ⟨X, 3, none⟩ = some (.slice A1 nums.length c1) := by simp [World.cell?, xb]
        have y0 : wr.cell? ⟨w.heap.size, 0, none⟩ = some (.int .i64 0) := by simp [World.cell?, rb]
        have y1 : wr.cell? ⟨w.heap.size, 1, none⟩ = some (.bool false) := by simp [World.cell?, rb]
        have y2 : wr.cell? ⟨w.heap.size, 2, none⟩ = some (.int .i64 0) := by simp [World.cell?, rb]
        have y3 : wr.cell? ⟨w.heap.size, 3, none⟩ = some (.slice none 0 0) := by simp [World.cell?, rb]
        have f0 : ∀ i, wr.frozen? ⟨w.heap.size, i, none⟩ = false := fun i => by simp [World.frozen?, rb]
        have f00 := f0 0
        have f01 := f0 1
        have f02 := f0 2
        have f03 := f0 3
        have hh := HF.out
        rw [hee] at hh
        have hend := end_of g l er wr HS.out.rd
        rw [hee] at hend
        have HEND := Aside0.mk hend
        by_cases he : ee = 0
        · rw [if_pos he] at hh
          subst he
          obtain ⟨q, hq, hh⟩ := Option.bind_eq_some_iff.mp hh
          have HQ := Aside0.mk hq
          have HH2 := Aside0.mk hh
          have blt : w.heap.size < wr.heap.size := blk_lt rb
          obtain ⟨hrd1, hrd2, hrd3⟩ := Kd.R_reads' HS.out.nb
          have HRc := Aside0.mk hrd3
          have HRl := Aside0.mk hrd2
          have BLT := Aside0.mk blt
          have ez : ((0 : Int) != 0) = false := rfl
          clear hh hq hee xb hend rb f0 blt hrd1 hrd2 hrd3
          have stepf : ∀ w3, Below wr.heap.size wr w3 → w3.heap[w.heap.size]? = some (.cells #[.int .i64 0, .bool false, .int .i64 0, .slice none 0 0] 25 (0, 0)) ∧ Kd.R (Kd.int .i64) 3 w3 w.heap.size (fun _ => True) (.slice A1 nums.length c1) nums ∧ Below w.heap.size w w3 := fun w3 hb => ⟨(hb.block _ BLT.out).trans HS.out.res, Kd.R_below HS.out.nb hb, below_step HS.out.below hb⟩
          have STEP := Aside0.mk stepf
          clear stepf
          by_cases q0 : q = 0
          · subst q0
            have hh := HH2.out
            rw [if_pos rfl] at hh
            simp only [Option.some.injEq, Prod.mk.injEq] at hh
            obtain ⟨rfl, rfl, rfl, rfl, rfl⟩ := hh
            clear HH2
            go_wp2_with (first | (go_at_call 62; (with_reducible refine HEND.out.mono ?_); rintro e w' ⟨rfl, rfl⟩) | (go_at_call 15; (with_reducible refine (reply_Check.calls (wrap64 n1) (n2 == 1) (wrap64 n3) A1 c1 nums _ _ HRc.out HRl.out HQ.out).mono ?_); rintro e w3 ⟨rfl, hb⟩; have HR3 := Aside0.mk (STEP.out w3 hb); have k0' := pw_cell_below hb k0; have k1' := pw_cell_below hb k1; have k2' := pw_cell_below hb k2; have k3' := pw_cell_below hb k3; have y0' := pw_cell_below hb y0; have y1' := pw_cell_below hb y1; have y2' := pw_cell_below hb y2; have y3' := pw_cell_below hb y3; have f0' := (hb.frozen (p := ⟨w.heap.size, 0, none⟩) BLT.out).trans f00; have f1' := (hb.frozen (p := ⟨w.heap.size, 1, none⟩) BLT.out).trans f01; have f2' := (hb.frozen (p := ⟨w.heap.size, 2, none⟩) BLT.out).trans f02; have f3' := (hb.frozen (p := ⟨w.heap.size, 3, none⟩) BLT.out).trans f03; clear hb))
            (try simp only [Exit.inBlock, Exit.then])
            refine bodyPost_ret (results_ct rfl _ _ w.heap.size 25 #[.int .i64 (wrap64 n1), .bool (n2 == 1), .int .i64 (wrap64 n3), .slice A1 nums.length c1] (0, 0) _ rfl ?hblk Try.underlying25 rfl (by kernel_rfl)) rfl ?_
            case hblk => exact blk_put (cs := #[.int .i64 (wrap64 n1), .bool (n2 == 1), .int .i64 (wrap64 n3), .slice none 0 0]) (blk_put (cs := #[.int .i64 (wrap64 n1), .bool (n2 == 1), .int .i64 0, .slice none 0 0]) (blk_put (cs := #[.int .i64 (wrap64 n1), .bool false, .int .i64 0, .slice none 0 0]) (blk_put (cs := #[.int .i64 0, .bool false, .int .i64 0, .slice none 0 0]) HR3.out.1 0 _ rfl) 1 _ rfl) 2 _ rfl) 3 _ rfl
            obtain ⟨s1, s2, s3⟩ := HR3.out
            have p0 := blk_put (cs := #[.int .i64 0, .bool false, .int .i64 0, .slice none 0 0]) s1 0 (.int .i64 (wrap64 n1)) rfl
            have p1 := blk_put p0 1 (.bool (n2 == 1)) rfl
            have p2 := blk_put p1 2 (.int .i64 (wrap64 n3)) rfl
            exact ⟨_, rfl, Kd.R_set (Kd.R_set (Kd.R_set (Kd.R_set s2 s1 (by decide) 0 _) p0 (by decide) 1 _) p1 (by decide) 2 _) p2 (by decide) 3 _, below_set (below_set (below_set (below_set s3 (Nat.le_refl _)) (Nat.le_refl _)) (Nat.le_refl _)) (Nat.le_refl _)⟩
          · have hh := HH2.out
            rw [if_neg q0] at hh
            simp only [Option.some.injEq, Prod.mk.injEq] at hh
            obtain ⟨rfl, rfl, rfl, rfl, rfl⟩ := hh
            have e2 : (q != 0) = true := bne_iff_ne.mpr q0
            clear HH2 q0
            go_wp2_with (first | (go_at_call 62; (with_reducible refine HEND.out.mono ?_); rintro e w' ⟨rfl, rfl⟩) | (go_at_call 15; (with_reducible refine (reply_Check.calls (wrap64 n1) (n2 == 1) (wrap64 n3) A1 c1 nums _ _ HRc.out HRl.out HQ.out).mono ?_); rintro e w3 ⟨rfl, hb⟩; have HR3 := Aside0.mk (STEP.out w3 hb); have k0' := pw_cell_below hb k0; have k1' := pw_cell_below hb k1; have k2' := pw_cell_below hb k2; have k3' := pw_cell_below hb k3; have y0' := pw_cell_below hb y0; have y1' := pw_cell_below hb y1; have y2' := pw_cell_below hb y2; have y3' := pw_cell_below hb y3; have f0' := (hb.frozen (p := ⟨w.heap.size, 0, none⟩) BLT.out).trans f00; have f1' := (hb.frozen (p := ⟨w.heap.size, 1, none⟩) BLT.out).trans f01; have f2' := (hb.frozen (p := ⟨w.heap.size, 2, none⟩) BLT.out).trans f02; have f3' := (hb.frozen (p := ⟨w.heap.size, 3, none⟩) BLT.out).trans f03; clear hb))
            (try simp only [Exit.inBlock, Exit.then])
            refine bodyPost_ret (results_ct rfl _ _ w.heap.size 25 #[.int .i64 0, .bool false, .int .i64 0, .slice none 0 0] (0, 0) _ rfl ?hblk Try.underlying25 rfl (by kernel_rfl)) rfl ?_
            case hblk => exact blk_put (cs := #[.int .i64 0, .bool false, .int .i64 0, .slice none 0 0]) (blk_put (cs := #[.int .i64 0, .bool false, .int .i64 0, .slice none 0 0]) (blk_put (cs := #[.int .i64 0, .bool false, .int .i64 0, .slice none 0 0]) (blk_put (cs := #[.int .i64 0, .bool false, .int .i64 0, .slice none 0 0]) HR3.out.1 0 _ rfl) 1 _ rfl) 2 _ rfl) 3 _ rfl
            exact ⟨_, rfl, Kd.R_nil _ _ _ _ _, below_set (below_set (below_set (below_set HR3.out.2.2 (Nat.le_refl _)) (Nat.le_refl _)) (Nat.le_refl _)) (Nat.le_refl _)⟩
        · rw [if_neg he] at hh
          simp only [Option.some.injEq, Prod.mk.injEq] at hh
          obtain ⟨rfl, rfl, rfl, rfl, rfl⟩ := hh
          have e1 : (ee != 0) = true := bne_iff_ne.mpr he
          clear hee xb hend rb f0 he
          go_wp2_with (go_at_call 62; (with_reducible refine HEND.out.mono ?_); rintro e w' ⟨rfl, rfl⟩)
          (try simp only [Exit.inBlock, Exit.then])
          refine bodyPost_ret (results_ct rfl _ _ w.heap.size 25 #[.int .i64 0, .bool false, .int .i64 0, .slice none 0 0] (0, 0) _ rfl ?hblk Try.underlying25 rfl (by kernel_rfl)) rfl ?_
          case hblk => exact blk_put (cs := #[.int .i64 0, .bool false, .int .i64 0, .slice none 0 0]) (blk_put (cs := #[.int .i64 0, .bool false, .int .i64 0, .slice none 0 0]) (blk_put (cs := #[.int .i64 0, .bool false, .int .i64 0, .slice none 0 0]) (blk_put (cs := #[.int .i64 0, .bool false, .int .i64 0, .slice none 0 0]) HS.out.res 0 _ rfl) 1 _ rfl) 2 _ rfl) 3 _ rfl
          exact ⟨_, rfl, Kd.R_nil _ _ _ _ _, below_set (below_set (below_set (below_set HS.out.below (Nat.le_refl _)) (Nat.le_refl _)) (Nat.le_refl _)) (Nat.le_refl _)⟩
end Go.Proofs.Ytgfkcmmhnibaiaa.PRpd
