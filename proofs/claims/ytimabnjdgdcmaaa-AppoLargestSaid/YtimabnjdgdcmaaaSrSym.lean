/- slices.symMergeCmpFunc, walked. -/
import Derived.Test.YtimabnjdgdcmaaaSrRot
namespace Go.Proofs.Ytimabnjdgdcmaaa.PApp
open Go Go.Proofs Go.Shelf Go.RowKit Go.Lib Go.Sort Go.Proofs.YtimabnjdgdcmaaaW.PrintWords Go.Proofs.YtimabnjdgdcmaaaW.PrintLast Go.Proofs.YtimabnjdgdcmaaaW.PrintMore
set_option linter.unusedVariables false
set_option linter.unusedSimpArgs false
section
variable {α : Type} [Inhabited α]
/-- The half search: P holds below the place that is told. -/
def bsP (P : Nat → Bool) : Nat → Nat → Nat → Nat
  | 0, i, _ => i
  | f + 1, i, j => if i < j then (if P ((i + j) / 2) = true then bsP P f ((i + j) / 2 + 1) j else bsP P f i ((i + j) / 2)) else i
def upF : Nat → Nat → Array α → Array α
  | 0, _, d => d
  | n + 1, k, d => upF n (k + 1) (swp d k (k + 1))
def downF : Nat → Nat → Array α → Array α
  | 0, _, d => d
  | n + 1, k, d => downF n (k - 1) (swp d k (k - 1))
def symF (lt : α → α → Bool) : Nat → Nat → Nat → Nat → Array α → Array α
  | 0, _, _, _, d => d
  | f + 1, a, m, b, d =>
    if m - a = 1 then upF (bsP (fun h => lt d[h]! d[a]!) (b - m) m b - 1 - a) a d
    else if b - m = 1 then downF (m - bsP (fun h => !lt d[m]! d[h]!) (m - a) a m) m d
    else
      let mid := (a + b) / 2
      let n := mid + m
      let s0 := if mid < m then n - b else a
      let r0 := if mid < m then mid else m
      let start := bsP (fun c => !lt d[n - 1 - c]! d[c]!) (r0 - s0) s0 r0
      let en := n - start
      let d1 := if start < m ∧ m < en then rotA d start m en else d
      let d2 := if a < start ∧ start < mid then symF lt f a start mid d1 else d1
      if mid < en ∧ en < b then symF lt f mid en b d2 else d2
end
theorem halfA (i j h : Nat) (hh : h = (i + j) / 2) (hb : i + j < 4611686018427387904) : wrap64 (IntKind.u64.wrap (wrap64 ((i : Int) + (j : Int))) / 2) = (h : Int) := by
  rw [wrapB i j (i + j) rfl hb, IntKind.wrap_u64]
  unfold wrap64
  omega
theorem wrS (h : Nat) (hb : h < 4611686018427387904) : wrap64 ((h : Int) + 1) = ((h + 1 : Nat) : Int) := by unfold wrap64; omega
theorem wrP (h e : Nat) (he : h = e + 1) (hb : h < 4611686018427387904) : wrap64 ((h : Int) - 1) = (e : Int) := by unfold wrap64; omega
theorem wrSA (h e : Nat) (he : e = h + 1) (hb : h < 4611686018427387904) : IntKind.i64.wrap ((h : Int) + 1) = (e : Int) := by rw [IntKind.wrap_i64]; omega
theorem wrPA (h e : Nat) (he : h = e + 1) (hb : h < 4611686018427387904) : IntKind.i64.wrap ((h : Int) - 1) = (e : Int) := by rw [IntKind.wrap_i64]; omega
theorem Wd_drewN {α : Type} [Inhabited α] (enc : α → Value) (w : World) (blk off : Nat) (d : Array α) (n q : Nat) : (Wd enc w blk off d n).drewN q = Wd enc w blk off d (n + q) := World.drewN_drewN _ _ _
theorem bsP_range (P : Nat → Bool) : ∀ (f i j : Nat), i ≤ j → i ≤ bsP P f i j ∧ bsP P f i j ≤ j
  | 0, i, j, h => by rw [bsP]; omega
  | f + 1, i, j, h => by
    rw [bsP]
    split
    · split
      · have := bsP_range P f ((i + j) / 2 + 1) j (by omega); omega
      · have := bsP_range P f i ((i + j) / 2) (by omega); omega
    · omega
theorem bsP_end (P : Nat → Bool) (f i : Nat) : bsP P f i i = i := by
  cases f with
  | zero => rfl
  | succ f => rw [bsP, if_neg (by omega)]
section
variable {α : Type} [Inhabited α]
theorem upF_size : ∀ (n k : Nat) (d : Array α), (upF n k d).size = d.size
  | 0, _, d => rfl
  | n + 1, k, d => by rw [upF, upF_size n, size_swp]
theorem downF_size : ∀ (n k : Nat) (d : Array α), (downF n k d).size = d.size
  | 0, _, d => rfl
  | n + 1, k, d => by rw [downF, downF_size n, size_swp]
theorem symF_size (lt : α → α → Bool) : ∀ (f a m b : Nat) (d : Array α), (symF lt f a m b d).size = d.size
  | 0, _, _, _, d => rfl
  | f + 1, a, m, b, d => by
    rw [symF]
    split
    · exact upF_size _ _ _
    · split
      · exact downF_size _ _ _
      · dsimp only
        have h1 : ∀ (c : Prop) [Decidable c] (x y z : Nat) (d : Array α), (if c then rotA d x y z else d).size = d.size := fun c _ x y z d => by split; exact rotA_size _ _ _ _; rfl
        have h2 : ∀ (c : Prop) [Decidable c] (x y z : Nat) (d : Array α), (if c then symF lt f x y z d else d).size = d.size := fun c _ x y z d => by split; exact symF_size lt f _ _ _ _; rfl
        rw [h2, h2, h1]
end
theorem cell_Wd {α : Type} [Inhabited α] {enc : α → Value} {w : World} {blk off : Nat} {d0 d : Array α} (hH : Holds enc w blk off d0) (hs : d.size = d0.size) (n i : Nat) (hi : i < d0.size) :
    (Wd enc w blk off d n).cell? ⟨blk, off + i, none⟩ = some (enc d[i]!) ∧ (Wd enc w blk off d n).frozen? ⟨blk, off + i, none⟩ = false :=
  holds_putRow enc w blk off d0 d hH hs i (by omega)
theorem cmp_Wd {α : Type} [Inhabited α] {enc : α → Value} {cf : α → α → Int} {g : Nat} {cb : Array Value} {w : World} {blk off : Nat} {d0 d : Array α} (hcmp : CmpReads Try.prog g cb enc cf blk off d0.size w) (hs : d.size = d0.size) (m : Nat) (x y : α) :
    ∀ n, Calls Try.prog g (#[enc x, enc y] ++ cb) ((Wd enc w blk off d m).drewN n) fun e w' => e = .returned (.int .i64 (cf x y)) ∧ ∃ q, w' = ((Wd enc w blk off d m).drewN n).drewN q := fun n => by
  have := hcmp (m + n) #[] d hs x y
  rw [sortWorld_none, ← World.drewN_drewN] at this
  exact this
set_option maxHeartbeats 8000000 in
set_option maxRecDepth 1000000 in
theorem sym63_up {α : Type} [Inhabited α] (enc : α → Value) (hO : OneCell enc) (cf : α → α → Int) (g : Nat) (cb : Array Value) (blk off cap a m b f : Nat) (d0 d : Array α) (m0 : Nat) (w : World)
    (eg : ∀ args w, (callFunc g args).run Try.prog w = .ok (.enter g args) w) (hcmp : CmpReads Try.prog g cb enc cf blk off d0.size w)
    (hH : Holds enc w blk off d0) (hs : d.size = d0.size) (ham : m = a + 1) (hmb : m < b) (hb : b ≤ d0.size) (hsz : d0.size < 1152921504606846976) :
    Calls Try.prog 63 #[.slice (some ⟨blk, off, none⟩) d0.size cap, .int .i64 a, .int .i64 m, .int .i64 b, .func (.func g) #[] cb] (Wd enc w blk off d m0) fun e w' =>
      e = .returned (.tuple #[]) ∧ ∃ n, w' = Wd enc w blk off (symF (ltOf cf) (f + 1) a m b d) n := by
  have hcl0 := hO.cells
  simp only [Value.cells] at hcl0
  have hst := hO.store Try.prog
  have hc1 : wrap64 ((m : Int) - (a : Int)) = 1 := by unfold wrap64; omega
  have HR : Hid (symF (ltOf cf) (f + 1) a m b d = upF (bsP (fun h => ltOf cf d[h]! d[a]!) (b - m) m b - 1 - a) a d) := by
    show _ = _
    rw [symF, if_pos (by omega)]
  have HH : Hid (Holds enc w blk off d0) := hH
  have HC : Aside (CmpReads Try.prog g cb enc cf blk off d0.size w) := hcmp
  have HB : Hid (d.size = d0.size ∧ m = a + 1 ∧ m < b ∧ b ≤ d0.size ∧ d0.size < 1152921504606846976) := ⟨hs, ham, hmb, hb, hsz⟩
  clear hcmp hH hs ham hmb hb hsz
  go_enter Try.func63, Try.ntmps63
  go_wp2
  clear hc1
  go_loopg [10, 11, 12] (b - m) (fun kq v10 v11 v12 wr => ∃ (i j n : Nat), v10 = .int .i64 i ∧ v11 = .int .i64 j ∧ Hid (m ≤ i ∧ i ≤ j ∧ j ≤ b ∧ j - i ≤ kq) ∧ wr = Wd enc w blk off d n ∧ Hid (bsP (fun h => ltOf cf d[h]! d[a]!) kq i j = bsP (fun h => ltOf cf d[h]! d[a]!) (b - m) m b))
  case atStart =>
    obtain ⟨hs, ham, hmb, hb, hsz⟩ := HB.out
    exact ⟨m, b, m0, rfl, rfl, ⟨Nat.le_refl _, by omega, Nat.le_refl _, Nat.le_refl _⟩, rfl, rfl⟩
  case round =>
    obtain ⟨i, j, n, rfl, rfl, HI, rfl, HE⟩ := hrel
    obtain ⟨hs, ham, hmb, hb, hsz⟩ := HB.out
    obtain ⟨i0, i1, i2, i3⟩ := HI.out
    by_cases hij : i < j
    · cases gk with
      | zero => exact absurd i3 (by omega)
      | succ k1 =>
        have d1 : decide ((i : Int) < (j : Int)) = true := decide_eq_true (by omega)
        have d2 : decide (i < j) = true := decide_eq_true hij
        obtain ⟨h, hh⟩ : ∃ h, h = (i + j) / 2 := ⟨_, rfl⟩
        have hhb : h < d0.size := by omega
        have hab : a < d0.size := by omega
        obtain ⟨ch, _⟩ := cell_Wd (enc := enc) (off := off) HH.out hs n h hhb
        obtain ⟨ca, _⟩ := cell_Wd (enc := enc) (off := off) HH.out hs n a hab
        have hE := HE.out
        rw [bsP, if_pos hij, ← hh] at hE
        obtain ⟨xh, hxh⟩ : ∃ x, d[h]! = x := ⟨_, rfl⟩
        obtain ⟨xa, hxa⟩ : ∃ x, d[a]! = x := ⟨_, rfl⟩
        have hPv : ltOf cf d[h]! d[a]! = decide (cf xh xa < 0) := by rw [← hxh, ← hxa]; rfl
        rw [hPv] at hE
        rw [hxh] at ch
        rw [hxa] at ca
        have hc := cmp_Wd HC.out hs n xh xa
        have z1 := castLt hhb
        have z2 := castLt hab
        have y1 := castNn h
        have y2 := castNn a
        have hq1 : i + j < 4611686018427387904 := by omega
        have hq2 : h + 1 < 4611686018427387904 := by omega
        have W := halfA i j h hh hq1
        have HP : Hid (h = (i + j) / 2 ∧ i < j ∧ h + 1 < 4611686018427387904) := ⟨hh, hij, hq2⟩
        have HE1 : Hid _ := hE
        clear hs ham hmb hb hsz i0 i1 i2 i3 hij hh hhb hab hxh hxa hq1 hq2 hE hPv HE
        generalize hwq : Wd enc w blk off d n = wq at ch ca hc ⊢
        have HW : Hid (Wd enc w blk off d n = wq) := hwq
        clear hwq
        by_cases hlv : cf xh xa < 0
        · have hE := HE1.out
          rw [if_pos (decide_eq_true hlv)] at hE
          have HE2 : Hid _ := hE
          clear hE HE1
          go_wp2_with fail
          try rw [W]
          clear W
          go_quiet (first | (go_at_fn g; refine Calls.quiet_of (hc _)))
          go_wp2
          go_roundg k1
          case measure => omega
          case rel =>
            obtain ⟨e1, e2, e3⟩ := HP.out
            obtain ⟨i0, i1, i2, i3⟩ := HI.out
            exact ⟨h + 1, j, n + nq, by rw [wrS h (by omega)], rfl, ⟨by omega, by omega, i2, by omega⟩, by rw [← HW.out, Wd_drewN], HE2⟩
        · have hE := HE1.out
          rw [if_neg (by rw [decide_eq_false hlv]; decide)] at hE
          have HE2 : Hid _ := hE
          clear hE HE1
          go_wp2_with fail
          try rw [W]
          clear W
          go_quiet (first | (go_at_fn g; refine Calls.quiet_of (hc _)))
          go_wp2
          go_roundg k1
          case measure => omega
          case rel =>
            obtain ⟨e1, e2, e3⟩ := HP.out
            obtain ⟨i0, i1, i2, i3⟩ := HI.out
            exact ⟨i, h, n + nq, rfl, rfl, ⟨by omega, by omega, by omega, by omega⟩, by rw [← HW.out, Wd_drewN], HE2⟩
    · have d1 : decide ((i : Int) < (j : Int)) = false := decide_eq_false (by omega)
      have d2 : decide (i < j) = false := decide_eq_false hij
      obtain rfl : i = j := by omega
      have hE := HE.out
      rw [bsP_end] at hE
      have hR := HR.out
      rw [← hE] at hR
      have HR2 : Hid _ := hR
      obtain ⟨e, he⟩ : ∃ e, i = e + 1 := ⟨i - 1, by omega⟩
      have HI2 : Hid (m ≤ i ∧ i ≤ b ∧ i = e + 1) := ⟨i0, i2, he⟩
      have hib : i < 4611686018427387904 := by omega
      clear hs ham hmb hb hsz i0 i1 i2 i3 hij hE hR HE HI HR
      go_wp2
      go_loopg [13] (e - a + 1) (fun kq v13 wr => ∃ (k n : Nat) (dk : Array α), v13 = .int .i64 k ∧ Hid (a ≤ k ∧ k ≤ e ∧ k + kq = e + 1 ∧ dk.size = d0.size) ∧ wr = Wd enc w blk off dk n ∧ Hid (upF (e - k) k dk = upF (i - 1 - a) a d))
      case atStart =>
        obtain ⟨hs, ham, hmb, hb, hsz⟩ := HB.out
        obtain ⟨j0, j1, j2⟩ := HI2.out
        exact ⟨a, n, d, rfl, ⟨Nat.le_refl _, by omega, by omega, hs⟩, rfl, by show _ = _; rw [show i - 1 - a = e - a by omega]⟩
      case round =>
        obtain ⟨k, n2, dk, rfl, HI3, rfl, HE3⟩ := hrel
        obtain ⟨hs, ham, hmb, hb, hsz⟩ := HB.out
        obtain ⟨j0, j1, j2⟩ := HI2.out
        obtain ⟨k0, k1', k2, k3⟩ := HI3.out
        by_cases hke : k < e
        · cases gk with
          | zero => exact absurd k2 (by omega)
          | succ kk =>
            have d3 : decide ((k : Int) < (e : Int)) = true := decide_eq_true (by omega)
            have d4 : decide (k < e) = true := decide_eq_true hke
            obtain ⟨q, hq⟩ : ∃ q, q = k + 1 := ⟨_, rfl⟩
            have hkz : k < d0.size := by omega
            have hqz : q < d0.size := by omega
            obtain ⟨ck, fk⟩ := cell_Wd (enc := enc) (off := off) HH.out k3 n2 k hkz
            obtain ⟨cq, fq⟩ := cell_Wd (enc := enc) (off := off) HH.out k3 n2 q hqz
            obtain ⟨xk, hxk⟩ : ∃ x, dk[k]! = x := ⟨_, rfl⟩
            obtain ⟨xq, hxq⟩ : ∃ x, dk[q]! = x := ⟨_, rfl⟩
            rw [hxk] at ck
            rw [hxq] at cq
            have z1 := castLt hkz
            have z2 := castLt hqz
            have y1 := castNn k
            have y2 := castNn q
            have n1 : (off + k = off + q) = False := eq_false (by omega)
            have n2' : (off + q = off + k) = False := eq_false (by omega)
            have n3 : (k = q) = False := eq_false (by omega)
            have n4 : (q = k) = False := eq_false (by omega)
            have hkb : k < 4611686018427387904 := by omega
            have hE := HE3.out
            rw [show e - k = (e - (k + 1)) + 1 by omega, upF, ← hq] at hE
            have HE4 : Hid (upF (e - q) q (swp dk k q) = upF (i - 1 - a) a d) := hE
            have HP3 : Hid (q = k + 1 ∧ k < e ∧ dk[k]! = xk ∧ dk[q]! = xq ∧ k < dk.size ∧ q < dk.size ∧ k < 4611686018427387904) := ⟨hq, hke, hxk, hxq, by omega, by omega, hkb⟩
            have V1 := wrP i e j2 hib
            have V2 := wrSA k q hq hkb
            clear hs ham hmb hb hsz j0 j1 j2 k0 k1' k2 k3 hke hq hkz hqz hxk hxq hE HE3 hkb
            generalize hwq : Wd enc w blk off dk n2 = wq at ck cq fk fq ⊢
            have HW : Hid (Wd enc w blk off dk n2 = wq) := hwq
            clear hwq
            go_wp2_with fail
            clear V1
            go_big_region
            all_goals go_wp2
            clear V2
            go_roundg kk
            case measure => omega
            case rel =>
              obtain ⟨p1, p2, p3, p4, p5, p6, p7⟩ := HP3.out
              obtain ⟨k0, k1', k2, k3⟩ := HI3.out
              exact ⟨k + 1, n2 + 1, swp dk k q, by first | rw [wrS k p7] | rw [p1], ⟨by omega, by omega, by omega, by rw [size_swp]; exact k3⟩, by rw [← HW.out, ← p3, ← p4]; exact swap_worldC enc w blk off dk n2 k q p5 p6, by rw [← p1]; exact HE4⟩
        · have d3 : decide ((k : Int) < (e : Int)) = false := decide_eq_false (by omega)
          have d4 : decide (k < e) = false := decide_eq_false hke
          have hE := HE3.out
          rw [show e - k = 0 by omega] at hE
          have HF : Hid (symF (ltOf cf) (f + 1) a m b d = dk) := by show _ = _; rw [HR2.out, ← hE]; rfl
          have V1 := wrP i e j2 hib
          clear hs ham hmb hb hsz j0 j1 j2 k0 k1' k2 k3 hke hE HE3
          go_wp2
          (try simp only [Exit.inBlock, Exit.then])
          refine bodyPost_ret (results_none rfl _ _ _) rfl ?_
          exact ⟨rfl, n2, by rw [HF.out]⟩
end Go.Proofs.Ytimabnjdgdcmaaa.PApp
