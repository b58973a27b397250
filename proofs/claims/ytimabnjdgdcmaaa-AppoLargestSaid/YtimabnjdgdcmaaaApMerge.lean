/- Plain: symMerge merges, and keeps the order of equal ones. -/
import Derived.Test.YtimabnjdgdcmaaaApSort
namespace Go.Proofs.Ytimabnjdgdcmaaa.Pure
open Go.Sort Go.Proofs.Ytimabnjdgdcmaaa.PApp
open Go.Proofs (ltOf)
set_option linter.unusedVariables false
set_option linter.unusedSectionVars false
set_option linter.unusedSimpArgs false
section
variable {α : Type} [Inhabited α]
/-- No later one is less than an earlier one. -/
def So (lt : α → α → Bool) (L : List α) : Prop := L.Pairwise (fun x y => lt y x = false)
/-- Of two that are neither less, the earlier one has the smaller number. -/
def St (lt : α → α → Bool) (num : α → Nat) (L : List α) : Prop := L.Pairwise (fun x y => lt x y = true ∨ lt y x = true ∨ num x < num y)
structure Mg (lt : α → α → Bool) (num : α → Nat) (L Z : List α) : Prop where
  perm : Z.Perm L
  so : So lt Z
  st : St lt num Z
theorem SWO.asymm {lt : α → α → Bool} (h : SWO lt) {x y : α} (hx : lt x y = true) : lt y x = false := by
  cases e : lt y x with
  | false => rfl
  | true => have := h.trans x y x hx e; rw [h.irrefl] at this; cases this
theorem cut_merge {lt : α → α → Bool} {num : α → Nat} (hS : SWO lt) {X1 X2 Y1 Y2 Z1 Z2 : List α} (hX : So lt (X1 ++ X2)) (hY : So lt (Y1 ++ Y2)) (hT : St lt num ((X1 ++ X2) ++ (Y1 ++ Y2)))
    (h21 : ∀ x ∈ X2, ∀ y ∈ Y1, lt y x = true) (h12 : ∀ x ∈ X1, ∀ y ∈ Y2, lt y x = false) (m1 : Mg lt num (X1 ++ Y1) Z1) (m2 : Mg lt num (X2 ++ Y2) Z2) :
    Mg lt num ((X1 ++ X2) ++ (Y1 ++ Y2)) (Z1 ++ Z2) := by
  have e1 : ∀ z ∈ Z1, z ∈ X1 ∨ z ∈ Y1 := fun z hz => List.mem_append.mp (m1.perm.mem_iff.mp hz)
  have e2 : ∀ z ∈ Z2, z ∈ X2 ∨ z ∈ Y2 := fun z hz => List.mem_append.mp (m2.perm.mem_iff.mp hz)
  have xx := (List.pairwise_append.mp hX).2.2
  have yy := (List.pairwise_append.mp hY).2.2
  have tt := List.pairwise_append.mp hT
  have txx := (List.pairwise_append.mp tt.1).2.2
  have tyy := (List.pairwise_append.mp tt.2.1).2.2
  have txy := tt.2.2
  refine ⟨?_, List.pairwise_append.mpr ⟨m1.so, m2.so, fun z1 h1 z2 h2 => ?_⟩, List.pairwise_append.mpr ⟨m1.st, m2.st, fun z1 h1 z2 h2 => ?_⟩⟩
  · refine (m1.perm.append m2.perm).trans ?_
    rw [List.append_assoc, List.append_assoc]
    refine List.Perm.append_left X1 ?_
    rw [← List.append_assoc, ← List.append_assoc]
    exact List.Perm.append_right Y2 List.perm_append_comm
  · rcases e1 z1 h1 with a | a <;> rcases e2 z2 h2 with b | b
    · exact xx z1 a z2 b
    · exact h12 z1 a z2 b
    · exact SWO.asymm hS (h21 z2 b z1 a)
    · exact yy z1 a z2 b
  · rcases e1 z1 h1 with a | a <;> rcases e2 z2 h2 with b | b
    · exact txx z1 a z2 b
    · exact txy z1 (List.mem_append_left _ a) z2 (List.mem_append_right _ b)
    · exact Or.inl (h21 z2 b z1 a)
    · exact tyy z1 a z2 b
theorem Mg.self {lt : α → α → Bool} {num : α → Nat} {L : List α} (h1 : So lt L) (h2 : St lt num L) : Mg lt num L L := ⟨List.Perm.refl _, h1, h2⟩
/-- A segment's elements, by their places. -/
theorem seg_get (d : Array α) (P X S : List α) (h : d.toList = P ++ (X ++ S)) (i : Nat) (h1 : P.length ≤ i) (h2 : i < P.length + X.length) : d[i]! ∈ X ∧ d[i]! = X[i - P.length]'(by omega) := by
  have hlt : i < d.size := by rw [← Array.length_toList, h]; simp; omega
  have e : d[i]! = X[i - P.length]'(by omega) := by
    rw [getElem!_pos d i hlt, ← Array.getElem_toList]
    simp only [h]
    rw [List.getElem_append_right h1, List.getElem_append_left (by omega)]
  exact ⟨by rw [e]; exact List.getElem_mem _, e⟩
theorem seg_so {lt : α → α → Bool} (d : Array α) (P X S : List α) (h : d.toList = P ++ (X ++ S)) (hX : So lt X) (i j : Nat) (h1 : P.length ≤ i) (hij : i < j) (h2 : j < P.length + X.length) : lt d[j]! d[i]! = false := by
  rw [(seg_get d P X S h i h1 (by omega)).2, (seg_get d P X S h j (by omega) h2).2]
  exact List.pairwise_iff_getElem.mp hX _ _ _ _ (by omega)
theorem seg_so' {lt : α → α → Bool} (hS : SWO lt) (d : Array α) (P X S : List α) (h : d.toList = P ++ (X ++ S)) (hX : So lt X) (i j : Nat) (h1 : P.length ≤ i) (hij : i ≤ j) (h2 : j < P.length + X.length) : lt d[j]! d[i]! = false := by
  rcases Nat.lt_or_eq_of_le hij with hlt | rfl
  · exact seg_so d P X S h hX i j h1 hlt h2
  · exact hS.irrefl _
theorem mem_seg (d : Array α) (P X S : List α) (h : d.toList = P ++ (X ++ S)) {x : α} (hx : x ∈ X) : ∃ i, P.length ≤ i ∧ i < P.length + X.length ∧ d[i]! = x := by
  obtain ⟨k, hk, rfl⟩ := List.getElem_of_mem hx
  refine ⟨P.length + k, by omega, by omega, ?_⟩
  rw [(seg_get d P X S h (P.length + k) (by omega) (by omega)).2]
  simp
theorem ltle {lt : α → α → Bool} (hS : SWO lt) {x y z : α} (h1 : lt x y = true) (h2 : lt z y = false) : lt x z = true := by
  cases e : lt x z with
  | true => rfl
  | false => have := hS.ntrans x z y e h2; rw [h1] at this; cases this
theorem lelt {lt : α → α → Bool} (hS : SWO lt) {x y z : α} (h1 : lt y x = false) (h2 : lt y z = true) : lt x z = true := by
  cases e : lt x z with
  | true => rfl
  | false => have := hS.ntrans y x z h1 e; rw [h2] at this; cases this
theorem St.sub {lt : α → α → Bool} {num : α → Nat} {L M : List α} (h : St lt num L) (hs : List.Sublist M L) : St lt num M := List.Pairwise.sublist hs h
theorem So.sub {lt : α → α → Bool} {L M : List α} (h : So lt L) (hs : List.Sublist M L) : So lt M := List.Pairwise.sublist hs h
set_option maxHeartbeats 4000000 in
theorem symF_list {lt : α → α → Bool} (hS : SWO lt) (num : α → Nat) : ∀ (f a m b : Nat) (d : Array α) (P X Y S : List α), d.toList = P ++ ((X ++ Y) ++ S) → P.length = a → X.length = m - a → Y.length = b - m → a < m → m < b → b - a ≤ f →
    So lt X → So lt Y → St lt num (X ++ Y) → ∃ Z, (symF lt f a m b d).toList = P ++ (Z ++ S) ∧ Mg lt num (X ++ Y) Z
  | 0, a, m, b, d, P, X, Y, S, h, hp, hx, hy, ham, hmb, hf, sX, sY, sT => by omega
  | f + 1, a, m, b, d, P, X, Y, S, h, hp, hx, hy, ham, hmb, hf, sX, sY, sT => by
    have hX : d.toList = P ++ (X ++ (Y ++ S)) := by rw [h, List.append_assoc]
    have hY : d.toList = (P ++ X) ++ (Y ++ S) := by rw [hX, List.append_assoc]
    have hlX : P.length + X.length = m := by omega
    have hlY : (P ++ X).length + Y.length = b := by rw [List.length_append]; omega
    have hlPX : (P ++ X).length = m := by rw [List.length_append]; omega
    have ordX : ∀ i j, a ≤ i → i ≤ j → j < m → lt d[j]! d[i]! = false := fun i j h1 h2 h3 => seg_so' hS d P X (Y ++ S) hX sX i j (by omega) h2 (by omega)
    have ordY : ∀ i j, m ≤ i → i ≤ j → j < b → lt d[j]! d[i]! = false := fun i j h1 h2 h3 => seg_so' hS d (P ++ X) Y S hY sY i j (by omega) h2 (by omega)
    -- a cut of both
    have cut : ∀ s e, a ≤ s → s ≤ m → m ≤ e → e ≤ b → (s < m → m < e → lt d[e - 1]! d[s]! = true) → (a < s → e < b → lt d[e]! d[s - 1]! = false) →
        ∃ X1 X2 Y1 Y2, X = X1 ++ X2 ∧ Y = Y1 ++ Y2 ∧ X1.length = s - a ∧ X2.length = m - s ∧ Y1.length = e - m ∧ Y2.length = b - e ∧ (∀ x ∈ X2, ∀ y ∈ Y1, lt y x = true) ∧ (∀ x ∈ X1, ∀ y ∈ Y2, lt y x = false) := by
      intro s e q1 q2 q3 q4 c1 c2
      refine ⟨X.take (s - a), X.drop (s - a), Y.take (e - m), Y.drop (e - m), (List.take_append_drop _ _).symm, (List.take_append_drop _ _).symm, by simp; omega, by simp; omega, by simp; omega, by simp; omega, ?_, ?_⟩
      · intro x hx2 y hy1
        have hl1 : (X.drop (s - a)).length = m - s := by simp; omega
        have hl2 : (Y.take (e - m)).length = e - m := by simp; omega
        obtain ⟨i, i1, i2, rfl⟩ := mem_seg d (P ++ X.take (s - a)) (X.drop (s - a)) (Y ++ S) (by rw [hX, List.append_assoc, ← List.append_assoc (X.take (s - a)), List.take_append_drop]) hx2
        obtain ⟨j, j1, j2, rfl⟩ := mem_seg d (P ++ X) (Y.take (e - m)) (Y.drop (e - m) ++ S) (by rw [hY, ← List.append_assoc (Y.take (e - m)), List.take_append_drop]) hy1
        have hl3 : (P ++ X.take (s - a)).length = s := by simp; omega
        have g1 := c1 (by omega) (by omega)
        have g2 := ordX s i q1 (by omega) (by omega)
        have g3 := ordY j (e - 1) (by omega) (by omega) (by omega)
        exact lelt hS g3 (ltle hS g1 g2)
      · intro x hx1 y hy2
        have hl1 : (X.take (s - a)).length = s - a := by simp; omega
        have hl2 : (Y.drop (e - m)).length = b - e := by simp; omega
        obtain ⟨i, i1, i2, rfl⟩ := mem_seg d P (X.take (s - a)) (X.drop (s - a) ++ (Y ++ S)) (by rw [hX, ← List.append_assoc (X.take (s - a)), List.take_append_drop]) hx1
        obtain ⟨j, j1, j2, rfl⟩ := mem_seg d ((P ++ X) ++ Y.take (e - m)) (Y.drop (e - m)) S (by rw [hX, List.append_assoc (P ++ X), ← List.append_assoc (Y.take (e - m)), List.take_append_drop, List.append_assoc]) hy2
        have hl3 : ((P ++ X) ++ Y.take (e - m)).length = e := by simp; omega
        have g1 := c2 (by omega) (by omega)
        have g2 := ordX i (s - 1) (by omega) (by omega) (by omega)
        have g3 := ordY e j (by omega) (by omega) (by omega)
        exact hS.ntrans _ _ _ (hS.ntrans _ _ _ g3 g1) g2
    rw [symF]
    by_cases c1 : m - a = 1
    · rw [if_pos c1]
      obtain ⟨s, hs⟩ : ∃ s, s = bsP (fun h => lt d[h]! d[a]!) (b - m) m b := ⟨_, rfl⟩
      have hr := bsP_range (fun h => lt d[h]! d[a]!) (b - m) m b (by omega)
      have hsp := bsP_spec (fun h => lt d[h]! d[a]!) (b - m) m b (by omega) (by omega) (fun c c' q1 q2 q3 q4 => lelt hS (ordY c c' q1 q2 q3) q4)
      rw [← hs] at hr hsp ⊢
      obtain ⟨X1, X2, Y1, Y2, rfl, rfl, l1, l2, l3, l4, k1, k2⟩ := cut a s (by omega) (by omega) hr.1 hr.2 (fun _ q => hsp.1 (s - 1) (by omega) (by omega)) (fun q _ => by omega)
      obtain rfl := List.eq_nil_of_length_eq_zero (show X1.length = 0 by omega)
      obtain ⟨x, rfl⟩ : ∃ x, X2 = [x] := List.length_eq_one_iff.mp (by omega)
      have hda : d[a]! = x := get_a d P _ x a (by rw [hX]; simp; rfl) hp.symm
      refine ⟨Y1 ++ x :: Y2, ?_, ?_⟩
      · have := upF_list (s - 1 - a) a d P Y1 (Y2 ++ S) x (by rw [hX]; simp) hp (by omega)
        rw [this]; simp
      · have hm : Mg lt num (([] ++ [x]) ++ (Y1 ++ Y2)) (Y1 ++ ([x] ++ Y2)) := by
          refine cut_merge hS sX sY sT k1 (fun z hz => by simp at hz) (by simpa using Mg.self (sY.sub (List.sublist_append_left _ _)) (sT.sub (by simp))) (Mg.self ?_ (sT.sub (by simp)))
          refine List.pairwise_cons.mpr ⟨fun y hy => ?_, sY.sub (List.sublist_append_right _ _)⟩
          obtain ⟨j, j1, j2, rfl⟩ := mem_seg d ((P ++ ([] ++ [x])) ++ Y1) Y2 S (by rw [hY]; simp) hy
          have hl : ((P ++ ([] ++ [x])) ++ Y1).length = s := by simp at hlPX ⊢; omega
          have := hsp.2 j (by omega) (by omega)
          rw [← hda]
          exact this
        simpa using hm
    · rw [if_neg c1]
      by_cases c2 : b - m = 1
      · rw [if_pos c2]
        obtain ⟨s, hs⟩ : ∃ s, s = bsP (fun h => !lt d[m]! d[h]!) (m - a) a m := ⟨_, rfl⟩
        have hr := bsP_range (fun h => !lt d[m]! d[h]!) (m - a) a m (by omega)
        have hsp := bsP_spec (fun h => !lt d[m]! d[h]!) (m - a) a m (by omega) (by omega) (fun c c' q1 q2 q3 q4 => by
          simp only [Bool.not_eq_true'] at q4 ⊢
          exact hS.ntrans _ _ _ q4 (ordX c c' q1 q2 q3))
        rw [← hs] at hr hsp ⊢
        obtain ⟨X1, X2, Y1, Y2, rfl, rfl, l1, l2, l3, l4, k1, k2⟩ := cut s b hr.1 hr.2 (by omega) (by omega) (fun q _ => by
            have := hsp.2 s (by omega) q
            simp only [Bool.not_eq_false'] at this
            rw [show b - 1 = m by omega]; exact this) (fun _ q => by omega)
        obtain rfl := List.eq_nil_of_length_eq_zero (show Y2.length = 0 by omega)
        obtain ⟨y, rfl⟩ : ∃ y, Y1 = [y] := List.length_eq_one_iff.mp (by omega)
        have hdm : d[m]! = y := get_a d (P ++ (X1 ++ X2)) _ y m (by rw [hY]; simp; rfl) hlPX.symm
        refine ⟨X1 ++ y :: X2, ?_, ?_⟩
        · have := downF_list (m - s) m d (P ++ X1) X2 S y (by rw [hX]; simp) (by simp at hlPX ⊢; omega) (by omega)
          rw [this]; simp
        · have hm : Mg lt num ((X1 ++ X2) ++ ([y] ++ [])) ((X1 ++ [y]) ++ X2) := by
            refine cut_merge hS sX sY sT k1 (fun z hz w hw => by simp at hw) (Mg.self ?_ (sT.sub ?_)) (by simpa using Mg.self (sX.sub (List.sublist_append_right _ _)) (sT.sub (by simp)))
            · refine List.pairwise_append.mpr ⟨sX.sub (List.sublist_append_left _ _), by simp, fun x hx z hz => ?_⟩
              obtain rfl : z = y := by simpa using hz
              obtain ⟨i, i1, i2, rfl⟩ := mem_seg d P X1 (X2 ++ (([z] ++ []) ++ S)) (by rw [hX]; simp) hx
              have := hsp.1 i (by omega) (by omega)
              simp only [Bool.not_eq_true'] at this
              rw [← hdm]; exact this
            · simp
          simpa using hm
      · rw [if_neg c2]
        dsimp only
        obtain ⟨mid, hmid⟩ : ∃ mid, mid = (a + b) / 2 := ⟨_, rfl⟩
        rw [← hmid]
        obtain ⟨s0, hs0⟩ : ∃ s0, s0 = if mid < m then mid + m - b else a := ⟨_, rfl⟩
        obtain ⟨r0, hr0⟩ : ∃ r0, r0 = if mid < m then mid else m := ⟨_, rfl⟩
        rw [← hs0, ← hr0]
        obtain ⟨st, hst⟩ : ∃ s, s = bsP (fun c => !lt d[mid + m - 1 - c]! d[c]!) (r0 - s0) s0 r0 := ⟨_, rfl⟩
        rw [← hst]
        have hsr : s0 ≤ r0 ∧ a ≤ s0 ∧ r0 ≤ m ∧ r0 ≤ mid ∧ mid + m ≤ s0 + b := by
          by_cases q : mid < m
          · rw [if_pos q] at hs0 hr0; omega
          · rw [if_neg q] at hs0 hr0; omega
        have hr := bsP_range (fun c => !lt d[mid + m - 1 - c]! d[c]!) (r0 - s0) s0 r0 hsr.1
        have hsp := bsP_spec (fun c => !lt d[mid + m - 1 - c]! d[c]!) (r0 - s0) s0 r0 hsr.1 (Nat.le_refl _) (fun c c' q1 q2 q3 q4 => by
          simp only [Bool.not_eq_true'] at q4 ⊢
          have g1 := ordX c c' (by omega) q2 (by omega)
          have g2 := ordY (mid + m - 1 - c') (mid + m - 1 - c) (by omega) (by omega) (by omega)
          exact hS.ntrans _ _ _ (hS.ntrans _ _ _ g2 q4) g1)
        rw [← hst] at hr hsp
        obtain ⟨en, hen⟩ : ∃ en, en = mid + m - st := ⟨_, rfl⟩
        rw [← hen]
        have hedge1 : st = r0 → st = m ∨ en = m := fun e => by
          by_cases q : mid < m
          · rw [if_pos q] at hr0; omega
          · rw [if_neg q] at hr0; omega
        have hedge0 : st = s0 → st = a ∨ en = b := fun e => by
          by_cases q : mid < m
          · rw [if_pos q] at hs0; omega
          · rw [if_neg q] at hs0; omega
        obtain ⟨X1, X2, Y1, Y2, rfl, rfl, l1, l2, l3, l4, k1, k2⟩ := cut st en (by omega) (by omega) (by omega) (by omega)
          (fun q1 q2 => by
            have h1 : st < r0 := by
              rcases Nat.lt_or_ge st r0 with h | h
              · exact h
              · have := hedge1 (by omega); omega
            have := hsp.2 st (Nat.le_refl _) h1
            simp only [Bool.not_eq_false'] at this
            rw [show en - 1 = mid + m - 1 - st by omega]; exact this)
          (fun q1 q2 => by
            have h1 : s0 < st := by
              rcases Nat.lt_or_ge s0 st with h | h
              · exact h
              · have := hedge0 (by omega); omega
            have := hsp.1 (st - 1) (by omega) (by omega)
            simp only [Bool.not_eq_true'] at this
            rw [show en = mid + m - 1 - (st - 1) by omega]; exact this)
        obtain ⟨d1, hd1⟩ : ∃ dd, dd = if st < m ∧ m < en then rotA d st m en else d := ⟨_, rfl⟩
        rw [← hd1]
        have e1 : d1.toList = P ++ ((X1 ++ Y1) ++ (X2 ++ (Y2 ++ S))) := by
          rw [hd1]
          by_cases q : st < m ∧ m < en
          · rw [if_pos q]
            have := rotA_list d st m en (P ++ X1) X2 Y1 (Y2 ++ S) (by rw [h]; simp) (by simp; omega) (by omega) (by omega) q.1 q.2
            rw [this]; simp
          · rw [if_neg q, h]
            rcases Classical.not_and_iff_not_or_not.mp q with q | q
            · obtain rfl := List.eq_nil_of_length_eq_zero (show X2.length = 0 by omega); simp
            · obtain rfl := List.eq_nil_of_length_eq_zero (show Y1.length = 0 by omega); simp
        have sT1 : St lt num (X1 ++ Y1) := sT.sub (List.Sublist.append (List.sublist_append_left _ _) (List.sublist_append_left _ _))
        have sT2 : St lt num (X2 ++ Y2) := sT.sub (List.Sublist.append (List.sublist_append_right _ _) (List.sublist_append_right _ _))
        have sX1 := sX.sub (List.sublist_append_left X1 X2)
        have sX2 := sX.sub (List.sublist_append_right X1 X2)
        have sY1 := sY.sub (List.sublist_append_left Y1 Y2)
        have sY2 := sY.sub (List.sublist_append_right Y1 Y2)
        obtain ⟨d2, hd2⟩ : ∃ dd, dd = if a < st ∧ st < mid then symF lt f a st mid d1 else d1 := ⟨_, rfl⟩
        rw [← hd2]
        obtain ⟨Z1, e2, m1⟩ : ∃ Z1, d2.toList = P ++ (Z1 ++ (X2 ++ (Y2 ++ S))) ∧ Mg lt num (X1 ++ Y1) Z1 := by
          rw [hd2]
          by_cases q : a < st ∧ st < mid
          · rw [if_pos q]
            exact symF_list hS num f a st mid d1 P X1 Y1 (X2 ++ (Y2 ++ S)) e1 hp (by omega) (by omega) q.1 q.2 (by omega) sX1 sY1 sT1
          · rw [if_neg q]
            refine ⟨X1 ++ Y1, e1, Mg.self ?_ sT1⟩
            rcases Classical.not_and_iff_not_or_not.mp q with q | q
            · obtain rfl := List.eq_nil_of_length_eq_zero (show X1.length = 0 by omega); simpa using sY1
            · obtain rfl := List.eq_nil_of_length_eq_zero (show Y1.length = 0 by omega); simpa using sX1
        have hz1 : Z1.length = mid - a := by have := m1.perm.length_eq; rw [List.length_append] at this; omega
        obtain ⟨Z2, e3, m2⟩ : ∃ Z2, (if mid < en ∧ en < b then symF lt f mid en b d2 else d2).toList = (P ++ Z1) ++ (Z2 ++ S) ∧ Mg lt num (X2 ++ Y2) Z2 := by
          by_cases q : mid < en ∧ en < b
          · rw [if_pos q]
            exact symF_list hS num f mid en b d2 (P ++ Z1) X2 Y2 S (by rw [e2]; simp) (by simp; omega) (by omega) (by omega) q.1 q.2 (by omega) sX2 sY2 sT2
          · rw [if_neg q]
            refine ⟨X2 ++ Y2, by rw [e2]; simp, Mg.self ?_ sT2⟩
            rcases Classical.not_and_iff_not_or_not.mp q with q | q
            · obtain rfl := List.eq_nil_of_length_eq_zero (show X2.length = 0 by omega); simpa using sY2
            · obtain rfl := List.eq_nil_of_length_eq_zero (show Y2.length = 0 by omega); simpa using sX2
        exact ⟨Z1 ++ Z2, by rw [e3]; simp, cut_merge hS sX sY sT k1 k2 m1 m2⟩
end
end Go.Proofs.Ytimabnjdgdcmaaa.Pure
