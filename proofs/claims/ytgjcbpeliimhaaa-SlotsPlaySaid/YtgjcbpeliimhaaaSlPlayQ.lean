/- SlotsPlay in plain lists: a drop, a change; who is there, in both. -/
import Derived.Test.YtgjcbpeliimhaaaSlPlayP
namespace Go.Proofs.Ytgjcbpeliimhaaa.PSl
open Go.RowKit Go.Proofs.YtgjcbpeliimhaaaW.PrintWords Go.Proofs.YtgjcbpeliimhaaaW.PrintLast Go.Proofs.YtgjcbpeliimhaaaW.PrintMore PSp
set_option linter.unusedVariables false
set_option linter.unusedSimpArgs false
theorem PInv.up {n b : Nat} {s : Tb Int} {l : List S82} {c : Int} (h : PInv n b s l c) : PInv n (b + 1) s l c :=
  ⟨h.t.up _ (Nat.le_succ _), h.len, h.c0, by have := h.c1; omega, fun j x g t hs => by
    obtain ⟨r, q0, q1, q2, q3, q4, q5, q6, q7, q8⟩ := h.slot j x g t hs
    exact ⟨r, q0, q1, q2, q3, q4, q5, q6, q7, by omega⟩, h.cover, h.ord, h.posi, h.cnt⟩
theorem PInv.taken_lt {n b : Nat} {s : Tb Int} {l : List S82} {c : Int} (h : PInv n b s l c) (j : Nat) (x g : Int) (hs : s.l[j]? = some (x, g, true)) : j < s.next := by
  rcases Nat.lt_or_ge j s.next with q | q
  · exact q
  · have := h.t.fresh j q (by rw [← h.t.len]; exact (List.getElem?_eq_some_iff.mp hs).1)
    rw [hs] at this
    simp at this
theorem PInv.drop {n b : Nat} {s : Tb Int} {l : List S82} {c : Int} (h : PInv n b s l c) (hb : b ≤ 1000) (j : Nat) (x g : Int) (hs : s.l[j]? = some (x, g, true)) (r : S82) (hr : l[j]? = some r) :
    PInv n (b + 1) { l := s.l.set j (0, g + 1, false), free := s.free ++ [(j : Int) + 1], next := s.next, many := s.many - 1 } (l.set j ⟨0, false, r.f2 + 1, c + 1⟩) (c + 1) := by
  have hjs : j < s.l.length := (List.getElem?_eq_some_iff.mp hs).1
  have hjl : j < l.length := (List.getElem?_eq_some_iff.mp hr).1
  have hjn := h.taken_lt j x g hs
  obtain ⟨r', hr', p1, p2, p3, p4, p5, p6, p7, p8⟩ := h.slot j x g true hs
  rw [hr] at hr'
  cases hr'
  have hnot : ((j : Int) + 1) ∉ s.free := by
    intro hm
    obtain ⟨i, xi, gi, e, hi, hsi⟩ := h.t.free _ hm
    obtain rfl : j = i := by omega
    rw [hs] at hsi
    simp at hsi
  have hc := h.c0
  refine ⟨drop_some h.t j x g hs, by rw [List.length_set]; exact h.len, by omega, by have := h.c1; omega, ?_, ?_, ?_, ?_, by have q := cnt_set s.l j _ (0, g + 1, false) hs; have q2 := h.cnt; simp at q; show s.many - 1 = ((s.l.set j (0, g + 1, false)).countP (·.2.2) : Int); omega⟩
  · intro i xi gi ti hi
    have hi' : (s.l.set j (0, g + 1, false))[i]? = some (xi, gi, ti) := hi
    by_cases e : j = i
    · subst e
      rw [List.getElem?_set_self hjs] at hi'
      simp only [Option.some.injEq, Prod.mk.injEq] at hi'
      obtain ⟨rfl, rfl, rfl⟩ := hi'
      have := p3 hjn
      exact ⟨_, List.getElem?_set_self hjl, rfl, rfl, fun _ => by show g + 1 = r.f2 + 1 + 1; omega, fun q => absurd q (by show ¬ s.next ≤ j; omega), by show 0 ≤ c + 1; omega, Int.le_refl _, by show 0 ≤ r.f2 + 1; omega, by show r.f2 + 1 ≤ ((b + 1 : Nat) : Int); omega⟩
    · rw [List.getElem?_set_ne e] at hi'
      obtain ⟨r', q0, q1, q2, q3, q4, q5, q6, q7, q8⟩ := h.slot i xi gi ti hi'
      exact ⟨r', by rw [List.getElem?_set_ne e]; exact q0, q1, q2, q3, q4, q5, by omega, q7, by omega⟩
  · intro i xi gi hi hs'
    have hi' : (s.l.set j (0, g + 1, false))[i]? = some (xi, gi, false) := hs'
    show (i : Int) + 1 ∈ s.free ++ [(j : Int) + 1]
    by_cases e : j = i
    · subst e
      simp
    · rw [List.getElem?_set_ne e] at hi'
      exact List.mem_append_left _ (h.cover i xi gi hi hi')
  · show (s.free ++ [(j : Int) + 1]).Pairwise _
    have old : ∀ a ∈ s.free, (a - 1).toNat ≠ j := by
      intro a ha e
      obtain ⟨ja, _, _, ea, _⟩ := h.t.free a ha
      refine hnot ?_
      rw [show (j : Int) + 1 = a by omega]
      exact ha
    rw [List.pairwise_append]
    refine ⟨?_, by simp, fun a ha b' hb' ra rb h1 h2 => ?_⟩
    · refine h.ord.imp_of_mem (fun {a b'} ha hb' hab ra rb h1 h2 => hab ra rb ?_ ?_)
      · rw [← h1, List.getElem?_set_ne (fun e => old a ha e.symm)]
      · rw [← h2, List.getElem?_set_ne (fun e => old b' hb' e.symm)]
    · rw [List.mem_singleton] at hb'
      subst hb'
      rw [show ((j : Int) + 1 - 1).toNat = j by omega, List.getElem?_set_self hjl] at h2
      rw [List.getElem?_set_ne (fun e => old a ha e.symm)] at h1
      cases h2
      obtain ⟨_, _, _, _, _, _, _, _, _, q6, _⟩ := h.ref _ ra h1
      show ra.f3 < c + 1
      omega
  · intro id hid r' hr'
    rcases List.mem_append.mp hid with hid | hid
    · have : (id - 1).toNat ≠ j := by
        intro e
        obtain ⟨ja, _, _, ea, _⟩ := h.t.free id hid
        refine hnot ?_
        rw [show (j : Int) + 1 = id by omega]
        exact hid
      refine h.posi id hid r' ?_
      rw [← hr', List.getElem?_set_ne (fun e => this e.symm)]
    · rw [List.mem_singleton] at hid
      subst hid
      rw [show ((j : Int) + 1 - 1).toNat = j by omega, List.getElem?_set_self hjl] at hr'
      cases hr'
      show 0 < c + 1
      omega
theorem PInv.set {n b : Nat} {s : Tb Int} {l : List S82} {c : Int} (h : PInv n b s l c) (j : Nat) (x g x1 : Int) (hs : s.l[j]? = some (x, g, true)) (r : S82) (hr : l[j]? = some r) :
    PInv n (b + 1) { s with l := s.l.set j (x1, g, true) } (l.set j ⟨x1, true, r.f2, r.f3⟩) (c + 1) := by
  have hjs : j < s.l.length := (List.getElem?_eq_some_iff.mp hs).1
  have hjl : j < l.length := (List.getElem?_eq_some_iff.mp hr).1
  have hjn := h.taken_lt j x g hs
  obtain ⟨r', hr', p1, p2, p3, p4, p5, p6, p7, p8⟩ := h.slot j x g true hs
  rw [hr] at hr'
  cases hr'
  have old : ∀ a ∈ s.free, (a - 1).toNat ≠ j := by
    intro a ha e
    obtain ⟨ja, xa, ga, ea, _, hsa⟩ := h.t.free a ha
    obtain rfl : ja = j := by omega
    rw [hs] at hsa
    simp at hsa
  have hT := h.t.up (b + 1) (Nat.le_succ _)
  refine ⟨⟨by rw [List.length_set]; exact hT.len, hT.n1, hT.n2, hT.nx, hT.nb, hT.fb, hT.nodup, ?_, ?_, ?_, hT.many⟩, by rw [List.length_set]; exact h.len, by have := h.c0; omega, by have := h.c1; omega, ?_, ?_, ?_, ?_, by have q := cnt_set s.l j _ (x1, g, true) hs; have q2 := h.cnt; simp at q; show s.many = ((s.l.set j (x1, g, true)).countP (·.2.2) : Int); omega⟩
  · intro id hid
    obtain ⟨i, xi, gi, rfl, hi, hsi⟩ := hT.free id hid
    have := old _ hid
    exact ⟨i, xi, gi, rfl, hi, by show (s.l.set j _)[i]? = _; rw [List.getElem?_set_ne (by omega)]; exact hsi⟩
  · intro i h1 h2
    show (s.l.set j _)[i]? = _
    rw [List.getElem?_set_ne (by have : s.next ≤ i := h1; omega)]
    exact hT.fresh i h1 h2
  · intro i xi gi ti hi
    have hi' : (s.l.set j (x1, g, true))[i]? = some (xi, gi, ti) := hi
    by_cases e : j = i
    · subst e
      rw [List.getElem?_set_self hjs] at hi'
      simp only [Option.some.injEq, Prod.mk.injEq] at hi'
      obtain ⟨rfl, rfl, rfl⟩ := hi'
      exact hT.gens j x g true hs
    · rw [List.getElem?_set_ne e] at hi'
      exact hT.gens i xi gi ti hi'
  · intro i xi gi ti hi
    have hi' : (s.l.set j (x1, g, true))[i]? = some (xi, gi, ti) := hi
    by_cases e : j = i
    · subst e
      rw [List.getElem?_set_self hjs] at hi'
      simp only [Option.some.injEq, Prod.mk.injEq] at hi'
      obtain ⟨rfl, rfl, rfl⟩ := hi'
      exact ⟨_, List.getElem?_set_self hjl, rfl, rfl, p3, p4, p5, by show r.f3 ≤ c + 1; omega, p7, by show r.f2 ≤ ((b + 1 : Nat) : Int); omega⟩
    · rw [List.getElem?_set_ne e] at hi'
      obtain ⟨r', q0, q1, q2, q3, q4, q5, q6, q7, q8⟩ := h.slot i xi gi ti hi'
      exact ⟨r', by rw [List.getElem?_set_ne e]; exact q0, q1, q2, q3, q4, q5, by omega, q7, by omega⟩
  · intro i xi gi hi hs'
    have hi' : (s.l.set j (x1, g, true))[i]? = some (xi, gi, false) := hs'
    by_cases e : j = i
    · subst e
      rw [List.getElem?_set_self hjs] at hi'
      simp at hi'
    · rw [List.getElem?_set_ne e] at hi'
      exact h.cover i xi gi hi hi'
  · refine h.ord.imp_of_mem (fun {a b'} ha hb' hab ra rb h1 h2 => hab ra rb ?_ ?_)
    · rw [← h1, List.getElem?_set_ne (fun e => old a ha e.symm)]
    · rw [← h2, List.getElem?_set_ne (fun e => old b' hb' e.symm)]
  · intro id hid r' hr'
    refine h.posi id hid r' ?_
    rw [← hr', List.getElem?_set_ne (fun e => old id hid e.symm)]
/-- Who is there, in both. -/
theorem PInv.has {n b : Nat} {s : Tb Int} {l : List S82} {c : Int} (h : PInv n b s l c) (id : Int) : dogwatchref07_Has.f l c id = some (I.look s id).isSome := by
  unfold dogwatchref07_Has.f I.look
  by_cases h1 : 1 ≤ id
  · rw [if_pos h1, if_pos h1]
    have hl := h.len
    have hs := h.t.len
    have h2 := h.t.n2
    by_cases h3 : id ≤ (l.length : Int)
    · obtain ⟨j, hj⟩ : ∃ j : Nat, id = (j : Int) + 1 := ⟨(id - 1).toNat, by omega⟩
      subst hj
      obtain ⟨r, hr⟩ : ∃ r, l[j]? = some r := ⟨_, List.getElem?_eq_getElem (by omega)⟩
      obtain ⟨x, g, t, hsj, q1, q2, _⟩ := h.ref j r hr
      rw [if_pos h3, wn1 j (by omega), if_pos (by omega), if_pos (by omega), rd82 l j r hr, show ((j : Int) + 1 - 1).toNat = j by omega, hsj, q2]
      cases t <;> rfl
    · rw [if_neg h3, List.getElem?_eq_none (by omega)]
      rfl
  · rw [if_neg h1, if_neg h1]
    rfl
theorem ids_l0 (l : List S82) (hl : l.length ≤ 1024) (c : Int) (ts : List (Int × Int × Bool)) (hlen : ts.length = l.length) (hr : ∀ (i : Nat) (r : S82) (p : Int × Int × Bool), l[i]? = some r → ts[i]? = some p → r.f1 = p.2.2) :
    ∀ (d i k : Nat), i + d = l.length → d < k → dogwatchref07_IDs.l0 k (I.idsL (ts.take i)) (i : Int) l c = some (I.idsL ts) := by
  intro d
  induction d with
  | zero =>
    intro i k hi hk
    obtain ⟨k, rfl⟩ : ∃ m, k = m + 1 := ⟨k - 1, by omega⟩
    simp only [dogwatchref07_IDs.l0]
    rw [if_neg (by omega), List.take_of_length_le (by omega)]
  | succ d ih =>
    intro i k hi hk
    obtain ⟨k, rfl⟩ : ∃ m, k = m + 1 := ⟨k - 1, by omega⟩
    obtain ⟨r, hri⟩ : ∃ r, l[i]? = some r := ⟨_, List.getElem?_eq_getElem (show i < l.length by omega)⟩
    obtain ⟨⟨x, g, t⟩, hti⟩ : ∃ p, ts[i]? = some p := ⟨_, List.getElem?_eq_getElem (show i < ts.length by omega)⟩
    have e := hr i r _ hri hti
    have st := I.idsL_step ts i x g t hti
    have ln := I.idsL_length (ts.take i)
    have ln2 : (ts.take i).length ≤ i := List.length_take_le _ _
    simp only [dogwatchref07_IDs.l0]
    rw [if_pos (by omega), if_pos (by omega), rd82 l i r hri, wn i (by omega), e]
    cases t with
    | true =>
      rw [if_pos rfl] at st
      rw [if_pos rfl, if_pos (by omega)]
      have := ih (i + 1) k (by omega) (by omega)
      rw [st] at this
      exact this
    | false =>
      rw [if_neg (by simp)] at st
      rw [if_neg (by simp)]
      have := ih (i + 1) k (by omega) (by omega)
      rw [st] at this
      exact this
theorem PInv.ids {n b : Nat} {s : Tb Int} {l : List S82} {c : Int} (h : PInv n b s l c) : dogwatchref07_IDs.f 2000 l c = some (I.idsL s.l) := by
  have hl : l.length ≤ 1024 := by rw [h.len]; exact h.t.n2
  have := ids_l0 l hl c s.l (by rw [h.t.len, h.len]) (fun i r p hr hp => by
    obtain ⟨x, g, t, hs, _, q, _⟩ := h.ref i r hr
    rw [hp] at hs
    cases hs
    exact q) l.length 0 2000 (by omega) (by omega)
  exact this
theorem same_l0 (l : List Int) (hl : l.length ≤ 100000) : ∀ (d i k : Nat), i + d = l.length → d < k → dogwatchref03_Same.l0 k l l (i : Int) = some true := by
  intro d
  induction d with
  | zero =>
    intro i k hi hk
    obtain ⟨k, rfl⟩ : ∃ m, k = m + 1 := ⟨k - 1, by omega⟩
    simp only [dogwatchref03_Same.l0]
    rw [if_neg (by omega)]
  | succ d ih =>
    intro i k hi hk
    obtain ⟨k, rfl⟩ : ∃ m, k = m + 1 := ⟨k - 1, by omega⟩
    simp only [dogwatchref03_Same.l0]
    rw [if_pos (by omega), if_pos (by omega), if_pos (by omega), if_pos trivial, wn i (by omega)]
    exact ih (i + 1) k (by omega) (by omega)
theorem same_ids (l : List (Int × Int × Bool)) (hl : l.length ≤ 1024) : dogwatchref03_Same.f 2000 (I.idsL l) (I.idsL l) = some true := by
  have := I.idsL_length l
  unfold dogwatchref03_Same.f
  rw [if_pos rfl]
  exact same_l0 _ (by omega) _ 0 2000 (Nat.zero_add _) (by omega)
/-- How many are there is told in two ways. -/
theorem PInv.many {n b : Nat} {s : Tb Int} {l : List S82} {c : Int} (h : PInv n b s l c) : s.many = ((I.idsL s.l).length : Int) := by
  rw [h.cnt, List.countP_eq_length_filter]
  unfold I.idsL
  rw [List.length_map]
  have : ∀ (l : List (Int × Int × Bool)) (k : Nat), ((l.zipIdx k).filter (·.1.2.2)).length = (l.filter (·.2.2)).length := by
    intro l
    induction l with
    | nil => intro k; rfl
    | cons x l ih =>
      intro k
      rw [List.zipIdx_cons, List.filter_cons, List.filter_cons]
      cases hx : x.2.2 <;> simp [ih]
  rw [this s.l 0]
end Go.Proofs.Ytgjcbpeliimhaaa.PSl
