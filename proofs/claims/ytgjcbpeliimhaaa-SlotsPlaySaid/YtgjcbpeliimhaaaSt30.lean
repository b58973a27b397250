/- A slice of structs that came in, as a list (types 22, 30). -/
import Derived.Test.YtgjcbpeliimhaaaProg
import Derived.Test.YtgjcbpeliimhaaaWMore
import Derived.Deep.Slices
import Derived.Deep.Fields
import Derived.ChangeSame
import Derived.OpenShut
import Derived.WalkKit
import Derived.ProofKit
namespace Go.Proofs.Ytgjcbpeliimhaaa.St
open Go.ChangeShapes Go.WideShapes Go.ChangeAt Go.RowKit Go.Deep Go.Proofs.YtgjcbpeliimhaaaW.PrintWords
set_option linter.unusedVariables false
structure S30 where
  f0 : Int
  f1 : Int
  f2 : Int
  f3 : Int
def z30 : S30 := ⟨(0 : Int), (0 : Int), (0 : Int), (0 : Int)⟩
def k30 : Kd S30 := Kd.iso (Kd.pair (Kd.int .i64) (Kd.pair (Kd.int .i64) (Kd.pair (Kd.int .i64) (Kd.int .i64)))) (fun x : S30 => (x.f0, x.f1, x.f2, x.f3))
theorem k30_open {w : World} {x : S30} {cs : List Value} (h : k30.K w x cs) : cs = [.int .i64 x.f0, .int .i64 x.f1, .int .i64 x.f2, .int .i64 x.f3] := by
  obtain ⟨_, _, rfl, rfl, ⟨_, _, rfl, rfl, ⟨_, _, rfl, rfl, rfl⟩⟩⟩ := h
  exact rfl
theorem k30_mk (w : World) (x : S30) : k30.K w x [.int .i64 x.f0, .int .i64 x.f1, .int .i64 x.f2, .int .i64 x.f3] := ⟨[.int .i64 x.f0], [.int .i64 x.f1, .int .i64 x.f2, .int .i64 x.f3], rfl, rfl, ⟨[.int .i64 x.f1], [.int .i64 x.f2, .int .i64 x.f3], rfl, rfl, ⟨[.int .i64 x.f2], [.int .i64 x.f3], rfl, rfl, rfl⟩⟩⟩
theorem at30 {w : World} {A : Option Addr} {n : Nat} {xs : List S30} (h : Kd.C k30 w A n xs) (i : Nat) (x : S30) (hx : xs[i]? = some x) : ∃ ad, A = some ad ∧ w.cell? (ad.add (i * 4)) = some (.int .i64 x.f0) ∧ w.cell? ⟨(ad.add (i * 4)).block, (ad.add (i * 4)).off + 1, none⟩ = some (.int .i64 x.f1) ∧ w.cell? ⟨(ad.add (i * 4)).block, (ad.add (i * 4)).off + 2, none⟩ = some (.int .i64 x.f2) ∧ w.cell? ⟨(ad.add (i * 4)).block, (ad.add (i * 4)).off + 3, none⟩ = some (.int .i64 x.f3) := by
  have hn : xs.length = n := h.1
  have hi : i < xs.length := (List.getElem?_eq_some_iff.mp hx).1
  obtain ⟨ad, c, e, _, hK, hc0⟩ := Kd.C_get h z30 (i : Int) (by omega) (by omega)
  rw [Int.toNat_natCast] at hK hc0
  have ex : xs.getD i z30 = x := by rw [List.getD_eq_getElem?_getD, hx]; rfl
  rw [ex] at hK
  have hc : ∀ j u, c[j]? = some u → w.cell? (ad.add (i * 4 + j)) = some u := hc0
  obtain rfl := k30_open hK
  exact ⟨ad, e, hc 0 _ rfl, by rw [← add_field _ _ 1 (by omega)]; exact hc 1 _ rfl, by rw [← add_field _ _ 2 (by omega)]; exact hc 2 _ rfl, by rw [← add_field _ _ 3 (by omega)]; exact hc 3 _ rfl⟩
section
variable {H : Type} {enc : TypeId × Value → H} {P : Program} {w : World} {base : Nat} {spare : Nat → Bool} {held : Bool}
theorem open_slice_fields {t e : TypeId} {fs : Array Field} {fuel : Nat} {cs : List Value} {x : DataW H × List MemPlace} (ht : P.underlying t = some (.slice e)) (he : P.underlying e = some (.struct fs))
    (hone : oneCellFields P fs = true) (hC : P.cellsOf e = fs.size) (h : DataW.trod enc P w base spare held fuel t cs = some x) :
    (cs = [.slice none 0 0] ∧ x = (.nil, [])) ∨
    ∃ (a : Addr) (len cap m : Nat), cs = [.slice (some a) len cap] ∧ len ≤ cap ∧ cap ≤ maxLen ∧ m = (if spare a.block then cap else len) ∧
      ∀ i, i < m → ∃ (n : Nat), ∀ (j : Nat) (f : Field), fs[j]? = some f → ∃ (v : Value) (y : DataW H × List MemPlace), w.cell? (a.add (i * fs.size + j)) = some v ∧ DataW.trod enc P w base spare held n f.type [v] = some y := by
  rcases open_slice ht h with h0 | ⟨a, len, cap, m, n, D, Pl, hcs, hb, hl, hm, hmm, hx, hi⟩
  · exact .inl h0
  · refine .inr ⟨a, len, cap, m, hcs, hl, hm, hmm, fun i him => ?_⟩
    obtain ⟨cs', hc, ht'⟩ := hi i him
    rw [hC] at hc
    obtain ⟨ys, n', hn', hy, hlen, hyl, hf⟩ := DataW.trod_struct he ht'
    obtain ⟨_, hcl, hat⟩ := World.cells?_some hc
    refine ⟨n', fun j f hj => ?_⟩
    obtain ⟨ho, hk⟩ := hone_of hone j f hj
    have hjl : j < fs.size := (Array.getElem?_eq_some_iff.1 hj).1
    have hcell := hat j hjl
    have hv : cs'[j]? = some (cs'[j]'(by omega)) := List.getElem?_eq_getElem (by omega)
    have h1 := hf j f hj
    rw [ho, hk] at h1
    have hone' : (cs'.drop j).take 1 = [cs'[j]'(by omega)] := by
      rw [List.drop_eq_getElem_cons (by omega)]
      rfl
    rw [hone'] at h1
    have hys : ys[j]? = some (ys[j]'(by omega)) := List.getElem?_eq_getElem (by omega)
    refine ⟨_, _, ?_, h1.trans hys⟩
    rw [← Go.Deep.add_add, hcell, hv]
end
set_option maxRecDepth 100000 in
theorem open30 {H : Type} {enc : TypeId × Value → H} {W : World} {base : Nat} {r : Reach} {b0 : Nat} {v : Value} {d : DataW H} {p : List MemPlace}
    (hv : Value.okWide Try.prog W r b0 22 v) (h : DataW.Trod enc Try.prog W base (fun _ => true) true 22 v d p) :
    ∃ A c, ∃ l : List S30, v = .slice A l.length c ∧ Kd.C k30 W A l.length l ∧ l.length ≤ c ∧ l.length ≤ maxLen ∧ ∀ x ∈ l, (Lit.int .i64 x.f0).wf = true ∧ (Lit.int .i64 x.f1).wf = true ∧ (Lit.int .i64 x.f2).wf = true ∧ (Lit.int .i64 x.f3).wf = true := by
  obtain ⟨fs, hfs⟩ : ∃ fs, Try.prog.underlying 30 = some (.struct fs) := ⟨_, Try.underlying30⟩
  have hfs2 := hfs.symm.trans Try.underlying30
  obtain ⟨a, len, cap, rfl⟩ := okWide_slice Try.underlying22 hv
  obtain ⟨fuel, hf⟩ := h
  rcases open_slice_fields Try.underlying22 hfs (by cases hfs2; kernel_rfl) (by cases hfs2; kernel_rfl) hf with ⟨hcs, _⟩ | ⟨a1, len1, cap1, m, hcs, hl, hm, hmm, hi⟩
  · simp [Value.cells] at hcs
    obtain ⟨rfl, rfl, rfl⟩ := hcs
    exact ⟨none, 0, [], rfl, ⟨rfl, by simp, fun h => absurd h (by simp)⟩, Nat.le_refl _, Nat.zero_le _, fun y hy => absurd hy (by simp)⟩
  · simp [Value.cells] at hcs
    obtain ⟨rfl, rfl, rfl⟩ := hcs
    simp only [if_true] at hmm
    subst hmm
    have hel : ∀ i : Fin len, ∃ x : S30, (∀ j u, [.int .i64 x.f0, .int .i64 x.f1, .int .i64 x.f2, .int .i64 x.f3][j]? = some u → W.cell? (a1.add (i.val * 4 + j)) = some u) ∧ (Lit.int .i64 x.f0).wf = true ∧ (Lit.int .i64 x.f1).wf = true ∧ (Lit.int .i64 x.f2).wf = true ∧ (Lit.int .i64 x.f3).wf = true := by
      intro i
      obtain ⟨n, hn⟩ := hi i.val (by have := i.isLt; omega)
      cases hfs2
      obtain ⟨v0, y0, hc0, ht0⟩ := hn 0 _ rfl
      obtain ⟨x0, ev0, hh0, hw0⟩ := DataW.trod_int (show Try.prog.underlying 3 = some (.int .i64) from Try.underlying3) ht0
      obtain rfl : v0 = .int .i64 x0 := by simpa using ev0
      obtain ⟨v1, y1, hc1, ht1⟩ := hn 1 _ rfl
      obtain ⟨x1, ev1, hh1, hw1⟩ := DataW.trod_int (show Try.prog.underlying 3 = some (.int .i64) from Try.underlying3) ht1
      obtain rfl : v1 = .int .i64 x1 := by simpa using ev1
      obtain ⟨v2, y2, hc2, ht2⟩ := hn 2 _ rfl
      obtain ⟨x2, ev2, hh2, hw2⟩ := DataW.trod_int (show Try.prog.underlying 3 = some (.int .i64) from Try.underlying3) ht2
      obtain rfl : v2 = .int .i64 x2 := by simpa using ev2
      obtain ⟨v3, y3, hc3, ht3⟩ := hn 3 _ rfl
      obtain ⟨x3, ev3, hh3, hw3⟩ := DataW.trod_int (show Try.prog.underlying 3 = some (.int .i64) from Try.underlying3) ht3
      obtain rfl : v3 = .int .i64 x3 := by simpa using ev3
      refine ⟨⟨x0, x1, x2, x3⟩, fun j u hu => ?_, hw0, hw1, hw2, hw3⟩
      match j, hu with
      | 0, hu => simp at hu; rw [← hu]; exact hc0
      | 1, hu => simp at hu; rw [← hu]; exact hc1
      | 2, hu => simp at hu; rw [← hu]; exact hc2
      | 3, hu => simp at hu; rw [← hu]; exact hc3
      | j + 4, hu => simp at hu
    have hch := fun i => (hel i).choose_spec
    refine ⟨some a1, _, List.ofFn (fun i => (hel i).choose), by rw [List.length_ofFn], ⟨rfl, by rw [List.length_ofFn]; unfold maxLen at hm; omega, fun _ => ⟨a1, rfl, fun j x hj => ?_⟩⟩, by rw [List.length_ofFn]; exact hl, by rw [List.length_ofFn]; omega, fun x hx => ?_⟩
    · have hjl : j < len := by simpa using (List.getElem?_eq_some_iff.mp hj).1
      have ex : x = (hel ⟨j, hjl⟩).choose := by
        rw [List.getElem?_ofFn, dif_pos hjl] at hj
        exact (Option.some.inj hj).symm
      subst ex
      exact ⟨_, rfl, k30_mk _ _, (hch ⟨j, hjl⟩).1⟩
    · obtain ⟨i, rfl⟩ := List.mem_ofFn.mp hx
      exact (hch i).2
end Go.Proofs.Ytgjcbpeliimhaaa.St
