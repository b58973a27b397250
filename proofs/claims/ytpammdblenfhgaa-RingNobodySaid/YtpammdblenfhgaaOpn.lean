/- How the laws' arguments are opened: slices of whole numbers, and slices of these, as lists. -/
import Derived.Test.YtpammdblenfhgaaProg
import Derived.Test.YtpammdblenfhgaaWMore
import Derived.Deep.Matrix
import Derived.OpenShut
import Derived.ShutString
import Derived.WalkKit
import Derived.ProofKit
namespace Go.Proofs.Ytpammdblenfhgaa.Opn
open Go.ChangeShapes Go.WideShapes Go.ChangeAt Go.RowKit Go.Proofs.YtpammdblenfhgaaW.PrintWords
set_option linter.unusedVariables false
set_option maxRecDepth 100000 in
theorem sl_open {H : Type} {enc : TypeId × Value → H} {W : World} {base : Nat} {r : Reach} {b0 : Nat} {T E : TypeId} {k : IntKind} {v : Value} {d : DataW H} {p : List MemPlace}
    (hT : Try.prog.underlying T = some (.slice E)) (hE : Try.prog.underlying E = some (.int k)) (cE : Try.prog.cellsOf E = 1) (hv : Value.okWide Try.prog W r b0 T v) (h : DataW.Trod enc Try.prog W base (fun _ => true) true T v d p) :
    ∃ A c l, v = .slice A l.length c ∧ Kd.C (Kd.int k) W A l.length l ∧ l.length ≤ c ∧ l.length ≤ maxLen ∧ ∀ x ∈ l, (Lit.int k x).wf = true := by
  obtain ⟨a, len, cap, rfl⟩ := okWide_slice hT hv
  obtain ⟨zs, w0⟩ : ∃ zs : List Int, (a = none ∧ len = 0 ∧ cap = 0 ∧ zs = []) ∨ ∃ x, a = some x ∧ len ≤ cap ∧ cap ≤ maxLen ∧ zs.length = cap ∧ (∀ i, i < zs.length → W.cell? (x.add i) = some (.int k (zs.getD i 0))) ∧ ∀ n ∈ zs, (Lit.int k n).wf = true := by
    obtain ⟨fuel, hf⟩ := h
    rcases open_ints hT hE cE hf with ⟨hcs, _⟩ | ⟨x, l, c, zs, hcs, _, hl, hm, hz, _, hcell, hwz⟩
    · simp [Value.cells] at hcs
      obtain ⟨rfl, rfl, rfl⟩ := hcs
      exact ⟨[], .inl ⟨rfl, rfl, rfl, rfl⟩⟩
    · simp [Value.cells] at hcs
      obtain ⟨rfl, rfl, rfl⟩ := hcs
      exact ⟨zs, .inr ⟨_, rfl, hl, hm, by simpa using hz, hcell, hwz⟩⟩
  obtain ⟨l, rfl, hr, hm, hw, hc⟩ := ReadsInt.ofRowC w0
  exact ⟨a, cap, l, rfl, Kd.C_of_reads (d := (0 : Int)) (h1 := fun _ => rfl) hr, hc, hm, hw⟩
set_option maxRecDepth 100000 in
theorem rows_open {H : Type} {enc : TypeId × Value → H} {W : World} {base : Nat} {r : Reach} {b0 : Nat} {T E Q : TypeId} {k : IntKind} {v : Value} {d : DataW H} {p : List MemPlace}
    (hT : Try.prog.underlying T = some (.slice E)) (hE : Try.prog.underlying E = some (.slice Q)) (hQ : Try.prog.underlying Q = some (.int k)) (cE : Try.prog.cellsOf E = 1) (cQ : Try.prog.cellsOf Q = 1)
    (hv : Value.okWide Try.prog W r b0 T v) (h : DataW.Trod enc Try.prog W base (fun _ => true) true T v d p) :
    ∃ A c, ∃ l : List (List Int), v = .slice A l.length c ∧ Kd.C (Kd.slice Q (Kd.int k)) W A l.length l ∧ l.length ≤ c ∧ l.length ≤ maxLen ∧ ∀ y ∈ l, y.length ≤ maxLen ∧ ∀ x ∈ y, (Lit.int k x).wf = true := by
  obtain ⟨a, len, cap, rfl⟩ := okWide_slice hT hv
  obtain ⟨fuel, hf⟩ := h
  rcases Go.Deep.open_int_rows hT hE hQ cE cQ hf with ⟨hcs, _⟩ | ⟨a1, len1, cap1, A, L, C, Z, hcs, _, hl, hm, _, hrows⟩
  · simp [Value.cells] at hcs
    obtain ⟨rfl, rfl, rfl⟩ := hcs
    exact ⟨none, 0, [], rfl, ⟨rfl, by simp, fun h => absurd h (by simp)⟩, Nat.le_refl _, Nat.zero_le _, fun y hy => absurd hy (by simp)⟩
  · simp [Value.cells] at hcs
    obtain ⟨rfl, rfl, rfl⟩ := hcs
    have hlen : ((List.range len).map fun j => (Z j).take (L j)).length = len := by simp
    have hin : ∀ j, j < len → ((Z j).take (L j)).length = L j := fun j hj => by
      obtain ⟨_, h2, _, h4, _⟩ := hrows j (by omega)
      rw [List.length_take]
      omega
    refine ⟨some a1, cap, (List.range len).map fun j => (Z j).take (L j), by rw [hlen], ?_, by omega, by omega, ?_⟩
    · rw [hlen]
      refine ⟨hlen, by unfold maxLen at hm; omega, fun hp => ⟨a1, rfl, fun j y hj => ?_⟩⟩
      have hjl : j < len := by
        have := (List.getElem?_eq_some_iff.mp hj).1
        omega
      obtain ⟨h1, h2, h3, h4, h5, h6, h7⟩ := hrows j (by omega)
      have hy : y = (Z j).take (L j) := by
        rw [List.getElem?_map, List.getElem?_range hjl] at hj
        simpa using hj.symm
      subst hy
      refine ⟨[.slice (A j) (L j) (C j)], rfl, ⟨A j, C j, by rw [hin j hjl], by rw [hin j hjl]; exact h2, rfl, by rw [hin j hjl]; unfold maxLen at h3; omega, fun hp2 => ?_⟩, fun i u hu => ?_⟩
      · rw [hin j hjl] at hp2
        cases hA : A j with
        | none => have := h6 hA; omega
        | some a' =>
          refine ⟨a', rfl, fun i x hi => ⟨[.int k x], rfl, rfl, fun i2 u hu => ?_⟩⟩
          have hi2 := (List.getElem?_eq_some_iff.mp hi).1
          rw [hin j hjl] at hi2
          have hc := (h7 a' hA).2 i (by omega)
          have e0 : i2 = 0 ∧ u = .int k x := by
            cases i2 with
            | zero => simpa using hu.symm
            | succ n => simp at hu
          obtain ⟨rfl, rfl⟩ := e0
          rw [show i * (Kd.int k).sz + 0 = i from by show i * 1 + 0 = i; omega, hc]
          rw [List.getElem?_take_of_lt hi2] at hi
          rw [List.getD_eq_getElem?_getD, hi]
          rfl
      · have e0 : i = 0 ∧ u = .slice (A j) (L j) (C j) := by
          cases i with
          | zero => simpa using hu.symm
          | succ n => simp at hu
        obtain ⟨rfl, rfl⟩ := e0
        rw [show j * (Kd.slice Q (Kd.int k)).sz + 0 = j from by show j * 1 + 0 = j; omega]
        exact h1
    · intro y hy
      obtain ⟨j, hj, rfl⟩ := List.mem_map.mp hy
      have hjl : j < len := List.mem_range.mp hj
      obtain ⟨_, h2, h3, _, h5, _⟩ := hrows j (by omega)
      exact ⟨by rw [hin j hjl]; omega, fun x hx => h5 x (List.mem_of_mem_take hx)⟩
end Go.Proofs.Ytpammdblenfhgaa.Opn
