/- Blocks of numbers of a call's own. -/
import Derived.Test.YtimabnjdgdcmaaaSrCmp
namespace Go.Proofs.Ytimabnjdgdcmaaa.PApp
open Go Go.Proofs Go.Shelf Go.RowKit Go.Lib Go.Sort Go.Proofs.YtimabnjdgdcmaaaW.PrintWords Go.Proofs.YtimabnjdgdcmaaaW.PrintLast Go.Proofs.YtimabnjdgdcmaaaW.PrintMore
set_option linter.unusedVariables false
set_option linter.unusedSimpArgs false
def BlkI (w : World) (g : Nat) (l : List Int) : Prop := w.heap[g]? = some (.cells (nums .i64 l).toArray 3 (0, 0))
theorem blk_lt {w : World} {g : Nat} {l : List Int} (h : BlkI w g l) : g < w.heap.size := by
  unfold BlkI at h
  rw [Array.getElem?_eq_some_iff] at h
  exact h.1
theorem blk_cell {w : World} {g : Nat} {l : List Int} (h : BlkI w g l) (i : Nat) (hi : i < l.length) : w.cell? ⟨g, i, none⟩ = some (.int .i64 (l.getD i 0)) := by
  unfold BlkI at h
  simp [World.cell?, h, nums, List.getElem?_eq_getElem hi]
theorem blk_thaw {w : World} {g : Nat} {l : List Int} (h : BlkI w g l) (i : Nat) : w.frozen? ⟨g, i, none⟩ = false := by
  unfold BlkI at h
  simp [World.frozen?, h]
theorem blk_far {w w' : World} {g : Nat} {l : List Int} (h : BlkI w g l) (e : w'.heap[g]? = w.heap[g]?) : BlkI w' g l := by
  unfold BlkI; rw [e]; exact h
theorem blk_other {w : World} {g g' : Nat} {l : List Int} (h : BlkI w g l) (hne : g ≠ g') (i : Nat) (v : Value) : BlkI (w.setCell ⟨g', i, none⟩ v) g l :=
  blk_far h (Below.heap_setCell w ⟨g', i, none⟩ v g hne)
theorem blk_set {w : World} {g : Nat} {l : List Int} (h : BlkI w g l) (i : Nat) (x : Int) : BlkI (w.setCell ⟨g, i, none⟩ (.int .i64 x)) g (l.set i x) := by
  unfold BlkI at h ⊢
  obtain ⟨hlt, he⟩ := Array.getElem?_eq_some_iff.mp h
  simp only [World.setCell, Array.getElem?_modify, if_true, h, Option.map_some]
  simp [nums, List.map_set]
theorem blk_drewN {w : World} {g : Nat} {l : List Int} (h : BlkI w g l) (n : Nat) : BlkI (w.drewN n) g l := h
theorem blk_drew {w : World} {g : Nat} {l : List Int} (h : BlkI w g l) : BlkI w.drew g l := h
theorem blk_made (w : World) (n : Nat) : BlkI (w.alloc (.cells (madeCells #[.int .i64 0] n) 3)) w.heap.size (List.replicate n 0) := by
  unfold BlkI
  rw [heap_alloc_new]
  have e : madeCells #[Value.int .i64 0] n = (nums .i64 (List.replicate n 0)).toArray := by
    apply Array.ext
    · simp [madeCells, nums]
    · intro i h1 h2
      simp [madeCells, nums, Nat.mod_one]
  rw [e]
theorem blk_alloc {w : World} {g : Nat} {l : List Int} (h : BlkI w g l) (o : Obj) : BlkI (w.alloc o) g l :=
  blk_far h (Below.heap_alloc w o g (blk_lt h))
theorem blk_R {w : World} {g base : Nat} {l : List Int} (h : BlkI w g l) (hb : base ≤ g) (hm : l.length ≤ maxLen) : Kd.R (Kd.int .i64) 3 w base (fun _ => True) (.slice (some ⟨g, 0, none⟩) l.length l.length) l := by
  refine ⟨fun _ _ => trivial, nums .i64 l, ?_, ?_⟩
  · refine ⟨by simp [nums, Kd.int, Kd.scalar], Or.inr ⟨g, l.length, (nums .i64 l).toArray, rfl, hb, h, Nat.le_refl _, hm, by simp [nums, Kd.int, Kd.scalar], ?_⟩⟩
    have e : l.length * (Kd.int .i64).sz = (nums .i64 l).length := by rw [nums_length]; exact Nat.mul_one _
    rw [e]
    exact List.take_length
  · refine ⟨by rw [nums_length]; exact (Nat.mul_one _).symm, fun j p hj => ?_⟩
    show ((nums .i64 l).drop (j * 1)).take 1 = [.int .i64 p]
    obtain ⟨hlt, he⟩ := List.getElem?_eq_some_iff.mp hj
    rw [Nat.mul_one, List.drop_eq_getElem_cons (by rw [nums_length]; exact hlt)]
    simp [nums, he]
def valsF {n : Nat} (d : Array (Fin n)) : List Int := d.toList.map (fun x => (x.val : Int))
theorem valsF_length {n : Nat} (d : Array (Fin n)) : (valsF d).length = d.size := by simp [valsF]
theorem blk_holds {n : Nat} [Inhabited (Fin n)] {w : World} {g : Nat} {d : Array (Fin n)} (h : BlkI w g (valsF d)) : Holds encF w g 0 d := by
  intro j hj
  rw [Nat.zero_add]
  refine ⟨?_, blk_thaw h j⟩
  rw [blk_cell h j (by rw [valsF_length]; exact hj)]
  simp only [valsF, List.getD_eq_getElem?_getD, List.getElem?_map, Array.getElem?_toList, encF, Array.getElem?_eq_getElem hj, Option.map_some, Option.getD_some, getElem!_pos d j hj]
theorem blk_put_other {n : Nat} [Inhabited (Fin n)] {w : World} {g blk : Nat} {l : List Int} (h : BlkI w g l) (hne : g ≠ blk) (d : Array (Fin n)) : BlkI (putRow encF w blk 0 d) g l :=
  blk_far h (by simp only [putRow, mapBlock, Array.getElem?_modify]; rw [if_neg (by omega)])
theorem blk_put {n : Nat} [Inhabited (Fin n)] {w : World} {g : Nat} {d d' : Array (Fin n)} (h : BlkI w g (valsF d)) (hs : d'.size = d.size) : BlkI (putRow encF w g 0 d') g (valsF d') := by
  unfold BlkI at h ⊢
  simp only [putRow, mapBlock, Array.getElem?_modify, if_true, h, Option.map_some, onCells]
  congr 2
  apply Array.ext
  · simp [putCells, nums, valsF, hs]
  · intro i h1 h2
    have hi : i < d'.size := by simpa [nums, valsF] using h2
    simp [putCells, nums, valsF, hi, encF]
theorem below_put {n : Nat} [Inhabited (Fin n)] {w w0 : World} {g B : Nat} (h : Below B w0 w) (hg : B ≤ g) (d : Array (Fin n)) : Below B w0 (putRow encF w g 0 d) :=
  h.trans ⟨rfl, rfl, rfl, by simp, fun k hk => by simp only [putRow, mapBlock, Array.getElem?_modify]; rw [if_neg (by omega)]⟩
end Go.Proofs.Ytimabnjdgdcmaaa.PApp
