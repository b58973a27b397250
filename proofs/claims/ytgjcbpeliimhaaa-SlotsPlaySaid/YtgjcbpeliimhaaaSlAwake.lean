/- dogwatchlaw07.awake, walked by hand: the page's example, on a table of texts. -/
import Derived.Test.YtgjcbpeliimhaaaSlS5
namespace Go.Proofs.Ytgjcbpeliimhaaa.PSl
open Go.RowKit Go.Proofs.YtgjcbpeliimhaaaW.PrintWords Go.Proofs.YtgjcbpeliimhaaaW.PrintLast Go.Proofs.YtgjcbpeliimhaaaW.PrintMore
set_option linter.unusedVariables false
set_option linter.unusedSimpArgs false
namespace Aw
def z : ByteArray := ByteArray.empty
def st1 (a : ByteArray) : Tb ByteArray := { l := [(a, 1, true), (ByteArray.empty, 0, false)], free := [], next := 1, many := 1 }
def st2 (a b : ByteArray) : Tb ByteArray := { l := [(a, 1, true), (b, 1, true)], free := [], next := 2, many := 2 }
def st3 (b : ByteArray) : Tb ByteArray := { l := [(ByteArray.empty, 2, false), (b, 1, true)], free := [1], next := 2, many := 1 }
def st4 (b c : ByteArray) : Tb ByteArray := { l := [(c, 2, true), (b, 1, true)], free := [], next := 2, many := 2 }
theorem t1 (a : ByteArray) : S.takeF (S.newT 2) a = (st1 a, 1, 1, 0) := by simp [S.takeF, S.newT, S.genAt, st1, wrap64]; omega
theorem t2 (a b : ByteArray) : S.takeF (st1 a) b = (st2 a b, 2, 1, 0) := by simp [S.takeF, S.genAt, st1, st2, wrap64]; omega
theorem t3 (a b : ByteArray) : S.dropF (st2 a b) 1 1 = (st3 b, 0) := by simp [S.dropF, S.look, st2, st3, wrap64]
theorem t4 (b c : ByteArray) : S.takeF (st3 b) c = (st4 b c, 1, 2, 0) := by simp [S.takeF, S.genAt, st3, st4, wrap64]; omega
theorem t5 (b c : ByteArray) : S.getF (st4 b c) 1 2 = (c, true) := rfl
theorem t6 (b c : ByteArray) : S.getF (st4 b c) 1 1 = (ByteArray.empty, false) := rfl
theorem new2 (w : World) : Calls Try.prog 55 #[.int .i64 2] w fun e w' => ∃ g, e = .returned (.tuple #[.pointer (some ⟨g, 0, none⟩), .int .i64 0]) ∧ S.Rep w' (fun k => w.heap.size ≤ k) g (S.newT 2) ∧ Below w.heap.size w w' :=
  S.new_ok 2 (by omega) (by omega) w
theorem take_ex {B : Nat} {w0 w : World} {g : Nat} {s s' : Tb ByteArray} {x : ByteArray} {id gen er : Int} (h : S.Rep w (fun k => B ≤ k) g s) (hb : Below B w0 w) (hB : B ≤ w.heap.size) (ht : S.takeF s x = (s', id, gen, er)) :
    Calls Try.prog 56 #[.pointer (some ⟨g, 0, none⟩), .string x] w fun e w' => e = .returned (.tuple #[.int .i64 id, .int .i64 gen, .int .i64 er]) ∧ S.Rep w' (fun k => B ≤ k) g s' ∧ Below B w0 w' ∧ B ≤ w'.heap.size := by
  refine (S.take_calls h x).mono ?_
  rw [ht]
  rintro e w' ⟨rfl, hr, ht⟩
  exact ⟨rfl, hr, ht.to_below hb hB (fun k hk => hk), Nat.le_trans hB ht.kept.1⟩
theorem drop_ex {B : Nat} {w0 w : World} {g : Nat} {s s' : Tb ByteArray} {id gen er : Int} (h : S.Rep w (fun k => B ≤ k) g s) (hb : Below B w0 w) (hB : B ≤ w.heap.size) (ht : S.dropF s id gen = (s', er)) (hl : s.free.length < 1000000) :
    Calls Try.prog 57 #[.pointer (some ⟨g, 0, none⟩), .int .i64 id, .int .i64 gen] w fun e w' => e = .returned (.int .i64 er) ∧ S.Rep w' (fun k => B ≤ k) g s' ∧ Below B w0 w' ∧ B ≤ w'.heap.size := by
  refine (S.drop_calls h id gen hl).mono ?_
  rw [ht]
  rintro e w' ⟨rfl, hr, ht⟩
  exact ⟨rfl, hr.mono (fun k hk => hk.elim (fun h1 => h1) (fun h2 => Nat.le_trans hB h2)), ht.to_below hb hB (fun k hk => hk), Nat.le_trans hB ht.kept.1⟩
theorem get_ex {F : Nat → Prop} {w : World} {g : Nat} {s : Tb ByteArray} {id gen : Int} {x : ByteArray} {b : Bool} (h : S.Rep w F g s) (ht : S.getF s id gen = (x, b)) :
    Calls Try.prog 58 #[.pointer (some ⟨g, 0, none⟩), .int .i64 id, .int .i64 gen] w fun e w' => e = .returned (.tuple #[.string x, .bool b]) ∧ w = w' := by
  have q := S.get_calls h id gen
  rw [ht] at q
  exact q
end Aw
open Aw
set_option maxHeartbeats 4000000 in
theorem awake (w : World) : Calls Try.prog 16 #[] w fun e w' => e = .returned (.bool true) ∧ Below w.heap.size w w' := by
  go_enter Try.func16, Try.ntmps16
  go_wp2_with (first
    | (go_at_call 55; (with_reducible refine (new2 _).mono ?_); rintro e w1 ⟨g, rfl, hr1, hb1⟩; have HR1 := Aside0.mk hr1; have HB1 := Aside0.mk hb1; clear hr1 hb1)
    | (go_at_call 56; (with_reducible refine (take_ex HR1.out HB1.out HB1.out.size (t1 ⟨#[97]⟩)).mono ?_); rintro e w2 ⟨rfl, hr2, hb2, hs2⟩; have HR2 := Aside0.mk hr2; have HB2 := Aside0.mk hb2; have HS2 := Aside0.mk hs2; clear hr2 hb2 hs2)
    | (go_at_call 56; (with_reducible refine (take_ex HR2.out HB2.out HS2.out (t2 ⟨#[97]⟩ ⟨#[98]⟩)).mono ?_); rintro e w3 ⟨rfl, hr3, hb3, hs3⟩; have HR3 := Aside0.mk hr3; have HB3 := Aside0.mk hb3; have HS3 := Aside0.mk hs3; clear hr3 hb3 hs3)
    | (go_at_call 57; (with_reducible refine (drop_ex HR3.out HB3.out HS3.out (t3 ⟨#[97]⟩ ⟨#[98]⟩) (by simp [st2])).mono ?_); rintro e w4 ⟨rfl, hr4, hb4, hs4⟩; have HR4 := Aside0.mk hr4; have HB4 := Aside0.mk hb4; have HS4 := Aside0.mk hs4; clear hr4 hb4 hs4)
    | (go_at_call 56; (with_reducible refine (take_ex HR4.out HB4.out HS4.out (t4 ⟨#[98]⟩ ⟨#[99]⟩)).mono ?_); rintro e w5 ⟨rfl, hr5, hb5, hs5⟩; have HR5 := Aside0.mk hr5; have HB5 := Aside0.mk hb5; have HS5 := Aside0.mk hs5; clear hr5 hb5 hs5)
    | (go_at_call 58; (with_reducible refine (get_ex HR5.out (t5 ⟨#[98]⟩ ⟨#[99]⟩)).mono ?_); rintro e w6 ⟨rfl, rfl⟩)
    | (go_at_call 58; (with_reducible refine (get_ex HR5.out (t6 ⟨#[98]⟩ ⟨#[99]⟩)).mono ?_); rintro e w6 ⟨rfl, rfl⟩)
    | (go_at_call 59; (with_reducible refine (S.len_calls HR5.out).mono ?_); rintro e w6 ⟨rfl, rfl⟩))
  go_ret
  exact ⟨rfl, HB5.out⟩
end Go.Proofs.Ytgjcbpeliimhaaa.PSl
