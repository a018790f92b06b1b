/- DrawQ: contract of the reference's drawn game that was played. Conditions: the argument is a slice of bytes. -/
import Derived.Test.YtfpofhkggojaoaaDrawJ
set_option linter.unusedVariables false
set_option linter.unusedSimpArgs false
namespace Go.Proofs.Ytfpofhkggojaoaa
open Go.ChangeShapes Go.WideShapes Go.ChangeAt Go.RowKit Peg Go.Sort
def PlayedIs (w : World) (e : Ending) (w' : World) : Prop := ∃ (a b o p q h u r : Int) (L : List Ln) (vL : Value), e = .returned (.agg #[.int .i64 a, .int .i64 b, .int .i64 o, .int .i64 p, .int .i64 q, vL, .int .i64 h, .int .i64 u]) ∧ puzzleOk a b o p q = true ∧ playTo false a b o p L = some r ∧ L.length ≤ 60 ∧ Own ELine w' w.heap.size vL L ∧ Below w.heap.size w w'
set_option maxHeartbeats 4000000 in
set_option maxRecDepth 100000 in
theorem DrawPlayed_any (v : Value) (l : List Int) (w : World) (hv : Rd EBy w v l) (hok : ∀ y ∈ l, ByOk y) (hl : l.length ≤ 1048576) :
    Calls Try.prog 20 #[v] w (PlayedIs w) := by
  have HV := Lib.hid hv
  have HO := Lib.hid hok
  clear hv hok
  go_enter Try.func20, Try.ntmps20
  have hb0 : Below w.heap.size w (w.alloc (.cells #[.int .i64 0, .int .i64 0, .int .i64 0, .int .i64 0, .int .i64 0, .slice none 0 0, .int .i64 0, .int .i64 0] 43)) := (Below.refl _ _).alloc (Nat.le_refl _) _
  go_wp2_with fail
  refine (l01New_any v l _ (HV.out.keep hb0) HO.out hl).mono ?_
  rintro e w1 ⟨c, rfl, hc0, hcu, hb⟩
  have hz1 := hb.size
  simp only [World.size_alloc] at hz1 hc0
  have hR1 : ∀ j, w1.cell? ⟨w.heap.size, j, none⟩ = #[Value.int .i64 0, .int .i64 0, .int .i64 0, .int .i64 0, .int .i64 0, .slice none 0 0, .int .i64 0, .int .i64 0][j]? := fun j => (hb.cell (by simp)).trans (by simp)
  have hF1 : ∀ j, w1.frozen? ⟨w.heap.size, j, none⟩ = false := fun j => (hb.frozen (by simp)).trans (by simp)
  have HB1 := Lib.hid (hb0.trans (hb.mono (by simp)))
  have HC1 := Lib.hid hcu
  have hc1 := hcu.1
  clear hb hb0 hcu
  go_wp2_with fail
  refine (l37Game_any c v l w w1 HV.out HO.out (by omega) HB1.out HC1.out).mono ?_
  rintro e w2 ⟨⟨a, b, o, p, q, h, u, r, L, vL, rfl, hpz, hpl, hL, hown⟩, hcu2, hg2⟩
  have hz2 := hg2.size
  have HPZ := Lib.hid hpz
  have HPT := Lib.hid hpl
  have HOW := Lib.hid hown
  have hR2 : ∀ j, w2.cell? ⟨w.heap.size, j, none⟩ = #[Value.int .i64 0, .int .i64 0, .int .i64 0, .int .i64 0, .int .i64 0, .slice none 0 0, .int .i64 0, .int .i64 0][j]? := fun j => (only_cell hg2 (by omega) (by omega)).trans (hR1 j)
  have hF2 : ∀ j, w2.frozen? ⟨w.heap.size, j, none⟩ = false := fun j => (only_frozen hg2 (by omega) (by omega)).trans (hF1 j)
  have HB2 := Lib.hid (HB1.out.trans ((only_below (Nat.le_of_lt hc1) hg2).mono (by omega)))
  obtain ⟨aL, cL, rfl, -⟩ := hown.form
  clear hcu2 hg2 hR1 hF1 hpz hpl hown HC1
  go_wp2_with fail
  refine bodyPost_ret (v := .agg #[.int .i64 a, .int .i64 b, .int .i64 o, .int .i64 p, .int .i64 q, .slice aL L.length cL, .int .i64 h, .int .i64 u]) (by simp [results, Try.results20, go_sem, *]) rfl ⟨a, b, o, p, q, h, u, r, L, _, rfl, HPZ.out, HPT.out, hL, ?_, ?_⟩
  · exact (HOW.out.only (c := w.heap.size) (only_set (only_set (only_set (only_set (only_set (only_set (only_set (only_set (only_refl _ w.heap.size))))))))) (by omega)).mono (by omega)
  · have hbF := HB2.out
    (repeat' first | (with_reducible exact Below.refl _ _) | (with_reducible refine Below.alloc ?_ ?_ _) | (with_reducible refine Below.drew ?_) | (with_reducible refine Below.setCell ?_ ?_ _) | (with_reducible refine below_via (by assumption) ?_ ?_) | go_size)
end Go.Proofs.Ytfpofhkggojaoaa
