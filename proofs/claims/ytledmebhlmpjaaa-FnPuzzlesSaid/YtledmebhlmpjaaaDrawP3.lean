/- DrawP3: contracts of the reference's drawn puzzles, to the end. Conditions: the cursor's form. -/
import Derived.Test.YtledmebhlmpjaaaDrawP2
set_option linter.unusedVariables false
set_option linter.unusedSimpArgs false
namespace Go.Proofs.Ytledmebhlmpjaaa
open Go.ChangeShapes Go.WideShapes Go.ChangeAt Go.RowKit Peg Go.Sort
set_option maxHeartbeats 4000000 in
set_option maxRecDepth 100000 in
theorem l26Puzzle_any (c : Nat) (v : Value) (l : List Int) (w0 w : World) (hv : Rd EBy w0 v l) (hok : ∀ y ∈ l, ByOk y) (h0 : w0.heap.size ≤ c) (hbel : Below w0.heap.size w0 w) (hcur : CurAt w c v l.length) :
    Calls Try.prog 51 #[.pointer (some ⟨c, 0, none⟩)] w fun e w' => (∃ a b o p q : Int, e = .returned (.agg #[.int .i64 a, .int .i64 b, .int .i64 o, .int .i64 p, .int .i64 q]) ∧ puzzleOk a b o p q = true) ∧ CurAt w' c v l.length ∧ w.grownBy w' (some c) := by
  have HV := Lib.hid hv
  have HO := Lib.hid hok
  have HL := Lib.hid hbel
  have hcw := hcur.1
  have HC := Lib.hid hcur
  clear hv hok hbel hcur
  go_enter Try.func51, Try.ntmps51
  have hb0 : Below w.heap.size w (w.alloc (.cells #[.int .i64 0, .int .i64 0, .int .i64 0, .int .i64 0, .int .i64 0] 29)) := (Below.refl _ _).alloc (Nat.le_refl _) _
  go_wp2_with fail
  refine (l21Start_any c v l w0 _ HV.out HO.out h0 (HL.out.trans (hb0.mono (by omega))) (HC.out.keep hb0)).mono ?_
  rintro e w1 ⟨⟨a, b, o, p, q, rfl, hsm, hp, hq⟩, hcu1, hg1⟩
  have hz1 := hg1.size
  simp only [World.size_alloc] at hz1
  have HPZ : Hid (puzzleOk a b o p q = true) := by show _ = _; simp [puzzleOk, hsm, hp, hq]
  have hR1 : ∀ j, w1.cell? ⟨w.heap.size, j, none⟩ = #[Value.int .i64 0, .int .i64 0, .int .i64 0, .int .i64 0, .int .i64 0][j]? := fun j => (only_cell hg1 (by simp) (by omega)).trans (by simp)
  have hF1 : ∀ j, w1.frozen? ⟨w.heap.size, j, none⟩ = false := fun j => (only_frozen hg1 (by simp) (by omega)).trans (by simp)
  have HC1 := Lib.hid hcu1
  have HG1 := Lib.hid (only_trans (only_old (c := c) hb0) hg1)
  have hzw : w.heap.size < w1.heap.size := by omega
  have hzw1 : w.heap.size ≤ w1.heap.size := by omega
  clear hcu1 hg1 hsm hp hq hb0
  go_wp2_with fail
  refine bodyPost_ret (v := .agg #[.int .i64 a, .int .i64 b, .int .i64 o, .int .i64 p, .int .i64 q]) (by simp [results, Try.results51, go_sem, *]) rfl ⟨⟨a, b, o, p, q, rfl, HPZ.out⟩, ?_, ?_⟩
  · exact HC1.out.keepB (B := w.heap.size) hcw (by simp) (by (repeat' first | (with_reducible exact Below.refl _ _) | (with_reducible refine Below.alloc ?_ ?_ _) | (with_reducible refine Below.drew ?_) | (with_reducible refine Below.setCell ?_ ?_ _) | (with_reducible refine below_via (by assumption) ?_ ?_) | go_size))
  · exact only_viaB (B := w.heap.size) (by (repeat' first | (with_reducible exact Below.refl _ _) | (with_reducible refine Below.alloc ?_ ?_ _) | (with_reducible refine Below.drew ?_) | (with_reducible refine Below.setCell ?_ ?_ _) | (with_reducible refine below_via (by assumption) ?_ ?_) | go_size)) (Nat.le_refl _) HG1.out
end Go.Proofs.Ytledmebhlmpjaaa
