/- Open: an argument of a struct type, by value, is its cells: ints in range, bools. No condition. -/
import Derived.Test.YtfmplmlilmalpaaBase
set_option linter.unusedVariables false
set_option linter.unusedSimpArgs false
namespace Go.Proofs.Ytfmplmlilmalpaa
open Go.ChangeShapes Go.WideShapes Go.ChangeAt Go.RowKit
set_option maxRecDepth 100000
section
variable {H : Type} {enc : TypeId × Value → H} {W : World} {sp : Nat → Bool}
theorem cells_int : Try.prog.cellsOf 3 = 1 := by kernel_rfl
theorem cells_bool : Try.prog.cellsOf 4 = 1 := by kernel_rfl
theorem cells_Board : Try.prog.cellsOf 23 = 3 := by kernel_rfl
theorem open_Board {fuel : Nat} {cs : List Value} {x : DataW H × List MemPlace} (h : DataW.trod enc Try.prog W 0 sp true fuel 23 cs = some x) :
    ∃ (a0 : Int) (a1 : Int) (a2 : Int), cs = [.int .i64 a0, .int .i64 a1, .int .i64 a2] ∧ (Lit.int .i64 a0).wf = true ∧ (Lit.int .i64 a1).wf = true ∧ (Lit.int .i64 a2).wf = true := by
  obtain ⟨xs, n, _, _, hl, hxs, hf⟩ := DataW.trod_struct Try.underlying23 h
  rw [cells_Board] at hl
  match cs, hl, xs, hxs with
  | [c0, c1, c2], _, [y0, y1, y2], _ =>
    obtain ⟨a0, e0, _, w0⟩ := DataW.trod_int Try.underlying3 (by simpa [cells_int] using hf 0 _ rfl)
    simp at e0
    obtain ⟨a1, e1, _, w1⟩ := DataW.trod_int Try.underlying3 (by simpa [cells_int] using hf 1 _ rfl)
    simp at e1
    obtain ⟨a2, e2, _, w2⟩ := DataW.trod_int Try.underlying3 (by simpa [cells_int] using hf 2 _ rfl)
    simp at e2
    exact ⟨a0, a1, a2, by simp [e0, e1, e2], w0, w1, w2⟩
theorem arg_Board {v : Value} {d : DataW H} {p : List MemPlace} {b0 : Nat} (hv : Value.okWide Try.prog W .any b0 23 v) (h : DataW.Trod enc Try.prog W 0 sp true 23 v d p) :
    ∃ (a0 : Int) (a1 : Int) (a2 : Int), v = .agg #[.int .i64 a0, .int .i64 a1, .int .i64 a2] ∧ (Lit.int .i64 a0).wf = true ∧ (Lit.int .i64 a1).wf = true ∧ (Lit.int .i64 a2).wf = true := by
  obtain ⟨cs, rfl, _⟩ := okWide_struct Try.underlying23 hv
  obtain ⟨fuel, hf⟩ := h
  obtain ⟨a0, a1, a2, e, w0, w1, w2⟩ := open_Board (cs := cs.toList) (by simpa [Value.cells] using hf)
  refine ⟨a0, a1, a2, ?_, w0, w1, w2⟩
  obtain ⟨l⟩ := cs
  simp at e
  rw [e]
theorem cells_Line : Try.prog.cellsOf 65 = 3 := by kernel_rfl
theorem open_Line {fuel : Nat} {cs : List Value} {x : DataW H × List MemPlace} (h : DataW.trod enc Try.prog W 0 sp true fuel 65 cs = some x) :
    ∃ (a0 : Int) (a1 : Int) (a2 : Int), cs = [.int .i64 a0, .int .i64 a1, .int .i64 a2] ∧ (Lit.int .i64 a0).wf = true ∧ (Lit.int .i64 a1).wf = true ∧ (Lit.int .i64 a2).wf = true := by
  obtain ⟨xs, n, _, _, hl, hxs, hf⟩ := DataW.trod_struct Try.underlying65 h
  rw [cells_Line] at hl
  match cs, hl, xs, hxs with
  | [c0, c1, c2], _, [y0, y1, y2], _ =>
    obtain ⟨a0, e0, _, w0⟩ := DataW.trod_int Try.underlying3 (by simpa [cells_int] using hf 0 _ rfl)
    simp at e0
    obtain ⟨a1, e1, _, w1⟩ := DataW.trod_int Try.underlying3 (by simpa [cells_int] using hf 1 _ rfl)
    simp at e1
    obtain ⟨a2, e2, _, w2⟩ := DataW.trod_int Try.underlying3 (by simpa [cells_int] using hf 2 _ rfl)
    simp at e2
    exact ⟨a0, a1, a2, by simp [e0, e1, e2], w0, w1, w2⟩
theorem arg_Line {v : Value} {d : DataW H} {p : List MemPlace} {b0 : Nat} (hv : Value.okWide Try.prog W .any b0 65 v) (h : DataW.Trod enc Try.prog W 0 sp true 65 v d p) :
    ∃ (a0 : Int) (a1 : Int) (a2 : Int), v = .agg #[.int .i64 a0, .int .i64 a1, .int .i64 a2] ∧ (Lit.int .i64 a0).wf = true ∧ (Lit.int .i64 a1).wf = true ∧ (Lit.int .i64 a2).wf = true := by
  obtain ⟨cs, rfl, _⟩ := okWide_struct Try.underlying65 hv
  obtain ⟨fuel, hf⟩ := h
  obtain ⟨a0, a1, a2, e, w0, w1, w2⟩ := open_Line (cs := cs.toList) (by simpa [Value.cells] using hf)
  refine ⟨a0, a1, a2, ?_, w0, w1, w2⟩
  obtain ⟨l⟩ := cs
  simp at e
  rw [e]
theorem cells_Puzzle : Try.prog.cellsOf 25 = 5 := by kernel_rfl
theorem open_Puzzle {fuel : Nat} {cs : List Value} {x : DataW H × List MemPlace} (h : DataW.trod enc Try.prog W 0 sp true fuel 25 cs = some x) :
    ∃ (a0 : Int) (a1 : Int) (a2 : Int) (a3 : Int) (a4 : Int), cs = [.int .i64 a0, .int .i64 a1, .int .i64 a2, .int .i64 a3, .int .i64 a4] ∧ (Lit.int .i64 a0).wf = true ∧ (Lit.int .i64 a1).wf = true ∧ (Lit.int .i64 a2).wf = true ∧ (Lit.int .i64 a3).wf = true ∧ (Lit.int .i64 a4).wf = true := by
  obtain ⟨xs, n, _, _, hl, hxs, hf⟩ := DataW.trod_struct Try.underlying25 h
  rw [cells_Puzzle] at hl
  match cs, hl, xs, hxs with
  | [c0, c1, c2, c3, c4], _, [y0, y1, y2], _ =>
    obtain ⟨a0, a1, a2, e0, w0, w1, w2⟩ := open_Board (by simpa [cells_Board] using hf 0 _ rfl)
    simp at e0
    obtain ⟨a3, e3, _, w3⟩ := DataW.trod_int Try.underlying3 (by simpa [cells_int] using hf 1 _ rfl)
    simp at e3
    obtain ⟨a4, e4, _, w4⟩ := DataW.trod_int Try.underlying3 (by simpa [cells_int] using hf 2 _ rfl)
    simp at e4
    exact ⟨a0, a1, a2, a3, a4, by simp [e0, e3, e4], w0, w1, w2, w3, w4⟩
theorem arg_Puzzle {v : Value} {d : DataW H} {p : List MemPlace} {b0 : Nat} (hv : Value.okWide Try.prog W .any b0 25 v) (h : DataW.Trod enc Try.prog W 0 sp true 25 v d p) :
    ∃ (a0 : Int) (a1 : Int) (a2 : Int) (a3 : Int) (a4 : Int), v = .agg #[.int .i64 a0, .int .i64 a1, .int .i64 a2, .int .i64 a3, .int .i64 a4] ∧ (Lit.int .i64 a0).wf = true ∧ (Lit.int .i64 a1).wf = true ∧ (Lit.int .i64 a2).wf = true ∧ (Lit.int .i64 a3).wf = true ∧ (Lit.int .i64 a4).wf = true := by
  obtain ⟨cs, rfl, _⟩ := okWide_struct Try.underlying25 hv
  obtain ⟨fuel, hf⟩ := h
  obtain ⟨a0, a1, a2, a3, a4, e, w0, w1, w2, w3, w4⟩ := open_Puzzle (cs := cs.toList) (by simpa [Value.cells] using hf)
  refine ⟨a0, a1, a2, a3, a4, ?_, w0, w1, w2, w3, w4⟩
  obtain ⟨l⟩ := cs
  simp at e
  rw [e]
end
end Go.Proofs.Ytfmplmlilmalpaa
