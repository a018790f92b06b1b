/- Open: an argument of a struct type, by value, is its cells: ints in range, bools. No condition. -/
import Derived.Test.YtkaojpcpfbbicaaDoorBase
set_option linter.unusedVariables false
set_option linter.unusedSimpArgs false
namespace Go.Proofs.YtkaojpcpfbbicaaDoor
open Go.ChangeShapes Go.WideShapes Go.ChangeAt Go.RowKit
set_option maxRecDepth 100000
section
variable {H : Type} {enc : TypeId × Value → H} {W : World} {sp : Nat → Bool}
theorem cells_int : Tryd.prog.cellsOf 3 = 1 := by kernel_rfl
theorem cells_bool : Tryd.prog.cellsOf 4 = 1 := by kernel_rfl
theorem cells_Board : Tryd.prog.cellsOf 25 = 3 := by kernel_rfl
theorem open_Board {fuel : Nat} {cs : List Value} {x : DataW H × List MemPlace} (h : DataW.trod enc Tryd.prog W 0 sp true fuel 25 cs = some x) :
    ∃ (a0 : Int) (a1 : Int) (a2 : Int), cs = [.int .i64 a0, .int .i64 a1, .int .i64 a2] ∧ (Lit.int .i64 a0).wf = true ∧ (Lit.int .i64 a1).wf = true ∧ (Lit.int .i64 a2).wf = true := by
  obtain ⟨xs, n, _, _, hl, hxs, hf⟩ := DataW.trod_struct Tryd.underlying25 h
  rw [cells_Board] at hl
  match cs, hl, xs, hxs with
  | [c0, c1, c2], _, [y0, y1, y2], _ =>
    obtain ⟨a0, e0, _, w0⟩ := DataW.trod_int Tryd.underlying3 (by simpa [cells_int] using hf 0 _ rfl)
    simp at e0
    obtain ⟨a1, e1, _, w1⟩ := DataW.trod_int Tryd.underlying3 (by simpa [cells_int] using hf 1 _ rfl)
    simp at e1
    obtain ⟨a2, e2, _, w2⟩ := DataW.trod_int Tryd.underlying3 (by simpa [cells_int] using hf 2 _ rfl)
    simp at e2
    exact ⟨a0, a1, a2, by simp [e0, e1, e2], w0, w1, w2⟩
theorem arg_Board {v : Value} {d : DataW H} {p : List MemPlace} {b0 : Nat} (hv : Value.okWide Tryd.prog W .any b0 25 v) (h : DataW.Trod enc Tryd.prog W 0 sp true 25 v d p) :
    ∃ (a0 : Int) (a1 : Int) (a2 : Int), v = .agg #[.int .i64 a0, .int .i64 a1, .int .i64 a2] ∧ (Lit.int .i64 a0).wf = true ∧ (Lit.int .i64 a1).wf = true ∧ (Lit.int .i64 a2).wf = true := by
  obtain ⟨cs, rfl, _⟩ := okWide_struct Tryd.underlying25 hv
  obtain ⟨fuel, hf⟩ := h
  obtain ⟨a0, a1, a2, e, w0, w1, w2⟩ := open_Board (cs := cs.toList) (by simpa [Value.cells] using hf)
  refine ⟨a0, a1, a2, ?_, w0, w1, w2⟩
  obtain ⟨l⟩ := cs
  simp at e
  rw [e]
theorem cells_Line : Tryd.prog.cellsOf 27 = 3 := by kernel_rfl
theorem open_Line {fuel : Nat} {cs : List Value} {x : DataW H × List MemPlace} (h : DataW.trod enc Tryd.prog W 0 sp true fuel 27 cs = some x) :
    ∃ (a0 : Int) (a1 : Int) (a2 : Int), cs = [.int .i64 a0, .int .i64 a1, .int .i64 a2] ∧ (Lit.int .i64 a0).wf = true ∧ (Lit.int .i64 a1).wf = true ∧ (Lit.int .i64 a2).wf = true := by
  obtain ⟨xs, n, _, _, hl, hxs, hf⟩ := DataW.trod_struct Tryd.underlying27 h
  rw [cells_Line] at hl
  match cs, hl, xs, hxs with
  | [c0, c1, c2], _, [y0, y1, y2], _ =>
    obtain ⟨a0, e0, _, w0⟩ := DataW.trod_int Tryd.underlying3 (by simpa [cells_int] using hf 0 _ rfl)
    simp at e0
    obtain ⟨a1, e1, _, w1⟩ := DataW.trod_int Tryd.underlying3 (by simpa [cells_int] using hf 1 _ rfl)
    simp at e1
    obtain ⟨a2, e2, _, w2⟩ := DataW.trod_int Tryd.underlying3 (by simpa [cells_int] using hf 2 _ rfl)
    simp at e2
    exact ⟨a0, a1, a2, by simp [e0, e1, e2], w0, w1, w2⟩
theorem arg_Line {v : Value} {d : DataW H} {p : List MemPlace} {b0 : Nat} (hv : Value.okWide Tryd.prog W .any b0 27 v) (h : DataW.Trod enc Tryd.prog W 0 sp true 27 v d p) :
    ∃ (a0 : Int) (a1 : Int) (a2 : Int), v = .agg #[.int .i64 a0, .int .i64 a1, .int .i64 a2] ∧ (Lit.int .i64 a0).wf = true ∧ (Lit.int .i64 a1).wf = true ∧ (Lit.int .i64 a2).wf = true := by
  obtain ⟨cs, rfl, _⟩ := okWide_struct Tryd.underlying27 hv
  obtain ⟨fuel, hf⟩ := h
  obtain ⟨a0, a1, a2, e, w0, w1, w2⟩ := open_Line (cs := cs.toList) (by simpa [Value.cells] using hf)
  refine ⟨a0, a1, a2, ?_, w0, w1, w2⟩
  obtain ⟨l⟩ := cs
  simp at e
  rw [e]
end
end Go.Proofs.YtkaojpcpfbbicaaDoor
