/- OpenE: arguments that are entrants or claims. No condition. -/
import Derived.Test.YtfmplmlilmalpaaOpenS
import Derived.Test.YtfmplmlilmalpaaMemR
set_option linter.unusedVariables false
set_option linter.unusedSimpArgs false
namespace Peg
structure Ent where
  n : Int
  rs : List Rs
def Ent0 : Ent := ⟨0, []⟩
end Peg
namespace Go.Proofs.Ytfmplmlilmalpaa
open Go.ChangeShapes Go.WideShapes Go.ChangeAt Go.RowKit
set_option maxRecDepth 100000
theorem Own.setLow {α : Type} {E : Elt α} {w : World} {base : Nat} {v : Value} {l : List α} (h : Own E w base v l) {a : Addr} (ha : a.block < base) (u : Value) : Own E (w.setCell a u) base v l :=
  h.keep_of fun k hk _ _ => Below.heap_setCell _ _ _ _ (fun e => by omega)
section
variable {H : Type} {enc : TypeId × Value → H} {W : World} {sp : Nat → Bool}
/-- a claim by value -/
structure ClaimP where
  kind : Int
  num : Int
  js : List Peg.Ln
  ws : List Int
def ClaimArg (W : World) (v : Value) (c : ClaimP) : Prop := ∃ vj vw, v = .agg #[.int .i64 c.kind, .int .i64 c.num, vj, vw] ∧ Rd ELine W vj c.js ∧ Rd EInt W vw c.ws
def ClaimWf (c : ClaimP) : Prop := (∀ y ∈ c.js, LnWf y) ∧ (∀ y ∈ c.ws, IntWf y) ∧ (Lit.int .i64 c.kind).wf = true ∧ (Lit.int .i64 c.num).wf = true
theorem cells_LS : Try.prog.cellsOf 26 = 1 := by kernel_rfl
theorem cells_IS : Try.prog.cellsOf 27 = 1 := by kernel_rfl
theorem cells_Claim : Try.prog.cellsOf 29 = 4 := by kernel_rfl
theorem arg_Claim {v : Value} {d : DataW H} {p : List MemPlace} {b0 : Nat} (hv : Value.okWide Try.prog W .any b0 29 v) (h : DataW.Trod enc Try.prog W 0 sp true 29 v d p) :
    ∃ c, ClaimArg W v c ∧ ClaimWf c := by
  obtain ⟨cs, rfl, _⟩ := okWide_struct Try.underlying29 hv
  obtain ⟨fuel, hf⟩ := h
  obtain ⟨l⟩ := cs
  obtain ⟨xs, n, _, _, hl, hxs, hg⟩ := DataW.trod_struct Try.underlying29 (cs := l) (by simpa [Value.cells] using hf)
  rw [cells_Claim] at hl
  match l, hl, xs, hxs with
  | [c0, c1, c2, c3], _, [y0, y1, y2, y3], _ =>
    obtain ⟨a0, e0, _, w0⟩ := DataW.trod_int Try.underlying3 (by simpa [cells_int] using hg 0 _ rfl)
    simp at e0
    obtain ⟨a1, e1, _, w1⟩ := DataW.trod_int Try.underlying3 (by simpa [cells_int] using hg 1 _ rfl)
    simp at e1
    obtain ⟨vj, js, e2, hj, hjw⟩ := rd_of_trod ELine LnWf Peg.Ln0 Try.underlying26 cells_Line (fun fuel cs x hx => by
      obtain ⟨a0, a1, a2, rfl, w0, w1, w2⟩ := open_Line hx
      exact ⟨⟨a0, a1, a2⟩, rfl, w0, w1, w2⟩) (by simpa [cells_int, cells_LS] using hg 2 _ rfl)
    simp at e2
    obtain ⟨vw, ws, e3, hw, hww⟩ := rd_of_trod EInt IntWf 0 Try.underlying27 cells_int (fun fuel cs x hx => by
      obtain ⟨a0, e0, _, w0⟩ := DataW.trod_int Try.underlying3 hx
      exact ⟨a0, e0, w0⟩) (by simpa [cells_int, cells_LS, cells_IS] using hg 3 _ rfl)
    simp at e3
    subst e0 e1 e2 e3
    exact ⟨⟨a0, a1, js, ws⟩, ⟨_, _, rfl, hj, hw⟩, hjw, hww, w0, w1⟩
end
end Go.Proofs.Ytfmplmlilmalpaa
