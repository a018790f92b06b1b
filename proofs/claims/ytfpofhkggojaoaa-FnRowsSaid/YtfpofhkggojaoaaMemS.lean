/- MemS: strings as elements of slices; append inside a region that draws. Nothing of the program but its types' numbers. No condition. -/
import Derived.Test.YtfpofhkggojaoaaMemR
import Derived.Test.YtfpofhkggojaoaaApp
import Derived.Deep.RegionLaw
set_option linter.unusedVariables false
set_option linter.unusedSimpArgs false
namespace Peg
def B0 : ByteArray := ByteArray.empty
end Peg
namespace Go.Proofs.Ytfpofhkggojaoaa
open Go.ChangeShapes Go.WideShapes Go.ChangeAt Go.RowKit Go.Sort
theorem info_str : (Try.prog.info? 9).map (fun i => (i.zero, i.size, i.bytes)) = some (some (.string ByteArray.empty), 1, 16) := by kernel_rfl
def EStr : Elt ByteArray where
  e := 9
  size := 1
  bytes := 16
  enc x := [.string x]
  len _ := rfl
  one _ u hu := by simp at hu; subst hu; rfl
  pos := by decide
  small := by decide
  info := ⟨_, info_str, rfl⟩
theorem Rd.str {w : World} {v : Value} {l : List ByteArray} (h : Rd EStr w v l) : ∃ a cap, v = .slice a l.length cap ∧ l.length ≤ 9223372036854775807 ∧
    ∀ i, i < l.length → ∃ ad : Addr, a = some ad ∧ ad.block < w.heap.size ∧ w.cell? (ad.add i) = some (.string (Peg.gD l Peg.B0 i)) := by
  obtain ⟨a, cap, hv, h1, h3⟩ := h
  refine ⟨a, cap, hv, h1, fun i hi => ?_⟩
  obtain ⟨ad, hb, h5, h6⟩ := h3 i hi
  exact ⟨ad, hb, h5, by simpa [EStr, hi, Peg.gD] using h6 0 (by decide)⟩
theorem Own.strG {w : World} {base : Nat} {v : Value} {l : List ByteArray} (h : Own EStr w base v l) : ∃ a cap, v = .slice a l.length cap ∧ l.length ≤ 9223372036854775807 ∧
    ∀ i, i < l.length → ∃ b, a = some ⟨b, 0, none⟩ ∧ base ≤ b ∧ b < w.heap.size ∧ w.cell? ⟨b, i, none⟩ = some (.string (Peg.gD l Peg.B0 i)) := by
  obtain ⟨a, cap, hv, h1, h2, h3⟩ := h.form
  refine ⟨a, cap, hv, by unfold maxLen at h2; omega, fun i hi => ?_⟩
  obtain ⟨b, hb, h4, h5, h6⟩ := h3 i hi
  exact ⟨b, hb, h4, h5, by simpa [EStr, hi, Peg.gD] using h6 0 (by decide)⟩
section
variable {α : Type} {E : Elt α} {w w' : World} {base B : Nat} {v v2 : Value} {l l2 : List α}
/-- append of a slice inside a region that draws its order -/
theorem step_appendN {P : Program} (hP : P = Try.prog) {ops : Array Oper} {o : Oper} {a : Act} {K : Act → World → Prop} {Q : Exit → Act → World → Prop} {F : Prop} (hgd : o.guard = none) (s x : Operand) (t : TypeId)
    (ho : o.op = .call { callee := .builtin .append, args := #[s, x], argTypes := #[t, t] }) (ht : P.underlying t = some (.slice E.e))
    (hs : a.eval s = v) (hx : a.eval x = v2) (hown : Own E w base v l) (h2 : Own E w B v2 l2) (hlen : l.length + l2.length ≤ 1099511627776) (hbase : base ≤ w.heap.size)
    (h : ∀ v' w', Own E w' base v' (l ++ l2) → Below base w w' → w.grownBy w' v.ownBlock → K (a.put o.dst v') w') :
    if Region.wanted o (yielded ops a.tmps) = true then Oper.wp P o a w K Q else F := by
  subst hP
  have hw : Region.wanted o (yielded ops a.tmps) = true := by simp [Region.wanted, hgd]
  rw [if_pos hw]
  obtain ⟨v', w', hr, h3, h4, h5, _⟩ := run_appendN t o.type ht hown h2 hlen hbase
  unfold Oper.wp execOp
  simp only [ho, resolve, invoke, builtin, Sem.run_bind, Sem.run_pure, Result.andThen_ok, List.map_toArray, List.map_cons, List.map_nil, hs, hx, hr]
  exact h v' w' h3 h4 h5
end
end Go.Proofs.Ytfpofhkggojaoaa
