/- Jumps: contracts of JumpsOf and the reference's. Conditions: numbers in range. -/
import Derived.Test.YtfmplmlilmalpaaSpoils
set_option linter.unusedVariables false
set_option linter.unusedSimpArgs false
namespace Peg
def jumpsOf (a b o p : Int) : List Ln := if posOk a b o p = true then (linesOf a b o).filter (canJ p) else []
theorem filter_take {α : Type} (f : α → Bool) (L : List α) (d : α) (j : Nat) (h : j < L.length) : (L.take (j + 1)).filter f = (L.take j).filter f ++ (if f (L.getD j d) = true then [L.getD j d] else []) := by
  rw [List.take_succ_eq_append_getElem h, List.filter_append]
  simp [List.filter_cons, h]
theorem filter_take_le {α : Type} (f : α → Bool) (L : List α) (j : Nat) : ((L.take j).filter f).length ≤ L.length :=
  Nat.le_trans (List.length_filter_le _ _) (by simp; omega)
end Peg
namespace Go.Proofs.Ytfmplmlilmalpaa
open Go.ChangeShapes Go.WideShapes Go.ChangeAt Go.RowKit Peg Go.Sort
end Go.Proofs.Ytfmplmlilmalpaa
