/- Good: contracts of GoodJumps and the reference's. Conditions: numbers in range. -/
import Derived.Test.YtledmebhlmpjaaaJumps
set_option linter.unusedVariables false
set_option linter.unusedSimpArgs false
namespace Peg
def goodJumps (a b o p g : Int) : List Ln := (jumpsOf a b o p).filter (fun l => hasB (spreadOf a b o g true) (flip p l))
theorem jumpsOf_in {a b o p : Int} {l : Ln} (h : l ∈ jumpsOf a b o p) : posOk a b o p = true ∧ l ∈ linesOf a b o ∧ canJ p l = true := by
  unfold jumpsOf at h
  split at h
  · rename_i hp
    have := List.mem_filter.1 h
    exact ⟨hp, this.1, this.2⟩
  · cases h
theorem jumpsOf_le (a b o p : Int) : (jumpsOf a b o p).length ≤ 196 := by
  unfold jumpsOf
  split
  · exact Nat.le_trans (List.length_filter_le _ _) (linesOf_le a b o)
  · simp
end Peg
namespace Go.Proofs.Ytledmebhlmpjaaa
open Go.ChangeShapes Go.WideShapes Go.ChangeAt Go.RowKit Peg Go.Sort
end Go.Proofs.Ytledmebhlmpjaaa
