/- PlayAll: contracts of PlayAll, IsSolution, IsSolvedBy and the reference's. Conditions: numbers in range. -/
import Derived.Test.YtfmplmlilmalpaaPlay
set_option linter.unusedVariables false
set_option linter.unusedSimpArgs false
namespace Peg
theorem flip_le {back : Bool} {a b o p : Int} {l : Ln} (h : doOk back a b o p l = true) : flip p l ≤ 9223372036854775807 := by
  have := pos_lt (doOk_next h); omega
def isSolution (a b o p g : Int) (js : List Ln) : Bool := playAll a b o p js == some g
def isSolvedBy (a b o s g : Int) (js : List Ln) : Bool := puzzleOk a b o s g && isSolution a b o s g js
end Peg
namespace Go.Proofs.Ytfmplmlilmalpaa
open Go.ChangeShapes Go.WideShapes Go.ChangeAt Go.RowKit Peg Go.Sort
def optInt (p : Int) (r : Option Int) : Value := .tuple #[.int .i64 (r.getD p), .bool r.isSome]
end Go.Proofs.Ytfmplmlilmalpaa
