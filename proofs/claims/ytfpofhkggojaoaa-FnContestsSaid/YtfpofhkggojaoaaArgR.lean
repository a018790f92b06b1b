/- ArgR: contracts of the laws' own loops over slices (ResultS): sizes, copies, comparisons, marks. Conditions: lengths in range. -/
import Derived.Test.YtfpofhkggojaoaaMemR
import Derived.Test.YtfpofhkggojaoaaScore
import Derived.Test.YtfpofhkggojaoaaArgL
set_option linter.unusedVariables false
set_option linter.unusedSimpArgs false
namespace Peg
def markResult (k : Int) (j : Nat) : Rs := ⟨k + 4 * j, (k + 4 * j + 1) % 3 == 0, k + 4 * j + 1 + 1, k + 4 * j + 1 + 1 + 1⟩
def marksResult (k : Int) (n : Nat) : List Rs := (List.range n).map (markResult k)
end Peg
namespace Go.Proofs.Ytfpofhkggojaoaa
open Go.ChangeShapes Go.WideShapes Go.ChangeAt Go.RowKit Peg Go.Sort
end Go.Proofs.Ytfpofhkggojaoaa
