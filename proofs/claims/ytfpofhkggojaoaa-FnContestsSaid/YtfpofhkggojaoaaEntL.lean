/- EntL: contracts of the laws' own functions on one entrant. Conditions: lengths in range. -/
import Derived.Test.YtfpofhkggojaoaaEnt
import Derived.Test.YtfpofhkggojaoaaOpenE
set_option linter.unusedVariables false
set_option linter.unusedSimpArgs false
namespace Go.Proofs.Ytfpofhkggojaoaa
open Go.ChangeShapes Go.WideShapes Go.ChangeAt Go.RowKit Peg Go.Sort
def RetEntrant (w : World) (e : Ent) (en : Ending) (w' : World) : Prop := ∃ vr, en = .returned (.agg #[.int .i64 e.n, vr]) ∧ Own EResult w' w.heap.size vr e.rs ∧ Below w.heap.size w w'
end Go.Proofs.Ytfpofhkggojaoaa
