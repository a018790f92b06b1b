/- SSpoils: contract of the reference's CountSpoils. Conditions: numbers in range. -/
import Derived.Test.YtledmebhlmpjaaaSpoils
set_option linter.unusedVariables false
set_option linter.unusedSimpArgs false
namespace Go.Proofs.Ytledmebhlmpjaaa
open Go.ChangeShapes Go.WideShapes Go.ChangeAt Go.RowKit Peg Go.Sort
end Go.Proofs.Ytledmebhlmpjaaa
