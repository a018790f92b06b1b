/- DrawG4: contract of the reference's drawn games. Conditions: the code's form. -/
import Derived.Test.YtfmplmlilmalpaaGreatDrawG3
import Derived.Deep.DeepCutAuto
set_option linter.unusedVariables false
set_option linter.unusedSimpArgs false
namespace Go.Proofs.YtfmplmlilmalpaaGreat
open Go.ChangeShapes Go.WideShapes Go.ChangeAt Go.RowKit Peg Go.Sort
end Go.Proofs.YtfmplmlilmalpaaGreat
