/- Play: contracts of LineBetween, isLine, DoJump and their likes, and the reference's. Conditions: numbers in range. -/
import Derived.Test.YtfmplmlilmalpaaPlay0
set_option linter.unusedVariables false
set_option linter.unusedSimpArgs false
namespace Go.Proofs.Ytfmplmlilmalpaa
open Go.ChangeShapes Go.WideShapes Go.ChangeAt Go.RowKit Peg Go.Sort
def optLn (r : Option Ln) : Value := .tuple #[.agg #[.int .i64 (r.getD Ln0).f, .int .i64 (r.getD Ln0).o, .int .i64 (r.getD Ln0).t], .bool r.isSome]
end Go.Proofs.Ytfmplmlilmalpaa
