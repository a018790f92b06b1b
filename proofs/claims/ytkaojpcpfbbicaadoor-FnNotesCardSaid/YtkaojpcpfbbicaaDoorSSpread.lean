/- SSpread: contract of the reference's l14Seen. Conditions: a small board, a position on it. -/
import Derived.Test.YtkaojpcpfbbicaaDoorSpread
import Derived.Test.YtkaojpcpfbbicaaDoorSLines
set_option linter.unusedVariables false
set_option linter.unusedSimpArgs false
namespace Go.Proofs.YtkaojpcpfbbicaaDoor
open Go.ChangeShapes Go.WideShapes Go.ChangeAt Go.RowKit Peg Go.Sort
theorem Own.setBelow {α : Type} {E : Elt α} {w : World} {base : Nat} {v : Value} {l : List α} (h : Own E w base v l) {a : Addr} (ha : a.block < base) (u : Value) : Own E (w.setCell a u) base v l :=
  h.keep_of fun k hk _ _ => Below.heap_setCell _ _ _ _ (fun e => by omega)
end Go.Proofs.YtkaojpcpfbbicaaDoor
