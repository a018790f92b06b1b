/- OpenE: arguments that are entrants or claims. No condition. -/
import Derived.Test.YtfpofhkggojaoaaOpenS
import Derived.Test.YtfpofhkggojaoaaMemR
set_option linter.unusedVariables false
set_option linter.unusedSimpArgs false
namespace Peg
structure Ent where
  n : Int
  rs : List Rs
def Ent0 : Ent := ⟨0, []⟩
end Peg
namespace Go.Proofs.Ytfpofhkggojaoaa
open Go.ChangeShapes Go.WideShapes Go.ChangeAt Go.RowKit
set_option maxRecDepth 100000
theorem Own.setLow {α : Type} {E : Elt α} {w : World} {base : Nat} {v : Value} {l : List α} (h : Own E w base v l) {a : Addr} (ha : a.block < base) (u : Value) : Own E (w.setCell a u) base v l :=
  h.keep_of fun k hk _ _ => Below.heap_setCell _ _ _ _ (fun e => by omega)
section
variable {H : Type} {enc : TypeId × Value → H} {W : World} {sp : Nat → Bool}
/-- a claim by value -/
structure ClaimP where
  kind : Int
  num : Int
  js : List Peg.Ln
  ws : List Int
def ClaimArg (W : World) (v : Value) (c : ClaimP) : Prop := ∃ vj vw, v = .agg #[.int .i64 c.kind, .int .i64 c.num, vj, vw] ∧ Rd ELine W vj c.js ∧ Rd EInt W vw c.ws
def ClaimWf (c : ClaimP) : Prop := (∀ y ∈ c.js, LnWf y) ∧ (∀ y ∈ c.ws, IntWf y) ∧ (Lit.int .i64 c.kind).wf = true ∧ (Lit.int .i64 c.num).wf = true
end
end Go.Proofs.Ytfpofhkggojaoaa
