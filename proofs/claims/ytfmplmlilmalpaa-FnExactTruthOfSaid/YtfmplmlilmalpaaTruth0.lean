/- Truth0: what TruthOf answers, plain; no program in sight. No condition. -/
import Derived.Test.YtfmplmlilmalpaaFewest0
import Derived.Test.YtfmplmlilmalpaaClaimL
set_option linter.unusedVariables false
set_option linter.unusedSimpArgs false
namespace Peg
def truthBody (a b o s g : Int) (k n : Int) : Bool :=
  if k = 1 then reach a b o s g false
  else if k = 2 then !reach a b o s g false
  else if k = 3 then decide (fewestLeft a b o s ≤ n)
  else decide (0 ≤ fewestSweeps a b o s g) && decide (fewestSweeps a b o s g ≤ n)
def truthOf (a b o s g : Int) (k n : Int) (j : Nat) : Bool := puzzleOk a b o s g && (claimOk k n j && truthBody a b o s g k n)
end Peg
