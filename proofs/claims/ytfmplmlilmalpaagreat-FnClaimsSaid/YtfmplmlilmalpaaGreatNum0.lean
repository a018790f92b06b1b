/- Num0: plain predicates on numbers; no program in sight. No condition. -/
import Derived.WalkKit
set_option linter.unusedVariables false
set_option linter.unusedSimpArgs false
namespace Peg
def inR (x a b : Int) : Bool := decide (a ≤ x) && decide (x ≤ b)
def clockOk (l b m : Int) : Bool := inR l 0 100000 && inR b 0 600 && inR m 0 1000
def resultOk (l s t : Int) : Bool := inR l 1 49 && inR s 0 60 && inR t 0 100000
theorem inR_iff {x a b : Int} : inR x a b = true ↔ a ≤ x ∧ x ≤ b := by simp [inR]
end Peg
