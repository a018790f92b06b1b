/- Num: contracts of the small functions on numbers, clocks, results, of package impl and of package spec. Each says: the call returns the value of the plain function named in it. No condition. -/
import Derived.Test.YtledmebhlmpjaaaPzA
set_option linter.unusedVariables false
set_option linter.unusedSimpArgs false
namespace Go.Proofs.Ytledmebhlmpjaaa
open Go.ChangeShapes Go.WideShapes Go.ChangeAt Go.RowKit Peg
theorem within_any (x a b : Int) (w : World) :
    Calls Try.prog 62 #[.int .i64 x, .int .i64 a, .int .i64 b] w fun e w' => e = .returned (.bool (inR x a b)) ∧ w = w' := by
  go_enter Try.func62, Try.ntmps62
  go_wp2
  all_goals go_ret
  all_goals exact ⟨by (first | (have : a ≤ x := by assumption) | (have : x < a := by assumption)) <;> simp [inR, *] <;> omega, rfl⟩
theorem within_r (x a b : Int) (w : World) {r : Bool} (h : inR x a b = r) :
    Calls Try.prog 62 #[.int .i64 x, .int .i64 a, .int .i64 b] w fun e w' => e = .returned (.bool r) ∧ w = w' := by
  rw [← h]; exact within_any x a b w
theorem l01In_any (x a b : Int) (w : World) :
    Calls Try.prog 58 #[.int .i64 x, .int .i64 a, .int .i64 b] w fun e w' => e = .returned (.bool (inR x a b)) ∧ w = w' := by
  go_enter Try.func58, Try.ntmps58
  go_wp2
  all_goals go_ret
  all_goals exact ⟨by (first | (have : a ≤ x := by assumption) | (have : x < a := by assumption)) <;> simp [inR, *] <;> omega, rfl⟩
theorem l01In_r (x a b : Int) (w : World) {r : Bool} (h : inR x a b = r) :
    Calls Try.prog 58 #[.int .i64 x, .int .i64 a, .int .i64 b] w fun e w' => e = .returned (.bool r) ∧ w = w' := by
  rw [← h]; exact l01In_any x a b w
end Go.Proofs.Ytledmebhlmpjaaa
