/- Num: contracts of the small functions on numbers, clocks, results, of package impl and of package spec. Each says: the call returns the value of the plain function named in it. No condition. -/
import Derived.Test.YtfmplmlilmalpaaGreatBase
import Derived.Test.YtfmplmlilmalpaaGreatNum0
set_option linter.unusedVariables false
set_option linter.unusedSimpArgs false
namespace Go.Proofs.YtfmplmlilmalpaaGreat
open Go.ChangeShapes Go.WideShapes Go.ChangeAt Go.RowKit Peg
theorem within_any (x a b : Int) (w : World) :
    Calls Tryz.prog 35 #[.int .i64 x, .int .i64 a, .int .i64 b] w fun e w' => e = .returned (.bool (inR x a b)) ∧ w = w' := by
  go_enter Tryz.func35, Tryz.ntmps35
  go_wp2
  all_goals go_ret
  all_goals exact ⟨by (first | (have : a ≤ x := by assumption) | (have : x < a := by assumption)) <;> simp [inR, *] <;> omega, rfl⟩
theorem within_r (x a b : Int) (w : World) {r : Bool} (h : inR x a b = r) :
    Calls Tryz.prog 35 #[.int .i64 x, .int .i64 a, .int .i64 b] w fun e w' => e = .returned (.bool r) ∧ w = w' := by
  rw [← h]; exact within_any x a b w
theorem l01In_any (x a b : Int) (w : World) :
    Calls Tryz.prog 63 #[.int .i64 x, .int .i64 a, .int .i64 b] w fun e w' => e = .returned (.bool (inR x a b)) ∧ w = w' := by
  go_enter Tryz.func63, Tryz.ntmps63
  go_wp2
  all_goals go_ret
  all_goals exact ⟨by (first | (have : a ≤ x := by assumption) | (have : x < a := by assumption)) <;> simp [inR, *] <;> omega, rfl⟩
theorem l01In_r (x a b : Int) (w : World) {r : Bool} (h : inR x a b = r) :
    Calls Tryz.prog 63 #[.int .i64 x, .int .i64 a, .int .i64 b] w fun e w' => e = .returned (.bool r) ∧ w = w' := by
  rw [← h]; exact l01In_any x a b w
end Go.Proofs.YtfmplmlilmalpaaGreat
