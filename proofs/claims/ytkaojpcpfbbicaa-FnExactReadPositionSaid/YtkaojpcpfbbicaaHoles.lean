/- Holes: contracts of hasBit, HolesOf. Conditions: numbers that are not negative. -/
import Derived.Test.YtkaojpcpfbbicaaMem
import Derived.Test.YtkaojpcpfbbicaaBoard
set_option linter.unusedVariables false
set_option linter.unusedSimpArgs false
namespace Peg
def holesOf (a b o : Int) : List Int := if boardOk a b o = true then holesTo o (a * b).toNat else []
end Peg
namespace Go.Proofs.Ytkaojpcpfbbicaa
open Go.ChangeShapes Go.WideShapes Go.ChangeAt Go.RowKit Peg Go.Sort
theorem hasBit_any (p k : Int) (hp : 0 ≤ p) (hp2 : p ≤ 9223372036854775807) (hk : 0 ≤ k) (w : World) :
    Calls Try.prog 38 #[.int .i64 p, .int .i64 k] w fun e w' => e = .returned (.bool (tb p k)) ∧ w = w' := by
  go_enter Try.func38, Try.ntmps38
  go_wp2
  go_ret
  exact ⟨by rw [← bit_test hp hp2]; rfl, rfl⟩
theorem hasBit_r (p k : Int) (hp : 0 ≤ p) (hp2 : p ≤ 9223372036854775807) (hk : 0 ≤ k) (w : World) {r : Bool} (h : tb p k = r) :
    Calls Try.prog 38 #[.int .i64 p, .int .i64 k] w fun e w' => e = .returned (.bool r) ∧ w = w' := by
  rw [← h]; exact hasBit_any p k hp hp2 hk w
end Go.Proofs.Ytkaojpcpfbbicaa
