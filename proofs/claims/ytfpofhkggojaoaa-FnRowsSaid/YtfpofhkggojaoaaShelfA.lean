/- ShelfA: the library contracts of the shelf, laid at this dump by the kit's own tool. No condition. -/
import Derived.Shelf.SlGeneric
import Derived.Ground.SlgnProg
import Derived.Shelf.SlicesE.Reverse
import Derived.Test.YtfpofhkggojaoaaProg
namespace Go.Proofs
open Go.Shelf
def Try.sl35_ren : Go.Shelf.Ren := ⟨fun | 35 => 144 | n => n, fun | 22 => 40 | 23 => 5 | 3 => 3 | 4 => 4 | 0 => 0 | n => n, fun | n => n⟩
theorem Try.sl35 : Go.Proofs.SlLaysE.n35 Try.prog Try.sl35_ren := {
  mixed := by kernel_rfl
  f35 := ⟨Try.f144.name, by decide, Try.func144.trans (congrArg some (by kernel_rfl))⟩
  t0 := Try.underlying0
  a0 := Try.isAgg0
  z0 := Try.sizeOf0
  v0 := Try.zeroValue0
  t3 := Try.underlying3
  a3 := Try.isAgg3
  z3 := Try.sizeOf3
  v3 := Try.zeroValue3
  t4 := Try.underlying4
  a4 := Try.isAgg4
  z4 := Try.sizeOf4
  v4 := Try.zeroValue4
  t22 := Try.underlying40
  a22 := Try.isAgg40
  z22 := Try.sizeOf40
  v22 := Try.zeroValue40
  a23 := Try.isAgg5
  z23 := Try.sizeOf5 }
end Go.Proofs
