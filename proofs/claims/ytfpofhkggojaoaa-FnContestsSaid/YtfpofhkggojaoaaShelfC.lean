/- ShelfC: the library contracts of the shelf, laid at this dump by the kit's own tool. No condition. -/
import Derived.Ground.NamesProg
import Derived.Shelf.Small.Bits
import Derived.Test.YtfpofhkggojaoaaProg
namespace Go.Proofs
open Go.Shelf
def Try.sl125_ren : Go.Shelf.Ren := ⟨fun | 125 => 193 | 128 => 230 | 129 => 231 | n => n, fun | 46 => 165 | 3 => 3 | 51 => 179 | 53 => 181 | 4 => 4 | 5 => 5 | 9 => 9 | n => n, fun | n => n⟩
theorem Try.sl125 : Go.Proofs.Lays.n125 Try.prog Try.sl125_ren := {
  mixed := by kernel_rfl
  f125 := Try.func193.trans (congrArg some (by kernel_rfl))
  f128 := Try.func230.trans (congrArg some (by kernel_rfl))
  f129 := Try.func231.trans (congrArg some (by kernel_rfl))
  t3 := Try.underlying3
  a3 := Try.isAgg3
  z3 := Try.sizeOf3
  v3 := Try.zeroValue3
  t4 := Try.underlying4
  a4 := Try.isAgg4
  z4 := Try.sizeOf4
  v4 := Try.zeroValue4
  t5 := Try.underlying5
  a5 := Try.isAgg5
  z5 := Try.sizeOf5
  v5 := Try.zeroValue5
  t9 := Try.underlying9
  a9 := Try.isAgg9
  z9 := Try.sizeOf9
  v9 := Try.zeroValue9
  t46 := Try.underlying165
  a46 := Try.isAgg165
  z46 := Try.sizeOf165
  v46 := Try.zeroValue165
  t51 := Try.underlying179
  a51 := Try.isAgg179
  z51 := Try.sizeOf179
  v51 := Try.zeroValue179
  t53 := Try.underlying181
  a53 := Try.isAgg181
  z53 := Try.sizeOf181
  v53 := Try.zeroValue181 }
end Go.Proofs
