/- ShelfC: the library contracts of the shelf, laid at this dump by the kit's own tool. No condition. -/
import Derived.Ground.NamesProg
import Derived.Shelf.Small.Bits
import Derived.Test.YtikmacjeeaklmaaProg
namespace Go.Proofs
open Go.Shelf
def Try.sl125_ren : Go.Shelf.Ren := ⟨fun | 125 => 157 | 128 => 193 | 129 => 194 | n => n, fun | 46 => 135 | 3 => 3 | 51 => 156 | 53 => 158 | 4 => 4 | 5 => 5 | 9 => 9 | n => n, fun | n => n⟩
theorem Try.sl125 : Go.Proofs.Lays.n125 Try.prog Try.sl125_ren := {
  mixed := by kernel_rfl
  f125 := Try.func157.trans (congrArg some (by kernel_rfl))
  f128 := Try.func193.trans (congrArg some (by kernel_rfl))
  f129 := Try.func194.trans (congrArg some (by kernel_rfl))
  t3 := Try.underlying3
  a3 := Try.isAgg3
  z3 := Try.sizeOf3
  v3 := Try.zeroValue3
  t4 := Try.underlying4
  a4 := Try.isAgg4
  z4 := Try.sizeOf4
  v4 := Try.zeroValue4
  t5 := Try.underlying5
  a5 := Try.isAgg5
  z5 := Try.sizeOf5
  v5 := Try.zeroValue5
  t9 := Try.underlying9
  a9 := Try.isAgg9
  z9 := Try.sizeOf9
  v9 := Try.zeroValue9
  t46 := Try.underlying135
  a46 := Try.isAgg135
  z46 := Try.sizeOf135
  v46 := Try.zeroValue135
  t51 := Try.underlying156
  a51 := Try.isAgg156
  z51 := Try.sizeOf156
  v51 := Try.zeroValue156
  t53 := Try.underlying158
  a53 := Try.isAgg158
  z53 := Try.sizeOf158
  v53 := Try.zeroValue158 }
end Go.Proofs
