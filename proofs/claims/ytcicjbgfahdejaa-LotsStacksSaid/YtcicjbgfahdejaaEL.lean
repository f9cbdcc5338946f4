/- A contract of the library's sort, laid over this program in plain words. -/
import Derived.Shelf.Small.Bits
import Derived.Test.YtcicjbgfahdejaaProg
namespace Go.Proofs
open Go.Shelf
set_option linter.unusedSimpArgs false
set_option linter.unusedVariables false
def Try.leadZ_ren : Go.Shelf.Ren := ⟨fun | 134 => 99 | 129 => 111 | n => n, fun | 53 => 60 | 3 => 3 | 4 => 4 | 46 => 100 | 5 => 5 | 9 => 9 | n => n, fun | n => n⟩
theorem Try.leadZ : Lays.n134 Try.prog Try.leadZ_ren := {
  mixed := by kernel_rfl,
  f129 := Try.func111.trans (congrArg some (by kernel_rfl)),
  f134 := Try.func99.trans (congrArg some (by kernel_rfl)),
  t3 := Try.underlying3,
  a3 := Try.isAgg3,
  z3 := Try.sizeOf3,
  v3 := Try.zeroValue3,
  t4 := Try.underlying4,
  a4 := Try.isAgg4,
  z4 := Try.sizeOf4,
  v4 := Try.zeroValue4,
  t5 := Try.underlying5,
  a5 := Try.isAgg5,
  z5 := Try.sizeOf5,
  v5 := Try.zeroValue5,
  t9 := Try.underlying9,
  a9 := Try.isAgg9,
  z9 := Try.sizeOf9,
  v9 := Try.zeroValue9,
  t46 := Try.underlying100,
  a46 := Try.isAgg100,
  z46 := Try.sizeOf100,
  v46 := Try.zeroValue100,
  t53 := Try.underlying60,
  a53 := Try.isAgg60,
  z53 := Try.sizeOf60,
  v53 := Try.zeroValue60 }
end Go.Proofs
