/- A contract of the library's sort, laid over this program in plain words. -/
import Derived.Shelf.SlSortCmp.Insertion
import Derived.Test.YtcicjbgfahdejaaProg
namespace Go.Proofs
open Go.Shelf
set_option linter.unusedSimpArgs false
set_option linter.unusedVariables false
def Try.insInts_ren : Go.Shelf.Ren := ⟨fun | 20 => 112 | n => n, fun | 24 => 3 | 22 => 23 | 3 => 3 | 25 => 27 | 4 => 4 | 0 => 0 | n => n, fun | n => n⟩
theorem Try.insInts : SlLaysF.n20 Try.prog Try.insInts_ren := {
  mixed := by kernel_rfl,
  f20 := ⟨Try.f112.name, by decide, Try.func112.trans (congrArg some (by kernel_rfl))⟩,
  t0 := Try.underlying0,
  a0 := Try.isAgg0,
  z0 := Try.sizeOf0,
  v0 := Try.zeroValue0,
  t3 := Try.underlying3,
  a3 := Try.isAgg3,
  z3 := Try.sizeOf3,
  v3 := Try.zeroValue3,
  t4 := Try.underlying4,
  a4 := Try.isAgg4,
  z4 := Try.sizeOf4,
  v4 := Try.zeroValue4,
  t22 := Try.underlying23,
  a22 := Try.isAgg23,
  z22 := Try.sizeOf23,
  v22 := Try.zeroValue23,
  a24 := Try.isAgg3,
  z24 := Try.sizeOf3,
  t25 := Try.underlying27,
  a25 := Try.isAgg27,
  z25 := Try.sizeOf27,
  v25 := Try.zeroValue27 }
end Go.Proofs
