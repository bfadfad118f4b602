/- The library's functions that are leaned on: their bodies are those that the shelf's contracts speak of. Printed by wip/gen_lays.py. -/
import Derived.Test.YtknccacfhknnaaaRows
import Derived.Shelf.SlLaysE
import Derived.Shelf.SlLaysE0
namespace Go.Proofs.Ytknccacfhknnaaa
open Go.Shelf Go.Proofs

def Try.cloneS_ren : Go.Shelf.Ren := ⟨fun | 41 => 99 | n => n, fun | 22 => 61 | 23 => 9 | 4 => 4 | n => n, fun | n => n⟩
theorem Try.cloneS : Go.Proofs.SlLaysE0.n41 Try.prog Try.cloneS_ren := {
  mixed := by kernel_rfl,
  f41 := ⟨Try.f99.name, by decide, Try.func99.trans (congrArg some (by kernel_rfl))⟩,
  t4 := Try.underlying4,
  a4 := Try.isAgg4,
  z4 := Try.sizeOf4,
  v4 := Try.zeroValue4,
  t22 := Try.underlying61,
  a22 := Try.isAgg61,
  z22 := Try.sizeOf61,
  v22 := Try.zeroValue61 }

def Try.compactS_ren : Go.Shelf.Ren := ⟨fun | 43 => 98 | n => n, fun | 22 => 61 | 23 => 9 | 3 => 3 | 4 => 4 | 0 => 0 | n => n, fun | n => n⟩
theorem Try.compactS : Go.Proofs.SlLaysE.n43 Try.prog Try.compactS_ren := {
  mixed := by kernel_rfl,
  f43 := ⟨Try.f98.name, by decide, Try.func98.trans (congrArg some (by kernel_rfl))⟩,
  t0 := Try.underlying0,
  a0 := Try.isAgg0,
  z0 := Try.sizeOf0,
  v0 := Try.zeroValue0,
  t3 := Try.underlying3,
  a3 := Try.isAgg3,
  z3 := Try.sizeOf3,
  v3 := Try.zeroValue3,
  t4 := Try.underlying4,
  a4 := Try.isAgg4,
  z4 := Try.sizeOf4,
  v4 := Try.zeroValue4,
  t22 := Try.underlying61,
  a22 := Try.isAgg61,
  z22 := Try.sizeOf61,
  v22 := Try.zeroValue61,
  a23 := Try.isAgg9,
  z23 := Try.sizeOf9 }

end Go.Proofs.Ytknccacfhknnaaa
