/- The library's functions that are leaned on: their bodies are those that the shelf's contracts speak of. Printed by wip/gen_lays.py. -/
import Derived.Test.YtknccacfhknnaaaGreatRows
import Derived.Shelf.SlLaysE
import Derived.Shelf.SlLaysE0
namespace Go.Proofs.YtknccacfhknnaaaGreat
open Go.Shelf Go.Proofs

def Tryz.cloneS_ren : Go.Shelf.Ren := ⟨fun | 41 => 65 | n => n, fun | 22 => 55 | 23 => 9 | 4 => 4 | n => n, fun | n => n⟩
theorem Tryz.cloneS : Go.Proofs.SlLaysE0.n41 Tryz.prog Tryz.cloneS_ren := {
  mixed := by kernel_rfl,
  f41 := ⟨Tryz.f65.name, by decide, Tryz.func65.trans (congrArg some (by kernel_rfl))⟩,
  t4 := Tryz.underlying4,
  a4 := Tryz.isAgg4,
  z4 := Tryz.sizeOf4,
  v4 := Tryz.zeroValue4,
  t22 := Tryz.underlying55,
  a22 := Tryz.isAgg55,
  z22 := Tryz.sizeOf55,
  v22 := Tryz.zeroValue55 }

def Tryz.compactS_ren : Go.Shelf.Ren := ⟨fun | 43 => 64 | n => n, fun | 22 => 55 | 23 => 9 | 3 => 3 | 4 => 4 | 0 => 0 | n => n, fun | n => n⟩
theorem Tryz.compactS : Go.Proofs.SlLaysE.n43 Tryz.prog Tryz.compactS_ren := {
  mixed := by kernel_rfl,
  f43 := ⟨Tryz.f64.name, by decide, Tryz.func64.trans (congrArg some (by kernel_rfl))⟩,
  t0 := Tryz.underlying0,
  a0 := Tryz.isAgg0,
  z0 := Tryz.sizeOf0,
  v0 := Tryz.zeroValue0,
  t3 := Tryz.underlying3,
  a3 := Tryz.isAgg3,
  z3 := Tryz.sizeOf3,
  v3 := Tryz.zeroValue3,
  t4 := Tryz.underlying4,
  a4 := Tryz.isAgg4,
  z4 := Tryz.sizeOf4,
  v4 := Tryz.zeroValue4,
  t22 := Tryz.underlying55,
  a22 := Tryz.isAgg55,
  z22 := Tryz.sizeOf55,
  v22 := Tryz.zeroValue55,
  a23 := Tryz.isAgg9,
  z23 := Tryz.sizeOf9 }

end Go.Proofs.YtknccacfhknnaaaGreat
