/- The library's functions that are leaned on: their bodies are those that the shelf's contracts speak of. Printed by wip/gen_lays.py. -/
import Derived.Test.YtnpnhdmfdhnmfaaGreatDoorRows
import Derived.Shelf.SlLaysE
import Derived.Shelf.SlLaysE0
namespace Go.Proofs.YtnpnhdmfdhnmfaaGreatDoor
open Go.Shelf Go.Proofs

def Tryz.cloneS_ren : Go.Shelf.Ren := ⟨fun | 41 => 62 | n => n, fun | 22 => 38 | 23 => 9 | 4 => 4 | n => n, fun | n => n⟩
theorem Tryz.cloneS : Go.Proofs.SlLaysE0.n41 Tryz.prog Tryz.cloneS_ren := {
  mixed := by kernel_rfl,
  f41 := ⟨Tryz.f62.name, by decide, Tryz.func62.trans (congrArg some (by kernel_rfl))⟩,
  t4 := Tryz.underlying4,
  a4 := Tryz.isAgg4,
  z4 := Tryz.sizeOf4,
  v4 := Tryz.zeroValue4,
  t22 := Tryz.underlying38,
  a22 := Tryz.isAgg38,
  z22 := Tryz.sizeOf38,
  v22 := Tryz.zeroValue38 }

def Tryz.compactS_ren : Go.Shelf.Ren := ⟨fun | 43 => 61 | n => n, fun | 22 => 38 | 23 => 9 | 3 => 3 | 4 => 4 | 0 => 0 | n => n, fun | n => n⟩
theorem Tryz.compactS : Go.Proofs.SlLaysE.n43 Tryz.prog Tryz.compactS_ren := {
  mixed := by kernel_rfl,
  f43 := ⟨Tryz.f61.name, by decide, Tryz.func61.trans (congrArg some (by kernel_rfl))⟩,
  t0 := Tryz.underlying0,
  a0 := Tryz.isAgg0,
  z0 := Tryz.sizeOf0,
  v0 := Tryz.zeroValue0,
  t3 := Tryz.underlying3,
  a3 := Tryz.isAgg3,
  z3 := Tryz.sizeOf3,
  v3 := Tryz.zeroValue3,
  t4 := Tryz.underlying4,
  a4 := Tryz.isAgg4,
  z4 := Tryz.sizeOf4,
  v4 := Tryz.zeroValue4,
  t22 := Tryz.underlying38,
  a22 := Tryz.isAgg38,
  z22 := Tryz.sizeOf38,
  v22 := Tryz.zeroValue38,
  a23 := Tryz.isAgg9,
  z23 := Tryz.sizeOf9 }

end Go.Proofs.YtnpnhdmfdhnmfaaGreatDoor
