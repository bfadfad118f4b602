/- Dead of what Dead made is itself; it is no greater than it was: the walk of 'DeadAgainSaid'. Printed by wip/gen_deadagain.py. -/
import Derived.Test.YtkpigkopjfkepaaGreatDoorPbAw15
import Derived.Test.YtkpigkopjfkepaaGreatDoorPbArgs
import Derived.Test.YtkpigkopjfkepaaGreatDoorPbRegion
namespace Go.Proofs.YtkpigkopjfkepaaGreatDoor
open Go.RowKit

theorem small_fit (raw : List LBlock) : SmallU (fitU raw) := fun f hf => by
  obtain ⟨k, _, rfl⟩ := mem_fit hf
  exact ⟨by have := fit_le raw k; omega, fun b hb => by have := fit_ins raw k b hb; omega⟩
end Go.Proofs.YtkpigkopjfkepaaGreatDoor
