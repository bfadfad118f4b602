/- Are two units the same: counterproofref10.Same tells just that. Printed by wip/gen_same.py. -/
import Derived.Test.YtkpigkopjfkepaaGreatDoorPkFlowSm
import Derived.Test.YtkpigkopjfkepaaGreatDoorPkIrNamed
import Derived.Test.YtkpigkopjfkepaaGreatDoorPkRegion
import Derived.Deep.QuietTactic
import Derived.BigQuiet
import Derived.Laws.StructEq
namespace Go.Proofs.YtkpigkopjfkepaaGreatDoor
open Go.RowKit

section
set_option maxHeartbeats 4000000
set_option maxRecDepth 100000
theorem slr_at {α : Type} {w w' : World} {sz : Nat} {R : World → (Nat → Prop) → List Value → α → Prop} {v : Value} {l : List α} (hm : MonoR R) (h : SlR w (· < w.heap.size) sz (R w (· < w.heap.size)) v l) (hb : Below w.heap.size w w') : SlR w' (· < w'.heap.size) sz (R w' (· < w'.heap.size)) v l :=
  h.imp (fun _ g => Nat.lt_of_lt_of_le g hb.size) (fun b g => hb.block b g) (fun _ _ _ r => hm _ _ _ _ _ _ r (fun _ g => Nat.lt_of_lt_of_le g hb.size) (fun b g => hb.block b g))
end
end Go.Proofs.YtkpigkopjfkepaaGreatDoor
