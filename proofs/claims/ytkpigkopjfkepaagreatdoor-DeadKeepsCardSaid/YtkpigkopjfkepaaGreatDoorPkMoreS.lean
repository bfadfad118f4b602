/- irrun.Run as a plain function over units: a run's state, what a step makes of it, and what a run with more steps, or with more to read, has to do with another one. How a run of irrun lies in memory. What irrun's small functions do: end, top, read. What irrun's pop does. What irrun's term does. The units that Fit makes may be, for ir.Check. What a run has to do with one of more steps, and with one that has more to read. A run of a unit that lies in memory: what is kept of its result. A unit whose functions' blocks and values are numbered anew runs as it did. What stands in blocks that are not come to makes no difference for a run. A unit without idle instructions does what it did, in as many steps, or fewer. A value that is not wanted at a block's beginning may be anything there. A unit whose blocks and values are turned may be, and runs as it did. -/
import Derived.Test.YtkpigkopjfkepaaGreatDoorPkMem
import Derived.Test.YtkpigkopjfkepaaGreatDoorPkArPW
import Derived.Test.YtkpigkopjfkepaaGreatDoorPkIrCheck
import Derived.Deep.QuietTactic
import Derived.BigQuiet
import Derived.StillTailTactics
import Derived.Test.YtkpigkopjfkepaaGreatDoorPkIrFit
import Derived.Test.YtkpigkopjfkepaaGreatDoorPkFlowSm
import Derived.Maps.OwnSet
import Derived.Maps.Views
import Derived.Test.YtkpigkopjfkepaaGreatDoorPkRegion
import Derived.Deep.RegionHeld3
import Derived.Deep.AppendLies
import Derived.Deep.OwnRows
import Derived.Laws.CopyOwn
import Derived.Deep.LoopGhost
import Derived.Test.YtkpigkopjfkepaaGreatDoorPkFitMem
import Derived.Test.YtkpigkopjfkepaaGreatDoorPkFit
import Derived.Test.YtkpigkopjfkepaaGreatDoorPkFlowVisit
import Derived.Test.YtkpigkopjfkepaaGreatDoorPkSetsA
namespace Go.Proofs.YtkpigkopjfkepaaGreatDoor

structure MCall where
  flow : LFlow
  values : List Int
  block : Int
  at_ : Int
  into : Int
/-- the calls: the one that goes on last is the first one -/
structure MRun where
  arrays : List (ByteArray × List Int)
  inp : List Int
  calls : List MCall
  status : Int
  code : Int
  out : List Int
  steps : Int
/-! ### what a step does to the steps and to what was told -/
/-! ### what is read -/
end Go.Proofs.YtkpigkopjfkepaaGreatDoor

namespace Go.Proofs.YtkpigkopjfkepaaGreatDoor
open Go.RowKit

end Go.Proofs.YtkpigkopjfkepaaGreatDoor

namespace Go.Proofs.YtkpigkopjfkepaaGreatDoor
open Go.RowKit

end Go.Proofs.YtkpigkopjfkepaaGreatDoor

namespace Go.Proofs.YtkpigkopjfkepaaGreatDoor
open Go.RowKit

end Go.Proofs.YtkpigkopjfkepaaGreatDoor

namespace Go.Proofs.YtkpigkopjfkepaaGreatDoor
open Go.RowKit

end Go.Proofs.YtkpigkopjfkepaaGreatDoor

namespace Go.Proofs.YtkpigkopjfkepaaGreatDoor

/-! ### a run that goes on has no code -/
end Go.Proofs.YtkpigkopjfkepaaGreatDoor

namespace Go.Proofs.YtkpigkopjfkepaaGreatDoor
open Go.RowKit

end Go.Proofs.YtkpigkopjfkepaaGreatDoor

namespace Go.Proofs.YtkpigkopjfkepaaGreatDoor

/-- how a function's blocks and values are numbered anew: f' is f so; R: the blocks that count, closed under what they lead to -/
structure Renum where
  R : Int → Prop
  bl : Int → Int
  va : Int → Int
def renIns (r : Renum) (x : LIns) : LIns :=
  { x with d := if hasD x.kind = true then r.va x.d else x.d, a := if hasA x.kind = true then r.va x.a else x.a, b := if hasB x.kind = true then r.va x.b else x.b, args := x.args.map r.va }
def renTerm (r : Renum) (t : LTerm) : LTerm :=
  ⟨t.kind, if t.kind = 1 then t.a else r.va t.a, if t.kind = 1 ∨ t.kind = 2 then r.bl t.to else t.to, if t.kind = 2 then r.bl t.els else t.els⟩
def renBlock (r : Renum) (b : LBlock) : LBlock := ⟨b.ins.map (renIns r), renTerm r b.term⟩
section
variable {u : LUnit} {g : LFlow → LFlow} {r : LFlow → Renum}
theorem getD_set_ne {l : List Int} {i j : Nat} {v : Int} (h : i ≠ j) : (l.set i v).getD j 0 = l.getD j 0 := by simp [List.getD, List.getElem?_set_ne h]
end
end Go.Proofs.YtkpigkopjfkepaaGreatDoor

namespace Go.Proofs.YtkpigkopjfkepaaGreatDoor

/-! ### one function made anew -/
/-! ### blocks that are not come to -/
theorem nextL_to {t : LTerm} (h : t.kind = 1 ∨ t.kind = 2) : t.to ∈ nextL t := by
  unfold nextL
  by_cases e : t.kind = 2 ∧ t.to ≠ t.els
  · rw [if_pos e]; simp
  · rw [if_neg e, if_pos (by omega)]; simp
theorem nextL_els {t : LTerm} (h : t.kind = 2) : t.els ∈ nextL t := by
  unfold nextL
  by_cases e : t.kind = 2 ∧ t.to ≠ t.els
  · rw [if_pos e]; simp
  · rw [if_neg e, if_pos (by omega)]
    have : t.to = t.els := by
      by_cases e2 : t.to = t.els
      · exact e2
      · exact absurd ⟨h, e2⟩ e
    simp [this]
end Go.Proofs.YtkpigkopjfkepaaGreatDoor

namespace Go.Proofs.YtkpigkopjfkepaaGreatDoor

/-- an instruction that may be left out where W is wanted behind it -/
def IdleL (W : Int → Bool) (x : LIns) : Prop := (x.kind = 2 ∧ x.a = x.d) ∨ ((x.kind = 1 ∨ x.kind = 2 ∨ x.kind = 3 ∨ (x.kind = 4 ∧ x.op ≠ 4 ∧ x.op ≠ 5)) ∧ W x.d = false)
/-- the second row is the first one without idle instructions; S is wanted behind both -/
inductive Thin (S : Int → Bool) : List LIns → List LIns → Prop
  | nil : Thin S [] []
  | keep (x : LIns) (l l' : List LIns) : Thin S l l' → Thin S (x :: l) (x :: l')
  | drop (x : LIns) (l l' : List LIns) : IdleL (stepsS l S) x → Thin S l l' → Thin S (x :: l) l'
section
variable {d : Nat} {u u' : LUnit} {g : LFlow → LFlow} {L : LFlow → Nat → Int → Bool}
end
end Go.Proofs.YtkpigkopjfkepaaGreatDoor

namespace Go.Proofs.YtkpigkopjfkepaaGreatDoor

end Go.Proofs.YtkpigkopjfkepaaGreatDoor

namespace Go.Proofs.YtkpigkopjfkepaaGreatDoor

section
variable {n p by_ t : Nat}
end
end Go.Proofs.YtkpigkopjfkepaaGreatDoor
