/- A unit that lies in memory: what Fit, Check and Same make of it, in one form. What lies in the rows of a unit in memory, cell by cell. Printed by wip/gen_uin.py. -/
import Derived.Test.YtkpigkopjfkepaaGreatDoorPbFit
import Derived.Test.YtkpigkopjfkepaaGreatDoorPbSame
import Derived.Test.YtkpigkopjfkepaaGreatDoorPbIrCheck
import Derived.Test.YtkpigkopjfkepaaGreatDoorPbIrFit
import Derived.Test.YtkpigkopjfkepaaGreatDoorPbUnitMem
import Derived.Laws.ResultCell
namespace Go.Proofs.YtkpigkopjfkepaaGreatDoor
open Go.RowKit
open Go.Deep

theorem results_cellT {P : Program} {fn : Func} {p q : Tmp} {ty : TypeId} (h : fn.results = #[.cell p ty, .tmp q]) (tmps : Array Value) (w : World) (g : Nat) (t : TypeId) (cs : Array Value) (fr : Nat × Nat) (d : TypeDesc) (x : Value)
    (hp : tmps.getD p undef = .pointer (some ⟨g, 0, none⟩)) (hq : tmps.getD q undef = x) (hg : w.heap[g]? = some (.cells cs t fr))
    (hu : P.underlying ty = some d) (hd : (match d with | .struct _ | .array _ _ => true | _ => false) = true) (hi : (P.info? ty).map (·.size) = some cs.size) :
    (results fn tmps).run P w = .ok (.tuple #[.agg cs, x]) w := by
  rw [results_cell_tmp h, hp, hq]
  have ha : (asAddr (.pointer (some ⟨g, 0, none⟩))).run P w = .ok ⟨g, 0, none⟩ w := rfl
  rw [ha]
  show ((loadVar ty ⟨g, 0, none⟩).run P w).andThen _ = _
  rw [run_loadVar_row w g t ty cs fr d hg hu hd hi]; rfl

theorem hb_slr {α : Type} {w X : World} {sz : Nat} {R : List Value → α → Prop} {v : Value} {l : List α} (h : SlR w (· < w.heap.size) sz R v l) (hb : Below w.heap.size w X) : SlR X (· < X.heap.size) sz R v l :=
  h.imp (fun _ h => Nat.lt_of_lt_of_le h hb.size) (fun b h => hb.block b h) (fun _ _ _ r => r)
theorem hb_flows {w X : World} {v : Value} {l : List LFlow} (h : SlR w (· < w.heap.size) 4 (RFlow w (· < w.heap.size)) v l) (hb : Below w.heap.size w X) : SlR X (· < X.heap.size) 4 (RFlow X (· < X.heap.size)) v l :=
  h.imp (fun _ h => Nat.lt_of_lt_of_le h hb.size) (fun b h => hb.block b h) (fun _ _ _ r => r.imp (fun _ h => Nat.lt_of_lt_of_le h hb.size) (fun b h => hb.block b h))

structure UIn (u : LUnit) (X : World) (A1 A2 : Option Addr) (c1 c2 : Nat) : Prop where
  arr : SlR X (· < X.heap.size) 2 RArr (.slice A1 u.arrays.length c1) u.arrays
  flo : SlR X (· < X.heap.size) 4 (RFlow X (· < X.heap.size)) (.slice A2 u.flows.length c2) u.flows
section
variable {u v : LUnit} {X W : World} {A1 A2 B1 B2 : Option Addr} {c1 c2 d1 d2 : Nat}
theorem UIn.below (h : UIn u X A1 A2 c1 c2) (hb : Below X.heap.size X W) : UIn u W A1 A2 c1 c2 := ⟨hb_slr h.arr hb, hb_flows h.flo hb⟩
theorem check_u (hu : UnitOk u) (h : UIn u X A1 A2 c1 c2) : Calls Tryz.prog 11 #[.agg #[.slice A1 u.arrays.length c1, .slice A2 u.flows.length c2]] X fun e w' => e = .returned (.tuple #[.int .i64 0, .agg #[.int .i64 0, .int .i64 0]]) ∧ Below X.heap.size X w' :=
  check_ok u hu A1 A2 c1 c2 X h.arr h.flo
theorem same_u (h : UIn u X A1 A2 c1 c2) (h' : UIn u X B1 B2 d1 d2) : Calls Tryz.prog 13 #[.agg #[.slice A1 u.arrays.length c1, .slice A2 u.flows.length c2], .agg #[.slice B1 u.arrays.length d1, .slice B2 u.flows.length d2]] X fun e w' => e = .returned (.bool true) ∧ Below X.heap.size X w' := by
  have h := same_any u u A1 A2 B1 B2 c1 c2 d1 d2 X h.arr h.flo h'.arr h'.flo
  rw [show isSo (u = u) = true by unfold isSo; simp] at h
  exact h
end
/-! ### what lies in a unit's rows -/
end Go.Proofs.YtkpigkopjfkepaaGreatDoor
