/- irrun.Run as a plain function over units: a run's state, what a step makes of it, and what a run with more steps, or with more to read, has to do with another one. How a run of irrun lies in memory. What irrun's small functions do: end, top, read. What irrun's pop does. What irrun's term does. The units that Fit makes may be, for ir.Check. What a run has to do with one of more steps, and with one that has more to read. A run of a unit that lies in memory: what is kept of its result. A unit whose functions' blocks and values are numbered anew runs as it did. What stands in blocks that are not come to makes no difference for a run. A unit without idle instructions does what it did, in as many steps, or fewer. A value that is not wanted at a block's beginning may be anything there. A unit whose blocks and values are turned may be, and runs as it did. -/
import Derived.Test.YtkpigkopjfkepaaGreatDoorPbMem
import Derived.Test.YtkpigkopjfkepaaGreatDoorPbArPW
import Derived.Test.YtkpigkopjfkepaaGreatDoorPbIrCheck
import Derived.Deep.QuietTactic
import Derived.BigQuiet
import Derived.StillTailTactics
import Derived.Test.YtkpigkopjfkepaaGreatDoorPbIrFit
import Derived.Test.YtkpigkopjfkepaaGreatDoorPbFlowSm
import Derived.Maps.OwnSet
import Derived.Maps.Views
import Derived.Test.YtkpigkopjfkepaaGreatDoorPbRegion
import Derived.Deep.RegionHeld3
import Derived.Deep.AppendLies
import Derived.Deep.OwnRows
import Derived.Laws.CopyOwn
import Derived.Deep.LoopGhost
import Derived.Test.YtkpigkopjfkepaaGreatDoorPbFitMem
import Derived.Test.YtkpigkopjfkepaaGreatDoorPbFit
import Derived.Test.YtkpigkopjfkepaaGreatDoorPbFlowVisit
import Derived.Test.YtkpigkopjfkepaaGreatDoorPbSetsA
namespace Go.Proofs.YtkpigkopjfkepaaGreatDoor

structure MCall where
  flow : LFlow
  values : List Int
  block : Int
  at_ : Int
  into : Int
/-- the calls: the one that goes on last is the first one -/
structure MRun where
  arrays : List (ByteArray × List Int)
  inp : List Int
  calls : List MCall
  status : Int
  code : Int
  out : List Int
  steps : Int
/-! ### what a step does to the steps and to what was told -/
/-! ### what is read -/
end Go.Proofs.YtkpigkopjfkepaaGreatDoor

namespace Go.Proofs.YtkpigkopjfkepaaGreatDoor
open Go.RowKit

end Go.Proofs.YtkpigkopjfkepaaGreatDoor

namespace Go.Proofs.YtkpigkopjfkepaaGreatDoor
open Go.RowKit

end Go.Proofs.YtkpigkopjfkepaaGreatDoor

namespace Go.Proofs.YtkpigkopjfkepaaGreatDoor
open Go.RowKit

end Go.Proofs.YtkpigkopjfkepaaGreatDoor

namespace Go.Proofs.YtkpigkopjfkepaaGreatDoor
open Go.RowKit

end Go.Proofs.YtkpigkopjfkepaaGreatDoor

namespace Go.Proofs.YtkpigkopjfkepaaGreatDoor

/-! ### a run that goes on has no code -/
end Go.Proofs.YtkpigkopjfkepaaGreatDoor

namespace Go.Proofs.YtkpigkopjfkepaaGreatDoor
open Go.RowKit

end Go.Proofs.YtkpigkopjfkepaaGreatDoor

namespace Go.Proofs.YtkpigkopjfkepaaGreatDoor

/-- how a function's blocks and values are numbered anew: f' is f so; R: the blocks that count, closed under what they lead to -/
structure Renum where
  R : Int → Prop
  bl : Int → Int
  va : Int → Int
def renIns (r : Renum) (x : LIns) : LIns :=
  { x with d := if hasD x.kind = true then r.va x.d else x.d, a := if hasA x.kind = true then r.va x.a else x.a, b := if hasB x.kind = true then r.va x.b else x.b, args := x.args.map r.va }
def renTerm (r : Renum) (t : LTerm) : LTerm :=
  ⟨t.kind, if t.kind = 1 then t.a else r.va t.a, if t.kind = 1 ∨ t.kind = 2 then r.bl t.to else t.to, if t.kind = 2 then r.bl t.els else t.els⟩
def renBlock (r : Renum) (b : LBlock) : LBlock := ⟨b.ins.map (renIns r), renTerm r b.term⟩
section
variable {u : LUnit} {g : LFlow → LFlow} {r : LFlow → Renum}
theorem getD_set_ne {l : List Int} {i j : Nat} {v : Int} (h : i ≠ j) : (l.set i v).getD j 0 = l.getD j 0 := by simp [List.getD, List.getElem?_set_ne h]
end
end Go.Proofs.YtkpigkopjfkepaaGreatDoor

namespace Go.Proofs.YtkpigkopjfkepaaGreatDoor

/-! ### one function made anew -/
def swapF (f f' h : LFlow) : LFlow := if h.name = f.name then f' else h
theorem swap_set {f f' : LFlow} : ∀ {l : List LFlow} {k : Nat}, l[k]? = some f → (l.map (·.name)).Nodup → l.map (swapF f f') = l.set k f'
  | [], k, h, _ => by simp at h
  | a :: l, 0, h, hn => by
    have e : a = f := by simpa using h
    subst e
    rw [List.map_cons, List.nodup_cons] at hn
    rw [List.map_cons, List.set_cons_zero]
    have e1 : swapF a f' a = f' := if_pos rfl
    rw [e1]
    congr 1
    conv => rhs; rw [← List.map_id l]
    refine List.map_congr_left fun b hb => ?_
    exact if_neg fun e => hn.1 (List.mem_map.2 ⟨b, hb, e⟩)
  | a :: l, k + 1, h, hn => by
    rw [List.map_cons, List.nodup_cons] at hn
    have hk : l[k]? = some f := by simpa using h
    rw [List.map_cons, List.set_cons_succ, swap_set (l := l) hk hn.2]
    have e1 : swapF f f' a = a := if_neg fun e => hn.1 (List.mem_map.2 ⟨f, List.mem_of_getElem? hk, e.symm⟩)
    rw [e1]
/-! ### blocks that are not come to -/
theorem nextL_to {t : LTerm} (h : t.kind = 1 ∨ t.kind = 2) : t.to ∈ nextL t := by
  unfold nextL
  by_cases e : t.kind = 2 ∧ t.to ≠ t.els
  · rw [if_pos e]; simp
  · rw [if_neg e, if_pos (by omega)]; simp
theorem nextL_els {t : LTerm} (h : t.kind = 2) : t.els ∈ nextL t := by
  unfold nextL
  by_cases e : t.kind = 2 ∧ t.to ≠ t.els
  · rw [if_pos e]; simp
  · rw [if_neg e, if_pos (by omega)]
    have : t.to = t.els := by
      by_cases e2 : t.to = t.els
      · exact e2
      · exact absurd ⟨h, e2⟩ e
    simp [this]
/-- the unit that FlowReach makes: it may be, and runs alike -/
theorem fit_names_nodup (raw : List LBlock) : ((fitU raw).flows.map (·.name)).Nodup := by
  have h := (unit_fit raw).nodup
  unfold allNames at h
  exact (List.nodup_append.1 h).2.1
end Go.Proofs.YtkpigkopjfkepaaGreatDoor

namespace Go.Proofs.YtkpigkopjfkepaaGreatDoor

/-- an instruction that may be left out where W is wanted behind it -/
def IdleL (W : Int → Bool) (x : LIns) : Prop := (x.kind = 2 ∧ x.a = x.d) ∨ ((x.kind = 1 ∨ x.kind = 2 ∨ x.kind = 3 ∨ (x.kind = 4 ∧ x.op ≠ 4 ∧ x.op ≠ 5)) ∧ W x.d = false)
/-- the second row is the first one without idle instructions; S is wanted behind both -/
inductive Thin (S : Int → Bool) : List LIns → List LIns → Prop
  | nil : Thin S [] []
  | keep (x : LIns) (l l' : List LIns) : Thin S l l' → Thin S (x :: l) (x :: l')
  | drop (x : LIns) (l l' : List LIns) : IdleL (stepsS l S) x → Thin S l l' → Thin S (x :: l) l'
theorem Thin.refl (S : Int → Bool) : ∀ l : List LIns, Thin S l l
  | [] => .nil
  | x :: l => .keep x l l (Thin.refl S l)
theorem Thin.le {S : Int → Bool} {l l' : List LIns} (h : Thin S l l') : l'.length ≤ l.length := by
  induction h with
  | nil => exact Nat.le_refl _
  | keep x l l' _ ih => simp only [List.length_cons]; omega
  | drop x l l' _ _ ih => simp only [List.length_cons]; omega
section
variable {d : Nat} {u u' : LUnit} {g : LFlow → LFlow} {L : LFlow → Nat → Int → Bool}
end
end Go.Proofs.YtkpigkopjfkepaaGreatDoor

namespace Go.Proofs.YtkpigkopjfkepaaGreatDoor

theorem fit_at {raw : List LBlock} {k : Nat} (hk : k < 3) : (fitU raw).flows[k]? = some (fitFl raw k) := by
  rw [fitU_flows]; rcases (by omega : k = 0 ∨ k = 1 ∨ k = 2) with rfl | rfl | rfl <;> rfl
theorem fit_uniq {raw : List LBlock} {k : Nat} (hk : k < 3) : ∀ h ∈ (fitU raw).flows, h.name = (fitFl raw k).name → h = fitFl raw k := fun h hh e => by
  have hf := fit_at (raw := raw) hk
  obtain ⟨j, hj, rfl⟩ := List.getElem_of_mem hh
  have hnd := fit_names_nodup raw
  have hkl : k < (fitU raw).flows.length := (List.getElem?_eq_some_iff.1 hf).1
  have e2 : ((fitU raw).flows.map (·.name))[j]'(by simpa using hj) = ((fitU raw).flows.map (·.name))[k]'(by simpa using hkl) := by
    rw [List.getElem_map, List.getElem_map, e, (List.getElem?_eq_some_iff.1 hf).2]
  have e3 : j = k := (List.getElem_inj hnd).1 e2
  subst e3
  exact (List.getElem?_eq_some_iff.1 hf).2
/-- one of the three functions made anew: the unit may be -/
theorem fit_swap (raw : List LBlock) {k : Nat} (hk : k < 3) {f' : LFlow} (hname : f'.name = (fitFl raw k).name) (hpar : f'.params = (fitFl raw k).params) (hnum : flowBad f' = false) (hlen : ∀ b ∈ f'.blocks, b.ins.length ≤ 1000) (hblk : ∀ b ∈ f'.blocks, blockBad (fitU raw) f' b = false) :
    UnitOk (mapU (swapF (fitFl raw k) f') (fitU raw)) ∧ (mapU (swapF (fitFl raw k) f') (fitU raw)).flows = (fitU raw).flows.set k f' := by
  have hok := unit_fit raw
  have key : ∀ f ∈ (fitU raw).flows, swapF (fitFl raw k) f' f = f ∨ (f = fitFl raw k ∧ swapF (fitFl raw k) f' f = f') := fun f hf => by
    by_cases e : f.name = (fitFl raw k).name
    · exact .inr ⟨fit_uniq hk f hf e, if_pos e⟩
    · exact .inl (if_neg e)
  refine ⟨unit_map hok (fun f hf => ?_) (fun f hf => ?_) (fun f hf => ?_) (fun f hf => ?_) fun f hf => ?_, swap_set (l := (fitU raw).flows) (fit_at hk) (fit_names_nodup raw)⟩
  · rcases key f hf with e | ⟨e, e2⟩
    · rw [e]
    · rw [e2, e]; exact hname
  · rcases key f hf with e | ⟨e, e2⟩
    · rw [e]
    · rw [e2, e]; exact hpar
  · rcases key f hf with e | ⟨e, e2⟩
    · rw [e]; exact hok.nums f hf
    · rw [e2]; exact hnum
  · rcases key f hf with e | ⟨e, e2⟩
    · rw [e]; exact hok.lens f hf
    · rw [e2]; exact hlen
  · rcases key f hf with e | ⟨e, e2⟩
    · rw [e]; intro b hb; have := hok.blocks f hf; rw [List.any_eq_false] at this; simpa using this b hb
    · rw [e2]; exact hblk
end Go.Proofs.YtkpigkopjfkepaaGreatDoor

namespace Go.Proofs.YtkpigkopjfkepaaGreatDoor

section
variable {n p by_ t : Nat}
end
end Go.Proofs.YtkpigkopjfkepaaGreatDoor
