/- ir.Check as a plain function over units: what an instruction, an end, a block, a function and a unit want, to be one that may be. -/
import Derived.Test.YtnpnhdmfdhnmfaaGreatDoorFlowUses
namespace Go.Proofs.YtnpnhdmfdhnmfaaGreatDoor
open Go.RowKit

def findI {α : Type} (p : α → Bool) (l : List α) : Int := if l.any p = true then (l.findIdx p : Int) else -1
theorem findI_any {α : Type} (p : α → Bool) (l : List α) : decide (0 ≤ findI p l) = l.any p := by
  unfold findI
  by_cases h : l.any p = true
  · rw [if_pos h, h]; simp
  · rw [if_neg h]; simp at h ⊢; simpa using h
theorem findI_lt {α : Type} {p : α → Bool} {l : List α} (h : l.any p = true) : 0 ≤ findI p l ∧ (findI p l).toNat < l.length ∧ findI p l = (l.findIdx p : Int) := by
  unfold findI
  rw [if_pos h]
  have : l.findIdx p < l.length := List.findIdx_lt_length.2 (List.any_eq_true.1 h)
  exact ⟨by omega, by simpa using this, rfl⟩
theorem findI_none {α : Type} {p : α → Bool} {l : List α} (h : l.any p = false) : findI p l = -1 := by
  unfold findI
  rw [if_neg (by rw [h]; decide)]

/-- has a kind what a mask says? -/
def hbit (k m : Int) : Bool := bits .and .i64 (havingL k) m != 0
def hasD (k : Int) : Bool := decide (k = 1 ∨ k = 2 ∨ k = 3 ∨ k = 4 ∨ k = 5 ∨ k = 7 ∨ k = 9)
theorem kind_cases (k : Int) : (k = 1 ∨ k = 2 ∨ k = 3 ∨ k = 4 ∨ k = 5 ∨ k = 6 ∨ k = 7 ∨ k = 8 ∨ k = 9) ∨ (k < 1 ∨ 9 < k) := by omega
theorem having_out {k : Int} (h : k < 1 ∨ 9 < k) : havingL k = 0 := by
  unfold havingL
  rw [if_neg (by omega), if_neg (by omega), if_neg (by omega), if_neg (by omega), if_neg (by omega), if_neg (by omega), if_neg (by omega), if_neg (by omega), if_neg (by omega)]
theorem having_ne (k : Int) : (havingL k != 0) = decide (1 ≤ k ∧ k ≤ 9) := by
  rcases kind_cases k with (rfl | rfl | rfl | rfl | rfl | rfl | rfl | rfl | rfl) | h
  all_goals try rfl
  rw [having_out h, decide_eq_false (by omega)]; rfl
theorem hbit_D (k : Int) : hbit k 1 = hasD k := by
  rcases kind_cases k with (rfl | rfl | rfl | rfl | rfl | rfl | rfl | rfl | rfl) | h
  all_goals try rfl
  unfold hbit; rw [having_out h]; unfold hasD; rw [decide_eq_false (by omega)]; rfl
theorem hbit_A (k : Int) : hbit k 2 = hasA k := by
  rcases kind_cases k with (rfl | rfl | rfl | rfl | rfl | rfl | rfl | rfl | rfl) | h
  all_goals try rfl
  unfold hbit; rw [having_out h]; unfold hasA; rw [decide_eq_false (by omega)]; rfl
theorem hbit_B (k : Int) : hbit k 4 = hasB k := by
  rcases kind_cases k with (rfl | rfl | rfl | rfl | rfl | rfl | rfl | rfl | rfl) | h
  all_goals try rfl
  unfold hbit; rw [having_out h]; unfold hasB; rw [decide_eq_false (by omega)]; rfl
theorem hbit_one (k : Int) : hbit k 8 = decide (k = 3) := by
  rcases kind_cases k with (rfl | rfl | rfl | rfl | rfl | rfl | rfl | rfl | rfl) | h
  all_goals try rfl
  unfold hbit; rw [having_out h, decide_eq_false (by omega)]; rfl
theorem hbit_two (k : Int) : hbit k 16 = decide (k = 4) := by
  rcases kind_cases k with (rfl | rfl | rfl | rfl | rfl | rfl | rfl | rfl | rfl) | h
  all_goals try rfl
  unfold hbit; rw [having_out h, decide_eq_false (by omega)]; rfl
theorem hbit_N (k : Int) : hbit k 32 = decide (k = 1) := by
  rcases kind_cases k with (rfl | rfl | rfl | rfl | rfl | rfl | rfl | rfl | rfl) | h
  all_goals try rfl
  unfold hbit; rw [having_out h, decide_eq_false (by omega)]; rfl
theorem hbit_arr (k : Int) : hbit k 64 = decide (k = 5 ∨ k = 6) := by
  rcases kind_cases k with (rfl | rfl | rfl | rfl | rfl | rfl | rfl | rfl | rfl) | h
  all_goals try rfl
  unfold hbit; rw [having_out h, decide_eq_false (by omega)]; rfl
theorem hbit_call (k : Int) : hbit k 128 = decide (k = 9) := by
  rcases kind_cases k with (rfl | rfl | rfl | rfl | rfl | rfl | rfl | rfl | rfl) | h
  all_goals try rfl
  unfold hbit; rw [having_out h, decide_eq_false (by omega)]; rfl

def opOk (k op : Int) : Bool := if k = 3 then decide (op = 17 ∨ op = 18 ∨ op = 19) else if k = 4 then decide (1 ≤ op ∧ op ≤ 16) else decide (op = 0)
/-- a number below 'top', if there is to be one, and else 0 -/
def placeIf (n top : Int) (is : Bool) : Bool := if is = true then decide (0 ≤ n ∧ n < top) else decide (n = 0)
def placeU (u : LUnit) (s : ByteArray) : Int := findI (fun f : LFlow => decide (f.name = s)) u.flows
/-- what a call calls, and its args -/
def callOk (u : LUnit) (vals : Int) (s : ByteArray) (args : List Int) : Bool :=
  match u.flows.find? (fun f => decide (f.name = s)) with
  | some g => decide ((args.length : Int) = g.params) && !args.any (fun n => !placeIf n vals true)
  | none => false
def namedOk (u : LUnit) (vals : Int) (x : LIns) : Bool :=
  if x.kind = 5 ∨ x.kind = 6 then decide (x.args.length = 0) && u.arrays.any (fun a => decide (a.1 = x.name))
  else if x.kind = 9 then callOk u vals x.name x.args
  else decide (x.name = ⟨#[]⟩) && decide (x.args.length = 0)
def insOk (u : LUnit) (vals : Int) (x : LIns) : Bool :=
  decide (1 ≤ x.kind ∧ x.kind ≤ 9) && placeIf x.d vals (hasD x.kind) && placeIf x.a vals (hasA x.kind) && placeIf x.b vals (hasB x.kind) && opOk x.kind x.op && (decide (x.kind = 1) || decide (x.n = 0)) && namedOk u vals x
def termOk (nb vals : Int) (t : LTerm) : Bool :=
  decide (1 ≤ t.kind ∧ t.kind ≤ 4) && placeIf t.a vals (decide (t.kind ≠ 1)) && placeIf t.to nb (decide (t.kind = 1 ∨ t.kind = 2)) && placeIf t.els nb (decide (t.kind = 2))
def blockBad (u : LUnit) (f : LFlow) (b : LBlock) : Bool := !termOk f.blocks.length f.values b.term || b.ins.any (fun x => !insOk u f.values x)
def insCount (l : List LBlock) : Nat := (l.map fun b => b.ins.length).sum
def flowBad (f : LFlow) : Bool :=
  decide (f.params < 0 ∨ f.params > 6 ∨ f.values < f.params ∨ f.values > 50000 ∨ f.blocks.length = 0 ∨ f.blocks.length > 20000 ∨ insCount f.blocks > 200000)
def badL (u : LUnit) (f : LFlow) : Int × Bool := if flowBad f = true then (0, false) else (findI (blockBad u f) f.blocks, true)
end Go.Proofs.YtnpnhdmfdhnmfaaGreatDoor
