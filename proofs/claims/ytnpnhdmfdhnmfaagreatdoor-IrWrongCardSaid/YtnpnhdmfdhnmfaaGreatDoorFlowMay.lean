/- What flow.may does, at any function that may be: it says so. -/
import Derived.Test.YtnpnhdmfdhnmfaaGreatDoorFlowUses
namespace Go.Proofs.YtnpnhdmfdhnmfaaGreatDoor
open Go.RowKit

structure GoodIns (x : LIns) : Prop where
  uses : ∀ n ∈ usesL x, placeP n = true
  sets : ∀ n ∈ setsL x, placeP n = true
  args : x.args.length ≤ 1000
structure GoodB (n : Nat) (b : LBlock) : Prop where
  next : ∀ k ∈ nextL b.term, 0 ≤ k ∧ k < n
  wants : ∀ k ∈ wantsL b.term, placeP k = true
  ins : ∀ x ∈ b.ins, GoodIns x
def GoodF (f : LFlow) : Prop := ∀ b ∈ f.blocks, GoodB f.blocks.length b

theorem any_false {p : Int → Bool} {l : List Int} (h : ∀ n ∈ l, p n = false) : l.any p = false := by
  rw [Bool.eq_false_iff]
  intro e
  obtain ⟨x, hx, hp⟩ := List.any_eq_true.1 e
  rw [h x hx] at hp
  cases hp
end Go.Proofs.YtnpnhdmfdhnmfaaGreatDoor
