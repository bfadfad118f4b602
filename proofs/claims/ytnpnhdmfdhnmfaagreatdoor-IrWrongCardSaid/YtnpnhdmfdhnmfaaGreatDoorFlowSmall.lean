/- What ir.Next, flow.wants, flow.sets, ir.Uses and slices.ContainsFunc do, at any instruction, end and row of numbers. -/
import Derived.Test.YtnpnhdmfdhnmfaaGreatDoorFitMem
namespace Go.Proofs.YtnpnhdmfdhnmfaaGreatDoor
open Go.RowKit

def nextL (t : LTerm) : List Int := if t.kind = 2 ∧ t.to ≠ t.els then [t.to, t.els] else if t.kind = 2 ∨ t.kind = 1 then [t.to] else []
def wantsL (t : LTerm) : List Int := if t.kind = 2 ∨ t.kind = 3 ∨ t.kind = 4 then [t.a] else []
def setsL (x : LIns) : List Int := if x.kind < 1 ∨ x.kind > 9 ∨ x.kind = 6 ∨ x.kind = 8 then [] else [x.d]
/-- has an instruction an a, a b, is it a call -/
def hasA (k : Int) : Bool := k = 2 ∨ k = 3 ∨ k = 4 ∨ k = 5 ∨ k = 6 ∨ k = 8
def hasB (k : Int) : Bool := k = 4 ∨ k = 6
def usesL (x : LIns) : List Int := (if hasA x.kind then [x.a] else []) ++ (if hasB x.kind then [x.b] else []) ++ (if x.kind = 9 then x.args else [])

/-- a call hands back a row of numbers of its own -/
def IntsPost (l : List Int) (w : World) (e : Ending) (w' : World) : Prop :=
  ∃ v, e = .returned v ∧ Below w.heap.size w w' ∧ SlR w' (fun b => w.heap.size ≤ b ∧ b < w'.heap.size) 1 RInt v l

theorem below1 (w : World) (a : Obj) : Below w.heap.size w (w.alloc a) := (Below.refl _ _).alloc (Nat.le_refl _) _
theorem below2 (w : World) (a b : Obj) : Below w.heap.size w ((w.alloc a).alloc b) := (below1 w a).alloc (by simp) _

theorem slr_new1 (w : World) (t : TypeId) (a : Int) (ok : Nat → Prop) {n : Nat} (hn : n = w.heap.size) (h : ok n) : SlR (w.alloc (.cells #[.int .i64 a] t)) ok 1 RInt (.slice (some ⟨n, 0, none⟩) 1 1) [a] := by
  subst hn
  refine ⟨_, 1, rfl, Nat.le_refl 1, by unfold maxLen; omega, .inr ⟨w.heap.size, 0, rfl, h, ?_⟩⟩
  intro i hi
  have hi' : i < 1 := hi
  obtain rfl : i = 0 := by omega
  refine ⟨[.int .i64 a], rfl, rfl, ?_⟩
  intro j hj
  have hj' : j < 1 := hj
  obtain rfl : j = 0 := by omega
  exact (Blk.new w t #[.int .i64 a]).cell 0
theorem slr_new2 (w : World) (t : TypeId) (a b : Int) (ok : Nat → Prop) {n : Nat} (hn : n = w.heap.size) (h : ok n) : SlR (w.alloc (.cells #[.int .i64 a, .int .i64 b] t)) ok 1 RInt (.slice (some ⟨n, 0, none⟩) 2 2) [a, b] := by
  subst hn
  refine ⟨_, 2, rfl, Nat.le_refl 2, by unfold maxLen; omega, .inr ⟨w.heap.size, 0, rfl, h, ?_⟩⟩
  intro i hi
  have hi' : i < 2 := hi
  rcases (by omega : i = 0 ∨ i = 1) with rfl | rfl
  · refine ⟨[.int .i64 a], rfl, rfl, ?_⟩
    intro j hj
    have hj' : j < 1 := hj
    obtain rfl : j = 0 := by omega
    exact (Blk.new w t #[.int .i64 a, .int .i64 b]).cell 0
  · refine ⟨[.int .i64 b], rfl, rfl, ?_⟩
    intro j hj
    have hj' : j < 1 := hj
    obtain rfl : j = 0 := by omega
    exact (Blk.new w t #[.int .i64 a, .int .i64 b]).cell 1

theorem ints1 {w : World} (o : Obj) (t : TypeId) (a : Int) : IntsPost [a] w (.returned (.slice (some ⟨w.heap.size + 1, 0, none⟩) 1 1)) ((w.alloc o).alloc (.cells #[.int .i64 a] t)) := by
  exact ⟨_, rfl, below2 _ _ _, slr_new1 (w.alloc o) t a (fun b => w.heap.size ≤ b ∧ b < ((w.alloc o).alloc (.cells #[.int .i64 a] t)).heap.size) (by simp) ⟨by simp, by simp⟩⟩
theorem ints2 {w : World} (o : Obj) (t : TypeId) (a b : Int) : IntsPost [a, b] w (.returned (.slice (some ⟨w.heap.size + 1, 0, none⟩) 2 2)) ((w.alloc o).alloc (.cells #[.int .i64 a, .int .i64 b] t)) := by
  exact ⟨_, rfl, below2 _ _ _, slr_new2 (w.alloc o) t a b (fun x => w.heap.size ≤ x ∧ x < ((w.alloc o).alloc (.cells #[.int .i64 a, .int .i64 b] t)).heap.size) (by simp) ⟨by simp, by simp⟩⟩

set_option maxHeartbeats 1000000 in
theorem next_any (t : LTerm) (w : World) : Calls Tryz.prog 24 #[.agg #[.int .i64 t.kind, .int .i64 t.a, .int .i64 t.to, .int .i64 t.els]] w (IntsPost (nextL t) w) := by
  go_enter Tryz.func24, Tryz.ntmps24
  by_cases h2 : t.kind = 2
  · have b2 : (t.kind == 2) = true := beq_iff_eq.2 h2
    have d2 : decide (t.kind = 2) = true := decide_eq_true h2
    by_cases hte : t.to = t.els
    · have bt : (t.to != t.els) = false := by rw [hte]; simp
      have dt : decide (t.to = t.els) = true := decide_eq_true hte
      have e : nextL t = [t.to] := by unfold nextL; rw [if_neg (by simp [hte]), if_pos (.inl h2)]
      rw [e]
      clear e hte h2
      go_wp2
      go_ret
      exact ints1 _ _ _
    · have bt : (t.to != t.els) = true := by simp [hte]
      have dt : decide (t.to = t.els) = false := decide_eq_false hte
      have e : nextL t = [t.to, t.els] := by unfold nextL; rw [if_pos ⟨h2, hte⟩]
      rw [e]
      clear e hte h2
      go_wp2
      go_ret
      exact ints2 _ _ _ _
  · have b2 : (t.kind == 2) = false := by simp [h2]
    have d2 : decide (t.kind = 2) = false := decide_eq_false h2
    by_cases h1 : t.kind = 1
    · have b1 : (t.kind == 1) = true := beq_iff_eq.2 h1
      have d1 : decide (t.kind = 1) = true := decide_eq_true h1
      have e : nextL t = [t.to] := by unfold nextL; rw [if_neg (by simp [h2]), if_pos (.inr h1)]
      rw [e]
      clear e h1 h2
      go_wp2
      go_ret
      exact ints1 _ _ _
    · have b1 : (t.kind == 1) = false := by simp [h1]
      have d1 : decide (t.kind = 1) = false := decide_eq_false h1
      have e : nextL t = [] := by unfold nextL; rw [if_neg (by simp [h2]), if_neg (by simp [h1, h2])]
      rw [e]
      clear e h1 h2
      go_wp2
      go_ret
      exact ⟨_, rfl, below1 _ _, SlR.nil_ _ _ _ _⟩

/-- a function value that tells of a number, in whatever later world -/
def PredI (g : Nat) (lb : Array Value) (p : Int → Bool) (l : List Int) (w : World) : Prop :=
  ∀ (W : World) (n : Int), n ∈ l → Below w.heap.size w W → Calls Tryz.prog g (#[.int .i64 n] ++ lb) W fun e w' => e = .returned (.bool (p n)) ∧ Below w.heap.size w w'
def idxL (p : Int → Bool) (l : List Int) : Int := if l.any p = true then (l.findIdx p : Int) else -1
theorem idxL_nonneg (p : Int → Bool) (l : List Int) : decide (0 ≤ idxL p l) = l.any p := by
  unfold idxL
  by_cases h : l.any p = true
  · rw [if_pos h, h]; simp
  · rw [if_neg h]; simp at h ⊢; simpa using h

def placeP (n : Int) : Bool := decide (0 ≤ n ∧ n < 50000)
/-! ### what an instruction has -/
def havingL (k : Int) : Int := if k = 1 then 33 else if k = 2 then 3 else if k = 3 then 11 else if k = 4 then 23 else if k = 5 then 67 else if k = 6 then 70 else if k = 7 then 1 else if k = 8 then 2 else if k = 9 then 129 else 0
theorem having_any (k : Int) (w : World) : Calls Tryz.prog 39 #[.int .i64 k] w fun e w' => e = .returned (.int .i64 (havingL k)) ∧ w' = w := by
  go_enter Tryz.func39, Tryz.ntmps39
  have hc : (k = 1 ∨ k = 2 ∨ k = 3 ∨ k = 4 ∨ k = 5 ∨ k = 6 ∨ k = 7 ∨ k = 8 ∨ k = 9) ∨ (k ≠ 1 ∧ k ≠ 2 ∧ k ≠ 3 ∧ k ≠ 4 ∧ k ≠ 5 ∧ k ≠ 6 ∧ k ≠ 7 ∧ k ≠ 8 ∧ k ≠ 9) := by omega
  rcases hc with (rfl | rfl | rfl | rfl | rfl | rfl | rfl | rfl | rfl) | ⟨h1, h2, h3, h4, h5, h6, h7, h8, h9⟩
  all_goals try (go_wp2; go_ret; exact ⟨rfl, rfl⟩)
  have e : havingL k = 0 := by simp [havingL, h1, h2, h3, h4, h5, h6, h7, h8, h9]
  rw [e]
  have b1 : (k == 1) = false := by simp [h1]
  have b2 : (k == 2) = false := by simp [h2]
  have b3 : (k == 3) = false := by simp [h3]
  have b4 : (k == 4) = false := by simp [h4]
  have b5 : (k == 5) = false := by simp [h5]
  have b6 : (k == 6) = false := by simp [h6]
  have b7 : (k == 7) = false := by simp [h7]
  have b8 : (k == 8) = false := by simp [h8]
  have b9 : (k == 9) = false := by simp [h9]
  clear e
  go_wp2
  go_ret
  exact ⟨rfl, rfl⟩
end Go.Proofs.YtnpnhdmfdhnmfaaGreatDoor
