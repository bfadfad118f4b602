/- ir.Check as a plain function over units: what an instruction, an end, a block, a function and a unit want, to be one that may be. What the small functions of ir do: has, place, block, op; and slices.IndexFunc, slices.ContainsFunc at the closures of ir.Check. Printed by wip/gen_irsmall.py. -/
import Derived.Test.YtkpigkopjfkepaaGreatDoorPrFlowSm
import Derived.Test.YtkpigkopjfkepaaGreatDoorPrArPW
namespace Go.Proofs.YtkpigkopjfkepaaGreatDoor
open Go.RowKit
def findI {α : Type} (p : α → Bool) (l : List α) : Int := if l.any p = true then (l.findIdx p : Int) else -1
theorem findI_any {α : Type} (p : α → Bool) (l : List α) : decide (0 ≤ findI p l) = l.any p := by
 unfold findI
 by_cases h : l.any p = true
 ·rw [if_pos h, h]; simp
 ·rw [if_neg h]; simp at h ⊢; simpa using h
theorem findI_lt {α : Type} {p : α → Bool} {l : List α} (h : l.any p = true) : 0 ≤ findI p l ∧ (findI p l).toNat < l.length ∧ findI p l = (l.findIdx p : Int) := by
 unfold findI
 rw [if_pos h]
 have : l.findIdx p < l.length := List.findIdx_lt_length.2 (List.any_eq_true.1 h)
 exact ⟨by omega, by simpa using this, rfl⟩
theorem findI_none {α : Type} {p : α → Bool} {l : List α} (h : l.any p = false) : findI p l = -1 := by
 unfold findI
 rw [if_neg (by rw [h]; decide)]
def hbit (k m : Int) : Bool := bits .and .i64 (havingL k) m != 0
def hasD (k : Int) : Bool := decide (k = 1 ∨ k = 2 ∨ k = 3 ∨ k = 4 ∨ k = 5 ∨ k = 7 ∨ k = 9)
theorem kind_cases (k : Int) : (k = 1 ∨ k = 2 ∨ k = 3 ∨ k = 4 ∨ k = 5 ∨ k = 6 ∨ k = 7 ∨ k = 8 ∨ k = 9) ∨ (k < 1 ∨ 9 < k) := by omega
theorem having_out {k : Int} (h : k < 1 ∨ 9 < k) : havingL k = 0 := by
 unfold havingL
 rw [if_neg (by omega), if_neg (by omega), if_neg (by omega), if_neg (by omega), if_neg (by omega), if_neg (by omega), if_neg (by omega), if_neg (by omega), if_neg (by omega)]
theorem having_ne (k : Int) : (havingL k != 0) = decide (1 ≤ k ∧ k ≤ 9) := by
 rcases kind_cases k with (rfl | rfl | rfl | rfl | rfl | rfl | rfl | rfl | rfl) | h
 all_goals try rfl
 rw [having_out h, decide_eq_false (by omega)]; rfl
theorem hbit_D (k : Int) : hbit k 1 = hasD k := by
 rcases kind_cases k with (rfl | rfl | rfl | rfl | rfl | rfl | rfl | rfl | rfl) | h
 all_goals try rfl
 unfold hbit; rw [having_out h]; unfold hasD; rw [decide_eq_false (by omega)]; rfl
theorem hbit_A (k : Int) : hbit k 2 = hasA k := by
 rcases kind_cases k with (rfl | rfl | rfl | rfl | rfl | rfl | rfl | rfl | rfl) | h
 all_goals try rfl
 unfold hbit; rw [having_out h]; unfold hasA; rw [decide_eq_false (by omega)]; rfl
theorem hbit_B (k : Int) : hbit k 4 = hasB k := by
 rcases kind_cases k with (rfl | rfl | rfl | rfl | rfl | rfl | rfl | rfl | rfl) | h
 all_goals try rfl
 unfold hbit; rw [having_out h]; unfold hasB; rw [decide_eq_false (by omega)]; rfl
theorem hbit_one (k : Int) : hbit k 8 = decide (k = 3) := by
 rcases kind_cases k with (rfl | rfl | rfl | rfl | rfl | rfl | rfl | rfl | rfl) | h
 all_goals try rfl
 unfold hbit; rw [having_out h, decide_eq_false (by omega)]; rfl
theorem hbit_two (k : Int) : hbit k 16 = decide (k = 4) := by
 rcases kind_cases k with (rfl | rfl | rfl | rfl | rfl | rfl | rfl | rfl | rfl) | h
 all_goals try rfl
 unfold hbit; rw [having_out h, decide_eq_false (by omega)]; rfl
theorem hbit_N (k : Int) : hbit k 32 = decide (k = 1) := by
 rcases kind_cases k with (rfl | rfl | rfl | rfl | rfl | rfl | rfl | rfl | rfl) | h
 all_goals try rfl
 unfold hbit; rw [having_out h, decide_eq_false (by omega)]; rfl
theorem hbit_arr (k : Int) : hbit k 64 = decide (k = 5 ∨ k = 6) := by
 rcases kind_cases k with (rfl | rfl | rfl | rfl | rfl | rfl | rfl | rfl | rfl) | h
 all_goals try rfl
 unfold hbit; rw [having_out h, decide_eq_false (by omega)]; rfl
theorem hbit_call (k : Int) : hbit k 128 = decide (k = 9) := by
 rcases kind_cases k with (rfl | rfl | rfl | rfl | rfl | rfl | rfl | rfl | rfl) | h
 all_goals try rfl
 unfold hbit; rw [having_out h, decide_eq_false (by omega)]; rfl
def opOk (k op : Int) : Bool := if k = 3 then decide (op = 17 ∨ op = 18 ∨ op = 19) else if k = 4 then decide (1 ≤ op ∧ op ≤ 16) else decide (op = 0)
def placeIf (n top : Int) (is : Bool) : Bool := if is = true then decide (0 ≤ n ∧ n < top) else decide (n = 0)
def placeU (u : LUnit) (s : ByteArray) : Int := findI (fun f : LFlow => decide (f.name = s)) u.flows
def callOk (u : LUnit) (vals : Int) (s : ByteArray) (args : List Int) : Bool :=
 match u.flows.find? (fun f => decide (f.name = s)) with
 | some g => decide ((args.length : Int) = g.params) && !args.any (fun n => !placeIf n vals true)
 | none => false
def namedOk (u : LUnit) (vals : Int) (x : LIns) : Bool :=
 if x.kind = 5 ∨ x.kind = 6 then decide (x.args.length = 0) && u.arrays.any (fun a => decide (a.1 = x.name))
 else if x.kind = 9 then callOk u vals x.name x.args
 else decide (x.name = ⟨#[]⟩) && decide (x.args.length = 0)
def insOk (u : LUnit) (vals : Int) (x : LIns) : Bool :=
 decide (1 ≤ x.kind ∧ x.kind ≤ 9) && placeIf x.d vals (hasD x.kind) && placeIf x.a vals (hasA x.kind) && placeIf x.b vals (hasB x.kind) && opOk x.kind x.op && (decide (x.kind = 1) || decide (x.n = 0)) && namedOk u vals x
def termOk (nb vals : Int) (t : LTerm) : Bool :=
 decide (1 ≤ t.kind ∧ t.kind ≤ 4) && placeIf t.a vals (decide (t.kind ≠ 1)) && placeIf t.to nb (decide (t.kind = 1 ∨ t.kind = 2)) && placeIf t.els nb (decide (t.kind = 2))
def blockBad (u : LUnit) (f : LFlow) (b : LBlock) : Bool := !termOk f.blocks.length f.values b.term || b.ins.any (fun x => !insOk u f.values x)
def insCount (l : List LBlock) : Nat := (l.map fun b => b.ins.length).sum
def flowBad (f : LFlow) : Bool :=
 decide (f.params < 0 ∨ f.params > 6 ∨ f.values < f.params ∨ f.values > 50000 ∨ f.blocks.length = 0 ∨ f.blocks.length > 20000 ∨ insCount f.blocks > 200000)
end Go.Proofs.YtkpigkopjfkepaaGreatDoor
namespace Go.Proofs.YtkpigkopjfkepaaGreatDoor
open Go.RowKit
theorem beq_dec (a b : Int) : (a == b) = decide (a = b) := by rw [Bool.eq_iff_iff]; simp
theorem hh_any (k m : Int) (w : World) : Calls Tryz.prog 97 #[.int .i64 (havingL k), .int .i64 m] w fun e w' => e = .returned (.bool (hbit k m)) ∧ w = w' := by
 unfold hbit
 go_enter Tryz.func97, Tryz.ntmps97
 go_wp2
 go_ret
 exact ⟨rfl, rfl⟩
structure ChkAt (w : World) (cb : Nat) (va vf : Value) (f : LFlow) (vb : Value) : Prop where
 c0 : w.cell? ⟨cb, 0, none⟩ = some va
 c1 : w.cell? ⟨cb, 1, none⟩ = some vf
 c2 : w.cell? ⟨cb, 2, none⟩ = some (.string f.name)
 c3 : w.cell? ⟨cb, 3, none⟩ = some (.int .i64 f.params)
 c4 : w.cell? ⟨cb, 4, none⟩ = some (.int .i64 f.values)
 c5 : w.cell? ⟨cb, 5, none⟩ = some vb
theorem ChkAt.below {w w' : World} {cb B : Nat} {va vf vb : Value} {f : LFlow} (h : ChkAt w cb va vf f vb) (hb : Below B w w') (hc : cb < B) : ChkAt w' cb va vf f vb :=
 ⟨(hb.cell (p := ⟨cb, 0, none⟩) hc).trans h.c0, (hb.cell (p := ⟨cb, 1, none⟩) hc).trans h.c1, (hb.cell (p := ⟨cb, 2, none⟩) hc).trans h.c2, (hb.cell (p := ⟨cb, 3, none⟩) hc).trans h.c3, (hb.cell (p := ⟨cb, 4, none⟩) hc).trans h.c4, (hb.cell (p := ⟨cb, 5, none⟩) hc).trans h.c5⟩
theorem ChkAt.lt {w : World} {cb : Nat} {va vf vb : Value} {f : LFlow} (h : ChkAt w cb va vf f vb) : cb < w.heap.size := World.block_lt_of_cell? w _ h.c0
theorem cplace_any (cb : Nat) (n : Int) (top : Int) (is : Bool) (w : World) (hc : w.cell? ⟨cb, 4, none⟩ = some (.int .i64 top)) : Calls Tryz.prog 94 #[.pointer (some ⟨cb, 0, none⟩), .int .i64 n, .bool is] w fun e w' => e = .returned (.bool (placeIf n top is)) ∧ w = w' := by
 cases is with
 | false =>
  have e : placeIf n top false = decide (n = 0) := rfl
  rw [e]
  clear e
  go_enter Tryz.func94, Tryz.ntmps94
  go_wp2
  go_ret
  exact ⟨by first | rfl | simp [beq_dec], rfl⟩
 | true =>
  by_cases h0 : 0 ≤ n
  ·have d0 : decide (0 ≤ n) = true := decide_eq_true h0
   have e : placeIf n top true = decide (n < top) := by unfold placeIf; simp [h0]
   rw [e]
   clear e h0
   go_enter Tryz.func94, Tryz.ntmps94
   go_wp2
   go_ret
   exact ⟨rfl, rfl⟩
  ·have d0 : decide (0 ≤ n) = false := decide_eq_false h0
   have e : placeIf n top true = false := by unfold placeIf; simp; omega
   rw [e]
   clear e h0
   go_enter Tryz.func94, Tryz.ntmps94
   go_wp2
   go_ret
   exact ⟨rfl, rfl⟩
theorem cblock_any (cb : Nat) (n : Int) (A : Option Addr) (m c : Nat) (is : Bool) (w : World) (hc : w.cell? ⟨cb, 5, none⟩ = some (.slice A m c)) : Calls Tryz.prog 95 #[.pointer (some ⟨cb, 0, none⟩), .int .i64 n, .bool is] w fun e w' => e = .returned (.bool (placeIf n (m : Int) is)) ∧ w = w' := by
 cases is with
 | false =>
  have e : placeIf n (m : Int) false = decide (n = 0) := rfl
  rw [e]
  clear e
  go_enter Tryz.func95, Tryz.ntmps95
  go_wp2
  go_ret
  exact ⟨by first | rfl | simp [beq_dec], rfl⟩
 | true =>
  by_cases h0 : 0 ≤ n
  ·have d0 : decide (0 ≤ n) = true := decide_eq_true h0
   have e : placeIf n (m : Int) true = decide (n < (m : Int)) := by unfold placeIf; simp [h0]
   rw [e]
   clear e h0
   go_enter Tryz.func95, Tryz.ntmps95
   go_wp2
   go_ret
   exact ⟨rfl, rfl⟩
  ·have d0 : decide (0 ≤ n) = false := decide_eq_false h0
   have e : placeIf n (m : Int) true = false := by unfold placeIf; simp; omega
   rw [e]
   clear e h0
   go_enter Tryz.func95, Tryz.ntmps95
   go_wp2
   go_ret
   exact ⟨rfl, rfl⟩
theorem lvl_pos (op : Int) : decide (0 < Ar.lvl op) = decide (1 ≤ op ∧ op ≤ 16) := by
 rcases Ar.op_cases op with h | rfl | rfl | rfl | rfl | rfl | rfl | rfl | rfl | rfl | rfl | rfl | rfl | rfl | rfl | rfl | rfl | rfl | rfl | rfl
 all_goals try rfl
 rw [Ar.lvl_no h, decide_eq_false (by omega), decide_eq_false (by unfold Ar.NoOp at h; omega)]
section
set_option maxHeartbeats 2000000
theorem op_any (x : LIns) (va : Value) (hva : ∃ A n c, va = .slice A n c) (w : World) : Calls Tryz.prog 98 #[.agg #[.int .i64 x.kind, .int .i64 x.d, .int .i64 x.a, .int .i64 x.b, .int .i64 x.op, .int .i64 x.n, .string x.name, va], .int .i64 (havingL x.kind)] w fun e w' => e = .returned (.bool (opOk x.kind x.op)) ∧ Below w.heap.size w w' := by
 obtain ⟨A, n, c, rfl⟩ := hva
 obtain ⟨k, d, a, b, op, nn, nm, args⟩ := x
 have H1 := hbit_one k
 have H2 := hbit_two k
 have HH := Lib.hid (fun m w => hh_any k m w)
 by_cases h3 : k = 3
 ·have g : hbit k 8 = true := by rw [H1, h3]; rfl
  have e : opOk k op = decide (op = 17 ∨ op = 18 ∨ op = 19) := by unfold opOk; rw [if_pos h3]
  show Calls _ _ _ _ fun e w' => e = .returned (.bool (opOk k op)) ∧ Below w.heap.size w w'
  rw [e]
  clear e H1 H2 h3
  generalize havingL k = h at *
  by_cases h17 : op = 17
  ·have e : decide (op = 17 ∨ op = 18 ∨ op = 19) = true := by simp [h17]
   have b17 : (op == 17) = true := by simp [h17]
   rw [e]
   clear e h17
   go_enter Tryz.func98, Tryz.ntmps98
   go_wp2_with (go_at_call 97; refine (HH.out _ _).mono ?_; rintro e w' ⟨rfl, rfl⟩)
   go_ret
   exact ⟨rfl, below1 _ _⟩
  by_cases h18 : op = 18
  ·have e : decide (op = 17 ∨ op = 18 ∨ op = 19) = true := by simp [h18]
   have b17 : (op == 17) = false := by simp [h17]
   have b18 : (op == 18) = true := by simp [h18]
   rw [e]
   clear e h17 h18
   go_enter Tryz.func98, Tryz.ntmps98
   go_wp2_with (go_at_call 97; refine (HH.out _ _).mono ?_; rintro e w' ⟨rfl, rfl⟩)
   go_ret
   exact ⟨rfl, below1 _ _⟩
  have e : decide (op = 17 ∨ op = 18 ∨ op = 19) = (op == 19) := by rw [beq_dec]; simp [h17, h18]
  have b17 : (op == 17) = false := by simp [h17]
  have b18 : (op == 18) = false := by simp [h18]
  rw [e]
  clear e h17 h18
  go_enter Tryz.func98, Tryz.ntmps98
  go_wp2_with (go_at_call 97; refine (HH.out _ _).mono ?_; rintro e w' ⟨rfl, rfl⟩)
  go_ret
  exact ⟨rfl, below1 _ _⟩
 have g : hbit k 8 = false := by rw [H1, decide_eq_false h3]
 by_cases h4 : k = 4
 ·have g4 : hbit k 16 = true := by rw [H2, h4]; rfl
  have e : opOk k op = decide (0 < Ar.lvl op) := by unfold opOk; rw [if_neg h3, if_pos h4, lvl_pos]
  show Calls _ _ _ _ fun e w' => e = .returned (.bool (opOk k op)) ∧ Below w.heap.size w w'
  rw [e]
  clear e H1 H2 h3 h4
  generalize havingL k = h at *
  go_enter Tryz.func98, Tryz.ntmps98
  go_wp2_with (first | (go_at_call 97; refine (HH.out _ _).mono ?_; rintro e w' ⟨rfl, rfl⟩) | (go_at_call 131; refine (Ar.level_any _ _).mono ?_; rintro e w' ⟨rfl, hb1⟩))
  go_ret
  exact ⟨rfl, (below1 _ _).trans (hb1.mono (below1 _ _).size)⟩
 ·have g4 : hbit k 16 = false := by rw [H2, decide_eq_false h4]
  have e : opOk k op = (op == 0) := by unfold opOk; rw [if_neg h3, if_neg h4, beq_dec]
  show Calls _ _ _ _ fun e w' => e = .returned (.bool (opOk k op)) ∧ Below w.heap.size w w'
  rw [e]
  clear e H1 H2 h3 h4
  generalize havingL k = h at *
  go_enter Tryz.func98, Tryz.ntmps98
  go_wp2_with (go_at_call 97; refine (HH.out _ _).mono ?_; rintro e w' ⟨rfl, rfl⟩)
  go_ret
  exact ⟨rfl, below1 _ _⟩
end
def Pred_flow (g : Nat) (lb : Array Value) (p : LFlow → Bool) (l : List LFlow) (w : World) : Prop :=
 ∀ (W : World) (x : LFlow) (A : Option Addr) (c : Nat) , x ∈ l → Below w.heap.size w W → SlR W (· < W.heap.size) 5 (RBlock W (· < W.heap.size)) (.slice A (x.blocks).length c) x.blocks → Calls Tryz.prog g (#[.agg #[.string x.name, .int .i64 x.params, .int .i64 x.values, .slice A x.blocks.length c]] ++ lb) W fun e w' => e = .returned (.bool (p x)) ∧ Below w.heap.size w w'
def Pred_block (g : Nat) (lb : Array Value) (p : LBlock → Bool) (l : List LBlock) (w : World) : Prop :=
 ∀ (W : World) (x : LBlock) (A : Option Addr) (c : Nat) , x ∈ l → Below w.heap.size w W → SlR W (· < W.heap.size) 8 (RIns W (· < W.heap.size)) (.slice A (x.ins).length c) x.ins → Calls Tryz.prog g (#[.agg #[.slice A x.ins.length c, .int .i64 x.term.kind, .int .i64 x.term.a, .int .i64 x.term.to, .int .i64 x.term.els]] ++ lb) W fun e w' => e = .returned (.bool (p x)) ∧ Below w.heap.size w w'
def Pred_ins (g : Nat) (lb : Array Value) (p : LIns → Bool) (l : List LIns) (w : World) : Prop :=
 ∀ (W : World) (x : LIns) (A : Option Addr) (c : Nat) , x ∈ l → Below w.heap.size w W → SlR W (· < W.heap.size) 1 (RInt) (.slice A (x.args).length c) x.args → Calls Tryz.prog g (#[.agg #[.int .i64 x.kind, .int .i64 x.d, .int .i64 x.a, .int .i64 x.b, .int .i64 x.op, .int .i64 x.n, .string x.name, .slice A x.args.length c]] ++ lb) W fun e w' => e = .returned (.bool (p x)) ∧ Below w.heap.size w w'
def Pred_arr (g : Nat) (lb : Array Value) (p : (ByteArray × Int) → Bool) (l : List (ByteArray × Int)) (w : World) : Prop :=
 ∀ (W : World) (x : (ByteArray × Int)) , x ∈ l → Below w.heap.size w W → Calls Tryz.prog g (#[.agg #[.string x.1, .int .i64 x.2]] ++ lb) W fun e w' => e = .returned (.bool (p x)) ∧ Below w.heap.size w w'
def Pred_str (g : Nat) (lb : Array Value) (p : ByteArray → Bool) (l : List ByteArray) (w : World) : Prop :=
 ∀ (W : World) (x : ByteArray) , x ∈ l → Below w.heap.size w W → Calls Tryz.prog g (#[.string x] ++ lb) W fun e w' => e = .returned (.bool (p x)) ∧ Below w.heap.size w w'
def PredZ (g : Nat) (lb : Array Value) (p : Int → Bool) (l : List Int) (w : World) : Prop :=
 ∀ (W : World) (x : Int), x ∈ l → Below w.heap.size w W → Calls Tryz.prog g (#[.int .i64 x] ++ lb) W fun e w' => e = .returned (.bool (p x)) ∧ Below w.heap.size w w'
set_option maxHeartbeats 1000000 in
theorem idx_place (l : List LFlow) (v : Value) (fb : Nat) (p : LFlow → Bool) (w : World) (hv : SlR w (· < w.heap.size) 4 (RFlow w (· < w.heap.size)) v l) (hp : Pred_flow 54 #[.pointer (some ⟨fb, 0, none⟩)] p l w) :
  Calls Tryz.prog 53 #[v, .func (.func 54) #[] #[.pointer (some ⟨fb, 0, none⟩)]] w fun e w' => e = .returned (.int .i64 (findI p l)) ∧ Below w.heap.size w w' := by
 obtain ⟨AA, cc, hvv, hlc, hcm⟩ := hv.val
 have HV := Lib.hid hv
 clear hv
 subst hvv
 have hlen := Nat.le_trans hlc hcm
 unfold maxLen at hlen
 go_enter Tryz.func53, Tryz.ntmps53
 go_wp2
 go_loopw [5, 8] (fun _ i wr => ∃ k : Nat, k ≤ l.length ∧ i = .int .i64 k ∧ (∀ j (h : j < l.length), j < k → p l[j] = false) ∧ Below w.heap.size w wr) (fun _ i _ => l.length - (intOf i).toNat)
 case atStart => exact ⟨0, by omega, rfl, fun j _ h => by omega, Below.refl _ _⟩
 case round =>
  obtain ⟨k, hk, rfl, hno, hb⟩ := hrel
  have HNO := Lib.hid hno
  clear hno
  by_cases hlt : k < l.length
  ·have d1 : decide ((k : Int) < (l.length : Int)) = true := decide_eq_true (by omega)
   obtain ⟨b, off, c', hform, _, _, hbl, hel⟩ := HV.out.form (by omega)
   obtain ⟨cs, hcl, hcs, hcell⟩ := hel k hlt
   obtain ⟨rfl, rfl⟩ : AA = some ⟨b, off, none⟩ ∧ cc = c' := by injection hform with h1 _ h2; exact ⟨h1, h2⟩
   obtain ⟨x, hx⟩ : ∃ x, x = l[k] := ⟨_, rfl⟩
   have hmem : x ∈ l := by rw [hx]; exact List.getElem_mem _
   rw [← hx] at hcs
   have up : ∀ b, b < w.heap.size → b < wr.heap.size := fun b h => Nat.lt_of_lt_of_le h hb.size
   have kp : Keeps (· < w.heap.size) w wr := fun b h => hb.block b h
   obtain ⟨va, rfl, hs⟩ := hcs
   obtain ⟨A, c, hva, _, _⟩ := hs.val
   subst hva
   have HC := hp wr x A c hmem hb (hs.imp (R' := RBlock wr (· < wr.heap.size)) up kp (fun _ _ _ r => r.imp up kp))
   have i0 : wr.cell? ⟨b, off + k * 4, none⟩ = some (.string x.name) := by have h := (hcell.keep (hb.block b hbl)).at_ (j := 0) rfl; simpa using h
   have i1 : wr.cell? ⟨b, off + k * 4 + 1, none⟩ = some (.int .i64 x.params) := (hcell.keep (hb.block b hbl)).at_ (j := 1) rfl
   have i2 : wr.cell? ⟨b, off + k * 4 + 2, none⟩ = some (.int .i64 x.values) := (hcell.keep (hb.block b hbl)).at_ (j := 2) rfl
   have i3 : wr.cell? ⟨b, off + k * 4 + 3, none⟩ = some (.slice A x.blocks.length c) := (hcell.keep (hb.block b hbl)).at_ (j := 3) rfl
   have HX := Lib.hid hx
   clear hcell hel hform up kp hmem hcl hs hx
   cases hq : p x with
   | true =>
    rw [hq] at HC
    have HQ := Lib.hid hq
    clear hq
    go_wp2_with (go_at_call 54; refine HC.mono ?_; rintro e w' ⟨rfl, hb'⟩)
    go_ret
    refine ⟨?_, hb'⟩
    have hq := HQ.out
    rw [HX.out] at hq
    have e : findI p l = (k : Int) := by
     unfold findI
     rw [if_pos (List.any_eq_true.2 ⟨l[k], List.getElem_mem _, hq⟩)]
     have : l.findIdx p = k := (List.findIdx_eq hlt).2 ⟨hq, fun j hj => HNO.out j (by omega) hj⟩
     rw [this]
    rw [e]; rfl
   | false =>
    rw [hq] at HC
    have HQ := Lib.hid hq
    clear hq
    go_wp2_with (go_at_call 54; refine HC.mono ?_; rintro e w' ⟨rfl, hb'⟩)
    go_roundw
    case rel =>
     have hq := HQ.out
     rw [HX.out] at hq
     refine ⟨k + 1, by omega, by go_num, fun j h hj => ?_, hb'⟩
     by_cases e : j = k
     ·subst e; exact hq
     ·exact HNO.out j h (by omega)
    case measure => simp [intOf]; omega
  ·have d1 : decide ((k : Int) < (l.length : Int)) = false := decide_eq_false (by omega)
   go_wp2
   go_ret
   refine ⟨?_, hb⟩
   have e : findI p l = -1 := by
    unfold findI
    rw [if_neg]
    intro h
    obtain ⟨x, hx, hpx⟩ := List.any_eq_true.1 h
    obtain ⟨j, hj, rfl⟩ := List.getElem_of_mem hx
    rw [HNO.out j hj (by omega)] at hpx
    cases hpx
   rw [e]; rfl
set_option maxHeartbeats 1000000 in
theorem idx_size (l : List (ByteArray × Int)) (v : Value) (p : (ByteArray × Int) → Bool) (w : World) (hv : SlR w (· < w.heap.size) 2 (RArr) v l) (hp : Pred_arr 28 #[] p l w) :
  Calls Tryz.prog 55 #[v, .func (.func 28) #[] #[]] w fun e w' => e = .returned (.int .i64 (findI p l)) ∧ Below w.heap.size w w' := by
 obtain ⟨AA, cc, hvv, hlc, hcm⟩ := hv.val
 have HV := Lib.hid hv
 clear hv
 subst hvv
 have hlen := Nat.le_trans hlc hcm
 unfold maxLen at hlen
 go_enter Tryz.func55, Tryz.ntmps55
 go_wp2
 go_loopw [5, 8] (fun _ i wr => ∃ k : Nat, k ≤ l.length ∧ i = .int .i64 k ∧ (∀ j (h : j < l.length), j < k → p l[j] = false) ∧ Below w.heap.size w wr) (fun _ i _ => l.length - (intOf i).toNat)
 case atStart => exact ⟨0, by omega, rfl, fun j _ h => by omega, Below.refl _ _⟩
 case round =>
  obtain ⟨k, hk, rfl, hno, hb⟩ := hrel
  have HNO := Lib.hid hno
  clear hno
  by_cases hlt : k < l.length
  ·have d1 : decide ((k : Int) < (l.length : Int)) = true := decide_eq_true (by omega)
   obtain ⟨b, off, c', hform, _, _, hbl, hel⟩ := HV.out.form (by omega)
   obtain ⟨cs, hcl, hcs, hcell⟩ := hel k hlt
   obtain ⟨rfl, rfl⟩ : AA = some ⟨b, off, none⟩ ∧ cc = c' := by injection hform with h1 _ h2; exact ⟨h1, h2⟩
   obtain ⟨x, hx⟩ : ∃ x, x = l[k] := ⟨_, rfl⟩
   have hmem : x ∈ l := by rw [hx]; exact List.getElem_mem _
   rw [← hx] at hcs
   have up : ∀ b, b < w.heap.size → b < wr.heap.size := fun b h => Nat.lt_of_lt_of_le h hb.size
   have kp : Keeps (· < w.heap.size) w wr := fun b h => hb.block b h
   obtain rfl := hcs
   have HC := hp wr x hmem hb
   have i0 : wr.cell? ⟨b, off + k * 2, none⟩ = some (.string x.1) := by have h := (hcell.keep (hb.block b hbl)).at_ (j := 0) rfl; simpa using h
   have i1 : wr.cell? ⟨b, off + k * 2 + 1, none⟩ = some (.int .i64 x.2) := (hcell.keep (hb.block b hbl)).at_ (j := 1) rfl
   have HX := Lib.hid hx
   clear hcell hel hform up kp hmem hcl hx
   cases hq : p x with
   | true =>
    rw [hq] at HC
    have HQ := Lib.hid hq
    clear hq
    go_wp2_with (go_at_call 28; refine HC.mono ?_; rintro e w' ⟨rfl, hb'⟩)
    go_ret
    refine ⟨?_, hb'⟩
    have hq := HQ.out
    rw [HX.out] at hq
    have e : findI p l = (k : Int) := by
     unfold findI
     rw [if_pos (List.any_eq_true.2 ⟨l[k], List.getElem_mem _, hq⟩)]
     have : l.findIdx p = k := (List.findIdx_eq hlt).2 ⟨hq, fun j hj => HNO.out j (by omega) hj⟩
     rw [this]
    rw [e]; rfl
   | false =>
    rw [hq] at HC
    have HQ := Lib.hid hq
    clear hq
    go_wp2_with (go_at_call 28; refine HC.mono ?_; rintro e w' ⟨rfl, hb'⟩)
    go_roundw
    case rel =>
     have hq := HQ.out
     rw [HX.out] at hq
     refine ⟨k + 1, by omega, by go_num, fun j h hj => ?_, hb'⟩
     by_cases e : j = k
     ·subst e; exact hq
     ·exact HNO.out j h (by omega)
    case measure => simp [intOf]; omega
  ·have d1 : decide ((k : Int) < (l.length : Int)) = false := decide_eq_false (by omega)
   go_wp2
   go_ret
   refine ⟨?_, hb⟩
   have e : findI p l = -1 := by
    unfold findI
    rw [if_neg]
    intro h
    obtain ⟨x, hx, hpx⟩ := List.any_eq_true.1 h
    obtain ⟨j, hj, rfl⟩ := List.getElem_of_mem hx
    rw [HNO.out j hj (by omega)] at hpx
    cases hpx
   rw [e]; rfl
theorem con_size (l : List (ByteArray × Int)) (v : Value) (p : (ByteArray × Int) → Bool) (w : World) (hv : SlR w (· < w.heap.size) 2 (RArr) v l) (hp : Pred_arr 28 #[] p l w) :
  Calls Tryz.prog 27 #[v, .func (.func 28) #[] #[]] w fun e w' => e = .returned (.bool (l.any p)) ∧ Below w.heap.size w w' := by
 have h := idx_size l v p w hv hp
 rw [← findI_any]
 go_enter Tryz.func27, Tryz.ntmps27
 go_wp2_with (go_at_call 55; refine h.mono ?_; rintro e w' ⟨rfl, hb'⟩)
 go_ret
 exact ⟨rfl, hb'⟩
set_option maxHeartbeats 1000000 in
theorem idx_named1 (l : List (ByteArray × Int)) (v : Value) (fb : Nat) (p : (ByteArray × Int) → Bool) (w : World) (hv : SlR w (· < w.heap.size) 2 (RArr) v l) (hp : Pred_arr 132 #[.pointer (some ⟨fb, 0, none⟩)] p l w) :
  Calls Tryz.prog 55 #[v, .func (.func 132) #[] #[.pointer (some ⟨fb, 0, none⟩)]] w fun e w' => e = .returned (.int .i64 (findI p l)) ∧ Below w.heap.size w w' := by
 obtain ⟨AA, cc, hvv, hlc, hcm⟩ := hv.val
 have HV := Lib.hid hv
 clear hv
 subst hvv
 have hlen := Nat.le_trans hlc hcm
 unfold maxLen at hlen
 go_enter Tryz.func55, Tryz.ntmps55
 go_wp2
 go_loopw [5, 8] (fun _ i wr => ∃ k : Nat, k ≤ l.length ∧ i = .int .i64 k ∧ (∀ j (h : j < l.length), j < k → p l[j] = false) ∧ Below w.heap.size w wr) (fun _ i _ => l.length - (intOf i).toNat)
 case atStart => exact ⟨0, by omega, rfl, fun j _ h => by omega, Below.refl _ _⟩
 case round =>
  obtain ⟨k, hk, rfl, hno, hb⟩ := hrel
  have HNO := Lib.hid hno
  clear hno
  by_cases hlt : k < l.length
  ·have d1 : decide ((k : Int) < (l.length : Int)) = true := decide_eq_true (by omega)
   obtain ⟨b, off, c', hform, _, _, hbl, hel⟩ := HV.out.form (by omega)
   obtain ⟨cs, hcl, hcs, hcell⟩ := hel k hlt
   obtain ⟨rfl, rfl⟩ : AA = some ⟨b, off, none⟩ ∧ cc = c' := by injection hform with h1 _ h2; exact ⟨h1, h2⟩
   obtain ⟨x, hx⟩ : ∃ x, x = l[k] := ⟨_, rfl⟩
   have hmem : x ∈ l := by rw [hx]; exact List.getElem_mem _
   rw [← hx] at hcs
   have up : ∀ b, b < w.heap.size → b < wr.heap.size := fun b h => Nat.lt_of_lt_of_le h hb.size
   have kp : Keeps (· < w.heap.size) w wr := fun b h => hb.block b h
   obtain rfl := hcs
   have HC := hp wr x hmem hb
   have i0 : wr.cell? ⟨b, off + k * 2, none⟩ = some (.string x.1) := by have h := (hcell.keep (hb.block b hbl)).at_ (j := 0) rfl; simpa using h
   have i1 : wr.cell? ⟨b, off + k * 2 + 1, none⟩ = some (.int .i64 x.2) := (hcell.keep (hb.block b hbl)).at_ (j := 1) rfl
   have HX := Lib.hid hx
   clear hcell hel hform up kp hmem hcl hx
   cases hq : p x with
   | true =>
    rw [hq] at HC
    have HQ := Lib.hid hq
    clear hq
    go_wp2_with (go_at_call 132; refine HC.mono ?_; rintro e w' ⟨rfl, hb'⟩)
    go_ret
    refine ⟨?_, hb'⟩
    have hq := HQ.out
    rw [HX.out] at hq
    have e : findI p l = (k : Int) := by
     unfold findI
     rw [if_pos (List.any_eq_true.2 ⟨l[k], List.getElem_mem _, hq⟩)]
     have : l.findIdx p = k := (List.findIdx_eq hlt).2 ⟨hq, fun j hj => HNO.out j (by omega) hj⟩
     rw [this]
    rw [e]; rfl
   | false =>
    rw [hq] at HC
    have HQ := Lib.hid hq
    clear hq
    go_wp2_with (go_at_call 132; refine HC.mono ?_; rintro e w' ⟨rfl, hb'⟩)
    go_roundw
    case rel =>
     have hq := HQ.out
     rw [HX.out] at hq
     refine ⟨k + 1, by omega, by go_num, fun j h hj => ?_, hb'⟩
     by_cases e : j = k
     ·subst e; exact hq
     ·exact HNO.out j h (by omega)
    case measure => simp [intOf]; omega
  ·have d1 : decide ((k : Int) < (l.length : Int)) = false := decide_eq_false (by omega)
   go_wp2
   go_ret
   refine ⟨?_, hb⟩
   have e : findI p l = -1 := by
    unfold findI
    rw [if_neg]
    intro h
    obtain ⟨x, hx, hpx⟩ := List.any_eq_true.1 h
    obtain ⟨j, hj, rfl⟩ := List.getElem_of_mem hx
    rw [HNO.out j hj (by omega)] at hpx
    cases hpx
   rw [e]; rfl
theorem con_named1 (l : List (ByteArray × Int)) (v : Value) (fb : Nat) (p : (ByteArray × Int) → Bool) (w : World) (hv : SlR w (· < w.heap.size) 2 (RArr) v l) (hp : Pred_arr 132 #[.pointer (some ⟨fb, 0, none⟩)] p l w) :
  Calls Tryz.prog 27 #[v, .func (.func 132) #[] #[.pointer (some ⟨fb, 0, none⟩)]] w fun e w' => e = .returned (.bool (l.any p)) ∧ Below w.heap.size w w' := by
 have h := idx_named1 l v fb p w hv hp
 rw [← findI_any]
 go_enter Tryz.func27, Tryz.ntmps27
 go_wp2_with (go_at_call 55; refine h.mono ?_; rintro e w' ⟨rfl, hb'⟩)
 go_ret
 exact ⟨rfl, hb'⟩
set_option maxHeartbeats 1000000 in
theorem idx_named2 (l : List Int) (v : Value) (fb : Nat) (p : Int → Bool) (w : World) (hv : SlR w (· < w.heap.size) 1 (RInt) v l) (hp : PredZ 133 #[.pointer (some ⟨fb, 0, none⟩)] p l w) :
  Calls Tryz.prog 100 #[v, .func (.func 133) #[] #[.pointer (some ⟨fb, 0, none⟩)]] w fun e w' => e = .returned (.int .i64 (findI p l)) ∧ Below w.heap.size w w' := by
 obtain ⟨AA, cc, hvv, hlc, hcm⟩ := hv.val
 have HV := Lib.hid hv
 clear hv
 subst hvv
 have hlen := Nat.le_trans hlc hcm
 unfold maxLen at hlen
 go_enter Tryz.func100, Tryz.ntmps100
 go_wp2
 go_loopw [5, 8] (fun _ i wr => ∃ k : Nat, k ≤ l.length ∧ i = .int .i64 k ∧ (∀ j (h : j < l.length), j < k → p l[j] = false) ∧ Below w.heap.size w wr) (fun _ i _ => l.length - (intOf i).toNat)
 case atStart => exact ⟨0, by omega, rfl, fun j _ h => by omega, Below.refl _ _⟩
 case round =>
  obtain ⟨k, hk, rfl, hno, hb⟩ := hrel
  have HNO := Lib.hid hno
  clear hno
  by_cases hlt : k < l.length
  ·have d1 : decide ((k : Int) < (l.length : Int)) = true := decide_eq_true (by omega)
   obtain ⟨b, off, c', hform, _, _, hbl, hel⟩ := HV.out.form (by omega)
   obtain ⟨cs, hcl, hcs, hcell⟩ := hel k hlt
   obtain ⟨rfl, rfl⟩ : AA = some ⟨b, off, none⟩ ∧ cc = c' := by injection hform with h1 _ h2; exact ⟨h1, h2⟩
   obtain ⟨x, hx⟩ : ∃ x, x = l[k] := ⟨_, rfl⟩
   have hmem : x ∈ l := by rw [hx]; exact List.getElem_mem _
   rw [← hx] at hcs
   have up : ∀ b, b < w.heap.size → b < wr.heap.size := fun b h => Nat.lt_of_lt_of_le h hb.size
   have kp : Keeps (· < w.heap.size) w wr := fun b h => hb.block b h
   obtain rfl := hcs
   have HC := hp wr x hmem hb
   have i0 : wr.cell? ⟨b, off + k, none⟩ = some (.int .i64 x) := by have h := (hcell.keep (hb.block b hbl)).at_ (j := 0) rfl; simpa using h
   have HX := Lib.hid hx
   clear hcell hel hform up kp hmem hcl hx
   cases hq : p x with
   | true =>
    rw [hq] at HC
    have HQ := Lib.hid hq
    clear hq
    go_wp2_with (go_at_call 133; refine HC.mono ?_; rintro e w' ⟨rfl, hb'⟩)
    go_ret
    refine ⟨?_, hb'⟩
    have hq := HQ.out
    rw [HX.out] at hq
    have e : findI p l = (k : Int) := by
     unfold findI
     rw [if_pos (List.any_eq_true.2 ⟨l[k], List.getElem_mem _, hq⟩)]
     have : l.findIdx p = k := (List.findIdx_eq hlt).2 ⟨hq, fun j hj => HNO.out j (by omega) hj⟩
     rw [this]
    rw [e]; rfl
   | false =>
    rw [hq] at HC
    have HQ := Lib.hid hq
    clear hq
    go_wp2_with (go_at_call 133; refine HC.mono ?_; rintro e w' ⟨rfl, hb'⟩)
    go_roundw
    case rel =>
     have hq := HQ.out
     rw [HX.out] at hq
     refine ⟨k + 1, by omega, by go_num, fun j h hj => ?_, hb'⟩
     by_cases e : j = k
     ·subst e; exact hq
     ·exact HNO.out j h (by omega)
    case measure => simp [intOf]; omega
  ·have d1 : decide ((k : Int) < (l.length : Int)) = false := decide_eq_false (by omega)
   go_wp2
   go_ret
   refine ⟨?_, hb⟩
   have e : findI p l = -1 := by
    unfold findI
    rw [if_neg]
    intro h
    obtain ⟨x, hx, hpx⟩ := List.any_eq_true.1 h
    obtain ⟨j, hj, rfl⟩ := List.getElem_of_mem hx
    rw [HNO.out j hj (by omega)] at hpx
    cases hpx
   rw [e]; rfl
theorem con_named2 (l : List Int) (v : Value) (fb : Nat) (p : Int → Bool) (w : World) (hv : SlR w (· < w.heap.size) 1 (RInt) v l) (hp : PredZ 133 #[.pointer (some ⟨fb, 0, none⟩)] p l w) :
  Calls Tryz.prog 70 #[v, .func (.func 133) #[] #[.pointer (some ⟨fb, 0, none⟩)]] w fun e w' => e = .returned (.bool (l.any p)) ∧ Below w.heap.size w w' := by
 have h := idx_named2 l v fb p w hv hp
 rw [← findI_any]
 go_enter Tryz.func70, Tryz.ntmps70
 go_wp2_with (go_at_call 100; refine h.mono ?_; rintro e w' ⟨rfl, hb'⟩)
 go_ret
 exact ⟨rfl, hb'⟩
set_option maxHeartbeats 1000000 in
theorem idx_name (l : List ByteArray) (v : Value) (p : ByteArray → Bool) (w : World) (hv : SlR w (· < w.heap.size) 1 (RStr) v l) (hp : Pred_str 58 #[] p l w) :
  Calls Tryz.prog 90 #[v, .func (.func 58) #[] #[]] w fun e w' => e = .returned (.int .i64 (findI p l)) ∧ Below w.heap.size w w' := by
 obtain ⟨AA, cc, hvv, hlc, hcm⟩ := hv.val
 have HV := Lib.hid hv
 clear hv
 subst hvv
 have hlen := Nat.le_trans hlc hcm
 unfold maxLen at hlen
 go_enter Tryz.func90, Tryz.ntmps90
 go_wp2
 go_loopw [5, 8] (fun _ i wr => ∃ k : Nat, k ≤ l.length ∧ i = .int .i64 k ∧ (∀ j (h : j < l.length), j < k → p l[j] = false) ∧ Below w.heap.size w wr) (fun _ i _ => l.length - (intOf i).toNat)
 case atStart => exact ⟨0, by omega, rfl, fun j _ h => by omega, Below.refl _ _⟩
 case round =>
  obtain ⟨k, hk, rfl, hno, hb⟩ := hrel
  have HNO := Lib.hid hno
  clear hno
  by_cases hlt : k < l.length
  ·have d1 : decide ((k : Int) < (l.length : Int)) = true := decide_eq_true (by omega)
   obtain ⟨b, off, c', hform, _, _, hbl, hel⟩ := HV.out.form (by omega)
   obtain ⟨cs, hcl, hcs, hcell⟩ := hel k hlt
   obtain ⟨rfl, rfl⟩ : AA = some ⟨b, off, none⟩ ∧ cc = c' := by injection hform with h1 _ h2; exact ⟨h1, h2⟩
   obtain ⟨x, hx⟩ : ∃ x, x = l[k] := ⟨_, rfl⟩
   have hmem : x ∈ l := by rw [hx]; exact List.getElem_mem _
   rw [← hx] at hcs
   have up : ∀ b, b < w.heap.size → b < wr.heap.size := fun b h => Nat.lt_of_lt_of_le h hb.size
   have kp : Keeps (· < w.heap.size) w wr := fun b h => hb.block b h
   obtain rfl := hcs
   have HC := hp wr x hmem hb
   have i0 : wr.cell? ⟨b, off + k, none⟩ = some (.string x) := by have h := (hcell.keep (hb.block b hbl)).at_ (j := 0) rfl; simpa using h
   have HX := Lib.hid hx
   clear hcell hel hform up kp hmem hcl hx
   cases hq : p x with
   | true =>
    rw [hq] at HC
    have HQ := Lib.hid hq
    clear hq
    go_wp2_with (go_at_call 58; refine HC.mono ?_; rintro e w' ⟨rfl, hb'⟩)
    go_ret
    refine ⟨?_, hb'⟩
    have hq := HQ.out
    rw [HX.out] at hq
    have e : findI p l = (k : Int) := by
     unfold findI
     rw [if_pos (List.any_eq_true.2 ⟨l[k], List.getElem_mem _, hq⟩)]
     have : l.findIdx p = k := (List.findIdx_eq hlt).2 ⟨hq, fun j hj => HNO.out j (by omega) hj⟩
     rw [this]
    rw [e]; rfl
   | false =>
    rw [hq] at HC
    have HQ := Lib.hid hq
    clear hq
    go_wp2_with (go_at_call 58; refine HC.mono ?_; rintro e w' ⟨rfl, hb'⟩)
    go_roundw
    case rel =>
     have hq := HQ.out
     rw [HX.out] at hq
     refine ⟨k + 1, by omega, by go_num, fun j h hj => ?_, hb'⟩
     by_cases e : j = k
     ·subst e; exact hq
     ·exact HNO.out j h (by omega)
    case measure => simp [intOf]; omega
  ·have d1 : decide ((k : Int) < (l.length : Int)) = false := decide_eq_false (by omega)
   go_wp2
   go_ret
   refine ⟨?_, hb⟩
   have e : findI p l = -1 := by
    unfold findI
    rw [if_neg]
    intro h
    obtain ⟨x, hx, hpx⟩ := List.any_eq_true.1 h
    obtain ⟨j, hj, rfl⟩ := List.getElem_of_mem hx
    rw [HNO.out j hj (by omega)] at hpx
    cases hpx
   rw [e]; rfl
theorem con_name (l : List ByteArray) (v : Value) (p : ByteArray → Bool) (w : World) (hv : SlR w (· < w.heap.size) 1 (RStr) v l) (hp : Pred_str 58 #[] p l w) :
  Calls Tryz.prog 57 #[v, .func (.func 58) #[] #[]] w fun e w' => e = .returned (.bool (l.any p)) ∧ Below w.heap.size w w' := by
 have h := idx_name l v p w hv hp
 rw [← findI_any]
 go_enter Tryz.func57, Tryz.ntmps57
 go_wp2_with (go_at_call 90; refine h.mono ?_; rintro e w' ⟨rfl, hb'⟩)
 go_ret
 exact ⟨rfl, hb'⟩
set_option maxHeartbeats 1000000 in
theorem idx_bad1 (l : List LBlock) (v : Value) (fb : Nat) (p : LBlock → Bool) (w : World) (hv : SlR w (· < w.heap.size) 5 (RBlock w (· < w.heap.size)) v l) (hp : Pred_block 63 #[.pointer (some ⟨fb, 0, none⟩)] p l w) :
  Calls Tryz.prog 62 #[v, .func (.func 63) #[] #[.pointer (some ⟨fb, 0, none⟩)]] w fun e w' => e = .returned (.int .i64 (findI p l)) ∧ Below w.heap.size w w' := by
 obtain ⟨AA, cc, hvv, hlc, hcm⟩ := hv.val
 have HV := Lib.hid hv
 clear hv
 subst hvv
 have hlen := Nat.le_trans hlc hcm
 unfold maxLen at hlen
 go_enter Tryz.func62, Tryz.ntmps62
 go_wp2
 go_loopw [5, 8] (fun _ i wr => ∃ k : Nat, k ≤ l.length ∧ i = .int .i64 k ∧ (∀ j (h : j < l.length), j < k → p l[j] = false) ∧ Below w.heap.size w wr) (fun _ i _ => l.length - (intOf i).toNat)
 case atStart => exact ⟨0, by omega, rfl, fun j _ h => by omega, Below.refl _ _⟩
 case round =>
  obtain ⟨k, hk, rfl, hno, hb⟩ := hrel
  have HNO := Lib.hid hno
  clear hno
  by_cases hlt : k < l.length
  ·have d1 : decide ((k : Int) < (l.length : Int)) = true := decide_eq_true (by omega)
   obtain ⟨b, off, c', hform, _, _, hbl, hel⟩ := HV.out.form (by omega)
   obtain ⟨cs, hcl, hcs, hcell⟩ := hel k hlt
   obtain ⟨rfl, rfl⟩ : AA = some ⟨b, off, none⟩ ∧ cc = c' := by injection hform with h1 _ h2; exact ⟨h1, h2⟩
   obtain ⟨x, hx⟩ : ∃ x, x = l[k] := ⟨_, rfl⟩
   have hmem : x ∈ l := by rw [hx]; exact List.getElem_mem _
   rw [← hx] at hcs
   have up : ∀ b, b < w.heap.size → b < wr.heap.size := fun b h => Nat.lt_of_lt_of_le h hb.size
   have kp : Keeps (· < w.heap.size) w wr := fun b h => hb.block b h
   obtain ⟨va, rfl, hs⟩ := hcs
   obtain ⟨A, c, hva, _, _⟩ := hs.val
   subst hva
   have HC := hp wr x A c hmem hb (hs.imp (R' := RIns wr (· < wr.heap.size)) up kp (fun _ _ _ r => r.imp up kp))
   have i0 : wr.cell? ⟨b, off + k * 5, none⟩ = some (.slice A x.ins.length c) := by have h := (hcell.keep (hb.block b hbl)).at_ (j := 0) rfl; simpa using h
   have i1 : wr.cell? ⟨b, off + k * 5 + 1, none⟩ = some (.int .i64 x.term.kind) := (hcell.keep (hb.block b hbl)).at_ (j := 1) rfl
   have i2 : wr.cell? ⟨b, off + k * 5 + 2, none⟩ = some (.int .i64 x.term.a) := (hcell.keep (hb.block b hbl)).at_ (j := 2) rfl
   have i3 : wr.cell? ⟨b, off + k * 5 + 3, none⟩ = some (.int .i64 x.term.to) := (hcell.keep (hb.block b hbl)).at_ (j := 3) rfl
   have i4 : wr.cell? ⟨b, off + k * 5 + 4, none⟩ = some (.int .i64 x.term.els) := (hcell.keep (hb.block b hbl)).at_ (j := 4) rfl
   have HX := Lib.hid hx
   clear hcell hel hform up kp hmem hcl hs hx
   cases hq : p x with
   | true =>
    rw [hq] at HC
    have HQ := Lib.hid hq
    clear hq
    go_wp2_with (go_at_call 63; refine HC.mono ?_; rintro e w' ⟨rfl, hb'⟩)
    go_ret
    refine ⟨?_, hb'⟩
    have hq := HQ.out
    rw [HX.out] at hq
    have e : findI p l = (k : Int) := by
     unfold findI
     rw [if_pos (List.any_eq_true.2 ⟨l[k], List.getElem_mem _, hq⟩)]
     have : l.findIdx p = k := (List.findIdx_eq hlt).2 ⟨hq, fun j hj => HNO.out j (by omega) hj⟩
     rw [this]
    rw [e]; rfl
   | false =>
    rw [hq] at HC
    have HQ := Lib.hid hq
    clear hq
    go_wp2_with (go_at_call 63; refine HC.mono ?_; rintro e w' ⟨rfl, hb'⟩)
    go_roundw
    case rel =>
     have hq := HQ.out
     rw [HX.out] at hq
     refine ⟨k + 1, by omega, by go_num, fun j h hj => ?_, hb'⟩
     by_cases e : j = k
     ·subst e; exact hq
     ·exact HNO.out j h (by omega)
    case measure => simp [intOf]; omega
  ·have d1 : decide ((k : Int) < (l.length : Int)) = false := decide_eq_false (by omega)
   go_wp2
   go_ret
   refine ⟨?_, hb⟩
   have e : findI p l = -1 := by
    unfold findI
    rw [if_neg]
    intro h
    obtain ⟨x, hx, hpx⟩ := List.any_eq_true.1 h
    obtain ⟨j, hj, rfl⟩ := List.getElem_of_mem hx
    rw [HNO.out j hj (by omega)] at hpx
    cases hpx
   rw [e]; rfl
set_option maxHeartbeats 1000000 in
theorem idx_bad2 (l : List LIns) (v : Value) (fb : Nat) (p : LIns → Bool) (w : World) (hv : SlR w (· < w.heap.size) 8 (RIns w (· < w.heap.size)) v l) (hp : Pred_ins 66 #[.pointer (some ⟨fb, 0, none⟩)] p l w) :
  Calls Tryz.prog 85 #[v, .func (.func 66) #[] #[.pointer (some ⟨fb, 0, none⟩)]] w fun e w' => e = .returned (.int .i64 (findI p l)) ∧ Below w.heap.size w w' := by
 obtain ⟨AA, cc, hvv, hlc, hcm⟩ := hv.val
 have HV := Lib.hid hv
 clear hv
 subst hvv
 have hlen := Nat.le_trans hlc hcm
 unfold maxLen at hlen
 go_enter Tryz.func85, Tryz.ntmps85
 go_wp2
 go_loopw [5, 8] (fun _ i wr => ∃ k : Nat, k ≤ l.length ∧ i = .int .i64 k ∧ (∀ j (h : j < l.length), j < k → p l[j] = false) ∧ Below w.heap.size w wr) (fun _ i _ => l.length - (intOf i).toNat)
 case atStart => exact ⟨0, by omega, rfl, fun j _ h => by omega, Below.refl _ _⟩
 case round =>
  obtain ⟨k, hk, rfl, hno, hb⟩ := hrel
  have HNO := Lib.hid hno
  clear hno
  by_cases hlt : k < l.length
  ·have d1 : decide ((k : Int) < (l.length : Int)) = true := decide_eq_true (by omega)
   obtain ⟨b, off, c', hform, _, _, hbl, hel⟩ := HV.out.form (by omega)
   obtain ⟨cs, hcl, hcs, hcell⟩ := hel k hlt
   obtain ⟨rfl, rfl⟩ : AA = some ⟨b, off, none⟩ ∧ cc = c' := by injection hform with h1 _ h2; exact ⟨h1, h2⟩
   obtain ⟨x, hx⟩ : ∃ x, x = l[k] := ⟨_, rfl⟩
   have hmem : x ∈ l := by rw [hx]; exact List.getElem_mem _
   rw [← hx] at hcs
   have up : ∀ b, b < w.heap.size → b < wr.heap.size := fun b h => Nat.lt_of_lt_of_le h hb.size
   have kp : Keeps (· < w.heap.size) w wr := fun b h => hb.block b h
   obtain ⟨va, rfl, hs⟩ := hcs
   obtain ⟨A, c, hva, _, _⟩ := hs.val
   subst hva
   have HC := hp wr x A c hmem hb (hs.imp (R' := RInt) up kp (fun _ _ _ r => r))
   have i0 : wr.cell? ⟨b, off + k * 8, none⟩ = some (.int .i64 x.kind) := by have h := (hcell.keep (hb.block b hbl)).at_ (j := 0) rfl; simpa using h
   have i1 : wr.cell? ⟨b, off + k * 8 + 1, none⟩ = some (.int .i64 x.d) := (hcell.keep (hb.block b hbl)).at_ (j := 1) rfl
   have i2 : wr.cell? ⟨b, off + k * 8 + 2, none⟩ = some (.int .i64 x.a) := (hcell.keep (hb.block b hbl)).at_ (j := 2) rfl
   have i3 : wr.cell? ⟨b, off + k * 8 + 3, none⟩ = some (.int .i64 x.b) := (hcell.keep (hb.block b hbl)).at_ (j := 3) rfl
   have i4 : wr.cell? ⟨b, off + k * 8 + 4, none⟩ = some (.int .i64 x.op) := (hcell.keep (hb.block b hbl)).at_ (j := 4) rfl
   have i5 : wr.cell? ⟨b, off + k * 8 + 5, none⟩ = some (.int .i64 x.n) := (hcell.keep (hb.block b hbl)).at_ (j := 5) rfl
   have i6 : wr.cell? ⟨b, off + k * 8 + 6, none⟩ = some (.string x.name) := (hcell.keep (hb.block b hbl)).at_ (j := 6) rfl
   have i7 : wr.cell? ⟨b, off + k * 8 + 7, none⟩ = some (.slice A x.args.length c) := (hcell.keep (hb.block b hbl)).at_ (j := 7) rfl
   have HX := Lib.hid hx
   clear hcell hel hform up kp hmem hcl hs hx
   cases hq : p x with
   | true =>
    rw [hq] at HC
    have HQ := Lib.hid hq
    clear hq
    go_wp2_with (go_at_call 66; refine HC.mono ?_; rintro e w' ⟨rfl, hb'⟩)
    go_ret
    refine ⟨?_, hb'⟩
    have hq := HQ.out
    rw [HX.out] at hq
    have e : findI p l = (k : Int) := by
     unfold findI
     rw [if_pos (List.any_eq_true.2 ⟨l[k], List.getElem_mem _, hq⟩)]
     have : l.findIdx p = k := (List.findIdx_eq hlt).2 ⟨hq, fun j hj => HNO.out j (by omega) hj⟩
     rw [this]
    rw [e]; rfl
   | false =>
    rw [hq] at HC
    have HQ := Lib.hid hq
    clear hq
    go_wp2_with (go_at_call 66; refine HC.mono ?_; rintro e w' ⟨rfl, hb'⟩)
    go_roundw
    case rel =>
     have hq := HQ.out
     rw [HX.out] at hq
     refine ⟨k + 1, by omega, by go_num, fun j h hj => ?_, hb'⟩
     by_cases e : j = k
     ·subst e; exact hq
     ·exact HNO.out j h (by omega)
    case measure => simp [intOf]; omega
  ·have d1 : decide ((k : Int) < (l.length : Int)) = false := decide_eq_false (by omega)
   go_wp2
   go_ret
   refine ⟨?_, hb⟩
   have e : findI p l = -1 := by
    unfold findI
    rw [if_neg]
    intro h
    obtain ⟨x, hx, hpx⟩ := List.any_eq_true.1 h
    obtain ⟨j, hj, rfl⟩ := List.getElem_of_mem hx
    rw [HNO.out j hj (by omega)] at hpx
    cases hpx
   rw [e]; rfl
theorem con_bad2 (l : List LIns) (v : Value) (fb : Nat) (p : LIns → Bool) (w : World) (hv : SlR w (· < w.heap.size) 8 (RIns w (· < w.heap.size)) v l) (hp : Pred_ins 66 #[.pointer (some ⟨fb, 0, none⟩)] p l w) :
  Calls Tryz.prog 65 #[v, .func (.func 66) #[] #[.pointer (some ⟨fb, 0, none⟩)]] w fun e w' => e = .returned (.bool (l.any p)) ∧ Below w.heap.size w w' := by
 have h := idx_bad2 l v fb p w hv hp
 rw [← findI_any]
 go_enter Tryz.func65, Tryz.ntmps65
 go_wp2_with (go_at_call 85; refine h.mono ?_; rintro e w' ⟨rfl, hb'⟩)
 go_ret
 exact ⟨rfl, hb'⟩
end Go.Proofs.YtkpigkopjfkepaaGreatDoor
