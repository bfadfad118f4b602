/- What ir.Next, flow.wants, flow.sets, ir.Uses and slices.ContainsFunc do, at any instruction, end and row of numbers. What ir.Uses does, at any instruction. What flow.may does, at any function that may be: it says so. The functions that Fit makes may be, for flow. -/
import Derived.Test.YtkpigkopjfkepaaGreatDoorPrFitMem
import Derived.Deep.Upon
import Derived.Lib.SlFresh
namespace Go.Proofs.YtkpigkopjfkepaaGreatDoor
open Go.RowKit
def nextL (t : LTerm) : List Int := if t.kind = 2 ∧ t.to ≠ t.els then [t.to, t.els] else if t.kind = 2 ∨ t.kind = 1 then [t.to] else []
def wantsL (t : LTerm) : List Int := if t.kind = 2 ∨ t.kind = 3 ∨ t.kind = 4 then [t.a] else []
def setsL (x : LIns) : List Int := if x.kind < 1 ∨ x.kind > 9 ∨ x.kind = 6 ∨ x.kind = 8 then [] else [x.d]
def hasA (k : Int) : Bool := k = 2 ∨ k = 3 ∨ k = 4 ∨ k = 5 ∨ k = 6 ∨ k = 8
def hasB (k : Int) : Bool := k = 4 ∨ k = 6
def usesL (x : LIns) : List Int := (if hasA x.kind then [x.a] else []) ++ (if hasB x.kind then [x.b] else []) ++ (if x.kind = 9 then x.args else [])
def IntsPost (l : List Int) (w : World) (e : Ending) (w' : World) : Prop :=
 ∃ v, e = .returned v ∧ Below w.heap.size w w' ∧ SlR w' (fun b => w.heap.size ≤ b ∧ b < w'.heap.size) 1 RInt v l
theorem below1 (w : World) (a : Obj) : Below w.heap.size w (w.alloc a) := (Below.refl _ _).alloc (Nat.le_refl _) _
theorem below2 (w : World) (a b : Obj) : Below w.heap.size w ((w.alloc a).alloc b) := (below1 w a).alloc (by simp) _
theorem slr_new1 (w : World) (t : TypeId) (a : Int) (ok : Nat → Prop) {n : Nat} (hn : n = w.heap.size) (h : ok n) : SlR (w.alloc (.cells #[.int .i64 a] t)) ok 1 RInt (.slice (some ⟨n, 0, none⟩) 1 1) [a] := by
 subst hn
 refine ⟨_, 1, rfl, Nat.le_refl 1, by unfold maxLen; omega, .inr ⟨w.heap.size, 0, rfl, h, ?_⟩⟩
 intro i hi
 have hi' : i < 1 := hi
 obtain rfl : i = 0 := by omega
 refine ⟨[.int .i64 a], rfl, rfl, ?_⟩
 intro j hj
 have hj' : j < 1 := hj
 obtain rfl : j = 0 := by omega
 exact (Blk.new w t #[.int .i64 a]).cell 0
theorem slr_new2 (w : World) (t : TypeId) (a b : Int) (ok : Nat → Prop) {n : Nat} (hn : n = w.heap.size) (h : ok n) : SlR (w.alloc (.cells #[.int .i64 a, .int .i64 b] t)) ok 1 RInt (.slice (some ⟨n, 0, none⟩) 2 2) [a, b] := by
 subst hn
 refine ⟨_, 2, rfl, Nat.le_refl 2, by unfold maxLen; omega, .inr ⟨w.heap.size, 0, rfl, h, ?_⟩⟩
 intro i hi
 have hi' : i < 2 := hi
 rcases (by omega : i = 0 ∨ i = 1) with rfl | rfl
 ·refine ⟨[.int .i64 a], rfl, rfl, ?_⟩
  intro j hj
  have hj' : j < 1 := hj
  obtain rfl : j = 0 := by omega
  exact (Blk.new w t #[.int .i64 a, .int .i64 b]).cell 0
 ·refine ⟨[.int .i64 b], rfl, rfl, ?_⟩
  intro j hj
  have hj' : j < 1 := hj
  obtain rfl : j = 0 := by omega
  exact (Blk.new w t #[.int .i64 a, .int .i64 b]).cell 1
theorem ints1 {w : World} (o : Obj) (t : TypeId) (a : Int) : IntsPost [a] w (.returned (.slice (some ⟨w.heap.size + 1, 0, none⟩) 1 1)) ((w.alloc o).alloc (.cells #[.int .i64 a] t)) := by
 exact ⟨_, rfl, below2 _ _ _, slr_new1 (w.alloc o) t a (fun b => w.heap.size ≤ b ∧ b < ((w.alloc o).alloc (.cells #[.int .i64 a] t)).heap.size) (by simp) ⟨by simp, by simp⟩⟩
theorem ints2 {w : World} (o : Obj) (t : TypeId) (a b : Int) : IntsPost [a, b] w (.returned (.slice (some ⟨w.heap.size + 1, 0, none⟩) 2 2)) ((w.alloc o).alloc (.cells #[.int .i64 a, .int .i64 b] t)) := by
 exact ⟨_, rfl, below2 _ _ _, slr_new2 (w.alloc o) t a b (fun x => w.heap.size ≤ x ∧ x < ((w.alloc o).alloc (.cells #[.int .i64 a, .int .i64 b] t)).heap.size) (by simp) ⟨by simp, by simp⟩⟩
set_option maxHeartbeats 1000000 in
theorem next_any (t : LTerm) (w : World) : Calls Tryz.prog 34 #[.agg #[.int .i64 t.kind, .int .i64 t.a, .int .i64 t.to, .int .i64 t.els]] w (IntsPost (nextL t) w) := by
 go_enter Tryz.func34, Tryz.ntmps34
 by_cases h2 : t.kind = 2
 ·have b2 : (t.kind == 2) = true := beq_iff_eq.2 h2
  have d2 : decide (t.kind = 2) = true := decide_eq_true h2
  by_cases hte : t.to = t.els
  ·have bt : (t.to != t.els) = false := by rw [hte]; simp
   have dt : decide (t.to = t.els) = true := decide_eq_true hte
   have e : nextL t = [t.to] := by unfold nextL; rw [if_neg (by simp [hte]), if_pos (.inl h2)]
   rw [e]
   clear e hte h2
   go_wp2
   go_ret
   exact ints1 _ _ _
  ·have bt : (t.to != t.els) = true := by simp [hte]
   have dt : decide (t.to = t.els) = false := decide_eq_false hte
   have e : nextL t = [t.to, t.els] := by unfold nextL; rw [if_pos ⟨h2, hte⟩]
   rw [e]
   clear e hte h2
   go_wp2
   go_ret
   exact ints2 _ _ _ _
 ·have b2 : (t.kind == 2) = false := by simp [h2]
  have d2 : decide (t.kind = 2) = false := decide_eq_false h2
  by_cases h1 : t.kind = 1
  ·have b1 : (t.kind == 1) = true := beq_iff_eq.2 h1
   have d1 : decide (t.kind = 1) = true := decide_eq_true h1
   have e : nextL t = [t.to] := by unfold nextL; rw [if_neg (by simp [h2]), if_pos (.inr h1)]
   rw [e]
   clear e h1 h2
   go_wp2
   go_ret
   exact ints1 _ _ _
  ·have b1 : (t.kind == 1) = false := by simp [h1]
   have d1 : decide (t.kind = 1) = false := decide_eq_false h1
   have e : nextL t = [] := by unfold nextL; rw [if_neg (by simp [h2]), if_neg (by simp [h1, h2])]
   rw [e]
   clear e h1 h2
   go_wp2
   go_ret
   exact ⟨_, rfl, below1 _ _, SlR.nil_ _ _ _ _⟩
set_option maxHeartbeats 1000000 in
theorem wants_any (t : LTerm) (w : World) : Calls Tryz.prog 72 #[.agg #[.int .i64 t.kind, .int .i64 t.a, .int .i64 t.to, .int .i64 t.els]] w (IntsPost (wantsL t) w) := by
 go_enter Tryz.func72, Tryz.ntmps72
 have hcase : (t.kind = 2 ∨ t.kind = 3 ∨ t.kind = 4) ∨ (t.kind ≠ 2 ∧ t.kind ≠ 3 ∧ t.kind ≠ 4) := by omega
 rcases hcase with h | ⟨h2, h3, h4⟩
 ·have e : wantsL t = [t.a] := by unfold wantsL; rw [if_pos h]
  rw [e]
  rcases h with h | h | h
  all_goals
   rw [h]
   clear h e
   go_wp2
   go_ret
   exact ints1 _ _ _
 ·have e : wantsL t = [] := by unfold wantsL; rw [if_neg (by simp [h2, h3, h4])]
  rw [e]
  have d2 : decide (t.kind = 2) = false := decide_eq_false h2
  have d3 : decide (t.kind = 3) = false := decide_eq_false h3
  have d4 : decide (t.kind = 4) = false := decide_eq_false h4
  have b2 : (t.kind == 2) = false := by simp [h2]
  have b3 : (t.kind == 3) = false := by simp [h3]
  have b4 : (t.kind == 4) = false := by simp [h4]
  clear e h2 h3 h4
  go_wp2
  go_ret
  exact ⟨_, rfl, below1 _ _, SlR.nil_ _ _ _ _⟩
set_option maxHeartbeats 1000000 in
theorem sets_any (x : LIns) (va : Value) (w : World) : Calls Tryz.prog 74 #[.agg #[.int .i64 x.kind, .int .i64 x.d, .int .i64 x.a, .int .i64 x.b, .int .i64 x.op, .int .i64 x.n, .string x.name, va]] w (IntsPost (setsL x) w) := by
 go_enter Tryz.func74, Tryz.ntmps74
 by_cases h1 : x.kind < 1
 ·have d1 : decide (x.kind < 1) = true := decide_eq_true h1
  have e : setsL x = [] := by unfold setsL; rw [if_pos (.inl h1)]
  rw [e]
  go_wp2
  go_ret
  exact ⟨_, rfl, below1 _ _, SlR.nil_ _ _ _ _⟩
 have d1 : decide (x.kind < 1) = false := decide_eq_false h1
 by_cases h2 : 9 < x.kind
 ·have d2 : decide (9 < x.kind) = true := decide_eq_true h2
  have e : setsL x = [] := by unfold setsL; rw [if_pos (.inr (.inl h2))]
  rw [e]
  go_wp2
  go_ret
  exact ⟨_, rfl, below1 _ _, SlR.nil_ _ _ _ _⟩
 have d2 : decide (9 < x.kind) = false := decide_eq_false h2
 by_cases h3 : x.kind = 6
 ·have e : setsL x = [] := by unfold setsL; rw [if_pos (.inr (.inr (.inl h3)))]
  rw [e]
  clear e h1 h2 d1 d2
  rw [h3]
  go_wp2
  go_ret
  exact ⟨_, rfl, below1 _ _, SlR.nil_ _ _ _ _⟩
 by_cases h4 : x.kind = 8
 ·have e : setsL x = [] := by unfold setsL; rw [if_pos (.inr (.inr (.inr h4)))]
  rw [e]
  clear e h1 h2 d1 d2
  rw [h4]
  go_wp2
  go_ret
  exact ⟨_, rfl, below1 _ _, SlR.nil_ _ _ _ _⟩
 have e : setsL x = [x.d] := by unfold setsL; rw [if_neg (by omega)]
 rw [e]
 have d3 : decide (x.kind = 6) = false := decide_eq_false h3
 have d4 : decide (x.kind = 8) = false := decide_eq_false h4
 have b3 : (x.kind == 6) = false := by simp [h3]
 have b4 : (x.kind == 8) = false := by simp [h4]
 clear e h1 h2 h3 h4
 go_wp2
 go_ret
 exact ints1 _ _ _
def PredI (g : Nat) (lb : Array Value) (p : Int → Bool) (l : List Int) (w : World) : Prop :=
 ∀ (W : World) (n : Int), n ∈ l → Below w.heap.size w W → Calls Tryz.prog g (#[.int .i64 n] ++ lb) W fun e w' => e = .returned (.bool (p n)) ∧ Below w.heap.size w w'
def idxL (p : Int → Bool) (l : List Int) : Int := if l.any p = true then (l.findIdx p : Int) else -1
theorem idxL_nonneg (p : Int → Bool) (l : List Int) : decide (0 ≤ idxL p l) = l.any p := by
 unfold idxL
 by_cases h : l.any p = true
 ·rw [if_pos h, h]; simp
 ·rw [if_neg h]; simp at h ⊢; simpa using h
set_option maxHeartbeats 1000000 in
theorem idx_odd (l : List Int) (v : Value)  (p : Int → Bool) (w : World) (hv : SlR w (· < w.heap.size) 1 RInt v l)
  (hp : PredI 68 #[] p l w) :
  Calls Tryz.prog 100 #[v, .func (.func 68) #[] #[]] w fun e w' => e = .returned (.int .i64 (idxL p l)) ∧ Below w.heap.size w w' := by
 obtain ⟨A, c, hvv, hlc, hcm⟩ := hv.val
 have HV := Lib.hid hv
 clear hv
 subst hvv
 have hlen := Nat.le_trans hlc hcm
 unfold maxLen at hlen
 go_enter Tryz.func100, Tryz.ntmps100
 go_wp2
 go_loopw [5, 8] (fun _ i wr => ∃ k : Nat, k ≤ l.length ∧ i = .int .i64 k ∧ (∀ j (h : j < l.length), j < k → p l[j] = false) ∧ Below w.heap.size w wr) (fun _ i _ => l.length - (intOf i).toNat)
 case atStart => exact ⟨0, by omega, rfl, fun j _ h => by omega, Below.refl _ _⟩
 case round =>
  obtain ⟨k, hk, rfl, hno, hb⟩ := hrel
  have HNO := Lib.hid hno
  clear hno
  by_cases hlt : k < l.length
  ·have d1 : decide ((k : Int) < (l.length : Int)) = true := decide_eq_true (by omega)
   obtain ⟨b, off, c', hform, _, _, hbl, hel⟩ := HV.out.form (by omega)
   obtain ⟨cs, hcl, hcs, hcell⟩ := hel k hlt
   subst hcs
   obtain ⟨rfl, rfl⟩ : A = some ⟨b, off, none⟩ ∧ c = c' := by injection hform with h1 _ h2; exact ⟨h1, h2⟩
   have i0 : wr.cell? ⟨b, off + k, none⟩ = some (.int .i64 l[k]) := by
    have h := (hcell.keep (hb.block b hbl)).at_ (j := 0) rfl
    simpa using h
   have HC := hp wr l[k] (List.getElem_mem _) hb
   clear hcell hel hform
   cases hq : p l[k] with
   | true =>
    rw [hq] at HC
    go_wp2_with (go_at_call 68; refine HC.mono ?_; rintro e w' ⟨rfl, hb'⟩)
    go_ret
    refine ⟨?_, hb'⟩
    have e : idxL p l = (k : Int) := by
     unfold idxL
     rw [if_pos (List.any_eq_true.2 ⟨l[k], List.getElem_mem _, hq⟩)]
     have : l.findIdx p = k := (List.findIdx_eq hlt).2 ⟨hq, fun j hj => HNO.out j (by omega) hj⟩
     rw [this]
    rw [e]; rfl
   | false =>
    rw [hq] at HC
    go_wp2_with (go_at_call 68; refine HC.mono ?_; rintro e w' ⟨rfl, hb'⟩)
    go_roundw
    case rel =>
     refine ⟨k + 1, by omega, by go_num, fun j h hj => ?_, hb'⟩
     by_cases e : j = k
     ·subst e; exact hq
     ·exact HNO.out j h (by omega)
    case measure => simp [intOf]; omega
  ·have d1 : decide ((k : Int) < (l.length : Int)) = false := decide_eq_false (by omega)
   go_wp2
   go_ret
   refine ⟨?_, hb⟩
   have e : idxL p l = -1 := by
    unfold idxL
    rw [if_neg]
    intro h
    obtain ⟨x, hx, hpx⟩ := List.any_eq_true.1 h
    obtain ⟨j, hj, rfl⟩ := List.getElem_of_mem hx
    rw [HNO.out j hj (by omega)] at hpx
    cases hpx
   rw [e]; rfl
theorem con_odd (l : List Int) (v : Value)  (p : Int → Bool) (w : World) (hv : SlR w (· < w.heap.size) 1 RInt v l)
  (hp : PredI 68 #[] p l w) :
  Calls Tryz.prog 70 #[v, .func (.func 68) #[] #[]] w fun e w' => e = .returned (.bool (l.any p)) ∧ Below w.heap.size w w' := by
 have h := idx_odd l v  p w hv hp
 rw [← idxL_nonneg]
 go_enter Tryz.func70, Tryz.ntmps70
 go_wp2_with (go_at_call 100; refine h.mono ?_; rintro e w' ⟨rfl, hb'⟩)
 go_ret
 exact ⟨rfl, hb'⟩
set_option maxHeartbeats 1000000 in
theorem idx_far (l : List Int) (v : Value) (fb : Nat) (p : Int → Bool) (w : World) (hv : SlR w (· < w.heap.size) 1 RInt v l)
  (hp : PredI 71 #[.pointer (some ⟨fb, 0, none⟩)] p l w) :
  Calls Tryz.prog 100 #[v, .func (.func 71) #[] #[.pointer (some ⟨fb, 0, none⟩)]] w fun e w' => e = .returned (.int .i64 (idxL p l)) ∧ Below w.heap.size w w' := by
 obtain ⟨A, c, hvv, hlc, hcm⟩ := hv.val
 have HV := Lib.hid hv
 clear hv
 subst hvv
 have hlen := Nat.le_trans hlc hcm
 unfold maxLen at hlen
 go_enter Tryz.func100, Tryz.ntmps100
 go_wp2
 go_loopw [5, 8] (fun _ i wr => ∃ k : Nat, k ≤ l.length ∧ i = .int .i64 k ∧ (∀ j (h : j < l.length), j < k → p l[j] = false) ∧ Below w.heap.size w wr) (fun _ i _ => l.length - (intOf i).toNat)
 case atStart => exact ⟨0, by omega, rfl, fun j _ h => by omega, Below.refl _ _⟩
 case round =>
  obtain ⟨k, hk, rfl, hno, hb⟩ := hrel
  have HNO := Lib.hid hno
  clear hno
  by_cases hlt : k < l.length
  ·have d1 : decide ((k : Int) < (l.length : Int)) = true := decide_eq_true (by omega)
   obtain ⟨b, off, c', hform, _, _, hbl, hel⟩ := HV.out.form (by omega)
   obtain ⟨cs, hcl, hcs, hcell⟩ := hel k hlt
   subst hcs
   obtain ⟨rfl, rfl⟩ : A = some ⟨b, off, none⟩ ∧ c = c' := by injection hform with h1 _ h2; exact ⟨h1, h2⟩
   have i0 : wr.cell? ⟨b, off + k, none⟩ = some (.int .i64 l[k]) := by
    have h := (hcell.keep (hb.block b hbl)).at_ (j := 0) rfl
    simpa using h
   have HC := hp wr l[k] (List.getElem_mem _) hb
   clear hcell hel hform
   cases hq : p l[k] with
   | true =>
    rw [hq] at HC
    go_wp2_with (go_at_call 71; refine HC.mono ?_; rintro e w' ⟨rfl, hb'⟩)
    go_ret
    refine ⟨?_, hb'⟩
    have e : idxL p l = (k : Int) := by
     unfold idxL
     rw [if_pos (List.any_eq_true.2 ⟨l[k], List.getElem_mem _, hq⟩)]
     have : l.findIdx p = k := (List.findIdx_eq hlt).2 ⟨hq, fun j hj => HNO.out j (by omega) hj⟩
     rw [this]
    rw [e]; rfl
   | false =>
    rw [hq] at HC
    go_wp2_with (go_at_call 71; refine HC.mono ?_; rintro e w' ⟨rfl, hb'⟩)
    go_roundw
    case rel =>
     refine ⟨k + 1, by omega, by go_num, fun j h hj => ?_, hb'⟩
     by_cases e : j = k
     ·subst e; exact hq
     ·exact HNO.out j h (by omega)
    case measure => simp [intOf]; omega
  ·have d1 : decide ((k : Int) < (l.length : Int)) = false := decide_eq_false (by omega)
   go_wp2
   go_ret
   refine ⟨?_, hb⟩
   have e : idxL p l = -1 := by
    unfold idxL
    rw [if_neg]
    intro h
    obtain ⟨x, hx, hpx⟩ := List.any_eq_true.1 h
    obtain ⟨j, hj, rfl⟩ := List.getElem_of_mem hx
    rw [HNO.out j hj (by omega)] at hpx
    cases hpx
   rw [e]; rfl
theorem con_far (l : List Int) (v : Value) (fb : Nat) (p : Int → Bool) (w : World) (hv : SlR w (· < w.heap.size) 1 RInt v l)
  (hp : PredI 71 #[.pointer (some ⟨fb, 0, none⟩)] p l w) :
  Calls Tryz.prog 70 #[v, .func (.func 71) #[] #[.pointer (some ⟨fb, 0, none⟩)]] w fun e w' => e = .returned (.bool (l.any p)) ∧ Below w.heap.size w w' := by
 have h := idx_far l v fb p w hv hp
 rw [← idxL_nonneg]
 go_enter Tryz.func70, Tryz.ntmps70
 go_wp2_with (go_at_call 100; refine h.mono ?_; rintro e w' ⟨rfl, hb'⟩)
 go_ret
 exact ⟨rfl, hb'⟩
def placeP (n : Int) : Bool := decide (0 ≤ n ∧ n < 50000)
theorem place_any (n : Int) (w : World) : Calls Tryz.prog 69 #[.int .i64 n] w fun e w' => e = .returned (.bool (placeP n)) ∧ w' = w := by
 go_enter Tryz.func69, Tryz.ntmps69
 by_cases h0 : 0 ≤ n
 ·have d0 : decide (0 ≤ n) = true := decide_eq_true h0
  have e : placeP n = decide (n < 50000) := by unfold placeP; simp [h0]
  rw [e]
  clear e h0
  go_wp2
  go_ret
  exact ⟨rfl, rfl⟩
 ·have d0 : decide (0 ≤ n) = false := decide_eq_false h0
  have e : placeP n = false := by unfold placeP; simp; omega
  rw [e]
  clear e h0
  go_wp2
  go_ret
  exact ⟨rfl, rfl⟩
theorem odd_pred (l : List Int) (w : World) : PredI 68 #[] (fun n => !placeP n) l w := by
 intro W n _ hb
 go_enter Tryz.func68, Tryz.ntmps68
 go_wp2_with (go_at_call 69; refine (place_any n _).mono ?_; rintro e w' ⟨rfl, rfl⟩)
 go_ret
 exact ⟨rfl, hb⟩
theorem far_pred (l : List Int) (fb : Nat) (A : Option Addr) (m c : Nat) (w : World) (hf : w.cell? ⟨fb, 3, none⟩ = some (.slice A m c)) : PredI 71 #[.pointer (some ⟨fb, 0, none⟩)] (fun n => decide (n < 0 ∨ (m : Int) ≤ n)) l w := by
 intro W n _ hb
 have hfb : fb < w.heap.size := World.block_lt_of_cell? w _ hf
 have hf' : W.cell? ⟨fb, 3, none⟩ = some (.slice A m c) := (hb.cell (p := ⟨fb, 3, none⟩) hfb).trans hf
 go_enter Tryz.func71, Tryz.ntmps71
 by_cases h0 : n < 0
 ·have d0 : decide (n < 0) = true := decide_eq_true h0
  have e : decide (n < 0 ∨ (m : Int) ≤ n) = true := by simp [h0]
  rw [e]
  clear e h0
  go_wp2
  go_ret
  exact ⟨rfl, hb⟩
 ·have d0 : decide (n < 0) = false := decide_eq_false h0
  have e : decide (n < 0 ∨ (m : Int) ≤ n) = decide ((m : Int) ≤ n) := by simp [h0]
  rw [e]
  clear e h0
  go_wp2
  go_ret
  exact ⟨rfl, hb⟩
def havingL (k : Int) : Int := if k = 1 then 33 else if k = 2 then 3 else if k = 3 then 11 else if k = 4 then 23 else if k = 5 then 67 else if k = 6 then 70 else if k = 7 then 1 else if k = 8 then 2 else if k = 9 then 129 else 0
theorem having_any (k : Int) (w : World) : Calls Tryz.prog 96 #[.int .i64 k] w fun e w' => e = .returned (.int .i64 (havingL k)) ∧ w' = w := by
 go_enter Tryz.func96, Tryz.ntmps96
 have hc : (k = 1 ∨ k = 2 ∨ k = 3 ∨ k = 4 ∨ k = 5 ∨ k = 6 ∨ k = 7 ∨ k = 8 ∨ k = 9) ∨ (k ≠ 1 ∧ k ≠ 2 ∧ k ≠ 3 ∧ k ≠ 4 ∧ k ≠ 5 ∧ k ≠ 6 ∧ k ≠ 7 ∧ k ≠ 8 ∧ k ≠ 9) := by omega
 rcases hc with (rfl | rfl | rfl | rfl | rfl | rfl | rfl | rfl | rfl) | ⟨h1, h2, h3, h4, h5, h6, h7, h8, h9⟩
 all_goals try (go_wp2; go_ret; exact ⟨rfl, rfl⟩)
 have e : havingL k = 0 := by simp [havingL, h1, h2, h3, h4, h5, h6, h7, h8, h9]
 rw [e]
 have b1 : (k == 1) = false := by simp [h1]
 have b2 : (k == 2) = false := by simp [h2]
 have b3 : (k == 3) = false := by simp [h3]
 have b4 : (k == 4) = false := by simp [h4]
 have b5 : (k == 5) = false := by simp [h5]
 have b6 : (k == 6) = false := by simp [h6]
 have b7 : (k == 7) = false := by simp [h7]
 have b8 : (k == 8) = false := by simp [h8]
 have b9 : (k == 9) = false := by simp [h9]
 clear e
 go_wp2
 go_ret
 exact ⟨rfl, rfl⟩
end Go.Proofs.YtkpigkopjfkepaaGreatDoor
namespace Go.Proofs.YtkpigkopjfkepaaGreatDoor
open Go.RowKit
theorem ints_post {w w' : World} {v : Value} {n : Nat} {xs : List Value} {l : List Int} {T : TypeId} (hb : Below w.heap.size w w') (h : w'.ownsRow w.heap.size T 1 v n xs) (hl : xs = l.map fun i => .int .i64 i) : IntsPost l w (.returned v) w' := by
 subst hl
 exact ⟨v, rfl, hb, ints_of_own h fun g hg => h.lt g hg⟩
theorem news_of_slr {w : World} {ok : Nat → Prop} {b off c : Nat} {l : List Int} {c0 : Nat} (h : SlR w ok 1 RInt (.slice (some ⟨b, off, none⟩) c0 c) l) (hl : 0 < l.length) : ∀ j u, (l.map fun i => Value.int .i64 i)[j]? = some u → w.cell? ((⟨b, off, none⟩ : Addr).add j) = some u := by
 intro j u hu
 obtain ⟨b', off', c', hv, _, _, _, hel⟩ := h.form hl
 obtain ⟨rfl, rfl⟩ : b = b' ∧ off = off' := by injection hv with h1 _ _; injection h1 with h1; injection h1 with h1 h2; exact ⟨h1, h2⟩
 obtain ⟨hj, hju⟩ := List.getElem?_eq_some_iff.1 hu
 have hj' : j < l.length := by simpa using hj
 obtain ⟨cs, _, hcs, hc⟩ := hel j hj'
 subst hcs
 have := hc.at_ (j := 0) rfl
 rw [Addr.add_lit]
 rw [← hju, List.getElem_map]
 simpa using this
theorem ints_one (l : List Int) : ∀ u ∈ l.map (fun i => Value.int .i64 i), u.oneCell' = true := by
 intro u hu
 obtain ⟨_, _, rfl⟩ := List.mem_map.1 hu
 rfl
section
set_option maxHeartbeats 2000000
set_option maxRecDepth 100000
theorem uses_none (k d a b op n : Int) (s : ByteArray) (va : Value) (hk : k ≠ 2 ∧ k ≠ 3 ∧ k ≠ 4 ∧ k ≠ 5 ∧ k ≠ 6 ∧ k ≠ 8 ∧ k ≠ 9) (w : World) :
  Calls Tryz.prog 73 #[.agg #[.int .i64 k, .int .i64 d, .int .i64 a, .int .i64 b, .int .i64 op, .int .i64 n, .string s, va]] w (IntsPost [] w) := by
 have hh : havingL k = 33 ∨ havingL k = 1 ∨ havingL k = 0 := by
  unfold havingL
  obtain ⟨h2, h3, h4, h5, h6, h8, h9⟩ := hk
  rw [if_neg h2, if_neg h3, if_neg h4, if_neg h5, if_neg h6, if_neg h8, if_neg h9]
  by_cases h1 : k = 1
  ·exact .inl (if_pos h1)
  ·rw [if_neg h1]
   by_cases h7 : k = 7
   ·exact .inr (.inl (if_pos h7))
   ·exact .inr (.inr (if_neg h7))
 go_enter Tryz.func73, Tryz.ntmps73
 clear hk
 rcases hh with h | h | h
 all_goals
  have HK := fun W => having_any k W
  rw [h] at HK
  clear h
  go_wp2_with (first | (go_at_call 96; refine (HK _).mono ?_; rintro e w' ⟨rfl, rfl⟩) | go_in)
  go_ret
  exact ⟨_, rfl, below1 _ _, SlR.nil_ _ _ _ _⟩
theorem uses_a (k d a b op n : Int) (s : ByteArray) (va : Value) (hk : k = 2 ∨ k = 3 ∨ k = 5 ∨ k = 8) (w : World) :
  Calls Tryz.prog 73 #[.agg #[.int .i64 k, .int .i64 d, .int .i64 a, .int .i64 b, .int .i64 op, .int .i64 n, .string s, va]] w (IntsPost [a] w) := by
 go_enter Tryz.func73, Tryz.ntmps73
 obtain ⟨z0, hi0, hz0, hz1, hz2⟩ := info_parts info_int
 have HK := fun W => having_any k W
 rcases hk with rfl | rfl | rfl | rfl
 all_goals
  simp [havingL] at HK
  go_wp2_with (first | (go_at_call 96; refine (HK _).mono ?_; rintro e w' ⟨rfl, rfl⟩) | (at_builtin; refine wpList_append_lies _ rfl _ _ _ rfl w.heap.size 3 z0 _ 1 8 Tryz.underlying38 hi0 hz0 hz1 hz2 rfl (by decide) (.slice none 0 0) 0 [] rfl (World.ownsRow_nil _ _ _ _) ⟨w.heap.size + 1, 0, none⟩ 1 1 [.int .i64 a] rfl rfl (World.news_of_block (cs := #[.int .i64 a]) (t := 3) (fr := (0, 0)) ((Blk.new_at _ _ _ (by simp <;> omega)))) (by simp [Value.oneCell']) (by decide) (by unfold maxLen; omega) (by omega) (by simp <;> omega) (w.heap.size + 1 + 1) (by simp <;> omega) ?_; intro g cap w1 hown1 hgrow hat hlt1) | go_in)
  go_ret
  exact ints_post ((below2 _ _ _).grown hgrow (by simp <;> omega) (fun k e => by cases e)) hown1 rfl
theorem uses_ab (k d a b op n : Int) (s : ByteArray) (va : Value) (hk : k = 4 ∨ k = 6) (w : World) :
  Calls Tryz.prog 73 #[.agg #[.int .i64 k, .int .i64 d, .int .i64 a, .int .i64 b, .int .i64 op, .int .i64 n, .string s, va]] w (IntsPost [a, b] w) := by
 go_enter Tryz.func73, Tryz.ntmps73
 obtain ⟨z0, hi0, hz0, hz1, hz2⟩ := info_parts info_int
 have HK := fun W => having_any k W
 rcases hk with rfl | rfl
 all_goals
  simp [havingL] at HK
  go_wp2_with (first | (go_at_call 96; refine (HK _).mono ?_; rintro e w' ⟨rfl, rfl⟩) | (at_builtin; refine wpList_append_lies _ rfl (.tmp 9) _ _ rfl w.heap.size 3 z0 _ 1 8 Tryz.underlying38 hi0 hz0 hz1 hz2 rfl (by decide) (.slice none 0 0) 0 [] rfl (World.ownsRow_nil _ _ _ _) ⟨w.heap.size + 1, 0, none⟩ 1 1 [.int .i64 a] rfl rfl (World.news_of_block (cs := #[.int .i64 a]) (t := 3) (fr := (0, 0)) ((Blk.new_at _ _ _ (by simp <;> omega)))) (by simp [Value.oneCell']) (by decide) (by unfold maxLen; omega) (by omega) (by simp <;> omega) (w.heap.size + 1 + 1) (by simp <;> omega) ?_; intro g cap w1 hown1 hgrow hat hlt1; have hb1 : Below w.heap.size w w1 := ((below2 _ _ _).grown hgrow (by simp <;> omega) (fun k e => by cases e)); have o3 : w1.cell? ⟨w.heap.size, 3, none⟩ = some (.int .i64 b) := (hgrow.cell_far _ (by simp <;> omega) (by intro e; cases e)).trans ((World.cell?_alloc_lt _ _ _ (by simp <;> omega)).trans ((Blk.new w _ _).cell 3))) | (at_builtin; refine wpList_append_lies _ rfl (.tmp 16) _ _ rfl w.heap.size 3 z0 _ 1 8 Tryz.underlying38 hi0 hz0 hz1 hz2 rfl (by decide) _ _ _ rfl (hown1.alloc _) ⟨w1.heap.size, 0, none⟩ 1 1 [.int .i64 b] rfl rfl (World.news_of_block (cs := #[.int .i64 b]) (t := 3) (fr := (0, 0)) (heap_alloc_new w1 _)) (by simp [Value.oneCell']) (by decide) (by unfold maxLen; omega) (by omega) (by have := hb1.size; simp <;> omega) (w1.heap.size + 1) (by simp <;> omega) ?_; intro g2 cap2 w2 hown2 hgrow2 hat2 hlt2) | go_in)
  go_ret
  exact ints_post ((hb1.alloc hb1.size _).grown hgrow2 (by have := hb1.size; simp <;> omega) (fun k e => hown1.lt k e |>.1)) hown2 rfl
theorem uses_call (d a b op n : Int) (s : ByteArray) (va : Value) (l : List Int) (w : World) (hv : SlR w (· < w.heap.size) 1 RInt va l) (hsz : l.length * 8 ≤ 140737488355328) :
  Calls Tryz.prog 73 #[.agg #[.int .i64 9, .int .i64 d, .int .i64 a, .int .i64 b, .int .i64 op, .int .i64 n, .string s, va]] w (IntsPost l w) := by
 go_enter Tryz.func73, Tryz.ntmps73
 obtain ⟨z0, hi0, hz0, hz1, hz2⟩ := info_parts info_int
 by_cases hl : l.length = 0
 ·obtain rfl := List.eq_nil_of_length_eq_zero hl
  obtain ⟨A, c, rfl, _, _⟩ := hv.val
  have hrun : ∀ W, (Builtin.append_ #[38, 38] 38 #[.slice none 0 0, .slice A 0 c]).run Tryz.prog W = .ok (.slice none 0 0) W := fun W =>
   run_append_nothing W 38 38 38 3 z0 Tryz.underlying38 hi0 none 0 0 (Nat.le_refl 0) _ (by cases A with
    | none => exact Src.ofNil (size := z0.size) W Tryz.underlying38 c
    | some ad => exact Src.ofSlice (size := z0.size) W Tryz.underlying38 ad 0 c [] (by simp) (by simp) (by simp))
  clear hv hsz hl
  have HK := fun W => having_any 9 W
  simp [havingL] at HK
  go_wp2_with (first | (go_at_call 96; refine (HK _).mono ?_; rintro e w' ⟨rfl, rfl⟩) | (at_builtin; refine Go.Lib.wpList_append_run_sl _ rfl _ _ 38 rfl _ _ rfl rfl (hrun _) ?_) | go_in)
  go_ret
  exact ⟨_, rfl, below1 _ _, SlR.nil_ _ _ _ _⟩
 ·obtain ⟨bb, off, c, rfl, h1, h2, hb, _⟩ := hv.form (by omega)
  have hnews := news_of_slr (hv.imp (w' := w.alloc (.cells #[.int .i64 9, .int .i64 d, .int .i64 a, .int .i64 b, .int .i64 op, .int .i64 n, .string s, .slice (some ⟨bb, off, none⟩) l.length c] 44)) (fun _ h => h) (fun b hb => Below.heap_alloc w _ b hb) (fun _ _ _ r => r)) (by omega)
  have hm := Nat.le_trans h1 h2
  have h0 : 0 < l.length := by omega
  clear hv hl
  have HK := fun W => having_any 9 W
  simp [havingL] at HK
  go_wp2_with (first | (go_at_call 96; refine (HK _).mono ?_; rintro e w' ⟨rfl, rfl⟩) | (at_builtin; refine wpList_append_lies _ rfl _ _ _ rfl w.heap.size 3 z0 _ 1 8 Tryz.underlying38 hi0 hz0 hz1 hz2 rfl (by decide) (.slice none 0 0) 0 [] rfl (World.ownsRow_nil _ _ _ _) ⟨bb, off, none⟩ l.length c (l.map fun i => .int .i64 i) rfl (by simp <;> omega) hnews (ints_one l) h0 (by omega) (by omega) (by simp <;> omega) (w.heap.size + 1) (by simp <;> omega) ?_; intro g cap w1 hown1 hgrow hat hlt1) | go_in)
  go_ret
  simp only [Nat.zero_add, List.nil_append] at hown1
  exact ints_post ((below1 _ _).grown hgrow (by simp <;> omega) (fun k e => by cases e)) hown1 rfl
theorem uses_any (x : LIns) (va : Value) (w : World) (hv : SlR w (· < w.heap.size) 1 RInt va x.args) (hsz : x.args.length * 8 ≤ 140737488355328) :
  Calls Tryz.prog 73 #[.agg #[.int .i64 x.kind, .int .i64 x.d, .int .i64 x.a, .int .i64 x.b, .int .i64 x.op, .int .i64 x.n, .string x.name, va]] w (IntsPost (usesL x) w) := by
 by_cases h9 : x.kind = 9
 ·have e : usesL x = x.args := by unfold usesL; simp [h9, hasA, hasB]
  rw [e, h9]
  exact uses_call _ _ _ _ _ _ va x.args w hv hsz
 by_cases h4 : x.kind = 4 ∨ x.kind = 6
 ·have e : usesL x = [x.a, x.b] := by rcases h4 with h | h <;> (unfold usesL; simp [h, hasA, hasB])
  rw [e]
  exact uses_ab _ _ _ _ _ _ _ va h4 w
 by_cases h2 : x.kind = 2 ∨ x.kind = 3 ∨ x.kind = 5 ∨ x.kind = 8
 ·have e : usesL x = [x.a] := by rcases h2 with h | h | h | h <;> (unfold usesL; simp [h, hasA, hasB])
  rw [e]
  exact uses_a _ _ _ _ _ _ _ va h2 w
 have e : usesL x = [] := by
  have : ¬ (x.kind = 2 ∨ x.kind = 3 ∨ x.kind = 4 ∨ x.kind = 5 ∨ x.kind = 6 ∨ x.kind = 8) := by omega
  unfold usesL
  rw [if_neg (by simpa [hasA] using this), if_neg (by simpa [hasB] using h4), if_neg h9]
  rfl
 rw [e]
 exact uses_none _ _ _ _ _ _ _ va (by omega) w
end
end Go.Proofs.YtkpigkopjfkepaaGreatDoor
namespace Go.Proofs.YtkpigkopjfkepaaGreatDoor
open Go.RowKit
structure GoodIns (x : LIns) : Prop where
 uses : ∀ n ∈ usesL x, placeP n = true
 sets : ∀ n ∈ setsL x, placeP n = true
 args : x.args.length ≤ 1000
structure GoodB (n : Nat) (b : LBlock) : Prop where
 next : ∀ k ∈ nextL b.term, 0 ≤ k ∧ k < n
 wants : ∀ k ∈ wantsL b.term, placeP k = true
 ins : ∀ x ∈ b.ins, GoodIns x
def GoodF (f : LFlow) : Prop := ∀ b ∈ f.blocks, GoodB f.blocks.length b
theorem any_false {p : Int → Bool} {l : List Int} (h : ∀ n ∈ l, p n = false) : l.any p = false := by
 rw [Bool.eq_false_iff]
 intro e
 obtain ⟨x, hx, hp⟩ := List.any_eq_true.1 e
 rw [h x hx] at hp
 cases hp
theorem con_odd_no (l : List Int) (h : ∀ n ∈ l, placeP n = true) (v : Value) (ok : Nat → Prop) (w : World) (hok : ∀ b, ok b → b < w.heap.size) (hv : SlR w ok 1 RInt v l) :
  Calls Tryz.prog 70 #[v, .func (.func 68) #[] #[]] w fun e w' => e = .returned (.bool false) ∧ Below w.heap.size w w' := by
 have h1 := con_odd l v (fun n => !placeP n) w (hv.imp hok (Keeps.refl _ _) (fun _ _ _ r => r)) (odd_pred l w)
 rw [any_false (fun n hn => by rw [h n hn]; rfl)] at h1
 exact h1
theorem con_far_no (l : List Int) (fb m c : Nat) (A : Option Addr) (h : ∀ n ∈ l, 0 ≤ n ∧ n < m) (v : Value) (ok : Nat → Prop) (w : World) (hok : ∀ b, ok b → b < w.heap.size) (hv : SlR w ok 1 RInt v l) (hf : w.cell? ⟨fb, 3, none⟩ = some (.slice A m c)) :
  Calls Tryz.prog 70 #[v, .func (.func 71) #[] #[.pointer (some ⟨fb, 0, none⟩)]] w fun e w' => e = .returned (.bool false) ∧ Below w.heap.size w w' := by
 have h1 := con_far l v fb (fun n => decide (n < 0 ∨ (m : Int) ≤ n)) w (hv.imp hok (Keeps.refl _ _) (fun _ _ _ r => r)) (far_pred l fb A m c w hf)
 rw [any_false (fun n hn => decide_eq_false (by have := h n hn; omega))] at h1
 exact h1
set_option maxRecDepth 100000 in
set_option maxHeartbeats 4000000 in
theorem may_any (f : LFlow) (hg : GoodF f) (vb : Value) (w : World) (hv : SlR w (· < w.heap.size) 5 (RBlock w (· < w.heap.size)) vb f.blocks) :
  Calls Tryz.prog 32 #[.agg #[.string f.name, .int .i64 f.params, .int .i64 f.values, vb]] w fun e w' => e = .returned (.bool true) ∧ Below w.heap.size w w' := by
 obtain ⟨A, c, hvr, hlc, hcm⟩ := hv.val
 have HV := Lib.hid hv
 have HG := Lib.hid hg
 clear hv hg
 subst hvr
 have hlen := Nat.le_trans hlc hcm
 unfold maxLen at hlen
 generalize hn : f.blocks.length = n at *
 have HN := Lib.hid hn
 clear hn
 go_enter Tryz.func32, Tryz.ntmps32
 go_wp2_with fail
 refine wp_world ?_
 intro W hW
 have hst : Below w.heap.size w W ∧ Blk W w.heap.size 41 #[.string f.name, .int .i64 f.params, .int .i64 f.values, .slice A n c] := by
  rw [← hW]
  exact ⟨below1 _ _, Blk.new_at _ _ _ rfl⟩
 clear hW
 have c3 := hst.2.cell 3
 go_wp2_with fail
 go_loopw [11] (fun i wr => ∃ k : Nat, k ≤ n ∧ i = .int .i64 k ∧ Below w.heap.size w wr ∧ Blk wr w.heap.size 41 #[.string f.name, .int .i64 f.params, .int .i64 f.values, .slice A n c]) (fun i _ => n - (intOf i).toNat)
 case atStart => exact ⟨0, by omega, rfl, hst.1, hst.2⟩
 case round =>
  obtain ⟨k, hk, rfl, hb, hF⟩ := hrel
  clear hst c3
  obtain ⟨wo, hwo⟩ : ∃ wo, wo = wr := ⟨_, rfl⟩
  subst hwo
  by_cases hlt : k < n
  ·have d0 : decide ((k : Int) < (n : Int)) = true := decide_eq_true (by omega)
   have hlt' : k < f.blocks.length := by rw [HN.out]; exact hlt
   obtain ⟨b, off, c', hform, _, _, hbl, hel⟩ := HV.out.form (by omega)
   obtain ⟨cs, hcl, ⟨vi, hcs, hsl⟩, hcell⟩ := hel k hlt'
   subst hcs
   obtain ⟨rfl, rfl⟩ : A = some ⟨b, off, none⟩ ∧ c = c' := by injection hform with h1 _ h2; exact ⟨h1, h2⟩
   obtain ⟨x, hx⟩ : ∃ x, x = f.blocks[k] := ⟨_, rfl⟩
   rw [← hx] at hcell hsl
   have hG : GoodB n x := by rw [hx, ← HN.out]; exact HG.out _ (List.getElem_mem _)
   have HX := Lib.hid hx
   have hcw : Cells wo b (off + k * 5) (vi :: termCells x.term) := hcell.keep (hb.block b hbl)
   have i0 : wo.cell? ⟨b, off + k * 5, none⟩ = some vi := hcw.at_ (j := 0) rfl
   have i1 : wo.cell? ⟨b, off + k * 5 + 1, none⟩ = some (.int .i64 x.term.kind) := hcw.at_ (j := 1) rfl
   have i2 : wo.cell? ⟨b, off + k * 5 + 2, none⟩ = some (.int .i64 x.term.a) := hcw.at_ (j := 2) rfl
   have i3 : wo.cell? ⟨b, off + k * 5 + 3, none⟩ = some (.int .i64 x.term.to) := hcw.at_ (j := 3) rfl
   have i4 : wo.cell? ⟨b, off + k * 5 + 4, none⟩ = some (.int .i64 x.term.els) := hcw.at_ (j := 4) rfl
   obtain ⟨A2, c2, hvi, h21, h22⟩ := hsl.val
   subst hvi
   have HSL := Lib.hid hsl
   clear hcell hel hform hcw hcl hx hsl
   go_upto_region 5 with fail
   refine wp_world ?_
   intro W1 hW1
   have hB1 : Below wo.heap.size wo W1 := by rw [← hW1]; exact below1 _ _
   have hF1 : Blk W1 w.heap.size 41 #[.string f.name, .int .i64 f.params, .int .i64 f.values, .slice (some ⟨b, off, none⟩) n c] := by rw [← hW1]; exact hF.alloc _
   have hK1 : Blk W1 wo.heap.size 48 #[.slice A2 x.ins.length c2, .int .i64 x.term.kind, .int .i64 x.term.a, .int .i64 x.term.to, .int .i64 x.term.els] := by rw [← hW1]; exact Blk.new_at _ _ _ rfl
   clear hW1 i0 i1 i2 i3 i4
   have j0 := hK1.cell 0
   have j1 : W1.cell? ⟨wo.heap.size, 1, none⟩ = some (.int .i64 x.term.kind) := hK1.cell 1
   have j2 : W1.cell? ⟨wo.heap.size, 2, none⟩ = some (.int .i64 x.term.a) := hK1.cell 2
   have j3 : W1.cell? ⟨wo.heap.size, 3, none⟩ = some (.int .i64 x.term.to) := hK1.cell 3
   have j4 : W1.cell? ⟨wo.heap.size, 4, none⟩ = some (.int .i64 x.term.els) := hK1.cell 4
   go_wp2_with (first | (go_at_call 34; refine (next_any x.term _).mono ?_; rintro e w1 ⟨v1, rfl, hb1, hs1⟩; have F2 := hF1.below hb1 hF1.lt; have K2 := hK1.below hb1 hK1.lt; have C1 := con_far_no (nextL x.term) w.heap.size n c (some ⟨b, off, none⟩) hG.next v1 _ w1 (fun _ h => h.2) hs1 (F2.cell 3)) | (go_at_call 72; refine (wants_any x.term _).mono ?_; rintro e w3 ⟨v3, rfl, hb3, hs3⟩; have F4 := F3.below hb3 F3.lt; have K4 := K3.below hb3 K3.lt; have C2 := con_odd_no (wantsL x.term) hG.wants v3 _ w3 (fun _ h => h.2) hs3) | (go_at_call 70; refine C2.mono ?_; clear C2; rintro e w4 ⟨rfl, hb4⟩; have F5 := F4.below hb4 F4.lt; have K5 := K4.below hb4 K4.lt; have l0 := K5.cell 0) | (go_at_call 70; refine C1.mono ?_; clear C1; rintro e w2 ⟨rfl, hb2⟩; have F3 := F2.below hb2 F2.lt; have K3 := K2.below hb2 K2.lt; have k1 : w2.cell? ⟨wo.heap.size, 1, none⟩ = some (.int .i64 x.term.kind) := K3.cell 1; have k2 : w2.cell? ⟨wo.heap.size, 2, none⟩ = some (.int .i64 x.term.a) := K3.cell 2; have k3 : w2.cell? ⟨wo.heap.size, 3, none⟩ = some (.int .i64 x.term.to) := K3.cell 3; have k4 : w2.cell? ⟨wo.heap.size, 4, none⟩ = some (.int .i64 x.term.els) := K3.cell 4))
   have q1 := hb.trans (hB1.mono hb.size)
   have q2 := q1.trans (hb1.mono q1.size)
   have q3 := q2.trans (hb2.mono q2.size)
   have q4 := q3.trans (hb3.mono q3.size)
   have q5 := q4.trans (hb4.mono q4.size)
   have HGI := Lib.hid hG.ins
   clear hb hB1 hb1 hb2 hb3 hb4 q1 q2 q3 q4 hF hF1 F2 F3 F4 hK1 K2 K3 K4 K5 j0 j1 j2 j3 j4 k1 k2 k3 k4 l0 hs1 hs3 hG
   go_loopw [30] (fun i wr => ∃ j : Nat, j ≤ x.ins.length ∧ i = .int .i64 j ∧ Below w.heap.size w wr ∧ Blk wr w.heap.size 41 #[.string f.name, .int .i64 f.params, .int .i64 f.values, .slice (some ⟨b, off, none⟩) n c]) (fun i _ => x.ins.length - (intOf i).toNat)
   case atStart => exact ⟨0, by omega, rfl, q5, F5⟩
   case round =>
    obtain ⟨j, hj, rfl, hb, hF⟩ := hrel
    clear q5 F5
    have hil := Nat.le_trans h21 h22
    unfold maxLen at hil
    by_cases hlt2 : j < x.ins.length
    ·have d1 : decide ((j : Int) < (x.ins.length : Int)) = true := decide_eq_true (by omega)
     obtain ⟨b2, off2, c2', hform, _, _, hbl2, hel⟩ := HSL.out.form (by omega)
     obtain ⟨cs, hcl, ⟨va, hcs, hsa⟩, hcell⟩ := hel j hlt2
     subst hcs
     obtain ⟨rfl, rfl⟩ : A2 = some ⟨b2, off2, none⟩ ∧ c2 = c2' := by injection hform with h1 _ h2; exact ⟨h1, h2⟩
     have hgi := HGI.out x.ins[j] (List.getElem_mem _)
     obtain ⟨y, hy⟩ : ∃ y, y = x.ins[j] := ⟨_, rfl⟩
     rw [← hy] at hcell hsa hgi
     have hcw : Cells wr b2 (off2 + j * 8) (insCells y va) := hcell.keep (hb.block b2 hbl2)
     have i0 : wr.cell? ⟨b2, off2 + j * 8, none⟩ = some (.int .i64 y.kind) := hcw.at_ (j := 0) rfl
     have i1 : wr.cell? ⟨b2, off2 + j * 8 + 1, none⟩ = some (.int .i64 y.d) := hcw.at_ (j := 1) rfl
     have i2 : wr.cell? ⟨b2, off2 + j * 8 + 2, none⟩ = some (.int .i64 y.a) := hcw.at_ (j := 2) rfl
     have i3 : wr.cell? ⟨b2, off2 + j * 8 + 3, none⟩ = some (.int .i64 y.b) := hcw.at_ (j := 3) rfl
     have i4 : wr.cell? ⟨b2, off2 + j * 8 + 4, none⟩ = some (.int .i64 y.op) := hcw.at_ (j := 4) rfl
     have i5 : wr.cell? ⟨b2, off2 + j * 8 + 5, none⟩ = some (.int .i64 y.n) := hcw.at_ (j := 5) rfl
     have i6 : wr.cell? ⟨b2, off2 + j * 8 + 6, none⟩ = some (.string y.name) := hcw.at_ (j := 6) rfl
     have i7 : wr.cell? ⟨b2, off2 + j * 8 + 7, none⟩ = some va := hcw.at_ (j := 7) rfl
     obtain ⟨A3, n3, c3, hva⟩ : ∃ A n c, va = .slice A n c := by obtain ⟨A3, c3, h, _, _⟩ := hsa.val; exact ⟨_, _, _, h⟩
     subst hva
     clear hcell hel hform hcw hcl hy
     go_upto_region 10 with fail
     refine wp_world ?_
     intro W1 hW1
     have hB1 : Below wr.heap.size wr W1 := by rw [← hW1]; exact below1 _ _
     have hF1 : Blk W1 w.heap.size 41 #[.string f.name, .int .i64 f.params, .int .i64 f.values, .slice (some ⟨b, off, none⟩) n c] := by rw [← hW1]; exact hF.alloc _
     have hK1 : Blk W1 wr.heap.size 44 #[.int .i64 y.kind, .int .i64 y.d, .int .i64 y.a, .int .i64 y.b, .int .i64 y.op, .int .i64 y.n, .string y.name, .slice A3 n3 c3] := by rw [← hW1]; exact Blk.new_at _ _ _ rfl
     have hbW := hb.trans (hB1.mono hb.size)
     have hsa1 : SlR W1 (· < W1.heap.size) 1 RInt (.slice A3 n3 c3) y.args := hsa.imp (fun _ h => Nat.lt_of_lt_of_le h hbW.size) (fun b h => hbW.block b h) (fun _ _ _ r => r)
     have HU := Lib.hid (uses_any y (.slice A3 n3 c3) W1 hsa1 (by have := hgi.args; omega))
     clear hW1 i0 i1 i2 i3 i4 i5 i6 i7 hsa hsa1
     have j0 : W1.cell? ⟨wr.heap.size, 0, none⟩ = some (.int .i64 y.kind) := hK1.cell 0
     have j1 : W1.cell? ⟨wr.heap.size, 1, none⟩ = some (.int .i64 y.d) := hK1.cell 1
     have j2 : W1.cell? ⟨wr.heap.size, 2, none⟩ = some (.int .i64 y.a) := hK1.cell 2
     have j3 : W1.cell? ⟨wr.heap.size, 3, none⟩ = some (.int .i64 y.b) := hK1.cell 3
     have j4 : W1.cell? ⟨wr.heap.size, 4, none⟩ = some (.int .i64 y.op) := hK1.cell 4
     have j5 : W1.cell? ⟨wr.heap.size, 5, none⟩ = some (.int .i64 y.n) := hK1.cell 5
     have j6 : W1.cell? ⟨wr.heap.size, 6, none⟩ = some (.string y.name) := hK1.cell 6
     have j7 : W1.cell? ⟨wr.heap.size, 7, none⟩ = some (.slice A3 n3 c3) := hK1.cell 7
     go_wp2_with (first | (go_at_call 73; refine HU.out.mono ?_; rintro e w1 ⟨v1, rfl, hb1, hs1⟩; have F2 := hF1.below hb1 hF1.lt; have K2 := hK1.below hb1 hK1.lt; have C1 := con_odd_no (usesL y) hgi.uses v1 _ w1 (fun _ h => h.2) hs1) | (go_at_call 74; refine (sets_any y _ _).mono ?_; rintro e w3 ⟨v3, rfl, hb3, hs3⟩; have F4 := F3.below hb3 F3.lt; have C2 := con_odd_no (setsL y) hgi.sets v3 _ w3 (fun _ h => h.2) hs3) | (go_at_call 70; refine C2.mono ?_; clear C2; rintro e w4 ⟨rfl, hb4⟩; have F5 := F4.below hb4 F4.lt) | (go_at_call 70; refine C1.mono ?_; clear C1; rintro e w2 ⟨rfl, hb2⟩; have F3 := F2.below hb2 F2.lt; have K3 := K2.below hb2 K2.lt; have k0 : w2.cell? ⟨wr.heap.size, 0, none⟩ = some (.int .i64 y.kind) := K3.cell 0; have k1 : w2.cell? ⟨wr.heap.size, 1, none⟩ = some (.int .i64 y.d) := K3.cell 1; have k2 : w2.cell? ⟨wr.heap.size, 2, none⟩ = some (.int .i64 y.a) := K3.cell 2; have k3 : w2.cell? ⟨wr.heap.size, 3, none⟩ = some (.int .i64 y.b) := K3.cell 3; have k4 : w2.cell? ⟨wr.heap.size, 4, none⟩ = some (.int .i64 y.op) := K3.cell 4; have k5 : w2.cell? ⟨wr.heap.size, 5, none⟩ = some (.int .i64 y.n) := K3.cell 5; have k6 : w2.cell? ⟨wr.heap.size, 6, none⟩ = some (.string y.name) := K3.cell 6; have k7 : w2.cell? ⟨wr.heap.size, 7, none⟩ = some (.slice A3 n3 c3) := K3.cell 7))
     have q2 := hbW.trans (hb1.mono hbW.size)
     have q3 := q2.trans (hb2.mono q2.size)
     have q4 := q3.trans (hb3.mono q3.size)
     have q5 := q4.trans (hb4.mono q4.size)
     go_roundw
     case rel => exact ⟨j + 1, by omega, by go_num, q5, F5⟩
     case measure => simp [intOf]; omega
    ·have d1 : decide ((j : Int) < (x.ins.length : Int)) = false := decide_eq_false (by omega)
     go_wp2
     go_roundw
     case rel => exact ⟨k + 1, by omega, by go_num, hb, hF⟩
     case measure => simp [intOf]; omega
  ·have d0 : decide ((k : Int) < (n : Int)) = false := decide_eq_false (by omega)
   go_wp2
   go_ret
   exact ⟨rfl, hb⟩
end Go.Proofs.YtkpigkopjfkepaaGreatDoor
namespace Go.Proofs.YtkpigkopjfkepaaGreatDoor
open Go.RowKit
theorem ite_small {p : Prop} [Decidable p] {a b : Int} (ha : 0 ≤ a ∧ a < 10) (hb : 0 ≤ b ∧ b < 10) : 0 ≤ (if p then a else b) ∧ (if p then a else b) < 10 := by
 by_cases h : p
 ·rw [if_pos h]; exact ha
 ·rw [if_neg h]; exact hb
theorem pk_small (a : Int) : 0 ≤ pk a 10 ∧ pk a 10 < 10 := ⟨pk_lo a 10 (by omega), pk_hi a 10 (by omega)⟩
theorem fitIns_kind (x : LIns) : 1 ≤ (fitIns x).kind ∧ (fitIns x).kind ≤ 9 := by
 have h0 := pk_lo x.kind 9 (by omega)
 have h1 := pk_hi x.kind 9 (by omega)
 show 1 ≤ 1 + pk x.kind 9 ∧ 1 + pk x.kind 9 ≤ 9
 omega
theorem fitTerm_kind (t : LTerm) (n : Int) : 1 ≤ (fitTerm t n).kind ∧ (fitTerm t n).kind ≤ 4 := by
 have h0 := pk_lo t.kind 4 (by omega)
 have h1 := pk_hi t.kind 4 (by omega)
 show 1 ≤ 1 + pk t.kind 4 ∧ 1 + pk t.kind 4 ≤ 4
 omega
theorem fitTerm_a (t : LTerm) (n : Int) : 0 ≤ (fitTerm t n).a ∧ (fitTerm t n).a < 10 := ite_small ⟨by omega, by omega⟩ (pk_small _)
theorem fitTerm_to (t : LTerm) (n : Int) (hn : 0 < n) : 0 ≤ (fitTerm t n).to ∧ (fitTerm t n).to < n := by
 show 0 ≤ (if 1 + pk t.kind 4 ≤ 2 then pk t.to n else 0) ∧ (if 1 + pk t.kind 4 ≤ 2 then pk t.to n else 0) < n
 split
 ·exact ⟨pk_lo _ _ hn, pk_hi _ _ hn⟩
 ·omega
theorem fitTerm_els (t : LTerm) (n : Int) (hn : 0 < n) : 0 ≤ (fitTerm t n).els ∧ (fitTerm t n).els < n := by
 show 0 ≤ (if 1 + pk t.kind 4 = 2 then pk t.els n else 0) ∧ (if 1 + pk t.kind 4 = 2 then pk t.els n else 0) < n
 split
 ·exact ⟨pk_lo _ _ hn, pk_hi _ _ hn⟩
 ·omega
theorem fit_len (raw : List LBlock) (k : Nat) : (fitFl raw k).blocks.length = (orOne (picks raw k 8)).length := by simp [fitFl]
theorem orOne_pos (l : List LBlock) : 0 < (orOne l).length := by
 unfold orOne
 split
 ·simp
 ·rename_i h; exact List.length_pos_iff.2 h
theorem orOne_le (l : List LBlock) (n : Nat) (h : l.length ≤ n) (hn : 1 ≤ n) : (orOne l).length ≤ n := by
 unfold orOne
 split
 ·simpa using hn
 ·exact h
theorem fit_pos (raw : List LBlock) (k : Nat) : 0 < (fitFl raw k).blocks.length := by rw [fit_len]; exact orOne_pos _
theorem fit_le (raw : List LBlock) (k : Nat) : (fitFl raw k).blocks.length ≤ 8 := by rw [fit_len]; exact orOne_le _ _ (picks_le raw k 8) (by omega)
theorem fit_ins (raw : List LBlock) (k : Nat) : ∀ b ∈ (fitFl raw k).blocks, b.ins.length ≤ 6 := fun b hb => by
 obtain ⟨y, _, rfl⟩ := List.mem_map.1 hb
 simp [fitBlock]
 omega
end Go.Proofs.YtkpigkopjfkepaaGreatDoor
