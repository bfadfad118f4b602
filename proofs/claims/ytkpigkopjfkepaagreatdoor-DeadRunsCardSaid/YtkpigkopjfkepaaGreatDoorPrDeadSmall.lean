/- What dead.harmless, dead.idle and slices.Contains at numbers tell; and the closure of dead.sweep. -/
import Derived.Test.YtkpigkopjfkepaaGreatDoorPrDeadLaws
import Derived.Test.YtkpigkopjfkepaaGreatDoorPrUMem
namespace Go.Proofs.YtkpigkopjfkepaaGreatDoor
open Go.RowKit
set_option maxHeartbeats 1000000 in
theorem index_int (l : List Int) (n : Int) (v : Value) (w : World) {ok : Nat → Prop} (hok : ∀ b, ok b → b < w.heap.size) (hv : SlR w ok 1 RInt v l) :
  Calls Tryz.prog 119 #[v, .int .i64 n] w fun e w' => e = .returned (.int .i64 (findI (fun x => decide (x = n)) l)) ∧ Below w.heap.size w w' := by
 obtain ⟨AA, cc, hvv, hlc, hcm⟩ := hv.val
 have HV := Lib.hid hv
 have HOK := Lib.hid hok
 clear hv hok
 subst hvv
 have hlen := Nat.le_trans hlc hcm
 unfold maxLen at hlen
 go_enter Tryz.func119, Tryz.ntmps119
 go_wp2
 go_loopw [5, 8] (fun _ i wr => ∃ k : Nat, k ≤ l.length ∧ i = .int .i64 k ∧ (∀ j (h : j < l.length), j < k → decide (l[j] = n) = false) ∧ Below w.heap.size w wr) (fun _ i _ => l.length - (intOf i).toNat)
 case atStart => exact ⟨0, by omega, rfl, fun j _ h => by omega, Below.refl _ _⟩
 case round =>
  obtain ⟨k, hk, rfl, hno, hb⟩ := hrel
  have HNO := Lib.hid hno
  clear hno
  by_cases hlt : k < l.length
  ·have d1 : decide ((k : Int) < (l.length : Int)) = true := decide_eq_true (by omega)
   obtain ⟨b, off, c', hform, _, _, hbl, hel⟩ := HV.out.form (by omega)
   obtain ⟨cs, hcl, hcs, hcell⟩ := hel k hlt
   obtain ⟨rfl, rfl⟩ : AA = some ⟨b, off, none⟩ ∧ cc = c' := by injection hform with h1 _ h2; exact ⟨h1, h2⟩
   obtain ⟨x, hx⟩ : ∃ x, x = l[k] := ⟨_, rfl⟩
   rw [← hx] at hcs
   obtain rfl := hcs
   have i0 : wr.cell? ⟨b, off + k, none⟩ = some (.int .i64 x) := by have h := (hcell.keep (hb.block b (HOK.out b hbl))).at_ (j := 0) rfl; simpa using h
   have HX := Lib.hid hx
   clear hcell hel hform hcl hx
   by_cases hq : n = x
   ·have q1 : (n == x) = true := by simp [hq]
    have HQ := Lib.hid hq
    clear hq
    go_wp2
    go_ret
    refine ⟨?_, hb⟩
    have hq : decide (l[k] = n) = true := by rw [← HX.out]; exact decide_eq_true HQ.out.symm
    have e : findI (fun x => decide (x = n)) l = (k : Int) := by
     unfold findI
     rw [if_pos (List.any_eq_true.2 ⟨l[k], List.getElem_mem _, hq⟩)]
     have : l.findIdx (fun x => decide (x = n)) = k := (List.findIdx_eq hlt).2 ⟨hq, fun j hj => HNO.out j (by omega) hj⟩
     rw [this]
    rw [e]; rfl
   ·have q1 : (n == x) = false := by simp [hq]
    have HQ := Lib.hid hq
    clear hq
    go_wp2
    go_roundw
    case rel =>
     refine ⟨k + 1, by omega, by go_num, fun j h hj => ?_, hb⟩
     by_cases e : j = k
     ·subst e; rw [← HX.out]; exact decide_eq_false fun e => HQ.out e.symm
     ·exact HNO.out j h (by omega)
    case measure => simp [intOf]; omega
  ·have d1 : decide ((k : Int) < (l.length : Int)) = false := decide_eq_false (by omega)
   go_wp2
   go_ret
   refine ⟨?_, hb⟩
   have e : findI (fun x => decide (x = n)) l = -1 := by
    refine findI_none ?_
    rw [List.any_eq_false]
    intro x hx hpx
    obtain ⟨j, hj, rfl⟩ := List.getElem_of_mem hx
    rw [HNO.out j hj (by omega)] at hpx
    cases hpx
   rw [e]; rfl
theorem contains_int (l : List Int) (n : Int) (v : Value) (w : World) {ok : Nat → Prop} (hok : ∀ b, ok b → b < w.heap.size) (hv : SlR w ok 1 RInt v l) :
  Calls Tryz.prog 87 #[v, .int .i64 n] w fun e w' => e = .returned (.bool (l.any fun x => decide (x = n))) ∧ Below w.heap.size w w' := by
 have h := index_int l n v w hok hv
 rw [← findI_any]
 go_enter Tryz.func87, Tryz.ntmps87
 go_wp2_with (go_at_call 119; refine h.mono ?_; rintro e w' ⟨rfl, hb'⟩)
 go_ret
 exact ⟨rfl, hb'⟩
set_option maxHeartbeats 2000000 in
theorem harm_any (x : LIns) (A : Option Addr) (m c : Nat) (w : World) : Calls Tryz.prog 86 #[.agg #[.int .i64 x.kind, .int .i64 x.d, .int .i64 x.a, .int .i64 x.b, .int .i64 x.op, .int .i64 x.n, .string x.name, .slice A m c]] w fun e w' => e = .returned (.bool (harmB x)) ∧ Below w.heap.size w w' := by
 obtain ⟨k, d, a, b, op, nn, nm, args⟩ := x
 have key : harmB ⟨k, d, a, b, op, nn, nm, args⟩ = decide (k = 1 ∨ k = 2 ∨ k = 3 ∨ (k = 4 ∧ op ≠ 4 ∧ op ≠ 5)) := by unfold harmB; with_reducible rfl
 rw [key]
 clear key
 show Calls _ _ #[.agg #[.int .i64 k, .int .i64 d, .int .i64 a, .int .i64 b, .int .i64 op, .int .i64 nn, .string nm, .slice A m c]] _ _
 by_cases h1 : k = 1
 ·have e : decide (k = 1 ∨ k = 2 ∨ k = 3 ∨ (k = 4 ∧ op ≠ 4 ∧ op ≠ 5)) = true := decide_eq_true (.inl h1)
  have b1 : (k == 1) = true := by simp [h1]
  rw [e]
  clear e h1
  go_enter Tryz.func86, Tryz.ntmps86
  go_wp2
  go_ret
  exact ⟨rfl, below1 _ _⟩
 have b1 : (k == 1) = false := by simp [h1]
 by_cases h2 : k = 2
 ·have e : decide (k = 1 ∨ k = 2 ∨ k = 3 ∨ (k = 4 ∧ op ≠ 4 ∧ op ≠ 5)) = true := decide_eq_true (.inr (.inl h2))
  have b2 : (k == 2) = true := by simp [h2]
  rw [e]
  clear e h1 h2
  go_enter Tryz.func86, Tryz.ntmps86
  go_wp2
  go_ret
  exact ⟨rfl, below1 _ _⟩
 have b2 : (k == 2) = false := by simp [h2]
 by_cases h3 : k = 3
 ·have e : decide (k = 1 ∨ k = 2 ∨ k = 3 ∨ (k = 4 ∧ op ≠ 4 ∧ op ≠ 5)) = true := decide_eq_true (.inr (.inr (.inl h3)))
  have b3 : (k == 3) = true := by simp [h3]
  rw [e]
  clear e h1 h2 h3
  go_enter Tryz.func86, Tryz.ntmps86
  go_wp2
  go_ret
  exact ⟨rfl, below1 _ _⟩
 have b3 : (k == 3) = false := by simp [h3]
 by_cases h4 : k = 4
 ·have b4 : (k == 4) = true := by simp [h4]
  by_cases o4 : op = 4
  ·have e : decide (k = 1 ∨ k = 2 ∨ k = 3 ∨ (k = 4 ∧ op ≠ 4 ∧ op ≠ 5)) = false := decide_eq_false (by omega)
   have c4 : (op != 4) = false := by simp [o4]
   rw [e]
   clear e h1 h2 h3 h4 o4
   go_enter Tryz.func86, Tryz.ntmps86
   go_wp2
   go_ret
   exact ⟨rfl, below1 _ _⟩
  by_cases o5 : op = 5
  ·have e : decide (k = 1 ∨ k = 2 ∨ k = 3 ∨ (k = 4 ∧ op ≠ 4 ∧ op ≠ 5)) = false := decide_eq_false (by omega)
   have c4 : (op != 4) = true := by simp [o4]
   have c5 : (op != 5) = false := by simp [o5]
   rw [e]
   clear e h1 h2 h3 h4 o4 o5
   go_enter Tryz.func86, Tryz.ntmps86
   go_wp2
   go_ret
   exact ⟨rfl, below1 _ _⟩
  ·have e : decide (k = 1 ∨ k = 2 ∨ k = 3 ∨ (k = 4 ∧ op ≠ 4 ∧ op ≠ 5)) = true := decide_eq_true (by omega)
   have c4 : (op != 4) = true := by simp [o4]
   have c5 : (op != 5) = true := by simp [o5]
   rw [e]
   clear e h1 h2 h3 h4 o4 o5
   go_enter Tryz.func86, Tryz.ntmps86
   go_wp2
   go_ret
   exact ⟨rfl, below1 _ _⟩
 ·have b4 : (k == 4) = false := by simp [h4]
  have e : decide (k = 1 ∨ k = 2 ∨ k = 3 ∨ (k = 4 ∧ op ≠ 4 ∧ op ≠ 5)) = false := decide_eq_false (by omega)
  rw [e]
  clear e h1 h2 h3 h4
  go_enter Tryz.func86, Tryz.ntmps86
  go_wp2
  go_ret
  exact ⟨rfl, below1 _ _⟩
def idleN (l : List Int) (x : LIns) : Bool := decide (x.kind = 2 ∧ x.a = x.d) || (harmB x && !l.any fun y => decide (y = x.d))
set_option maxHeartbeats 2000000 in
theorem idle_any (x : LIns) (A : Option Addr) (m c : Nat) (l : List Int) (v : Value) (w : World) {ok : Nat → Prop} (hok : ∀ b, ok b → b < w.heap.size) (hv : SlR w ok 1 RInt v l) :
  Calls Tryz.prog 52 #[.agg #[.int .i64 x.kind, .int .i64 x.d, .int .i64 x.a, .int .i64 x.b, .int .i64 x.op, .int .i64 x.n, .string x.name, .slice A m c], v] w fun e w' => e = .returned (.bool (idleN l x)) ∧ Below w.heap.size w w' := by
 obtain ⟨AA, cc, hvv, _, _⟩ := hv.val
 subst hvv
 have HH := Lib.hid (fun X => harm_any x A m c X)
 have HC := Lib.hid (fun (X : World) (hb : Below w.heap.size w X) => contains_int l x.d (.slice AA l.length cc) X (ok := (· < X.heap.size)) (fun _ h => h) (hv.imp (fun b h => Nat.lt_of_lt_of_le (hok b h) hb.size) (fun b h => hb.block b (hok b h)) (fun _ _ _ r => r)))
 have key : idleN l x = (((x.kind == 2) && (x.a == x.d)) || (harmB x && !l.any fun y => decide (y = x.d))) := by unfold idleN; rw [show decide (x.kind = 2 ∧ x.a = x.d) = ((x.kind == 2) && (x.a == x.d)) by rw [Bool.eq_iff_iff]; simp]
 rw [key]
 clear key hv hok
 generalize harmB x = hm at *
 generalize (l.any fun y => decide (y = x.d)) = con at *
 obtain ⟨k, d, a, b, op, nn, nm, args⟩ := x
 show Calls _ _ #[.agg #[.int .i64 k, .int .i64 d, .int .i64 a, .int .i64 b, .int .i64 op, .int .i64 nn, .string nm, .slice A m c], _] _ fun e w' => e = .returned (.bool (((k == 2) && (a == d)) || (hm && !con))) ∧ Below w.heap.size w w'
 change Hid (∀ X, Calls Tryz.prog 86 #[.agg #[.int .i64 k, .int .i64 d, .int .i64 a, .int .i64 b, .int .i64 op, .int .i64 nn, .string nm, .slice A m c]] X fun e w' => e = .returned (.bool hm) ∧ Below X.heap.size X w') at HH
 change Hid (∀ X, Below w.heap.size w X → Calls Tryz.prog 87 #[.slice AA l.length cc, .int .i64 d] X fun e w' => e = .returned (.bool con) ∧ Below X.heap.size X w') at HC
 cases hk2 : (k == 2) with
 | true =>
  cases had : (a == d) with
  | true =>
   go_enter Tryz.func52, Tryz.ntmps52
   go_wp2
   go_ret
   exact ⟨rfl, below1 _ _⟩
  | false =>
   cases hm with
   | true =>
    go_enter Tryz.func52, Tryz.ntmps52
    go_wp2_with (first | (go_at_call 86; refine (HH.out _).mono ?_; rintro e w1 ⟨rfl, hb1⟩; have q1 : w1.cell? ⟨w.heap.size, 1, none⟩ = some (.int .i64 d) := ((Blk.new w _ _).below hb1 (by simp)).cell 1; have hb1' := (below1 w _).trans (hb1.mono (below1 w _).size)) | (go_at_call 87; refine (HC.out _ hb1').mono ?_; rintro e w2 ⟨rfl, hb2⟩))
    go_ret
    exact ⟨rfl, hb1'.trans (hb2.mono hb1'.size)⟩
   | false =>
    go_enter Tryz.func52, Tryz.ntmps52
    go_wp2_with (go_at_call 86; refine (HH.out _).mono ?_; rintro e w1 ⟨rfl, hb1⟩; have q1 : w1.cell? ⟨w.heap.size, 1, none⟩ = some (.int .i64 d) := ((Blk.new w _ _).below hb1 (by simp)).cell 1; have hb1' := (below1 w _).trans (hb1.mono (below1 w _).size))
    go_ret
    exact ⟨rfl, hb1'⟩
 | false =>
  cases hm with
  | true =>
   go_enter Tryz.func52, Tryz.ntmps52
   go_wp2_with (first | (go_at_call 86; refine (HH.out _).mono ?_; rintro e w1 ⟨rfl, hb1⟩; have q1 : w1.cell? ⟨w.heap.size, 1, none⟩ = some (.int .i64 d) := ((Blk.new w _ _).below hb1 (by simp)).cell 1; have hb1' := (below1 w _).trans (hb1.mono (below1 w _).size)) | (go_at_call 87; refine (HC.out _ hb1').mono ?_; rintro e w2 ⟨rfl, hb2⟩))
   go_ret
   exact ⟨rfl, hb1'.trans (hb2.mono hb1'.size)⟩
  | false =>
   go_enter Tryz.func52, Tryz.ntmps52
   go_wp2_with (go_at_call 86; refine (HH.out _).mono ?_; rintro e w1 ⟨rfl, hb1⟩; have q1 : w1.cell? ⟨w.heap.size, 1, none⟩ = some (.int .i64 d) := ((Blk.new w _ _).below hb1 (by simp)).cell 1; have hb1' := (below1 w _).trans (hb1.mono (below1 w _).size))
   go_ret
   exact ⟨rfl, hb1'⟩
end Go.Proofs.YtkpigkopjfkepaaGreatDoor
