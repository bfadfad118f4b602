/- What the small functions of chapter 11's statements do: pick; Same and begins, where they tell true. Rows of a block that is known whole read as lists: what a literal lays. Chapter 11's example: awake of its statements is true. -/
import Derived.Test.YtkpigkopjfkepaaGreatDoorPrRunRun
import Derived.Deep.QuietTactic
import Derived.BigQuiet
import Derived.Test.YtkpigkopjfkepaaGreatDoorPrFitMem
namespace Go.Proofs.YtkpigkopjfkepaaGreatDoor
open Go.RowKit
set_option maxHeartbeats 1000000 in
theorem same_true (s c p : Int) (l : List Int) (va vb : Value) (w : World) (ha : SlR w (· < w.heap.size) 1 RInt va l) (hb : SlR w (· < w.heap.size) 1 RInt vb l) :
  Calls Tryz.prog 39 #[.agg #[.int .i64 s, .int .i64 c, va, .int .i64 p], .agg #[.int .i64 s, .int .i64 c, vb, .int .i64 p]] w fun e w' => e = .returned (.bool true) ∧ Below w.heap.size w w' := by
 obtain ⟨A1, k1, e1, h1, h1'⟩ := ha.val
 obtain ⟨A2, k2, e2, h2, h2'⟩ := hb.val
 subst e1 e2
 have HA := Lib.hid ha
 have HB := Lib.hid hb
 have hlen := Nat.le_trans h1 h1'
 unfold maxLen at hlen
 have b0 : ((l.length : Int) != (l.length : Int)) = false := by simp
 have b1 : (s != s) = false := by simp
 have b2 : (c != c) = false := by simp
 have b3 : (p != p) = false := by simp
 clear ha hb
 go_enter Tryz.func39, Tryz.ntmps39
 go_upto_region 3 with fail
 refine wp_world ?_
 intro W hW
 have hB : Below w.heap.size w W := by rw [← hW]; exact ((Below.refl _ _).alloc (Nat.le_refl _) _).alloc (by simp) _
 have hX : Blk W w.heap.size 57 #[.int .i64 s, .int .i64 c, .slice A1 l.length k1, .int .i64 p] := by rw [← hW]; exact (Blk.new w _ _).alloc _
 have hY : Blk W (w.heap.size + 1) 57 #[.int .i64 s, .int .i64 c, .slice A2 l.length k2, .int .i64 p] := by rw [← hW]; exact Blk.new_at _ _ _ (by simp)
 clear hW
 have x2 : W.cell? ⟨w.heap.size, 2, none⟩ = some (.slice A1 l.length k1) := hX.cell 2
 have y2 : W.cell? ⟨w.heap.size + 1, 2, none⟩ = some (.slice A2 l.length k2) := hY.cell 2
 have HBB := Lib.hid hB
 clear hX hY hB
 go_wp2_with fail
 go_loopw [5] (fun v wr => ∃ i : Nat, i ≤ l.length ∧ v = .int .i64 i ∧ ∃ nq, wr = W.drewN nq) (fun v _ => l.length - (intOf v).toNat)
 case atStart => exact ⟨0, by omega, rfl, 0, rfl⟩
 case round =>
  obtain ⟨i, hi, rfl, nq, rfl⟩ := hrel
  by_cases hlt : i < l.length
  ·have d0 : decide ((i : Int) < (l.length : Int)) = true := decide_eq_true (by omega)
   obtain ⟨b3, o3, c3, f3, _, _, hb3, q3⟩ := HA.out.form (by omega)
   obtain ⟨b4, o4, c4, f4, _, _, hb4, q4⟩ := HB.out.form (by omega)
   obtain rfl : A1 = some ⟨b3, o3, none⟩ := by injection f3
   obtain rfl : A2 = some ⟨b4, o4, none⟩ := by injection f4
   obtain ⟨cs3, _, r3, s3⟩ := q3 i hlt
   obtain ⟨cs4, _, r4, s4⟩ := q4 i hlt
   subst r3
   subst r4
   obtain ⟨k, hk⟩ : ∃ k, k = l[i] := ⟨_, rfl⟩
   rw [← hk] at s3 s4
   have s3 := s3.keep (HBB.out.block b3 hb3)
   have s4 := s4.keep (HBB.out.block b4 hb4)
   have i3 : W.cell? ⟨b3, o3 + i, none⟩ = some (.int .i64 k) := by have h := s3.at_ (j := 0) rfl; simpa using h
   have i4 : W.cell? ⟨b4, o4 + i, none⟩ = some (.int .i64 k) := by have h := s4.at_ (j := 0) rfl; simpa using h
   have b5 : (k != k) = false := by simp
   have p2 : (i : Int) < (l.length : Int) := by omega
   clear f3 f4 q3 q4 s3 s4 hk
   go_wp2
   go_quiet (fail)
   go_wp2
   go_roundw
   case rel => exact ⟨i + 1, by omega, by go_num, _, rfl⟩
   case measure => simp [intOf]; omega
  ·have d0 : decide ((i : Int) < (l.length : Int)) = false := decide_eq_false (by omega)
   go_wp2
   go_ret
   exact ⟨rfl, below_drewN HBB.out _⟩
end Go.Proofs.YtkpigkopjfkepaaGreatDoor
namespace Go.Proofs.YtkpigkopjfkepaaGreatDoor
open Go.RowKit
theorem slr_of_own {w : World} {base : Nat} {v : Value} {n : Nat} {l : List Int} (h : w.ownsRow base 3 1 v n (l.map (Value.int .i64))) : SlR w (· < w.heap.size) 1 RInt v l := ints_of_own h (fun g e => (h.lt g e).2)
end Go.Proofs.YtkpigkopjfkepaaGreatDoor
