/- Dead of what Dead made is itself; it is no greater than it was: the walk of 'DeadAgainSaid'. Printed by wip/gen_deadagain.py. What Follows does, where the one run follows the other: it tells true. -/
import Derived.Test.YtkpigkopjfkepaaGreatDoorPrAwS
import Derived.Test.YtkpigkopjfkepaaGreatDoorPrSameA
import Derived.Test.YtkpigkopjfkepaaGreatDoorPrRegion
import Derived.Test.YtkpigkopjfkepaaGreatDoorPrAw11
import Derived.Test.YtkpigkopjfkepaaGreatDoorPrSims
namespace Go.Proofs.YtkpigkopjfkepaaGreatDoor
open Go.RowKit
theorem small_fit (raw : List LBlock) : SmallU (fitU raw) := fun f hf => by
 obtain ⟨k, _, rfl⟩ := mem_fit hf
 exact ⟨by have := fit_le raw k; omega, fun b hb => by have := fit_ins raw k b hb; omega⟩
theorem dead_v {u v : LUnit} (hv : deadE u = v) {X : World} {A1 A2 : Option Addr} {c1 c2 : Nat} (hu : UnitOk u) (hs : SmallU u) (h : UIn u X A1 A2 c1 c2) :
  Calls Tryz.prog 10 #[.agg #[.slice A1 u.arrays.length c1, .slice A2 u.flows.length c2]] X fun e w' => ∃ B1 B2 d1 d2, e = .returned (.tuple #[.agg #[.slice B1 v.arrays.length d1, .slice B2 v.flows.length d2], .int .i64 0]) ∧ Below X.heap.size X w' ∧ UIn v w' B1 B2 d1 d2 := by
 refine (dead_u hu hs h).mono ?_
 rintro e w' ⟨B1, B2, d1, d2, rfl, hb, hv'⟩
 subst hv
 have hl : (deadE u).flows.length = u.flows.length := List.length_map _
 exact ⟨B1, B2, d1, d2, by rw [hl]; rfl, hb, hv'⟩
end Go.Proofs.YtkpigkopjfkepaaGreatDoor
namespace Go.Proofs.YtkpigkopjfkepaaGreatDoor
open Go.RowKit
set_option maxHeartbeats 1000000 in
theorem begins12_true (l t : List Int) (va vb : Value) (ok ok' : Nat → Prop) (w : World) (ha : SlR w ok 1 RInt va l) (hb : SlR w ok' 1 RInt vb (l ++ t)) :
  Calls Tryz.prog 38 #[va, vb] w fun e w' => e = .returned (.bool true) ∧ Below w.heap.size w w' := by
 obtain ⟨A1, k1, e1, h1, h1'⟩ := ha.val
 obtain ⟨A2, k2, e2, h2, h2'⟩ := hb.val
 rw [List.length_append] at e2 h2
 subst e1 e2
 have HA := Lib.hid ha
 have HB := Lib.hid hb
 have hlen := Nat.le_trans h1 h1'
 have hlen2 := Nat.le_trans h2 h2'
 unfold maxLen at hlen hlen2
 have b0 : decide ((l.length : Int) > ((l.length + t.length : Nat) : Int)) = false := decide_eq_false (by omega)
 have b1 : decide (((l.length + t.length : Nat) : Int) < (l.length : Int)) = false := decide_eq_false (by omega)
 generalize hn : l.length + t.length = n at *
 have hle : l.length ≤ n := by omega
 have HN := Lib.hid hn
 clear ha hb hn
 go_enter Tryz.func38, Tryz.ntmps38
 go_wp2_with fail
 go_loopw [5] (fun v wr => ∃ i : Nat, i ≤ l.length ∧ v = .int .i64 i ∧ ∃ nq, wr = w.drewN nq) (fun v _ => l.length - (intOf v).toNat)
 case atStart => exact ⟨0, by omega, rfl, 0, rfl⟩
 case round =>
  obtain ⟨i, hi, rfl, nq, rfl⟩ := hrel
  by_cases hlt : i < l.length
  ·have d0 : decide ((i : Int) < (l.length : Int)) = true := decide_eq_true (by omega)
   obtain ⟨b3, o3, c3, f3, _, _, hb3, q3⟩ := HA.out.form (by omega)
   obtain ⟨b4, o4, c4, f4, _, _, hb4, q4⟩ := HB.out.form (by simp; omega)
   obtain rfl : A1 = some ⟨b3, o3, none⟩ := by injection f3
   obtain rfl : A2 = some ⟨b4, o4, none⟩ := by injection f4
   obtain ⟨cs3, _, r3, s3⟩ := q3 i hlt
   obtain ⟨cs4, _, r4, s4⟩ := q4 i (by simp; omega)
   subst r3
   subst r4
   rw [List.getElem_append_left (h := hlt)] at s4
   obtain ⟨k, hk⟩ : ∃ k, k = l[i] := ⟨_, rfl⟩
   rw [← hk] at s3 s4
   have i3 : w.cell? ⟨b3, o3 + i, none⟩ = some (.int .i64 k) := by have h := s3.at_ (j := 0) rfl; simpa using h
   have i4 : w.cell? ⟨b4, o4 + i, none⟩ = some (.int .i64 k) := by have h := s4.at_ (j := 0) rfl; simpa using h
   have b5 : (k != k) = false := by simp
   have p2 : (i : Int) < (l.length : Int) := by omega
   have p3 : (i : Int) < (n : Int) := by omega
   clear f3 f4 q3 q4 s3 s4 hk
   go_wp2
   go_quiet (fail)
   go_wp2
   go_roundw
   case rel => exact ⟨i + 1, by omega, by go_num, _, rfl⟩
   case measure => simp [intOf]; omega
  ·have d0 : decide ((i : Int) < (l.length : Int)) = false := decide_eq_false (by omega)
   go_wp2
   go_ret
   exact ⟨rfl, below_drewN (Below.refl _ _) _⟩
set_option maxHeartbeats 1000000 in
theorem follows_true (ma mb : MRun) (hf : FollowsP ma mb) (Aa Ab : Option Addr) (ca cb : Nat) (w : World) (ha : SlR w (· < w.heap.size) 1 RInt (.slice Aa ma.out.length ca) ma.out) (hb : SlR w (· < w.heap.size) 1 RInt (.slice Ab mb.out.length cb) mb.out) :
  Calls Tryz.prog 19 #[.agg #[.int .i64 ma.status, .int .i64 ma.code, .slice Aa ma.out.length ca, .int .i64 ma.steps], .agg #[.int .i64 mb.status, .int .i64 mb.code, .slice Ab mb.out.length cb, .int .i64 mb.steps]] w fun e w' => e = .returned (.bool true) ∧ Below w.heap.size w w' := by
 unfold FollowsP at hf
 have HA := Lib.hid ha
 have HB := Lib.hid hb
 clear ha hb
 by_cases h0 : ma.status = 0
 ·rw [if_pos h0] at hf
  obtain ⟨t, ht⟩ := hf
  have e0 : (ma.status == 0) = true := by simp [h0]
  have hbb : SlR w (· < w.heap.size) 1 RInt (.slice Ab mb.out.length cb) (ma.out ++ t) := by rw [ht]; exact HB.out
  have HBE := Lib.hid (fun (X : World) (hx : Below w.heap.size w X) => begins12_true ma.out t _ _ _ _ X (HA.out.imp (ok' := (· < w.heap.size)) (R' := RInt) (fun _ h => h) (fun b h => hx.block b h) (fun _ _ _ r => r)) (hbb.imp (ok' := (· < w.heap.size)) (R' := RInt) (fun _ h => h) (fun b h => hx.block b h) (fun _ _ _ r => r)))
  clear h0 ht hbb
  go_enter Tryz.func19, Tryz.ntmps19
  go_upto_region 1 with fail
  refine wp_world ?_
  intro W hW
  have hB : Below w.heap.size w W := by rw [← hW]; exact ((Below.refl _ _).alloc (Nat.le_refl _) _).alloc (by simp) _
  have hX : Blk W w.heap.size 57 #[.int .i64 ma.status, .int .i64 ma.code, .slice Aa ma.out.length ca, .int .i64 ma.steps] := by rw [← hW]; exact (Blk.new w _ _).alloc _
  have hY : Blk W (w.heap.size + 1) 57 #[.int .i64 mb.status, .int .i64 mb.code, .slice Ab mb.out.length cb, .int .i64 mb.steps] := by rw [← hW]; exact Blk.new_at _ _ _ (by simp)
  have x0 : W.cell? ⟨w.heap.size, 0, none⟩ = some (.int .i64 ma.status) := hX.cell 0
  have x2 : W.cell? ⟨w.heap.size, 2, none⟩ = some (.slice Aa ma.out.length ca) := hX.cell 2
  have y2 : W.cell? ⟨w.heap.size + 1, 2, none⟩ = some (.slice Ab mb.out.length cb) := hY.cell 2
  have HBW := Lib.hid hB
  clear hW hB hX hY
  go_wp2_with (go_at_call 38; refine (HBE.out _ HBW.out).mono ?_; rintro e w2 ⟨rfl, hb2⟩)
  go_ret
  exact ⟨rfl, HBW.out.trans (hb2.mono HBW.out.size)⟩
 ·rw [if_neg h0] at hf
  obtain ⟨f1, f2, f3⟩ := hf
  have e0 : (ma.status == 0) = false := by simp [h0]
  obtain ⟨s, hs⟩ : ∃ s, s = ma.status := ⟨_, rfl⟩
  obtain ⟨c, hc⟩ : ∃ c, c = ma.code := ⟨_, rfl⟩
  obtain ⟨l, hl⟩ : ∃ l, l = ma.out := ⟨_, rfl⟩
  rw [← hs] at e0 f1
  rw [← hc] at f2
  have HA2 := HA.out
  have HB2 := HB.out
  rw [f3] at HB2
  rw [← hl] at HA2 HB2 f3
  have HSM := Lib.hid (fun (X : World) (hx : Below w.heap.size w X) => same_true s c mb.steps l _ _ X (HA2.imp (ok' := (· < X.heap.size)) (R' := RInt) (fun _ h => Nat.lt_of_lt_of_le h hx.size) (fun b h => hx.block b h) (fun _ _ _ r => r)) (HB2.imp (ok' := (· < X.heap.size)) (R' := RInt) (fun _ h => Nat.lt_of_lt_of_le h hx.size) (fun b h => hx.block b h) (fun _ _ _ r => r)))
  rw [f1, f2, f3, ← hs, ← hc, ← hl]
  generalize mb.steps = p at *
  generalize ma.steps = q at *
  clear h0 f1 f2 f3 hs hc hl HA HB HA2 HB2
  go_enter Tryz.func19, Tryz.ntmps19
  go_upto_region 1 with fail
  refine wp_world ?_
  intro W hW
  have hB : Below w.heap.size w W := by rw [← hW]; exact ((Below.refl _ _).alloc (Nat.le_refl _) _).alloc (by simp) _
  have hX : Blk W w.heap.size 57 #[.int .i64 s, .int .i64 c, .slice Aa l.length ca, .int .i64 q] := by rw [← hW]; exact (Blk.new w _ _).alloc _
  have hY : Blk W (w.heap.size + 1) 57 #[.int .i64 s, .int .i64 c, .slice Ab l.length cb, .int .i64 p] := by rw [← hW]; exact Blk.new_at _ _ _ (by simp)
  have x0 : W.cell? ⟨w.heap.size, 0, none⟩ = some (.int .i64 s) := hX.cell 0
  have x3 : W.cell? ⟨w.heap.size, 3, none⟩ = some (.int .i64 q) := hX.cell 3
  have y3 : W.cell? ⟨w.heap.size + 1, 3, none⟩ = some (.int .i64 p) := hY.cell 3
  have z3 : W.frozen? ⟨w.heap.size, 3, none⟩ = false := hX.frozen 3
  have HBW := Lib.hid hB
  have HX := Lib.hid hX
  have HY := Lib.hid hY
  clear hW hB hX hY
  go_upto_region 4 with fail
  refine wp_world ?_
  intro W2 hW2
  have hB2 : Below w.heap.size w W2 := by rw [← hW2]; exact HBW.out.setCell (Nat.le_refl _) _
  have hX2 : Blk W2 w.heap.size 57 #[.int .i64 s, .int .i64 c, .slice Aa l.length ca, .int .i64 p] := by rw [← hW2]; exact HX.out.set_ 3 _
  have hY2 : Blk W2 (w.heap.size + 1) 57 #[.int .i64 s, .int .i64 c, .slice Ab l.length cb, .int .i64 p] := by rw [← hW2]; exact HY.out.far (by show w.heap.size + 1 ≠ w.heap.size; omega) _
  clear hW2 x0 x3 y3 z3
  have x0 : W2.cell? ⟨w.heap.size, 0, none⟩ = some (.int .i64 s) := hX2.cell 0
  have x1 : W2.cell? ⟨w.heap.size, 1, none⟩ = some (.int .i64 c) := hX2.cell 1
  have x2 : W2.cell? ⟨w.heap.size, 2, none⟩ = some (.slice Aa l.length ca) := hX2.cell 2
  have x3 : W2.cell? ⟨w.heap.size, 3, none⟩ = some (.int .i64 p) := hX2.cell 3
  have y0 : W2.cell? ⟨w.heap.size + 1, 0, none⟩ = some (.int .i64 s) := hY2.cell 0
  have y1 : W2.cell? ⟨w.heap.size + 1, 1, none⟩ = some (.int .i64 c) := hY2.cell 1
  have y2 : W2.cell? ⟨w.heap.size + 1, 2, none⟩ = some (.slice Ab l.length cb) := hY2.cell 2
  have y3 : W2.cell? ⟨w.heap.size + 1, 3, none⟩ = some (.int .i64 p) := hY2.cell 3
  have HB2 := Lib.hid hB2
  clear hB2 hX2 hY2
  go_wp2_with (go_at_call 39; refine (HSM.out _ HB2.out).mono ?_; rintro e w2 ⟨rfl, hb2⟩)
  go_ret
  exact ⟨rfl, HB2.out.trans (hb2.mono HB2.out.size)⟩
end Go.Proofs.YtkpigkopjfkepaaGreatDoor
