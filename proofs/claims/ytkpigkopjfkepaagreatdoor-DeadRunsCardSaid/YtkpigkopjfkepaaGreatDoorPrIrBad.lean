/- What (*checker).term and (*checker).bad do. Printed by wip/gen_irbad.py. What (*checker).bad does at a function whose numbers may be. -/
import Derived.Test.YtkpigkopjfkepaaGreatDoorPrIrIns
namespace Go.Proofs.YtkpigkopjfkepaaGreatDoor
open Go.RowKit
section
set_option maxRecDepth 100000
set_option maxHeartbeats 4000000
theorem term_any (t : LTerm) (cb nb c : Nat) (A : Option Addr) (top : Int) (w : World) (c4 : w.cell? ⟨cb, 4, none⟩ = some (.int .i64 top)) (c5 : w.cell? ⟨cb, 5, none⟩ = some (.slice A nb c)) :
  Calls Tryz.prog 64 #[.pointer (some ⟨cb, 0, none⟩), .agg #[.int .i64 t.kind, .int .i64 t.a, .int .i64 t.to, .int .i64 t.els]] w fun e w' => e = .returned (.bool (termOk nb top t)) ∧ Below w.heap.size w w' := by
 obtain ⟨k, a, tt, els⟩ := t
 have hcb : cb < w.heap.size := World.block_lt_of_cell? w _ c4
 have HP := Lib.hid (fun n is W (h : W.cell? ⟨cb, 4, none⟩ = some (.int .i64 top)) => cplace_any cb n top is W h)
 have HB := Lib.hid (fun n is W (h : W.cell? ⟨cb, 5, none⟩ = some (.slice A nb c)) => cblock_any cb n A nb c is W h)
 have HN : Hid (termOk nb top ⟨k, a, tt, els⟩ = (decide (1 ≤ k ∧ k ≤ 4) && placeIf a top (decide (k ≠ 1)) && placeIf tt nb (decide (k = 1 ∨ k = 2)) && placeIf els nb (decide (k = 2)))) := Lib.hid rfl
 generalize termOk nb top ⟨k, a, tt, els⟩ = R at *
 show Calls _ _ #[_, .agg #[.int .i64 k, .int .i64 a, .int .i64 tt, .int .i64 els]] _ _
 rcases (by omega : k = 1 ∨ k = 2 ∨ k = 3 ∨ k = 4 ∨ (k ≠ 1 ∧ k ≠ 2 ∧ k ≠ 3 ∧ k ≠ 4)) with rfl | rfl | rfl | rfl | ⟨h1, h2, h3, h4⟩
 ·have HR := Lib.hid (show R = (placeIf a top false && placeIf tt nb true && placeIf els nb false) from by rw [HN.out]; simp)
  go_enter Tryz.func64, Tryz.ntmps64
  go_upto_region 1 with fail
  refine wp_world ?_
  intro W hW
  have hB : Below w.heap.size w W := by rw [← hW]; exact below1 _ _
  have hX : Blk W w.heap.size 46 #[.int .i64 1, .int .i64 a, .int .i64 tt, .int .i64 els] := by rw [← hW]; exact Blk.new_at _ _ _ rfl
  clear hW
  have x0 : W.cell? ⟨w.heap.size, 0, none⟩ = some (.int .i64 1) := hX.cell 0
  have x1 : W.cell? ⟨w.heap.size, 1, none⟩ = some (.int .i64 a) := hX.cell 1
  have x2 : W.cell? ⟨w.heap.size, 2, none⟩ = some (.int .i64 tt) := hX.cell 2
  have x3 : W.cell? ⟨w.heap.size, 3, none⟩ = some (.int .i64 els) := hX.cell 3
  have d4 : W.cell? ⟨cb, 4, none⟩ = some (.int .i64 top) := (hB.cell (p := ⟨cb, 4, none⟩) hcb).trans c4
  have d5 : W.cell? ⟨cb, 5, none⟩ = some (.slice A nb c) := (hB.cell (p := ⟨cb, 5, none⟩) hcb).trans c5
  have HBE := Lib.hid hB
  clear hB hX c4 c5
  go_quiet (fail)
  have HP1 := Lib.hid (fun (n : Nat) => HP.out a false (W.drewN n) d4)
  have HP2 := Lib.hid (fun (n : Nat) => HB.out tt true (W.drewN n) d5)
  have HP3 := Lib.hid (fun (n : Nat) => HB.out els false (W.drewN n) d5)
  generalize placeIf a top false = q1 at *
  generalize placeIf tt nb true = q2 at *
  generalize placeIf els nb false = q3 at *
  clear HP HB HN
  cases q1 with
  | false =>
   go_wp2_with (go_at_call 94; with_reducible refine (HP1.out _).mono ?_; rintro e w' ⟨rfl, rfl⟩)
   go_ret
   exact ⟨by rw [HR.out]; rfl, below_drewN HBE.out _⟩
  | true =>
  cases q2 with
  | false =>
   go_wp2_with (first | (go_at_call 94; with_reducible refine (HP1.out _).mono ?_; rintro e w' ⟨rfl, rfl⟩) | (go_at_call 95; with_reducible refine (HP2.out _).mono ?_; rintro e w' ⟨rfl, rfl⟩))
   go_ret
   exact ⟨by rw [HR.out]; rfl, below_drewN HBE.out _⟩
  | true =>
   go_wp2_with (first | (go_at_call 94; with_reducible refine (HP1.out _).mono ?_; rintro e w' ⟨rfl, rfl⟩) | (go_at_call 95; with_reducible refine (HP2.out _).mono ?_; rintro e w' ⟨rfl, rfl⟩) | (go_at_call 95; with_reducible refine (HP3.out _).mono ?_; rintro e w' ⟨rfl, rfl⟩))
   go_ret
   exact ⟨by rw [HR.out]; rfl, below_drewN HBE.out _⟩
 ·have HR := Lib.hid (show R = (placeIf a top true && placeIf tt nb true && placeIf els nb true) from by rw [HN.out]; simp)
  go_enter Tryz.func64, Tryz.ntmps64
  go_upto_region 1 with fail
  refine wp_world ?_
  intro W hW
  have hB : Below w.heap.size w W := by rw [← hW]; exact below1 _ _
  have hX : Blk W w.heap.size 46 #[.int .i64 2, .int .i64 a, .int .i64 tt, .int .i64 els] := by rw [← hW]; exact Blk.new_at _ _ _ rfl
  clear hW
  have x0 : W.cell? ⟨w.heap.size, 0, none⟩ = some (.int .i64 2) := hX.cell 0
  have x1 : W.cell? ⟨w.heap.size, 1, none⟩ = some (.int .i64 a) := hX.cell 1
  have x2 : W.cell? ⟨w.heap.size, 2, none⟩ = some (.int .i64 tt) := hX.cell 2
  have x3 : W.cell? ⟨w.heap.size, 3, none⟩ = some (.int .i64 els) := hX.cell 3
  have d4 : W.cell? ⟨cb, 4, none⟩ = some (.int .i64 top) := (hB.cell (p := ⟨cb, 4, none⟩) hcb).trans c4
  have d5 : W.cell? ⟨cb, 5, none⟩ = some (.slice A nb c) := (hB.cell (p := ⟨cb, 5, none⟩) hcb).trans c5
  have HBE := Lib.hid hB
  clear hB hX c4 c5
  go_quiet (fail)
  have HP1 := Lib.hid (fun (n : Nat) => HP.out a true (W.drewN n) d4)
  have HP2 := Lib.hid (fun (n : Nat) => HB.out tt true (W.drewN n) d5)
  have HP3 := Lib.hid (fun (n : Nat) => HB.out els true (W.drewN n) d5)
  generalize placeIf a top true = q1 at *
  generalize placeIf tt nb true = q2 at *
  generalize placeIf els nb true = q3 at *
  clear HP HB HN
  cases q1 with
  | false =>
   go_wp2_with (go_at_call 94; with_reducible refine (HP1.out _).mono ?_; rintro e w' ⟨rfl, rfl⟩)
   go_ret
   exact ⟨by rw [HR.out]; rfl, below_drewN HBE.out _⟩
  | true =>
  cases q2 with
  | false =>
   go_wp2_with (first | (go_at_call 94; with_reducible refine (HP1.out _).mono ?_; rintro e w' ⟨rfl, rfl⟩) | (go_at_call 95; with_reducible refine (HP2.out _).mono ?_; rintro e w' ⟨rfl, rfl⟩))
   go_ret
   exact ⟨by rw [HR.out]; rfl, below_drewN HBE.out _⟩
  | true =>
   go_wp2_with (first | (go_at_call 94; with_reducible refine (HP1.out _).mono ?_; rintro e w' ⟨rfl, rfl⟩) | (go_at_call 95; with_reducible refine (HP2.out _).mono ?_; rintro e w' ⟨rfl, rfl⟩) | (go_at_call 95; with_reducible refine (HP3.out _).mono ?_; rintro e w' ⟨rfl, rfl⟩))
   go_ret
   exact ⟨by rw [HR.out]; rfl, below_drewN HBE.out _⟩
 ·have HR := Lib.hid (show R = (placeIf a top true && placeIf tt nb false && placeIf els nb false) from by rw [HN.out]; simp)
  go_enter Tryz.func64, Tryz.ntmps64
  go_upto_region 1 with fail
  refine wp_world ?_
  intro W hW
  have hB : Below w.heap.size w W := by rw [← hW]; exact below1 _ _
  have hX : Blk W w.heap.size 46 #[.int .i64 3, .int .i64 a, .int .i64 tt, .int .i64 els] := by rw [← hW]; exact Blk.new_at _ _ _ rfl
  clear hW
  have x0 : W.cell? ⟨w.heap.size, 0, none⟩ = some (.int .i64 3) := hX.cell 0
  have x1 : W.cell? ⟨w.heap.size, 1, none⟩ = some (.int .i64 a) := hX.cell 1
  have x2 : W.cell? ⟨w.heap.size, 2, none⟩ = some (.int .i64 tt) := hX.cell 2
  have x3 : W.cell? ⟨w.heap.size, 3, none⟩ = some (.int .i64 els) := hX.cell 3
  have d4 : W.cell? ⟨cb, 4, none⟩ = some (.int .i64 top) := (hB.cell (p := ⟨cb, 4, none⟩) hcb).trans c4
  have d5 : W.cell? ⟨cb, 5, none⟩ = some (.slice A nb c) := (hB.cell (p := ⟨cb, 5, none⟩) hcb).trans c5
  have HBE := Lib.hid hB
  clear hB hX c4 c5
  go_quiet (fail)
  have HP1 := Lib.hid (fun (n : Nat) => HP.out a true (W.drewN n) d4)
  have HP2 := Lib.hid (fun (n : Nat) => HB.out tt false (W.drewN n) d5)
  have HP3 := Lib.hid (fun (n : Nat) => HB.out els false (W.drewN n) d5)
  generalize placeIf a top true = q1 at *
  generalize placeIf tt nb false = q2 at *
  generalize placeIf els nb false = q3 at *
  clear HP HB HN
  cases q1 with
  | false =>
   go_wp2_with (go_at_call 94; with_reducible refine (HP1.out _).mono ?_; rintro e w' ⟨rfl, rfl⟩)
   go_ret
   exact ⟨by rw [HR.out]; rfl, below_drewN HBE.out _⟩
  | true =>
  cases q2 with
  | false =>
   go_wp2_with (first | (go_at_call 94; with_reducible refine (HP1.out _).mono ?_; rintro e w' ⟨rfl, rfl⟩) | (go_at_call 95; with_reducible refine (HP2.out _).mono ?_; rintro e w' ⟨rfl, rfl⟩))
   go_ret
   exact ⟨by rw [HR.out]; rfl, below_drewN HBE.out _⟩
  | true =>
   go_wp2_with (first | (go_at_call 94; with_reducible refine (HP1.out _).mono ?_; rintro e w' ⟨rfl, rfl⟩) | (go_at_call 95; with_reducible refine (HP2.out _).mono ?_; rintro e w' ⟨rfl, rfl⟩) | (go_at_call 95; with_reducible refine (HP3.out _).mono ?_; rintro e w' ⟨rfl, rfl⟩))
   go_ret
   exact ⟨by rw [HR.out]; rfl, below_drewN HBE.out _⟩
 ·have HR := Lib.hid (show R = (placeIf a top true && placeIf tt nb false && placeIf els nb false) from by rw [HN.out]; simp)
  go_enter Tryz.func64, Tryz.ntmps64
  go_upto_region 1 with fail
  refine wp_world ?_
  intro W hW
  have hB : Below w.heap.size w W := by rw [← hW]; exact below1 _ _
  have hX : Blk W w.heap.size 46 #[.int .i64 4, .int .i64 a, .int .i64 tt, .int .i64 els] := by rw [← hW]; exact Blk.new_at _ _ _ rfl
  clear hW
  have x0 : W.cell? ⟨w.heap.size, 0, none⟩ = some (.int .i64 4) := hX.cell 0
  have x1 : W.cell? ⟨w.heap.size, 1, none⟩ = some (.int .i64 a) := hX.cell 1
  have x2 : W.cell? ⟨w.heap.size, 2, none⟩ = some (.int .i64 tt) := hX.cell 2
  have x3 : W.cell? ⟨w.heap.size, 3, none⟩ = some (.int .i64 els) := hX.cell 3
  have d4 : W.cell? ⟨cb, 4, none⟩ = some (.int .i64 top) := (hB.cell (p := ⟨cb, 4, none⟩) hcb).trans c4
  have d5 : W.cell? ⟨cb, 5, none⟩ = some (.slice A nb c) := (hB.cell (p := ⟨cb, 5, none⟩) hcb).trans c5
  have HBE := Lib.hid hB
  clear hB hX c4 c5
  go_quiet (fail)
  have HP1 := Lib.hid (fun (n : Nat) => HP.out a true (W.drewN n) d4)
  have HP2 := Lib.hid (fun (n : Nat) => HB.out tt false (W.drewN n) d5)
  have HP3 := Lib.hid (fun (n : Nat) => HB.out els false (W.drewN n) d5)
  generalize placeIf a top true = q1 at *
  generalize placeIf tt nb false = q2 at *
  generalize placeIf els nb false = q3 at *
  clear HP HB HN
  cases q1 with
  | false =>
   go_wp2_with (go_at_call 94; with_reducible refine (HP1.out _).mono ?_; rintro e w' ⟨rfl, rfl⟩)
   go_ret
   exact ⟨by rw [HR.out]; rfl, below_drewN HBE.out _⟩
  | true =>
  cases q2 with
  | false =>
   go_wp2_with (first | (go_at_call 94; with_reducible refine (HP1.out _).mono ?_; rintro e w' ⟨rfl, rfl⟩) | (go_at_call 95; with_reducible refine (HP2.out _).mono ?_; rintro e w' ⟨rfl, rfl⟩))
   go_ret
   exact ⟨by rw [HR.out]; rfl, below_drewN HBE.out _⟩
  | true =>
   go_wp2_with (first | (go_at_call 94; with_reducible refine (HP1.out _).mono ?_; rintro e w' ⟨rfl, rfl⟩) | (go_at_call 95; with_reducible refine (HP2.out _).mono ?_; rintro e w' ⟨rfl, rfl⟩) | (go_at_call 95; with_reducible refine (HP3.out _).mono ?_; rintro e w' ⟨rfl, rfl⟩))
   go_ret
   exact ⟨by rw [HR.out]; rfl, below_drewN HBE.out _⟩
 ·have HR := Lib.hid (show R = false from by rw [HN.out, decide_eq_false (by omega)]; simp)
  have e1 : (k == 1) = false := by simp [h1]
  have e2 : (k == 2) = false := by simp [h2]
  have e3 : (k == 3) = false := by simp [h3]
  have e4 : (k == 4) = false := by simp [h4]
  clear h1 h2 h3 h4
  go_enter Tryz.func64, Tryz.ntmps64
  go_upto_region 1 with fail
  refine wp_world ?_
  intro W hW
  have hB : Below w.heap.size w W := by rw [← hW]; exact below1 _ _
  have hX : Blk W w.heap.size 46 #[.int .i64 k, .int .i64 a, .int .i64 tt, .int .i64 els] := by rw [← hW]; exact Blk.new_at _ _ _ rfl
  clear hW
  have x0 : W.cell? ⟨w.heap.size, 0, none⟩ = some (.int .i64 k) := hX.cell 0
  have x1 : W.cell? ⟨w.heap.size, 1, none⟩ = some (.int .i64 a) := hX.cell 1
  have x2 : W.cell? ⟨w.heap.size, 2, none⟩ = some (.int .i64 tt) := hX.cell 2
  have x3 : W.cell? ⟨w.heap.size, 3, none⟩ = some (.int .i64 els) := hX.cell 3
  have d4 : W.cell? ⟨cb, 4, none⟩ = some (.int .i64 top) := (hB.cell (p := ⟨cb, 4, none⟩) hcb).trans c4
  have d5 : W.cell? ⟨cb, 5, none⟩ = some (.slice A nb c) := (hB.cell (p := ⟨cb, 5, none⟩) hcb).trans c5
  have HBE := Lib.hid hB
  clear hB hX c4 c5
  go_quiet (fail)
  go_wp2
  go_ret
  exact ⟨by rw [HR.out]; rfl, below_drewN HBE.out _⟩
theorem bad2_pred (u : LUnit) (f : LFlow) (cc cb : Nat) (A1 A2 : Option Addr) (c1 c2 : Nat) (vb : Value) (l : List LIns) (w : World) (h : w.cell? ⟨cc, 0, none⟩ = some (.pointer (some ⟨cb, 0, none⟩))) (hc : ChkR w cb u f A1 c1 A2 c2 vb) : Pred_ins 66 #[.pointer (some ⟨cc, 0, none⟩)] (fun x => !insOk u f.values x) l w := by
 intro W x A c _ hb hs
 have h' : W.cell? ⟨cc, 0, none⟩ = some (.pointer (some ⟨cb, 0, none⟩)) := (hb.cell (p := ⟨cc, 0, none⟩) (World.block_lt_of_cell? w _ h)).trans h
 have hcc : cc < W.heap.size := World.block_lt_of_cell? W _ h'
 have hc1 := hc.below hb
 have HI := Lib.hid (fun (W2 : World) (hb2 : Below W.heap.size W W2) => ins_any x u f A A1 A2 c c1 c2 cb vb W2 (hc1.below hb2) (hs.imp (fun _ h => Nat.lt_of_lt_of_le h hb2.size) (fun b h => hb2.block b h) (fun _ _ _ r => r)))
 have HB := Lib.hid hb
 clear hc1 hs hb hc
 go_enter Tryz.func66, Tryz.ntmps66
 go_wp2_with (go_at_call 67; refine (HI.out _ (below1 _ _)).mono ?_; rintro e w' ⟨rfl, hb1⟩)
 go_ret
 exact ⟨rfl, (HB.out.alloc HB.out.size _).trans (hb1.mono (by have := HB.out.size; simp; omega))⟩
theorem bad1_pred (u : LUnit) (f : LFlow) (cc cb : Nat) (A1 A2 : Option Addr) (c1 c2 : Nat) (A : Option Addr) (c : Nat) (l : List LBlock) (w : World) (h : w.cell? ⟨cc, 0, none⟩ = some (.pointer (some ⟨cb, 0, none⟩))) (hc : ChkR w cb u f A1 c1 A2 c2 (.slice A f.blocks.length c)) : Pred_block 63 #[.pointer (some ⟨cc, 0, none⟩)] (blockBad u f) l w := by
 intro W x A0 c0 _ hb hs
 have h' : W.cell? ⟨cc, 0, none⟩ = some (.pointer (some ⟨cb, 0, none⟩)) := (hb.cell (p := ⟨cc, 0, none⟩) (World.block_lt_of_cell? w _ h)).trans h
 have hcc : cc < W.heap.size := World.block_lt_of_cell? W _ h'
 have hc1 := hc.below hb
 have HT := Lib.hid (fun (W2 : World) (hb2 : Below W.heap.size W W2) => term_any x.term cb f.blocks.length c A f.values W2 (hc1.below hb2).at_.c4 (hc1.below hb2).at_.c5)
 have HI := Lib.hid (fun (W2 : World) (hb2 : Below W.heap.size W W2) => con_bad2 x.ins (.slice A0 x.ins.length c0) cc (fun x => !insOk u f.values x) W2 (hs.imp (R' := RIns W2 (· < W2.heap.size)) (fun _ h => Nat.lt_of_lt_of_le h hb2.size) (fun b h => hb2.block b h) (fun _ _ _ r => r.imp (fun _ h => Nat.lt_of_lt_of_le h hb2.size) (fun b h => hb2.block b h))) (bad2_pred u f cc cb A1 A2 c1 c2 _ x.ins W2 ((hb2.cell (p := ⟨cc, 0, none⟩) hcc).trans h') (hc1.below hb2)))
 have HB := Lib.hid hb
 have HR : Hid (blockBad u f x = (!termOk f.blocks.length f.values x.term || x.ins.any (fun x => !insOk u f.values x))) := Lib.hid (by unfold blockBad; with_reducible rfl)
 clear hc1 hs hb hc
 generalize blockBad u f x = R at *
 generalize x.ins.any (fun x => !insOk u f.values x) = Q at *
 go_enter Tryz.func63, Tryz.ntmps63
 generalize termOk f.blocks.length f.values x.term = q at *
 have hw1 := Lib.hid (below1 W (.cells #[.slice A0 x.ins.length c0, .int .i64 x.term.kind, .int .i64 x.term.a, .int .i64 x.term.to, .int .i64 x.term.els] 48))
 have HX1 := Lib.hid (Blk.new W 48 #[.slice A0 x.ins.length c0, .int .i64 x.term.kind, .int .i64 x.term.a, .int .i64 x.term.to, .int .i64 x.term.els])
 cases q with
 | false =>
  go_wp2_with (go_at_call 64; refine (HT.out _ hw1.out).mono ?_; rintro e w' ⟨rfl, hb1⟩)
  go_ret
  exact ⟨by rw [HR.out]; rfl, (HB.out.alloc HB.out.size _).trans (hb1.mono (by have := HB.out.size; simp; omega))⟩
 | true =>
  go_wp2_with (first | (go_at_call 64; refine (HT.out _ hw1.out).mono ?_; rintro e w1 ⟨rfl, hb1⟩; have HB1 := Lib.hid hb1; have y0 := (HX1.out.below hb1 HX1.out.lt).cell 0; clear hb1) | (go_at_call 65; refine (HI.out _ (hw1.out.trans (HB1.out.mono hw1.out.size))).mono ?_; rintro e w2 ⟨rfl, hb3⟩))
  go_ret
  exact ⟨by rw [HR.out]; rfl, HB.out.trans (((hw1.out.trans (HB1.out.mono hw1.out.size)).trans (hb3.mono (hw1.out.trans (HB1.out.mono hw1.out.size)).size)).mono HB.out.size)⟩
end
end Go.Proofs.YtkpigkopjfkepaaGreatDoor
namespace Go.Proofs.YtkpigkopjfkepaaGreatDoor
open Go.RowKit
theorem insCount_succ (l : List LBlock) (k : Nat) (h : k < l.length) : insCount (l.take (k + 1)) = insCount (l.take k) + l[k].ins.length := by
 unfold insCount
 rw [List.take_succ_eq_append_getElem h, List.map_append, List.sum_append]
 simp
theorem insCount_le {l : List LBlock} (h : ∀ b ∈ l, b.ins.length ≤ 1000) : insCount l ≤ 1000 * l.length := by
 unfold insCount
 induction l with
 | nil => simp
 | cons a r ih =>
  have h1 := h a (by simp)
  have h2 := ih fun b hb => h b (by simp [hb])
  simp only [List.map_cons, List.sum_cons, List.length_cons]
  omega
theorem flowBad_false {f : LFlow} (h : flowBad f = false) : 0 ≤ f.params ∧ f.params ≤ 6 ∧ f.params ≤ f.values ∧ f.values ≤ 50000 ∧ 0 < f.blocks.length ∧ f.blocks.length ≤ 20000 ∧ insCount f.blocks ≤ 200000 := by
 unfold flowBad at h
 have := of_decide_eq_false h
 omega
section
set_option maxRecDepth 100000
set_option maxHeartbeats 4000000
theorem bad_any (u : LUnit) (f : LFlow) (cb : Nat) (A1 A2 : Option Addr) (c1 c2 : Nat) (A : Option Addr) (c : Nat) (w : World) (hc : ChkR w cb u f A1 c1 A2 c2 (.slice A f.blocks.length c)) (hbl : SlR w (· < w.heap.size) 5 (RBlock w (· < w.heap.size)) (.slice A f.blocks.length c) f.blocks) (hfb : flowBad f = false) (hin : ∀ b ∈ f.blocks, b.ins.length ≤ 1000) :
  Calls Tryz.prog 30 #[.pointer (some ⟨cb, 0, none⟩)] w fun e w' => e = .returned (.tuple #[.int .i64 (findI (blockBad u f) f.blocks), .bool true]) ∧ Below w.heap.size w w' := by
 obtain ⟨g1, g2, g3, g4, g5, g6, g7⟩ := flowBad_false hfb
 have HC := Lib.hid hc
 have HBL := Lib.hid hbl
 have HIN := Lib.hid hin
 have c0 : w.cell? ⟨cb, 2, none⟩ = some (.string f.name) := hc.at_.c2
 have c1' : w.cell? ⟨cb, 3, none⟩ = some (.int .i64 f.params) := hc.at_.c3
 have c2' : w.cell? ⟨cb, 4, none⟩ = some (.int .i64 f.values) := hc.at_.c4
 have c3' : w.cell? ⟨cb, 5, none⟩ = some (.slice A f.blocks.length c) := hc.at_.c5
 have hcb := hc.at_.lt
 clear hc hbl hfb hin
 go_enter Tryz.func30, Tryz.ntmps30
 go_upto_region 2 with fail
 refine wp_world ?_
 intro W hW
 have hB : Below w.heap.size w W := by rw [← hW]; exact below2 _ _ _
 have hK : Blk W w.heap.size 74 #[.pointer (some ⟨cb, 0, none⟩)] := by rw [← hW]; exact (Blk.new_at _ _ _ rfl).alloc _
 have hF : Blk W (w.heap.size + 1) 41 #[.string f.name, .int .i64 f.params, .int .i64 f.values, .slice A f.blocks.length c] := by rw [← hW]; exact Blk.new_at _ _ _ (by simp)
 clear hW
 have up : ∀ b, b < w.heap.size → b < W.heap.size := fun b h => Nat.lt_of_lt_of_le h hB.size
 have kp : Keeps (· < w.heap.size) w W := fun b h => hB.block b h
 have HC1 := Lib.hid (HC.out.below hB)
 have HBL1 := Lib.hid (HBL.out.imp (ok' := (· < W.heap.size)) (R' := RBlock W (· < W.heap.size)) up kp (fun _ _ _ r => r.imp up kp))
 have HB := Lib.hid hB
 have HK := Lib.hid hK
 have HF := Lib.hid hF
 have f3 : W.cell? ⟨w.heap.size + 1, 3, none⟩ = some (.slice A f.blocks.length c) := hF.cell 3
 clear up kp hB hK hF HC HBL c0 c1' c2' c3'
 go_wp2
 clear f3
 go_loopw [5, 15] (fun n i wr => ∃ k : Nat, k ≤ f.blocks.length ∧ i = .int .i64 k ∧ n = .int .i64 (insCount (f.blocks.take k) : Int) ∧ Below W.heap.size W wr) (fun _ i _ => f.blocks.length - (RowKit.intOf i).toNat)
 case atStart => exact ⟨0, by omega, rfl, rfl, Below.refl _ _⟩
 case round =>
  obtain ⟨k, hk, rfl, rfl, hbr⟩ := hrel
  have hsz := hbr.size
  by_cases hlt : k < f.blocks.length
  ·have d1 : decide ((k : Int) < (f.blocks.length : Int)) = true := decide_eq_true (by omega)
   obtain ⟨b3, o3, c3, fm, _, _, hb3, q3⟩ := HBL1.out.form (by omega)
   obtain rfl : A = some ⟨b3, o3, none⟩ := by injection fm
   obtain ⟨cs, _, ⟨vi, hcs, hsx⟩, hcell⟩ := q3 k hlt
   have hcnt := insCount_succ f.blocks k hlt
   have hle := insCount_le (l := f.blocks.take k) (fun b hb => HIN.out b (List.mem_of_mem_take hb))
   have hlen : (f.blocks.take k).length = k := by simp; omega
   have hil := HIN.out _ (List.getElem_mem hlt)
   obtain ⟨x, hx⟩ : ∃ x, x = f.blocks[k] := ⟨_, rfl⟩
   rw [← hx] at hcs hsx hcnt hil
   obtain ⟨Ax, cx, hvx, _, _⟩ := hsx.val
   subst hvx
   obtain ⟨xi, xt⟩ := x
   subst hcs
   have hcw := hcell.keep (hbr.block b3 hb3)
   have i0 : wr.cell? ⟨b3, o3 + k * 5, none⟩ = some (.slice Ax xi.length cx) := by have h := hcw.at_ (j := 0) rfl; simpa using h
   have i1 : wr.cell? ⟨b3, o3 + k * 5 + 1, none⟩ = some (.int .i64 xt.kind) := hcw.at_ (j := 1) rfl
   have i2 : wr.cell? ⟨b3, o3 + k * 5 + 2, none⟩ = some (.int .i64 xt.a) := hcw.at_ (j := 2) rfl
   have i3 : wr.cell? ⟨b3, o3 + k * 5 + 3, none⟩ = some (.int .i64 xt.to) := hcw.at_ (j := 3) rfl
   have i4 : wr.cell? ⟨b3, o3 + k * 5 + 4, none⟩ = some (.int .i64 xt.els) := hcw.at_ (j := 4) rfl
   replace hcnt : insCount (f.blocks.take (k + 1)) = insCount (f.blocks.take k) + xi.length := hcnt
   replace hil : xi.length ≤ 1000 := hil
   rw [hlen] at hle
   have HCN := Lib.hid hcnt
   have HBR := Lib.hid hbr
   generalize insCount (f.blocks.take k) = s at *
   have hs1 : s ≤ 20000000 := by omega
   clear fm q3 hcell hcw hx hsx hb3 hcnt hbr hle hlen
   go_wp2
   go_roundw
   case rel => exact ⟨k + 1, by omega, by go_num, by rw [HCN.out]; go_num, HBR.out.alloc HBR.out.size _⟩
   case measure => simp [RowKit.intOf]; omega
  ·have d1 : decide ((k : Int) < (f.blocks.length : Int)) = false := decide_eq_false (by omega)
   have htk : f.blocks.take k = f.blocks := List.take_of_length_le (by omega)
   rw [htk]
   have h1 : wr.cell? ⟨w.heap.size + 1, 1, none⟩ = some (.int .i64 f.params) := (HF.out.below hbr HF.out.lt).cell 1
   have h2 : wr.cell? ⟨w.heap.size + 1, 2, none⟩ = some (.int .i64 f.values) := (HF.out.below hbr HF.out.lt).cell 2
   have h3 : wr.cell? ⟨w.heap.size + 1, 3, none⟩ = some (.slice A f.blocks.length c) := (HF.out.below hbr HF.out.lt).cell 3
   have up : ∀ b, b < W.heap.size → b < wr.heap.size := fun b h => Nat.lt_of_lt_of_le h hbr.size
   have kp : Keeps (· < W.heap.size) W wr := fun b h => hbr.block b h
   have HBL2 := HBL1.out.imp (ok' := (· < wr.heap.size)) (R' := RBlock wr (· < wr.heap.size)) up kp (fun _ _ _ r => r.imp up kp)
   have HI := Lib.hid (idx_bad1 f.blocks (.slice A f.blocks.length c) w.heap.size (blockBad u f) wr HBL2 (bad1_pred u f w.heap.size cb A1 A2 c1 c2 A c f.blocks wr ((HK.out.below hbr HK.out.lt).cell 0) (HC1.out.below hbr)))
   have HBR := Lib.hid hbr
   clear htk up kp HBL2 hbr hsz
   generalize insCount f.blocks = s at *
   have e1 : decide (f.params < 0) = false := decide_eq_false (by omega)
   have e2 : decide (f.params > 6) = false := decide_eq_false (by omega)
   have e2' : decide (6 < f.params) = false := decide_eq_false (by omega)
   have e3 : decide (f.values < f.params) = false := decide_eq_false (by omega)
   have e4 : decide (f.values > 50000) = false := decide_eq_false (by omega)
   have e4' : decide (50000 < f.values) = false := decide_eq_false (by omega)
   have e5 : ((f.blocks.length : Int) == 0) = false := by rw [beq_dec]; exact decide_eq_false (by omega)
   have e6 : decide ((f.blocks.length : Int) > 20000) = false := decide_eq_false (by omega)
   have e6' : decide (20000 < (f.blocks.length : Int)) = false := decide_eq_false (by omega)
   have e7 : decide ((s : Int) > 200000) = false := decide_eq_false (by omega)
   have e7' : decide (200000 < (s : Int)) = false := decide_eq_false (by omega)
   go_wp2_with (go_at_call 62; refine HI.out.mono ?_; rintro e w2 ⟨rfl, hb2⟩)
   go_ret2
   exact ⟨rfl, HB.out.trans ((HBR.out.trans (hb2.mono HBR.out.size)).mono HB.out.size)⟩
end
end Go.Proofs.YtkpigkopjfkepaaGreatDoor
