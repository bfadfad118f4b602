/- What (*checker).term and (*checker).bad do. Printed by wip/gen_irbad.py. -/
import Derived.Test.YtnpnhdmfdhnmfaaGreatDoorIrIns
namespace Go.Proofs.YtnpnhdmfdhnmfaaGreatDoor
open Go.RowKit

section
set_option maxRecDepth 100000
set_option maxHeartbeats 4000000
theorem term_any (t : LTerm) (cb nb c : Nat) (A : Option Addr) (top : Int) (w : World) (c4 : w.cell? ⟨cb, 4, none⟩ = some (.int .i64 top)) (c5 : w.cell? ⟨cb, 5, none⟩ = some (.slice A nb c)) :
    Calls Tryz.prog 65 #[.pointer (some ⟨cb, 0, none⟩), .agg #[.int .i64 t.kind, .int .i64 t.a, .int .i64 t.to, .int .i64 t.els]] w fun e w' => e = .returned (.bool (termOk nb top t)) ∧ Below w.heap.size w w' := by
  obtain ⟨k, a, tt, els⟩ := t
  have hcb : cb < w.heap.size := World.block_lt_of_cell? w _ c4
  have HP := Lib.hid (fun n is W (h : W.cell? ⟨cb, 4, none⟩ = some (.int .i64 top)) => cplace_any cb n top is W h)
  have HB := Lib.hid (fun n is W (h : W.cell? ⟨cb, 5, none⟩ = some (.slice A nb c)) => cblock_any cb n A nb c is W h)
  have HN : Hid (termOk nb top ⟨k, a, tt, els⟩ = (decide (1 ≤ k ∧ k ≤ 4) && placeIf a top (decide (k ≠ 1)) && placeIf tt nb (decide (k = 1 ∨ k = 2)) && placeIf els nb (decide (k = 2)))) := Lib.hid rfl
  generalize termOk nb top ⟨k, a, tt, els⟩ = R at *
  show Calls _ _ #[_, .agg #[.int .i64 k, .int .i64 a, .int .i64 tt, .int .i64 els]] _ _
  rcases (by omega : k = 1 ∨ k = 2 ∨ k = 3 ∨ k = 4 ∨ (k ≠ 1 ∧ k ≠ 2 ∧ k ≠ 3 ∧ k ≠ 4)) with rfl | rfl | rfl | rfl | ⟨h1, h2, h3, h4⟩
  · have HR := Lib.hid (show R = (placeIf a top false && placeIf tt nb true && placeIf els nb false) from by rw [HN.out]; simp)
    go_enter Tryz.func65, Tryz.ntmps65
    go_upto_region 1 with fail
    refine wp_world ?_
    intro W hW
    have hB : Below w.heap.size w W := by rw [← hW]; exact below1 _ _
    have hX : Blk W w.heap.size 41 #[.int .i64 1, .int .i64 a, .int .i64 tt, .int .i64 els] := by rw [← hW]; exact Blk.new_at _ _ _ rfl
    clear hW
    have x0 : W.cell? ⟨w.heap.size, 0, none⟩ = some (.int .i64 1) := hX.cell 0
    have x1 : W.cell? ⟨w.heap.size, 1, none⟩ = some (.int .i64 a) := hX.cell 1
    have x2 : W.cell? ⟨w.heap.size, 2, none⟩ = some (.int .i64 tt) := hX.cell 2
    have x3 : W.cell? ⟨w.heap.size, 3, none⟩ = some (.int .i64 els) := hX.cell 3
    have d4 : W.cell? ⟨cb, 4, none⟩ = some (.int .i64 top) := (hB.cell (p := ⟨cb, 4, none⟩) hcb).trans c4
    have d5 : W.cell? ⟨cb, 5, none⟩ = some (.slice A nb c) := (hB.cell (p := ⟨cb, 5, none⟩) hcb).trans c5
    have HBE := Lib.hid hB
    clear hB hX c4 c5
    go_quiet (fail)
    have HP1 := Lib.hid (fun (n : Nat) => HP.out a false (W.drewN n) d4)
    have HP2 := Lib.hid (fun (n : Nat) => HB.out tt true (W.drewN n) d5)
    have HP3 := Lib.hid (fun (n : Nat) => HB.out els false (W.drewN n) d5)
    generalize placeIf a top false = q1 at *
    generalize placeIf tt nb true = q2 at *
    generalize placeIf els nb false = q3 at *
    clear HP HB HN
    cases q1 with
    | false =>
      go_wp2_with (go_at_call 85; with_reducible refine (HP1.out _).mono ?_; rintro e w' ⟨rfl, rfl⟩)
      go_ret
      exact ⟨by rw [HR.out]; rfl, below_drewN HBE.out _⟩
    | true =>
    cases q2 with
    | false =>
      go_wp2_with (first | (go_at_call 85; with_reducible refine (HP1.out _).mono ?_; rintro e w' ⟨rfl, rfl⟩) | (go_at_call 86; with_reducible refine (HP2.out _).mono ?_; rintro e w' ⟨rfl, rfl⟩))
      go_ret
      exact ⟨by rw [HR.out]; rfl, below_drewN HBE.out _⟩
    | true =>
      go_wp2_with (first | (go_at_call 85; with_reducible refine (HP1.out _).mono ?_; rintro e w' ⟨rfl, rfl⟩) | (go_at_call 86; with_reducible refine (HP2.out _).mono ?_; rintro e w' ⟨rfl, rfl⟩) | (go_at_call 86; with_reducible refine (HP3.out _).mono ?_; rintro e w' ⟨rfl, rfl⟩))
      go_ret
      exact ⟨by rw [HR.out]; rfl, below_drewN HBE.out _⟩
  · have HR := Lib.hid (show R = (placeIf a top true && placeIf tt nb true && placeIf els nb true) from by rw [HN.out]; simp)
    go_enter Tryz.func65, Tryz.ntmps65
    go_upto_region 1 with fail
    refine wp_world ?_
    intro W hW
    have hB : Below w.heap.size w W := by rw [← hW]; exact below1 _ _
    have hX : Blk W w.heap.size 41 #[.int .i64 2, .int .i64 a, .int .i64 tt, .int .i64 els] := by rw [← hW]; exact Blk.new_at _ _ _ rfl
    clear hW
    have x0 : W.cell? ⟨w.heap.size, 0, none⟩ = some (.int .i64 2) := hX.cell 0
    have x1 : W.cell? ⟨w.heap.size, 1, none⟩ = some (.int .i64 a) := hX.cell 1
    have x2 : W.cell? ⟨w.heap.size, 2, none⟩ = some (.int .i64 tt) := hX.cell 2
    have x3 : W.cell? ⟨w.heap.size, 3, none⟩ = some (.int .i64 els) := hX.cell 3
    have d4 : W.cell? ⟨cb, 4, none⟩ = some (.int .i64 top) := (hB.cell (p := ⟨cb, 4, none⟩) hcb).trans c4
    have d5 : W.cell? ⟨cb, 5, none⟩ = some (.slice A nb c) := (hB.cell (p := ⟨cb, 5, none⟩) hcb).trans c5
    have HBE := Lib.hid hB
    clear hB hX c4 c5
    go_quiet (fail)
    have HP1 := Lib.hid (fun (n : Nat) => HP.out a true (W.drewN n) d4)
    have HP2 := Lib.hid (fun (n : Nat) => HB.out tt true (W.drewN n) d5)
    have HP3 := Lib.hid (fun (n : Nat) => HB.out els true (W.drewN n) d5)
    generalize placeIf a top true = q1 at *
    generalize placeIf tt nb true = q2 at *
    generalize placeIf els nb true = q3 at *
    clear HP HB HN
    cases q1 with
    | false =>
      go_wp2_with (go_at_call 85; with_reducible refine (HP1.out _).mono ?_; rintro e w' ⟨rfl, rfl⟩)
      go_ret
      exact ⟨by rw [HR.out]; rfl, below_drewN HBE.out _⟩
    | true =>
    cases q2 with
    | false =>
      go_wp2_with (first | (go_at_call 85; with_reducible refine (HP1.out _).mono ?_; rintro e w' ⟨rfl, rfl⟩) | (go_at_call 86; with_reducible refine (HP2.out _).mono ?_; rintro e w' ⟨rfl, rfl⟩))
      go_ret
      exact ⟨by rw [HR.out]; rfl, below_drewN HBE.out _⟩
    | true =>
      go_wp2_with (first | (go_at_call 85; with_reducible refine (HP1.out _).mono ?_; rintro e w' ⟨rfl, rfl⟩) | (go_at_call 86; with_reducible refine (HP2.out _).mono ?_; rintro e w' ⟨rfl, rfl⟩) | (go_at_call 86; with_reducible refine (HP3.out _).mono ?_; rintro e w' ⟨rfl, rfl⟩))
      go_ret
      exact ⟨by rw [HR.out]; rfl, below_drewN HBE.out _⟩
  · have HR := Lib.hid (show R = (placeIf a top true && placeIf tt nb false && placeIf els nb false) from by rw [HN.out]; simp)
    go_enter Tryz.func65, Tryz.ntmps65
    go_upto_region 1 with fail
    refine wp_world ?_
    intro W hW
    have hB : Below w.heap.size w W := by rw [← hW]; exact below1 _ _
    have hX : Blk W w.heap.size 41 #[.int .i64 3, .int .i64 a, .int .i64 tt, .int .i64 els] := by rw [← hW]; exact Blk.new_at _ _ _ rfl
    clear hW
    have x0 : W.cell? ⟨w.heap.size, 0, none⟩ = some (.int .i64 3) := hX.cell 0
    have x1 : W.cell? ⟨w.heap.size, 1, none⟩ = some (.int .i64 a) := hX.cell 1
    have x2 : W.cell? ⟨w.heap.size, 2, none⟩ = some (.int .i64 tt) := hX.cell 2
    have x3 : W.cell? ⟨w.heap.size, 3, none⟩ = some (.int .i64 els) := hX.cell 3
    have d4 : W.cell? ⟨cb, 4, none⟩ = some (.int .i64 top) := (hB.cell (p := ⟨cb, 4, none⟩) hcb).trans c4
    have d5 : W.cell? ⟨cb, 5, none⟩ = some (.slice A nb c) := (hB.cell (p := ⟨cb, 5, none⟩) hcb).trans c5
    have HBE := Lib.hid hB
    clear hB hX c4 c5
    go_quiet (fail)
    have HP1 := Lib.hid (fun (n : Nat) => HP.out a true (W.drewN n) d4)
    have HP2 := Lib.hid (fun (n : Nat) => HB.out tt false (W.drewN n) d5)
    have HP3 := Lib.hid (fun (n : Nat) => HB.out els false (W.drewN n) d5)
    generalize placeIf a top true = q1 at *
    generalize placeIf tt nb false = q2 at *
    generalize placeIf els nb false = q3 at *
    clear HP HB HN
    cases q1 with
    | false =>
      go_wp2_with (go_at_call 85; with_reducible refine (HP1.out _).mono ?_; rintro e w' ⟨rfl, rfl⟩)
      go_ret
      exact ⟨by rw [HR.out]; rfl, below_drewN HBE.out _⟩
    | true =>
    cases q2 with
    | false =>
      go_wp2_with (first | (go_at_call 85; with_reducible refine (HP1.out _).mono ?_; rintro e w' ⟨rfl, rfl⟩) | (go_at_call 86; with_reducible refine (HP2.out _).mono ?_; rintro e w' ⟨rfl, rfl⟩))
      go_ret
      exact ⟨by rw [HR.out]; rfl, below_drewN HBE.out _⟩
    | true =>
      go_wp2_with (first | (go_at_call 85; with_reducible refine (HP1.out _).mono ?_; rintro e w' ⟨rfl, rfl⟩) | (go_at_call 86; with_reducible refine (HP2.out _).mono ?_; rintro e w' ⟨rfl, rfl⟩) | (go_at_call 86; with_reducible refine (HP3.out _).mono ?_; rintro e w' ⟨rfl, rfl⟩))
      go_ret
      exact ⟨by rw [HR.out]; rfl, below_drewN HBE.out _⟩
  · have HR := Lib.hid (show R = (placeIf a top true && placeIf tt nb false && placeIf els nb false) from by rw [HN.out]; simp)
    go_enter Tryz.func65, Tryz.ntmps65
    go_upto_region 1 with fail
    refine wp_world ?_
    intro W hW
    have hB : Below w.heap.size w W := by rw [← hW]; exact below1 _ _
    have hX : Blk W w.heap.size 41 #[.int .i64 4, .int .i64 a, .int .i64 tt, .int .i64 els] := by rw [← hW]; exact Blk.new_at _ _ _ rfl
    clear hW
    have x0 : W.cell? ⟨w.heap.size, 0, none⟩ = some (.int .i64 4) := hX.cell 0
    have x1 : W.cell? ⟨w.heap.size, 1, none⟩ = some (.int .i64 a) := hX.cell 1
    have x2 : W.cell? ⟨w.heap.size, 2, none⟩ = some (.int .i64 tt) := hX.cell 2
    have x3 : W.cell? ⟨w.heap.size, 3, none⟩ = some (.int .i64 els) := hX.cell 3
    have d4 : W.cell? ⟨cb, 4, none⟩ = some (.int .i64 top) := (hB.cell (p := ⟨cb, 4, none⟩) hcb).trans c4
    have d5 : W.cell? ⟨cb, 5, none⟩ = some (.slice A nb c) := (hB.cell (p := ⟨cb, 5, none⟩) hcb).trans c5
    have HBE := Lib.hid hB
    clear hB hX c4 c5
    go_quiet (fail)
    have HP1 := Lib.hid (fun (n : Nat) => HP.out a true (W.drewN n) d4)
    have HP2 := Lib.hid (fun (n : Nat) => HB.out tt false (W.drewN n) d5)
    have HP3 := Lib.hid (fun (n : Nat) => HB.out els false (W.drewN n) d5)
    generalize placeIf a top true = q1 at *
    generalize placeIf tt nb false = q2 at *
    generalize placeIf els nb false = q3 at *
    clear HP HB HN
    cases q1 with
    | false =>
      go_wp2_with (go_at_call 85; with_reducible refine (HP1.out _).mono ?_; rintro e w' ⟨rfl, rfl⟩)
      go_ret
      exact ⟨by rw [HR.out]; rfl, below_drewN HBE.out _⟩
    | true =>
    cases q2 with
    | false =>
      go_wp2_with (first | (go_at_call 85; with_reducible refine (HP1.out _).mono ?_; rintro e w' ⟨rfl, rfl⟩) | (go_at_call 86; with_reducible refine (HP2.out _).mono ?_; rintro e w' ⟨rfl, rfl⟩))
      go_ret
      exact ⟨by rw [HR.out]; rfl, below_drewN HBE.out _⟩
    | true =>
      go_wp2_with (first | (go_at_call 85; with_reducible refine (HP1.out _).mono ?_; rintro e w' ⟨rfl, rfl⟩) | (go_at_call 86; with_reducible refine (HP2.out _).mono ?_; rintro e w' ⟨rfl, rfl⟩) | (go_at_call 86; with_reducible refine (HP3.out _).mono ?_; rintro e w' ⟨rfl, rfl⟩))
      go_ret
      exact ⟨by rw [HR.out]; rfl, below_drewN HBE.out _⟩
  · have HR := Lib.hid (show R = false from by rw [HN.out, decide_eq_false (by omega)]; simp)
    have e1 : (k == 1) = false := by simp [h1]
    have e2 : (k == 2) = false := by simp [h2]
    have e3 : (k == 3) = false := by simp [h3]
    have e4 : (k == 4) = false := by simp [h4]
    clear h1 h2 h3 h4
    go_enter Tryz.func65, Tryz.ntmps65
    go_upto_region 1 with fail
    refine wp_world ?_
    intro W hW
    have hB : Below w.heap.size w W := by rw [← hW]; exact below1 _ _
    have hX : Blk W w.heap.size 41 #[.int .i64 k, .int .i64 a, .int .i64 tt, .int .i64 els] := by rw [← hW]; exact Blk.new_at _ _ _ rfl
    clear hW
    have x0 : W.cell? ⟨w.heap.size, 0, none⟩ = some (.int .i64 k) := hX.cell 0
    have x1 : W.cell? ⟨w.heap.size, 1, none⟩ = some (.int .i64 a) := hX.cell 1
    have x2 : W.cell? ⟨w.heap.size, 2, none⟩ = some (.int .i64 tt) := hX.cell 2
    have x3 : W.cell? ⟨w.heap.size, 3, none⟩ = some (.int .i64 els) := hX.cell 3
    have d4 : W.cell? ⟨cb, 4, none⟩ = some (.int .i64 top) := (hB.cell (p := ⟨cb, 4, none⟩) hcb).trans c4
    have d5 : W.cell? ⟨cb, 5, none⟩ = some (.slice A nb c) := (hB.cell (p := ⟨cb, 5, none⟩) hcb).trans c5
    have HBE := Lib.hid hB
    clear hB hX c4 c5
    go_quiet (fail)
    go_wp2
    go_ret
    exact ⟨by rw [HR.out]; rfl, below_drewN HBE.out _⟩

theorem bad2_pred (u : LUnit) (f : LFlow) (cc cb : Nat) (A1 A2 : Option Addr) (c1 c2 : Nat) (vb : Value) (l : List LIns) (w : World) (h : w.cell? ⟨cc, 0, none⟩ = some (.pointer (some ⟨cb, 0, none⟩))) (hc : ChkR w cb u f A1 c1 A2 c2 vb) : Pred_ins 67 #[.pointer (some ⟨cc, 0, none⟩)] (fun x => !insOk u f.values x) l w := by
  intro W x A c _ hb hs
  have h' : W.cell? ⟨cc, 0, none⟩ = some (.pointer (some ⟨cb, 0, none⟩)) := (hb.cell (p := ⟨cc, 0, none⟩) (World.block_lt_of_cell? w _ h)).trans h
  have hcc : cc < W.heap.size := World.block_lt_of_cell? W _ h'
  have hc1 := hc.below hb
  have HI := Lib.hid (fun (W2 : World) (hb2 : Below W.heap.size W W2) => ins_any x u f A A1 A2 c c1 c2 cb vb W2 (hc1.below hb2) (hs.imp (fun _ h => Nat.lt_of_lt_of_le h hb2.size) (fun b h => hb2.block b h) (fun _ _ _ r => r)))
  have HB := Lib.hid hb
  clear hc1 hs hb hc
  go_enter Tryz.func67, Tryz.ntmps67
  go_wp2_with (go_at_call 68; refine (HI.out _ (below1 _ _)).mono ?_; rintro e w' ⟨rfl, hb1⟩)
  go_ret
  exact ⟨rfl, (HB.out.alloc HB.out.size _).trans (hb1.mono (by have := HB.out.size; simp; omega))⟩
theorem bad1_pred (u : LUnit) (f : LFlow) (cc cb : Nat) (A1 A2 : Option Addr) (c1 c2 : Nat) (A : Option Addr) (c : Nat) (l : List LBlock) (w : World) (h : w.cell? ⟨cc, 0, none⟩ = some (.pointer (some ⟨cb, 0, none⟩))) (hc : ChkR w cb u f A1 c1 A2 c2 (.slice A f.blocks.length c)) : Pred_block 64 #[.pointer (some ⟨cc, 0, none⟩)] (blockBad u f) l w := by
  intro W x A0 c0 _ hb hs
  have h' : W.cell? ⟨cc, 0, none⟩ = some (.pointer (some ⟨cb, 0, none⟩)) := (hb.cell (p := ⟨cc, 0, none⟩) (World.block_lt_of_cell? w _ h)).trans h
  have hcc : cc < W.heap.size := World.block_lt_of_cell? W _ h'
  have hc1 := hc.below hb
  have HT := Lib.hid (fun (W2 : World) (hb2 : Below W.heap.size W W2) => term_any x.term cb f.blocks.length c A f.values W2 (hc1.below hb2).at_.c4 (hc1.below hb2).at_.c5)
  have HI := Lib.hid (fun (W2 : World) (hb2 : Below W.heap.size W W2) => con_bad2 x.ins (.slice A0 x.ins.length c0) cc (fun x => !insOk u f.values x) W2 (hs.imp (R' := RIns W2 (· < W2.heap.size)) (fun _ h => Nat.lt_of_lt_of_le h hb2.size) (fun b h => hb2.block b h) (fun _ _ _ r => r.imp (fun _ h => Nat.lt_of_lt_of_le h hb2.size) (fun b h => hb2.block b h))) (bad2_pred u f cc cb A1 A2 c1 c2 _ x.ins W2 ((hb2.cell (p := ⟨cc, 0, none⟩) hcc).trans h') (hc1.below hb2)))
  have HB := Lib.hid hb
  have HR : Hid (blockBad u f x = (!termOk f.blocks.length f.values x.term || x.ins.any (fun x => !insOk u f.values x))) := Lib.hid (by unfold blockBad; with_reducible rfl)
  clear hc1 hs hb hc
  generalize blockBad u f x = R at *
  generalize x.ins.any (fun x => !insOk u f.values x) = Q at *
  go_enter Tryz.func64, Tryz.ntmps64
  generalize termOk f.blocks.length f.values x.term = q at *
  have hw1 := Lib.hid (below1 W (.cells #[.slice A0 x.ins.length c0, .int .i64 x.term.kind, .int .i64 x.term.a, .int .i64 x.term.to, .int .i64 x.term.els] 43))
  have HX1 := Lib.hid (Blk.new W 43 #[.slice A0 x.ins.length c0, .int .i64 x.term.kind, .int .i64 x.term.a, .int .i64 x.term.to, .int .i64 x.term.els])
  cases q with
  | false =>
    go_wp2_with (go_at_call 65; refine (HT.out _ hw1.out).mono ?_; rintro e w' ⟨rfl, hb1⟩)
    go_ret
    exact ⟨by rw [HR.out]; rfl, (HB.out.alloc HB.out.size _).trans (hb1.mono (by have := HB.out.size; simp; omega))⟩
  | true =>
    go_wp2_with (first | (go_at_call 65; refine (HT.out _ hw1.out).mono ?_; rintro e w1 ⟨rfl, hb1⟩; have HB1 := Lib.hid hb1; have y0 := (HX1.out.below hb1 HX1.out.lt).cell 0; clear hb1) | (go_at_call 66; refine (HI.out _ (hw1.out.trans (HB1.out.mono hw1.out.size))).mono ?_; rintro e w2 ⟨rfl, hb3⟩))
    go_ret
    exact ⟨by rw [HR.out]; rfl, HB.out.trans (((hw1.out.trans (HB1.out.mono hw1.out.size)).trans (hb3.mono (hw1.out.trans (HB1.out.mono hw1.out.size)).size)).mono HB.out.size)⟩
end
end Go.Proofs.YtnpnhdmfdhnmfaaGreatDoor
