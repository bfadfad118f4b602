/- What irrun's term does. -/
import Derived.Test.YtknccacfhknnaaaRunPop
namespace Go.Proofs.Ytknccacfhknnaaa
open Go.RowKit

/-- a call's own block, its cells written out -/
structure CallBlk (w : World) (cb : Nat) (nm : ByteArray) (pr vl : Int) (vf : Value) (vv : Value) (bl at_ into : Int) : Prop where
  blk : Blk w cb 115 #[.string nm, .int .i64 pr, .int .i64 vl, vf, vv, .int .i64 bl, .int .i64 at_, .int .i64 into]
theorem grown_drew (w : World) (k : Nat) (row : Option Nat) : w.grownBy (w.drewN k) row := ⟨rfl, rfl, rfl, Nat.le_refl _, fun _ _ _ => rfl⟩
theorem grown_alloc1 (w : World) (o : Obj) (row : Option Nat) : w.grownBy (w.alloc o) row := World.grownBy_alloc w o row

set_option maxRecDepth 100000 in
set_option maxHeartbeats 4000000 in
theorem term_jump (base rb k cap g cb : Nat) (va vf vm vin vout : Value) (st co sp : Int) (bs : List Nat) (nm : ByteArray) (pr vl : Int) (vfl vv : Value) (bl at_ into a tt els : Int) (w : World) (hk : k = bs.length + 1) (h : RunBlk w rb va vf vm vin (.slice (some ⟨g, 0, none⟩) k cap) st co vout sp) (hr : w.ownsRow base 113 1 (.slice (some ⟨g, 0, none⟩) k cap) k ((cb :: bs).reverse.map fun b => .pointer (some ⟨b, 0, none⟩))) (hm : k ≤ maxLen)
    (hc : CallBlk w cb nm pr vl vfl vv bl at_ into) :
    Calls Try.prog 60 #[.pointer (some ⟨rb, 0, none⟩), .agg #[.int .i64 1, .int .i64 a, .int .i64 tt, .int .i64 els]] w fun e w' => e = .returned (.tuple #[]) ∧ CallBlk w' cb nm pr vl vfl vv tt 0 into ∧ w.grownBy w' (some cb) := by
  have HT := Lib.hid (fun (W : World) (hb : Below w.heap.size w W) (hg : w.heap.size ≤ W.heap.size) => top_any base rb k cap g cb va vf vm vin vout st co sp bs W hk ⟨h.blk.below hb h.blk.lt⟩ (hr.kept (grown_below' (row := none) hb) (Classical.em _)) hm)
  have HC := Lib.hid hc
  have hcl := hc.blk.lt
  clear h hr hc hk
  go_enter Try.func60, Try.ntmps60
  go_upto_region 2 with (go_at_call 59; refine (HT.out _ (below1 _ _) (below1 _ _).size).mono ?_; rintro e w' ⟨rfl, kk, rfl⟩)
  refine wp_world ?_
  intro W hW
  have hb : CallBlk W cb nm pr vl vfl vv bl at_ into := ⟨by rw [← hW]; exact HC.out.blk.alloc _⟩
  have hg : w.grownBy W (some cb) := by rw [← hW]; exact (grown_alloc1 w _ _).trans (grown_drew _ _ _)
  have hx : Blk W w.heap.size 36 #[.int .i64 1, .int .i64 a, .int .i64 tt, .int .i64 els] := by rw [← hW]; exact Blk.new w _ _
  have x0 : W.cell? ⟨w.heap.size, 0, none⟩ = some (.int .i64 1) := hx.cell 0
  have x2 : W.cell? ⟨w.heap.size, 2, none⟩ = some (.int .i64 tt) := hx.cell 2
  have y5 : W.cell? ⟨cb, 5, none⟩ = some (.int .i64 bl) := hb.blk.cell 5
  have y6 : W.cell? ⟨cb, 6, none⟩ = some (.int .i64 at_) := hb.blk.cell 6
  have z5 := hb.blk.frozen 5
  have z6 := hb.blk.frozen 6
  have n1 : w.heap.size ≠ cb := by omega
  have HB := Lib.hid hb
  have HG := Lib.hid hg
  clear hW hb hg hx HC HT
  go_wp2
  go_end0
  exact ⟨rfl, ⟨(HB.out.blk.set_ 6 _).set_ 5 _⟩, HG.out.trans (grown_set2 _ _ _ _ _ _)⟩
set_option maxRecDepth 100000 in
set_option maxHeartbeats 4000000 in
theorem term_if (base rb k cap g cb : Nat) (va vf vm vin vout : Value) (st co sp : Int) (bs : List Nat) (nm : ByteArray) (pr vl : Int) (vfl : Value) (vb m : Nat) (x bl at_ into a tt els : Int) (w : World) (hk : k = bs.length + 1) (h : RunBlk w rb va vf vm vin (.slice (some ⟨g, 0, none⟩) k cap) st co vout sp) (hr : w.ownsRow base 113 1 (.slice (some ⟨g, 0, none⟩) k cap) k ((cb :: bs).reverse.map fun b => .pointer (some ⟨b, 0, none⟩))) (hm : k ≤ maxLen)
    (hc : CallBlk w cb nm pr vl vfl (.slice (some ⟨vb, 0, none⟩) m m) bl at_ into) (ha0 : 0 ≤ a) (ha1 : a < (m : Int)) (hvx : w.cell? ⟨vb, a.toNat, none⟩ = some (.int .i64 x)) (hnv : vb ≠ cb) (nb : Int) (hnb : nb = if x ≠ 0 then tt else els) :
    Calls Try.prog 60 #[.pointer (some ⟨rb, 0, none⟩), .agg #[.int .i64 2, .int .i64 a, .int .i64 tt, .int .i64 els]] w fun e w' => e = .returned (.tuple #[]) ∧ CallBlk w' cb nm pr vl vfl (.slice (some ⟨vb, 0, none⟩) m m) nb 0 into ∧ w.grownBy w' (some cb) := by
  have HT := Lib.hid (fun (W : World) (hb : Below w.heap.size w W) (hg : w.heap.size ≤ W.heap.size) => top_any base rb k cap g cb va vf vm vin vout st co sp bs W hk ⟨h.blk.below hb h.blk.lt⟩ (hr.kept (grown_below' (row := none) hb) (Classical.em _)) hm)
  have HC := Lib.hid hc
  have HNB := Lib.hid hnb
  clear hnb
  have hcl := hc.blk.lt
  clear h hr hc hk
  go_enter Try.func60, Try.ntmps60
  go_upto_region 2 with (go_at_call 59; refine (HT.out _ (below1 _ _) (below1 _ _).size).mono ?_; rintro e w' ⟨rfl, kk, rfl⟩)
  refine wp_world ?_
  intro W hW
  have hb : CallBlk W cb nm pr vl vfl (.slice (some ⟨vb, 0, none⟩) m m) bl at_ into := ⟨by rw [← hW]; exact HC.out.blk.alloc _⟩
  have hg : w.grownBy W (some cb) := by rw [← hW]; exact (grown_alloc1 w _ _).trans (grown_drew _ _ _)
  have hx : Blk W w.heap.size 36 #[.int .i64 2, .int .i64 a, .int .i64 tt, .int .i64 els] := by rw [← hW]; exact Blk.new w _ _
  have x0 : W.cell? ⟨w.heap.size, 0, none⟩ = some (.int .i64 2) := hx.cell 0
  have x1 : W.cell? ⟨w.heap.size, 1, none⟩ = some (.int .i64 a) := hx.cell 1
  have x3 : W.cell? ⟨w.heap.size, 3, none⟩ = some (.int .i64 els) := hx.cell 3
  have y4 : W.cell? ⟨cb, 4, none⟩ = some (.slice (some ⟨vb, 0, none⟩) m m) := hb.blk.cell 4
  have hvl : vb < w.heap.size := World.block_lt_of_cell? w _ hvx
  have vx : W.cell? ⟨vb, a.toNat, none⟩ = some (.int .i64 x) := (World.cell?_of_block (w := w) (w' := W) (a := ⟨vb, a.toNat, none⟩) (hg.block vb hvl (fun e => by injection e with e; exact hnv e))).trans hvx
  have x2 : W.cell? ⟨w.heap.size, 2, none⟩ = some (.int .i64 tt) := hx.cell 2
  have y5 : W.cell? ⟨cb, 5, none⟩ = some (.int .i64 bl) := hb.blk.cell 5
  have y6 : W.cell? ⟨cb, 6, none⟩ = some (.int .i64 at_) := hb.blk.cell 6
  have z5 := hb.blk.frozen 5
  have z6 := hb.blk.frozen 6
  have n1 : w.heap.size ≠ cb := by omega
  have HB := Lib.hid hb
  have HG := Lib.hid hg
  clear hW hb hg hx HC HT
  by_cases hx0 : x = 0
  · have e0 : (x != 0) = false := by simp [hx0]
    have HX := Lib.hid (show nb = els from by rw [HNB.out]; exact if_neg (by simp [hx0]))
    clear hx0
    go_wp2
    go_quiet (fail)
    go_wp2
    go_end0
    refine ⟨rfl, ⟨?_⟩, ?_⟩
    · rw [HX.out]
      exact ((HB.out.blk.set_ 6 _).set_ 5 _)
    · exact HG.out.trans ((grown_set2 _ _ _ _ _ _).trans (grown_drew _ _ _))
  · have e0 : (x != 0) = true := by simp [hx0]
    have HX := Lib.hid (show nb = tt from by rw [HNB.out]; exact if_pos hx0)
    clear hx0
    go_wp2
    go_quiet (fail)
    go_wp2
    go_end0
    refine ⟨rfl, ⟨?_⟩, ?_⟩
    · rw [HX.out]
      have h1 := (HB.out.blk.set_ 6 (.int .i64 0)).set_ 5 (.int .i64 els)
      exact Blk.set_ h1 5 _
    · exact HG.out.trans (((grown_set2 _ _ _ _ _ _).trans (grown_drew _ _ _)).trans (grown_set1 _ _ _))
set_option maxRecDepth 100000 in
set_option maxHeartbeats 4000000 in
theorem term_trap (base rb k cap g cb : Nat) (va vf vm vin vout : Value) (st co sp : Int) (bs : List Nat) (nm : ByteArray) (pr vl : Int) (vfl : Value) (vb m : Nat) (x bl at_ into a tt els : Int) (w : World) (hk : k = bs.length + 1) (h : RunBlk w rb va vf vm vin (.slice (some ⟨g, 0, none⟩) k cap) st co vout sp) (hr : w.ownsRow base 113 1 (.slice (some ⟨g, 0, none⟩) k cap) k ((cb :: bs).reverse.map fun b => .pointer (some ⟨b, 0, none⟩))) (hm : k ≤ maxLen)
    (hc : CallBlk w cb nm pr vl vfl (.slice (some ⟨vb, 0, none⟩) m m) bl at_ into) (ha0 : 0 ≤ a) (ha1 : a < (m : Int)) (hvx : w.cell? ⟨vb, a.toNat, none⟩ = some (.int .i64 x)) (hnv : vb ≠ cb) (hne : cb ≠ rb) :
    Calls Try.prog 60 #[.pointer (some ⟨rb, 0, none⟩), .agg #[.int .i64 4, .int .i64 a, .int .i64 tt, .int .i64 els]] w fun e w' => e = .returned (.tuple #[]) ∧ ∃ w1, CallBlk w1 cb nm pr vl vfl (.slice (some ⟨vb, 0, none⟩) m m) bl 0 into ∧ w.grownBy w1 (some cb) ∧ RunBlk w' rb va vf vm vin (.slice (some ⟨g, 0, none⟩) k cap) 5 x vout sp ∧ w1.grownBy w' (some rb) := by
  have HT := Lib.hid (fun (W : World) (hb : Below w.heap.size w W) (hg : w.heap.size ≤ W.heap.size) => top_any base rb k cap g cb va vf vm vin vout st co sp bs W hk ⟨h.blk.below hb h.blk.lt⟩ (hr.kept (grown_below' (row := none) hb) (Classical.em _)) hm)
  have HC := Lib.hid hc
  have HRB := Lib.hid h
  have hcl := hc.blk.lt
  clear h hr hc hk
  go_enter Try.func60, Try.ntmps60
  go_upto_region 2 with (go_at_call 59; refine (HT.out _ (below1 _ _) (below1 _ _).size).mono ?_; rintro e w' ⟨rfl, kk, rfl⟩)
  refine wp_world ?_
  intro W hW
  have hb : CallBlk W cb nm pr vl vfl (.slice (some ⟨vb, 0, none⟩) m m) bl at_ into := ⟨by rw [← hW]; exact HC.out.blk.alloc _⟩
  have hg : w.grownBy W (some cb) := by rw [← hW]; exact (grown_alloc1 w _ _).trans (grown_drew _ _ _)
  have hx : Blk W w.heap.size 36 #[.int .i64 4, .int .i64 a, .int .i64 tt, .int .i64 els] := by rw [← hW]; exact Blk.new w _ _
  have x0 : W.cell? ⟨w.heap.size, 0, none⟩ = some (.int .i64 4) := hx.cell 0
  have x1 : W.cell? ⟨w.heap.size, 1, none⟩ = some (.int .i64 a) := hx.cell 1
  have x3 : W.cell? ⟨w.heap.size, 3, none⟩ = some (.int .i64 els) := hx.cell 3
  have y4 : W.cell? ⟨cb, 4, none⟩ = some (.slice (some ⟨vb, 0, none⟩) m m) := hb.blk.cell 4
  have hvl : vb < w.heap.size := World.block_lt_of_cell? w _ hvx
  have vx : W.cell? ⟨vb, a.toNat, none⟩ = some (.int .i64 x) := (World.cell?_of_block (w := w) (w' := W) (a := ⟨vb, a.toNat, none⟩) (hg.block vb hvl (fun e => by injection e with e; exact hnv e))).trans hvx
  have x2 : W.cell? ⟨w.heap.size, 2, none⟩ = some (.int .i64 tt) := hx.cell 2
  have y5 : W.cell? ⟨cb, 5, none⟩ = some (.int .i64 bl) := hb.blk.cell 5
  have y6 : W.cell? ⟨cb, 6, none⟩ = some (.int .i64 at_) := hb.blk.cell 6
  have z5 := hb.blk.frozen 5
  have z6 := hb.blk.frozen 6
  have n1 : w.heap.size ≠ cb := by omega
  have HB := Lib.hid hb
  have HG := Lib.hid hg
  clear hW hb hg hx HC HT
  have hrb : RunBlk W rb va vf vm vin (.slice (some ⟨g, 0, none⟩) k cap) st co vout sp := ⟨HRB.out.blk.grown HG.out (fun e => hne (by injection e))⟩
  have HR := Lib.hid hrb
  clear hrb x2 x3 y5 z5
  go_upto_region 13 with fail
  refine wp_world ?_
  intro W1 hW1
  have hb1 : CallBlk W1 cb nm pr vl vfl (.slice (some ⟨vb, 0, none⟩) m m) bl 0 into := ⟨by rw [← hW1]; exact HB.out.blk.set_ 6 _⟩
  have hg1 : w.grownBy W1 (some cb) := by rw [← hW1]; exact HG.out.trans (grown_set1 _ _ _)
  have hr1 : RunBlk W1 rb va vf vm vin (.slice (some ⟨g, 0, none⟩) k cap) st co vout sp := ⟨by rw [← hW1]; exact HR.out.blk.far (fun e => hne e.symm) _⟩
  have s1 : W1.cell? ⟨w.heap.size, 1, none⟩ = some (.int .i64 a) := by rw [← hW1]; exact (World.cell?_setCell_other W _ _ _ (by intro e; injection e with e; exact n1 e.symm)).trans x1
  have s4 : W1.cell? ⟨cb, 4, none⟩ = some (.slice (some ⟨vb, 0, none⟩) m m) := hb1.blk.cell 4
  have sx : W1.cell? ⟨vb, a.toNat, none⟩ = some (.int .i64 x) := (World.cell?_of_block (w := w) (w' := W1) (a := ⟨vb, a.toNat, none⟩) (hg1.block vb hvl (fun e => by injection e with e; exact hnv e))).trans hvx
  have HB1 := Lib.hid hb1
  have HG1 := Lib.hid hg1
  have HR1 := Lib.hid hr1
  clear hW1 hb1 hg1 hr1 x0 x1 y4 y6 z6 vx hvx HB HG HR
  go_still_tail 9, (by kernel_rfl)
  change wpList _ _ _ _ _ W1.drew
  have HB2 := Lib.hid (show CallBlk W1.drew cb nm pr vl vfl (.slice (some ⟨vb, 0, none⟩) m m) bl 0 into from ⟨HB1.out.blk⟩)
  have HG2 := Lib.hid (show w.grownBy W1.drew (some cb) from ⟨HG1.out.os, HG1.out.tape, HG1.out.output, HG1.out.size, HG1.out.block⟩)
  have HR2 := Lib.hid (show RunBlk W1.drew rb va vf vm vin (.slice (some ⟨g, 0, none⟩) k cap) st co vout sp from ⟨HR1.out.blk⟩)
  clear HB1 HG1 HR1 s1 s4 sx
  generalize W1.drew = W2 at *
  have HE := Lib.hid (end_any rb va vf vm vin (.slice (some ⟨g, 0, none⟩) k cap) vout st co sp 5 x W2 HR2.out)
  go_wp2_with (go_at_call 107; refine HE.out.mono ?_; rintro e w4 ⟨rfl, hb4, hg4⟩)
  go_end0
  exact ⟨rfl, W2, HB2.out, HG2.out, hb4, hg4⟩
set_option maxRecDepth 100000 in
set_option maxHeartbeats 4000000 in
theorem term_ret (base rb k cap g cb : Nat) (va vf vm vin vout : Value) (st co sp : Int) (bs : List Nat) (nm : ByteArray) (pr vl : Int) (vfl : Value) (vb m : Nat) (x bl at_ into a tt els : Int) (w : World) (hk : k = bs.length + 1) (h : RunBlk w rb va vf vm vin (.slice (some ⟨g, 0, none⟩) k cap) st co vout sp) (hr : w.ownsRow base 113 1 (.slice (some ⟨g, 0, none⟩) k cap) k ((cb :: bs).reverse.map fun b => .pointer (some ⟨b, 0, none⟩))) (hm : k ≤ maxLen)
    (hc : CallBlk w cb nm pr vl vfl (.slice (some ⟨vb, 0, none⟩) m m) bl at_ into) (ha0 : 0 ≤ a) (ha1 : a < (m : Int)) (hvx : w.cell? ⟨vb, a.toNat, none⟩ = some (.int .i64 x)) (hnv : vb ≠ cb) (hne : cb ≠ rb) (Q : World → World → Prop)
    (HP : ∀ W2, CallBlk W2 cb nm pr vl vfl (.slice (some ⟨vb, 0, none⟩) m m) bl 0 into → w.grownBy W2 (some cb) → RunBlk W2 rb va vf vm vin (.slice (some ⟨g, 0, none⟩) k cap) st co vout sp → Calls Try.prog 106 #[.pointer (some ⟨rb, 0, none⟩), .int .i64 x] W2 fun e w' => e = .returned (.tuple #[]) ∧ Q W2 w') :
    Calls Try.prog 60 #[.pointer (some ⟨rb, 0, none⟩), .agg #[.int .i64 3, .int .i64 a, .int .i64 tt, .int .i64 els]] w fun e w' => e = .returned (.tuple #[]) ∧ ∃ w1, CallBlk w1 cb nm pr vl vfl (.slice (some ⟨vb, 0, none⟩) m m) bl 0 into ∧ w.grownBy w1 (some cb) ∧ RunBlk w1 rb va vf vm vin (.slice (some ⟨g, 0, none⟩) k cap) st co vout sp ∧ Q w1 w' := by
  have HT := Lib.hid (fun (W : World) (hb : Below w.heap.size w W) (hg : w.heap.size ≤ W.heap.size) => top_any base rb k cap g cb va vf vm vin vout st co sp bs W hk ⟨h.blk.below hb h.blk.lt⟩ (hr.kept (grown_below' (row := none) hb) (Classical.em _)) hm)
  have HC := Lib.hid hc
  have HRB := Lib.hid h
  have HPP := Lib.hid HP
  clear HP
  have hcl := hc.blk.lt
  clear h hr hc hk
  go_enter Try.func60, Try.ntmps60
  go_upto_region 2 with (go_at_call 59; refine (HT.out _ (below1 _ _) (below1 _ _).size).mono ?_; rintro e w' ⟨rfl, kk, rfl⟩)
  refine wp_world ?_
  intro W hW
  have hb : CallBlk W cb nm pr vl vfl (.slice (some ⟨vb, 0, none⟩) m m) bl at_ into := ⟨by rw [← hW]; exact HC.out.blk.alloc _⟩
  have hg : w.grownBy W (some cb) := by rw [← hW]; exact (grown_alloc1 w _ _).trans (grown_drew _ _ _)
  have hx : Blk W w.heap.size 36 #[.int .i64 3, .int .i64 a, .int .i64 tt, .int .i64 els] := by rw [← hW]; exact Blk.new w _ _
  have x0 : W.cell? ⟨w.heap.size, 0, none⟩ = some (.int .i64 3) := hx.cell 0
  have x1 : W.cell? ⟨w.heap.size, 1, none⟩ = some (.int .i64 a) := hx.cell 1
  have x3 : W.cell? ⟨w.heap.size, 3, none⟩ = some (.int .i64 els) := hx.cell 3
  have y4 : W.cell? ⟨cb, 4, none⟩ = some (.slice (some ⟨vb, 0, none⟩) m m) := hb.blk.cell 4
  have hvl : vb < w.heap.size := World.block_lt_of_cell? w _ hvx
  have vx : W.cell? ⟨vb, a.toNat, none⟩ = some (.int .i64 x) := (World.cell?_of_block (w := w) (w' := W) (a := ⟨vb, a.toNat, none⟩) (hg.block vb hvl (fun e => by injection e with e; exact hnv e))).trans hvx
  have x2 : W.cell? ⟨w.heap.size, 2, none⟩ = some (.int .i64 tt) := hx.cell 2
  have y5 : W.cell? ⟨cb, 5, none⟩ = some (.int .i64 bl) := hb.blk.cell 5
  have y6 : W.cell? ⟨cb, 6, none⟩ = some (.int .i64 at_) := hb.blk.cell 6
  have z5 := hb.blk.frozen 5
  have z6 := hb.blk.frozen 6
  have n1 : w.heap.size ≠ cb := by omega
  have HB := Lib.hid hb
  have HG := Lib.hid hg
  clear hW hb hg hx HC HT
  have hrb : RunBlk W rb va vf vm vin (.slice (some ⟨g, 0, none⟩) k cap) st co vout sp := ⟨HRB.out.blk.grown HG.out (fun e => hne (by injection e))⟩
  have HR := Lib.hid hrb
  clear hrb x2 x3 y5 z5
  go_upto_region 11 with fail
  refine wp_world ?_
  intro W1 hW1
  have hb1 : CallBlk W1 cb nm pr vl vfl (.slice (some ⟨vb, 0, none⟩) m m) bl 0 into := ⟨by rw [← hW1]; exact HB.out.blk.set_ 6 _⟩
  have hg1 : w.grownBy W1 (some cb) := by rw [← hW1]; exact HG.out.trans (grown_set1 _ _ _)
  have hr1 : RunBlk W1 rb va vf vm vin (.slice (some ⟨g, 0, none⟩) k cap) st co vout sp := ⟨by rw [← hW1]; exact HR.out.blk.far (fun e => hne e.symm) _⟩
  have s1 : W1.cell? ⟨w.heap.size, 1, none⟩ = some (.int .i64 a) := by rw [← hW1]; exact (World.cell?_setCell_other W _ _ _ (by intro e; injection e with e; exact n1 e.symm)).trans x1
  have s4 : W1.cell? ⟨cb, 4, none⟩ = some (.slice (some ⟨vb, 0, none⟩) m m) := hb1.blk.cell 4
  have sx : W1.cell? ⟨vb, a.toNat, none⟩ = some (.int .i64 x) := (World.cell?_of_block (w := w) (w' := W1) (a := ⟨vb, a.toNat, none⟩) (hg1.block vb hvl (fun e => by injection e with e; exact hnv e))).trans hvx
  have HB1 := Lib.hid hb1
  have HG1 := Lib.hid hg1
  have HR1 := Lib.hid hr1
  clear hW1 hb1 hg1 hr1 x0 x1 y4 y6 z6 vx hvx HB HG HR
  go_still_tail 9, (by kernel_rfl)
  change wpList _ _ _ _ _ W1.drew
  have HB2 := Lib.hid (show CallBlk W1.drew cb nm pr vl vfl (.slice (some ⟨vb, 0, none⟩) m m) bl 0 into from ⟨HB1.out.blk⟩)
  have HG2 := Lib.hid (show w.grownBy W1.drew (some cb) from ⟨HG1.out.os, HG1.out.tape, HG1.out.output, HG1.out.size, HG1.out.block⟩)
  have HR2 := Lib.hid (show RunBlk W1.drew rb va vf vm vin (.slice (some ⟨g, 0, none⟩) k cap) st co vout sp from ⟨HR1.out.blk⟩)
  clear HB1 HG1 HR1 s1 s4 sx
  generalize W1.drew = W2 at *
  have HE := Lib.hid (HPP.out W2 HB2.out HG2.out HR2.out)
  go_wp2_with (go_at_call 106; refine HE.out.mono ?_; rintro e w4 ⟨rfl, hq⟩)
  go_end0
  exact ⟨rfl, W2, HB2.out, HG2.out, HR2.out, hq⟩
end Go.Proofs.Ytknccacfhknnaaa
