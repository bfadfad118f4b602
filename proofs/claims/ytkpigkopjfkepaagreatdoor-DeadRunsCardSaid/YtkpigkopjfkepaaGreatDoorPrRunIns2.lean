/- What irrun's ins does, a kind at a time. What irrun's ins does at operators, loads, stores and prints. -/
import Derived.Test.YtkpigkopjfkepaaGreatDoorPrRunSm
import Derived.Test.YtkpigkopjfkepaaGreatDoorPrRunPush
namespace Go.Proofs.YtkpigkopjfkepaaGreatDoor
open List (setIfInBounds_toArray set_cons_zero set_cons_succ)
open Go.RowKit
def PutPost (vb : Nat) (d v : Int) (w : World) (e : Ending) (w' : World) : Prop := e = .returned (.tuple #[]) ∧ ∃ w1, w.grownBy w1 none ∧ w' = w1.setCell ⟨vb, d.toNat, none⟩ (.int .i64 v)
set_option maxRecDepth 100000 in
set_option maxHeartbeats 4000000 in
theorem ins_num (base rb k cap g cb : Nat) (va vf vm vin vout : Value) (st co sp : Int) (bs : List Nat) (nm : ByteArray) (pr vl : Int) (vfl : Value) (vb m : Nat) (bl at_ into d a b op n y : Int) (s : ByteArray) (Aa : Option Addr) (la ca : Nat) (w : World) (hk : k = bs.length + 1) (h : RunBlk w rb va vf vm vin (.slice (some ⟨g, 0, none⟩) k cap) st co vout sp) (hr : w.ownsRow base 124 1 (.slice (some ⟨g, 0, none⟩) k cap) k ((cb :: bs).reverse.map fun b => .pointer (some ⟨b, 0, none⟩))) (hm : k ≤ maxLen)
  (hc : CallBlk w cb nm pr vl vfl (.slice (some ⟨vb, 0, none⟩) m m) bl at_ into) (hd0 : 0 ≤ d) (hd1 : d < (m : Int)) (hvd : w.cell? ⟨vb, d.toNat, none⟩ = some (.int .i64 y)) (hzd : w.frozen? ⟨vb, d.toNat, none⟩ = false) :
  Calls Tryz.prog 77 #[.pointer (some ⟨rb, 0, none⟩), .agg #[.int .i64 1, .int .i64 d, .int .i64 a, .int .i64 b, .int .i64 op, .int .i64 n, .string s, .slice Aa la ca]] w (PutPost vb d n w) := by
 have HT := Lib.hid (fun (W : World) (hb : Below w.heap.size w W) => top_any base rb k cap g cb va vf vm vin vout st co sp bs W hk ⟨h.blk.below hb h.blk.lt⟩ (hr.kept (grown_below' (row := none) hb) (Classical.em _)) hm)
 have HC := Lib.hid hc
 have hcl := hc.blk.lt
 have hvl : vb < w.heap.size := World.block_lt_of_cell? w _ hvd
 clear h hr hc hk
 go_enter Tryz.func77, Tryz.ntmps77
 go_upto_region 2 with (go_at_call 75; refine (HT.out _ (below1 _ _)).mono ?_; rintro e w' ⟨rfl, kk, rfl⟩)
 refine wp_world ?_
 intro W hW
 have hb : Below w.heap.size w W := by rw [← hW]; exact below_drewN (below1 _ _) _
 have hx : Blk W w.heap.size 44 #[.int .i64 1, .int .i64 d, .int .i64 a, .int .i64 b, .int .i64 op, .int .i64 n, .string s, .slice Aa la ca] := by rw [← hW]; exact Blk.new w _ _
 clear hW
 have x0 : W.cell? ⟨w.heap.size, 0, none⟩ = some (.int .i64 1) := hx.cell 0
 have x1 : W.cell? ⟨w.heap.size, 1, none⟩ = some (.int .i64 d) := hx.cell 1
 have x5 : W.cell? ⟨w.heap.size, 5, none⟩ = some (.int .i64 n) := hx.cell 5
 have y4 : W.cell? ⟨cb, 4, none⟩ = some (.slice (some ⟨vb, 0, none⟩) m m) := (HC.out.blk.below hb hcl).cell 4
 have vd : W.cell? ⟨vb, d.toNat, none⟩ = some (.int .i64 y) := (hb.cell (p := ⟨vb, d.toNat, none⟩) hvl).trans hvd
 have zd : W.frozen? ⟨vb, d.toNat, none⟩ = false := (hb.frozen (p := ⟨vb, d.toNat, none⟩) hvl).trans hzd
 have HB := Lib.hid hb
 clear hb hx HC HT hvd hzd
 go_wp2
 go_end0
 exact ⟨rfl, W, grown_below' HB.out, rfl⟩
set_option maxRecDepth 100000 in
set_option maxHeartbeats 4000000 in
theorem ins_move (base rb k cap g cb : Nat) (va vf vm vin vout : Value) (st co sp : Int) (bs : List Nat) (nm : ByteArray) (pr vl : Int) (vfl : Value) (vb m : Nat) (bl at_ into d a b op n y z : Int) (s : ByteArray) (Aa : Option Addr) (la ca : Nat) (w : World) (hk : k = bs.length + 1) (h : RunBlk w rb va vf vm vin (.slice (some ⟨g, 0, none⟩) k cap) st co vout sp) (hr : w.ownsRow base 124 1 (.slice (some ⟨g, 0, none⟩) k cap) k ((cb :: bs).reverse.map fun b => .pointer (some ⟨b, 0, none⟩))) (hm : k ≤ maxLen)
  (hc : CallBlk w cb nm pr vl vfl (.slice (some ⟨vb, 0, none⟩) m m) bl at_ into) (hd0 : 0 ≤ d) (hd1 : d < (m : Int)) (hvd : w.cell? ⟨vb, d.toNat, none⟩ = some (.int .i64 y)) (hzd : w.frozen? ⟨vb, d.toNat, none⟩ = false) (ha0 : 0 ≤ a) (ha1 : a < (m : Int)) (hva : w.cell? ⟨vb, a.toNat, none⟩ = some (.int .i64 z)) :
  Calls Tryz.prog 77 #[.pointer (some ⟨rb, 0, none⟩), .agg #[.int .i64 2, .int .i64 d, .int .i64 a, .int .i64 b, .int .i64 op, .int .i64 n, .string s, .slice Aa la ca]] w (PutPost vb d z w) := by
 have HT := Lib.hid (fun (W : World) (hb : Below w.heap.size w W) => top_any base rb k cap g cb va vf vm vin vout st co sp bs W hk ⟨h.blk.below hb h.blk.lt⟩ (hr.kept (grown_below' (row := none) hb) (Classical.em _)) hm)
 have HC := Lib.hid hc
 have hcl := hc.blk.lt
 have hvl : vb < w.heap.size := World.block_lt_of_cell? w _ hvd
 clear h hr hc hk
 go_enter Tryz.func77, Tryz.ntmps77
 go_upto_region 2 with (go_at_call 75; refine (HT.out _ (below1 _ _)).mono ?_; rintro e w' ⟨rfl, kk, rfl⟩)
 refine wp_world ?_
 intro W hW
 have hb : Below w.heap.size w W := by rw [← hW]; exact below_drewN (below1 _ _) _
 have hx : Blk W w.heap.size 44 #[.int .i64 2, .int .i64 d, .int .i64 a, .int .i64 b, .int .i64 op, .int .i64 n, .string s, .slice Aa la ca] := by rw [← hW]; exact Blk.new w _ _
 clear hW
 have x0 : W.cell? ⟨w.heap.size, 0, none⟩ = some (.int .i64 2) := hx.cell 0
 have x1 : W.cell? ⟨w.heap.size, 1, none⟩ = some (.int .i64 d) := hx.cell 1
 have x2 : W.cell? ⟨w.heap.size, 2, none⟩ = some (.int .i64 a) := hx.cell 2
 have va' : W.cell? ⟨vb, a.toNat, none⟩ = some (.int .i64 z) := (hb.cell (p := ⟨vb, a.toNat, none⟩) hvl).trans hva
 have y4 : W.cell? ⟨cb, 4, none⟩ = some (.slice (some ⟨vb, 0, none⟩) m m) := (HC.out.blk.below hb hcl).cell 4
 have vd : W.cell? ⟨vb, d.toNat, none⟩ = some (.int .i64 y) := (hb.cell (p := ⟨vb, d.toNat, none⟩) hvl).trans hvd
 have zd : W.frozen? ⟨vb, d.toNat, none⟩ = false := (hb.frozen (p := ⟨vb, d.toNat, none⟩) hvl).trans hzd
 have HB := Lib.hid hb
 clear hb hx HC HT hvd hzd hva
 go_upto_region 7 with fail
 have HB2 := Lib.hid (show Below w.heap.size w W.drew from HB.out.drew)
 have vd2 : W.drew.cell? ⟨vb, d.toNat, none⟩ = some (.int .i64 y) := vd
 have zd2 : W.drew.frozen? ⟨vb, d.toNat, none⟩ = false := zd
 go_still_tail 9, (by kernel_rfl)
 change wpList _ _ _ _ _ W.drew
 clear x0 x1 x2 va' vd zd y4 HB
 generalize W.drew = W2 at *
 go_wp2
 go_end0
 exact ⟨rfl, W2, grown_below' HB2.out, rfl⟩
set_option maxRecDepth 100000 in
set_option maxHeartbeats 4000000 in
theorem ins_read (base rb k cap g cb : Nat) (va vf vm vin vout : Value) (st co sp : Int) (bs : List Nat) (nm : ByteArray) (pr vl : Int) (vfl : Value) (vb m : Nat) (bl at_ into d a b op n y : Int) (s : ByteArray) (Aa : Option Addr) (la ca : Nat) (w : World) (hk : k = bs.length + 1) (h : RunBlk w rb va vf vm vin (.slice (some ⟨g, 0, none⟩) k cap) st co vout sp) (hr : w.ownsRow base 124 1 (.slice (some ⟨g, 0, none⟩) k cap) k ((cb :: bs).reverse.map fun b => .pointer (some ⟨b, 0, none⟩))) (hm : k ≤ maxLen)
  (hc : CallBlk w cb nm pr vl vfl (.slice (some ⟨vb, 0, none⟩) m m) bl at_ into) (hd0 : 0 ≤ d) (hd1 : d < (m : Int)) (hvd : w.cell? ⟨vb, d.toNat, none⟩ = some (.int .i64 y)) (hzd : w.frozen? ⟨vb, d.toNat, none⟩ = false) (inp : List Int) (hin : SlR w (· < base) 1 RInt vin inp) (hbw : base ≤ w.heap.size) (hbr : base ≤ rb) (hvr : vb ≠ rb) :
  Calls Tryz.prog 77 #[.pointer (some ⟨rb, 0, none⟩), .agg #[.int .i64 7, .int .i64 d, .int .i64 a, .int .i64 b, .int .i64 op, .int .i64 n, .string s, .slice Aa la ca]] w (fun e w' => e = .returned (.tuple #[]) ∧ ∃ w1 vin', RunBlk w1 rb va vf vm vin' (.slice (some ⟨g, 0, none⟩) k cap) st co vout sp ∧ w.grownBy w1 (some rb) ∧ SlR w1 (· < base) 1 RInt vin' inp.tail ∧ w' = w1.setCell ⟨vb, d.toNat, none⟩ (.int .i64 (inp.headD (-1)))) := by
 have HT := Lib.hid (fun (W : World) (hb : Below w.heap.size w W) => top_any base rb k cap g cb va vf vm vin vout st co sp bs W hk ⟨h.blk.below hb h.blk.lt⟩ (hr.kept (grown_below' (row := none) hb) (Classical.em _)) hm)
 have HC := Lib.hid hc
 have HRB := Lib.hid h
 have hrb0 := h.blk.lt
 have HIN := Lib.hid hin
 have hcl := hc.blk.lt
 have hvl : vb < w.heap.size := World.block_lt_of_cell? w _ hvd
 clear h hr hc hk hin
 go_enter Tryz.func77, Tryz.ntmps77
 go_upto_region 2 with (go_at_call 75; refine (HT.out _ (below1 _ _)).mono ?_; rintro e w' ⟨rfl, kk, rfl⟩)
 refine wp_world ?_
 intro W hW
 have hb : Below w.heap.size w W := by rw [← hW]; exact below_drewN (below1 _ _) _
 have hx : Blk W w.heap.size 44 #[.int .i64 7, .int .i64 d, .int .i64 a, .int .i64 b, .int .i64 op, .int .i64 n, .string s, .slice Aa la ca] := by rw [← hW]; exact Blk.new w _ _
 clear hW
 have x0 : W.cell? ⟨w.heap.size, 0, none⟩ = some (.int .i64 7) := hx.cell 0
 have x1 : W.cell? ⟨w.heap.size, 1, none⟩ = some (.int .i64 d) := hx.cell 1
 have x5 : W.cell? ⟨w.heap.size, 5, none⟩ = some (.int .i64 n) := hx.cell 5
 have y4 : W.cell? ⟨cb, 4, none⟩ = some (.slice (some ⟨vb, 0, none⟩) m m) := (HC.out.blk.below hb hcl).cell 4
 have vd : W.cell? ⟨vb, d.toNat, none⟩ = some (.int .i64 y) := (hb.cell (p := ⟨vb, d.toNat, none⟩) hvl).trans hvd
 have zd : W.frozen? ⟨vb, d.toNat, none⟩ = false := (hb.frozen (p := ⟨vb, d.toNat, none⟩) hvl).trans hzd
 have HB := Lib.hid hb
 have HR1 := Lib.hid (show RunBlk W rb va vf vm vin (.slice (some ⟨g, 0, none⟩) k cap) st co vout sp from ⟨HRB.out.blk.below hb HRB.out.blk.lt⟩)
 have HI1 := Lib.hid (HIN.out.imp (ok' := (· < base)) (R' := RInt) (w' := W) (fun _ h => h) (fun b h => hb.block b (Nat.lt_of_lt_of_le h hbw)) (fun _ _ _ r => r))
 clear hb hx HC HT hvd hzd HRB HIN x5
 go_upto_region 24 with fail
 have HB2 := Lib.hid (show Below w.heap.size w W.drew from HB.out.drew)
 have HR2 := Lib.hid (show RunBlk W.drew rb va vf vm vin (.slice (some ⟨g, 0, none⟩) k cap) st co vout sp from ⟨HR1.out.blk⟩)
 have HI2 := Lib.hid (HI1.out.imp (ok' := (· < base)) (R' := RInt) (w' := W.drew) (fun _ h => h) (fun _ _ => rfl) (fun _ _ _ r => r))
 have vd2 : W.drew.cell? ⟨vb, d.toNat, none⟩ = some (.int .i64 y) := vd
 have zd2 : W.drew.frozen? ⟨vb, d.toNat, none⟩ = false := zd
 have hv2 : vb < W.drew.heap.size := World.block_lt_of_cell? W.drew _ vd2
 have xl : w.heap.size < W.drew.heap.size := World.block_lt_of_cell? W.drew ⟨w.heap.size, 1, none⟩ x1
 have HE := Lib.hid (read_any base rb va vf vm vin (.slice (some ⟨g, 0, none⟩) k cap) vout st co sp inp W.drew HR2.out HI2.out hbr)
 have hrw : rb < w.heap.size := hrb0
 clear x0 vd zd y4 HB HR1 HI1
 go_region_held3 (fun w2 => w2.cell? ⟨w.heap.size, 1, none⟩ = some (.int .i64 d)) (first | exact x1 | exact x4 | exact (World.cell?_setCell_other _ _ _ _ (by intro e; injection e with e; omega)).trans x4)
  (first | (go_at_call 106; refine HE.out.mono ?_; rintro e w4 ⟨rfl, vin', hb4, hg4, hs4⟩; have vd4 : w4.cell? ⟨vb, d.toNat, none⟩ = some (.int .i64 y) := (World.cell?_of_block (w := W.drew) (w' := w4) (a := ⟨vb, d.toNat, none⟩) (hg4.block vb hv2 (fun e => by injection e with e; exact hvr e))).trans vd2; have zd4 : w4.frozen? ⟨vb, d.toNat, none⟩ = false := (by have h := hg4.block vb hv2 (fun e => by injection e with e; exact hvr e); have hz := zd2; simp only [World.frozen?] at hz ⊢; rw [h]; exact hz); have x4 : w4.cell? ⟨w.heap.size, 1, none⟩ = some (.int .i64 d) := (World.cell?_of_block (w := W.drew) (w' := w4) (a := ⟨w.heap.size, 1, none⟩) (hg4.block _ xl (fun e => Nat.ne_of_lt hrw (Option.some.inj e).symm))).trans x1))
 go_wp2
 go_end0
 exact ⟨rfl, w4, vin', hb4, (grown_below' HB2.out).trans hg4, hs4, by rw [List.headD_eq_head?_getD]⟩
set_option maxRecDepth 100000 in
set_option maxHeartbeats 4000000 in
theorem ins_call (base rb k cap g cb : Nat) (va vf vm vin vout : Value) (st co sp : Int) (bs : List Nat) (nm : ByteArray) (pr vl : Int) (vfl : Value) (vb m : Nat) (bl at_ into d a b op n : Int) (s : ByteArray) (Aa : Option Addr) (la ca : Nat) (w : World) (hk : k = bs.length + 1) (h : RunBlk w rb va vf vm vin (.slice (some ⟨g, 0, none⟩) k cap) st co vout sp) (hr : w.ownsRow base 124 1 (.slice (some ⟨g, 0, none⟩) k cap) k ((cb :: bs).reverse.map fun b => .pointer (some ⟨b, 0, none⟩))) (hm : k ≤ maxLen)
  (hc : CallBlk w cb nm pr vl vfl (.slice (some ⟨vb, 0, none⟩) m m) bl at_ into) (Q : World → World → Prop)
  (HP : ∀ W, w.grownBy W none → Calls Tryz.prog 107 #[.pointer (some ⟨rb, 0, none⟩), .agg #[.int .i64 9, .int .i64 d, .int .i64 a, .int .i64 b, .int .i64 op, .int .i64 n, .string s, .slice Aa la ca], .pointer (some ⟨cb, 0, none⟩)] W fun e w' => e = .returned (.tuple #[]) ∧ Q W w') :
  Calls Tryz.prog 77 #[.pointer (some ⟨rb, 0, none⟩), .agg #[.int .i64 9, .int .i64 d, .int .i64 a, .int .i64 b, .int .i64 op, .int .i64 n, .string s, .slice Aa la ca]] w fun e w' => e = .returned (.tuple #[]) ∧ ∃ w1, w.grownBy w1 none ∧ Q w1 w' := by
 have HT := Lib.hid (fun (W : World) (hb : Below w.heap.size w W) => top_any base rb k cap g cb va vf vm vin vout st co sp bs W hk ⟨h.blk.below hb h.blk.lt⟩ (hr.kept (grown_below' (row := none) hb) (Classical.em _)) hm)
 have HC := Lib.hid hc
 have hcl := hc.blk.lt
 have HPP := Lib.hid HP
 clear HP
 clear h hr hc hk
 go_enter Tryz.func77, Tryz.ntmps77
 go_upto_region 2 with (go_at_call 75; refine (HT.out _ (below1 _ _)).mono ?_; rintro e w' ⟨rfl, kk, rfl⟩)
 refine wp_world ?_
 intro W hW
 have hb : Below w.heap.size w W := by rw [← hW]; exact below_drewN (below1 _ _) _
 have hx : Blk W w.heap.size 44 #[.int .i64 9, .int .i64 d, .int .i64 a, .int .i64 b, .int .i64 op, .int .i64 n, .string s, .slice Aa la ca] := by rw [← hW]; exact Blk.new w _ _
 clear hW
 have x0 : W.cell? ⟨w.heap.size, 0, none⟩ = some (.int .i64 9) := hx.cell 0
 have x1 : W.cell? ⟨w.heap.size, 1, none⟩ = some (.int .i64 d) := hx.cell 1
 have x2 : W.cell? ⟨w.heap.size, 2, none⟩ = some (.int .i64 a) := hx.cell 2
 have x3 : W.cell? ⟨w.heap.size, 3, none⟩ = some (.int .i64 b) := hx.cell 3
 have x4 : W.cell? ⟨w.heap.size, 4, none⟩ = some (.int .i64 op) := hx.cell 4
 have x5 : W.cell? ⟨w.heap.size, 5, none⟩ = some (.int .i64 n) := hx.cell 5
 have x6 : W.cell? ⟨w.heap.size, 6, none⟩ = some (.string s) := hx.cell 6
 have x7 : W.cell? ⟨w.heap.size, 7, none⟩ = some (.slice Aa la ca) := hx.cell 7
 have y4 : W.cell? ⟨cb, 4, none⟩ = some (.slice (some ⟨vb, 0, none⟩) m m) := (HC.out.blk.below hb hcl).cell 4
 have HB := Lib.hid hb
 clear hb hx HC HT
 have HE := Lib.hid (HPP.out W (grown_below' HB.out))
 go_wp2_with (go_at_call 107; refine HE.out.mono ?_; rintro e w4 ⟨rfl, hq⟩)
 go_end0
 exact ⟨rfl, W, grown_below' HB.out, hq⟩
end Go.Proofs.YtkpigkopjfkepaaGreatDoor
namespace Go.Proofs.YtkpigkopjfkepaaGreatDoor
open List (setIfInBounds_toArray set_cons_zero set_cons_succ)
open Go.RowKit
section
set_option maxHeartbeats 8000000
set_option maxRecDepth 100000
theorem ins_one (base rb k cap g cb : Nat) (va vf vm vin vout : Value) (st co sp : Int) (bs : List Nat) (nm : ByteArray) (pr vl : Int) (vfl : Value) (vb m : Nat) (bl at_ into d a b op n y z : Int) (s : ByteArray) (Aa : Option Addr) (la ca : Nat) (w : World) (hk : k = bs.length + 1) (h : RunBlk w rb va vf vm vin (.slice (some ⟨g, 0, none⟩) k cap) st co vout sp) (hr : w.ownsRow base 124 1 (.slice (some ⟨g, 0, none⟩) k cap) k ((cb :: bs).reverse.map fun b => .pointer (some ⟨b, 0, none⟩))) (hm : k ≤ maxLen)
  (hc : CallBlk w cb nm pr vl vfl (.slice (some ⟨vb, 0, none⟩) m m) bl at_ into) (hd0 : 0 ≤ d) (hd1 : d < (m : Int)) (hvd : w.cell? ⟨vb, d.toNat, none⟩ = some (.int .i64 y)) (hzd : w.frozen? ⟨vb, d.toNat, none⟩ = false) (ha0 : 0 ≤ a) (ha1 : a < (m : Int)) (hva : w.cell? ⟨vb, a.toNat, none⟩ = some (.int .i64 z)) :
  Calls Tryz.prog 77 #[.pointer (some ⟨rb, 0, none⟩), .agg #[.int .i64 3, .int .i64 d, .int .i64 a, .int .i64 b, .int .i64 op, .int .i64 n, .string s, .slice Aa la ca]] w (PutPost vb d (Ar.one op z) w) := by
 have HT := Lib.hid (fun (W : World) (hb : Below w.heap.size w W) => top_any base rb k cap g cb va vf vm vin vout st co sp bs W hk ⟨h.blk.below hb h.blk.lt⟩ (hr.kept (grown_below' (row := none) hb) (Classical.em _)) hm)
 have HC := Lib.hid hc
 have HRB := Lib.hid h
 have hrb0 := h.blk.lt
 have hcl := hc.blk.lt
 have hvl : vb < w.heap.size := World.block_lt_of_cell? w _ hvd
 clear h hr hc hk
 go_enter Tryz.func77, Tryz.ntmps77
 go_upto_region 2 with (go_at_call 75; refine (HT.out _ (below1 _ _)).mono ?_; rintro e w' ⟨rfl, kk, rfl⟩)
 refine wp_world ?_
 intro W hW
 have hb : Below w.heap.size w W := by rw [← hW]; exact below_drewN (below1 _ _) _
 have hx : Blk W w.heap.size 44 #[.int .i64 3, .int .i64 d, .int .i64 a, .int .i64 b, .int .i64 op, .int .i64 n, .string s, .slice Aa la ca] := by rw [← hW]; exact Blk.new w _ _
 clear hW
 have x0 : W.cell? ⟨w.heap.size, 0, none⟩ = some (.int .i64 3) := hx.cell 0
 have x1 : W.cell? ⟨w.heap.size, 1, none⟩ = some (.int .i64 d) := hx.cell 1
 have x2 : W.cell? ⟨w.heap.size, 2, none⟩ = some (.int .i64 a) := hx.cell 2
 have x3 : W.cell? ⟨w.heap.size, 3, none⟩ = some (.int .i64 b) := hx.cell 3
 have x4 : W.cell? ⟨w.heap.size, 4, none⟩ = some (.int .i64 op) := hx.cell 4
 have x5 : W.cell? ⟨w.heap.size, 5, none⟩ = some (.int .i64 n) := hx.cell 5
 have x6 : W.cell? ⟨w.heap.size, 6, none⟩ = some (.string s) := hx.cell 6
 have x7 : W.cell? ⟨w.heap.size, 7, none⟩ = some (.slice Aa la ca) := hx.cell 7
 have y4 : W.cell? ⟨cb, 4, none⟩ = some (.slice (some ⟨vb, 0, none⟩) m m) := (HC.out.blk.below hb hcl).cell 4
 have vd' : W.cell? ⟨vb, d.toNat, none⟩ = some (.int .i64 y) := (hb.cell (p := ⟨vb, d.toNat, none⟩) hvl).trans hvd
 have va' : W.cell? ⟨vb, a.toNat, none⟩ = some (.int .i64 z) := (hb.cell (p := ⟨vb, a.toNat, none⟩) hvl).trans hva
 have zd' : W.frozen? ⟨vb, d.toNat, none⟩ = false := (hb.frozen (p := ⟨vb, d.toNat, none⟩) hvl).trans hzd
 have hxl : w.heap.size < W.heap.size := hx.lt
 have hvW : vb < W.heap.size := Nat.lt_of_lt_of_le hvl hb.size
 have HB := Lib.hid hb
 have HX := Lib.hid hx
 have SO := Lib.hid (fun (w2 : World) (hb2 : Below W.heap.size W w2) => (⟨(hb2.cell (p := ⟨w.heap.size, 1, none⟩) hxl).trans x1, (hb2.cell (p := ⟨w.heap.size, 2, none⟩) hxl).trans x2, (hb2.cell (p := ⟨w.heap.size, 3, none⟩) hxl).trans x3, (hb2.cell (p := ⟨w.heap.size, 4, none⟩) hxl).trans x4, (hb2.cell (p := ⟨w.heap.size, 5, none⟩) hxl).trans x5, (hb2.cell (p := ⟨w.heap.size, 6, none⟩) hxl).trans x6, (hb2.cell (p := ⟨vb, a.toNat, none⟩) hvW).trans va', (hb2.cell (p := ⟨vb, d.toNat, none⟩) hvW).trans vd'⟩ : (fun w2 => w2.cell? ⟨w.heap.size, 1, none⟩ = some (.int .i64 d) ∧ w2.cell? ⟨w.heap.size, 2, none⟩ = some (.int .i64 a) ∧ w2.cell? ⟨w.heap.size, 3, none⟩ = some (.int .i64 b) ∧ w2.cell? ⟨w.heap.size, 4, none⟩ = some (.int .i64 op) ∧ w2.cell? ⟨w.heap.size, 5, none⟩ = some (.int .i64 n) ∧ w2.cell? ⟨w.heap.size, 6, none⟩ = some (.string s) ∧ w2.cell? ⟨vb, a.toNat, none⟩ = some (.int .i64 z) ∧ w2.cell? ⟨vb, d.toNat, none⟩ = some (.int .i64 y)) w2))
 have ZD := Lib.hid (fun (w2 : World) (hb2 : Below W.heap.size W w2) => (⟨(hb2.cell (p := ⟨vb, d.toNat, none⟩) hvW).trans vd', (hb2.frozen (p := ⟨vb, d.toNat, none⟩) hvW).trans zd'⟩ : w2.cell? ⟨vb, d.toNat, none⟩ = some (.int .i64 y) ∧ w2.frozen? ⟨vb, d.toNat, none⟩ = false))
 clear hb hx HC HT hvd hzd vd' zd' hva va'
 go_upto_region 9 with fail
 clear x1 x2 x3 x4 x5 x6 x7 y4
 have HO := Lib.hid (fun w2 => Ar.one_any op z w2)
 refine wp_region_L (by kernel_rfl) 15 (fun w2 => w2.cell? ⟨w.heap.size, 1, none⟩ = some (.int .i64 d) ∧ w2.cell? ⟨w.heap.size, 2, none⟩ = some (.int .i64 a) ∧ w2.cell? ⟨w.heap.size, 3, none⟩ = some (.int .i64 b) ∧ w2.cell? ⟨w.heap.size, 4, none⟩ = some (.int .i64 op) ∧ w2.cell? ⟨w.heap.size, 5, none⟩ = some (.int .i64 n) ∧ w2.cell? ⟨w.heap.size, 6, none⟩ = some (.string s) ∧ w2.cell? ⟨vb, a.toNat, none⟩ = some (.int .i64 z) ∧ w2.cell? ⟨vb, d.toNat, none⟩ = some (.int .i64 y)) (SO.out _ (Below.refl _ _).drew) (fun hHeld => ?_)
 have HS0 := Lib.hid hHeld
 clear hHeld
 change wpAnyL _ _ _ _ _ 15 16 (Array.replicate 16 false) _ _
 refine tL 0 40 (.slice (some ⟨vb, 0, none⟩) m m) HS0.out rfl rfl ?_ ?_
 ·intro w2; go_simp
 simp only [setIfInBounds_toArray, set_cons_zero, set_cons_succ]
 refine tL 1 41 (.pointer (some ⟨w.heap.size, 1, none⟩)) HS0.out rfl rfl ?_ ?_
 ·intro w2; go_simp
 simp only [setIfInBounds_toArray, set_cons_zero, set_cons_succ]
 refine tS 2 42 (.int .i64 d) [15] HS0.out rfl rfl ?_ ?_
 ·intro w2 hSw; obtain ⟨g0, g1, g2, g3, g4, g5, g6, g7⟩ := hSw; go_simp
 simp only [setIfInBounds_toArray, set_cons_zero, set_cons_succ]
 refine tL 3 43 (.pointer (some ⟨w.heap.size, 4, none⟩)) HS0.out rfl rfl ?_ ?_
 ·intro w2; go_simp
 simp only [setIfInBounds_toArray, set_cons_zero, set_cons_succ]
 refine tS 4 44 (.int .i64 op) [15] HS0.out rfl rfl ?_ ?_
 ·intro w2 hSw; obtain ⟨g0, g1, g2, g3, g4, g5, g6, g7⟩ := hSw; go_simp
 simp only [setIfInBounds_toArray, set_cons_zero, set_cons_succ]
 refine tL 5 45 (.slice (some ⟨vb, 0, none⟩) m m) HS0.out rfl rfl ?_ ?_
 ·intro w2; go_simp
 simp only [setIfInBounds_toArray, set_cons_zero, set_cons_succ]
 refine tL 6 46 (.pointer (some ⟨w.heap.size, 2, none⟩)) HS0.out rfl rfl ?_ ?_
 ·intro w2; go_simp
 simp only [setIfInBounds_toArray, set_cons_zero, set_cons_succ]
 refine tS 7 47 (.int .i64 a) [15] HS0.out rfl rfl ?_ ?_
 ·intro w2 hSw; obtain ⟨g0, g1, g2, g3, g4, g5, g6, g7⟩ := hSw; go_simp
 simp only [setIfInBounds_toArray, set_cons_zero, set_cons_succ]
 refine tL 8 48 (.pointer (some ⟨vb, a.toNat, none⟩)) HS0.out rfl rfl ?_ ?_
 ·intro w2; go_simp
 simp only [setIfInBounds_toArray, set_cons_zero, set_cons_succ]
 refine tS 9 49 (.int .i64 z) [15] HS0.out rfl rfl ?_ ?_
 ·intro w2 hSw; obtain ⟨g0, g1, g2, g3, g4, g5, g6, g7⟩ := hSw; go_simp
 simp only [setIfInBounds_toArray, set_cons_zero, set_cons_succ]
 refine wpAnyL_ready (rs := [10]) (by kernel_rfl) (by simp) ?_
 refine AllReadyL.cons rfl (fun K hK => ?_) AllReadyL.nil
 go_simp
 refine (HO.out _).mono ?_
 rintro e w4 ⟨rfl, hb4'⟩
 have HB4 := Lib.hid ((show Below W.heap.size W W.drew from (Below.refl _ _).drew).trans (hb4'.mono (Nat.le_refl _)))
 clear hb4'
 refine hK.out _ _ (SO.out _ HB4.out) (fun hHeld => ?_)
 have HS1 := Lib.hid hHeld
 clear hK K hHeld
 try simp only [setIfInBounds_toArray, set_cons_zero, set_cons_succ]
 refine tL 11 39 (.tuple #[.int .i64 (Ar.one op z), .bool (Ar.oneOk op)]) HS1.out rfl rfl ?_ ?_
 ·intro w2; go_simp
 simp only [setIfInBounds_toArray, set_cons_zero, set_cons_succ]
 refine tL 12 51 (.int .i64 (Ar.one op z)) HS1.out rfl rfl ?_ ?_
 ·intro w2; go_simp
 simp only [setIfInBounds_toArray, set_cons_zero, set_cons_succ]
 refine tL 13 52 (.bool (Ar.oneOk op)) HS1.out rfl rfl ?_ ?_
 ·intro w2; go_simp
 simp only [setIfInBounds_toArray, set_cons_zero, set_cons_succ]
 refine tL 14 53 (.pointer (some ⟨vb, d.toNat, none⟩)) HS1.out rfl rfl ?_ ?_
 ·intro w2; go_simp
 simp only [setIfInBounds_toArray, set_cons_zero, set_cons_succ]
 obtain ⟨vd4, zd4⟩ := ZD.out _ HB4.out
 refine wpAnyL_ready (rs := [15]) (by kernel_rfl) (by simp) ?_
 refine AllReadyL.last rfl (by kernel_rfl) (fun K hK => ?_)
 go_simp
 refine hK.out _ _ ?_
 clear hK K
 try simp only [setIfInBounds_toArray, set_cons_zero, set_cons_succ]
 refine wpAnyL_done (by kernel_rfl) ?_ _
 go_wp2
 go_end0
 exact ⟨rfl, w4, (grown_below' HB.out).trans (grown_below' (row := none) HB4.out), rfl⟩
theorem ins_two (base rb k cap g cb : Nat) (va vf vm vin vout : Value) (st co sp : Int) (bs : List Nat) (nm : ByteArray) (pr vl : Int) (vfl : Value) (vb m : Nat) (bl at_ into d a b op n y z z2 : Int) (s : ByteArray) (Aa : Option Addr) (la ca : Nat) (w : World) (hk : k = bs.length + 1) (h : RunBlk w rb va vf vm vin (.slice (some ⟨g, 0, none⟩) k cap) st co vout sp) (hr : w.ownsRow base 124 1 (.slice (some ⟨g, 0, none⟩) k cap) k ((cb :: bs).reverse.map fun b => .pointer (some ⟨b, 0, none⟩))) (hm : k ≤ maxLen)
  (hc : CallBlk w cb nm pr vl vfl (.slice (some ⟨vb, 0, none⟩) m m) bl at_ into) (hd0 : 0 ≤ d) (hd1 : d < (m : Int)) (hvd : w.cell? ⟨vb, d.toNat, none⟩ = some (.int .i64 y)) (hzd : w.frozen? ⟨vb, d.toNat, none⟩ = false) (ha0 : 0 ≤ a) (ha1 : a < (m : Int)) (hva : w.cell? ⟨vb, a.toNat, none⟩ = some (.int .i64 z)) (hb0 : 0 ≤ b) (hb1 : b < (m : Int)) (hvb : w.cell? ⟨vb, b.toNat, none⟩ = some (.int .i64 z2)) (hok : Ar.twoOk op z2 = true) :
  Calls Tryz.prog 77 #[.pointer (some ⟨rb, 0, none⟩), .agg #[.int .i64 4, .int .i64 d, .int .i64 a, .int .i64 b, .int .i64 op, .int .i64 n, .string s, .slice Aa la ca]] w (PutPost vb d (Ar.two op z z2) w) := by
 have HT := Lib.hid (fun (W : World) (hb : Below w.heap.size w W) => top_any base rb k cap g cb va vf vm vin vout st co sp bs W hk ⟨h.blk.below hb h.blk.lt⟩ (hr.kept (grown_below' (row := none) hb) (Classical.em _)) hm)
 have HC := Lib.hid hc
 have HRB := Lib.hid h
 have hrb0 := h.blk.lt
 have hcl := hc.blk.lt
 have hvl : vb < w.heap.size := World.block_lt_of_cell? w _ hvd
 clear h hr hc hk
 go_enter Tryz.func77, Tryz.ntmps77
 go_upto_region 2 with (go_at_call 75; refine (HT.out _ (below1 _ _)).mono ?_; rintro e w' ⟨rfl, kk, rfl⟩)
 refine wp_world ?_
 intro W hW
 have hb : Below w.heap.size w W := by rw [← hW]; exact below_drewN (below1 _ _) _
 have hx : Blk W w.heap.size 44 #[.int .i64 4, .int .i64 d, .int .i64 a, .int .i64 b, .int .i64 op, .int .i64 n, .string s, .slice Aa la ca] := by rw [← hW]; exact Blk.new w _ _
 clear hW
 have x0 : W.cell? ⟨w.heap.size, 0, none⟩ = some (.int .i64 4) := hx.cell 0
 have x1 : W.cell? ⟨w.heap.size, 1, none⟩ = some (.int .i64 d) := hx.cell 1
 have x2 : W.cell? ⟨w.heap.size, 2, none⟩ = some (.int .i64 a) := hx.cell 2
 have x3 : W.cell? ⟨w.heap.size, 3, none⟩ = some (.int .i64 b) := hx.cell 3
 have x4 : W.cell? ⟨w.heap.size, 4, none⟩ = some (.int .i64 op) := hx.cell 4
 have x5 : W.cell? ⟨w.heap.size, 5, none⟩ = some (.int .i64 n) := hx.cell 5
 have x6 : W.cell? ⟨w.heap.size, 6, none⟩ = some (.string s) := hx.cell 6
 have x7 : W.cell? ⟨w.heap.size, 7, none⟩ = some (.slice Aa la ca) := hx.cell 7
 have y4 : W.cell? ⟨cb, 4, none⟩ = some (.slice (some ⟨vb, 0, none⟩) m m) := (HC.out.blk.below hb hcl).cell 4
 have vd' : W.cell? ⟨vb, d.toNat, none⟩ = some (.int .i64 y) := (hb.cell (p := ⟨vb, d.toNat, none⟩) hvl).trans hvd
 have va' : W.cell? ⟨vb, a.toNat, none⟩ = some (.int .i64 z) := (hb.cell (p := ⟨vb, a.toNat, none⟩) hvl).trans hva
 have vb' : W.cell? ⟨vb, b.toNat, none⟩ = some (.int .i64 z2) := (hb.cell (p := ⟨vb, b.toNat, none⟩) hvl).trans hvb
 have zd' : W.frozen? ⟨vb, d.toNat, none⟩ = false := (hb.frozen (p := ⟨vb, d.toNat, none⟩) hvl).trans hzd
 have hxl : w.heap.size < W.heap.size := hx.lt
 have hvW : vb < W.heap.size := Nat.lt_of_lt_of_le hvl hb.size
 have HB := Lib.hid hb
 have HX := Lib.hid hx
 have SO := Lib.hid (fun (w2 : World) (hb2 : Below W.heap.size W w2) => (⟨(hb2.cell (p := ⟨w.heap.size, 1, none⟩) hxl).trans x1, (hb2.cell (p := ⟨w.heap.size, 2, none⟩) hxl).trans x2, (hb2.cell (p := ⟨w.heap.size, 3, none⟩) hxl).trans x3, (hb2.cell (p := ⟨w.heap.size, 4, none⟩) hxl).trans x4, (hb2.cell (p := ⟨w.heap.size, 5, none⟩) hxl).trans x5, (hb2.cell (p := ⟨w.heap.size, 6, none⟩) hxl).trans x6, (hb2.cell (p := ⟨vb, a.toNat, none⟩) hvW).trans va', (hb2.cell (p := ⟨vb, b.toNat, none⟩) hvW).trans vb', (hb2.cell (p := ⟨vb, d.toNat, none⟩) hvW).trans vd'⟩ : (fun w2 => w2.cell? ⟨w.heap.size, 1, none⟩ = some (.int .i64 d) ∧ w2.cell? ⟨w.heap.size, 2, none⟩ = some (.int .i64 a) ∧ w2.cell? ⟨w.heap.size, 3, none⟩ = some (.int .i64 b) ∧ w2.cell? ⟨w.heap.size, 4, none⟩ = some (.int .i64 op) ∧ w2.cell? ⟨w.heap.size, 5, none⟩ = some (.int .i64 n) ∧ w2.cell? ⟨w.heap.size, 6, none⟩ = some (.string s) ∧ w2.cell? ⟨vb, a.toNat, none⟩ = some (.int .i64 z) ∧ w2.cell? ⟨vb, b.toNat, none⟩ = some (.int .i64 z2) ∧ w2.cell? ⟨vb, d.toNat, none⟩ = some (.int .i64 y)) w2))
 have ZD := Lib.hid (fun (w2 : World) (hb2 : Below W.heap.size W w2) => (⟨(hb2.cell (p := ⟨vb, d.toNat, none⟩) hvW).trans vd', (hb2.frozen (p := ⟨vb, d.toNat, none⟩) hvW).trans zd'⟩ : w2.cell? ⟨vb, d.toNat, none⟩ = some (.int .i64 y) ∧ w2.frozen? ⟨vb, d.toNat, none⟩ = false))
 clear hb hx HC HT hvd hzd vd' zd' hva va' hvb vb'
 go_upto_region 11 with fail
 clear x1 x2 x3 x4 x5 x6 x7 y4
 have HO := Lib.hid (fun w2 => Ar.two_any op z z2 w2)
 rw [hok] at HO
 refine wp_region_L (by kernel_rfl) 17 (fun w2 => w2.cell? ⟨w.heap.size, 1, none⟩ = some (.int .i64 d) ∧ w2.cell? ⟨w.heap.size, 2, none⟩ = some (.int .i64 a) ∧ w2.cell? ⟨w.heap.size, 3, none⟩ = some (.int .i64 b) ∧ w2.cell? ⟨w.heap.size, 4, none⟩ = some (.int .i64 op) ∧ w2.cell? ⟨w.heap.size, 5, none⟩ = some (.int .i64 n) ∧ w2.cell? ⟨w.heap.size, 6, none⟩ = some (.string s) ∧ w2.cell? ⟨vb, a.toNat, none⟩ = some (.int .i64 z) ∧ w2.cell? ⟨vb, b.toNat, none⟩ = some (.int .i64 z2) ∧ w2.cell? ⟨vb, d.toNat, none⟩ = some (.int .i64 y)) (SO.out _ (Below.refl _ _).drew) (fun hHeld => ?_)
 have HS0 := Lib.hid hHeld
 clear hHeld
 change wpAnyL _ _ _ _ _ 17 18 (Array.replicate 18 false) _ _
 refine tL 0 57 (.pointer (some ⟨w.heap.size, 4, none⟩)) HS0.out rfl rfl ?_ ?_
 ·intro w2; go_simp
 simp only [setIfInBounds_toArray, set_cons_zero, set_cons_succ]
 refine tS 1 58 (.int .i64 op) [17] HS0.out rfl rfl ?_ ?_
 ·intro w2 hSw; obtain ⟨g0, g1, g2, g3, g4, g5, g6, g7, g8⟩ := hSw; go_simp
 simp only [setIfInBounds_toArray, set_cons_zero, set_cons_succ]
 refine tL 2 59 (.slice (some ⟨vb, 0, none⟩) m m) HS0.out rfl rfl ?_ ?_
 ·intro w2; go_simp
 simp only [setIfInBounds_toArray, set_cons_zero, set_cons_succ]
 refine tL 3 60 (.pointer (some ⟨w.heap.size, 2, none⟩)) HS0.out rfl rfl ?_ ?_
 ·intro w2; go_simp
 simp only [setIfInBounds_toArray, set_cons_zero, set_cons_succ]
 refine tS 4 61 (.int .i64 a) [17] HS0.out rfl rfl ?_ ?_
 ·intro w2 hSw; obtain ⟨g0, g1, g2, g3, g4, g5, g6, g7, g8⟩ := hSw; go_simp
 simp only [setIfInBounds_toArray, set_cons_zero, set_cons_succ]
 refine tL 5 62 (.pointer (some ⟨vb, a.toNat, none⟩)) HS0.out rfl rfl ?_ ?_
 ·intro w2; go_simp
 simp only [setIfInBounds_toArray, set_cons_zero, set_cons_succ]
 refine tS 6 63 (.int .i64 z) [17] HS0.out rfl rfl ?_ ?_
 ·intro w2 hSw; obtain ⟨g0, g1, g2, g3, g4, g5, g6, g7, g8⟩ := hSw; go_simp
 simp only [setIfInBounds_toArray, set_cons_zero, set_cons_succ]
 refine tL 7 64 (.slice (some ⟨vb, 0, none⟩) m m) HS0.out rfl rfl ?_ ?_
 ·intro w2; go_simp
 simp only [setIfInBounds_toArray, set_cons_zero, set_cons_succ]
 refine tL 8 65 (.pointer (some ⟨w.heap.size, 3, none⟩)) HS0.out rfl rfl ?_ ?_
 ·intro w2; go_simp
 simp only [setIfInBounds_toArray, set_cons_zero, set_cons_succ]
 refine tS 9 66 (.int .i64 b) [17] HS0.out rfl rfl ?_ ?_
 ·intro w2 hSw; obtain ⟨g0, g1, g2, g3, g4, g5, g6, g7, g8⟩ := hSw; go_simp
 simp only [setIfInBounds_toArray, set_cons_zero, set_cons_succ]
 refine tL 10 67 (.pointer (some ⟨vb, b.toNat, none⟩)) HS0.out rfl rfl ?_ ?_
 ·intro w2; go_simp
 simp only [setIfInBounds_toArray, set_cons_zero, set_cons_succ]
 refine tS 11 68 (.int .i64 z2) [17] HS0.out rfl rfl ?_ ?_
 ·intro w2 hSw; obtain ⟨g0, g1, g2, g3, g4, g5, g6, g7, g8⟩ := hSw; go_simp
 simp only [setIfInBounds_toArray, set_cons_zero, set_cons_succ]
 refine wpAnyL_ready (rs := [12]) (by kernel_rfl) (by simp) ?_
 refine AllReadyL.cons rfl (fun K hK => ?_) AllReadyL.nil
 go_simp
 refine (HO.out _).mono ?_
 rintro e w4 ⟨rfl, hb4'⟩
 have HB4 := Lib.hid ((show Below W.heap.size W W.drew from (Below.refl _ _).drew).trans (hb4'.mono (Nat.le_refl _)))
 clear hb4'
 refine hK.out _ _ (SO.out _ HB4.out) (fun hHeld => ?_)
 have HS1 := Lib.hid hHeld
 clear hK K hHeld
 try simp only [setIfInBounds_toArray, set_cons_zero, set_cons_succ]
 refine tL 13 56 (.tuple #[.int .i64 (Ar.two op z z2), .bool true]) HS1.out rfl rfl ?_ ?_
 ·intro w2; go_simp
 simp only [setIfInBounds_toArray, set_cons_zero, set_cons_succ]
 refine tL 14 70 (.int .i64 (Ar.two op z z2)) HS1.out rfl rfl ?_ ?_
 ·intro w2; go_simp
 simp only [setIfInBounds_toArray, set_cons_zero, set_cons_succ]
 refine tL 15 71 (.bool true) HS1.out rfl rfl ?_ ?_
 ·intro w2; go_simp
 simp only [setIfInBounds_toArray, set_cons_zero, set_cons_succ]
 refine tL 16 6 (.int .i64 (Ar.two op z z2)) HS1.out rfl rfl ?_ ?_
 ·intro w2; go_simp
 simp only [setIfInBounds_toArray, set_cons_zero, set_cons_succ]
 refine wpAnyL_ready (rs := [17]) (by kernel_rfl) (by simp) ?_
 refine AllReadyL.last rfl (by kernel_rfl) (fun K hK => ?_)
 go_simp
 refine hK.out _ _ ?_
 clear hK K
 try simp only [setIfInBounds_toArray, set_cons_zero, set_cons_succ]
 refine wpAnyL_done (by kernel_rfl) ?_ _
 obtain ⟨vd4, zd4⟩ := ZD.out _ HB4.out
 have x1 : w4.cell? ⟨w.heap.size, 1, none⟩ = some (.int .i64 d) := (SO.out _ HB4.out).1
 go_wp2
 go_end0
 exact ⟨rfl, w4, (grown_below' HB.out).trans (grown_below' (row := none) HB4.out), rfl⟩
theorem ins_div (base rb k cap g cb : Nat) (va vf vm vin vout : Value) (st co sp : Int) (bs : List Nat) (nm : ByteArray) (pr vl : Int) (vfl : Value) (vb m : Nat) (bl at_ into d a b op n z z2 : Int) (s : ByteArray) (Aa : Option Addr) (la ca : Nat) (w : World) (hk : k = bs.length + 1) (h : RunBlk w rb va vf vm vin (.slice (some ⟨g, 0, none⟩) k cap) st co vout sp) (hr : w.ownsRow base 124 1 (.slice (some ⟨g, 0, none⟩) k cap) k ((cb :: bs).reverse.map fun b => .pointer (some ⟨b, 0, none⟩))) (hm : k ≤ maxLen)
  (hc : CallBlk w cb nm pr vl vfl (.slice (some ⟨vb, 0, none⟩) m m) bl at_ into) (ha0 : 0 ≤ a) (ha1 : a < (m : Int)) (hva : w.cell? ⟨vb, a.toNat, none⟩ = some (.int .i64 z)) (hb0 : 0 ≤ b) (hb1 : b < (m : Int)) (hvb : w.cell? ⟨vb, b.toNat, none⟩ = some (.int .i64 z2)) (hok : Ar.twoOk op z2 = false) :
  Calls Tryz.prog 77 #[.pointer (some ⟨rb, 0, none⟩), .agg #[.int .i64 4, .int .i64 d, .int .i64 a, .int .i64 b, .int .i64 op, .int .i64 n, .string s, .slice Aa la ca]] w fun e w' => e = .returned (.tuple #[]) ∧ RunBlk w' rb va vf vm vin (.slice (some ⟨g, 0, none⟩) k cap) 2 0 vout sp ∧ w.grownBy w' (some rb) := by
 have HT := Lib.hid (fun (W : World) (hb : Below w.heap.size w W) => top_any base rb k cap g cb va vf vm vin vout st co sp bs W hk ⟨h.blk.below hb h.blk.lt⟩ (hr.kept (grown_below' (row := none) hb) (Classical.em _)) hm)
 have HC := Lib.hid hc
 have HRB := Lib.hid h
 have hrb0 := h.blk.lt
 have hcl := hc.blk.lt
 have hvl : vb < w.heap.size := World.block_lt_of_cell? w _ hva
 clear h hr hc hk
 go_enter Tryz.func77, Tryz.ntmps77
 go_upto_region 2 with (go_at_call 75; refine (HT.out _ (below1 _ _)).mono ?_; rintro e w' ⟨rfl, kk, rfl⟩)
 refine wp_world ?_
 intro W hW
 have hb : Below w.heap.size w W := by rw [← hW]; exact below_drewN (below1 _ _) _
 have hx : Blk W w.heap.size 44 #[.int .i64 4, .int .i64 d, .int .i64 a, .int .i64 b, .int .i64 op, .int .i64 n, .string s, .slice Aa la ca] := by rw [← hW]; exact Blk.new w _ _
 clear hW
 have x0 : W.cell? ⟨w.heap.size, 0, none⟩ = some (.int .i64 4) := hx.cell 0
 have x1 : W.cell? ⟨w.heap.size, 1, none⟩ = some (.int .i64 d) := hx.cell 1
 have x2 : W.cell? ⟨w.heap.size, 2, none⟩ = some (.int .i64 a) := hx.cell 2
 have x3 : W.cell? ⟨w.heap.size, 3, none⟩ = some (.int .i64 b) := hx.cell 3
 have x4 : W.cell? ⟨w.heap.size, 4, none⟩ = some (.int .i64 op) := hx.cell 4
 have x5 : W.cell? ⟨w.heap.size, 5, none⟩ = some (.int .i64 n) := hx.cell 5
 have x6 : W.cell? ⟨w.heap.size, 6, none⟩ = some (.string s) := hx.cell 6
 have x7 : W.cell? ⟨w.heap.size, 7, none⟩ = some (.slice Aa la ca) := hx.cell 7
 have y4 : W.cell? ⟨cb, 4, none⟩ = some (.slice (some ⟨vb, 0, none⟩) m m) := (HC.out.blk.below hb hcl).cell 4
 have va' : W.cell? ⟨vb, a.toNat, none⟩ = some (.int .i64 z) := (hb.cell (p := ⟨vb, a.toNat, none⟩) hvl).trans hva
 have vb' : W.cell? ⟨vb, b.toNat, none⟩ = some (.int .i64 z2) := (hb.cell (p := ⟨vb, b.toNat, none⟩) hvl).trans hvb
 have hxl : w.heap.size < W.heap.size := hx.lt
 have hvW : vb < W.heap.size := Nat.lt_of_lt_of_le hvl hb.size
 have HB := Lib.hid hb
 have HX := Lib.hid hx
 have SO := Lib.hid (fun (w2 : World) (hb2 : Below W.heap.size W w2) => (⟨(hb2.cell (p := ⟨w.heap.size, 1, none⟩) hxl).trans x1, (hb2.cell (p := ⟨w.heap.size, 2, none⟩) hxl).trans x2, (hb2.cell (p := ⟨w.heap.size, 3, none⟩) hxl).trans x3, (hb2.cell (p := ⟨w.heap.size, 4, none⟩) hxl).trans x4, (hb2.cell (p := ⟨w.heap.size, 5, none⟩) hxl).trans x5, (hb2.cell (p := ⟨w.heap.size, 6, none⟩) hxl).trans x6, (hb2.cell (p := ⟨vb, a.toNat, none⟩) hvW).trans va', (hb2.cell (p := ⟨vb, b.toNat, none⟩) hvW).trans vb'⟩ : (fun w2 => w2.cell? ⟨w.heap.size, 1, none⟩ = some (.int .i64 d) ∧ w2.cell? ⟨w.heap.size, 2, none⟩ = some (.int .i64 a) ∧ w2.cell? ⟨w.heap.size, 3, none⟩ = some (.int .i64 b) ∧ w2.cell? ⟨w.heap.size, 4, none⟩ = some (.int .i64 op) ∧ w2.cell? ⟨w.heap.size, 5, none⟩ = some (.int .i64 n) ∧ w2.cell? ⟨w.heap.size, 6, none⟩ = some (.string s) ∧ w2.cell? ⟨vb, a.toNat, none⟩ = some (.int .i64 z) ∧ w2.cell? ⟨vb, b.toNat, none⟩ = some (.int .i64 z2)) w2))
 clear hb hx HC HT hva va' hvb vb'
 go_upto_region 11 with fail
 clear x1 x2 x3 x4 x5 x6 x7 y4
 have HO := Lib.hid (fun w2 => Ar.two_any op z z2 w2)
 rw [hok] at HO
 refine wp_region_L (by kernel_rfl) 17 (fun w2 => w2.cell? ⟨w.heap.size, 1, none⟩ = some (.int .i64 d) ∧ w2.cell? ⟨w.heap.size, 2, none⟩ = some (.int .i64 a) ∧ w2.cell? ⟨w.heap.size, 3, none⟩ = some (.int .i64 b) ∧ w2.cell? ⟨w.heap.size, 4, none⟩ = some (.int .i64 op) ∧ w2.cell? ⟨w.heap.size, 5, none⟩ = some (.int .i64 n) ∧ w2.cell? ⟨w.heap.size, 6, none⟩ = some (.string s) ∧ w2.cell? ⟨vb, a.toNat, none⟩ = some (.int .i64 z) ∧ w2.cell? ⟨vb, b.toNat, none⟩ = some (.int .i64 z2)) (SO.out _ (Below.refl _ _).drew) (fun hHeld => ?_)
 have HS0 := Lib.hid hHeld
 clear hHeld
 change wpAnyL _ _ _ _ _ 17 18 (Array.replicate 18 false) _ _
 refine tL 0 57 (.pointer (some ⟨w.heap.size, 4, none⟩)) HS0.out rfl rfl ?_ ?_
 ·intro w2; go_simp
 simp only [setIfInBounds_toArray, set_cons_zero, set_cons_succ]
 refine tS 1 58 (.int .i64 op) [17] HS0.out rfl rfl ?_ ?_
 ·intro w2 hSw; obtain ⟨g0, g1, g2, g3, g4, g5, g6, g7⟩ := hSw; go_simp
 simp only [setIfInBounds_toArray, set_cons_zero, set_cons_succ]
 refine tL 2 59 (.slice (some ⟨vb, 0, none⟩) m m) HS0.out rfl rfl ?_ ?_
 ·intro w2; go_simp
 simp only [setIfInBounds_toArray, set_cons_zero, set_cons_succ]
 refine tL 3 60 (.pointer (some ⟨w.heap.size, 2, none⟩)) HS0.out rfl rfl ?_ ?_
 ·intro w2; go_simp
 simp only [setIfInBounds_toArray, set_cons_zero, set_cons_succ]
 refine tS 4 61 (.int .i64 a) [17] HS0.out rfl rfl ?_ ?_
 ·intro w2 hSw; obtain ⟨g0, g1, g2, g3, g4, g5, g6, g7⟩ := hSw; go_simp
 simp only [setIfInBounds_toArray, set_cons_zero, set_cons_succ]
 refine tL 5 62 (.pointer (some ⟨vb, a.toNat, none⟩)) HS0.out rfl rfl ?_ ?_
 ·intro w2; go_simp
 simp only [setIfInBounds_toArray, set_cons_zero, set_cons_succ]
 refine tS 6 63 (.int .i64 z) [17] HS0.out rfl rfl ?_ ?_
 ·intro w2 hSw; obtain ⟨g0, g1, g2, g3, g4, g5, g6, g7⟩ := hSw; go_simp
 simp only [setIfInBounds_toArray, set_cons_zero, set_cons_succ]
 refine tL 7 64 (.slice (some ⟨vb, 0, none⟩) m m) HS0.out rfl rfl ?_ ?_
 ·intro w2; go_simp
 simp only [setIfInBounds_toArray, set_cons_zero, set_cons_succ]
 refine tL 8 65 (.pointer (some ⟨w.heap.size, 3, none⟩)) HS0.out rfl rfl ?_ ?_
 ·intro w2; go_simp
 simp only [setIfInBounds_toArray, set_cons_zero, set_cons_succ]
 refine tS 9 66 (.int .i64 b) [17] HS0.out rfl rfl ?_ ?_
 ·intro w2 hSw; obtain ⟨g0, g1, g2, g3, g4, g5, g6, g7⟩ := hSw; go_simp
 simp only [setIfInBounds_toArray, set_cons_zero, set_cons_succ]
 refine tL 10 67 (.pointer (some ⟨vb, b.toNat, none⟩)) HS0.out rfl rfl ?_ ?_
 ·intro w2; go_simp
 simp only [setIfInBounds_toArray, set_cons_zero, set_cons_succ]
 refine tS 11 68 (.int .i64 z2) [17] HS0.out rfl rfl ?_ ?_
 ·intro w2 hSw; obtain ⟨g0, g1, g2, g3, g4, g5, g6, g7⟩ := hSw; go_simp
 simp only [setIfInBounds_toArray, set_cons_zero, set_cons_succ]
 refine wpAnyL_ready (rs := [12]) (by kernel_rfl) (by simp) ?_
 refine AllReadyL.cons rfl (fun K hK => ?_) AllReadyL.nil
 go_simp
 refine (HO.out _).mono ?_
 rintro e w4 ⟨rfl, hb4'⟩
 have HB4 := Lib.hid ((show Below W.heap.size W W.drew from (Below.refl _ _).drew).trans (hb4'.mono (Nat.le_refl _)))
 clear hb4'
 refine hK.out _ _ (SO.out _ HB4.out) (fun hHeld => ?_)
 have HS1 := Lib.hid hHeld
 clear hK K hHeld
 try simp only [setIfInBounds_toArray, set_cons_zero, set_cons_succ]
 refine tL 13 56 (.tuple #[.int .i64 (Ar.two op z z2), .bool false]) HS1.out rfl rfl ?_ ?_
 ·intro w2; go_simp
 simp only [setIfInBounds_toArray, set_cons_zero, set_cons_succ]
 refine tL 14 70 (.int .i64 (Ar.two op z z2)) HS1.out rfl rfl ?_ ?_
 ·intro w2; go_simp
 simp only [setIfInBounds_toArray, set_cons_zero, set_cons_succ]
 refine tL 15 71 (.bool false) HS1.out rfl rfl ?_ ?_
 ·intro w2; go_simp
 simp only [setIfInBounds_toArray, set_cons_zero, set_cons_succ]
 refine tL 16 6 (.int .i64 (Ar.two op z z2)) HS1.out rfl rfl ?_ ?_
 ·intro w2; go_simp
 simp only [setIfInBounds_toArray, set_cons_zero, set_cons_succ]
 refine wpAnyL_ready (rs := [17]) (by kernel_rfl) (by simp) ?_
 refine AllReadyL.last rfl (by kernel_rfl) (fun K hK => ?_)
 go_simp
 refine hK.out _ _ ?_
 clear hK K
 try simp only [setIfInBounds_toArray, set_cons_zero, set_cons_succ]
 refine wpAnyL_done (by kernel_rfl) ?_ _
 have HE := Lib.hid (rend_any rb va vf vm vin (.slice (some ⟨g, 0, none⟩) k cap) vout st co sp 2 0 w4 ⟨HRB.out.blk.below (HB.out.trans (HB4.out.mono HB.out.size)) hrb0⟩)
 go_wp2_with (go_at_call 102; refine HE.out.mono ?_; rintro e w5 ⟨rfl, hb5, hg5⟩)
 refine bodyPost_ret (results_none rfl _ _ _) rfl ?_
 exact ⟨rfl, hb5, ((grown_below' HB.out).trans (grown_below' HB4.out)).trans hg5⟩
theorem ins_load (base rb k cap g cb : Nat) (va vf vm vin vout : Value) (st co sp : Int) (bs : List Nat) (nm : ByteArray) (pr vl : Int) (vfl : Value) (vb m : Nat) (bl at_ into d a b op n y z x : Int) (s : ByteArray) (Aa : Option Addr) (la ca : Nat) (ga gi : Nat) (w : World) (hk : k = bs.length + 1) (h : RunBlk w rb va vf vm vin (.slice (some ⟨g, 0, none⟩) k cap) st co vout sp) (hr : w.ownsRow base 124 1 (.slice (some ⟨g, 0, none⟩) k cap) k ((cb :: bs).reverse.map fun b => .pointer (some ⟨b, 0, none⟩))) (hm : k ≤ maxLen)
  (hc : CallBlk w cb nm pr vl vfl (.slice (some ⟨vb, 0, none⟩) m m) bl at_ into) (hd0 : 0 ≤ d) (hd1 : d < (m : Int)) (hvd : w.cell? ⟨vb, d.toNat, none⟩ = some (.int .i64 y)) (hzd : w.frozen? ⟨vb, d.toNat, none⟩ = false) (ha0 : 0 ≤ a) (ha1 : a < (m : Int)) (hva : w.cell? ⟨vb, a.toNat, none⟩ = some (.int .i64 z)) (hel : ∀ W, w.grownBy W none → Calls Tryz.prog 105 #[.pointer (some ⟨rb, 0, none⟩), .string s, .int .i64 z] W fun e w' => e = .returned (.pointer (some ⟨ga, gi, none⟩)) ∧ w' = W) (hga : w.cell? ⟨ga, gi, none⟩ = some (.int .i64 x)) :
  Calls Tryz.prog 77 #[.pointer (some ⟨rb, 0, none⟩), .agg #[.int .i64 5, .int .i64 d, .int .i64 a, .int .i64 b, .int .i64 op, .int .i64 n, .string s, .slice Aa la ca]] w (PutPost vb d x w) := by
 have HT := Lib.hid (fun (W : World) (hb : Below w.heap.size w W) => top_any base rb k cap g cb va vf vm vin vout st co sp bs W hk ⟨h.blk.below hb h.blk.lt⟩ (hr.kept (grown_below' (row := none) hb) (Classical.em _)) hm)
 have HC := Lib.hid hc
 have HRB := Lib.hid h
 have hrb0 := h.blk.lt
 have hcl := hc.blk.lt
 have hvl : vb < w.heap.size := World.block_lt_of_cell? w _ hvd
 have hgl : ga < w.heap.size := World.block_lt_of_cell? w _ hga
 clear h hr hc hk
 go_enter Tryz.func77, Tryz.ntmps77
 go_upto_region 2 with (go_at_call 75; refine (HT.out _ (below1 _ _)).mono ?_; rintro e w' ⟨rfl, kk, rfl⟩)
 refine wp_world ?_
 intro W hW
 have hb : Below w.heap.size w W := by rw [← hW]; exact below_drewN (below1 _ _) _
 have hx : Blk W w.heap.size 44 #[.int .i64 5, .int .i64 d, .int .i64 a, .int .i64 b, .int .i64 op, .int .i64 n, .string s, .slice Aa la ca] := by rw [← hW]; exact Blk.new w _ _
 clear hW
 have x0 : W.cell? ⟨w.heap.size, 0, none⟩ = some (.int .i64 5) := hx.cell 0
 have x1 : W.cell? ⟨w.heap.size, 1, none⟩ = some (.int .i64 d) := hx.cell 1
 have x2 : W.cell? ⟨w.heap.size, 2, none⟩ = some (.int .i64 a) := hx.cell 2
 have x3 : W.cell? ⟨w.heap.size, 3, none⟩ = some (.int .i64 b) := hx.cell 3
 have x4 : W.cell? ⟨w.heap.size, 4, none⟩ = some (.int .i64 op) := hx.cell 4
 have x5 : W.cell? ⟨w.heap.size, 5, none⟩ = some (.int .i64 n) := hx.cell 5
 have x6 : W.cell? ⟨w.heap.size, 6, none⟩ = some (.string s) := hx.cell 6
 have x7 : W.cell? ⟨w.heap.size, 7, none⟩ = some (.slice Aa la ca) := hx.cell 7
 have y4 : W.cell? ⟨cb, 4, none⟩ = some (.slice (some ⟨vb, 0, none⟩) m m) := (HC.out.blk.below hb hcl).cell 4
 have vd' : W.cell? ⟨vb, d.toNat, none⟩ = some (.int .i64 y) := (hb.cell (p := ⟨vb, d.toNat, none⟩) hvl).trans hvd
 have va' : W.cell? ⟨vb, a.toNat, none⟩ = some (.int .i64 z) := (hb.cell (p := ⟨vb, a.toNat, none⟩) hvl).trans hva
 have zd' : W.frozen? ⟨vb, d.toNat, none⟩ = false := (hb.frozen (p := ⟨vb, d.toNat, none⟩) hvl).trans hzd
 have hxl : w.heap.size < W.heap.size := hx.lt
 have hvW : vb < W.heap.size := Nat.lt_of_lt_of_le hvl hb.size
 have HB := Lib.hid hb
 have HX := Lib.hid hx
 have SO := Lib.hid (fun (w2 : World) (hb2 : Below W.heap.size W w2) => (⟨(hb2.cell (p := ⟨w.heap.size, 1, none⟩) hxl).trans x1, (hb2.cell (p := ⟨w.heap.size, 2, none⟩) hxl).trans x2, (hb2.cell (p := ⟨w.heap.size, 3, none⟩) hxl).trans x3, (hb2.cell (p := ⟨w.heap.size, 4, none⟩) hxl).trans x4, (hb2.cell (p := ⟨w.heap.size, 5, none⟩) hxl).trans x5, (hb2.cell (p := ⟨w.heap.size, 6, none⟩) hxl).trans x6, (hb2.cell (p := ⟨vb, a.toNat, none⟩) hvW).trans va', (hb2.cell (p := ⟨vb, d.toNat, none⟩) hvW).trans vd'⟩ : (fun w2 => w2.cell? ⟨w.heap.size, 1, none⟩ = some (.int .i64 d) ∧ w2.cell? ⟨w.heap.size, 2, none⟩ = some (.int .i64 a) ∧ w2.cell? ⟨w.heap.size, 3, none⟩ = some (.int .i64 b) ∧ w2.cell? ⟨w.heap.size, 4, none⟩ = some (.int .i64 op) ∧ w2.cell? ⟨w.heap.size, 5, none⟩ = some (.int .i64 n) ∧ w2.cell? ⟨w.heap.size, 6, none⟩ = some (.string s) ∧ w2.cell? ⟨vb, a.toNat, none⟩ = some (.int .i64 z) ∧ w2.cell? ⟨vb, d.toNat, none⟩ = some (.int .i64 y)) w2))
 have ZD := Lib.hid (fun (w2 : World) (hb2 : Below W.heap.size W w2) => (⟨(hb2.cell (p := ⟨vb, d.toNat, none⟩) hvW).trans vd', (hb2.frozen (p := ⟨vb, d.toNat, none⟩) hvW).trans zd'⟩ : w2.cell? ⟨vb, d.toNat, none⟩ = some (.int .i64 y) ∧ w2.frozen? ⟨vb, d.toNat, none⟩ = false))
 clear hb hx HC HT hvd hzd vd' zd' hva va'
 go_upto_region 16 with fail
 clear x1 x2 x3 x4 x5 x6 x7 y4
 have HE := Lib.hid (hel W.drew (grown_below' HB.out.drew))
 refine wp_region_L (by kernel_rfl) 9 (fun w2 => w2.cell? ⟨w.heap.size, 1, none⟩ = some (.int .i64 d) ∧ w2.cell? ⟨w.heap.size, 2, none⟩ = some (.int .i64 a) ∧ w2.cell? ⟨w.heap.size, 3, none⟩ = some (.int .i64 b) ∧ w2.cell? ⟨w.heap.size, 4, none⟩ = some (.int .i64 op) ∧ w2.cell? ⟨w.heap.size, 5, none⟩ = some (.int .i64 n) ∧ w2.cell? ⟨w.heap.size, 6, none⟩ = some (.string s) ∧ w2.cell? ⟨vb, a.toNat, none⟩ = some (.int .i64 z) ∧ w2.cell? ⟨vb, d.toNat, none⟩ = some (.int .i64 y)) (SO.out _ (Below.refl _ _).drew) (fun hHeld => ?_)
 have HS0 := Lib.hid hHeld
 clear hHeld
 change wpAnyL _ _ _ _ _ 9 10 (Array.replicate 10 false) _ _
 refine tL 0 83 (.pointer (some ⟨rb, 0, none⟩)) HS0.out rfl rfl ?_ ?_
 ·intro w2; go_simp
 simp only [setIfInBounds_toArray, set_cons_zero, set_cons_succ]
 refine tL 1 84 (.pointer (some ⟨w.heap.size, 6, none⟩)) HS0.out rfl rfl ?_ ?_
 ·intro w2; go_simp
 simp only [setIfInBounds_toArray, set_cons_zero, set_cons_succ]
 refine tS 2 85 (.string s) [9] HS0.out rfl rfl ?_ ?_
 ·intro w2 hSw; obtain ⟨g0, g1, g2, g3, g4, g5, g6, g7⟩ := hSw; go_simp
 simp only [setIfInBounds_toArray, set_cons_zero, set_cons_succ]
 refine tL 3 86 (.slice (some ⟨vb, 0, none⟩) m m) HS0.out rfl rfl ?_ ?_
 ·intro w2; go_simp
 simp only [setIfInBounds_toArray, set_cons_zero, set_cons_succ]
 refine tL 4 87 (.pointer (some ⟨w.heap.size, 2, none⟩)) HS0.out rfl rfl ?_ ?_
 ·intro w2; go_simp
 simp only [setIfInBounds_toArray, set_cons_zero, set_cons_succ]
 refine tS 5 88 (.int .i64 a) [9] HS0.out rfl rfl ?_ ?_
 ·intro w2 hSw; obtain ⟨g0, g1, g2, g3, g4, g5, g6, g7⟩ := hSw; go_simp
 simp only [setIfInBounds_toArray, set_cons_zero, set_cons_succ]
 refine tL 6 89 (.pointer (some ⟨vb, a.toNat, none⟩)) HS0.out rfl rfl ?_ ?_
 ·intro w2; go_simp
 simp only [setIfInBounds_toArray, set_cons_zero, set_cons_succ]
 refine tS 7 90 (.int .i64 z) [9] HS0.out rfl rfl ?_ ?_
 ·intro w2 hSw; obtain ⟨g0, g1, g2, g3, g4, g5, g6, g7⟩ := hSw; go_simp
 simp only [setIfInBounds_toArray, set_cons_zero, set_cons_succ]
 refine wpAnyL_ready (rs := [8]) (by kernel_rfl) (by simp) ?_
 refine AllReadyL.cons rfl (fun K hK => ?_) AllReadyL.nil
 go_simp
 refine HE.out.mono ?_
 rintro e w4 ⟨rfl, rfl⟩
 refine hK.out _ _ (SO.out _ (Below.refl _ _).drew) (fun hHeld => ?_)
 have HS1 := Lib.hid hHeld
 clear hK K hHeld
 try simp only [setIfInBounds_toArray, set_cons_zero, set_cons_succ]
 refine wpAnyL_ready (rs := [9]) (by kernel_rfl) (by simp) ?_
 refine AllReadyL.last rfl (by kernel_rfl) (fun K hK => ?_)
 go_simp
 refine hK.out _ _ ?_
 clear hK K
 try simp only [setIfInBounds_toArray, set_cons_zero, set_cons_succ]
 refine wpAnyL_done (by kernel_rfl) ?_ _
 generalize hWd : W.drew = W2 at *
 have HB2 := Lib.hid (show Below w.heap.size w W2 from by rw [← hWd]; exact HB.out.drew)
 obtain ⟨vd4, zd4⟩ := ZD.out W2 (by rw [← hWd]; exact (Below.refl _ _).drew)
 have x1 : W2.cell? ⟨w.heap.size, 1, none⟩ = some (.int .i64 d) := (SO.out W2 (by rw [← hWd]; exact (Below.refl _ _).drew)).1
 have ga4 : W2.cell? ⟨ga, gi, none⟩ = some (.int .i64 x) := (HB2.out.cell (p := ⟨ga, gi, none⟩) hgl).trans hga
 have HGA := Lib.hid ga4
 clear hWd hga
 go_upto_region 18 with fail
 refine wp_region_L (by kernel_rfl) 7 (fun w2 => w2.cell? ⟨w.heap.size, 1, none⟩ = some (.int .i64 d) ∧ w2.cell? ⟨ga, gi, none⟩ = some (.int .i64 x)) (⟨x1, ga4⟩) (fun hHeld => ?_)
 have HS0 := Lib.hid hHeld
 clear hHeld
 change wpAnyL _ _ _ _ _ 7 8 (Array.replicate 8 false) _ _
 refine tL 0 94 (.slice (some ⟨vb, 0, none⟩) m m) HS0.out rfl rfl ?_ ?_
 ·intro w2; go_simp
 simp only [setIfInBounds_toArray, set_cons_zero, set_cons_succ]
 refine tL 1 95 (.pointer (some ⟨w.heap.size, 1, none⟩)) HS0.out rfl rfl ?_ ?_
 ·intro w2; go_simp
 simp only [setIfInBounds_toArray, set_cons_zero, set_cons_succ]
 refine tS 2 96 (.int .i64 d) [7] HS0.out rfl rfl ?_ ?_
 ·intro w2 hSw; obtain ⟨g0, g1⟩ := hSw; go_simp
 simp only [setIfInBounds_toArray, set_cons_zero, set_cons_succ]
 refine tL 3 97 (.pointer (some ⟨ga, gi, none⟩)) HS0.out rfl rfl ?_ ?_
 ·intro w2; go_simp
 simp only [setIfInBounds_toArray, set_cons_zero, set_cons_succ]
 refine tL 4 98 (.pointer (some ⟨ga, gi, none⟩)) HS0.out rfl rfl ?_ ?_
 ·intro w2; go_simp
 simp only [setIfInBounds_toArray, set_cons_zero, set_cons_succ]
 refine tS 5 99 (.int .i64 x) [7] HS0.out rfl rfl ?_ ?_
 ·intro w2 hSw; obtain ⟨g0, g1⟩ := hSw; go_simp
 simp only [setIfInBounds_toArray, set_cons_zero, set_cons_succ]
 refine tL 6 100 (.pointer (some ⟨vb, d.toNat, none⟩)) HS0.out rfl rfl ?_ ?_
 ·intro w2; go_simp
 simp only [setIfInBounds_toArray, set_cons_zero, set_cons_succ]
 refine wpAnyL_ready (rs := [7]) (by kernel_rfl) (by simp) ?_
 refine AllReadyL.last rfl (by kernel_rfl) (fun K hK => ?_)
 go_simp
 refine hK.out _ _ ?_
 clear hK K
 try simp only [setIfInBounds_toArray, set_cons_zero, set_cons_succ]
 refine wpAnyL_done (by kernel_rfl) ?_ _
 go_wp2
 go_end0
 exact ⟨rfl, W2.drew, (grown_below' HB2.out.drew), rfl⟩
theorem ins_load_out (base rb k cap g cb : Nat) (va vf vm vin vout : Value) (st co sp : Int) (bs : List Nat) (nm : ByteArray) (pr vl : Int) (vfl : Value) (vb m : Nat) (bl at_ into d a b op n z : Int) (s : ByteArray) (Aa : Option Addr) (la ca : Nat) (w : World) (hk : k = bs.length + 1) (h : RunBlk w rb va vf vm vin (.slice (some ⟨g, 0, none⟩) k cap) st co vout sp) (hr : w.ownsRow base 124 1 (.slice (some ⟨g, 0, none⟩) k cap) k ((cb :: bs).reverse.map fun b => .pointer (some ⟨b, 0, none⟩))) (hm : k ≤ maxLen)
  (hc : CallBlk w cb nm pr vl vfl (.slice (some ⟨vb, 0, none⟩) m m) bl at_ into) (ha0 : 0 ≤ a) (ha1 : a < (m : Int)) (hva : w.cell? ⟨vb, a.toNat, none⟩ = some (.int .i64 z)) (hel : ∀ W, w.grownBy W none → Calls Tryz.prog 105 #[.pointer (some ⟨rb, 0, none⟩), .string s, .int .i64 z] W fun e w' => e = .returned (.pointer none) ∧ RunBlk w' rb va vf vm vin (.slice (some ⟨g, 0, none⟩) k cap) 3 0 vout sp ∧ W.grownBy w' (some rb)) (hvr : vb ≠ rb) :
  Calls Tryz.prog 77 #[.pointer (some ⟨rb, 0, none⟩), .agg #[.int .i64 5, .int .i64 d, .int .i64 a, .int .i64 b, .int .i64 op, .int .i64 n, .string s, .slice Aa la ca]] w (fun e w' => e = .returned (.tuple #[]) ∧ RunBlk w' rb va vf vm vin (.slice (some ⟨g, 0, none⟩) k cap) 3 0 vout sp ∧ w.grownBy w' (some rb)) := by
 have HT := Lib.hid (fun (W : World) (hb : Below w.heap.size w W) => top_any base rb k cap g cb va vf vm vin vout st co sp bs W hk ⟨h.blk.below hb h.blk.lt⟩ (hr.kept (grown_below' (row := none) hb) (Classical.em _)) hm)
 have HC := Lib.hid hc
 have HRB := Lib.hid h
 have hrb0 := h.blk.lt
 have hcl := hc.blk.lt
 have hvl : vb < w.heap.size := World.block_lt_of_cell? w _ hva
 clear h hr hc hk
 go_enter Tryz.func77, Tryz.ntmps77
 go_upto_region 2 with (go_at_call 75; refine (HT.out _ (below1 _ _)).mono ?_; rintro e w' ⟨rfl, kk, rfl⟩)
 refine wp_world ?_
 intro W hW
 have hb : Below w.heap.size w W := by rw [← hW]; exact below_drewN (below1 _ _) _
 have hx : Blk W w.heap.size 44 #[.int .i64 5, .int .i64 d, .int .i64 a, .int .i64 b, .int .i64 op, .int .i64 n, .string s, .slice Aa la ca] := by rw [← hW]; exact Blk.new w _ _
 clear hW
 have x0 : W.cell? ⟨w.heap.size, 0, none⟩ = some (.int .i64 5) := hx.cell 0
 have x1 : W.cell? ⟨w.heap.size, 1, none⟩ = some (.int .i64 d) := hx.cell 1
 have x2 : W.cell? ⟨w.heap.size, 2, none⟩ = some (.int .i64 a) := hx.cell 2
 have x3 : W.cell? ⟨w.heap.size, 3, none⟩ = some (.int .i64 b) := hx.cell 3
 have x4 : W.cell? ⟨w.heap.size, 4, none⟩ = some (.int .i64 op) := hx.cell 4
 have x5 : W.cell? ⟨w.heap.size, 5, none⟩ = some (.int .i64 n) := hx.cell 5
 have x6 : W.cell? ⟨w.heap.size, 6, none⟩ = some (.string s) := hx.cell 6
 have x7 : W.cell? ⟨w.heap.size, 7, none⟩ = some (.slice Aa la ca) := hx.cell 7
 have y4 : W.cell? ⟨cb, 4, none⟩ = some (.slice (some ⟨vb, 0, none⟩) m m) := (HC.out.blk.below hb hcl).cell 4
 have va' : W.cell? ⟨vb, a.toNat, none⟩ = some (.int .i64 z) := (hb.cell (p := ⟨vb, a.toNat, none⟩) hvl).trans hva
 have hxl : w.heap.size < W.heap.size := hx.lt
 have hvW : vb < W.heap.size := Nat.lt_of_lt_of_le hvl hb.size
 have HB := Lib.hid hb
 have HX := Lib.hid hx
 have SO := Lib.hid (fun (w2 : World) (hb2 : Below W.heap.size W w2) => (⟨(hb2.cell (p := ⟨w.heap.size, 1, none⟩) hxl).trans x1, (hb2.cell (p := ⟨w.heap.size, 2, none⟩) hxl).trans x2, (hb2.cell (p := ⟨w.heap.size, 3, none⟩) hxl).trans x3, (hb2.cell (p := ⟨w.heap.size, 4, none⟩) hxl).trans x4, (hb2.cell (p := ⟨w.heap.size, 5, none⟩) hxl).trans x5, (hb2.cell (p := ⟨w.heap.size, 6, none⟩) hxl).trans x6, (hb2.cell (p := ⟨vb, a.toNat, none⟩) hvW).trans va'⟩ : (fun w2 => w2.cell? ⟨w.heap.size, 1, none⟩ = some (.int .i64 d) ∧ w2.cell? ⟨w.heap.size, 2, none⟩ = some (.int .i64 a) ∧ w2.cell? ⟨w.heap.size, 3, none⟩ = some (.int .i64 b) ∧ w2.cell? ⟨w.heap.size, 4, none⟩ = some (.int .i64 op) ∧ w2.cell? ⟨w.heap.size, 5, none⟩ = some (.int .i64 n) ∧ w2.cell? ⟨w.heap.size, 6, none⟩ = some (.string s) ∧ w2.cell? ⟨vb, a.toNat, none⟩ = some (.int .i64 z)) w2))
 clear hb hx HC HT hva va'
 go_upto_region 16 with fail
 clear x1 x2 x3 x4 x5 x6 x7 y4
 have HE := Lib.hid (hel W.drew (grown_below' HB.out.drew))
 refine wp_region_L (by kernel_rfl) 9 (fun w2 => w2.cell? ⟨w.heap.size, 1, none⟩ = some (.int .i64 d) ∧ w2.cell? ⟨w.heap.size, 2, none⟩ = some (.int .i64 a) ∧ w2.cell? ⟨w.heap.size, 3, none⟩ = some (.int .i64 b) ∧ w2.cell? ⟨w.heap.size, 4, none⟩ = some (.int .i64 op) ∧ w2.cell? ⟨w.heap.size, 5, none⟩ = some (.int .i64 n) ∧ w2.cell? ⟨w.heap.size, 6, none⟩ = some (.string s) ∧ w2.cell? ⟨vb, a.toNat, none⟩ = some (.int .i64 z)) (SO.out _ (Below.refl _ _).drew) (fun hHeld => ?_)
 have HS0 := Lib.hid hHeld
 clear hHeld
 change wpAnyL _ _ _ _ _ 9 10 (Array.replicate 10 false) _ _
 refine tL 0 83 (.pointer (some ⟨rb, 0, none⟩)) HS0.out rfl rfl ?_ ?_
 ·intro w2; go_simp
 simp only [setIfInBounds_toArray, set_cons_zero, set_cons_succ]
 refine tL 1 84 (.pointer (some ⟨w.heap.size, 6, none⟩)) HS0.out rfl rfl ?_ ?_
 ·intro w2; go_simp
 simp only [setIfInBounds_toArray, set_cons_zero, set_cons_succ]
 refine tS 2 85 (.string s) [9] HS0.out rfl rfl ?_ ?_
 ·intro w2 hSw; obtain ⟨g0, g1, g2, g3, g4, g5, g6⟩ := hSw; go_simp
 simp only [setIfInBounds_toArray, set_cons_zero, set_cons_succ]
 refine tL 3 86 (.slice (some ⟨vb, 0, none⟩) m m) HS0.out rfl rfl ?_ ?_
 ·intro w2; go_simp
 simp only [setIfInBounds_toArray, set_cons_zero, set_cons_succ]
 refine tL 4 87 (.pointer (some ⟨w.heap.size, 2, none⟩)) HS0.out rfl rfl ?_ ?_
 ·intro w2; go_simp
 simp only [setIfInBounds_toArray, set_cons_zero, set_cons_succ]
 refine tS 5 88 (.int .i64 a) [9] HS0.out rfl rfl ?_ ?_
 ·intro w2 hSw; obtain ⟨g0, g1, g2, g3, g4, g5, g6⟩ := hSw; go_simp
 simp only [setIfInBounds_toArray, set_cons_zero, set_cons_succ]
 refine tL 6 89 (.pointer (some ⟨vb, a.toNat, none⟩)) HS0.out rfl rfl ?_ ?_
 ·intro w2; go_simp
 simp only [setIfInBounds_toArray, set_cons_zero, set_cons_succ]
 refine tS 7 90 (.int .i64 z) [9] HS0.out rfl rfl ?_ ?_
 ·intro w2 hSw; obtain ⟨g0, g1, g2, g3, g4, g5, g6⟩ := hSw; go_simp
 simp only [setIfInBounds_toArray, set_cons_zero, set_cons_succ]
 refine wpAnyL_ready (rs := [8]) (by kernel_rfl) (by simp) ?_
 refine AllReadyL.cons rfl (fun K hK => ?_) AllReadyL.nil
 go_simp
 refine HE.out.mono ?_
 rintro e w4 ⟨rfl, hb4, hg4⟩
 have hS4 : (fun w2 => w2.cell? ⟨w.heap.size, 1, none⟩ = some (.int .i64 d) ∧ w2.cell? ⟨w.heap.size, 2, none⟩ = some (.int .i64 a) ∧ w2.cell? ⟨w.heap.size, 3, none⟩ = some (.int .i64 b) ∧ w2.cell? ⟨w.heap.size, 4, none⟩ = some (.int .i64 op) ∧ w2.cell? ⟨w.heap.size, 5, none⟩ = some (.int .i64 n) ∧ w2.cell? ⟨w.heap.size, 6, none⟩ = some (.string s) ∧ w2.cell? ⟨vb, a.toNat, none⟩ = some (.int .i64 z)) w4 := by
  obtain ⟨g0, g1, g2, g3, g4, g5, g6⟩ := SO.out _ (Below.refl W.heap.size W).drew
  have hx5 : w.heap.size < W.drew.heap.size := hxl
  have hv5 : vb < W.drew.heap.size := hvW
  exact ⟨(World.cell?_of_block (w := W.drew) (w' := w4) (a := ⟨w.heap.size, 1, none⟩) (hg4.block _ hx5 (fun e => (fun e2 => absurd e2 (Nat.ne_of_gt hrb0)) (Option.some.inj e)))).trans g0, (World.cell?_of_block (w := W.drew) (w' := w4) (a := ⟨w.heap.size, 2, none⟩) (hg4.block _ hx5 (fun e => (fun e2 => absurd e2 (Nat.ne_of_gt hrb0)) (Option.some.inj e)))).trans g1, (World.cell?_of_block (w := W.drew) (w' := w4) (a := ⟨w.heap.size, 3, none⟩) (hg4.block _ hx5 (fun e => (fun e2 => absurd e2 (Nat.ne_of_gt hrb0)) (Option.some.inj e)))).trans g2, (World.cell?_of_block (w := W.drew) (w' := w4) (a := ⟨w.heap.size, 4, none⟩) (hg4.block _ hx5 (fun e => (fun e2 => absurd e2 (Nat.ne_of_gt hrb0)) (Option.some.inj e)))).trans g3, (World.cell?_of_block (w := W.drew) (w' := w4) (a := ⟨w.heap.size, 5, none⟩) (hg4.block _ hx5 (fun e => (fun e2 => absurd e2 (Nat.ne_of_gt hrb0)) (Option.some.inj e)))).trans g4, (World.cell?_of_block (w := W.drew) (w' := w4) (a := ⟨w.heap.size, 6, none⟩) (hg4.block _ hx5 (fun e => (fun e2 => absurd e2 (Nat.ne_of_gt hrb0)) (Option.some.inj e)))).trans g5, (World.cell?_of_block (w := W.drew) (w' := w4) (a := ⟨vb, a.toNat, none⟩) (hg4.block _ hv5 (fun e => hvr (Option.some.inj e)))).trans g6⟩
 have HB4 := Lib.hid hb4
 have HG4 := Lib.hid hg4
 clear hb4 hg4
 refine hK.out _ _ (hS4) (fun hHeld => ?_)
 have HS1 := Lib.hid hHeld
 clear hK K hHeld
 try simp only [setIfInBounds_toArray, set_cons_zero, set_cons_succ]
 refine wpAnyL_ready (rs := [9]) (by kernel_rfl) (by simp) ?_
 refine AllReadyL.last rfl (by kernel_rfl) (fun K hK => ?_)
 go_simp
 refine hK.out _ _ ?_
 clear hK K
 try simp only [setIfInBounds_toArray, set_cons_zero, set_cons_succ]
 refine wpAnyL_done (by kernel_rfl) ?_ _
 go_wp2
 go_end0
 exact ⟨rfl, HB4.out, (grown_below' HB.out.drew).trans HG4.out⟩
theorem ins_store (base rb k cap g cb : Nat) (va vf vm vin vout : Value) (st co sp : Int) (bs : List Nat) (nm : ByteArray) (pr vl : Int) (vfl : Value) (vb m : Nat) (bl at_ into d a b op n z z2 x : Int) (s : ByteArray) (Aa : Option Addr) (la ca : Nat) (ga gi : Nat) (w : World) (hk : k = bs.length + 1) (h : RunBlk w rb va vf vm vin (.slice (some ⟨g, 0, none⟩) k cap) st co vout sp) (hr : w.ownsRow base 124 1 (.slice (some ⟨g, 0, none⟩) k cap) k ((cb :: bs).reverse.map fun b => .pointer (some ⟨b, 0, none⟩))) (hm : k ≤ maxLen)
  (hc : CallBlk w cb nm pr vl vfl (.slice (some ⟨vb, 0, none⟩) m m) bl at_ into) (ha0 : 0 ≤ a) (ha1 : a < (m : Int)) (hva : w.cell? ⟨vb, a.toNat, none⟩ = some (.int .i64 z)) (hb0 : 0 ≤ b) (hb1 : b < (m : Int)) (hvb : w.cell? ⟨vb, b.toNat, none⟩ = some (.int .i64 z2)) (hel : ∀ W, w.grownBy W none → Calls Tryz.prog 105 #[.pointer (some ⟨rb, 0, none⟩), .string s, .int .i64 z] W fun e w' => e = .returned (.pointer (some ⟨ga, gi, none⟩)) ∧ w' = W) (hga : w.cell? ⟨ga, gi, none⟩ = some (.int .i64 x)) (hgz : w.frozen? ⟨ga, gi, none⟩ = false) :
  Calls Tryz.prog 77 #[.pointer (some ⟨rb, 0, none⟩), .agg #[.int .i64 6, .int .i64 d, .int .i64 a, .int .i64 b, .int .i64 op, .int .i64 n, .string s, .slice Aa la ca]] w (fun e w' => e = .returned (.tuple #[]) ∧ ∃ w1, w.grownBy w1 none ∧ w' = w1.setCell ⟨ga, gi, none⟩ (.int .i64 z2)) := by
 have HT := Lib.hid (fun (W : World) (hb : Below w.heap.size w W) => top_any base rb k cap g cb va vf vm vin vout st co sp bs W hk ⟨h.blk.below hb h.blk.lt⟩ (hr.kept (grown_below' (row := none) hb) (Classical.em _)) hm)
 have HC := Lib.hid hc
 have HRB := Lib.hid h
 have hrb0 := h.blk.lt
 have hcl := hc.blk.lt
 have hvl : vb < w.heap.size := World.block_lt_of_cell? w _ hva
 have hgl : ga < w.heap.size := World.block_lt_of_cell? w _ hga
 clear h hr hc hk
 go_enter Tryz.func77, Tryz.ntmps77
 go_upto_region 2 with (go_at_call 75; refine (HT.out _ (below1 _ _)).mono ?_; rintro e w' ⟨rfl, kk, rfl⟩)
 refine wp_world ?_
 intro W hW
 have hb : Below w.heap.size w W := by rw [← hW]; exact below_drewN (below1 _ _) _
 have hx : Blk W w.heap.size 44 #[.int .i64 6, .int .i64 d, .int .i64 a, .int .i64 b, .int .i64 op, .int .i64 n, .string s, .slice Aa la ca] := by rw [← hW]; exact Blk.new w _ _
 clear hW
 have x0 : W.cell? ⟨w.heap.size, 0, none⟩ = some (.int .i64 6) := hx.cell 0
 have x1 : W.cell? ⟨w.heap.size, 1, none⟩ = some (.int .i64 d) := hx.cell 1
 have x2 : W.cell? ⟨w.heap.size, 2, none⟩ = some (.int .i64 a) := hx.cell 2
 have x3 : W.cell? ⟨w.heap.size, 3, none⟩ = some (.int .i64 b) := hx.cell 3
 have x4 : W.cell? ⟨w.heap.size, 4, none⟩ = some (.int .i64 op) := hx.cell 4
 have x5 : W.cell? ⟨w.heap.size, 5, none⟩ = some (.int .i64 n) := hx.cell 5
 have x6 : W.cell? ⟨w.heap.size, 6, none⟩ = some (.string s) := hx.cell 6
 have x7 : W.cell? ⟨w.heap.size, 7, none⟩ = some (.slice Aa la ca) := hx.cell 7
 have y4 : W.cell? ⟨cb, 4, none⟩ = some (.slice (some ⟨vb, 0, none⟩) m m) := (HC.out.blk.below hb hcl).cell 4
 have va' : W.cell? ⟨vb, a.toNat, none⟩ = some (.int .i64 z) := (hb.cell (p := ⟨vb, a.toNat, none⟩) hvl).trans hva
 have vb' : W.cell? ⟨vb, b.toNat, none⟩ = some (.int .i64 z2) := (hb.cell (p := ⟨vb, b.toNat, none⟩) hvl).trans hvb
 have hxl : w.heap.size < W.heap.size := hx.lt
 have hvW : vb < W.heap.size := Nat.lt_of_lt_of_le hvl hb.size
 have HB := Lib.hid hb
 have HX := Lib.hid hx
 have SO := Lib.hid (fun (w2 : World) (hb2 : Below W.heap.size W w2) => (⟨(hb2.cell (p := ⟨w.heap.size, 1, none⟩) hxl).trans x1, (hb2.cell (p := ⟨w.heap.size, 2, none⟩) hxl).trans x2, (hb2.cell (p := ⟨w.heap.size, 3, none⟩) hxl).trans x3, (hb2.cell (p := ⟨w.heap.size, 4, none⟩) hxl).trans x4, (hb2.cell (p := ⟨w.heap.size, 5, none⟩) hxl).trans x5, (hb2.cell (p := ⟨w.heap.size, 6, none⟩) hxl).trans x6, (hb2.cell (p := ⟨vb, a.toNat, none⟩) hvW).trans va', (hb2.cell (p := ⟨vb, b.toNat, none⟩) hvW).trans vb'⟩ : (fun w2 => w2.cell? ⟨w.heap.size, 1, none⟩ = some (.int .i64 d) ∧ w2.cell? ⟨w.heap.size, 2, none⟩ = some (.int .i64 a) ∧ w2.cell? ⟨w.heap.size, 3, none⟩ = some (.int .i64 b) ∧ w2.cell? ⟨w.heap.size, 4, none⟩ = some (.int .i64 op) ∧ w2.cell? ⟨w.heap.size, 5, none⟩ = some (.int .i64 n) ∧ w2.cell? ⟨w.heap.size, 6, none⟩ = some (.string s) ∧ w2.cell? ⟨vb, a.toNat, none⟩ = some (.int .i64 z) ∧ w2.cell? ⟨vb, b.toNat, none⟩ = some (.int .i64 z2)) w2))
 clear hb hx HC HT hva va' hvb vb'
 go_upto_region 20 with fail
 clear x1 x2 x3 x4 x5 x6 x7 y4
 have HE := Lib.hid (hel W.drew (grown_below' HB.out.drew))
 refine wp_region_L (by kernel_rfl) 9 (fun w2 => w2.cell? ⟨w.heap.size, 1, none⟩ = some (.int .i64 d) ∧ w2.cell? ⟨w.heap.size, 2, none⟩ = some (.int .i64 a) ∧ w2.cell? ⟨w.heap.size, 3, none⟩ = some (.int .i64 b) ∧ w2.cell? ⟨w.heap.size, 4, none⟩ = some (.int .i64 op) ∧ w2.cell? ⟨w.heap.size, 5, none⟩ = some (.int .i64 n) ∧ w2.cell? ⟨w.heap.size, 6, none⟩ = some (.string s) ∧ w2.cell? ⟨vb, a.toNat, none⟩ = some (.int .i64 z) ∧ w2.cell? ⟨vb, b.toNat, none⟩ = some (.int .i64 z2)) (SO.out _ (Below.refl _ _).drew) (fun hHeld => ?_)
 have HS0 := Lib.hid hHeld
 clear hHeld
 change wpAnyL _ _ _ _ _ 9 10 (Array.replicate 10 false) _ _
 refine tL 0 103 (.pointer (some ⟨rb, 0, none⟩)) HS0.out rfl rfl ?_ ?_
 ·intro w2; go_simp
 simp only [setIfInBounds_toArray, set_cons_zero, set_cons_succ]
 refine tL 1 104 (.pointer (some ⟨w.heap.size, 6, none⟩)) HS0.out rfl rfl ?_ ?_
 ·intro w2; go_simp
 simp only [setIfInBounds_toArray, set_cons_zero, set_cons_succ]
 refine tS 2 105 (.string s) [9] HS0.out rfl rfl ?_ ?_
 ·intro w2 hSw; obtain ⟨g0, g1, g2, g3, g4, g5, g6, g7⟩ := hSw; go_simp
 simp only [setIfInBounds_toArray, set_cons_zero, set_cons_succ]
 refine tL 3 106 (.slice (some ⟨vb, 0, none⟩) m m) HS0.out rfl rfl ?_ ?_
 ·intro w2; go_simp
 simp only [setIfInBounds_toArray, set_cons_zero, set_cons_succ]
 refine tL 4 107 (.pointer (some ⟨w.heap.size, 2, none⟩)) HS0.out rfl rfl ?_ ?_
 ·intro w2; go_simp
 simp only [setIfInBounds_toArray, set_cons_zero, set_cons_succ]
 refine tS 5 108 (.int .i64 a) [9] HS0.out rfl rfl ?_ ?_
 ·intro w2 hSw; obtain ⟨g0, g1, g2, g3, g4, g5, g6, g7⟩ := hSw; go_simp
 simp only [setIfInBounds_toArray, set_cons_zero, set_cons_succ]
 refine tL 6 109 (.pointer (some ⟨vb, a.toNat, none⟩)) HS0.out rfl rfl ?_ ?_
 ·intro w2; go_simp
 simp only [setIfInBounds_toArray, set_cons_zero, set_cons_succ]
 refine tS 7 110 (.int .i64 z) [9] HS0.out rfl rfl ?_ ?_
 ·intro w2 hSw; obtain ⟨g0, g1, g2, g3, g4, g5, g6, g7⟩ := hSw; go_simp
 simp only [setIfInBounds_toArray, set_cons_zero, set_cons_succ]
 refine wpAnyL_ready (rs := [8]) (by kernel_rfl) (by simp) ?_
 refine AllReadyL.cons rfl (fun K hK => ?_) AllReadyL.nil
 go_simp
 refine HE.out.mono ?_
 rintro e w4 ⟨rfl, rfl⟩
 refine hK.out _ _ (SO.out _ (Below.refl _ _).drew) (fun hHeld => ?_)
 have HS1 := Lib.hid hHeld
 clear hK K hHeld
 try simp only [setIfInBounds_toArray, set_cons_zero, set_cons_succ]
 refine wpAnyL_ready (rs := [9]) (by kernel_rfl) (by simp) ?_
 refine AllReadyL.last rfl (by kernel_rfl) (fun K hK => ?_)
 go_simp
 refine hK.out _ _ ?_
 clear hK K
 try simp only [setIfInBounds_toArray, set_cons_zero, set_cons_succ]
 refine wpAnyL_done (by kernel_rfl) ?_ _
 generalize hWd : W.drew = W2 at *
 have HB2 := Lib.hid (show Below w.heap.size w W2 from by rw [← hWd]; exact HB.out.drew)
 obtain ⟨_, _, x3, _, _, _, _, vb4⟩ := SO.out W2 (by rw [← hWd]; exact (Below.refl _ _).drew)
 have ga4 : W2.cell? ⟨ga, gi, none⟩ = some (.int .i64 x) := (HB2.out.cell (p := ⟨ga, gi, none⟩) hgl).trans hga
 have gz4 : W2.frozen? ⟨ga, gi, none⟩ = false := (HB2.out.frozen (p := ⟨ga, gi, none⟩) hgl).trans hgz
 clear hWd hga hgz
 go_wp2
 go_end0
 exact ⟨rfl, W2, (grown_below' HB2.out), rfl⟩
theorem ins_store_out (base rb k cap g cb : Nat) (va vf vm vin vout : Value) (st co sp : Int) (bs : List Nat) (nm : ByteArray) (pr vl : Int) (vfl : Value) (vb m : Nat) (bl at_ into d a b op n z : Int) (s : ByteArray) (Aa : Option Addr) (la ca : Nat) (w : World) (hk : k = bs.length + 1) (h : RunBlk w rb va vf vm vin (.slice (some ⟨g, 0, none⟩) k cap) st co vout sp) (hr : w.ownsRow base 124 1 (.slice (some ⟨g, 0, none⟩) k cap) k ((cb :: bs).reverse.map fun b => .pointer (some ⟨b, 0, none⟩))) (hm : k ≤ maxLen)
  (hc : CallBlk w cb nm pr vl vfl (.slice (some ⟨vb, 0, none⟩) m m) bl at_ into) (ha0 : 0 ≤ a) (ha1 : a < (m : Int)) (hva : w.cell? ⟨vb, a.toNat, none⟩ = some (.int .i64 z)) (hel : ∀ W, w.grownBy W none → Calls Tryz.prog 105 #[.pointer (some ⟨rb, 0, none⟩), .string s, .int .i64 z] W fun e w' => e = .returned (.pointer none) ∧ RunBlk w' rb va vf vm vin (.slice (some ⟨g, 0, none⟩) k cap) 3 0 vout sp ∧ W.grownBy w' (some rb)) (hvr : vb ≠ rb) :
  Calls Tryz.prog 77 #[.pointer (some ⟨rb, 0, none⟩), .agg #[.int .i64 6, .int .i64 d, .int .i64 a, .int .i64 b, .int .i64 op, .int .i64 n, .string s, .slice Aa la ca]] w (fun e w' => e = .returned (.tuple #[]) ∧ RunBlk w' rb va vf vm vin (.slice (some ⟨g, 0, none⟩) k cap) 3 0 vout sp ∧ w.grownBy w' (some rb)) := by
 have HT := Lib.hid (fun (W : World) (hb : Below w.heap.size w W) => top_any base rb k cap g cb va vf vm vin vout st co sp bs W hk ⟨h.blk.below hb h.blk.lt⟩ (hr.kept (grown_below' (row := none) hb) (Classical.em _)) hm)
 have HC := Lib.hid hc
 have HRB := Lib.hid h
 have hrb0 := h.blk.lt
 have hcl := hc.blk.lt
 have hvl : vb < w.heap.size := World.block_lt_of_cell? w _ hva
 clear h hr hc hk
 go_enter Tryz.func77, Tryz.ntmps77
 go_upto_region 2 with (go_at_call 75; refine (HT.out _ (below1 _ _)).mono ?_; rintro e w' ⟨rfl, kk, rfl⟩)
 refine wp_world ?_
 intro W hW
 have hb : Below w.heap.size w W := by rw [← hW]; exact below_drewN (below1 _ _) _
 have hx : Blk W w.heap.size 44 #[.int .i64 6, .int .i64 d, .int .i64 a, .int .i64 b, .int .i64 op, .int .i64 n, .string s, .slice Aa la ca] := by rw [← hW]; exact Blk.new w _ _
 clear hW
 have x0 : W.cell? ⟨w.heap.size, 0, none⟩ = some (.int .i64 6) := hx.cell 0
 have x1 : W.cell? ⟨w.heap.size, 1, none⟩ = some (.int .i64 d) := hx.cell 1
 have x2 : W.cell? ⟨w.heap.size, 2, none⟩ = some (.int .i64 a) := hx.cell 2
 have x3 : W.cell? ⟨w.heap.size, 3, none⟩ = some (.int .i64 b) := hx.cell 3
 have x4 : W.cell? ⟨w.heap.size, 4, none⟩ = some (.int .i64 op) := hx.cell 4
 have x5 : W.cell? ⟨w.heap.size, 5, none⟩ = some (.int .i64 n) := hx.cell 5
 have x6 : W.cell? ⟨w.heap.size, 6, none⟩ = some (.string s) := hx.cell 6
 have x7 : W.cell? ⟨w.heap.size, 7, none⟩ = some (.slice Aa la ca) := hx.cell 7
 have y4 : W.cell? ⟨cb, 4, none⟩ = some (.slice (some ⟨vb, 0, none⟩) m m) := (HC.out.blk.below hb hcl).cell 4
 have va' : W.cell? ⟨vb, a.toNat, none⟩ = some (.int .i64 z) := (hb.cell (p := ⟨vb, a.toNat, none⟩) hvl).trans hva
 have hxl : w.heap.size < W.heap.size := hx.lt
 have hvW : vb < W.heap.size := Nat.lt_of_lt_of_le hvl hb.size
 have HB := Lib.hid hb
 have HX := Lib.hid hx
 have SO := Lib.hid (fun (w2 : World) (hb2 : Below W.heap.size W w2) => (⟨(hb2.cell (p := ⟨w.heap.size, 1, none⟩) hxl).trans x1, (hb2.cell (p := ⟨w.heap.size, 2, none⟩) hxl).trans x2, (hb2.cell (p := ⟨w.heap.size, 3, none⟩) hxl).trans x3, (hb2.cell (p := ⟨w.heap.size, 4, none⟩) hxl).trans x4, (hb2.cell (p := ⟨w.heap.size, 5, none⟩) hxl).trans x5, (hb2.cell (p := ⟨w.heap.size, 6, none⟩) hxl).trans x6, (hb2.cell (p := ⟨vb, a.toNat, none⟩) hvW).trans va'⟩ : (fun w2 => w2.cell? ⟨w.heap.size, 1, none⟩ = some (.int .i64 d) ∧ w2.cell? ⟨w.heap.size, 2, none⟩ = some (.int .i64 a) ∧ w2.cell? ⟨w.heap.size, 3, none⟩ = some (.int .i64 b) ∧ w2.cell? ⟨w.heap.size, 4, none⟩ = some (.int .i64 op) ∧ w2.cell? ⟨w.heap.size, 5, none⟩ = some (.int .i64 n) ∧ w2.cell? ⟨w.heap.size, 6, none⟩ = some (.string s) ∧ w2.cell? ⟨vb, a.toNat, none⟩ = some (.int .i64 z)) w2))
 clear hb hx HC HT hva va'
 go_upto_region 20 with fail
 clear x1 x2 x3 x4 x5 x6 x7 y4
 have HE := Lib.hid (hel W.drew (grown_below' HB.out.drew))
 refine wp_region_L (by kernel_rfl) 9 (fun w2 => w2.cell? ⟨w.heap.size, 1, none⟩ = some (.int .i64 d) ∧ w2.cell? ⟨w.heap.size, 2, none⟩ = some (.int .i64 a) ∧ w2.cell? ⟨w.heap.size, 3, none⟩ = some (.int .i64 b) ∧ w2.cell? ⟨w.heap.size, 4, none⟩ = some (.int .i64 op) ∧ w2.cell? ⟨w.heap.size, 5, none⟩ = some (.int .i64 n) ∧ w2.cell? ⟨w.heap.size, 6, none⟩ = some (.string s) ∧ w2.cell? ⟨vb, a.toNat, none⟩ = some (.int .i64 z)) (SO.out _ (Below.refl _ _).drew) (fun hHeld => ?_)
 have HS0 := Lib.hid hHeld
 clear hHeld
 change wpAnyL _ _ _ _ _ 9 10 (Array.replicate 10 false) _ _
 refine tL 0 103 (.pointer (some ⟨rb, 0, none⟩)) HS0.out rfl rfl ?_ ?_
 ·intro w2; go_simp
 simp only [setIfInBounds_toArray, set_cons_zero, set_cons_succ]
 refine tL 1 104 (.pointer (some ⟨w.heap.size, 6, none⟩)) HS0.out rfl rfl ?_ ?_
 ·intro w2; go_simp
 simp only [setIfInBounds_toArray, set_cons_zero, set_cons_succ]
 refine tS 2 105 (.string s) [9] HS0.out rfl rfl ?_ ?_
 ·intro w2 hSw; obtain ⟨g0, g1, g2, g3, g4, g5, g6⟩ := hSw; go_simp
 simp only [setIfInBounds_toArray, set_cons_zero, set_cons_succ]
 refine tL 3 106 (.slice (some ⟨vb, 0, none⟩) m m) HS0.out rfl rfl ?_ ?_
 ·intro w2; go_simp
 simp only [setIfInBounds_toArray, set_cons_zero, set_cons_succ]
 refine tL 4 107 (.pointer (some ⟨w.heap.size, 2, none⟩)) HS0.out rfl rfl ?_ ?_
 ·intro w2; go_simp
 simp only [setIfInBounds_toArray, set_cons_zero, set_cons_succ]
 refine tS 5 108 (.int .i64 a) [9] HS0.out rfl rfl ?_ ?_
 ·intro w2 hSw; obtain ⟨g0, g1, g2, g3, g4, g5, g6⟩ := hSw; go_simp
 simp only [setIfInBounds_toArray, set_cons_zero, set_cons_succ]
 refine tL 6 109 (.pointer (some ⟨vb, a.toNat, none⟩)) HS0.out rfl rfl ?_ ?_
 ·intro w2; go_simp
 simp only [setIfInBounds_toArray, set_cons_zero, set_cons_succ]
 refine tS 7 110 (.int .i64 z) [9] HS0.out rfl rfl ?_ ?_
 ·intro w2 hSw; obtain ⟨g0, g1, g2, g3, g4, g5, g6⟩ := hSw; go_simp
 simp only [setIfInBounds_toArray, set_cons_zero, set_cons_succ]
 refine wpAnyL_ready (rs := [8]) (by kernel_rfl) (by simp) ?_
 refine AllReadyL.cons rfl (fun K hK => ?_) AllReadyL.nil
 go_simp
 refine HE.out.mono ?_
 rintro e w4 ⟨rfl, hb4, hg4⟩
 have hS4 : (fun w2 => w2.cell? ⟨w.heap.size, 1, none⟩ = some (.int .i64 d) ∧ w2.cell? ⟨w.heap.size, 2, none⟩ = some (.int .i64 a) ∧ w2.cell? ⟨w.heap.size, 3, none⟩ = some (.int .i64 b) ∧ w2.cell? ⟨w.heap.size, 4, none⟩ = some (.int .i64 op) ∧ w2.cell? ⟨w.heap.size, 5, none⟩ = some (.int .i64 n) ∧ w2.cell? ⟨w.heap.size, 6, none⟩ = some (.string s) ∧ w2.cell? ⟨vb, a.toNat, none⟩ = some (.int .i64 z)) w4 := by
  obtain ⟨g0, g1, g2, g3, g4, g5, g6⟩ := SO.out _ (Below.refl W.heap.size W).drew
  have hx5 : w.heap.size < W.drew.heap.size := hxl
  have hv5 : vb < W.drew.heap.size := hvW
  exact ⟨(World.cell?_of_block (w := W.drew) (w' := w4) (a := ⟨w.heap.size, 1, none⟩) (hg4.block _ hx5 (fun e => (fun e2 => absurd e2 (Nat.ne_of_gt hrb0)) (Option.some.inj e)))).trans g0, (World.cell?_of_block (w := W.drew) (w' := w4) (a := ⟨w.heap.size, 2, none⟩) (hg4.block _ hx5 (fun e => (fun e2 => absurd e2 (Nat.ne_of_gt hrb0)) (Option.some.inj e)))).trans g1, (World.cell?_of_block (w := W.drew) (w' := w4) (a := ⟨w.heap.size, 3, none⟩) (hg4.block _ hx5 (fun e => (fun e2 => absurd e2 (Nat.ne_of_gt hrb0)) (Option.some.inj e)))).trans g2, (World.cell?_of_block (w := W.drew) (w' := w4) (a := ⟨w.heap.size, 4, none⟩) (hg4.block _ hx5 (fun e => (fun e2 => absurd e2 (Nat.ne_of_gt hrb0)) (Option.some.inj e)))).trans g3, (World.cell?_of_block (w := W.drew) (w' := w4) (a := ⟨w.heap.size, 5, none⟩) (hg4.block _ hx5 (fun e => (fun e2 => absurd e2 (Nat.ne_of_gt hrb0)) (Option.some.inj e)))).trans g4, (World.cell?_of_block (w := W.drew) (w' := w4) (a := ⟨w.heap.size, 6, none⟩) (hg4.block _ hx5 (fun e => (fun e2 => absurd e2 (Nat.ne_of_gt hrb0)) (Option.some.inj e)))).trans g5, (World.cell?_of_block (w := W.drew) (w' := w4) (a := ⟨vb, a.toNat, none⟩) (hg4.block _ hv5 (fun e => hvr (Option.some.inj e)))).trans g6⟩
 have HB4 := Lib.hid hb4
 have HG4 := Lib.hid hg4
 clear hb4 hg4
 refine hK.out _ _ (hS4) (fun hHeld => ?_)
 have HS1 := Lib.hid hHeld
 clear hK K hHeld
 try simp only [setIfInBounds_toArray, set_cons_zero, set_cons_succ]
 refine wpAnyL_ready (rs := [9]) (by kernel_rfl) (by simp) ?_
 refine AllReadyL.last rfl (by kernel_rfl) (fun K hK => ?_)
 go_simp
 refine hK.out _ _ ?_
 clear hK K
 try simp only [setIfInBounds_toArray, set_cons_zero, set_cons_succ]
 refine wpAnyL_done (by kernel_rfl) ?_ _
 go_wp2
 go_end0
 exact ⟨rfl, HB4.out, (grown_below' HB.out.drew).trans HG4.out⟩
theorem ins_print (base rb k cap g cb : Nat) (va vf vm vin vout : Value) (st co sp : Int) (bs : List Nat) (nm : ByteArray) (pr vl : Int) (vfl : Value) (vb m : Nat) (bl at_ into d a b op n z : Int) (s : ByteArray) (Aa : Option Addr) (la ca : Nat) (no : Nat) (xs : List Value) (w : World) (hk : k = bs.length + 1) (h : RunBlk w rb va vf vm vin (.slice (some ⟨g, 0, none⟩) k cap) st co vout sp) (hr : w.ownsRow base 124 1 (.slice (some ⟨g, 0, none⟩) k cap) k ((cb :: bs).reverse.map fun b => .pointer (some ⟨b, 0, none⟩))) (hm : k ≤ maxLen)
  (hc : CallBlk w cb nm pr vl vfl (.slice (some ⟨vb, 0, none⟩) m m) bl at_ into) (ha0 : 0 ≤ a) (ha1 : a < (m : Int)) (hva : w.cell? ⟨vb, a.toNat, none⟩ = some (.int .i64 z)) (hro : w.ownsRow base 3 1 vout no xs) (hno : no ≤ 100000) (hbw : base ≤ w.heap.size) (hov : vout.ownBlock ≠ some vb) :
  Calls Tryz.prog 77 #[.pointer (some ⟨rb, 0, none⟩), .agg #[.int .i64 8, .int .i64 d, .int .i64 a, .int .i64 b, .int .i64 op, .int .i64 n, .string s, .slice Aa la ca]] w (fun e w' => e = .returned (.tuple #[]) ∧ ∃ g' cap', RunBlk w' rb va vf vm vin (.slice (some ⟨g, 0, none⟩) k cap) st co (.slice (some ⟨g', 0, none⟩) (no + 1) cap') sp ∧ w'.ownsRow base 3 1 (.slice (some ⟨g', 0, none⟩) (no + 1) cap') (no + 1) (xs ++ [.int .i64 z]) ∧ (vout.ownBlock = some g' ∨ w.heap.size ≤ g') ∧ Chg w w' (fun b => b = rb ∨ vout.ownBlock = some b)) := by
 have HT := Lib.hid (fun (W : World) (hb : Below w.heap.size w W) => top_any base rb k cap g cb va vf vm vin vout st co sp bs W hk ⟨h.blk.below hb h.blk.lt⟩ (hr.kept (grown_below' (row := none) hb) (Classical.em _)) hm)
 have HC := Lib.hid hc
 have HRB := Lib.hid h
 have hrb0 := h.blk.lt
 have hcl := hc.blk.lt
 have hvl : vb < w.heap.size := World.block_lt_of_cell? w _ hva
 clear h hr hc hk
 go_enter Tryz.func77, Tryz.ntmps77
 go_upto_region 2 with (go_at_call 75; refine (HT.out _ (below1 _ _)).mono ?_; rintro e w' ⟨rfl, kk, rfl⟩)
 refine wp_world ?_
 intro W hW
 have hb : Below w.heap.size w W := by rw [← hW]; exact below_drewN (below1 _ _) _
 have hx : Blk W w.heap.size 44 #[.int .i64 8, .int .i64 d, .int .i64 a, .int .i64 b, .int .i64 op, .int .i64 n, .string s, .slice Aa la ca] := by rw [← hW]; exact Blk.new w _ _
 clear hW
 have x0 : W.cell? ⟨w.heap.size, 0, none⟩ = some (.int .i64 8) := hx.cell 0
 have x1 : W.cell? ⟨w.heap.size, 1, none⟩ = some (.int .i64 d) := hx.cell 1
 have x2 : W.cell? ⟨w.heap.size, 2, none⟩ = some (.int .i64 a) := hx.cell 2
 have x3 : W.cell? ⟨w.heap.size, 3, none⟩ = some (.int .i64 b) := hx.cell 3
 have x4 : W.cell? ⟨w.heap.size, 4, none⟩ = some (.int .i64 op) := hx.cell 4
 have x5 : W.cell? ⟨w.heap.size, 5, none⟩ = some (.int .i64 n) := hx.cell 5
 have x6 : W.cell? ⟨w.heap.size, 6, none⟩ = some (.string s) := hx.cell 6
 have x7 : W.cell? ⟨w.heap.size, 7, none⟩ = some (.slice Aa la ca) := hx.cell 7
 have y4 : W.cell? ⟨cb, 4, none⟩ = some (.slice (some ⟨vb, 0, none⟩) m m) := (HC.out.blk.below hb hcl).cell 4
 have va' : W.cell? ⟨vb, a.toNat, none⟩ = some (.int .i64 z) := (hb.cell (p := ⟨vb, a.toNat, none⟩) hvl).trans hva
 have hxl : w.heap.size < W.heap.size := hx.lt
 have hvW : vb < W.heap.size := Nat.lt_of_lt_of_le hvl hb.size
 have HB := Lib.hid hb
 have HX := Lib.hid hx
 obtain ⟨Ao, cw, hvo⟩ := own_form hro
 subst hvo
 have hrW : W.ownsRow base 3 1 (.slice Ao no cw) no xs := hro.kept (grown_below' (row := none) hb) (Classical.em _)
 have hbR : RunBlk W rb va vf vm vin (.slice (some ⟨g, 0, none⟩) k cap) st co (.slice Ao no cw) sp := ⟨HRB.out.blk.below hb hrb0⟩
 have p7 : W.cell? ⟨rb, 7, none⟩ = some (.slice Ao no cw) := hbR.blk.cell 7
 have lrW : rb < W.heap.size := hbR.blk.lt
 have hbx : (Value.slice Ao no cw).ownBlock ≠ some w.heap.size := fun e => by have := (hro.lt _ e).2; omega
 have hbr : (Value.slice Ao no cw).ownBlock ≠ some rb := (own_ne hrW hbR.blk (by decide)).symm
 have SO := Lib.hid (fun (w2 : World) (hb2 : w2.heap[rb]? = W.heap[rb]? ∧ w2.heap[w.heap.size]? = W.heap[w.heap.size]? ∧ w2.heap[vb]? = W.heap[vb]?) => (⟨(World.cell?_of_block (w := W) (w' := w2) (a := ⟨rb, 7, none⟩) hb2.1).trans p7, (World.cell?_of_block (w := W) (w' := w2) (a := ⟨w.heap.size, 2, none⟩) hb2.2.1).trans x2, (World.cell?_of_block (w := W) (w' := w2) (a := ⟨vb, a.toNat, none⟩) hb2.2.2).trans va'⟩ : (fun w2 => w2.cell? ⟨rb, 7, none⟩ = some (.slice Ao no cw) ∧ w2.cell? ⟨w.heap.size, 2, none⟩ = some (.int .i64 a) ∧ w2.cell? ⟨vb, a.toNat, none⟩ = some (.int .i64 z)) w2))
 have HRW := Lib.hid hrW
 have HBR := Lib.hid hbR
 have HRO := Lib.hid hro
 have hbs := hb.size
 have f7 := hbR.blk.frozen 7
 obtain ⟨z0, hi0, hz0, hz1, hz2⟩ := info_parts info_int1
 clear hrW hbR p7 hro
 clear hb hx HC HT hva va'
 go_upto_region 26 with fail
 clear x1 x2 x3 x4 x5 x6 x7 y4
 refine wp_region_L (by kernel_rfl) 16 (fun w2 => w2.cell? ⟨rb, 7, none⟩ = some (.slice Ao no cw) ∧ w2.cell? ⟨w.heap.size, 2, none⟩ = some (.int .i64 a) ∧ w2.cell? ⟨vb, a.toNat, none⟩ = some (.int .i64 z)) (SO.out _ ⟨rfl, rfl, rfl⟩) (fun hHeld => ?_)
 have HS0 := Lib.hid hHeld
 clear hHeld
 change wpAnyL _ _ _ _ _ 16 17 (Array.replicate 17 false) _ _
 refine tL 0 131 (.pointer (some ⟨rb, 0, none⟩)) HS0.out rfl rfl ?_ ?_
 ·intro w2; go_simp
 simp only [setIfInBounds_toArray, set_cons_zero, set_cons_succ]
 refine tL 1 132 (.pointer (some ⟨rb, 0, none⟩)) HS0.out rfl rfl ?_ ?_
 ·intro w2; go_simp
 simp only [setIfInBounds_toArray, set_cons_zero, set_cons_succ]
 refine tL 2 133 (.pointer (some ⟨rb, 0, none⟩)) HS0.out rfl rfl ?_ ?_
 ·intro w2; go_simp
 simp only [setIfInBounds_toArray, set_cons_zero, set_cons_succ]
 refine tL 3 134 (.pointer (some ⟨rb, 5, none⟩)) HS0.out rfl rfl ?_ ?_
 ·intro w2; go_simp
 simp only [setIfInBounds_toArray, set_cons_zero, set_cons_succ]
 refine tL 4 135 (.pointer (some ⟨rb, 7, none⟩)) HS0.out rfl rfl ?_ ?_
 ·intro w2; go_simp
 simp only [setIfInBounds_toArray, set_cons_zero, set_cons_succ]
 refine tS 5 136 (.slice Ao no cw) [16] HS0.out rfl rfl ?_ ?_
 ·intro w2 hSw; obtain ⟨g0, g1, g2⟩ := hSw; go_simp
 simp only [setIfInBounds_toArray, set_cons_zero, set_cons_succ]
 refine tL 6 137 (.slice (some ⟨vb, 0, none⟩) m m) HS0.out rfl rfl ?_ ?_
 ·intro w2; go_simp
 simp only [setIfInBounds_toArray, set_cons_zero, set_cons_succ]
 refine tL 7 138 (.pointer (some ⟨w.heap.size, 2, none⟩)) HS0.out rfl rfl ?_ ?_
 ·intro w2; go_simp
 simp only [setIfInBounds_toArray, set_cons_zero, set_cons_succ]
 refine tS 8 139 (.int .i64 a) [16] HS0.out rfl rfl ?_ ?_
 ·intro w2 hSw; obtain ⟨g0, g1, g2⟩ := hSw; go_simp
 simp only [setIfInBounds_toArray, set_cons_zero, set_cons_succ]
 refine tL 9 140 (.pointer (some ⟨vb, a.toNat, none⟩)) HS0.out rfl rfl ?_ ?_
 ·intro w2; go_simp
 simp only [setIfInBounds_toArray, set_cons_zero, set_cons_succ]
 refine tS 10 141 (.int .i64 z) [16] HS0.out rfl rfl ?_ ?_
 ·intro w2 hSw; obtain ⟨g0, g1, g2⟩ := hSw; go_simp
 simp only [setIfInBounds_toArray, set_cons_zero, set_cons_succ]
 refine wpAnyL_ready (rs := [11]) (by kernel_rfl) (by simp) ?_
 refine AllReadyL.cons rfl (fun K hK => ?_) AllReadyL.nil
 go_simp
 refine hK.out _ _ (SO.out _ ⟨Below.heap_alloc W _ rb lrW, Below.heap_alloc W _ _ hxl, Below.heap_alloc W _ vb hvW⟩) (fun hHeld => ?_)
 have HS1 := Lib.hid hHeld
 clear hK K hHeld
 try simp only [setIfInBounds_toArray, set_cons_zero, set_cons_succ]
 have hnew : Blk (W.alloc (.cells #[.int .i64 z] 3)).drew W.heap.size 3 #[.int .i64 z] := Blk.drew (Blk.new W _ _)
 have hb3 : Below W.heap.size W (W.alloc (.cells #[.int .i64 z] 3)).drew := ((Below.refl _ _).alloc (Nat.le_refl _) _).drew
 generalize (W.alloc (.cells #[.int .i64 z] 3)).drew = w3 at *
 have HB3 := Lib.hid hb3
 have hs3 := hb3.size
 have hr3 := HRW.out.kept (grown_below' (row := none) hb3) (Classical.em _)
 have hbase3 : base ≤ w3.heap.size := by omega
 clear hb3
 refine wpAnyL_ready (rs := [12]) (by kernel_rfl) (by simp) ?_
 refine AllReadyL.cons rfl (fun K hK => ?_) AllReadyL.nil
 refine step_append_lies _ (by rfl) _ _ _ (by rfl) base 3 z0 _ 1 8 Tryz.underlying38 hi0 hz0 hz1 hz2 rfl (by omega) (.slice Ao no cw) no xs (by rfl) hr3 ⟨W.heap.size, 0, none⟩ 1 1 [.int .i64 z] (by rfl) (by rfl) (World.news_of_block hnew) (by simp [Value.oneCell']) (by omega) (by unfold maxLen; omega) (by omega) hbase3 w3.heap.size rfl ?_
 intro g' cap' w4 hown4 hgrow hat hlt4
 have hrb4 : w4.heap[rb]? = W.heap[rb]? := (hgrow.block rb (Nat.lt_of_lt_of_le lrW hs3) hbr.symm).trans (HB3.out.block rb lrW)
 have hx4 : w4.heap[w.heap.size]? = W.heap[w.heap.size]? := (hgrow.block _ (Nat.lt_of_lt_of_le hxl hs3) hbx.symm).trans (HB3.out.block _ hxl)
 have hv4 : w4.heap[vb]? = W.heap[vb]? := (hgrow.block _ (Nat.lt_of_lt_of_le hvW hs3) hov.symm).trans (HB3.out.block _ hvW)
 have HRB4 := Lib.hid hrb4
 have HG4 := Lib.hid hgrow
 have HOWN4 := Lib.hid hown4
 have HAT := Lib.hid hat
 refine hK.out _ _ (SO.out _ ⟨hrb4, hx4, hv4⟩) (fun hHeld => ?_)
 have HS2 := Lib.hid hHeld
 clear hK K hHeld
 try simp only [setIfInBounds_toArray, set_cons_zero, set_cons_succ]
 refine tL 13 144 (.pointer (some ⟨rb, 0, none⟩)) HS2.out rfl rfl ?_ ?_
 ·intro w2; go_simp
 simp only [setIfInBounds_toArray, set_cons_zero, set_cons_succ]
 refine tL 14 145 (.pointer (some ⟨rb, 5, none⟩)) HS2.out rfl rfl ?_ ?_
 ·intro w2; go_simp
 simp only [setIfInBounds_toArray, set_cons_zero, set_cons_succ]
 refine tL 15 146 (.pointer (some ⟨rb, 7, none⟩)) HS2.out rfl rfl ?_ ?_
 ·intro w2; go_simp
 simp only [setIfInBounds_toArray, set_cons_zero, set_cons_succ]
 have hh4 : RunBlk w4 rb va vf vm vin (.slice (some ⟨g, 0, none⟩) k cap) st co (.slice Ao no cw) sp := ⟨HBR.out.blk.keep HRB4.out⟩
 have HH4 := Lib.hid hh4
 have k4 : w4.cell? ⟨rb, 7, none⟩ = some (.slice Ao no cw) := hh4.blk.cell 7
 have f4 := hh4.blk.frozen 7
 clear hh4 hown4 hgrow hat hnew hr3 hx4 hv4 hrb4 f7
 refine wpAnyL_ready (rs := [16]) (by kernel_rfl) (by simp) ?_
 refine AllReadyL.last rfl (by kernel_rfl) (fun K hK => ?_)
 go_simp
 refine hK.out _ _ ?_
 clear hK K
 try simp only [setIfInBounds_toArray, set_cons_zero, set_cons_succ]
 refine wpAnyL_done (by kernel_rfl) ?_ _
 go_wp2
 go_end0
 have hgne : ∀ g2, (Value.slice (some ⟨g', 0, none⟩) (no + 1) cap').ownBlock = some g2 → g2 ≠ rb := fun g2 e e' => own_ne HOWN4.out HH4.out.blk (by decide) (by rw [e, e'])
 refine ⟨rfl, g', cap', ⟨HH4.out.blk.set_ 7 _⟩, own_keep HOWN4.out (fun g2 e => Below.heap_setCell w4 _ _ g2 (hgne g2 e)), ?_, ?_⟩
 ·rcases HAT.out with h | h
  ·exact .inl h
  ·exact .inr (by omega)
 ·exact (Chg.of_below (HB.out.trans (HB3.out.mono hbs))).trans ((Chg.of_grown HG4.out (fun k e _ => .inr e)).trans (Chg.of_grown (grown_set1 w4 ⟨rb, 7, none⟩ _) (fun k e _ => .inl (by injection e with e; exact e.symm))))
end
end Go.Proofs.YtkpigkopjfkepaaGreatDoor
