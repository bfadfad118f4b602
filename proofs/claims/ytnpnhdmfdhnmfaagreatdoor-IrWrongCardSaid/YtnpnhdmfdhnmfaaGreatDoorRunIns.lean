/- What irrun's ins does, a kind at a time. -/
import Derived.Test.YtnpnhdmfdhnmfaaGreatDoorRunSm
namespace Go.Proofs.YtnpnhdmfdhnmfaaGreatDoor
open Go.RowKit

/-- a value of the call that goes on last is set, and nothing else -/
def PutPost (vb : Nat) (d v : Int) (w : World) (e : Ending) (w' : World) : Prop := e = .returned (.tuple #[]) ∧ ∃ w1, w.grownBy w1 none ∧ w' = w1.setCell ⟨vb, d.toNat, none⟩ (.int .i64 v)

set_option maxRecDepth 100000 in
set_option maxHeartbeats 4000000 in
theorem ins_num (base rb k cap g cb : Nat) (va vf vm vin vout : Value) (st co sp : Int) (bs : List Nat) (nm : ByteArray) (pr vl : Int) (vfl : Value) (vb m : Nat) (bl at_ into d a b op n y : Int) (s : ByteArray) (Aa : Option Addr) (la ca : Nat) (w : World) (hk : k = bs.length + 1) (h : RunBlk w rb va vf vm vin (.slice (some ⟨g, 0, none⟩) k cap) st co vout sp) (hr : w.ownsRow base 124 1 (.slice (some ⟨g, 0, none⟩) k cap) k ((cb :: bs).reverse.map fun b => .pointer (some ⟨b, 0, none⟩))) (hm : k ≤ maxLen)
    (hc : CallBlk w cb nm pr vl vfl (.slice (some ⟨vb, 0, none⟩) m m) bl at_ into) (hd0 : 0 ≤ d) (hd1 : d < (m : Int)) (hvd : w.cell? ⟨vb, d.toNat, none⟩ = some (.int .i64 y)) (hzd : w.frozen? ⟨vb, d.toNat, none⟩ = false) :
    Calls Tryz.prog 74 #[.pointer (some ⟨rb, 0, none⟩), .agg #[.int .i64 1, .int .i64 d, .int .i64 a, .int .i64 b, .int .i64 op, .int .i64 n, .string s, .slice Aa la ca]] w (PutPost vb d n w) := by
  have HT := Lib.hid (fun (W : World) (hb : Below w.heap.size w W) => top_any base rb k cap g cb va vf vm vin vout st co sp bs W hk ⟨h.blk.below hb h.blk.lt⟩ (hr.kept (grown_below' (row := none) hb) (Classical.em _)) hm)
  have HC := Lib.hid hc
  have hcl := hc.blk.lt
  have hvl : vb < w.heap.size := World.block_lt_of_cell? w _ hvd
  clear h hr hc hk
  go_enter Tryz.func74, Tryz.ntmps74
  go_upto_region 2 with (go_at_call 72; refine (HT.out _ (below1 _ _)).mono ?_; rintro e w' ⟨rfl, kk, rfl⟩)
  refine wp_world ?_
  intro W hW
  have hb : Below w.heap.size w W := by rw [← hW]; exact below_drewN (below1 _ _) _
  have hx : Blk W w.heap.size 36 #[.int .i64 1, .int .i64 d, .int .i64 a, .int .i64 b, .int .i64 op, .int .i64 n, .string s, .slice Aa la ca] := by rw [← hW]; exact Blk.new w _ _
  clear hW
  have x0 : W.cell? ⟨w.heap.size, 0, none⟩ = some (.int .i64 1) := hx.cell 0
  have x1 : W.cell? ⟨w.heap.size, 1, none⟩ = some (.int .i64 d) := hx.cell 1
  have x5 : W.cell? ⟨w.heap.size, 5, none⟩ = some (.int .i64 n) := hx.cell 5
  have y4 : W.cell? ⟨cb, 4, none⟩ = some (.slice (some ⟨vb, 0, none⟩) m m) := (HC.out.blk.below hb hcl).cell 4
  have vd : W.cell? ⟨vb, d.toNat, none⟩ = some (.int .i64 y) := (hb.cell (p := ⟨vb, d.toNat, none⟩) hvl).trans hvd
  have zd : W.frozen? ⟨vb, d.toNat, none⟩ = false := (hb.frozen (p := ⟨vb, d.toNat, none⟩) hvl).trans hzd
  have HB := Lib.hid hb
  clear hb hx HC HT hvd hzd
  go_wp2
  go_end0
  exact ⟨rfl, W, grown_below' HB.out, rfl⟩
set_option maxRecDepth 100000 in
set_option maxHeartbeats 4000000 in
theorem ins_move (base rb k cap g cb : Nat) (va vf vm vin vout : Value) (st co sp : Int) (bs : List Nat) (nm : ByteArray) (pr vl : Int) (vfl : Value) (vb m : Nat) (bl at_ into d a b op n y z : Int) (s : ByteArray) (Aa : Option Addr) (la ca : Nat) (w : World) (hk : k = bs.length + 1) (h : RunBlk w rb va vf vm vin (.slice (some ⟨g, 0, none⟩) k cap) st co vout sp) (hr : w.ownsRow base 124 1 (.slice (some ⟨g, 0, none⟩) k cap) k ((cb :: bs).reverse.map fun b => .pointer (some ⟨b, 0, none⟩))) (hm : k ≤ maxLen)
    (hc : CallBlk w cb nm pr vl vfl (.slice (some ⟨vb, 0, none⟩) m m) bl at_ into) (hd0 : 0 ≤ d) (hd1 : d < (m : Int)) (hvd : w.cell? ⟨vb, d.toNat, none⟩ = some (.int .i64 y)) (hzd : w.frozen? ⟨vb, d.toNat, none⟩ = false) (ha0 : 0 ≤ a) (ha1 : a < (m : Int)) (hva : w.cell? ⟨vb, a.toNat, none⟩ = some (.int .i64 z)) :
    Calls Tryz.prog 74 #[.pointer (some ⟨rb, 0, none⟩), .agg #[.int .i64 2, .int .i64 d, .int .i64 a, .int .i64 b, .int .i64 op, .int .i64 n, .string s, .slice Aa la ca]] w (PutPost vb d z w) := by
  have HT := Lib.hid (fun (W : World) (hb : Below w.heap.size w W) => top_any base rb k cap g cb va vf vm vin vout st co sp bs W hk ⟨h.blk.below hb h.blk.lt⟩ (hr.kept (grown_below' (row := none) hb) (Classical.em _)) hm)
  have HC := Lib.hid hc
  have hcl := hc.blk.lt
  have hvl : vb < w.heap.size := World.block_lt_of_cell? w _ hvd
  clear h hr hc hk
  go_enter Tryz.func74, Tryz.ntmps74
  go_upto_region 2 with (go_at_call 72; refine (HT.out _ (below1 _ _)).mono ?_; rintro e w' ⟨rfl, kk, rfl⟩)
  refine wp_world ?_
  intro W hW
  have hb : Below w.heap.size w W := by rw [← hW]; exact below_drewN (below1 _ _) _
  have hx : Blk W w.heap.size 36 #[.int .i64 2, .int .i64 d, .int .i64 a, .int .i64 b, .int .i64 op, .int .i64 n, .string s, .slice Aa la ca] := by rw [← hW]; exact Blk.new w _ _
  clear hW
  have x0 : W.cell? ⟨w.heap.size, 0, none⟩ = some (.int .i64 2) := hx.cell 0
  have x1 : W.cell? ⟨w.heap.size, 1, none⟩ = some (.int .i64 d) := hx.cell 1
  have x2 : W.cell? ⟨w.heap.size, 2, none⟩ = some (.int .i64 a) := hx.cell 2
  have va' : W.cell? ⟨vb, a.toNat, none⟩ = some (.int .i64 z) := (hb.cell (p := ⟨vb, a.toNat, none⟩) hvl).trans hva
  have y4 : W.cell? ⟨cb, 4, none⟩ = some (.slice (some ⟨vb, 0, none⟩) m m) := (HC.out.blk.below hb hcl).cell 4
  have vd : W.cell? ⟨vb, d.toNat, none⟩ = some (.int .i64 y) := (hb.cell (p := ⟨vb, d.toNat, none⟩) hvl).trans hvd
  have zd : W.frozen? ⟨vb, d.toNat, none⟩ = false := (hb.frozen (p := ⟨vb, d.toNat, none⟩) hvl).trans hzd
  have HB := Lib.hid hb
  clear hb hx HC HT hvd hzd hva
  go_upto_region 7 with fail
  have HB2 := Lib.hid (show Below w.heap.size w W.drew from HB.out.drew)
  have vd2 : W.drew.cell? ⟨vb, d.toNat, none⟩ = some (.int .i64 y) := vd
  have zd2 : W.drew.frozen? ⟨vb, d.toNat, none⟩ = false := zd
  go_still_tail 9, (by kernel_rfl)
  change wpList _ _ _ _ _ W.drew
  clear x0 x1 x2 va' vd zd y4 HB
  generalize W.drew = W2 at *
  go_wp2
  go_end0
  exact ⟨rfl, W2, grown_below' HB2.out, rfl⟩
set_option maxRecDepth 100000 in
set_option maxHeartbeats 4000000 in
theorem ins_read (base rb k cap g cb : Nat) (va vf vm vin vout : Value) (st co sp : Int) (bs : List Nat) (nm : ByteArray) (pr vl : Int) (vfl : Value) (vb m : Nat) (bl at_ into d a b op n y : Int) (s : ByteArray) (Aa : Option Addr) (la ca : Nat) (w : World) (hk : k = bs.length + 1) (h : RunBlk w rb va vf vm vin (.slice (some ⟨g, 0, none⟩) k cap) st co vout sp) (hr : w.ownsRow base 124 1 (.slice (some ⟨g, 0, none⟩) k cap) k ((cb :: bs).reverse.map fun b => .pointer (some ⟨b, 0, none⟩))) (hm : k ≤ maxLen)
    (hc : CallBlk w cb nm pr vl vfl (.slice (some ⟨vb, 0, none⟩) m m) bl at_ into) (hd0 : 0 ≤ d) (hd1 : d < (m : Int)) (hvd : w.cell? ⟨vb, d.toNat, none⟩ = some (.int .i64 y)) (hzd : w.frozen? ⟨vb, d.toNat, none⟩ = false) (inp : List Int) (hin : SlR w (· < base) 1 RInt vin inp) (hbw : base ≤ w.heap.size) (hbr : base ≤ rb) (hvr : vb ≠ rb) :
    Calls Tryz.prog 74 #[.pointer (some ⟨rb, 0, none⟩), .agg #[.int .i64 7, .int .i64 d, .int .i64 a, .int .i64 b, .int .i64 op, .int .i64 n, .string s, .slice Aa la ca]] w (fun e w' => e = .returned (.tuple #[]) ∧ ∃ w1 vin', RunBlk w1 rb va vf vm vin' (.slice (some ⟨g, 0, none⟩) k cap) st co vout sp ∧ w.grownBy w1 (some rb) ∧ SlR w1 (· < base) 1 RInt vin' inp.tail ∧ w' = w1.setCell ⟨vb, d.toNat, none⟩ (.int .i64 (inp.headD (-1)))) := by
  have HT := Lib.hid (fun (W : World) (hb : Below w.heap.size w W) => top_any base rb k cap g cb va vf vm vin vout st co sp bs W hk ⟨h.blk.below hb h.blk.lt⟩ (hr.kept (grown_below' (row := none) hb) (Classical.em _)) hm)
  have HC := Lib.hid hc
  have HRB := Lib.hid h
  have hrb0 := h.blk.lt
  have HIN := Lib.hid hin
  have hcl := hc.blk.lt
  have hvl : vb < w.heap.size := World.block_lt_of_cell? w _ hvd
  clear h hr hc hk hin
  go_enter Tryz.func74, Tryz.ntmps74
  go_upto_region 2 with (go_at_call 72; refine (HT.out _ (below1 _ _)).mono ?_; rintro e w' ⟨rfl, kk, rfl⟩)
  refine wp_world ?_
  intro W hW
  have hb : Below w.heap.size w W := by rw [← hW]; exact below_drewN (below1 _ _) _
  have hx : Blk W w.heap.size 36 #[.int .i64 7, .int .i64 d, .int .i64 a, .int .i64 b, .int .i64 op, .int .i64 n, .string s, .slice Aa la ca] := by rw [← hW]; exact Blk.new w _ _
  clear hW
  have x0 : W.cell? ⟨w.heap.size, 0, none⟩ = some (.int .i64 7) := hx.cell 0
  have x1 : W.cell? ⟨w.heap.size, 1, none⟩ = some (.int .i64 d) := hx.cell 1
  have x5 : W.cell? ⟨w.heap.size, 5, none⟩ = some (.int .i64 n) := hx.cell 5
  have y4 : W.cell? ⟨cb, 4, none⟩ = some (.slice (some ⟨vb, 0, none⟩) m m) := (HC.out.blk.below hb hcl).cell 4
  have vd : W.cell? ⟨vb, d.toNat, none⟩ = some (.int .i64 y) := (hb.cell (p := ⟨vb, d.toNat, none⟩) hvl).trans hvd
  have zd : W.frozen? ⟨vb, d.toNat, none⟩ = false := (hb.frozen (p := ⟨vb, d.toNat, none⟩) hvl).trans hzd
  have HB := Lib.hid hb
  have HR1 := Lib.hid (show RunBlk W rb va vf vm vin (.slice (some ⟨g, 0, none⟩) k cap) st co vout sp from ⟨HRB.out.blk.below hb HRB.out.blk.lt⟩)
  have HI1 := Lib.hid (HIN.out.imp (ok' := (· < base)) (R' := RInt) (w' := W) (fun _ h => h) (fun b h => hb.block b (Nat.lt_of_lt_of_le h hbw)) (fun _ _ _ r => r))
  clear hb hx HC HT hvd hzd HRB HIN x5
  go_upto_region 24 with fail
  have HB2 := Lib.hid (show Below w.heap.size w W.drew from HB.out.drew)
  have HR2 := Lib.hid (show RunBlk W.drew rb va vf vm vin (.slice (some ⟨g, 0, none⟩) k cap) st co vout sp from ⟨HR1.out.blk⟩)
  have HI2 := Lib.hid (HI1.out.imp (ok' := (· < base)) (R' := RInt) (w' := W.drew) (fun _ h => h) (fun _ _ => rfl) (fun _ _ _ r => r))
  have vd2 : W.drew.cell? ⟨vb, d.toNat, none⟩ = some (.int .i64 y) := vd
  have zd2 : W.drew.frozen? ⟨vb, d.toNat, none⟩ = false := zd
  have hv2 : vb < W.drew.heap.size := World.block_lt_of_cell? W.drew _ vd2
  have xl : w.heap.size < W.drew.heap.size := World.block_lt_of_cell? W.drew ⟨w.heap.size, 1, none⟩ x1
  have HE := Lib.hid (read_any base rb va vf vm vin (.slice (some ⟨g, 0, none⟩) k cap) vout st co sp inp W.drew HR2.out HI2.out hbr)
  have hrw : rb < w.heap.size := hrb0
  clear x0 vd zd y4 HB HR1 HI1
  go_region_held3 (fun w2 => w2.cell? ⟨w.heap.size, 1, none⟩ = some (.int .i64 d)) (first | exact x1 | exact x4 | exact (World.cell?_setCell_other _ _ _ _ (by intro e; injection e with e; omega)).trans x4)
    (first | (go_at_call 101; refine HE.out.mono ?_; rintro e w4 ⟨rfl, vin', hb4, hg4, hs4⟩; have vd4 : w4.cell? ⟨vb, d.toNat, none⟩ = some (.int .i64 y) := (World.cell?_of_block (w := W.drew) (w' := w4) (a := ⟨vb, d.toNat, none⟩) (hg4.block vb hv2 (fun e => by injection e with e; exact hvr e))).trans vd2; have zd4 : w4.frozen? ⟨vb, d.toNat, none⟩ = false := (by have h := hg4.block vb hv2 (fun e => by injection e with e; exact hvr e); have hz := zd2; simp only [World.frozen?] at hz ⊢; rw [h]; exact hz); have x4 : w4.cell? ⟨w.heap.size, 1, none⟩ = some (.int .i64 d) := (World.cell?_of_block (w := W.drew) (w' := w4) (a := ⟨w.heap.size, 1, none⟩) (hg4.block _ xl (fun e => Nat.ne_of_lt hrw (Option.some.inj e).symm))).trans x1))
  go_wp2
  go_end0
  exact ⟨rfl, w4, vin', hb4, (grown_below' HB2.out).trans hg4, hs4, by rw [List.headD_eq_head?_getD]⟩
set_option maxRecDepth 100000 in
set_option maxHeartbeats 4000000 in
theorem ins_call (base rb k cap g cb : Nat) (va vf vm vin vout : Value) (st co sp : Int) (bs : List Nat) (nm : ByteArray) (pr vl : Int) (vfl : Value) (vb m : Nat) (bl at_ into d a b op n : Int) (s : ByteArray) (Aa : Option Addr) (la ca : Nat) (w : World) (hk : k = bs.length + 1) (h : RunBlk w rb va vf vm vin (.slice (some ⟨g, 0, none⟩) k cap) st co vout sp) (hr : w.ownsRow base 124 1 (.slice (some ⟨g, 0, none⟩) k cap) k ((cb :: bs).reverse.map fun b => .pointer (some ⟨b, 0, none⟩))) (hm : k ≤ maxLen)
    (hc : CallBlk w cb nm pr vl vfl (.slice (some ⟨vb, 0, none⟩) m m) bl at_ into) (Q : World → World → Prop)
    (HP : ∀ W, w.grownBy W none → Calls Tryz.prog 102 #[.pointer (some ⟨rb, 0, none⟩), .agg #[.int .i64 9, .int .i64 d, .int .i64 a, .int .i64 b, .int .i64 op, .int .i64 n, .string s, .slice Aa la ca], .pointer (some ⟨cb, 0, none⟩)] W fun e w' => e = .returned (.tuple #[]) ∧ Q W w') :
    Calls Tryz.prog 74 #[.pointer (some ⟨rb, 0, none⟩), .agg #[.int .i64 9, .int .i64 d, .int .i64 a, .int .i64 b, .int .i64 op, .int .i64 n, .string s, .slice Aa la ca]] w fun e w' => e = .returned (.tuple #[]) ∧ ∃ w1, w.grownBy w1 none ∧ Q w1 w' := by
  have HT := Lib.hid (fun (W : World) (hb : Below w.heap.size w W) => top_any base rb k cap g cb va vf vm vin vout st co sp bs W hk ⟨h.blk.below hb h.blk.lt⟩ (hr.kept (grown_below' (row := none) hb) (Classical.em _)) hm)
  have HC := Lib.hid hc
  have hcl := hc.blk.lt
  have HPP := Lib.hid HP
  clear HP
  clear h hr hc hk
  go_enter Tryz.func74, Tryz.ntmps74
  go_upto_region 2 with (go_at_call 72; refine (HT.out _ (below1 _ _)).mono ?_; rintro e w' ⟨rfl, kk, rfl⟩)
  refine wp_world ?_
  intro W hW
  have hb : Below w.heap.size w W := by rw [← hW]; exact below_drewN (below1 _ _) _
  have hx : Blk W w.heap.size 36 #[.int .i64 9, .int .i64 d, .int .i64 a, .int .i64 b, .int .i64 op, .int .i64 n, .string s, .slice Aa la ca] := by rw [← hW]; exact Blk.new w _ _
  clear hW
  have x0 : W.cell? ⟨w.heap.size, 0, none⟩ = some (.int .i64 9) := hx.cell 0
  have x1 : W.cell? ⟨w.heap.size, 1, none⟩ = some (.int .i64 d) := hx.cell 1
  have x2 : W.cell? ⟨w.heap.size, 2, none⟩ = some (.int .i64 a) := hx.cell 2
  have x3 : W.cell? ⟨w.heap.size, 3, none⟩ = some (.int .i64 b) := hx.cell 3
  have x4 : W.cell? ⟨w.heap.size, 4, none⟩ = some (.int .i64 op) := hx.cell 4
  have x5 : W.cell? ⟨w.heap.size, 5, none⟩ = some (.int .i64 n) := hx.cell 5
  have x6 : W.cell? ⟨w.heap.size, 6, none⟩ = some (.string s) := hx.cell 6
  have x7 : W.cell? ⟨w.heap.size, 7, none⟩ = some (.slice Aa la ca) := hx.cell 7
  have y4 : W.cell? ⟨cb, 4, none⟩ = some (.slice (some ⟨vb, 0, none⟩) m m) := (HC.out.blk.below hb hcl).cell 4
  have HB := Lib.hid hb
  clear hb hx HC HT
  have HE := Lib.hid (HPP.out W (grown_below' HB.out))
  go_wp2_with (go_at_call 102; refine HE.out.mono ?_; rintro e w4 ⟨rfl, hq⟩)
  go_end0
  exact ⟨rfl, W, grown_below' HB.out, hq⟩
end Go.Proofs.YtnpnhdmfdhnmfaaGreatDoor
