/- What irrun's step does: an end, or an instruction. -/
import Derived.Test.YtknccacfhknnaaaRunAt
namespace Go.Proofs.Ytknccacfhknnaaa
open Go.RowKit

section
set_option maxHeartbeats 8000000
set_option maxRecDepth 100000
theorem step_term (base rb k cap g cb bb bo nb kb ni ki : Nat) (va vf vm vin vout : Value) (st co sp : Int) (bs : List Nat) (nm : ByteArray) (pr vl : Int) (vv : Value) (Ai : Option Addr) (bl at_ into tk ta tt te : Int) (w : World) (hk : k = bs.length + 1) (h : RunBlk w rb va vf vm vin (.slice (some ⟨g, 0, none⟩) k cap) st co vout sp) (hr : w.ownsRow base 113 1 (.slice (some ⟨g, 0, none⟩) k cap) k ((cb :: bs).reverse.map fun b => .pointer (some ⟨b, 0, none⟩))) (hm : k ≤ maxLen)
    (hc : CallBlk w cb nm pr vl (.slice (some ⟨bb, bo, none⟩) nb kb) vv bl at_ into) (hb0 : 0 ≤ bl) (hb1 : bl < (nb : Int)) (hcell : Cells w bb (bo + bl.toNat * 5) [.slice Ai ni ki, .int .i64 tk, .int .i64 ta, .int .i64 tt, .int .i64 te])
    (hat : at_ = (ni : Int)) (Q : World → World → Prop) (HP : ∀ W, w.grownBy W none → Calls Try.prog 60 #[.pointer (some ⟨rb, 0, none⟩), .agg #[.int .i64 tk, .int .i64 ta, .int .i64 tt, .int .i64 te]] W fun e w' => e = .returned (.tuple #[]) ∧ Q W w') :
    Calls Try.prog 35 #[.pointer (some ⟨rb, 0, none⟩)] w fun e w' => e = .returned (.tuple #[]) ∧ ∃ W, w.grownBy W none ∧ Q W w' := by
  have HT := Lib.hid (top_any base rb k cap g cb va vf vm vin vout st co sp bs w hk h hr hm)
  have y3 : w.cell? ⟨cb, 3, none⟩ = some (.slice (some ⟨bb, bo, none⟩) nb kb) := hc.blk.cell 3
  have y5 : w.cell? ⟨cb, 5, none⟩ = some (.int .i64 bl) := hc.blk.cell 5
  have y6 : w.cell? ⟨cb, 6, none⟩ = some (.int .i64 at_) := hc.blk.cell 6
  have z0 : w.cell? ⟨bb, bo + bl.toNat * 5, none⟩ = some (.slice Ai ni ki) := hcell.at_ (j := 0) rfl
  have z1 : w.cell? ⟨bb, bo + bl.toNat * 5 + 1, none⟩ = some (.int .i64 tk) := hcell.at_ (j := 1) rfl
  have z2 : w.cell? ⟨bb, bo + bl.toNat * 5 + 2, none⟩ = some (.int .i64 ta) := hcell.at_ (j := 2) rfl
  have z3 : w.cell? ⟨bb, bo + bl.toNat * 5 + 3, none⟩ = some (.int .i64 tt) := hcell.at_ (j := 3) rfl
  have z4 : w.cell? ⟨bb, bo + bl.toNat * 5 + 4, none⟩ = some (.int .i64 te) := hcell.at_ (j := 4) rfl
  have hcl := hc.blk.lt
  have hbl := World.block_lt_of_cell? w _ z0
  have HC := Lib.hid hc
  have HPP := Lib.hid HP
  clear HP
  have SO := Lib.hid (fun (w2 : World) (hb2 : Below w.heap.size w w2) => (⟨(hb2.cell (p := ⟨cb, 3, none⟩) hcl).trans y3, (hb2.cell (p := ⟨cb, 5, none⟩) hcl).trans y5, (hb2.cell (p := ⟨bb, bo + bl.toNat * 5, none⟩) hbl).trans z0, (hb2.cell (p := ⟨bb, bo + bl.toNat * 5 + 1, none⟩) hbl).trans z1, (hb2.cell (p := ⟨bb, bo + bl.toNat * 5 + 2, none⟩) hbl).trans z2, (hb2.cell (p := ⟨bb, bo + bl.toNat * 5 + 3, none⟩) hbl).trans z3, (hb2.cell (p := ⟨bb, bo + bl.toNat * 5 + 4, none⟩) hbl).trans z4⟩ : (fun w2 => w2.cell? ⟨cb, 3, none⟩ = some (.slice (some ⟨bb, bo, none⟩) nb kb) ∧ w2.cell? ⟨cb, 5, none⟩ = some (.int .i64 bl) ∧ w2.cell? ⟨bb, bo + bl.toNat * 5, none⟩ = some (.slice Ai ni ki) ∧ w2.cell? ⟨bb, bo + bl.toNat * 5 + 1, none⟩ = some (.int .i64 tk) ∧ w2.cell? ⟨bb, bo + bl.toNat * 5 + 2, none⟩ = some (.int .i64 ta) ∧ w2.cell? ⟨bb, bo + bl.toNat * 5 + 3, none⟩ = some (.int .i64 tt) ∧ w2.cell? ⟨bb, bo + bl.toNat * 5 + 4, none⟩ = some (.int .i64 te)) w2))
  have Y6 := Lib.hid (fun (w2 : World) (hb2 : Below w.heap.size w w2) => (hb2.cell (p := ⟨cb, 6, none⟩) hcl).trans y6)
  clear h hr hc hk hcell z0 z1 z2 z3 z4 y3 y5 y6
  go_enter Try.func35, Try.ntmps35
  go_upto_region 1 with (go_at_call 59; refine HT.out.mono ?_; rintro e w' ⟨rfl, kk, rfl⟩)
  refine wp_world ?_
  intro W hW
  have hb : Below w.heap.size w W := by rw [← hW]; exact below_drewN (Below.refl _ _) _
  have HB := Lib.hid hb
  have hbs := hb.size
  clear hW HT hb
  refine wp_region_L (by kernel_rfl) 12 (fun w2 => w2.cell? ⟨cb, 3, none⟩ = some (.slice (some ⟨bb, bo, none⟩) nb kb) ∧ w2.cell? ⟨cb, 5, none⟩ = some (.int .i64 bl) ∧ w2.cell? ⟨bb, bo + bl.toNat * 5, none⟩ = some (.slice Ai ni ki) ∧ w2.cell? ⟨bb, bo + bl.toNat * 5 + 1, none⟩ = some (.int .i64 tk) ∧ w2.cell? ⟨bb, bo + bl.toNat * 5 + 2, none⟩ = some (.int .i64 ta) ∧ w2.cell? ⟨bb, bo + bl.toNat * 5 + 3, none⟩ = some (.int .i64 tt) ∧ w2.cell? ⟨bb, bo + bl.toNat * 5 + 4, none⟩ = some (.int .i64 te)) (SO.out _ HB.out.drew) (fun hHeld => ?_)
  have HS0 := Lib.hid hHeld
  clear hHeld
  change wpAnyL _ _ _ _ _ 12 13 (Array.replicate 13 false) _ _
  refine takeL 0 6 (.pointer (some ⟨cb, 0, none⟩)) HS0.out rfl rfl (by kernel_rfl) (by kernel_rfl) (by kernel_rfl) (by decide) (fun _ _ _ h => h) (by kernel_rfl) ?_ ?_
  · intro w2; go_simp
  simp only [List.setIfInBounds_toArray, List.set_cons_zero, List.set_cons_succ]
  refine takeL 1 7 (.pointer (some ⟨cb, 0, none⟩)) HS0.out rfl rfl (by kernel_rfl) (by kernel_rfl) (by kernel_rfl) (by decide) (fun _ _ _ h => h) (by kernel_rfl) ?_ ?_
  · intro w2; go_simp
  simp only [List.setIfInBounds_toArray, List.set_cons_zero, List.set_cons_succ]
  refine takeL 2 8 (.pointer (some ⟨cb, 0, none⟩)) HS0.out rfl rfl (by kernel_rfl) (by kernel_rfl) (by kernel_rfl) (by decide) (fun _ _ _ h => h) (by kernel_rfl) ?_ ?_
  · intro w2; go_simp
  simp only [List.setIfInBounds_toArray, List.set_cons_zero, List.set_cons_succ]
  refine takeL 3 9 (.pointer (some ⟨cb, 3, none⟩)) HS0.out rfl rfl (by kernel_rfl) (by kernel_rfl) (by kernel_rfl) (by decide) (fun _ _ _ h => h) (by kernel_rfl) ?_ ?_
  · intro w2; go_simp
  simp only [List.setIfInBounds_toArray, List.set_cons_zero, List.set_cons_succ]
  refine takeL_S 4 10 (.slice (some ⟨bb, bo, none⟩) nb kb) [12] HS0.out rfl rfl (by kernel_rfl) (by kernel_rfl) (by kernel_rfl) (by decide) (by kernel_rfl) (fun _ _ _ h => h) (by kernel_rfl) ?_ ?_
  · intro w2 hSw; obtain ⟨g0, g1, g2, g3, g4, g5, g6⟩ := hSw; go_simp
  simp only [List.setIfInBounds_toArray, List.set_cons_zero, List.set_cons_succ]
  refine takeL 5 11 (.pointer (some ⟨cb, 0, none⟩)) HS0.out rfl rfl (by kernel_rfl) (by kernel_rfl) (by kernel_rfl) (by decide) (fun _ _ _ h => h) (by kernel_rfl) ?_ ?_
  · intro w2; go_simp
  simp only [List.setIfInBounds_toArray, List.set_cons_zero, List.set_cons_succ]
  refine takeL 6 12 (.pointer (some ⟨cb, 0, none⟩)) HS0.out rfl rfl (by kernel_rfl) (by kernel_rfl) (by kernel_rfl) (by decide) (fun _ _ _ h => h) (by kernel_rfl) ?_ ?_
  · intro w2; go_simp
  simp only [List.setIfInBounds_toArray, List.set_cons_zero, List.set_cons_succ]
  refine takeL 7 13 (.pointer (some ⟨cb, 5, none⟩)) HS0.out rfl rfl (by kernel_rfl) (by kernel_rfl) (by kernel_rfl) (by decide) (fun _ _ _ h => h) (by kernel_rfl) ?_ ?_
  · intro w2; go_simp
  simp only [List.setIfInBounds_toArray, List.set_cons_zero, List.set_cons_succ]
  refine takeL_S 8 14 (.int .i64 bl) [12] HS0.out rfl rfl (by kernel_rfl) (by kernel_rfl) (by kernel_rfl) (by decide) (by kernel_rfl) (fun _ _ _ h => h) (by kernel_rfl) ?_ ?_
  · intro w2 hSw; obtain ⟨g0, g1, g2, g3, g4, g5, g6⟩ := hSw; go_simp
  simp only [List.setIfInBounds_toArray, List.set_cons_zero, List.set_cons_succ]
  refine takeL 9 15 (.pointer (some ⟨bb, bo + bl.toNat * 5, none⟩)) HS0.out rfl rfl (by kernel_rfl) (by kernel_rfl) (by kernel_rfl) (by decide) (fun _ _ _ h => h) (by kernel_rfl) ?_ ?_
  · intro w2; go_simp
  simp only [List.setIfInBounds_toArray, List.set_cons_zero, List.set_cons_succ]
  refine takeL_S 10 16 (.agg #[.slice Ai ni ki, .int .i64 tk, .int .i64 ta, .int .i64 tt, .int .i64 te]) [12] HS0.out rfl rfl (by kernel_rfl) (by kernel_rfl) (by kernel_rfl) (by decide) (by kernel_rfl) (fun _ _ _ h => h) (by kernel_rfl) ?_ ?_
  · intro w2 hSw; obtain ⟨g0, g1, g2, g3, g4, g5, g6⟩ := hSw; go_simp
  simp only [List.setIfInBounds_toArray, List.set_cons_zero, List.set_cons_succ]
  refine wpAnyL_ready (rs := [11]) (by kernel_rfl) (by simp) ?_
  refine AllReadyL.cons rfl (fun K hK => ?_) AllReadyL.nil
  go_simp
  refine hK.out _ _ (SO.out _ ((HB.out.drew.alloc hbs _))) (fun hHeld => ?_)
  have HS1 := Lib.hid hHeld
  clear hK K hHeld
  try simp only [List.setIfInBounds_toArray, List.set_cons_zero, List.set_cons_succ]
  refine wpAnyL_ready (rs := [12]) (by kernel_rfl) (by simp) ?_
  refine AllReadyL.last rfl (by kernel_rfl) (fun K hK => ?_)
  go_simp
  refine hK.out _ _ ?_
  clear hK K
  try simp only [List.setIfInBounds_toArray, List.set_cons_zero, List.set_cons_succ]
  refine wpAnyL_done (by kernel_rfl) ?_ _
  have hb3' : Below w.heap.size w (W.alloc (.cells #[.slice Ai ni ki, .int .i64 tk, .int .i64 ta, .int .i64 tt, .int .i64 te] 38)).drew := (HB.out.alloc hbs _).drew
  have hx' : Blk (W.alloc (.cells #[.slice Ai ni ki, .int .i64 tk, .int .i64 ta, .int .i64 tt, .int .i64 te] 38)).drew W.heap.size 38 #[.slice Ai ni ki, .int .i64 tk, .int .i64 ta, .int .i64 tt, .int .i64 te] := Blk.drew (Blk.new W _ _)
  generalize (W.alloc (.cells #[.slice Ai ni ki, .int .i64 tk, .int .i64 ta, .int .i64 tt, .int .i64 te] 38)).drew = W3 at *
  have HB3 := Lib.hid hb3'
  have HX3 := Lib.hid hx'
  have y6 : W3.cell? ⟨cb, 6, none⟩ = some (.int .i64 at_) := Y6.out W3 hb3'
  have x0 : W3.cell? ⟨W.heap.size, 0, none⟩ = some (.slice Ai ni ki) := hx'.cell 0
  have e0 : (at_ == (ni : Int)) = true := by rw [beq_dec]; exact decide_eq_true (by omega)
  have hbs3 := hb3'.size
  have hWs := HB.out.size
  clear hb3' hx'
  go_upto_region 2 with fail
  go_quiet (fail)
  have hb4 : Below w.heap.size w (W3.drewN nq) := below_drewN HB3.out _
  have hx4 : Blk (W3.drewN nq) W.heap.size 38 #[.slice Ai ni ki, .int .i64 tk, .int .i64 ta, .int .i64 tt, .int .i64 te] := HX3.out
  generalize W3.drewN nq = W4 at *
  have HB4 := Lib.hid hb4
  have x1 : W4.cell? ⟨W.heap.size, 1, none⟩ = some (.int .i64 tk) := hx4.cell 1
  have x2 : W4.cell? ⟨W.heap.size, 2, none⟩ = some (.int .i64 ta) := hx4.cell 2
  have x3 : W4.cell? ⟨W.heap.size, 3, none⟩ = some (.int .i64 tt) := hx4.cell 3
  have x4 : W4.cell? ⟨W.heap.size, 4, none⟩ = some (.int .i64 te) := hx4.cell 4
  have HE := Lib.hid (HPP.out W4 (grown_below' hb4))
  clear hb4 hx4 y6 x0
  go_wp2_with (go_at_call 60; refine HE.out.mono ?_; rintro e w4 ⟨rfl, hq⟩)
  refine bodyPost_ret (results_none rfl _ _ _) rfl ?_
  exact ⟨rfl, W4, grown_below' HB4.out, hq⟩
theorem step_ins (base rb k cap g cb bb bo nb kb ni ki : Nat) (va vf vm vin vout : Value) (st co sp : Int) (bs : List Nat) (nm : ByteArray) (pr vl : Int) (vv : Value) (Ai : Option Addr) (bl at_ into tk ta tt te : Int) (w : World) (hk : k = bs.length + 1) (h : RunBlk w rb va vf vm vin (.slice (some ⟨g, 0, none⟩) k cap) st co vout sp) (hr : w.ownsRow base 113 1 (.slice (some ⟨g, 0, none⟩) k cap) k ((cb :: bs).reverse.map fun b => .pointer (some ⟨b, 0, none⟩))) (hm : k ≤ maxLen)
    (hc : CallBlk w cb nm pr vl (.slice (some ⟨bb, bo, none⟩) nb kb) vv bl at_ into) (hb0 : 0 ≤ bl) (hb1 : bl < (nb : Int)) (hcell : Cells w bb (bo + bl.toNat * 5) [.slice Ai ni ki, .int .i64 tk, .int .i64 ta, .int .i64 tt, .int .i64 te])
    (bi bo2 : Nat) (hai : Ai = some ⟨bi, bo2, none⟩) (ha0 : 0 ≤ at_) (hat : at_ < (ni : Int)) (hni : ni ≤ 1000) (hnc : bi ≠ cb) (ik d a b op n : Int) (s : ByteArray) (Aa : Option Addr) (la ca : Nat) (hci : Cells w bi (bo2 + at_.toNat * 8) [.int .i64 ik, .int .i64 d, .int .i64 a, .int .i64 b, .int .i64 op, .int .i64 n, .string s, .slice Aa la ca])
    (Q : World → World → Prop) (HP : ∀ W1 W, w.grownBy W1 none → W1.grownBy W (some cb) → CallBlk W cb nm pr vl (.slice (some ⟨bb, bo, none⟩) nb kb) vv bl (at_ + 1) into → Calls Try.prog 61 #[.pointer (some ⟨rb, 0, none⟩), .agg #[.int .i64 ik, .int .i64 d, .int .i64 a, .int .i64 b, .int .i64 op, .int .i64 n, .string s, .slice Aa la ca]] W fun e w' => e = .returned (.tuple #[]) ∧ Q W w') :
    Calls Try.prog 35 #[.pointer (some ⟨rb, 0, none⟩)] w fun e w' => e = .returned (.tuple #[]) ∧ ∃ W1 W, w.grownBy W1 none ∧ W1.grownBy W (some cb) ∧ CallBlk W cb nm pr vl (.slice (some ⟨bb, bo, none⟩) nb kb) vv bl (at_ + 1) into ∧ Q W w' := by
  have HT := Lib.hid (top_any base rb k cap g cb va vf vm vin vout st co sp bs w hk h hr hm)
  have y3 : w.cell? ⟨cb, 3, none⟩ = some (.slice (some ⟨bb, bo, none⟩) nb kb) := hc.blk.cell 3
  have y5 : w.cell? ⟨cb, 5, none⟩ = some (.int .i64 bl) := hc.blk.cell 5
  have y6 : w.cell? ⟨cb, 6, none⟩ = some (.int .i64 at_) := hc.blk.cell 6
  have z0 : w.cell? ⟨bb, bo + bl.toNat * 5, none⟩ = some (.slice Ai ni ki) := hcell.at_ (j := 0) rfl
  have z1 : w.cell? ⟨bb, bo + bl.toNat * 5 + 1, none⟩ = some (.int .i64 tk) := hcell.at_ (j := 1) rfl
  have z2 : w.cell? ⟨bb, bo + bl.toNat * 5 + 2, none⟩ = some (.int .i64 ta) := hcell.at_ (j := 2) rfl
  have z3 : w.cell? ⟨bb, bo + bl.toNat * 5 + 3, none⟩ = some (.int .i64 tt) := hcell.at_ (j := 3) rfl
  have z4 : w.cell? ⟨bb, bo + bl.toNat * 5 + 4, none⟩ = some (.int .i64 te) := hcell.at_ (j := 4) rfl
  have hcl := hc.blk.lt
  have hbl := World.block_lt_of_cell? w _ z0
  have HC := Lib.hid hc
  have HPP := Lib.hid HP
  clear HP
  subst hai
  have hil : bi < w.heap.size := World.block_lt_of_cell? w _ (hci.at_ (j := 0) rfl)
  have HCI := Lib.hid hci
  clear hci
  have SO := Lib.hid (fun (w2 : World) (hb2 : Below w.heap.size w w2) => (⟨(hb2.cell (p := ⟨cb, 3, none⟩) hcl).trans y3, (hb2.cell (p := ⟨cb, 5, none⟩) hcl).trans y5, (hb2.cell (p := ⟨bb, bo + bl.toNat * 5, none⟩) hbl).trans z0, (hb2.cell (p := ⟨bb, bo + bl.toNat * 5 + 1, none⟩) hbl).trans z1, (hb2.cell (p := ⟨bb, bo + bl.toNat * 5 + 2, none⟩) hbl).trans z2, (hb2.cell (p := ⟨bb, bo + bl.toNat * 5 + 3, none⟩) hbl).trans z3, (hb2.cell (p := ⟨bb, bo + bl.toNat * 5 + 4, none⟩) hbl).trans z4⟩ : (fun w2 => w2.cell? ⟨cb, 3, none⟩ = some (.slice (some ⟨bb, bo, none⟩) nb kb) ∧ w2.cell? ⟨cb, 5, none⟩ = some (.int .i64 bl) ∧ w2.cell? ⟨bb, bo + bl.toNat * 5, none⟩ = some (.slice (some ⟨bi, bo2, none⟩) ni ki) ∧ w2.cell? ⟨bb, bo + bl.toNat * 5 + 1, none⟩ = some (.int .i64 tk) ∧ w2.cell? ⟨bb, bo + bl.toNat * 5 + 2, none⟩ = some (.int .i64 ta) ∧ w2.cell? ⟨bb, bo + bl.toNat * 5 + 3, none⟩ = some (.int .i64 tt) ∧ w2.cell? ⟨bb, bo + bl.toNat * 5 + 4, none⟩ = some (.int .i64 te)) w2))
  have Y6 := Lib.hid (fun (w2 : World) (hb2 : Below w.heap.size w w2) => (hb2.cell (p := ⟨cb, 6, none⟩) hcl).trans y6)
  clear h hr hc hk hcell z0 z1 z2 z3 z4 y3 y5 y6
  go_enter Try.func35, Try.ntmps35
  go_upto_region 1 with (go_at_call 59; refine HT.out.mono ?_; rintro e w' ⟨rfl, kk, rfl⟩)
  refine wp_world ?_
  intro W hW
  have hb : Below w.heap.size w W := by rw [← hW]; exact below_drewN (Below.refl _ _) _
  have HB := Lib.hid hb
  have hbs := hb.size
  clear hW HT hb
  refine wp_region_L (by kernel_rfl) 12 (fun w2 => w2.cell? ⟨cb, 3, none⟩ = some (.slice (some ⟨bb, bo, none⟩) nb kb) ∧ w2.cell? ⟨cb, 5, none⟩ = some (.int .i64 bl) ∧ w2.cell? ⟨bb, bo + bl.toNat * 5, none⟩ = some (.slice (some ⟨bi, bo2, none⟩) ni ki) ∧ w2.cell? ⟨bb, bo + bl.toNat * 5 + 1, none⟩ = some (.int .i64 tk) ∧ w2.cell? ⟨bb, bo + bl.toNat * 5 + 2, none⟩ = some (.int .i64 ta) ∧ w2.cell? ⟨bb, bo + bl.toNat * 5 + 3, none⟩ = some (.int .i64 tt) ∧ w2.cell? ⟨bb, bo + bl.toNat * 5 + 4, none⟩ = some (.int .i64 te)) (SO.out _ HB.out.drew) (fun hHeld => ?_)
  have HS0 := Lib.hid hHeld
  clear hHeld
  change wpAnyL _ _ _ _ _ 12 13 (Array.replicate 13 false) _ _
  refine takeL 0 6 (.pointer (some ⟨cb, 0, none⟩)) HS0.out rfl rfl (by kernel_rfl) (by kernel_rfl) (by kernel_rfl) (by decide) (fun _ _ _ h => h) (by kernel_rfl) ?_ ?_
  · intro w2; go_simp
  simp only [List.setIfInBounds_toArray, List.set_cons_zero, List.set_cons_succ]
  refine takeL 1 7 (.pointer (some ⟨cb, 0, none⟩)) HS0.out rfl rfl (by kernel_rfl) (by kernel_rfl) (by kernel_rfl) (by decide) (fun _ _ _ h => h) (by kernel_rfl) ?_ ?_
  · intro w2; go_simp
  simp only [List.setIfInBounds_toArray, List.set_cons_zero, List.set_cons_succ]
  refine takeL 2 8 (.pointer (some ⟨cb, 0, none⟩)) HS0.out rfl rfl (by kernel_rfl) (by kernel_rfl) (by kernel_rfl) (by decide) (fun _ _ _ h => h) (by kernel_rfl) ?_ ?_
  · intro w2; go_simp
  simp only [List.setIfInBounds_toArray, List.set_cons_zero, List.set_cons_succ]
  refine takeL 3 9 (.pointer (some ⟨cb, 3, none⟩)) HS0.out rfl rfl (by kernel_rfl) (by kernel_rfl) (by kernel_rfl) (by decide) (fun _ _ _ h => h) (by kernel_rfl) ?_ ?_
  · intro w2; go_simp
  simp only [List.setIfInBounds_toArray, List.set_cons_zero, List.set_cons_succ]
  refine takeL_S 4 10 (.slice (some ⟨bb, bo, none⟩) nb kb) [12] HS0.out rfl rfl (by kernel_rfl) (by kernel_rfl) (by kernel_rfl) (by decide) (by kernel_rfl) (fun _ _ _ h => h) (by kernel_rfl) ?_ ?_
  · intro w2 hSw; obtain ⟨g0, g1, g2, g3, g4, g5, g6⟩ := hSw; go_simp
  simp only [List.setIfInBounds_toArray, List.set_cons_zero, List.set_cons_succ]
  refine takeL 5 11 (.pointer (some ⟨cb, 0, none⟩)) HS0.out rfl rfl (by kernel_rfl) (by kernel_rfl) (by kernel_rfl) (by decide) (fun _ _ _ h => h) (by kernel_rfl) ?_ ?_
  · intro w2; go_simp
  simp only [List.setIfInBounds_toArray, List.set_cons_zero, List.set_cons_succ]
  refine takeL 6 12 (.pointer (some ⟨cb, 0, none⟩)) HS0.out rfl rfl (by kernel_rfl) (by kernel_rfl) (by kernel_rfl) (by decide) (fun _ _ _ h => h) (by kernel_rfl) ?_ ?_
  · intro w2; go_simp
  simp only [List.setIfInBounds_toArray, List.set_cons_zero, List.set_cons_succ]
  refine takeL 7 13 (.pointer (some ⟨cb, 5, none⟩)) HS0.out rfl rfl (by kernel_rfl) (by kernel_rfl) (by kernel_rfl) (by decide) (fun _ _ _ h => h) (by kernel_rfl) ?_ ?_
  · intro w2; go_simp
  simp only [List.setIfInBounds_toArray, List.set_cons_zero, List.set_cons_succ]
  refine takeL_S 8 14 (.int .i64 bl) [12] HS0.out rfl rfl (by kernel_rfl) (by kernel_rfl) (by kernel_rfl) (by decide) (by kernel_rfl) (fun _ _ _ h => h) (by kernel_rfl) ?_ ?_
  · intro w2 hSw; obtain ⟨g0, g1, g2, g3, g4, g5, g6⟩ := hSw; go_simp
  simp only [List.setIfInBounds_toArray, List.set_cons_zero, List.set_cons_succ]
  refine takeL 9 15 (.pointer (some ⟨bb, bo + bl.toNat * 5, none⟩)) HS0.out rfl rfl (by kernel_rfl) (by kernel_rfl) (by kernel_rfl) (by decide) (fun _ _ _ h => h) (by kernel_rfl) ?_ ?_
  · intro w2; go_simp
  simp only [List.setIfInBounds_toArray, List.set_cons_zero, List.set_cons_succ]
  refine takeL_S 10 16 (.agg #[.slice (some ⟨bi, bo2, none⟩) ni ki, .int .i64 tk, .int .i64 ta, .int .i64 tt, .int .i64 te]) [12] HS0.out rfl rfl (by kernel_rfl) (by kernel_rfl) (by kernel_rfl) (by decide) (by kernel_rfl) (fun _ _ _ h => h) (by kernel_rfl) ?_ ?_
  · intro w2 hSw; obtain ⟨g0, g1, g2, g3, g4, g5, g6⟩ := hSw; go_simp
  simp only [List.setIfInBounds_toArray, List.set_cons_zero, List.set_cons_succ]
  refine wpAnyL_ready (rs := [11]) (by kernel_rfl) (by simp) ?_
  refine AllReadyL.cons rfl (fun K hK => ?_) AllReadyL.nil
  go_simp
  refine hK.out _ _ (SO.out _ ((HB.out.drew.alloc hbs _))) (fun hHeld => ?_)
  have HS1 := Lib.hid hHeld
  clear hK K hHeld
  try simp only [List.setIfInBounds_toArray, List.set_cons_zero, List.set_cons_succ]
  refine wpAnyL_ready (rs := [12]) (by kernel_rfl) (by simp) ?_
  refine AllReadyL.last rfl (by kernel_rfl) (fun K hK => ?_)
  go_simp
  refine hK.out _ _ ?_
  clear hK K
  try simp only [List.setIfInBounds_toArray, List.set_cons_zero, List.set_cons_succ]
  refine wpAnyL_done (by kernel_rfl) ?_ _
  have hb3' : Below w.heap.size w (W.alloc (.cells #[.slice (some ⟨bi, bo2, none⟩) ni ki, .int .i64 tk, .int .i64 ta, .int .i64 tt, .int .i64 te] 38)).drew := (HB.out.alloc hbs _).drew
  have hx' : Blk (W.alloc (.cells #[.slice (some ⟨bi, bo2, none⟩) ni ki, .int .i64 tk, .int .i64 ta, .int .i64 tt, .int .i64 te] 38)).drew W.heap.size 38 #[.slice (some ⟨bi, bo2, none⟩) ni ki, .int .i64 tk, .int .i64 ta, .int .i64 tt, .int .i64 te] := Blk.drew (Blk.new W _ _)
  generalize (W.alloc (.cells #[.slice (some ⟨bi, bo2, none⟩) ni ki, .int .i64 tk, .int .i64 ta, .int .i64 tt, .int .i64 te] 38)).drew = W3 at *
  have HB3 := Lib.hid hb3'
  have HX3 := Lib.hid hx'
  have y6 : W3.cell? ⟨cb, 6, none⟩ = some (.int .i64 at_) := Y6.out W3 hb3'
  have x0 : W3.cell? ⟨W.heap.size, 0, none⟩ = some (.slice (some ⟨bi, bo2, none⟩) ni ki) := hx'.cell 0
  have e0 : (at_ == (ni : Int)) = false := by rw [beq_dec]; exact decide_eq_false (by omega)
  have hbs3 := hb3'.size
  have hWs := HB.out.size
  clear hb3' hx'
  go_upto_region 2 with fail
  go_quiet (fail)
  have hb4 : Below w.heap.size w (W3.drewN nq) := below_drewN HB3.out _
  have hx4 : Blk (W3.drewN nq) W.heap.size 38 #[.slice (some ⟨bi, bo2, none⟩) ni ki, .int .i64 tk, .int .i64 ta, .int .i64 tt, .int .i64 te] := HX3.out
  have y64 : (W3.drewN nq).cell? ⟨cb, 6, none⟩ = some (.int .i64 at_) := y6
  generalize W3.drewN nq = W4 at *
  have HB4 := Lib.hid hb4
  have HC4 := Lib.hid (HC.out.blk.below hb4 hcl)
  have hcl4 := HC4.out.lt
  have z64 := HC4.out.frozen 6
  have HX4 := Lib.hid hx4
  have hxl4 := hx4.lt
  have w1 : IntKind.i64.wrap (at_ + 1) = at_ + 1 := by rw [IntKind.wrap_i64]; omega
  clear hb4 hx4 y6 x0 HB3 HX3
  go_upto_region 5 with fail
  refine wp_world ?_
  intro W5 hW5
  have hg5 : W4.grownBy W5 (some cb) := by rw [← hW5]; exact grown_set1 W4 ⟨cb, 6, none⟩ _
  have hc5 : CallBlk W5 cb nm pr vl (.slice (some ⟨bb, bo, none⟩) nb kb) vv bl (at_ + 1) into := ⟨by rw [← hW5]; exact HC4.out.set_ 6 _⟩
  have hx5 : Blk W5 W.heap.size 38 #[.slice (some ⟨bi, bo2, none⟩) ni ki, .int .i64 tk, .int .i64 ta, .int .i64 tt, .int .i64 te] := HX4.out.grown hg5 (fun e => by injection e; omega)
  have hci5 : Cells W5 bi (bo2 + at_.toNat * 8) [.int .i64 ik, .int .i64 d, .int .i64 a, .int .i64 b, .int .i64 op, .int .i64 n, .string s, .slice Aa la ca] := HCI.out.keep ((hg5.block bi (Nat.lt_of_lt_of_le hil HB4.out.size) (fun e => hnc (by injection e))).trans (HB4.out.block bi hil))
  clear hW5 y64 z64 w1
  have HG5 := Lib.hid hg5
  have HC5 := Lib.hid hc5
  have HX5 := Lib.hid hx5
  have q0 : W5.cell? ⟨W.heap.size, 0, none⟩ = some (.slice (some ⟨bi, bo2, none⟩) ni ki) := hx5.cell 0
  have q6 : W5.cell? ⟨cb, 6, none⟩ = some (.int .i64 (at_ + 1)) := hc5.blk.cell 6
  have w2 : IntKind.i64.wrap (at_ + 1 - 1) = at_ := by rw [IntKind.wrap_i64]; omega
  have w3 : IntKind.i64.wrap at_ = at_ := by rw [IntKind.wrap_i64]; omega
  have i0 : W5.cell? ⟨bi, bo2 + at_.toNat * 8, none⟩ = some (.int .i64 ik) := hci5.at_ (j := 0) rfl
  have i1 : W5.cell? ⟨bi, bo2 + at_.toNat * 8 + 1, none⟩ = some (.int .i64 d) := hci5.at_ (j := 1) rfl
  have i2 : W5.cell? ⟨bi, bo2 + at_.toNat * 8 + 2, none⟩ = some (.int .i64 a) := hci5.at_ (j := 2) rfl
  have i3 : W5.cell? ⟨bi, bo2 + at_.toNat * 8 + 3, none⟩ = some (.int .i64 b) := hci5.at_ (j := 3) rfl
  have i4 : W5.cell? ⟨bi, bo2 + at_.toNat * 8 + 4, none⟩ = some (.int .i64 op) := hci5.at_ (j := 4) rfl
  have i5 : W5.cell? ⟨bi, bo2 + at_.toNat * 8 + 5, none⟩ = some (.int .i64 n) := hci5.at_ (j := 5) rfl
  have i6 : W5.cell? ⟨bi, bo2 + at_.toNat * 8 + 6, none⟩ = some (.string s) := hci5.at_ (j := 6) rfl
  have i7 : W5.cell? ⟨bi, bo2 + at_.toNat * 8 + 7, none⟩ = some (.slice Aa la ca) := hci5.at_ (j := 7) rfl
  have HE := Lib.hid (HPP.out W4 W5.drew (grown_below' HB4.out) ⟨HG5.out.os, HG5.out.tape, HG5.out.output, HG5.out.size, HG5.out.block⟩ ⟨HC5.out.blk⟩)
  clear hg5 hc5 hx5 hci5
  refine wp_region_L (by kernel_rfl) 10 (fun w2 => w2.cell? ⟨W.heap.size, 0, none⟩ = some (.slice (some ⟨bi, bo2, none⟩) ni ki) ∧ w2.cell? ⟨cb, 6, none⟩ = some (.int .i64 (at_ + 1)) ∧ w2.cell? ⟨bi, bo2 + at_.toNat * 8, none⟩ = some (.int .i64 ik) ∧ w2.cell? ⟨bi, bo2 + at_.toNat * 8 + 1, none⟩ = some (.int .i64 d) ∧ w2.cell? ⟨bi, bo2 + at_.toNat * 8 + 2, none⟩ = some (.int .i64 a) ∧ w2.cell? ⟨bi, bo2 + at_.toNat * 8 + 3, none⟩ = some (.int .i64 b) ∧ w2.cell? ⟨bi, bo2 + at_.toNat * 8 + 4, none⟩ = some (.int .i64 op) ∧ w2.cell? ⟨bi, bo2 + at_.toNat * 8 + 5, none⟩ = some (.int .i64 n) ∧ w2.cell? ⟨bi, bo2 + at_.toNat * 8 + 6, none⟩ = some (.string s) ∧ w2.cell? ⟨bi, bo2 + at_.toNat * 8 + 7, none⟩ = some (.slice Aa la ca)) (⟨q0, q6, i0, i1, i2, i3, i4, i5, i6, i7⟩) (fun hHeld => ?_)
  have HS0 := Lib.hid hHeld
  clear hHeld
  change wpAnyL _ _ _ _ _ 10 11 (Array.replicate 11 false) _ _
  refine takeL 0 36 (.pointer (some ⟨rb, 0, none⟩)) HS0.out rfl rfl (by kernel_rfl) (by kernel_rfl) (by kernel_rfl) (by decide) (fun _ _ _ h => h) (by kernel_rfl) ?_ ?_
  · intro w2; go_simp
  simp only [List.setIfInBounds_toArray, List.set_cons_zero, List.set_cons_succ]
  refine takeL 1 37 (.pointer (some ⟨W.heap.size, 0, none⟩)) HS0.out rfl rfl (by kernel_rfl) (by kernel_rfl) (by kernel_rfl) (by decide) (fun _ _ _ h => h) (by kernel_rfl) ?_ ?_
  · intro w2; go_simp
  simp only [List.setIfInBounds_toArray, List.set_cons_zero, List.set_cons_succ]
  refine takeL_S 2 38 (.slice (some ⟨bi, bo2, none⟩) ni ki) [8, 9, 10] HS0.out rfl rfl (by kernel_rfl) (by kernel_rfl) (by kernel_rfl) (by decide) (by kernel_rfl) (fun _ _ _ h => h) (by kernel_rfl) ?_ ?_
  · intro w2 hSw; obtain ⟨g0, g1, g2, g3, g4, g5, g6, g7, g8, g9⟩ := hSw; go_simp
  simp only [List.setIfInBounds_toArray, List.set_cons_zero, List.set_cons_succ]
  refine takeL 3 39 (.pointer (some ⟨cb, 0, none⟩)) HS0.out rfl rfl (by kernel_rfl) (by kernel_rfl) (by kernel_rfl) (by decide) (fun _ _ _ h => h) (by kernel_rfl) ?_ ?_
  · intro w2; go_simp
  simp only [List.setIfInBounds_toArray, List.set_cons_zero, List.set_cons_succ]
  refine takeL 4 40 (.pointer (some ⟨cb, 0, none⟩)) HS0.out rfl rfl (by kernel_rfl) (by kernel_rfl) (by kernel_rfl) (by decide) (fun _ _ _ h => h) (by kernel_rfl) ?_ ?_
  · intro w2; go_simp
  simp only [List.setIfInBounds_toArray, List.set_cons_zero, List.set_cons_succ]
  refine takeL 5 41 (.pointer (some ⟨cb, 6, none⟩)) HS0.out rfl rfl (by kernel_rfl) (by kernel_rfl) (by kernel_rfl) (by decide) (fun _ _ _ h => h) (by kernel_rfl) ?_ ?_
  · intro w2; go_simp
  simp only [List.setIfInBounds_toArray, List.set_cons_zero, List.set_cons_succ]
  refine takeL_S 6 42 (.int .i64 (at_ + 1)) [7, 8, 9, 10] HS0.out rfl rfl (by kernel_rfl) (by kernel_rfl) (by kernel_rfl) (by decide) (by kernel_rfl) (fun _ _ _ h => h) (by kernel_rfl) ?_ ?_
  · intro w2 hSw; obtain ⟨g0, g1, g2, g3, g4, g5, g6, g7, g8, g9⟩ := hSw; go_simp
  simp only [List.setIfInBounds_toArray, List.set_cons_zero, List.set_cons_succ]
  refine takeL 7 43 (.int .i64 at_) HS0.out rfl rfl (by kernel_rfl) (by kernel_rfl) (by kernel_rfl) (by decide) (fun _ _ _ h => h) (by kernel_rfl) ?_ ?_
  · intro w2; go_simp
  simp only [List.setIfInBounds_toArray, List.set_cons_zero, List.set_cons_succ]
  refine takeL 8 44 (.pointer (some ⟨bi, bo2 + at_.toNat * 8, none⟩)) HS0.out rfl rfl (by kernel_rfl) (by kernel_rfl) (by kernel_rfl) (by decide) (fun _ _ _ h => h) (by kernel_rfl) ?_ ?_
  · intro w2; go_simp
  simp only [List.setIfInBounds_toArray, List.set_cons_zero, List.set_cons_succ]
  refine takeL_S 9 45 (.agg #[.int .i64 ik, .int .i64 d, .int .i64 a, .int .i64 b, .int .i64 op, .int .i64 n, .string s, .slice Aa la ca]) [10] HS0.out rfl rfl (by kernel_rfl) (by kernel_rfl) (by kernel_rfl) (by decide) (by kernel_rfl) (fun _ _ _ h => h) (by kernel_rfl) ?_ ?_
  · intro w2 hSw; obtain ⟨g0, g1, g2, g3, g4, g5, g6, g7, g8, g9⟩ := hSw; go_simp
  simp only [List.setIfInBounds_toArray, List.set_cons_zero, List.set_cons_succ]
  refine wpAnyL_ready (rs := [10]) (by kernel_rfl) (by simp) ?_
  refine AllReadyL.last rfl (by kernel_rfl) (fun K hK => ?_)
  go_simp
  refine HE.out.mono ?_
  rintro e w6 ⟨rfl, hq⟩
  refine hK.out _ _ ?_
  clear hK K
  try simp only [List.setIfInBounds_toArray, List.set_cons_zero, List.set_cons_succ]
  refine wpAnyL_done (by kernel_rfl) ?_ _
  go_wp2
  go_end0
  exact ⟨rfl, W4, W5.drew, grown_below' HB4.out, ⟨HG5.out.os, HG5.out.tape, HG5.out.output, HG5.out.size, HG5.out.block⟩, ⟨HC5.out.blk⟩, hq⟩
end
end Go.Proofs.Ytknccacfhknnaaa
