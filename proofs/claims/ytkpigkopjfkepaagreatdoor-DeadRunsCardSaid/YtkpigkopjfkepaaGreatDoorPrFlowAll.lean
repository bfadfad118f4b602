/- flow.All of a function that may be: what is wanted behind each instruction of each block. -/
import Derived.Test.YtkpigkopjfkepaaGreatDoorPrFlowAfter
import Derived.Test.YtkpigkopjfkepaaGreatDoorPrRegion
import Derived.Deep.DeepCutAuto
import Derived.Deep.CutRange
namespace Go.Proofs.YtkpigkopjfkepaaGreatDoor
open List (setIfInBounds_toArray set_cons_zero set_cons_succ)
open Go.RowKit
open Go.Deep
def RRows (w : World) (ok : Nat → Prop) (cs : List Value) (l : List (List Int)) : Prop := ∃ v, cs = [v] ∧ SlR w ok 1 (RInts w ok) v l
theorem mono_rows : MonoR RRows := fun _ _ _ _ _ _ ⟨v, e, h⟩ a b => ⟨v, e, h.imp a b fun _ _ _ r => mono_ints _ _ _ _ _ _ r a b⟩
noncomputable def allL (f : LFlow) : List (List (List Int)) := f.blocks.map fun b => afterL b.ins (endS b.term (liveS f))
theorem info_rows : (Tryz.prog.info? 109).map (fun i => (i.zero, i.size, i.bytes)) = some (some (.slice none 0 0), 1, 24) := by kernel_rfl
structure LA (f : LFlow) (w w1 : World) (g i : Nat) (wr : World) : Prop where
 below : Below w.heap.size w wr
 grown : w1.grownBy wr (some g)
 row : ∃ vs : List Value, vs.length = i ∧ Blk wr g 109 (liveRow f.blocks.length vs) ∧ ∀ (j : Nat) (h : j < vs.length) (h2 : j < (allL f).length), SlR wr (fun b => w.heap.size ≤ b ∧ b < wr.heap.size ∧ b ≠ g) 1 (RInts wr (fun b => w.heap.size ≤ b ∧ b < wr.heap.size ∧ b ≠ g)) vs[j] (allL f)[j]
set_option maxRecDepth 100000 in
set_option maxHeartbeats 4000000 in
theorem all_any (f : LFlow) (hg : GoodF f) (hf8 : f.blocks.length ≤ 1000) (hil : ∀ b ∈ f.blocks, b.ins.length ≤ 900) (vb : Value) (w : World) (hv : SlR w (· < w.heap.size) 5 (RBlock w (· < w.heap.size)) vb f.blocks) :
  Calls Tryz.prog 49 #[.agg #[.string f.name, .int .i64 f.params, .int .i64 f.values, vb]] w fun e w' => ∃ v, e = .returned v ∧ Below w.heap.size w w' ∧ SlR w' (fun b => w.heap.size ≤ b ∧ b < w'.heap.size) 1 (RRows w' fun b => w.heap.size ≤ b ∧ b < w'.heap.size) v (allL f) := by
 obtain ⟨A, c, hvr, hlc, hcm⟩ := hv.val
 have HV := Lib.hid hv
 have HG := Lib.hid hg
 have HIL := Lib.hid hil
 clear hv hg hil
 subst hvr
 have hal : (allL f).length = f.blocks.length := by simp [allL]
 have HAL := Lib.hid hal
 clear hal
 have hmk := run_make_row' (P := Tryz.prog) 105 109 (.slice none 0 0) 24 Tryz.underlying105 info_rows rfl .i64 .i64 f.blocks.length (by omega) (by omega)
 go_enter Tryz.func49, Tryz.ntmps49
 go_upto_region 1 with fail
 refine wp_world ?_
 intro W hW
 have hB : Below w.heap.size w W := by rw [← hW]; exact below1 _ _
 have hF : Blk W w.heap.size 41 #[.string f.name, .int .i64 f.params, .int .i64 f.values, .slice A f.blocks.length c] := by rw [← hW]; exact Blk.new_at _ _ _ rfl
 clear hW
 have c0 : W.cell? ⟨w.heap.size, 0, none⟩ = some (.string f.name) := hF.cell 0
 have c1 : W.cell? ⟨w.heap.size, 1, none⟩ = some (.int .i64 f.params) := hF.cell 1
 have c2 : W.cell? ⟨w.heap.size, 2, none⟩ = some (.int .i64 f.values) := hF.cell 2
 have c3 : W.cell? ⟨w.heap.size, 3, none⟩ = some (.slice A f.blocks.length c) := hF.cell 3
 have hat : ∀ X, Below w.heap.size w X → SlR X (· < X.heap.size) 5 (RBlock X (· < X.heap.size)) (.slice A f.blocks.length c) f.blocks := fun X hb => HV.out.imp (fun _ h => Nat.lt_of_lt_of_le h hb.size) (fun b h => hb.block b h) (fun _ _ _ r => r.imp (fun _ h => Nat.lt_of_lt_of_le h hb.size) (fun b h => hb.block b h))
 have HAT := Lib.hid hat
 have HM := Lib.hid (may_any f HG.out (.slice A f.blocks.length c) W (hat W hB))
 clear hat
 go_upto_region 3 with (go_at_call 32; refine HM.out.mono ?_; rintro e w1 ⟨rfl, hb1⟩)
 have hws : w.heap.size < w1.heap.size := Nat.lt_of_lt_of_le hF.lt hb1.size
 have hB1 := hB.trans (hb1.mono hB.size)
 have hF1 := hF.below hb1 hF.lt
 clear c0 c1 c2 c3 HM hF hB hb1
 refine wp_world ?_
 intro W1 hW1
 obtain rfl : w1 = W1 := hW1
 go_cut [3, 4] (fun s3 s4 wx => ∃ (Al : Option Addr) (cl g : Nat) (bs : List Nat), s3 = .slice Al bs.length cl ∧ s4 = .slice (some ⟨g, 0, none⟩) f.blocks.length f.blocks.length ∧ Below w1.heap.size w1 wx ∧ w1.heap.size ≤ g ∧ Blk wx g 109 (liveRow f.blocks.length []) ∧ bs.length = f.blocks.length ∧ (∀ b ∈ bs, b ≠ g) ∧ Sets_ wx (fun b => b < wx.heap.size ∧ b ≠ g) (.slice Al bs.length cl) bs (liveS f))
 case first =>
  have e0 : w1.cell? ⟨w.heap.size, 0, none⟩ = some (.string f.name) := hF1.cell 0
  have e1 : w1.cell? ⟨w.heap.size, 1, none⟩ = some (.int .i64 f.params) := hF1.cell 1
  have e2 : w1.cell? ⟨w.heap.size, 2, none⟩ = some (.int .i64 f.values) := hF1.cell 2
  have e3 : w1.cell? ⟨w.heap.size, 3, none⟩ = some (.slice A f.blocks.length c) := hF1.cell 3
  have HWA := Lib.hid (fun (X : World) (hb : Below w1.heap.size w1 X) => wanted_any f HG.out hf8 A c X (HAT.out X (hB1.trans (hb.mono (Nat.le_of_lt hws)))))
  have SO : Hid (∀ Y, Below w1.heap.size w1 Y → (fun w2 => w2.cell? ⟨w.heap.size, 0, none⟩ = some (.string f.name) ∧ w2.cell? ⟨w.heap.size, 1, none⟩ = some (.int .i64 f.params) ∧ w2.cell? ⟨w.heap.size, 2, none⟩ = some (.int .i64 f.values) ∧ w2.cell? ⟨w.heap.size, 3, none⟩ = some (.slice A f.blocks.length c)) Y) := Lib.hid (fun Y hb => by have h := hF1.below hb hws; exact ⟨h.cell 0, h.cell 1, h.cell 2, h.cell 3⟩)
  clear e0 e1 e2 e3
  have hz0 : Below w1.heap.size w1 w1.drew := (Below.refl _ _).drew
  refine wp_region_L (by kernel_rfl) 7 (fun w2 => w2.cell? ⟨w.heap.size, 0, none⟩ = some (.string f.name) ∧ w2.cell? ⟨w.heap.size, 1, none⟩ = some (.int .i64 f.params) ∧ w2.cell? ⟨w.heap.size, 2, none⟩ = some (.int .i64 f.values) ∧ w2.cell? ⟨w.heap.size, 3, none⟩ = some (.slice A f.blocks.length c)) (SO.out _ hz0) (fun hHeld => ?_)
  have HS0 := Lib.hid hHeld
  clear hHeld
  change wpAnyL _ _ _ _ _ 7 8 (Array.replicate 8 false) _ _
  generalize w1.drew = X0 at *
  have HZ0 := Lib.hid hz0
  clear hz0
  refine tS 0 10 (.agg #[.string f.name, .int .i64 f.params, .int .i64 f.values, .slice A f.blocks.length c]) [7] HS0.out rfl rfl ?_ ?_
  ·intro w2 hSw; obtain ⟨g0, g1, g2, g3⟩ := hSw; go_simp
  try simp only [setIfInBounds_toArray, set_cons_zero, set_cons_succ]
  refine tL 2 12 (.pointer (some ⟨w.heap.size, 3, none⟩)) HS0.out rfl rfl ?_ ?_
  ·intro w2; go_simp
  try simp only [setIfInBounds_toArray, set_cons_zero, set_cons_succ]
  refine tS 3 13 (.slice A f.blocks.length c) [7] HS0.out rfl rfl ?_ ?_
  ·intro w2 hSw; obtain ⟨g0, g1, g2, g3⟩ := hSw; go_simp
  try simp only [setIfInBounds_toArray, set_cons_zero, set_cons_succ]
  refine tL 4 14 (.int .i64 (f.blocks.length : Int)) HS0.out rfl rfl ?_ ?_
  ·intro w2; go_simp
  try simp only [setIfInBounds_toArray, set_cons_zero, set_cons_succ]
  refine wpAnyL_ready (rs := [1, 5]) (by kernel_rfl) (by simp) ?_
  refine AllReadyL.cons rfl (fun K hK => ?_) (AllReadyL.cons rfl (fun K hK => ?_) AllReadyL.nil)
  ·go_simp
   refine (HWA.out X0 HZ0.out).mono ?_
   rintro e X1 ⟨vl, bs, rfl, hx, hbl, hbge, hsets⟩
   obtain ⟨Al, cl, hvl, _, _⟩ := hsets.row.val
   subst hvl
   have HZ1 := Lib.hid (HZ0.out.trans (hx.mono HZ0.out.size))
   have HX := Lib.hid hx
   have HBL := Lib.hid hbl
   have HBG := Lib.hid hbge
   have HST := Lib.hid hsets
   clear hx hbl hbge hsets
   refine hK.out _ _ (SO.out _ HZ1.out) (fun hHeld => ?_)
   have HS1 := Lib.hid hHeld
   clear hK K hHeld
   try simp only [setIfInBounds_toArray, set_cons_zero, set_cons_succ]
   refine tL 6 3 (.slice Al bs.length cl) HS1.out rfl rfl ?_ ?_
   ·intro w2; go_simp
   try simp only [setIfInBounds_toArray, set_cons_zero, set_cons_succ]
   refine wpAnyL_ready (rs := [5]) (by kernel_rfl) (by simp) ?_
   refine AllReadyL.cons rfl (fun K hK => ?_) AllReadyL.nil
   go_simp
   refine hK.out _ _ (SO.out _ (HZ1.out.alloc HZ1.out.size _)) (fun hHeld => ?_)
   have HS2 := Lib.hid hHeld
   clear hK K hHeld
   try simp only [setIfInBounds_toArray, set_cons_zero, set_cons_succ]
   refine wpAnyL_ready (rs := [7]) (by kernel_rfl) (by simp) ?_
   refine AllReadyL.last rfl (by kernel_rfl) (fun K hK => ?_)
   go_simp
   refine hK.out _ _ ?_
   clear hK K
   try simp only [setIfInBounds_toArray, set_cons_zero, set_cons_succ]
   refine wpAnyL_done (by kernel_rfl) ?_ _
   go_wp2
   go_meet
   case rel =>
    refine ⟨_, _, X1.heap.size, bs, rfl, rfl, HZ1.out.alloc HZ1.out.size _, HZ1.out.size, ?_, HBL.out, fun b hb e => ?_, HST.out.row.imp (fun b hb => ⟨by have := hb.2; simp; omega, by omega⟩) (fun b hb => Below.heap_alloc _ _ _ hb.2) (fun _ _ _ r => r), fun i hi => (HST.out.each i hi).kept (World.grownBy_alloc _ _ none) (by simp)⟩
    ·rw [show liveRow f.blocks.length [] = madeCells #[.slice none 0 0] f.blocks.length by rw [made_one]; simp [liveRow]]; exact Blk.new_at _ _ _ rfl
    ·obtain ⟨i, hi, rfl⟩ := List.getElem_of_mem hb
     have := (HST.out.each i hi).lt; omega
  ·go_simp
   refine hK.out _ _ (SO.out _ (HZ0.out.alloc HZ0.out.size _)) (fun hHeld => ?_)
   have HS1 := Lib.hid hHeld
   clear hK K hHeld
   try simp only [setIfInBounds_toArray, set_cons_zero, set_cons_succ]
   have hz1 : Below w1.heap.size w1 (X0.alloc (.cells (madeCells #[.slice none 0 0] f.blocks.length) 109)) := HZ0.out.alloc HZ0.out.size _
   have hr1 : Blk (X0.alloc (.cells (madeCells #[.slice none 0 0] f.blocks.length) 109)) X0.heap.size 109 (liveRow f.blocks.length []) := by rw [show liveRow f.blocks.length [] = madeCells #[.slice none 0 0] f.blocks.length by rw [made_one]; simp [liveRow]]; exact Blk.new X0 _ _
   have hx01 : w1.heap.size ≤ X0.heap.size := HZ0.out.size
   generalize X0.alloc (.cells (madeCells #[.slice none 0 0] f.blocks.length) 109) = X1 at *
   have HZ1 := Lib.hid hz1
   have HR1 := Lib.hid hr1
   clear hz1 hr1
   refine wpAnyL_ready (rs := [1]) (by kernel_rfl) (by simp) ?_
   refine AllReadyL.cons rfl (fun K hK => ?_) AllReadyL.nil
   go_simp
   refine (HWA.out X1 HZ1.out).mono ?_
   rintro e X2 ⟨vl, bs, rfl, hx, hbl, hbge, hsets⟩
   obtain ⟨Al, cl, hvl, _, _⟩ := hsets.row.val
   subst hvl
   have HZ2 := Lib.hid (HZ1.out.trans (hx.mono HZ1.out.size))
   have HX := Lib.hid hx
   have HBL := Lib.hid hbl
   have HBG := Lib.hid hbge
   have HST := Lib.hid hsets
   clear hx hbl hbge hsets
   refine hK.out _ _ (SO.out _ HZ2.out) (fun hHeld => ?_)
   have HS2 := Lib.hid hHeld
   clear hK K hHeld
   try simp only [setIfInBounds_toArray, set_cons_zero, set_cons_succ]
   refine tL 6 3 (.slice Al bs.length cl) HS2.out rfl rfl ?_ ?_
   ·intro w2; go_simp
   try simp only [setIfInBounds_toArray, set_cons_zero, set_cons_succ]
   refine wpAnyL_ready (rs := [7]) (by kernel_rfl) (by simp) ?_
   refine AllReadyL.last rfl (by kernel_rfl) (fun K hK => ?_)
   go_simp
   refine hK.out _ _ ?_
   clear hK K
   try simp only [setIfInBounds_toArray, set_cons_zero, set_cons_succ]
   refine wpAnyL_done (by kernel_rfl) ?_ _
   go_wp2
   go_meet
   case rel =>
    have hl1 := HR1.out.lt
    refine ⟨_, _, X0.heap.size, bs, rfl, rfl, HZ2.out, hx01, HR1.out.below HX.out hl1, HBL.out, fun b hb e => by have := HBG.out b hb; omega, HST.out.row.imp (fun b hb => ⟨hb.2, by have := hb.1; omega⟩) (Keeps.refl _ _) (fun _ _ _ r => r), HST.out.each⟩
 case rest =>
  obtain ⟨Al, cl, g, bs, rfl, rfl, hb3, hgge, hR, hbl, hbne, hsets⟩ := hcut
  have hB3 := hB1.trans (hb3.mono hB1.size)
  have hF3 := hF1.below hb3 hws
  have hgl := hR.lt
  have e3 : wc.cell? ⟨w.heap.size, 3, none⟩ = some (.slice A f.blocks.length c) := hF3.cell 3
  have hLA0 : LA f w wc g 0 wc := ⟨hB3, World.grownBy.refl _ _, [], rfl, hR, fun j h => by simp at h⟩
  have HS := Lib.hid hsets
  have HBL := Lib.hid hbl
  have HBN := Lib.hid hbne
  have HB3 := Lib.hid hB3
  clear hsets hbl hbne hR hF1 hF3 hB1 hb3 hB3 hmk
  go_wp2_with fail
  go_loopw [19] (fun s wr => ∃ i : Nat, i ≤ f.blocks.length ∧ s = .int .i64 i ∧ LA f w wc g i wr) (fun s _ => f.blocks.length - (RowKit.intOf s).toNat)
  case atStart => exact ⟨0, by omega, rfl, hLA0⟩
  case round =>
   obtain ⟨i, hi, rfl, hLA⟩ := hrel
   clear hLA0 e3
   by_cases hlt : i < f.blocks.length
   ·have d0 : decide ((i : Int) < (f.blocks.length : Int)) = true := decide_eq_true (by omega)
    have hi3 : (i : Int) < (f.blocks.length : Int) := by omega
    obtain ⟨b, off, c', hform, _, _, hbb, hel⟩ := HV.out.form (by omega)
    obtain ⟨cs, hcl, ⟨vi, hcs, hins⟩, hcell⟩ := hel i hlt
    obtain ⟨rfl, rfl⟩ : A = some ⟨b, off, none⟩ ∧ c = c' := by injection hform with h1 _ h2; exact ⟨h1, h2⟩
    obtain ⟨x, hx⟩ : ∃ x, x = f.blocks[i] := ⟨_, rfl⟩
    have hG : GoodB f.blocks.length x := by rw [hx]; exact HG.out _ (List.getElem_mem _)
    have hxl : x.ins.length ≤ 900 := by rw [hx]; exact HIL.out _ (List.getElem_mem _)
    rw [← hx] at hcs hins
    subst hcs
    obtain ⟨A2, c2, hvi, _, _⟩ := hins.val
    subst hvi
    have hcw := hcell.keep (hLA.below.block b hbb)
    have i0 : wr.cell? ⟨b, off + i * 5, none⟩ = some (.slice A2 x.ins.length c2) := hcw.at_ (j := 0) rfl
    have i1 : wr.cell? ⟨b, off + i * 5 + 1, none⟩ = some (.int .i64 x.term.kind) := hcw.at_ (j := 1) rfl
    have i2 : wr.cell? ⟨b, off + i * 5 + 2, none⟩ = some (.int .i64 x.term.a) := hcw.at_ (j := 2) rfl
    have i3 : wr.cell? ⟨b, off + i * 5 + 3, none⟩ = some (.int .i64 x.term.to) := hcw.at_ (j := 3) rfl
    have i4 : wr.cell? ⟨b, off + i * 5 + 4, none⟩ = some (.int .i64 x.term.els) := hcw.at_ (j := 4) rfl
    have hex : (allL f)[i]'(by rw [HAL.out]; exact hlt) = afterL x.ins (endS x.term (liveS f)) := by simp [allL, hx]
    have HEX := Lib.hid hex
    have HLA := Lib.hid hLA
    have HINS := Lib.hid hins
    have HGB := Lib.hid hG
    have hwr := hLA.below.size
    obtain ⟨vs, hvl, hrow, hvs⟩ := hLA.row
    have HRW := Lib.hid hrow
    have HVL := Lib.hid hvl
    have HVS := Lib.hid hvs
    have hgr := hrow.lt
    have hlr := liveRow_at (n := f.blocks.length) vs (by rw [hvl]; exact hlt)
    rw [hvl] at hlr
    have HLR := Lib.hid hlr
    have HAF : Hid (∀ X, Below wr.heap.size wr X → Calls Tryz.prog 84 #[.agg #[.slice A2 x.ins.length c2, .int .i64 x.term.kind, .int .i64 x.term.a, .int .i64 x.term.to, .int .i64 x.term.els], .slice Al bs.length cl] X (RowsPost (afterL x.ins (endS x.term (liveS f))) X)) := Lib.hid (fun X hb => by
     have hg3 : wc.grownBy X (some g) := HLA.out.grown.trans (grown_of_below hb)
     have hbw := HLA.out.below.trans (hb.mono hwr)
     exact callsIn_wide.1 (after_in x.term x.ins HGB.out.ins hxl A2 c2 (.slice Al bs.length cl) bs (liveS f) X (fun q hq => by rw [HBL.out]; exact HGB.out.next q hq) HGB.out.wants
      ⟨HS.out.row.imp (fun q hq => Nat.lt_of_lt_of_le hq.1 hg3.size) (fun q hq => hg3.block q hq.1 (fun e => hq.2 (by injection e))) (fun _ _ _ r => r), fun j hj => (HS.out.each j hj).kept hg3 (fun e => HBN.out _ (List.getElem_mem hj) (by injection e))⟩
      (HINS.out.imp (fun q hq => Nat.lt_of_lt_of_le hq hbw.size) (fun q hq => hbw.block q hq) (fun _ _ _ r => r.imp (fun q hq => Nat.lt_of_lt_of_le hq hbw.size) (fun q hq => hbw.block q hq)))))
    clear hcell hel hform hcl hrow hvl hvs hLA hlr hins hG hex hx hcw
    go_upto_region 7 with fail
    refine wp_world ?_
    intro W4 hW4
    have hb4 : Below wr.heap.size wr W4 := by rw [← hW4]; exact below1 _ _
    have hX4 : Blk W4 wr.heap.size 48 #[.slice A2 x.ins.length c2, .int .i64 x.term.kind, .int .i64 x.term.a, .int .i64 x.term.to, .int .i64 x.term.els] := by rw [← hW4]; exact Blk.new wr _ _
    have k0 : W4.cell? ⟨wr.heap.size, 0, none⟩ = some (.slice A2 x.ins.length c2) := hX4.cell 0
    have k1 : W4.cell? ⟨wr.heap.size, 1, none⟩ = some (.int .i64 x.term.kind) := hX4.cell 1
    have k2 : W4.cell? ⟨wr.heap.size, 2, none⟩ = some (.int .i64 x.term.a) := hX4.cell 2
    have k3 : W4.cell? ⟨wr.heap.size, 3, none⟩ = some (.int .i64 x.term.to) := hX4.cell 3
    have k4 : W4.cell? ⟨wr.heap.size, 4, none⟩ = some (.int .i64 x.term.els) := hX4.cell 4
    have HB4 := Lib.hid hb4
    clear hW4 hb4 hX4 i0 i1 i2 i3 i4
    go_wp2_with (go_at_call 84; refine (HAF.out W4 HB4.out).mono ?_; rintro e w5 ⟨v5, rfl, hb5', hs5⟩; obtain ⟨A5, c5, hv5, _, _⟩ := hs5.val; subst hv5; have hb5 := HB4.out.trans (hb5'.mono HB4.out.size); have hr5 := HRW.out.below hb5 hgr; have r0 : w5.cell? ⟨g, i, none⟩ = some (.slice none 0 0) := (hr5.cell i).trans HLR.out; have z0 : w5.frozen? ⟨g, i, none⟩ = false := hr5.frozen i)
    go_roundw
    case rel =>
     have hg5 : wr.grownBy (w5.setCell ⟨g, i, none⟩ (.slice A5 (afterL x.ins (endS x.term (liveS f))).length c5)) (some g) := (grown_of_below hb5).trans (grown_set w5 ⟨g, i, none⟩ _)
     have hg6 := grown_set w5 ⟨g, i, none⟩ (.slice A5 (afterL x.ins (endS x.term (liveS f))).length c5)
     have hw4 := HB4.out.size
     refine ⟨i + 1, by omega, by go_num, HLA.out.below.grown hg5 HLA.out.below.size (fun k e => by injection e with e; omega), HLA.out.grown.trans hg5, vs ++ [.slice A5 (afterL x.ins (endS x.term (liveS f))).length c5], by simp [HVL.out], ?_, ?_⟩
     ·rw [← liveRow_set _ _ (by rw [HVL.out]; exact hlt), HVL.out]
      exact hr5.set_ i _
     ·intro j hj hj2
      by_cases hj' : j < vs.length
      ·rw [List.getElem_append_left hj']
       exact (HVS.out j hj' hj2).imp (fun b hb => ⟨hb.1, Nat.lt_of_lt_of_le hb.2.1 hg5.size, hb.2.2⟩) (fun b hb => hg5.block b hb.2.1 (fun e => by injection e with e; exact hb.2.2 e)) (fun _ _ _ h => mono_ints _ _ _ _ _ _ h (fun b hb => ⟨hb.1, Nat.lt_of_lt_of_le hb.2.1 hg5.size, hb.2.2⟩) (fun b hb => hg5.block b hb.2.1 (fun e => by injection e with e; exact hb.2.2 e)))
      ·have : j = vs.length := by simp at hj; omega
       subst this
       rw [List.getElem_append_right (by omega)]
       simp only [Nat.sub_self, List.getElem_singleton]
       have hx2 := HEX.out
       have hvl := HVL.out
       subst hvl
       rw [hx2]
       have hsub : ∀ b, W4.heap.size ≤ b ∧ b < w5.heap.size → w.heap.size ≤ b ∧ b < (w5.setCell ⟨g, vs.length, none⟩ (.slice A5 (afterL x.ins (endS x.term (liveS f))).length c5)).heap.size ∧ b ≠ g := fun b hb => ⟨by omega, Nat.lt_of_lt_of_le hb.2 hg6.size, by omega⟩
       have hkp : Keeps (fun b => W4.heap.size ≤ b ∧ b < w5.heap.size) w5 (w5.setCell ⟨g, vs.length, none⟩ (.slice A5 (afterL x.ins (endS x.term (liveS f))).length c5)) := fun b hb => hg6.block b hb.2 (fun e => by injection e with e; have e' : b = g := e; omega)
       exact hs5.imp hsub hkp (fun _ _ _ h => mono_ints _ _ _ _ _ _ h hsub hkp)
    case measure => simp [RowKit.intOf]; omega
   ·have d0 : decide ((i : Int) < (f.blocks.length : Int)) = false := decide_eq_false (by omega)
    obtain rfl : i = f.blocks.length := by omega
    have HLA := Lib.hid hLA
    clear hLA
    go_wp2
    go_ret
    obtain ⟨vs, hvl, hrow, hvs⟩ := HLA.out.row
    have hgr := hrow.lt
    have hal := HAL.out
    refine ⟨_, rfl, HLA.out.below, ?_⟩
    refine ⟨some ⟨g, 0, none⟩, f.blocks.length, by rw [hal]; rfl, by omega, by unfold maxLen; omega, .inr ⟨g, 0, rfl, ⟨by omega, hgr⟩, fun j hj => ?_⟩⟩
    have hj' : j < vs.length := by omega
    have hsub : ∀ b, (w.heap.size ≤ b ∧ b < wr.heap.size ∧ b ≠ g) → w.heap.size ≤ b ∧ b < wr.heap.size := fun b hb => ⟨hb.1, hb.2.1⟩
    refine ⟨[vs[j]], rfl, ⟨vs[j], rfl, (hvs j hj' hj).imp hsub (Keeps.refl _ _) (fun _ _ _ h => mono_ints _ _ _ _ _ _ h hsub (Keeps.refl _ _))⟩, ?_⟩
    intro q hq
    have hq' : q < 1 := hq
    obtain rfl : q = 0 := by omega
    rw [hrow.cell]
    simpa using liveRow_get vs j hj'
end Go.Proofs.YtkpigkopjfkepaaGreatDoor
