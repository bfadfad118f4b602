/- dead.sweep: one sweep over a function in memory. Printed by wip/gen_deadsweep.py. -/
import Derived.Test.YtkpigkopjfkepaaGreatDoorPrDeadMU
import Derived.Test.YtkpigkopjfkepaaGreatDoorPrFlowAll
import Derived.BigQuiet
namespace Go.Proofs.YtkpigkopjfkepaaGreatDoor
open List (setIfInBounds_toArray set_cons_zero set_cons_succ)
open Go.RowKit
open Go.Deep
theorem says_any {f : LFlow} {i : Nat} (hi : i < f.blocks.length) (hi2 : i < (allL f).length) (kb ab ib : Nat) (va : Value) (w : World) {ok : Nat → Prop} (hok : ∀ b, ok b → b < kb) (hab : ab < kb) (hib : ib < kb) (hkb : kb < w.heap.size)
  (ha : w.cell? ⟨ab, 0, none⟩ = some va) (hI : w.cell? ⟨ib, 0, none⟩ = some (.int .i64 (i : Int))) (hL : SlR w ok 1 (RRows w ok) va (allL f)) : DelSays w kb ab ib (fun k => idleN ((allL f)[i].getD k []) (f.blocks[i].ins.getD k ⟨0, 0, 0, 0, 0, 0, ⟨#[]⟩, []⟩)) f.blocks[i].ins := by
 intro X k hk A c hX
 have e : (allL f)[i] = afterL f.blocks[i].ins (endS f.blocks[i].term (liveS f)) := by simp [allL]
 have hk2 : k < (allL f)[i].length := by rw [e, afterL_len]; omega
 have h := sweep1_any (allL f) i k hi2 hk2 kb ab ib va w hok hab hib ha hI hL f.blocks[i].ins[k] A c X hX hkb
 have e2 : idleN ((allL f)[i].getD k []) (f.blocks[i].ins.getD k ⟨0, 0, 0, 0, 0, 0, ⟨#[]⟩, []⟩) = idleN (allL f)[i][k] f.blocks[i].ins[k] := by
  simp only [List.getD, List.getElem?_eq_getElem hk, List.getElem?_eq_getElem hk2, Option.getD_some]
 simp only [e2]
 exact h
theorem belowN (w : World) (n : Nat) : Below w.heap.size w (w.drewN n) := ⟨rfl, rfl, rfl, Nat.le_refl _, fun _ _ => rfl⟩
theorem ins_rows {w : World} {ok : Nat → Prop} {l : List LIns} {css : List (List Value)} (hl : css.length = l.length) (hR : ∀ (j : Nat) (h1 : j < css.length) (h2 : j < l.length), RIns w ok css[j] l[j]) : InsRows l css :=
 ⟨hl, fun i h1 h2 => by
  obtain ⟨va, e, hs⟩ := hR i h1 h2
  obtain ⟨A, c, hv, _, _⟩ := hs.val
  subst hv
  exact ⟨A, c, e⟩⟩
theorem sweep_cut {f : LFlow} {S0 xb fb : Nat} {w Z0 Xc Xa Xe : World} {g cap ab n0 : Nat} {css : List (List Value)} {va x0 : Value} {T : TypeId} (hB : Below w.heap.size w Z0) (hrow : Xc.ownsRow n0 48 5 (.slice (some ⟨g, 0, none⟩) f.blocks.length cap) f.blocks.length css.flatten) (hn0 : w.heap.size ≤ n0) (hc : Below Xc.heap.size Xc Z0)
  (hl : css.length = f.blocks.length) (hs : ∀ cs ∈ css, cs.length = 5) (hR : ∀ (i : Nat) (h1 : i < css.length) (h2 : i < f.blocks.length), RBlock w (okF S0 xb fb w) css[i] f.blocks[i]) (hblk : Blk Z0 ab T #[x0]) (hab : w.heap.size ≤ ab) (habg : ab ≠ g)
  (hall : SlR Xe (fun b => Xa.heap.size ≤ b ∧ b < Xe.heap.size) 1 (RRows Xe (fun b => Xa.heap.size ≤ b ∧ b < Xe.heap.size)) va (allL f)) (he : Below Xe.heap.size Xe Z0) (hga : g < Xa.heap.size) (haba : ab < Xa.heap.size ∨ Xe.heap.size ≤ ab) :
  Below w.heap.size w (Z0.setCell ⟨ab, 0, none⟩ va) ∧ OwnX (Z0.setCell ⟨ab, 0, none⟩ va) (okF S0 xb fb w) w.heap.size 48 5 RBlock (.slice (some ⟨g, 0, none⟩) f.blocks.length cap) f.blocks css ∧ Blk (Z0.setCell ⟨ab, 0, none⟩ va) ab T #[va] ∧ w.heap.size ≤ ab ∧ ab ≠ g ∧
   SlR (Z0.setCell ⟨ab, 0, none⟩ va) (fun b => b < (Z0.setCell ⟨ab, 0, none⟩ va).heap.size ∧ b ≠ g ∧ b ≠ ab) 1 (RRows (Z0.setCell ⟨ab, 0, none⟩ va) (fun b => b < (Z0.setCell ⟨ab, 0, none⟩ va).heap.size ∧ b ≠ g ∧ b ≠ ab)) va (allL f) := by
 have hz : (Z0.setCell ⟨ab, 0, none⟩ va).heap.size = Z0.heap.size := by simp [World.setCell]
 have hBs := hB.setCell (p := ⟨ab, 0, none⟩) hab va
 have hgl := hrow.lt g rfl
 refine ⟨hBs, ?_, hblk.set_ 0 va, hab, habg, ?_⟩
 ·have h1 := (own_low hrow hn0).kept (grown_of_below (row := none) hc) (Classical.em _)
  have h2 := h1.kept (grown_set Z0 ⟨ab, 0, none⟩ va) (.inr (by simp [Value.ownBlock]; exact fun e => habg e.symm))
  exact OwnX.cloned mono_block h2 hl hs hR (fun b hb => hBs.block b hb.2) (fun _ h => h) (fun b e e2 => by have e' : g = b := (by simpa [Value.ownBlock] using e); have := e2.2; omega)
 ·have hes := he.size
  have hsub : ∀ b, Xa.heap.size ≤ b ∧ b < Xe.heap.size → b < (Z0.setCell ⟨ab, 0, none⟩ va).heap.size ∧ b ≠ g ∧ b ≠ ab := fun b hb => ⟨by omega, by omega, by omega⟩
  have hk : Keeps (fun b => Xa.heap.size ≤ b ∧ b < Xe.heap.size) Xe (Z0.setCell ⟨ab, 0, none⟩ va) := fun b hb => (Below.heap_setCell Z0 ⟨ab, 0, none⟩ va b (by show b ≠ ab; omega)).trans (he.block b hb.2)
  exact hall.imp hsub hk (fun _ _ _ r => mono_rows _ _ _ _ _ _ r hsub hk)
structure SwAt (S0 xb fb : Nat) (f : LFlow) (wc : World) (base g cap i : Nat) (css : List (List Value)) (wr : World) : Prop where
 grown : wc.grownBy wr (some g)
 own : OwnX wr (fun b => okF S0 xb fb wr b ∧ b ≠ g) base 48 5 RBlock (.slice (some ⟨g, 0, none⟩) f.blocks.length cap) (mixB f i) css
theorem SwAt.below {S0 xb fb : Nat} {f : LFlow} {wc : World} {base g cap i : Nat} {css : List (List Value)} {wr Y : World} (h : SwAt S0 xb fb f wc base g cap i css wr) (hb : Below wr.heap.size wr Y) : SwAt S0 xb fb f wc base g cap i css Y :=
 ⟨h.grown.trans (grown_of_below hb), h.own.below mono_block hb (fun b hb0 => hb0.1.2) (fun b hb0 => ⟨okF_up hb.size b hb0.1, hb0.2⟩) (fun b e e2 => by have e' : g = b := (by simpa [Value.ownBlock] using e); exact e2.2 e'.symm)⟩
theorem SwAt.next {S0 xb fb : Nat} {f : LFlow} {wc : World} {base g cap i : Nat} {css : List (List Value)} {wr : World} (h : SwAt S0 xb fb f wc base g cap i css wr) (hi : i < f.blocks.length) {Y : World} {v2 : Value} {css2 : List (List Value)} {q : Nat → Bool} {n2 : Nat} {ok0 : Nat → Prop} {w0 : World}
  (hfg : fb < g) (_ : S0 ≤ fb) (hb : Below wr.heap.size wr Y) (hrow : Y.ownsRow n2 44 8 v2 (keepN q 0 f.blocks[i].ins).length (keepN q 0 css2).flatten) (hn2 : wr.heap.size ≤ n2) (hl2 : css2.length = f.blocks[i].ins.length) (hs2 : ∀ cs ∈ css2, cs.length = 8)
  (hR : ∀ (j : Nat) (h1 : j < css2.length) (h2 : j < f.blocks[i].ins.length), RIns w0 ok0 css2[j] f.blocks[i].ins[j]) (hok0 : ∀ b, ok0 b → okF S0 xb fb wr b ∧ b ≠ g) (hk0 : Keeps ok0 w0 wr) (hq : keepN q 0 f.blocks[i].ins = (sweepB (liveS f) f.blocks[i]).ins) :
  ∃ css', SwAt S0 xb fb f wc base g cap (i + 1) css' (Y.setCell ⟨g, i * 5, none⟩ v2) := by
 have hgl : g < wr.heap.size := (h.own.row.lt g rfl).2
 have hlen : css.length = f.blocks.length := h.own.len.trans (mixF_len f (by omega))
 have hml := mixF_len f (i := i) (by omega)
 have hz : (Y.setCell ⟨g, i * 5, none⟩ v2).heap.size = Y.heap.size := by simp [World.setCell]
 have hsz := hb.size
 have hgr : wr.grownBy (Y.setCell ⟨g, i * 5, none⟩ v2) (some g) := (grown_of_below hb).trans (grown_set Y ⟨g, i * 5, none⟩ v2)
 have hrowY := h.own.row.kept (grown_of_below (row := none) hb) (Classical.em _)
 rw [hml] at hrowY
 have hput := OwnL.put1 hrowY h.own.each (j := i) (i := 0) (by omega) (by omega) v2 (0 : Nat)
 rw [Nat.add_zero] at hput
 have hkY : Keeps ok0 w0 (Y.setCell ⟨g, i * 5, none⟩ v2) := fun b hb0 => by
  have h0 := hok0 b hb0
  exact (hgr.block b (h0.1.2) (fun e => by injection e with e; exact h0.2 e)).trans (hk0 b hb0)
 have hv2 : (Y.setCell ⟨g, i * 5, none⟩ v2).ownsRow n2 44 8 v2 (keepN q 0 f.blocks[i].ins).length (keepN q 0 css2).flatten :=
  hrow.kept (grown_set Y ⟨g, i * 5, none⟩ v2) (by
   cases e : v2.ownBlock with
   | none => exact .inl rfl
   | some b => exact .inr (fun e2 => by have := (hrow.lt b e).1; injection e2 with e2; have e3 : b = g := e2; omega))
 have hm0 := mixF_get hi
 have hel := h.own.elems i (by omega) (by omega)
 rw [hm0] at hel
 obtain ⟨vi0, hcs, _⟩ := hel
 have hput2 := OwnX.put_to (ok' := fun b => okF S0 xb fb (Y.setCell ⟨g, i * 5, none⟩ v2) b ∧ b ≠ g) (i := 0) (c := v2) (x := sweepB (liveS f) f.blocks[i]) mono_block h.own hml.symm (j := i) (by omega) hput
  (fun b hb0 => hgr.block b hb0.1.2 (fun e => by injection e with e; exact hb0.2 e)) (fun b hb0 => ⟨okF_up (by omega) b hb0.1, hb0.2⟩) (fun e => e.2 rfl) ?_
 ·rw [mixF_set hi] at hput2
  exact ⟨_, h.grown.trans hgr, hput2⟩
 ·refine ⟨v2, by rw [hcs]; rfl, ?_⟩
  rw [← hq]
  have hpair := keepN_pair (q := q) (R := fun cs x => RIns w0 ok0 cs x) (i := 0) hl2 hR
  refine SlR.of_own hv2 rfl (by rw [keepN_len q _ _ 0 hl2]) (fun cs hcs => hs2 cs (keepN_mem hcs)) (fun j h1 h2 => (hpair j h1 h2).imp (fun b hb0 => ⟨okF_up (by omega) b (hok0 b hb0).1, (hok0 b hb0).2⟩) hkY) (fun b e => ?_)
  have := hrow.lt b e
  exact ⟨⟨by omega, by omega⟩, by omega⟩
set_option maxRecDepth 100000 in
set_option maxHeartbeats 16000000 in
theorem sweep_any (f : LFlow) (S0 xb fb : Nat) (hS : S0 ≤ fb) (hg : GoodF f) (hn : 0 < f.blocks.length) (hf8 : f.blocks.length ≤ 1000) (hil : ∀ b ∈ f.blocks, b.ins.length ≤ 900) (A : Option Addr) (c : Nat) (w : World) (h : FlowAt S0 xb fb w f A c) :
  Calls Tryz.prog 24 #[.pointer (some ⟨fb, 0, none⟩)] w fun e w' => e = .returned (.bool (decide (insCount (sweepF f).blocks < insCount f.blocks))) ∧ Below fb w w' ∧ ∃ A' c', FlowAt S0 xb fb w' (sweepF f) A' c' := by
 have hfl := h.lt
 obtain ⟨i0, i1, i2, i3⟩ := h.cells
 have hal : (allL f).length = f.blocks.length := by simp [allL]
 have HH := Lib.hid h
 have HG := Lib.hid hg
 have HIL := Lib.hid hil
 have HAL := Lib.hid hal
 have HCL := Lib.hid (fun (X : World) (hb : Below w.heap.size w X) => clone_block (w0 := w) (ok0 := okF S0 xb fb w) (l := f.blocks) (v := .slice A f.blocks.length c) (by omega) X (h.row.imp (fun _ h => h) (fun b hb0 => hb.block b hb0.2) (fun _ _ _ r => r)) (fun b hb0 => Nat.lt_of_lt_of_le hb0.2 hb.size))
 have HAA := Lib.hid (fun (X : World) (hb : Below w.heap.size w X) => all_any f hg hf8 hil (.slice A f.blocks.length c) X ((h.below hb).all))
 clear h hg hil hal
 go_enter Tryz.func24, Tryz.ntmps24
 go_upto_region 1 with fail
 refine wp_world ?_
 intro W hW
 obtain rfl : w = W := hW
 go_cut [3, 4] (fun s3 s4 wx => ∃ (g cap ab : Nat) (css : List (List Value)) (va : Value) (T : TypeId), s3 = .slice (some ⟨g, 0, none⟩) f.blocks.length cap ∧ s4 = .pointer (some ⟨ab, 0, none⟩) ∧ Below w.heap.size w wx ∧ OwnX wx (okF S0 xb fb w) w.heap.size 48 5 RBlock (.slice (some ⟨g, 0, none⟩) f.blocks.length cap) f.blocks css ∧ Blk wx ab T #[va] ∧ w.heap.size ≤ ab ∧ ab ≠ g ∧ SlR wx (fun b => b < wx.heap.size ∧ b ≠ g ∧ b ≠ ab) 1 (RRows wx (fun b => b < wx.heap.size ∧ b ≠ g ∧ b ≠ ab)) va (allL f))
 case first =>
  have SO : Hid (∀ X, Below w.heap.size w X → (fun w2 => w2.cell? ⟨fb, 0, none⟩ = some (.string f.name) ∧ w2.cell? ⟨fb, 1, none⟩ = some (.int .i64 f.params) ∧ w2.cell? ⟨fb, 2, none⟩ = some (.int .i64 f.values) ∧ w2.cell? ⟨fb, 3, none⟩ = some (.slice A f.blocks.length c)) X) := Lib.hid (fun X hb => by
   obtain ⟨a0, a1, a2, a3⟩ := (HH.out.below hb).cells
   exact ⟨a0, a1, a2, a3⟩)
  have hz0 : Below w.heap.size w w.drew := (Below.refl _ _).drew
  refine wp_region_L (by kernel_rfl) 11 (fun w2 => w2.cell? ⟨fb, 0, none⟩ = some (.string f.name) ∧ w2.cell? ⟨fb, 1, none⟩ = some (.int .i64 f.params) ∧ w2.cell? ⟨fb, 2, none⟩ = some (.int .i64 f.values) ∧ w2.cell? ⟨fb, 3, none⟩ = some (.slice A f.blocks.length c)) (SO.out _ hz0) (fun hHeld => ?_)
  have HS0 := Lib.hid hHeld
  clear hHeld
  change wpAnyL _ _ _ _ _ 11 12 (Array.replicate 12 false) _ _
  generalize w.drew = X0 at *
  have HZ0 := Lib.hid hz0
  clear hz0
  refine tL 0 8 (.pointer (some ⟨fb, 0, none⟩)) HS0.out rfl rfl ?_ ?_
  ·intro w2; go_simp
  try simp only [setIfInBounds_toArray, set_cons_zero, set_cons_succ]
  refine tL 1 9 (.pointer (some ⟨fb, 0, none⟩)) HS0.out rfl rfl ?_ ?_
  ·intro w2; go_simp
  try simp only [setIfInBounds_toArray, set_cons_zero, set_cons_succ]
  refine tL 2 10 (.pointer (some ⟨fb, 3, none⟩)) HS0.out rfl rfl ?_ ?_
  ·intro w2; go_simp
  try simp only [setIfInBounds_toArray, set_cons_zero, set_cons_succ]
  refine tS 3 11 (.slice A f.blocks.length c) [11] HS0.out rfl rfl ?_ ?_
  ·intro w2 hSw; obtain ⟨g0, g1, g2, g3⟩ := hSw; go_simp
  try simp only [setIfInBounds_toArray, set_cons_zero, set_cons_succ]
  refine tL 5 13 (.pointer (some ⟨fb, 0, none⟩)) HS0.out rfl rfl ?_ ?_
  ·intro w2; go_simp
  try simp only [setIfInBounds_toArray, set_cons_zero, set_cons_succ]
  refine tL 6 14 (.pointer (some ⟨fb, 0, none⟩)) HS0.out rfl rfl ?_ ?_
  ·intro w2; go_simp
  try simp only [setIfInBounds_toArray, set_cons_zero, set_cons_succ]
  refine tS 7 15 (.agg #[.string f.name, .int .i64 f.params, .int .i64 f.values, .slice A f.blocks.length c]) [11] HS0.out rfl rfl ?_ ?_
  ·intro w2 hSw; obtain ⟨g0, g1, g2, g3⟩ := hSw; go_simp
  try simp only [setIfInBounds_toArray, set_cons_zero, set_cons_succ]
  refine wpAnyL_ready (rs := [4, 9]) (by kernel_rfl) (by simp) ?_
  refine AllReadyL.cons rfl (fun K hK => ?_) (AllReadyL.cons rfl (fun K hK => ?_) AllReadyL.nil)
  ·go_simp
   refine (HCL.out X0 HZ0.out).mono ?_
   rintro e X1 ⟨v1, css, rfl, hx, hrow1, hl1, hs1, hR1, _⟩
   obtain ⟨g, cp, hv1, hg1, hg2, _⟩ := own_some hrow1 hn
   subst hv1
   have HZ1 := Lib.hid (HZ0.out.trans (hx.mono HZ0.out.size))
   have HXC := Lib.hid hx
   have HROW := Lib.hid hrow1
   have HL1 := Lib.hid hl1
   have HS1' := Lib.hid hs1
   have HR1 := Lib.hid hR1
   have hszc := HZ0.out.size
   clear hx hrow1 hl1 hs1 hR1
   refine hK.out _ _ (SO.out _ HZ1.out) (fun hHeld => ?_)
   have HS1 := Lib.hid hHeld
   clear hK K hHeld
   try simp only [setIfInBounds_toArray, set_cons_zero, set_cons_succ]
   refine wpAnyL_ready (rs := [8, 9]) (by kernel_rfl) (by simp) ?_
   refine AllReadyL.cons rfl (fun K hK => ?_) (AllReadyL.cons rfl (fun K hK => ?_) AllReadyL.nil)
   ·go_simp
    refine (HAA.out X1 HZ1.out).mono ?_
    rintro e X2 ⟨va, rfl, hx, hs2⟩
    obtain ⟨A8, c8, hva8, _, _⟩ := hs2.val
    subst hva8
    have HZ2 := Lib.hid (HZ1.out.trans (hx.mono HZ1.out.size))
    have HXA := Lib.hid hx
    have HALL := Lib.hid hs2
    have hsza := HZ1.out.size
    have hszx := hx.size
    clear hx hs2
    refine hK.out _ _ (SO.out _ HZ2.out) (fun hHeld => ?_)
    have HS2 := Lib.hid hHeld
    clear hK K hHeld
    try simp only [setIfInBounds_toArray, set_cons_zero, set_cons_succ]
    refine wpAnyL_ready (rs := [9]) (by kernel_rfl) (by simp) ?_
    refine AllReadyL.cons rfl (fun K hK => ?_) AllReadyL.nil
    go_simp
    refine hK.out _ _ (SO.out _ (HZ2.out.alloc HZ2.out.size _)) (fun hHeld => ?_)
    have HS3 := Lib.hid hHeld
    clear hK K hHeld
    try simp only [setIfInBounds_toArray, set_cons_zero, set_cons_succ]
    have hzz : Below w.heap.size w (X2.alloc (.cells #[.slice none 0 0] 105)) := HZ2.out.alloc HZ2.out.size _
    have hbb : Blk (X2.alloc (.cells #[.slice none 0 0] 105)) X2.heap.size 105 #[.slice none 0 0] := Blk.new X2 _ _
    have hbl : Below X2.heap.size X2 (X2.alloc (.cells #[.slice none 0 0] 105)) := below1 _ _
    have hszb := HZ2.out.size
    generalize X2.alloc (.cells #[.slice none 0 0] 105) = X3 at *
    have HZ3 := Lib.hid hzz
    have HBB := Lib.hid hbb
    have HBL := Lib.hid hbl
    have hblt := hbb.lt
    have hbsz := hbl.size
    clear hzz hbb hbl
    have hbf := HBB.out
    have o0 : X3.cell? ⟨X2.heap.size, 0, none⟩ = some (.slice none 0 0) := hbf.cell 0
    have oz : X3.frozen? ⟨X2.heap.size, 0, none⟩ = false := hbf.frozen 0
    have HBF := Lib.hid hbf
    clear hbf
    refine tL 10 3 (.slice (some ⟨g, 0, none⟩) f.blocks.length cp) HS3.out rfl rfl ?_ ?_
    ·intro w2; go_simp
    try simp only [setIfInBounds_toArray, set_cons_zero, set_cons_succ]
    refine wpAnyL_ready (rs := [11]) (by kernel_rfl) (by simp) ?_
    refine AllReadyL.last rfl (by kernel_rfl) (fun K hK => ?_)
    go_simp
    refine hK.out _ _ ?_
    clear hK K
    try simp only [setIfInBounds_toArray, set_cons_zero, set_cons_succ]
    refine wpAnyL_done (by kernel_rfl) ?_ _
    go_wp2
    go_meet
    case rel =>
     exact ⟨g, cp, X2.heap.size, css, .slice A8 (allL f).length c8, 105, rfl, rfl, sweep_cut HZ3.out HROW.out (by omega) ((HXA.out.mono (Nat.le_refl _)).trans (HBL.out.mono (by omega))) HL1.out HS1'.out HR1.out HBF.out (by omega) (by omega) HALL.out HBL.out (by omega) (.inr (Nat.le_refl _))⟩
   ·go_simp
    refine hK.out _ _ (SO.out _ (HZ1.out.alloc HZ1.out.size _)) (fun hHeld => ?_)
    have HS2 := Lib.hid hHeld
    clear hK K hHeld
    try simp only [setIfInBounds_toArray, set_cons_zero, set_cons_succ]
    have hzz : Below w.heap.size w (X1.alloc (.cells #[.slice none 0 0] 105)) := HZ1.out.alloc HZ1.out.size _
    have hbb : Blk (X1.alloc (.cells #[.slice none 0 0] 105)) X1.heap.size 105 #[.slice none 0 0] := Blk.new X1 _ _
    have hbl : Below X1.heap.size X1 (X1.alloc (.cells #[.slice none 0 0] 105)) := below1 _ _
    have hszb := HZ1.out.size
    generalize X1.alloc (.cells #[.slice none 0 0] 105) = X2 at *
    have HZ2 := Lib.hid hzz
    have HBB := Lib.hid hbb
    have HBL := Lib.hid hbl
    have hblt := hbb.lt
    have hbsz := hbl.size
    clear hzz hbb hbl
    refine wpAnyL_ready (rs := [8]) (by kernel_rfl) (by simp) ?_
    refine AllReadyL.cons rfl (fun K hK => ?_) AllReadyL.nil
    go_simp
    refine (HAA.out X2 HZ2.out).mono ?_
    rintro e X3 ⟨va, rfl, hx, hs2⟩
    obtain ⟨A8, c8, hva8, _, _⟩ := hs2.val
    subst hva8
    have HZ3 := Lib.hid (HZ2.out.trans (hx.mono HZ2.out.size))
    have HXA := Lib.hid hx
    have HALL := Lib.hid hs2
    have hsza := HZ2.out.size
    have hszx := hx.size
    clear hx hs2
    refine hK.out _ _ (SO.out _ HZ3.out) (fun hHeld => ?_)
    have HS3 := Lib.hid hHeld
    clear hK K hHeld
    try simp only [setIfInBounds_toArray, set_cons_zero, set_cons_succ]
    have hbf := HBB.out.below HXA.out hblt
    have o0 : X3.cell? ⟨X1.heap.size, 0, none⟩ = some (.slice none 0 0) := hbf.cell 0
    have oz : X3.frozen? ⟨X1.heap.size, 0, none⟩ = false := hbf.frozen 0
    have HBF := Lib.hid hbf
    clear hbf
    refine tL 10 3 (.slice (some ⟨g, 0, none⟩) f.blocks.length cp) HS3.out rfl rfl ?_ ?_
    ·intro w2; go_simp
    try simp only [setIfInBounds_toArray, set_cons_zero, set_cons_succ]
    refine wpAnyL_ready (rs := [11]) (by kernel_rfl) (by simp) ?_
    refine AllReadyL.last rfl (by kernel_rfl) (fun K hK => ?_)
    go_simp
    refine hK.out _ _ ?_
    clear hK K
    try simp only [setIfInBounds_toArray, set_cons_zero, set_cons_succ]
    refine wpAnyL_done (by kernel_rfl) ?_ _
    go_wp2
    go_meet
    case rel =>
     exact ⟨g, cp, X1.heap.size, css, .slice A8 (allL f).length c8, 105, rfl, rfl, sweep_cut HZ3.out HROW.out (by omega) (HBL.out.trans (HXA.out.mono (by omega))) HL1.out HS1'.out HR1.out HBF.out (by omega) (by omega) HALL.out (Below.refl _ _) (by omega) (.inl (by omega))⟩
  ·go_simp
   refine hK.out _ _ (SO.out _ (HZ0.out.alloc HZ0.out.size _)) (fun hHeld => ?_)
   have HS1 := Lib.hid hHeld
   clear hK K hHeld
   try simp only [setIfInBounds_toArray, set_cons_zero, set_cons_succ]
   have hzz : Below w.heap.size w (X0.alloc (.cells #[.slice none 0 0] 105)) := HZ0.out.alloc HZ0.out.size _
   have hbb : Blk (X0.alloc (.cells #[.slice none 0 0] 105)) X0.heap.size 105 #[.slice none 0 0] := Blk.new X0 _ _
   have hbl : Below X0.heap.size X0 (X0.alloc (.cells #[.slice none 0 0] 105)) := below1 _ _
   have hszb := HZ0.out.size
   generalize X0.alloc (.cells #[.slice none 0 0] 105) = X1 at *
   have HZ1 := Lib.hid hzz
   have HBB := Lib.hid hbb
   have HBL := Lib.hid hbl
   have hblt := hbb.lt
   have hbsz := hbl.size
   clear hzz hbb hbl
   refine wpAnyL_ready (rs := [4]) (by kernel_rfl) (by simp) ?_
   refine AllReadyL.cons rfl (fun K hK => ?_) AllReadyL.nil
   go_simp
   refine (HCL.out X1 HZ1.out).mono ?_
   rintro e X2 ⟨v1, css, rfl, hx, hrow1, hl1, hs1, hR1, _⟩
   obtain ⟨g, cp, hv1, hg1, hg2, _⟩ := own_some hrow1 hn
   subst hv1
   have HZ2 := Lib.hid (HZ1.out.trans (hx.mono HZ1.out.size))
   have HXC := Lib.hid hx
   have HROW := Lib.hid hrow1
   have HL1 := Lib.hid hl1
   have HS1' := Lib.hid hs1
   have HR1 := Lib.hid hR1
   have hszc := HZ1.out.size
   clear hx hrow1 hl1 hs1 hR1
   refine hK.out _ _ (SO.out _ HZ2.out) (fun hHeld => ?_)
   have HS2 := Lib.hid hHeld
   clear hK K hHeld
   try simp only [setIfInBounds_toArray, set_cons_zero, set_cons_succ]
   refine wpAnyL_ready (rs := [8]) (by kernel_rfl) (by simp) ?_
   refine AllReadyL.cons rfl (fun K hK => ?_) AllReadyL.nil
   go_simp
   refine (HAA.out X2 HZ2.out).mono ?_
   rintro e X3 ⟨va, rfl, hx, hs2⟩
   obtain ⟨A8, c8, hva8, _, _⟩ := hs2.val
   subst hva8
   have HZ3 := Lib.hid (HZ2.out.trans (hx.mono HZ2.out.size))
   have HXA := Lib.hid hx
   have HALL := Lib.hid hs2
   have hsza := HZ2.out.size
   have hszx := hx.size
   clear hx hs2
   refine hK.out _ _ (SO.out _ HZ3.out) (fun hHeld => ?_)
   have HS3 := Lib.hid hHeld
   clear hK K hHeld
   try simp only [setIfInBounds_toArray, set_cons_zero, set_cons_succ]
   have hsz2 := HXC.out.size
   have hbf := (HBB.out.below HXC.out hblt).below HXA.out (by omega)
   have o0 : X3.cell? ⟨X0.heap.size, 0, none⟩ = some (.slice none 0 0) := hbf.cell 0
   have oz : X3.frozen? ⟨X0.heap.size, 0, none⟩ = false := hbf.frozen 0
   have HBF := Lib.hid hbf
   clear hbf
   refine tL 10 3 (.slice (some ⟨g, 0, none⟩) f.blocks.length cp) HS3.out rfl rfl ?_ ?_
   ·intro w2; go_simp
   try simp only [setIfInBounds_toArray, set_cons_zero, set_cons_succ]
   refine wpAnyL_ready (rs := [11]) (by kernel_rfl) (by simp) ?_
   refine AllReadyL.last rfl (by kernel_rfl) (fun K hK => ?_)
   go_simp
   refine hK.out _ _ ?_
   clear hK K
   try simp only [setIfInBounds_toArray, set_cons_zero, set_cons_succ]
   refine wpAnyL_done (by kernel_rfl) ?_ _
   go_wp2
   go_meet
   case rel =>
    exact ⟨g, cp, X0.heap.size, css, .slice A8 (allL f).length c8, 105, rfl, rfl, sweep_cut HZ3.out HROW.out (by omega) HXA.out HL1.out HS1'.out HR1.out HBF.out (by omega) (by omega) HALL.out (Below.refl _ _) (by omega) (.inl (by omega))⟩
 case rest =>
  obtain ⟨g, cap, ab, css, va, T, rfl, rfl, hbc, hown, hab, habl, habg, hall⟩ := hcut
  have hgl := hown.row.lt g rfl
  have HR := HH.out.row
  have HFc := HH.out.below hbc
  obtain ⟨c0, c1, c2, c3⟩ := HFc.cells
  have hst : SwAt S0 xb fb f wc w.heap.size g cap 0 css wc := ⟨World.grownBy.refl _ _, by
   rw [mixF_zero]
   exact hown.keep mono_block hown.row (fun b hb0 => ⟨okF_up hbc.size b hb0, by have := hb0.2; omega⟩) (Keeps.refl _ _) (fun b e e2 => by have e' : g = b := (by simpa [Value.ownBlock] using e); exact e2.2 e'.symm)⟩
  have HST := Lib.hid hst
  have HALL := Lib.hid hall
  have HAB := Lib.hid hab
  have HBC := Lib.hid hbc
  have habw := hab.lt
  have hz := had_zero f
  clear hst hall hab hbc hown HFc HCL HAA i0 i1 i2 i3 c0 c1 c2
  go_wp2_with fail
  go_loopw [2, 22] (fun s2 s wr => ∃ i : Nat, i ≤ f.blocks.length ∧ s = .int .i64 i ∧ s2 = .bool (hadB f i) ∧ ∃ css, SwAt S0 xb fb f wc w.heap.size g cap i css wr) (fun _ s _ => f.blocks.length - (intOf s).toNat)
  case atStart => exact ⟨0, by omega, rfl, by rw [hz], _, HST.out⟩
  case round =>
   obtain ⟨i, hi, rfl, rfl, css, hsw⟩ := hrel
   clear HST hz
   have hwcr := hsw.grown.size
   by_cases hlt : i < f.blocks.length
   ·have d0 : decide ((i : Int) < (f.blocks.length : Int)) = true := decide_eq_true (by omega)
    have hi3 : (i : Int) < (f.blocks.length : Int) := by omega
    obtain ⟨ga, oa, ca, hform, _, _, hga, hq⟩ := HR.form (by omega)
    obtain ⟨rfl, rfl⟩ : A = some ⟨ga, oa, none⟩ ∧ c = ca := by injection hform with h1 _ h2; exact ⟨h1, h2⟩
    obtain ⟨cs, _, ⟨vi, hcs, hsi⟩, hcell⟩ := hq i hlt
    subst hcs
    have hsz := HBC.out.size
    have hkw : ∀ b, b < w.heap.size → wr.heap[b]? = w.heap[b]? := fun b hb0 => (hsw.grown.block b (by omega) (fun e => by injection e with e; omega)).trans (HBC.out.block b hb0)
    obtain ⟨bk, hbe⟩ : ∃ bk, bk = f.blocks[i] := ⟨_, rfl⟩
    have hbm : bk ∈ f.blocks := by rw [hbe]; exact List.getElem_mem _
    rw [← hbe] at hcell hsi
    obtain ⟨Ai, ci, hvi, _, _⟩ := hsi.val
    subst hvi
    have hbl : bk.ins.length ≤ 900 := HIL.out bk hbm
    have hcw := hcell.keep (hkw ga hga.2)
    have j0 : wr.cell? ⟨ga, oa + i * 5, none⟩ = some (.slice Ai bk.ins.length ci) := by have h := hcw.at_ (j := 0) rfl; simpa using h
    have j1 : wr.cell? ⟨ga, oa + i * 5 + 1, none⟩ = some (.int .i64 bk.term.kind) := hcw.at_ (j := 1) rfl
    have j2 : wr.cell? ⟨ga, oa + i * 5 + 2, none⟩ = some (.int .i64 bk.term.a) := hcw.at_ (j := 2) rfl
    have j3 : wr.cell? ⟨ga, oa + i * 5 + 3, none⟩ = some (.int .i64 bk.term.to) := hcw.at_ (j := 3) rfl
    have j4 : wr.cell? ⟨ga, oa + i * 5 + 4, none⟩ = some (.int .i64 bk.term.els) := hcw.at_ (j := 4) rfl
    have HSI := Lib.hid hsi
    have HBE := Lib.hid hbe
    have HKW := Lib.hid hkw
    have HSW := Lib.hid hsw
    have hgr : g < wr.heap.size := (hsw.own.row.lt g rfl).2
    clear hcw hcell hq hform hsi hbe hbm hsw hkw
    go_upto_region 6 with fail
    refine wp_world ?_
    intro W6 hW6
    have hb6 : Below wr.heap.size wr W6 := by
     rw [← hW6]
     exact ((below1 wr _).alloc (by simp) _).alloc (by simp; omega) _
    have hI6 : Blk W6 wr.heap.size 3 #[.int .i64 (i : Int)] := by
     rw [← hW6]
     exact ((Blk.new wr _ _).alloc _).alloc _
    have hX6 : Blk W6 (wr.heap.size + 1) 48 #[.slice Ai bk.ins.length ci, .int .i64 bk.term.kind, .int .i64 bk.term.a, .int .i64 bk.term.to, .int .i64 bk.term.els] := by
     rw [← hW6]
     exact (Blk.new_at _ _ _ (by simp)).alloc _
    have hK6 : Blk W6 (wr.heap.size + 2) 3 #[.int .i64 (-1)] := by
     rw [← hW6]
     exact Blk.new_at _ _ _ (by simp)
    have hl6 : wr.heap.size + 2 < W6.heap.size := hK6.lt
    have SO : Hid (∀ X, Below (wr.heap.size + 2) W6 X → (fun w2 => w2.cell? ⟨wr.heap.size, 0, none⟩ = some (.int .i64 (i : Int)) ∧ w2.cell? ⟨wr.heap.size + 1, 0, none⟩ = some (.slice Ai bk.ins.length ci)) X) := Lib.hid (fun X hb => ⟨(hI6.below hb (by omega)).cell 0, (hX6.below hb (by omega)).cell 0⟩)
    have HCI := Lib.hid (fun (X : World) (hb : Below W6.heap.size W6 X) => clone_ins (w0 := w) (ok0 := okF S0 xb fb w) (l := bk.ins) (v := .slice Ai bk.ins.length ci) (by omega) X (HSI.out.imp (fun _ h => h) (fun b hb0 => ((hb.block b (by have := hb0.2; omega)).trans (hb6.block b (by have := hb0.2; omega))).trans (HKW.out b hb0.2)) (fun _ _ _ r => r)) (fun b hb0 => by have h1 := hb0.2; have := hb.size; omega))
    have HK6 := Lib.hid hK6
    have HI6 := Lib.hid hI6
    have HX6 := Lib.hid hX6
    have HB6 := Lib.hid hb6
    have hab6 : Blk W6 ab T #[va] := ((HAB.out.grown HSW.out.grown (fun e => habg (by injection e with e; exact e.symm))).below hb6 (by omega))
    have hall6 : SlR W6 (fun b => b < wc.heap.size ∧ b ≠ g ∧ b ≠ ab) 1 (RRows W6 (fun b => b < wc.heap.size ∧ b ≠ g ∧ b ≠ ab)) va (allL f) := by
     have hk : Keeps (fun b => b < wc.heap.size ∧ b ≠ g ∧ b ≠ ab) wc W6 := fun b hb0 => (hb6.block b (by omega)).trans (HSW.out.grown.block b hb0.1 (fun e => by injection e with e; exact hb0.2.1 e))
     exact HALL.out.imp (fun _ h => h) hk (fun _ _ _ r => mono_rows _ _ _ _ _ _ r (fun _ h => h) hk)
    have HAB6 := Lib.hid hab6
    have HALL6 := Lib.hid hall6
    have hil2 : i < (allL f).length := by rw [HAL.out]; exact hlt
    have hgd0 : GoodF f := HG.out
    have hkeepq := keep_block hlt hgd0 hil2
    obtain ⟨q, hqe⟩ : ∃ q : Nat → Bool, q = fun k => idleN ((allL f)[i].getD k []) (f.blocks[i].ins.getD k ⟨0, 0, 0, 0, 0, 0, ⟨#[]⟩, []⟩) := ⟨_, rfl⟩
    rw [← hqe] at hkeepq
    have HSAY : Hid (∀ X, Below W6.heap.size W6 X → DelSays X (wr.heap.size + 2) ab wr.heap.size q bk.ins) := Lib.hid (fun X hb => by
     rw [HBE.out, hqe]
     have hbx := hb.size
     exact says_any hlt hil2 (wr.heap.size + 2) ab wr.heap.size va X (ok := fun b => b < wc.heap.size ∧ b ≠ g ∧ b ≠ ab) (fun b hb0 => by omega) (by omega) (by omega) (by omega) ((HAB6.out.below hb (by omega)).cell 0) ((HI6.out.below hb (by omega)).cell 0)
      (HALL6.out.imp (fun _ h => h) (fun b hb0 => hb.block b (by omega)) (fun _ _ _ r => mono_rows _ _ _ _ _ _ r (fun _ h => h) (fun b hb0 => hb.block b (by omega)))))
    have HKQ : Hid (keepN q 0 bk.ins = (sweepB (liveS f) bk).ins) := Lib.hid (by rw [HBE.out]; exact hkeepq)
    clear hW6 hb6 hI6 hX6 hK6 hab6 hall6 hkeepq hqe hgd0 j0 j1 j2 j3 j4
    have hz0 : Below W6.heap.size W6 W6.drew := (Below.refl _ _).drew
    refine wp_region_L (by kernel_rfl) 9 (fun w2 => w2.cell? ⟨wr.heap.size, 0, none⟩ = some (.int .i64 (i : Int)) ∧ w2.cell? ⟨wr.heap.size + 1, 0, none⟩ = some (.slice Ai bk.ins.length ci)) (SO.out _ (hz0.mono (by omega))) (fun hHeld => ?_)
    have HS0 := Lib.hid hHeld
    clear hHeld
    change wpAnyL _ _ _ _ _ 9 10 (Array.replicate 10 false) _ _
    generalize W6.drew = X0 at *
    have HZ0 := Lib.hid hz0
    clear hz0
    refine tL 0 27 (.slice (some ⟨g, 0, none⟩) f.blocks.length cap) HS0.out rfl rfl ?_ ?_
    ·intro w2; go_simp
    try simp only [setIfInBounds_toArray, set_cons_zero, set_cons_succ]
    refine tS 1 28 (.int .i64 (i : Int)) [9] HS0.out rfl rfl ?_ ?_
    ·intro w2 hSw; obtain ⟨g0, g1⟩ := hSw; go_simp
    try simp only [setIfInBounds_toArray, set_cons_zero, set_cons_succ]
    refine tL 2 29 (.pointer (some ⟨wr.heap.size + 1, 0, none⟩)) HS0.out rfl rfl ?_ ?_
    ·intro w2; go_simp
    try simp only [setIfInBounds_toArray, set_cons_zero, set_cons_succ]
    refine tS 3 30 (.slice Ai bk.ins.length ci) [9] HS0.out rfl rfl ?_ ?_
    ·intro w2 hSw; obtain ⟨g0, g1⟩ := hSw; go_simp
    try simp only [setIfInBounds_toArray, set_cons_zero, set_cons_succ]
    refine tL 5 32 (.func (.func 51) #[] #[.pointer (some ⟨wr.heap.size + 2, 0, none⟩), .pointer (some ⟨ab, 0, none⟩), .pointer (some ⟨wr.heap.size, 0, none⟩)]) HS0.out rfl rfl ?_ ?_
    ·intro w2; go_simp
    try simp only [setIfInBounds_toArray, set_cons_zero, set_cons_succ]
    refine wpAnyL_ready (rs := [4]) (by kernel_rfl) (by simp) ?_
    refine AllReadyL.cons rfl (fun K hK => ?_) AllReadyL.nil
    go_simp
    refine (HCI.out X0 HZ0.out).mono ?_
    rintro e X1 ⟨v1, css2, rfl, hx1, hrow1, hl1, hs1, hR1, _⟩
    have HZ1 := Lib.hid (HZ0.out.trans (hx1.mono HZ0.out.size))
    have HC1 : Hid (css2.length = bk.ins.length ∧ (∀ cs ∈ css2, cs.length = 8) ∧ ∀ (j : Nat) (h1 : j < css2.length) (h2 : j < bk.ins.length), RIns w (okF S0 xb fb w) css2[j] bk.ins[j]) := Lib.hid ⟨hl1, hs1, hR1⟩
    have hz0s := HZ0.out.size
    have HDEL := Lib.hid (del_any (wr.heap.size + 2) ab wr.heap.size q bk.ins css2 v1 X1 (by omega) (ins_rows hl1 hR1) (own_low hrow1 (by omega)) (HK6.out.below HZ1.out (by omega)) (HSAY.out X1 HZ1.out))
    clear hx1 hrow1 hl1 hs1 hR1
    refine hK.out _ _ (SO.out _ (HZ1.out.mono (by omega))) (fun hHeld => ?_)
    have HS1 := Lib.hid hHeld
    clear hK K hHeld
    try simp only [setIfInBounds_toArray, set_cons_zero, set_cons_succ]
    refine wpAnyL_ready (rs := [6]) (by kernel_rfl) (by simp) ?_
    refine AllReadyL.cons rfl (fun K hK => ?_) AllReadyL.nil
    go_simp
    refine HDEL.out.mono ?_
    rintro e X2 ⟨v2, rfl, hx2, hrow2⟩
    obtain ⟨A5, c5, hv2⟩ := own_form hrow2
    subst hv2
    have HX2 := Lib.hid hx2
    have HD2 := Lib.hid hrow2
    clear hx2 hrow2 HDEL
    refine hK.out _ _ (SO.out _ ((HZ1.out.mono (by omega)).trans HX2.out)) (fun hHeld => ?_)
    have HS2 := Lib.hid hHeld
    clear hK K hHeld
    try simp only [setIfInBounds_toArray, set_cons_zero, set_cons_succ]
    refine tL 7 34 (.pointer (some ⟨g, i * 5, none⟩)) HS2.out rfl rfl ?_ ?_
    ·intro w2; go_simp
    try simp only [setIfInBounds_toArray, set_cons_zero, set_cons_succ]
    refine tL 8 35 (.pointer (some ⟨g, i * 5, none⟩)) HS2.out rfl rfl ?_ ?_
    ·intro w2; go_simp
    try simp only [setIfInBounds_toArray, set_cons_zero, set_cons_succ]
    have hrk := HSW.out.own.row.kept (grown_of_below (row := none) ((HB6.out.trans (HZ1.out.mono HB6.out.size)).trans (HX2.out.mono (by omega)))) (Classical.em _)
    rw [mixF_len f (i := i) (by omega)] at hrk
    obtain ⟨y0, u0⟩ := own_cell hrk (i * 5) (by omega)
    have uz := hrk.frozenAt (i * 5)
    clear hrk
    refine wpAnyL_ready (rs := [9]) (by kernel_rfl) (by simp) ?_
    refine AllReadyL.last rfl (by kernel_rfl) (fun K hK => ?_)
    go_simp
    refine hK.out _ _ ?_
    clear hK K
    try simp only [setIfInBounds_toArray, set_cons_zero, set_cons_succ]
    refine wpAnyL_done (by kernel_rfl) ?_ _
    clear u0 uz
    have hb2r : Below wr.heap.size wr X2 := (HB6.out.trans (HZ1.out.mono HB6.out.size)).trans (HX2.out.mono (by have := HB6.out.size; have := HZ1.out.size; omega))
    obtain ⟨css', hsw'⟩ := HSW.out.next hlt (Y := X2) (v2 := .slice A5 (keepN q 0 bk.ins).length c5) (css2 := css2) (q := q) (n2 := wr.heap.size + 2 + 1) (ok0 := okF S0 xb fb w) (w0 := w) (by omega) hS hb2r (by rw [← HBE.out]; exact HD2.out) (by omega) (by rw [← HBE.out]; exact HC1.out.1) HC1.out.2.1 (by rw [← HBE.out]; exact HC1.out.2.2)
     (fun b hb0 => ⟨okF_up (by omega) b hb0, by have := hb0.2; omega⟩) (fun b hb0 => HKW.out b hb0.2) (by rw [← HBE.out]; exact HKQ.out)
    have hx2 : X2.heap.size = (X2.setCell ⟨g, i * 5, none⟩ (.slice A5 (keepN q 0 bk.ins).length c5)).heap.size := by simp [World.setCell]
    have m0 : (X2.setCell ⟨g, i * 5, none⟩ (.slice A5 (keepN q 0 bk.ins).length c5)).cell? ⟨wr.heap.size, 0, none⟩ = some (.int .i64 (i : Int)) := ((HI6.out.below ((HZ1.out.mono (by omega)).trans HX2.out) (by omega)).far (p := ⟨g, i * 5, none⟩) (by show wr.heap.size ≠ g; omega) _).cell 0
    have m1 : (X2.setCell ⟨g, i * 5, none⟩ (.slice A5 (keepN q 0 bk.ins).length c5)).cell? ⟨wr.heap.size + 1, 0, none⟩ = some (.slice Ai bk.ins.length ci) := ((HX6.out.below ((HZ1.out.mono (by omega)).trans HX2.out) (by omega)).far (p := ⟨g, i * 5, none⟩) (by show wr.heap.size + 1 ≠ g; omega) _).cell 0
    have m2 : (X2.setCell ⟨g, i * 5, none⟩ (.slice A5 (keepN q 0 bk.ins).length c5)).cell? ⟨g, i * 5, none⟩ = some (.slice A5 (keepN q 0 bk.ins).length c5) := by
     have hrk := HSW.out.own.row.kept (grown_of_below (row := none) hb2r) (Classical.em _)
     have hml := mixF_len f (i := i) (by omega)
     rw [hml] at hrk
     obtain ⟨y, hy⟩ := own_cell hrk (i * 5) (by omega)
     exact World.cell?_setCell_same _ _ _ hy
    have HSW2 := Lib.hid hsw'
    have hhs := had_succ hlt
    rw [← HBE.out] at hhs
    have HHS := Lib.hid hhs
    have hkl : (keepN q 0 bk.ins).length = (sweepB (liveS f) bk).ins.length := by rw [HKQ.out]
    have HKL := Lib.hid hkl
    generalize X2.setCell ⟨g, i * 5, none⟩ (.slice A5 (keepN q 0 bk.ins).length c5) = X3 at *
    clear hsw' hb2r hx2 hhs hkl HSAY HKQ HD2 HC1 HX2 HZ1 HZ0 SO HCI HK6 HI6 HX6 HB6 HAB6 HALL6
    cases hhd : hadB f i with
    | true =>
     go_upto_region 7 with fail
     go_quiet (fail)
     go_upto_region 8 with fail
     refine wp_world ?_
     intro wd hwd
     have hbd : Below X3.heap.size X3 wd := by rw [← hwd]; exact belowN X3 _
     have HBD := Lib.hid hbd
     clear hwd hbd m0 m1 m2
     go_wp2_with fail
     go_roundw
     case rel => exact ⟨i + 1, by omega, by go_num, by rw [HHS.out, hhd]; rfl, css', HSW2.out.below HBD.out⟩
     case measure => simp [intOf]; omega
    | false =>
     go_upto_region 7 with fail
     go_quiet (fail)
     go_upto_region 8 with fail
     refine wp_world ?_
     intro wd hwd
     have hbd : Below X3.heap.size X3 wd := by rw [← hwd]; exact belowN X3 _
     have HBD := Lib.hid hbd
     clear hwd hbd m0 m1 m2
     go_wp2_with fail
     go_roundw
     case rel =>
      refine ⟨i + 1, by omega, by go_num, ?_, css', HSW2.out.below HBD.out⟩
      rw [HHS.out, hhd, ← HKL.out, Bool.false_or]
     case measure => simp [intOf]; omega
   ·have d0 : decide ((i : Int) < (f.blocks.length : Int)) = false := decide_eq_false (by omega)
    obtain rfl : i = f.blocks.length := by omega
    have hsl := sweep_len f
    have hfr : wr.heap[fb]? = w.heap[fb]? := (hsw.grown.block fb (by have := HBC.out.size; omega) (fun e => by injection e with e; omega)).trans (HBC.out.block fb hfl)
    have hrw : SlR wr (okF S0 xb fb wr) 5 (RBlock wr (okF S0 xb fb wr)) (.slice (some ⟨g, 0, none⟩) (sweepF f).blocks.length cap) (sweepF f).blocks := by
     have h := hsw.own.slr (ok' := okF S0 xb fb wr) mono_block (fun b hb0 => hb0.1) (fun b e => by have e' : g = b := (by simpa [Value.ownBlock] using e); have := (hsw.own.row.lt g rfl); exact ⟨by omega, by omega⟩)
     rw [mixF_end] at h
     rw [hsl]
     exact h
    have hfin := HH.out.store (Y := wr) hfr hrw hS
    rw [hsl] at hfin
    have hB : Below fb w wr := (HBC.out.mono (by omega)).grown hsw.grown (by have := HBC.out.size; omega) (fun b e => by injection e with e; omega)
    have b3 : wr.cell? ⟨fb, 3, none⟩ = some (.slice A f.blocks.length c) := ((HH.out.blk).keep hfr).cell 3
    have z3 : wr.frozen? ⟨fb, 3, none⟩ = false := ((HH.out.blk).keep hfr).frozen 3
    have HFIN := Lib.hid hfin
    have HBB := Lib.hid hB
    have he := had_end f
    clear hsw hfr hrw hfin hB
    go_wp2
    go_ret
    exact ⟨by rw [he]; rfl, HBB.out.setCell (Nat.le_refl _) _, some ⟨g, 0, none⟩, cap, HFIN.out⟩
end Go.Proofs.YtkpigkopjfkepaaGreatDoor
