/- dead.own: a function in memory of its own. Printed by wip/gen_deadown.py. -/
import Derived.Test.YtkpigkopjfkepaaGreatDoorPrDeadMU
import Derived.BigQuiet
import Derived.Laws.ResultCell
namespace Go.Proofs.YtkpigkopjfkepaaGreatDoor
open List (setIfInBounds_toArray set_cons_zero set_cons_succ)
open Go.RowKit
open Go.Deep
def okB (S0 xb B : Nat) (X : World) (b : Nat) : Prop := (b < S0 ∧ b ≠ xb ∨ B ≤ b) ∧ b < X.heap.size
theorem okB_up {S0 xb B : Nat} {X Y : World} (h : X.heap.size ≤ Y.heap.size) (b : Nat) (hb : okB S0 xb B X b) : okB S0 xb B Y b := ⟨hb.1, by have := hb.2; omega⟩
structure OwAt (S0 xb : Nat) (f : LFlow) (w : World) (g cap : Nat) (css : List (List Value)) (wr : World) : Prop where
 below : Below w.heap.size w wr
 blk : Blk wr w.heap.size 41 #[.string f.name, .int .i64 f.params, .int .i64 f.values, .slice (some ⟨g, 0, none⟩) f.blocks.length cap]
 res : Blk wr (w.heap.size + 1) 41 #[.string ⟨#[]⟩, .int .i64 0, .int .i64 0, .slice none 0 0]
 own : OwnX wr (fun b => okB S0 xb (w.heap.size + 2) wr b ∧ b ≠ g) (w.heap.size + 2) 48 5 RBlock (.slice (some ⟨g, 0, none⟩) f.blocks.length cap) f.blocks css
structure InAt (S0 xb B g : Nat) (l : List LIns) (X2 : World) (n1 : Nat) (v : Value) (iss : List (List Value)) (wk : World) : Prop where
 grown : X2.grownBy wk v.ownBlock
 own : OwnX wk (fun b => (okB S0 xb B wk b ∧ b ≠ g) ∧ v.ownBlock ≠ some b) n1 44 8 RIns v l iss
section
variable {S0 xb : Nat} {f : LFlow} {w wr : World} {g cap i : Nat} {css : List (List Value)}
theorem OwAt.next (h : OwAt S0 xb f w g cap css wr) (hi : i < f.blocks.length) {X1 wk : World} {v1 : Value} {iss : List (List Value)} {n1 : Nat} (hx1 : Below wr.heap.size wr X1) (hn1 : wr.heap.size ≤ n1)
  (hin : InAt S0 xb (w.heap.size + 2) g f.blocks[i].ins (X1.setCell ⟨g, i * 5, none⟩ v1) n1 v1 iss wk) : ∃ css', OwAt S0 xb f w g cap css' wk := by
 have hlen : css.length = f.blocks.length := h.own.len
 have hgl := h.own.row.lt g rfl
 have hg1 : wr.grownBy (X1.setCell ⟨g, i * 5, none⟩ v1) (some g) := (grown_of_below hx1).trans (grown_set X1 ⟨g, i * 5, none⟩ v1)
 have hgk := hin.grown
 have hv1 : ∀ k, v1.ownBlock = some k → wr.heap.size ≤ k := fun k e => Nat.le_trans hn1 (hin.own.row.lt k e).1
 have hs1 := hg1.size
 have hsk := hgk.size
 have hres := h.res.lt
 have hfar : ∀ b, b < wr.heap.size → v1.ownBlock ≠ some b := fun b hb e => by have := hv1 b e; omega
 have hput : (X1.setCell ⟨g, i * 5, none⟩ v1).ownsRow (w.heap.size + 2) 48 5 (.slice (some ⟨g, 0, none⟩) f.blocks.length cap) f.blocks.length (css.set i ((css[i]'(by omega)).set 0 v1)).flatten := by
  have hr := h.own.row.kept (grown_of_below (row := none) hx1) (Classical.em _)
  have hp := OwnL.put1 hr h.own.each (j := i) (i := 0) (by omega) (by omega) v1 (0 : Nat)
  rw [Nat.add_zero] at hp
  exact hp
 have hrow := hput.kept hgk (.inr (fun e => hfar g hgl.2 e.symm))
 have hk : Keeps (fun b => okB S0 xb (w.heap.size + 2) wr b ∧ b ≠ g) wr wk := fun b hb => (hgk.block b (by have := hb.1.2; omega) (fun e => hfar b hb.1.2 e.symm)).trans (hg1.block b hb.1.2 (fun e => by injection e with e; exact hb.2 e))
 have hok : ∀ b, okB S0 xb (w.heap.size + 2) wr b ∧ b ≠ g → okB S0 xb (w.heap.size + 2) wk b ∧ b ≠ g := fun b hb => ⟨okB_up (by omega) b hb.1, hb.2⟩
 obtain ⟨vi, e, _⟩ := h.own.elems i (by omega) hi
 have hx : RBlock wk (fun b => okB S0 xb (w.heap.size + 2) wk b ∧ b ≠ g) ((css[i]'(by omega)).set 0 v1) f.blocks[i] := by
  rw [e]
  refine ⟨v1, rfl, ?_⟩
  refine hin.own.slr mono_ins (fun b hb => hb.1) (fun k e => ?_)
  have h1 := hin.own.row.lt k e
  have h2 := hv1 k e
  exact ⟨⟨.inr (by omega), h1.2⟩, by omega⟩
 have hfin := OwnX.put_to mono_block h.own rfl (by omega) hrow hk hok (fun hb => hb.2 rfl) hx
 rw [List.set_getElem_self] at hfin
 exact ⟨_, (h.below.grown hg1 (by omega) (fun k e => by injection e with e; omega)).grown hgk (by have := h.below.size; omega) (fun k e => by have := hv1 k e; have := h.below.size; omega), (h.blk.grown hg1 (fun e => by injection e with e; omega)).grown hgk (hfar _ (by omega)), (h.res.grown hg1 (fun e => by injection e with e; omega)).grown hgk (hfar _ hres), hfin⟩
end
theorem InAt.next {S0 xb B g : Nat} {l : List LIns} {X2 : World} {n1 hh m c1 k : Nat} {iss : List (List Value)} {wk X4 : World} (h : InAt S0 xb B g l X2 n1 (.slice (some ⟨hh, 0, none⟩) m c1) iss wk) (hm : m = l.length) (hk : k < l.length) (hx : Below wk.heap.size wk X4) {va : Value} {cs : List (List Value)} {n4 : Nat} (hn4 : wk.heap.size ≤ n4) (hB : B ≤ wk.heap.size) (hg : g < wk.heap.size)
  (hrow : X4.ownsRow n4 3 1 va l[k].args.length cs.flatten) (hl : cs.length = l[k].args.length) (hs : ∀ c ∈ cs, c.length = 1) (hR : ∀ (i : Nat) (h1 : i < cs.length) (h2 : i < l[k].args.length), RInt cs[i] l[k].args[i]) (hlt : ∀ b, va.ownBlock = some b → b < X4.heap.size) :
  ∃ iss', InAt S0 xb B g l X2 n1 (.slice (some ⟨hh, 0, none⟩) m c1) iss' (X4.setCell ⟨hh, k * 8 + 7, none⟩ va) := by
 subst hm
 have hlen : iss.length = l.length := h.own.len
 have hhl := h.own.row.lt hh rfl
 have hsz := hx.size
 have hz : (X4.setCell ⟨hh, k * 8 + 7, none⟩ va).heap.size = X4.heap.size := by simp [World.setCell]
 have hgr : wk.grownBy (X4.setCell ⟨hh, k * 8 + 7, none⟩ va) (some hh) := (grown_of_below hx).trans (grown_set X4 ⟨hh, k * 8 + 7, none⟩ va)
 have hput := OwnL.put1 (h.own.row.kept (grown_of_below (row := none) hx) (Classical.em _)) h.own.each (j := k) (i := 7) (by omega) (by omega) va (0 : Nat)
 have hva : ∀ b, va.ownBlock = some b → n4 ≤ b ∧ b < X4.heap.size := fun b e => ⟨(hrow.lt b e).1, hlt b e⟩
 have hrow2 := hrow.kept (grown_set X4 ⟨hh, k * 8 + 7, none⟩ va) (.inr (fun e => by have := (hva hh e).1; omega))
 obtain ⟨va0, e, _⟩ := h.own.elems k (by omega) hk
 have hsub : ∀ b, ((okB S0 xb B wk b ∧ b ≠ g) ∧ (Value.slice (some ⟨hh, 0, none⟩) l.length c1).ownBlock ≠ some b) → ((okB S0 xb B (X4.setCell ⟨hh, k * 8 + 7, none⟩ va) b ∧ b ≠ g) ∧ (Value.slice (some ⟨hh, 0, none⟩) l.length c1).ownBlock ≠ some b) := fun b hb => ⟨⟨okB_up (by omega) b hb.1.1, hb.1.2⟩, hb.2⟩
 have hfin := OwnX.put_to mono_ins h.own rfl (by omega) hput (w' := X4.setCell ⟨hh, k * 8 + 7, none⟩ va) (x := l[k]) (fun b hb => hgr.block b hb.1.1.2 (fun e => hb.2 (by rw [e]; rfl))) hsub (fun hb => hb.2 rfl) (by
  rw [e]
  refine ⟨va, rfl, SlR.of_own hrow2 rfl hl hs hR (fun b e => ?_)⟩
  have h1 := hva b e
  exact ⟨⟨⟨.inr (by omega), by omega⟩, by omega⟩, fun e2 => by have e3 : hh = b := (by simpa [Value.ownBlock] using e2); omega⟩)
 rw [List.set_getElem_self] at hfin
 exact ⟨_, h.grown.trans hgr, hfin⟩
set_option maxRecDepth 100000 in
set_option maxHeartbeats 16000000 in
theorem own_any (f : LFlow) (S0 xb : Nat) (hn : 0 < f.blocks.length) (hf8 : f.blocks.length ≤ 1000) (hil : ∀ b ∈ f.blocks, b.ins.length ≤ 900) (hal : ∀ b ∈ f.blocks, ∀ x ∈ b.ins, x.args.length ≤ 1000) (A : Option Addr) (c : Nat) (w : World) (hS : S0 ≤ w.heap.size) (h : SlR w (fun b => b < S0 ∧ b ≠ xb) 5 (RBlock w (fun b => b < S0 ∧ b ≠ xb)) (.slice A f.blocks.length c) f.blocks) :
  Calls Tryz.prog 23 #[.agg #[.string f.name, .int .i64 f.params, .int .i64 f.values, .slice A f.blocks.length c]] w fun e w' => ∃ A' c', e = .returned (.agg #[.string f.name, .int .i64 f.params, .int .i64 f.values, .slice A' f.blocks.length c']) ∧ Below w.heap.size w w' ∧ SlR w' (okB S0 xb w.heap.size w') 5 (RBlock w' (okB S0 xb w.heap.size w')) (.slice A' f.blocks.length c') f.blocks := by
 have HIL := Lib.hid hil
 have HAL := Lib.hid hal
 have HCL := Lib.hid (fun (X : World) (hb : Below w.heap.size w X) => clone_block (w0 := w) (ok0 := (fun b => b < S0 ∧ b ≠ xb)) (l := f.blocks) (v := .slice A f.blocks.length c) (by omega) X (h.imp (fun _ h => h) (fun b hb0 => hb.block b (by omega)) (fun _ _ _ r => r)) (fun b hb0 => by have := hb.size; omega))
 clear h hil hal
 go_enter Tryz.func23, Tryz.ntmps23
 go_upto_region 1 with fail
 refine wp_world ?_
 intro W hW
 have hB : Below w.heap.size w W := by rw [← hW]; exact below2 _ _ _
 have hF : Blk W w.heap.size 41 #[.string f.name, .int .i64 f.params, .int .i64 f.values, .slice A f.blocks.length c] := by rw [← hW]; exact (Blk.new w _ _).alloc _
 have hR : Blk W (w.heap.size + 1) 41 #[.string ⟨#[]⟩, .int .i64 0, .int .i64 0, .slice none 0 0] := by rw [← hW]; exact Blk.new_at _ _ _ (by simp)
 have c3 : W.cell? ⟨w.heap.size, 3, none⟩ = some (.slice A f.blocks.length c) := hF.cell 3
 have hRl := hR.lt
 have HB := Lib.hid hB
 have HF := Lib.hid hF
 have HR := Lib.hid hR
 clear hW hB hF hR
 go_upto_region 2 with (go_at_call 46; refine (HCL.out _ HB.out).mono ?_; rintro e w1 ⟨v1, css, rfl, hb1, hrow1, hl1, hs1, hR1, hlt1⟩; obtain ⟨g, cap, hv1, hg1, hg2, _⟩ := own_some hrow1 hn; subst hv1; have hF1 := HF.out.below hb1 (by omega); have f3 : w1.cell? ⟨w.heap.size, 3, none⟩ = some (.slice A f.blocks.length c) := hF1.cell 3; have z3 : w1.frozen? ⟨w.heap.size, 3, none⟩ = false := hF1.frozen 3)
 refine wp_world ?_
 intro W2 hW2
 have hst : OwAt S0 xb f w g cap css W2 := by
  rw [← hW2]
  have hgs := grown_set w1 ⟨w.heap.size, 3, none⟩ (.slice (some ⟨g, 0, none⟩) f.blocks.length cap)
  have hz : (w1.setCell ⟨w.heap.size, 3, none⟩ (.slice (some ⟨g, 0, none⟩) f.blocks.length cap)).heap.size = w1.heap.size := by simp [World.setCell]
  have hbb : Below w.heap.size w (w1.setCell ⟨w.heap.size, 3, none⟩ (.slice (some ⟨g, 0, none⟩) f.blocks.length cap)) := (HB.out.trans (hb1.mono HB.out.size)).setCell (Nat.le_refl _) _
  have hWw := HB.out.size
  refine ⟨hbb, hF1.set_ 3 _, (HR.out.below hb1 hRl).grown hgs (fun e => by injection e with e; have e' : w.heap.size = w.heap.size + 1 := e; omega), ?_⟩
  have hr2 := (own_low hrow1 (base' := w.heap.size + 2) (by omega)).kept hgs (.inr (fun e => by have e' : g = w.heap.size := (by simpa [Value.ownBlock] using e); omega))
  exact OwnX.cloned (w0 := w) (ok0 := (fun b => b < S0 ∧ b ≠ xb)) mono_block hr2 hl1 hs1 hR1 (fun b hb => hbb.block b (by omega)) (fun b hb => ⟨⟨.inl hb, by rw [hz]; omega⟩, by omega⟩) (fun b e e2 => by have e' : g = b := (by simpa [Value.ownBlock] using e); exact e2.2 e'.symm)
 have m3 : W2.cell? ⟨w.heap.size, 3, none⟩ = some (.slice (some ⟨g, 0, none⟩) f.blocks.length cap) := hst.blk.cell 3
 have HST := Lib.hid hst
 clear hW2 hst hb1 hrow1 hl1 hs1 hR1 hlt1 hF1 f3 z3 HCL HF HR HB c3 hg1 hg2
 go_wp2_with fail
 go_loopw [14] (fun s wr => ∃ i : Nat, i ≤ f.blocks.length ∧ s = .int .i64 i ∧ ∃ css, OwAt S0 xb f w g cap css wr) (fun s _ => f.blocks.length - (intOf s).toNat)
 case atStart => exact ⟨0, by omega, rfl, _, HST.out⟩
 case round =>
  obtain ⟨wo, hwo⟩ : ∃ wo, wo = wr := ⟨_, rfl⟩
  subst hwo
  obtain ⟨i, hi, rfl, css, hst⟩ := hrel
  clear HST m3
  have hwl : w.heap.size + 1 < wo.heap.size := hst.res.lt
  have hgl := hst.own.row.lt g rfl
  have hcl : css.length = f.blocks.length := hst.own.len
  by_cases hlt : i < f.blocks.length
  ·have d0 : decide ((i : Int) < (f.blocks.length : Int)) = true := decide_eq_true (by omega)
   have hi3 : (i : Int) < (f.blocks.length : Int) := by omega
   obtain ⟨bk, hbe⟩ : ∃ bk, bk = f.blocks[i] := ⟨_, rfl⟩
   have hbm : bk ∈ f.blocks := by rw [hbe]; exact List.getElem_mem _
   obtain ⟨vi, hcs, hsi⟩ := hst.own.elems i (by omega) hlt
   rw [← hbe] at hcs hsi
   obtain ⟨Ai, ci, hvi, _, _⟩ := hsi.val
   subst hvi
   have hbl : bk.ins.length ≤ 900 := HIL.out bk hbm
   have hbc : ∀ j (hj : j < 5), wo.cell? ⟨g, i * 5 + j, none⟩ = some ((Value.slice Ai bk.ins.length ci :: termCells bk.term)[j]'hj) := fun j hj => by
    have h := hst.own.cell rfl (i := j) (j := i) (by omega) (by rw [hcs]; exact hj)
    simp only [hcs] at h
    exact h
   have j0 : wo.cell? ⟨g, i * 5, none⟩ = some (.slice Ai bk.ins.length ci) := by have h := hbc 0 (by omega); rw [Nat.add_zero] at h; exact h
   have j1 : wo.cell? ⟨g, i * 5 + 1, none⟩ = some (.int .i64 bk.term.kind) := hbc 1 (by omega)
   have j2 : wo.cell? ⟨g, i * 5 + 2, none⟩ = some (.int .i64 bk.term.a) := hbc 2 (by omega)
   have j3 : wo.cell? ⟨g, i * 5 + 3, none⟩ = some (.int .i64 bk.term.to) := hbc 3 (by omega)
   have j4 : wo.cell? ⟨g, i * 5 + 4, none⟩ = some (.int .i64 bk.term.els) := hbc 4 (by omega)
   have HSI := Lib.hid hsi
   have HBE := Lib.hid hbe
   have HBM := Lib.hid hbm
   have HST := Lib.hid hst
   clear hbc hcs hsi hbe hbm hst
   go_upto_region 5 with fail
   refine wp_world ?_
   intro W5 hW5
   have hb5 : Below wo.heap.size wo W5 := by rw [← hW5]; exact below1 _ _
   have hX5 : Blk W5 wo.heap.size 48 #[.slice Ai bk.ins.length ci, .int .i64 bk.term.kind, .int .i64 bk.term.a, .int .i64 bk.term.to, .int .i64 bk.term.els] := by rw [← hW5]; exact Blk.new wo _ _
   have hl5 := hX5.lt
   have hF5 := HST.out.blk.below hb5 (by omega)
   have SO : Hid (∀ X, Below W5.heap.size W5 X → (fun w2 => w2.cell? ⟨w.heap.size, 3, none⟩ = some (.slice (some ⟨g, 0, none⟩) f.blocks.length cap) ∧ w2.cell? ⟨wo.heap.size, 0, none⟩ = some (.slice Ai bk.ins.length ci)) X) := Lib.hid (fun X hb => ⟨(hF5.below hb (by omega)).cell 3, (hX5.below hb hl5).cell 0⟩)
   have HCI := Lib.hid (fun (X : World) (hb : Below W5.heap.size W5 X) => clone_ins (w0 := wo) (ok0 := fun b => okB S0 xb (w.heap.size + 2) wo b ∧ b ≠ g) (l := bk.ins) (v := .slice Ai bk.ins.length ci) (by omega) X (HSI.out.imp (fun _ h => h) (fun b hb0 => (hb.block b (by have := hb0.1.2; omega)).trans (hb5.block b hb0.1.2)) (fun _ _ _ r => r)) (fun b hb0 => by have h1 := hb0.1.2; have := hb.size; omega))
   have HX5 := Lib.hid hX5
   have HF5 := Lib.hid hF5
   have HB5 := Lib.hid hb5
   clear hW5 hb5 hX5 hF5 j0 j1 j2 j3 j4
   have hz0 : Below W5.heap.size W5 W5.drew := (Below.refl _ _).drew
   refine wp_region_L (by kernel_rfl) 8 (fun w2 => w2.cell? ⟨w.heap.size, 3, none⟩ = some (.slice (some ⟨g, 0, none⟩) f.blocks.length cap) ∧ w2.cell? ⟨wo.heap.size, 0, none⟩ = some (.slice Ai bk.ins.length ci)) (SO.out _ hz0) (fun hHeld => ?_)
   have HS0 := Lib.hid hHeld
   clear hHeld
   change wpAnyL _ _ _ _ _ 8 9 (Array.replicate 9 false) _ _
   generalize W5.drew = X0 at *
   have HZ0 := Lib.hid hz0
   clear hz0
   refine tL 0 19 (.pointer (some ⟨w.heap.size, 3, none⟩)) HS0.out rfl rfl ?_ ?_
   ·intro w2; go_simp
   try simp only [setIfInBounds_toArray, set_cons_zero, set_cons_succ]
   refine tS 1 20 (.slice (some ⟨g, 0, none⟩) f.blocks.length cap) [8] HS0.out rfl rfl ?_ ?_
   ·intro w2 hSw; obtain ⟨g0, g1⟩ := hSw; go_simp
   try simp only [setIfInBounds_toArray, set_cons_zero, set_cons_succ]
   refine tL 2 21 (.int .i64 (i : Int)) HS0.out rfl rfl ?_ ?_
   ·intro w2; go_simp
   try simp only [setIfInBounds_toArray, set_cons_zero, set_cons_succ]
   refine tL 3 22 (.pointer (some ⟨wo.heap.size, 0, none⟩)) HS0.out rfl rfl ?_ ?_
   ·intro w2; go_simp
   try simp only [setIfInBounds_toArray, set_cons_zero, set_cons_succ]
   refine tS 4 23 (.slice Ai bk.ins.length ci) [8] HS0.out rfl rfl ?_ ?_
   ·intro w2 hSw; obtain ⟨g0, g1⟩ := hSw; go_simp
   try simp only [setIfInBounds_toArray, set_cons_zero, set_cons_succ]
   refine wpAnyL_ready (rs := [5]) (by kernel_rfl) (by simp) ?_
   refine AllReadyL.cons rfl (fun K hK => ?_) AllReadyL.nil
   go_simp
   refine (HCI.out X0 HZ0.out).mono ?_
   rintro e X1 ⟨v1, iss, rfl, hx1, hrow1, hl1, hs1, hR1, _⟩
   obtain ⟨A1, c1, hv1⟩ := own_form hrow1
   subst hv1
   have HZ1 := Lib.hid (HZ0.out.trans (hx1.mono HZ0.out.size))
   have HC1 : Hid (X1.ownsRow X0.heap.size 44 8 (.slice A1 bk.ins.length c1) bk.ins.length iss.flatten ∧ iss.length = bk.ins.length ∧ (∀ cs ∈ iss, cs.length = 8) ∧ ∀ (j : Nat) (h1 : j < iss.length) (h2 : j < bk.ins.length), RIns wo (fun b => okB S0 xb (w.heap.size + 2) wo b ∧ b ≠ g) iss[j] bk.ins[j]) := Lib.hid ⟨hrow1, hl1, hs1, hR1⟩
   clear hx1 hrow1 hl1 hs1 hR1
   refine hK.out _ _ (SO.out _ HZ1.out) (fun hHeld => ?_)
   have HS1 := Lib.hid hHeld
   clear hK K hHeld
   try simp only [setIfInBounds_toArray, set_cons_zero, set_cons_succ]
   refine tL 6 25 (.pointer (some ⟨g, i * 5, none⟩)) HS1.out rfl rfl ?_ ?_
   ·intro w2; go_simp
   try simp only [setIfInBounds_toArray, set_cons_zero, set_cons_succ]
   refine tL 7 26 (.pointer (some ⟨g, i * 5, none⟩)) HS1.out rfl rfl ?_ ?_
   ·intro w2; go_simp
   try simp only [setIfInBounds_toArray, set_cons_zero, set_cons_succ]
   have hrk := HST.out.own.row.kept (grown_of_below (row := none) (HB5.out.trans (HZ1.out.mono (by omega)))) (Classical.em _)
   obtain ⟨y0, u0⟩ := own_cell hrk (i * 5) (by omega)
   have uz := hrk.frozenAt (i * 5)
   clear hrk
   refine wpAnyL_ready (rs := [8]) (by kernel_rfl) (by simp) ?_
   refine AllReadyL.last rfl (by kernel_rfl) (fun K hK => ?_)
   go_simp
   refine hK.out _ _ ?_
   clear hK K
   try simp only [setIfInBounds_toArray, set_cons_zero, set_cons_succ]
   refine wpAnyL_done (by kernel_rfl) ?_ _
   clear u0 uz
   have hX1 : Below wo.heap.size wo X1 := HB5.out.trans (HZ1.out.mono (by omega))
   have hX1s := HZ1.out.size
   have hin0 : InAt S0 xb (w.heap.size + 2) g bk.ins (X1.setCell ⟨g, i * 5, none⟩ (.slice A1 bk.ins.length c1)) W5.heap.size (.slice A1 bk.ins.length c1) iss (X1.setCell ⟨g, i * 5, none⟩ (.slice A1 bk.ins.length c1)) := by
    refine ⟨World.grownBy.refl _ _, ?_⟩
    have hx0 := HZ0.out.size
    have hrl : ∀ b, (Value.slice A1 bk.ins.length c1).ownBlock = some b → W5.heap.size ≤ b ∧ b < X1.heap.size := fun b e => by have := HC1.out.1.lt b e; omega
    have hr2 := (own_low HC1.out.1 (base' := W5.heap.size) (by omega)).kept (grown_set X1 ⟨g, i * 5, none⟩ (.slice A1 bk.ins.length c1)) (.inr (fun e => by have := (hrl g e).1; omega))
    have hz : (X1.setCell ⟨g, i * 5, none⟩ (.slice A1 bk.ins.length c1)).heap.size = X1.heap.size := by simp [World.setCell]
    exact OwnX.cloned mono_ins hr2 HC1.out.2.1 HC1.out.2.2.1 HC1.out.2.2.2 (fun b hb => ((grown_set X1 ⟨g, i * 5, none⟩ (.slice A1 bk.ins.length c1)).block b (by have := hb.1.2; omega) (fun e => by injection e with e; exact hb.2 e)).trans (hX1.block b hb.1.2)) (fun b hb => ⟨⟨okB_up (by omega) b hb.1, hb.2⟩, fun e => by have := hrl b e; have := hb.1.2; omega⟩) (fun b e e2 => e2.2 e)
   have m0 : (X1.setCell ⟨g, i * 5, none⟩ (.slice A1 bk.ins.length c1)).cell? ⟨wo.heap.size, 0, none⟩ = some (.slice Ai bk.ins.length ci) := ((HX5.out.below HZ1.out hl5).far (p := ⟨g, i * 5, none⟩) (by show wo.heap.size ≠ g; omega) _).cell 0
   have hF2 : Blk (X1.setCell ⟨g, i * 5, none⟩ (.slice A1 bk.ins.length c1)) w.heap.size 41 #[.string f.name, .int .i64 f.params, .int .i64 f.values, .slice (some ⟨g, 0, none⟩) f.blocks.length cap] := (HF5.out.below HZ1.out (by omega)).far (p := ⟨g, i * 5, none⟩) (by show w.heap.size ≠ g; omega) _
   have hgc : (X1.setCell ⟨g, i * 5, none⟩ (.slice A1 bk.ins.length c1)).cell? ⟨g, i * 5, none⟩ = some (.slice A1 bk.ins.length c1) := by
    have hrk := HST.out.own.row.kept (grown_of_below (row := none) hX1) (Classical.em _)
    obtain ⟨y, hy⟩ := own_cell hrk (i * 5) (by omega)
    exact World.cell?_setCell_same _ _ _ hy
   have hXg : wo.grownBy (X1.setCell ⟨g, i * 5, none⟩ (.slice A1 bk.ins.length c1)) (some g) := (grown_of_below hX1).trans (grown_set X1 ⟨g, i * 5, none⟩ (.slice A1 bk.ins.length c1))
   have HIN0 := Lib.hid hin0
   have HF2 := Lib.hid hF2
   have HGC := Lib.hid hgc
   have HX1 := Lib.hid hX1
   have HXG := Lib.hid hXg
   have HNX : Hid (∀ (iss' : List (List Value)) (wk : World), InAt S0 xb (w.heap.size + 2) g bk.ins (X1.setCell ⟨g, i * 5, none⟩ (.slice A1 bk.ins.length c1)) W5.heap.size (.slice A1 bk.ins.length c1) iss' wk → ∃ css', OwAt S0 xb f w g cap css' wk) := Lib.hid (fun iss' wk hin => by
    have hin' := hin
    rw [HBE.out] at hin'
    refine HST.out.next hlt HX1.out (by omega) (v1 := .slice A1 bk.ins.length c1) (iss := iss') (n1 := W5.heap.size) ?_
    rw [HBE.out]
    exact hin')
   have hX2s : wo.heap.size < (X1.setCell ⟨g, i * 5, none⟩ (.slice A1 bk.ins.length c1)).heap.size := by
    have : (X1.setCell ⟨g, i * 5, none⟩ (.slice A1 bk.ins.length c1)).heap.size = X1.heap.size := by simp [World.setCell]
    omega
   generalize X1.setCell ⟨g, i * 5, none⟩ (.slice A1 bk.ins.length c1) = X2 at *
   clear hin0 hF2 hgc hX1 hXg SO HCI HZ0 HZ1 HX5 HF5 HC1 HX1
   go_wp2_with fail
   go_loopw [30] (fun s wr => ∃ k : Nat, k ≤ bk.ins.length ∧ s = .int .i64 k ∧ ∃ iss, InAt S0 xb (w.heap.size + 2) g bk.ins X2 W5.heap.size (.slice A1 bk.ins.length c1) iss wr) (fun s _ => bk.ins.length - (intOf s).toNat)
   case atStart => exact ⟨0, by omega, rfl, _, HIN0.out⟩
   case round =>
    obtain ⟨k, hk, rfl, iss, hin⟩ := hrel
    clear HIN0 m0
    by_cases hkl : k < bk.ins.length
    ·have d1 : decide ((k : Int) < (bk.ins.length : Int)) = true := decide_eq_true (by omega)
     have hk3 : (k : Int) < (bk.ins.length : Int) := by omega
     obtain ⟨hh, cc, hvv, hh1, hh2, _⟩ := own_some hin.own.row (by omega)
     obtain ⟨rfl, rfl⟩ : A1 = some ⟨hh, 0, none⟩ ∧ c1 = cc := by injection hvv with h1 _ h2; exact ⟨h1, h2⟩
     obtain ⟨gb, ob, cb, hform, _, _, hgb, hel⟩ := HSI.out.form (by omega)
     obtain ⟨rfl, rfl⟩ : Ai = some ⟨gb, ob, none⟩ ∧ ci = cb := by injection hform with h1 _ h2; exact ⟨h1, h2⟩
     obtain ⟨cs, _, ⟨va, hcs, hargs⟩, hcell⟩ := hel k hkl
     subst hcs
     obtain ⟨Aa, ca, hva, _, _⟩ := hargs.val
     subst hva
     have hkw : ∀ b, okB S0 xb (w.heap.size + 2) wo b ∧ b ≠ g → wr.heap[b]? = wo.heap[b]? := fun b hb0 => (hin.grown.block b (by have := hb0.1.2; omega) (fun e => by have e' : b = hh := (by simpa [Value.ownBlock] using e); have := hb0.1.2; omega)).trans (HXG.out.block b hb0.1.2 (fun e => by injection e with e; exact hb0.2 e))
     obtain ⟨x, hxe⟩ : ∃ x, x = bk.ins[k] := ⟨_, rfl⟩
     rw [← hxe] at hcell hargs
     have hxa : x.args.length ≤ 1000 := HAL.out bk HBM.out x (by rw [hxe]; exact List.getElem_mem _)
     have hcw := hcell.keep (hkw gb hgb)
     have i0 : wr.cell? ⟨gb, ob + k * 8, none⟩ = some (.int .i64 x.kind) := by have h := hcw.at_ (j := 0) rfl; simpa using h
     have i1 : wr.cell? ⟨gb, ob + k * 8 + 1, none⟩ = some (.int .i64 x.d) := hcw.at_ (j := 1) rfl
     have i2 : wr.cell? ⟨gb, ob + k * 8 + 2, none⟩ = some (.int .i64 x.a) := hcw.at_ (j := 2) rfl
     have i3 : wr.cell? ⟨gb, ob + k * 8 + 3, none⟩ = some (.int .i64 x.b) := hcw.at_ (j := 3) rfl
     have i4 : wr.cell? ⟨gb, ob + k * 8 + 4, none⟩ = some (.int .i64 x.op) := hcw.at_ (j := 4) rfl
     have i5 : wr.cell? ⟨gb, ob + k * 8 + 5, none⟩ = some (.int .i64 x.n) := hcw.at_ (j := 5) rfl
     have i6 : wr.cell? ⟨gb, ob + k * 8 + 6, none⟩ = some (.string x.name) := hcw.at_ (j := 6) rfl
     have i7 : wr.cell? ⟨gb, ob + k * 8 + 7, none⟩ = some (.slice Aa x.args.length ca) := hcw.at_ (j := 7) rfl
     have hX2wr := hin.grown.size
     have hhg : g ≠ hh := by omega
     have hFr := HF2.out.grown hin.grown (fun e => by have e' : hh = w.heap.size := (by simpa [Value.ownBlock] using e); omega)
     have hgr : wr.cell? ⟨g, i * 5, none⟩ = some (.slice (some ⟨hh, 0, none⟩) bk.ins.length c1) := (hin.grown.cell_far ⟨g, i * 5, none⟩ (by show g < X2.heap.size; omega) (fun e => by have e' : g = hh := (by simpa [Value.ownBlock] using e); omega)).trans HGC.out
     have HIN := Lib.hid hin
     have HXE := Lib.hid hxe
     have HKW := Lib.hid hkw
     have HAR := Lib.hid hargs
     have HFR := Lib.hid hFr
     have hil2 : iss.length = bk.ins.length := hin.own.len
     have hwrg : g < wr.heap.size := by omega
     clear hcw hcell hargs hel hform hgb hin hxe hkw hFr hvv
     go_upto_region 9 with fail
     refine wp_world ?_
     intro W9 hW9
     have hb9 : Below wr.heap.size wr W9 := by rw [← hW9]; exact below1 _ _
     have hX9 : Blk W9 wr.heap.size 44 #[.int .i64 x.kind, .int .i64 x.d, .int .i64 x.a, .int .i64 x.b, .int .i64 x.op, .int .i64 x.n, .string x.name, .slice Aa x.args.length ca] := by rw [← hW9]; exact Blk.new wr _ _
     have hl9 := hX9.lt
     have SO : Hid (∀ X, Below W9.heap.size W9 X → (fun w2 => w2.cell? ⟨w.heap.size, 3, none⟩ = some (.slice (some ⟨g, 0, none⟩) f.blocks.length cap) ∧ w2.cell? ⟨g, i * 5, none⟩ = some (.slice (some ⟨hh, 0, none⟩) bk.ins.length c1) ∧ w2.cell? ⟨wr.heap.size, 7, none⟩ = some (.slice Aa x.args.length ca)) X) := Lib.hid (fun X hb => ⟨((HFR.out.below hb9 (by omega)).below hb (by omega)).cell 3, ((hb9.trans (hb.mono hb9.size)).cell (p := ⟨g, i * 5, none⟩) hwrg).trans hgr, (hX9.below hb hl9).cell 7⟩)
     have HCN := Lib.hid (fun (X : World) (hb : Below W9.heap.size W9 X) => clone_int (l := x.args) (v := .slice Aa x.args.length ca) (by omega) X (ok := fun b => okB S0 xb (w.heap.size + 2) wo b ∧ b ≠ g) (HAR.out.imp (fun _ h => h) (fun b hb0 => ((hb.block b (by have := hb0.1.2; omega)).trans (hb9.block b (by have := hb0.1.2; omega))).trans (HKW.out b hb0)) (fun _ _ _ r => r)) (fun b hb0 => by have h1 := hb0.1.2; have := hb.size; omega))
     have HB9 := Lib.hid hb9
     clear hW9 hb9 hX9 i0 i1 i2 i3 i4 i5 i6 i7 hgr
     have hz0 : Below W9.heap.size W9 W9.drew := (Below.refl _ _).drew
     refine wp_region_L (by kernel_rfl) 12 (fun w2 => w2.cell? ⟨w.heap.size, 3, none⟩ = some (.slice (some ⟨g, 0, none⟩) f.blocks.length cap) ∧ w2.cell? ⟨g, i * 5, none⟩ = some (.slice (some ⟨hh, 0, none⟩) bk.ins.length c1) ∧ w2.cell? ⟨wr.heap.size, 7, none⟩ = some (.slice Aa x.args.length ca)) (SO.out _ hz0) (fun hHeld => ?_)
     have HS0 := Lib.hid hHeld
     clear hHeld
     change wpAnyL _ _ _ _ _ 12 13 (Array.replicate 13 false) _ _
     generalize W9.drew = X0 at *
     have HZ0 := Lib.hid hz0
     clear hz0
     refine tL 0 35 (.pointer (some ⟨w.heap.size, 3, none⟩)) HS0.out rfl rfl ?_ ?_
     ·intro w2; go_simp
     try simp only [setIfInBounds_toArray, set_cons_zero, set_cons_succ]
     refine tS 1 36 (.slice (some ⟨g, 0, none⟩) f.blocks.length cap) [12] HS0.out rfl rfl ?_ ?_
     ·intro w2 hSw; obtain ⟨g0, g1, g2⟩ := hSw; go_simp
     try simp only [setIfInBounds_toArray, set_cons_zero, set_cons_succ]
     refine tL 2 37 (.int .i64 (i : Int)) HS0.out rfl rfl ?_ ?_
     ·intro w2; go_simp
     try simp only [setIfInBounds_toArray, set_cons_zero, set_cons_succ]
     refine tL 3 38 (.pointer (some ⟨g, i * 5, none⟩)) HS0.out rfl rfl ?_ ?_
     ·intro w2; go_simp
     try simp only [setIfInBounds_toArray, set_cons_zero, set_cons_succ]
     refine tL 4 39 (.pointer (some ⟨g, i * 5, none⟩)) HS0.out rfl rfl ?_ ?_
     ·intro w2; go_simp
     try simp only [setIfInBounds_toArray, set_cons_zero, set_cons_succ]
     refine tS 5 40 (.slice (some ⟨hh, 0, none⟩) bk.ins.length c1) [12] HS0.out rfl rfl ?_ ?_
     ·intro w2 hSw; obtain ⟨g0, g1, g2⟩ := hSw; go_simp
     try simp only [setIfInBounds_toArray, set_cons_zero, set_cons_succ]
     refine tL 6 41 (.int .i64 (k : Int)) HS0.out rfl rfl ?_ ?_
     ·intro w2; go_simp
     try simp only [setIfInBounds_toArray, set_cons_zero, set_cons_succ]
     refine tL 7 42 (.pointer (some ⟨wr.heap.size, 7, none⟩)) HS0.out rfl rfl ?_ ?_
     ·intro w2; go_simp
     try simp only [setIfInBounds_toArray, set_cons_zero, set_cons_succ]
     refine tS 8 43 (.slice Aa x.args.length ca) [12] HS0.out rfl rfl ?_ ?_
     ·intro w2 hSw; obtain ⟨g0, g1, g2⟩ := hSw; go_simp
     try simp only [setIfInBounds_toArray, set_cons_zero, set_cons_succ]
     refine wpAnyL_ready (rs := [9]) (by kernel_rfl) (by simp) ?_
     refine AllReadyL.cons rfl (fun K hK => ?_) AllReadyL.nil
     go_simp
     refine (HCN.out X0 HZ0.out).mono ?_
     rintro e X1 ⟨v3, css3, rfl, hx1, hrow1, hl1, hs1, hR1, hlt3⟩
     obtain ⟨A3, c3, hv3⟩ := own_form hrow1
     subst hv3
     have HZ1 := Lib.hid (HZ0.out.trans (hx1.mono HZ0.out.size))
     have HC3 : Hid (X1.ownsRow X0.heap.size 3 1 (.slice A3 x.args.length c3) x.args.length css3.flatten ∧ css3.length = x.args.length ∧ (∀ cs ∈ css3, cs.length = 1) ∧ (∀ (j : Nat) (h1 : j < css3.length) (h2 : j < x.args.length), RInt css3[j] x.args[j]) ∧ ∀ b, (Value.slice A3 x.args.length c3).ownBlock = some b → b < X1.heap.size) := Lib.hid ⟨hrow1, hl1, hs1, hR1, hlt3⟩
     clear hx1 hrow1 hl1 hs1 hR1 hlt3
     refine hK.out _ _ (SO.out _ HZ1.out) (fun hHeld => ?_)
     have HS1 := Lib.hid hHeld
     clear hK K hHeld
     try simp only [setIfInBounds_toArray, set_cons_zero, set_cons_succ]
     refine tL 10 45 (.pointer (some ⟨hh, k * 8, none⟩)) HS1.out rfl rfl ?_ ?_
     ·intro w2; go_simp
     try simp only [setIfInBounds_toArray, set_cons_zero, set_cons_succ]
     refine tL 11 46 (.pointer (some ⟨hh, k * 8 + 7, none⟩)) HS1.out rfl rfl ?_ ?_
     ·intro w2; go_simp
     try simp only [setIfInBounds_toArray, set_cons_zero, set_cons_succ]
     have hrk := HIN.out.own.row.kept (grown_of_below (row := none) (HB9.out.trans (HZ1.out.mono (by omega)))) (Classical.em _)
     obtain ⟨y0, u0⟩ := own_cell hrk (k * 8 + 7) (by omega)
     have uz := hrk.frozenAt (k * 8 + 7)
     clear hrk
     refine wpAnyL_ready (rs := [12]) (by kernel_rfl) (by simp) ?_
     refine AllReadyL.last rfl (by kernel_rfl) (fun K hK => ?_)
     go_simp
     refine hK.out _ _ ?_
     clear hK K
     try simp only [setIfInBounds_toArray, set_cons_zero, set_cons_succ]
     refine wpAnyL_done (by kernel_rfl) ?_ _
     clear u0 uz
     have hX1 : Below wr.heap.size wr X1 := HB9.out.trans (HZ1.out.mono (by omega))
     have hNI : ∃ iss', InAt S0 xb (w.heap.size + 2) g bk.ins X2 W5.heap.size (.slice (some ⟨hh, 0, none⟩) bk.ins.length c1) iss' (X1.setCell ⟨hh, k * 8 + 7, none⟩ (.slice A3 x.args.length c3)) := by
      have hx0 := HZ0.out.size
      refine HIN.out.next rfl hkl hX1 (n4 := X0.heap.size) (cs := css3) (by omega) (by omega) hwrg ?_ ?_ ?_ ?_ ?_
      ·rw [← HXE.out]; exact HC3.out.1
      ·rw [← HXE.out]; exact HC3.out.2.1
      ·exact HC3.out.2.2.1
      ·rw [← HXE.out]; exact HC3.out.2.2.2.1
      ·exact HC3.out.2.2.2.2
     have HNI := Lib.hid hNI
     clear hNI hX1 SO HCN HZ0 HZ1 HC3 HB9 HAR HKW HFR HIN
     go_wp2
     go_roundw
     case rel => exact ⟨k + 1, by omega, by go_num, HNI.out⟩
     case measure => simp [intOf]; omega
    ·have d1 : decide ((k : Int) < (bk.ins.length : Int)) = false := decide_eq_false (by omega)
     have hfin := HNX.out iss wr (by exact hin)
     have HFIN := Lib.hid hfin
     clear hfin hin
     go_wp2
     go_roundw
     case rel => exact ⟨i + 1, by omega, by go_num, HFIN.out⟩
     case measure => simp [intOf]; omega
  ·have d0 : decide ((i : Int) < (f.blocks.length : Int)) = false := decide_eq_false (by omega)
   obtain rfl : i = f.blocks.length := by omega
   have hF := hst.blk
   have hR := hst.res
   have o0 : wo.cell? ⟨w.heap.size, 0, none⟩ = some (.string f.name) := hF.cell 0
   have o1 : wo.cell? ⟨w.heap.size, 1, none⟩ = some (.int .i64 f.params) := hF.cell 1
   have o2 : wo.cell? ⟨w.heap.size, 2, none⟩ = some (.int .i64 f.values) := hF.cell 2
   have o3 : wo.cell? ⟨w.heap.size, 3, none⟩ = some (.slice (some ⟨g, 0, none⟩) f.blocks.length cap) := hF.cell 3
   have r0 : wo.cell? ⟨w.heap.size + 1, 0, none⟩ = some (.string ⟨#[]⟩) := hR.cell 0
   have r1 : wo.cell? ⟨w.heap.size + 1, 1, none⟩ = some (.int .i64 0) := hR.cell 1
   have r2 : wo.cell? ⟨w.heap.size + 1, 2, none⟩ = some (.int .i64 0) := hR.cell 2
   have r3 : wo.cell? ⟨w.heap.size + 1, 3, none⟩ = some (.slice none 0 0) := hR.cell 3
   have z0 := hR.frozen 0
   have z1 := hR.frozen 1
   have z2 := hR.frozen 2
   have z3 := hR.frozen 3
   have HRR := Lib.hid hR
   have HST := Lib.hid hst
   clear hF hR hst
   go_wp2
   have hfin : Blk ((((wo.setCell ⟨w.heap.size + 1, 0, none⟩ (.string f.name)).setCell ⟨w.heap.size + 1, 1, none⟩ (.int .i64 f.params)).setCell ⟨w.heap.size + 1, 2, none⟩ (.int .i64 f.values)).setCell ⟨w.heap.size + 1, 3, none⟩ (.slice (some ⟨g, 0, none⟩) f.blocks.length cap)) (w.heap.size + 1) 41 #[.string f.name, .int .i64 f.params, .int .i64 f.values, .slice (some ⟨g, 0, none⟩) f.blocks.length cap] := (((HRR.out.set_ 0 _).set_ 1 _).set_ 2 _).set_ 3 _
   have hbel : Below w.heap.size w ((((wo.setCell ⟨w.heap.size + 1, 0, none⟩ (.string f.name)).setCell ⟨w.heap.size + 1, 1, none⟩ (.int .i64 f.params)).setCell ⟨w.heap.size + 1, 2, none⟩ (.int .i64 f.values)).setCell ⟨w.heap.size + 1, 3, none⟩ (.slice (some ⟨g, 0, none⟩) f.blocks.length cap)) := (((HST.out.below.setCell (Nat.le_succ _) _).setCell (Nat.le_succ _) _).setCell (Nat.le_succ _) _).setCell (Nat.le_succ _) _
   have hneq : ∀ (q b : Nat), b ≠ w.heap.size + 1 → b ≠ (⟨w.heap.size + 1, q, none⟩ : Addr).block := fun _ _ h => h
   have hkf : Keeps (fun b => b ≠ w.heap.size + 1) wo ((((wo.setCell ⟨w.heap.size + 1, 0, none⟩ (.string f.name)).setCell ⟨w.heap.size + 1, 1, none⟩ (.int .i64 f.params)).setCell ⟨w.heap.size + 1, 2, none⟩ (.int .i64 f.values)).setCell ⟨w.heap.size + 1, 3, none⟩ (.slice (some ⟨g, 0, none⟩) f.blocks.length cap)) := ((((Keeps.refl _ _).set (fun b hb => hneq 0 b hb) _).set (fun b hb => hneq 1 b hb) _).set (fun b hb => hneq 2 b hb) _).set (fun b hb => hneq 3 b hb) _
   have hsz : ((((wo.setCell ⟨w.heap.size + 1, 0, none⟩ (.string f.name)).setCell ⟨w.heap.size + 1, 1, none⟩ (.int .i64 f.params)).setCell ⟨w.heap.size + 1, 2, none⟩ (.int .i64 f.values)).setCell ⟨w.heap.size + 1, 3, none⟩ (.slice (some ⟨g, 0, none⟩) f.blocks.length cap)).heap.size = wo.heap.size := by simp [World.setCell]
   generalize (((wo.setCell ⟨w.heap.size + 1, 0, none⟩ (.string f.name)).setCell ⟨w.heap.size + 1, 1, none⟩ (.int .i64 f.params)).setCell ⟨w.heap.size + 1, 2, none⟩ (.int .i64 f.values)).setCell ⟨w.heap.size + 1, 3, none⟩ (.slice (some ⟨g, 0, none⟩) f.blocks.length cap) = wf at *
   refine bodyPost_ret (v := .agg #[.string f.name, .int .i64 f.params, .int .i64 f.values, .slice (some ⟨g, 0, none⟩) f.blocks.length cap]) (results_cell_row (p := 2) (ty := 41) (by kernel_rfl) _ _ (w.heap.size + 1) 41 _ (0, 0) _ rfl hfin Tryz.underlying41 rfl (by kernel_rfl)) rfl ?_
   refine ⟨some ⟨g, 0, none⟩, cap, rfl, hbel, ?_⟩
   have h := HST.out.own.slr (ok' := fun b => okB S0 xb w.heap.size wo b ∧ b ≠ w.heap.size + 1) mono_block (fun b hb => ⟨⟨by have := hb.1.1; omega, hb.1.2⟩, by have := hb.1.1; omega⟩) (fun b e => by have e' : g = b := (by simpa [Value.ownBlock] using e); exact ⟨⟨.inr (by omega), by omega⟩, by omega⟩)
   have hup : ∀ b, (okB S0 xb w.heap.size wo b ∧ b ≠ w.heap.size + 1) → okB S0 xb w.heap.size wf b := fun b hb => okB_up (by omega) b hb.1
   have hkk : Keeps (fun b => okB S0 xb w.heap.size wo b ∧ b ≠ w.heap.size + 1) wo wf := fun b hb => hkf b hb.2
   exact h.imp hup hkk (fun _ _ _ r => r.imp hup hkk)
end Go.Proofs.YtkpigkopjfkepaaGreatDoor
