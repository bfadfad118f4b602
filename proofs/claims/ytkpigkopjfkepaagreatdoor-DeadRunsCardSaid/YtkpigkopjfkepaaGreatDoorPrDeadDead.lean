/- What dead.Dead makes of a unit that may be, in memory. -/
import Derived.Test.YtkpigkopjfkepaaGreatDoorPrDeadSweep
import Derived.Test.YtkpigkopjfkepaaGreatDoorPrDeadOwn
import Derived.Test.YtkpigkopjfkepaaGreatDoorPrDeadTrim
import Derived.Test.YtkpigkopjfkepaaGreatDoorPrUMem
import Derived.Deep.LoopGhost
namespace Go.Proofs.YtkpigkopjfkepaaGreatDoor
open Go.RowKit
open Go.Deep
def SmallU (u : LUnit) : Prop := ∀ f ∈ u.flows, f.blocks.length ≤ 1000 ∧ ∀ b ∈ f.blocks, b.ins.length ≤ 900
theorem small_dead {u : LUnit} (h : SmallU u) : SmallU (deadE u) := fun g hg => by
 obtain ⟨f, hf, rfl⟩ := List.mem_map.1 hg
 obtain ⟨h1, h2⟩ := h f hf
 refine ⟨Nat.le_trans (dead_len_le f) h1, fun b hb => ?_⟩
 obtain ⟨j, hj, rfl⟩ := List.getElem_of_mem hb
 obtain ⟨k, hk, _, _, e⟩ := trim_from (f := sweptF f) (j := j) hj
 have e' : (deadF f).blocks[j] = renBlock (trimR (sweptF f)) (sweptF f).blocks[k] := e
 rw [e', renB_ins]
 have he := ends_swept f
 have hk' : k < f.blocks.length := by rw [← he.len]; exact hk
 exact Nat.le_trans (he.le k hk' hk) (h2 _ (List.getElem_mem _))
theorem swept_sweeps : ∀ (n : Nat) (f : LFlow), sweptF (sweeps n f) = sweptF f
 | 0, _ => rfl
 | n + 1, f => (swept_sweeps n (sweepF f)).trans (swept_sweep f)
theorem sweeps_snoc : ∀ (n : Nat) (f : LFlow), sweeps (n + 1) f = sweepF (sweeps n f)
 | 0, _ => rfl
 | n + 1, f => sweeps_snoc n (sweepF f)
theorem sweeps_good {u : LUnit} (hu : UnitOk u) (hs : SmallU u) {f : LFlow} (hf : f ∈ u.flows) (n : Nat) : GoodF (sweeps n f) ∧ NextOk (sweeps n f) ∧ (sweeps n f).blocks.length ≤ 1000 ∧ ∀ b ∈ (sweeps n f).blocks, b.ins.length ≤ 900 := by
 have hm : sweeps n f ∈ (mapU (sweeps n) u).flows := List.mem_map.2 ⟨f, hf, rfl⟩
 have he := ends_sweeps n f
 obtain ⟨h1, h2⟩ := hs f hf
 refine ⟨good_unit (swept_unit hu n) hm, next_ends he (next_unit hu hf), by rw [he.len]; exact h1, fun b hb => ?_⟩
 obtain ⟨j, hj, rfl⟩ := List.getElem_of_mem hb
 have hj' : j < f.blocks.length := by rw [← he.len]; exact hj
 exact Nat.le_trans (he.le j hj' hj) (h2 _ (List.getElem_mem _))
structure LD (S0 xb : Nat) (u : LUnit) (va : Value) (w3 : World) (i : Nat) (v : Value) (css : List (List Value)) (wr : World) : Prop where
 below : Below w3.heap.size w3 wr
 vB : Blk wr w3.heap.size 27 #[va, v]
 own : OwnX wr (fun b => b < wr.heap.size ∧ (b < S0 ∧ b ≠ xb ∨ w3.heap.size < b) ∧ v.ownBlock ≠ some b) (w3.heap.size + 1) 41 4 RFlow v ((u.flows.take i).map deadF) css
theorem LD.next {S0 xb : Nat} {u : LUnit} {va : Value} {w3 : World} {i : Nat} {v : Value} {css : List (List Value)} {wr : World} (h : LD S0 xb u va w3 i v css wr) (hi : i < u.flows.length) (hS : S0 ≤ w3.heap.size) {f : LFlow} (hf : f = u.flows[i]) {X X3 : World} {A : Option Addr} {c gp cp : Nat} (hx : Below wr.heap.size wr X) (hfl : FlowAt S0 xb wr.heap.size X (deadF f) A c)
  {o : Obj} (hg : (X.alloc o).grownBy X3 v.ownBlock) (hown : X3.ownsRow (w3.heap.size + 1) 41 4 (.slice (some ⟨gp, 0, none⟩) (i + 1) cp) (i + 1) (css.flatten ++ [.string (deadF f).name, .int .i64 (deadF f).params, .int .i64 (deadF f).values, .slice A (deadF f).blocks.length c])) (hat : v.ownBlock = some gp ∨ X.heap.size ≤ gp) :
  LD S0 xb u va w3 (i + 1) (.slice (some ⟨gp, 0, none⟩) (i + 1) cp) (css ++ [[.string (deadF f).name, .int .i64 (deadF f).params, .int .i64 (deadF f).values, .slice A (deadF f).blocks.length c]]) (X3.setCell ⟨w3.heap.size, 1, none⟩ (.slice (some ⟨gp, 0, none⟩) (i + 1) cp)) := by
 have hbase := h.own.row.lt
 have hW : w3.heap.size < wr.heap.size := h.vB.lt
 have hxs := hx.size
 have hgs := hg.size
 have hal : (X.alloc o).heap.size = X.heap.size + 1 := by simp
 have hz : (X3.setCell ⟨w3.heap.size, 1, none⟩ (.slice (some ⟨gp, 0, none⟩) (i + 1) cp)).heap.size = X3.heap.size := by simp [World.setCell]
 have hgpl := hown.lt gp rfl
 have hlen : ((u.flows.take i).map deadF).length = i := by rw [List.length_map, List.length_take]; omega
 have hst := grown_set X3 ⟨w3.heap.size, 1, none⟩ (.slice (some ⟨gp, 0, none⟩) (i + 1) cp)
 have hout : v.ownBlock ≠ some w3.heap.size := fun e => by have := (hbase _ e).1; omega
 have kX : ∀ b, b < X.heap.size → b ≠ w3.heap.size → v.ownBlock ≠ some b → (X3.setCell ⟨w3.heap.size, 1, none⟩ (.slice (some ⟨gp, 0, none⟩) (i + 1) cp)).heap[b]? = X.heap[b]? := fun b h1 h2 h3 =>
  ((hst.block b (by omega) (fun e => by injection e with e; exact h2 e)).trans (hg.block b (by omega) (fun e => h3 e.symm))).trans (Below.heap_alloc X o b h1)
 have hB : Below w3.heap.size w3 X3 := ((h.below.trans (hx.mono (by omega))).alloc (by have := h.below.size; omega) o).grown hg (by have := h.below.size; omega) (fun k e => by have := (hbase k e).1; omega)
 have htk : (u.flows.take (i + 1)).map deadF = (u.flows.take i).map deadF ++ [deadF f] := by rw [List.take_succ_eq_append_getElem hi, List.map_append, hf]; rfl
 have hvB : Blk X3 w3.heap.size 27 #[va, v] := ((h.vB.below hx hW).alloc o).grown hg hout
 refine ⟨hB.setCell (Nat.le_refl _) _, hvB.set_ 1 _, ?_⟩
 rw [htk]
 have hrow := hown.kept hst (.inr (fun e => by have e' : gp = w3.heap.size := (by simpa [Value.ownBlock] using e); omega))
 refine OwnX.snoc mono_flow h.own rfl (by rw [hlen]; exact hrow) (fun b hb => (kX b (by omega) (by have := hb.2.1; omega) hb.2.2).trans (hx.block b hb.1)) (fun b hb => ⟨by omega, hb.2.1, fun e => ?_⟩) (fun b e e2 => e2.2.2 e) ?_
 ·have e' : gp = b := (by simpa [Value.ownBlock] using e)
  rcases hat with h1 | h1
  ·exact hb.2.2 (by rw [h1, e'])
  ·have := hb.1; omega
 ·have hvl : ∀ b, okF S0 xb wr.heap.size X b → v.ownBlock ≠ some b := fun b hb e => by have := hbase b e; have := hb.1; omega
  have hup : ∀ b, okF S0 xb wr.heap.size X b → b < (X3.setCell ⟨w3.heap.size, 1, none⟩ (.slice (some ⟨gp, 0, none⟩) (i + 1) cp)).heap.size ∧ (b < S0 ∧ b ≠ xb ∨ w3.heap.size < b) ∧ (Value.slice (some ⟨gp, 0, none⟩) (i + 1) cp).ownBlock ≠ some b := fun b hb => by
   have h1 := hb.1
   have h2 := hb.2
   refine ⟨by omega, by omega, fun e => ?_⟩
   have e' : gp = b := (by simpa [Value.ownBlock] using e)
   rcases hat with h3 | h3
   ·exact hvl b hb (by rw [h3, e'])
   ·omega
  have hkk : Keeps (okF S0 xb wr.heap.size X) X (X3.setCell ⟨w3.heap.size, 1, none⟩ (.slice (some ⟨gp, 0, none⟩) (i + 1) cp)) := fun b hb => kX b hb.2 (by have := (hup b hb).2.1; omega) (hvl b hb)
  exact ⟨_, rfl, hfl.row.imp hup hkk (fun _ _ _ r => r.imp hup hkk)⟩
theorem OwnX.low {α : Type} {w : World} {ok : Nat → Prop} {base base' : Nat} {T : TypeId} {sz : Nat} {R : World → (Nat → Prop) → List Value → α → Prop} {v : Value} {l : List α} {css : List (List Value)} (h : OwnX w ok base T sz R v l css) (hb : base' ≤ base) : OwnX w ok base' T sz R v l css :=
 ⟨h.len, h.each, own_low h.row hb, h.elems, h.free⟩
structure DeadOut (u : LUnit) (w : World) (xb : Nat) (w' : World) (B1 B2 : Option Addr) (d1 d2 : Nat) : Prop where
 arr : SlR w' (fun b => w.heap.size ≤ b ∧ b < w'.heap.size ∧ (Value.slice B2 u.flows.length d2).ownBlock ≠ some b) 2 RArr (.slice B1 u.arrays.length d1) u.arrays
 own : ∃ css, OwnX w' (fun b => b < w'.heap.size ∧ b ≠ xb ∧ (Value.slice B2 u.flows.length d2).ownBlock ≠ some b) w.heap.size 41 4 RFlow (.slice B2 u.flows.length d2) (deadE u).flows css
set_option maxRecDepth 100000 in
set_option maxHeartbeats 16000000 in
theorem dead_full {u : LUnit} {w : World} (xb : Nat) (hxb : xb ≤ w.heap.size) {A1 A2 : Option Addr} {c1 c2 : Nat} (hu : UnitOk u) (hs : SmallU u) (hui : UIn u w A1 A2 c1 c2) (hfx : SlR w (· < w.heap.size) 4 (RFlow w (fun b => b < w.heap.size ∧ b ≠ xb)) (.slice A2 u.flows.length c2) u.flows) :
  Calls Tryz.prog 10 #[.agg #[.slice A1 u.arrays.length c1, .slice A2 u.flows.length c2]] w fun e w' => ∃ B1 B2 d1 d2, e = .returned (.tuple #[.agg #[.slice B1 u.arrays.length d1, .slice B2 u.flows.length d2], .int .i64 0]) ∧ Below w.heap.size w w' ∧ DeadOut u w xb w' B1 B2 d1 d2 := by
 have HCK := Lib.hid (fun (X : World) (hb : Below w.heap.size w X) => check_u hu (hui.below hb))
 have hal : u.arrays.length * 24 ≤ 140737488355328 := by have := hu.arrs; omega
 have HCL := Lib.hid (fun (X : World) (hb : Below w.heap.size w X) => clone_arr hal X (hui.below hb).arr (fun _ h => h))
 have hfl := hu.fls
 have HU := Lib.hid hu
 have HSM := Lib.hid hs
 have HF := Lib.hid hfx
 clear hui hu hal hs hfx
 go_enter Tryz.func10, Tryz.ntmps10
 go_upto_region 4 with (go_at_call 11; refine (HCK.out _ (below2 w _ _)).mono ?_; rintro e w2 ⟨rfl, hb2⟩)
 refine wp_world ?_
 intro W hW
 have hw2 : w.heap.size + 2 ≤ w2.heap.size := by have := hb2.size; simp at this; omega
 have hB : Below w.heap.size w W := by
  have h := (below2 w _ _).trans (hb2.mono (by simp; omega))
  rw [← hW]; exact h.alloc (by omega) _
 have hU : Blk W w.heap.size 27 #[.slice A1 u.arrays.length c1, .slice A2 u.flows.length c2] := by
  rw [← hW]
  exact (Blk.below ((Blk.new w _ _).alloc _) hb2 (by simp; omega)).alloc _
 have hR : Blk W (w.heap.size + 1) 27 #[.slice none 0 0, .slice none 0 0] := by
  rw [← hW]
  exact (Blk.below (Blk.new_at _ _ _ (by simp)) hb2 (by simp)).alloc _
 have u0 : W.cell? ⟨w.heap.size, 0, none⟩ = some (.slice A1 u.arrays.length c1) := hU.cell 0
 have HU2 := Lib.hid hU
 have HR2 := Lib.hid hR
 have HB := Lib.hid hB
 have hRl := hR.lt
 clear hW hb2 hB hU hR HCK
 go_upto_region 5 with (go_at_call 22; refine (HCL.out _ HB.out).mono ?_; rintro e w3 ⟨va, cssa, rfl, hb3, howna, hla1, hla2, hela, hlta⟩; obtain ⟨A3, c3, hva⟩ := own_form howna; subst hva)
 refine wp_world ?_
 intro W4 hW4
 have hw3 : W.heap.size ≤ w3.heap.size := hb3.size
 have h34 : Below w3.heap.size w3 W4 := by rw [← hW4]; exact below1 _ _
 have hX4 : Blk W4 w3.heap.size 27 #[.slice A3 u.arrays.length c3, .slice none 0 0] := by rw [← hW4]; exact Blk.new w3 _ _
 have hsa : SlR w3 (fun b => W.heap.size ≤ b ∧ b < w3.heap.size) 2 RArr (.slice A3 u.arrays.length c3) u.arrays := SlR.of_own howna rfl hla1 hla2 hela (fun g e => ⟨(howna.lt g e).1, hlta g e⟩)
 have hB3 : Below w.heap.size w w3 := HB.out.trans (hb3.mono HB.out.size)
 have hU3 := HU2.out.below hb3 (by omega)
 have hR3 := HR2.out.below hb3 hRl
 have hB4 : Below w.heap.size w W4 := hB3.trans (h34.mono hB3.size)
 have hU4 := hU3.below h34 hU3.lt
 have u1 : W4.cell? ⟨w.heap.size, 1, none⟩ = some (.slice A2 u.flows.length c2) := hU4.cell 1
 have hst : LD w.heap.size xb u (.slice A3 u.arrays.length c3) w3 0 (.slice none 0 0) [] W4 := ⟨h34, hX4, OwnX.nil_ _ _ _ _ _ _⟩
 have HSA := Lib.hid hsa
 have HB3 := Lib.hid hB3
 have HR3 := Lib.hid hR3
 have HST := Lib.hid hst
 clear hW4 h34 hX4 hsa hB3 hU3 hR3 hB4 hU4 hst hb3 howna hla1 hla2 hela hlta HCL u0
 go_wp2_with fail
 go_loopw [24] (fun s wr => ∃ i : Nat, i ≤ u.flows.length ∧ s = .int .i64 i ∧ ∃ v css, LD w.heap.size xb u (.slice A3 u.arrays.length c3) w3 i v css wr) (fun s _ => u.flows.length - (intOf s).toNat)
 case atStart => exact ⟨0, by omega, rfl, _, _, HST.out⟩
 case round =>
  obtain ⟨wo, hwo⟩ : ∃ wo, wo = wr := ⟨_, rfl⟩
  subst hwo
  obtain ⟨i, hi, rfl, v, css, hl⟩ := hrel
  have hBW : Below w.heap.size w wo := HB3.out.trans (hl.below.mono HB3.out.size)
  obtain ⟨Ao, co, hv⟩ := own_form hl.own.row
  have hlo : ((u.flows.take i).map deadF).length = i := by rw [List.length_map, List.length_take]; omega
  rw [hlo] at hv
  subst hv
  have HL := Lib.hid hl
  have HBW := Lib.hid hBW
  have hwl : w3.heap.size < wo.heap.size := hl.vB.lt
  by_cases hlt : i < u.flows.length
  ·have e1 : decide ((i : Int) < (u.flows.length : Int)) = true := decide_eq_true (by omega)
   have hi3 : (i : Int) < (u.flows.length : Int) := by omega
   obtain ⟨gf, of_, cf', hform, _, _, hgl, hq⟩ := HF.out.form (by omega)
   obtain ⟨rfl, rfl⟩ : A2 = some ⟨gf, of_, none⟩ ∧ c2 = cf' := by injection hform with h1 _ h2; exact ⟨h1, h2⟩
   obtain ⟨cs, _, ⟨vb, hcs, hsb⟩, hcell⟩ := hq i hlt
   subst hcs
   obtain ⟨f, hfe⟩ : ∃ f, f = u.flows[i] := ⟨_, rfl⟩
   have hfm : f ∈ u.flows := by rw [hfe]; exact List.getElem_mem _
   rw [← hfe] at hcell hsb
   obtain ⟨Ab, cb, hvb, _, _⟩ := hsb.val
   subst hvb
   have hcw := hcell.keep (hBW.block gf hgl)
   have i0 : wo.cell? ⟨gf, of_ + i * 4, none⟩ = some (.string f.name) := by have h := hcw.at_ (j := 0) rfl; simpa using h
   have i1 : wo.cell? ⟨gf, of_ + i * 4 + 1, none⟩ = some (.int .i64 f.params) := hcw.at_ (j := 1) rfl
   have i2 : wo.cell? ⟨gf, of_ + i * 4 + 2, none⟩ = some (.int .i64 f.values) := hcw.at_ (j := 2) rfl
   have i3 : wo.cell? ⟨gf, of_ + i * 4 + 3, none⟩ = some (.slice Ab f.blocks.length cb) := hcw.at_ (j := 3) rfl
   have HSB := Lib.hid hsb
   have HFE := Lib.hid hfe
   have HFM := Lib.hid hfm
   clear hcw hcell hsb hq hform hl hfe hfm hBW u1
   go_upto_region 8 with fail
   refine wp_world ?_
   intro W8 hW8
   have hb8 : Below wo.heap.size wo W8 := by rw [← hW8]; exact below1 _ _
   have hX8 : Blk W8 wo.heap.size 41 #[.string f.name, .int .i64 f.params, .int .i64 f.values, .slice Ab f.blocks.length cb] := by rw [← hW8]; exact Blk.new wo _ _
   have hl8 := hX8.lt
   have g0 : W8.cell? ⟨wo.heap.size, 0, none⟩ = some (.string f.name) := hX8.cell 0
   have g1 : W8.cell? ⟨wo.heap.size, 1, none⟩ = some (.int .i64 f.params) := hX8.cell 1
   have g2 : W8.cell? ⟨wo.heap.size, 2, none⟩ = some (.int .i64 f.values) := hX8.cell 2
   have g3 : W8.cell? ⟨wo.heap.size, 3, none⟩ = some (.slice Ab f.blocks.length cb) := hX8.cell 3
   have hb8w : Below w.heap.size w W8 := HBW.out.trans (hb8.mono HBW.out.size)
   have HOWN : Hid (Calls Tryz.prog 23 #[.agg #[.string f.name, .int .i64 f.params, .int .i64 f.values, .slice Ab f.blocks.length cb]] W8 _) := Lib.hid (by
    have hsw := (sweeps_good HU.out HSM.out HFM.out 0)
    exact own_any f w.heap.size xb hsw.2.1.1 hsw.2.2.1 hsw.2.2.2 (fun b hb x hx => args_ok HU.out ((block_ok HU.out HFM.out hb).2 x hx)) Ab cb W8 hb8w.size (HSB.out.imp (fun _ h => h) (fun b hb => hb8w.block b hb.1) (fun _ _ _ r => r.imp (fun _ h => h) (fun b hb => hb8w.block b hb.1))))
   have HX8 := Lib.hid hX8
   have HB8 := Lib.hid hb8
   have hw8 := hb8.size
   have hww := HBW.out.size
   clear hW8 hb8 hX8 hb8w i0 i1 i2 i3
   go_upto_region 9 with (go_at_call 23; refine HOWN.out.mono ?_; rintro e w9 ⟨A9, c9, rfl, hb9, hs9⟩; have hX9 := HX8.out.below hb9 hl8; have q0 : w9.cell? ⟨wo.heap.size, 0, none⟩ = some (.string f.name) := hX9.cell 0; have q1 : w9.cell? ⟨wo.heap.size, 1, none⟩ = some (.int .i64 f.params) := hX9.cell 1; have q2 : w9.cell? ⟨wo.heap.size, 2, none⟩ = some (.int .i64 f.values) := hX9.cell 2; have q3 : w9.cell? ⟨wo.heap.size, 3, none⟩ = some (.slice Ab f.blocks.length cb) := hX9.cell 3; have z0 := hX9.frozen 0; have z1 := hX9.frozen 1; have z2 := hX9.frozen 2; have z3 := hX9.frozen 3)
   refine wp_world ?_
   intro W9 hW9
   have hfa : FlowAt w.heap.size xb wo.heap.size W9 f A9 c9 := by
    have hgs : w9.grownBy W9 (some wo.heap.size) := by rw [← hW9]; exact (((grown_set w9 ⟨wo.heap.size, 0, none⟩ _).trans (grown_set _ ⟨wo.heap.size, 1, none⟩ _)).trans (grown_set _ ⟨wo.heap.size, 2, none⟩ _)).trans (grown_set _ ⟨wo.heap.size, 3, none⟩ _)
    have hbk : Blk W9 wo.heap.size 41 #[.string f.name, .int .i64 f.params, .int .i64 f.values, .slice A9 f.blocks.length c9] := by rw [← hW9]; exact (((hX9.set_ 0 _).set_ 1 _).set_ 2 _).set_ 3 _
    have hgz := hgs.size
    have hup : ∀ b, okB w.heap.size xb W8.heap.size w9 b → okF w.heap.size xb wo.heap.size W9 b := fun b hb => ⟨by have := hb.1; omega, by have := hb.2; omega⟩
    have hkk : Keeps (okB w.heap.size xb W8.heap.size w9) w9 W9 := fun b hb => hgs.block b hb.2 (fun e => by injection e with e; have := hb.1; omega)
    exact ⟨hbk, hs9.imp hup hkk (fun _ _ _ r => r.imp hup hkk)⟩
   have hb9w : Below wo.heap.size wo W9 := by
    rw [← hW9]
    exact ((((HB8.out.trans (hb9.mono (by omega))).setCell (p := ⟨wo.heap.size, 0, none⟩) (Nat.le_refl _) _).setCell (p := ⟨wo.heap.size, 1, none⟩) (Nat.le_refl _) _).setCell (p := ⟨wo.heap.size, 2, none⟩) (Nat.le_refl _) _).setCell (p := ⟨wo.heap.size, 3, none⟩) (Nat.le_refl _) _
   have HFA := Lib.hid hfa
   have HB9 := Lib.hid hb9w
   clear hW9 hfa hb9w hs9 hb9 hX9 q0 q1 q2 q3 z0 z1 z2 z3 g0 g1 g2 g3 HOWN HX8 HB8
   go_loopg [30] (insCount f.blocks + 1) (fun k _ wr => ∃ n A c, insCount (sweeps n f).blocks < k ∧ FlowAt w.heap.size xb wo.heap.size wr (sweeps n f) A c ∧ Below wo.heap.size wo wr)
   case atStart => exact ⟨0, A9, c9, Nat.lt_succ_self _, HFA.out, HB9.out⟩
   case round =>
    clear HFA HB9
    obtain ⟨n, A, c, hk, hfa, hbr⟩ := hrel
    obtain ⟨hgd, hnx, hbl, hil⟩ := sweeps_good HU.out HSM.out HFM.out n
    have hsw := sweep_any (sweeps n f) w.heap.size xb wo.heap.size hww hgd hnx.1 hbl hil A c wr hfa
    have hsn := sweeps_snoc n f
    cases hd : decide (insCount (sweepF (sweeps n f)).blocks < insCount (sweeps n f).blocks) with
    | true =>
     rw [hd] at hsw
     have HSW := Lib.hid hsw
     have HBR := Lib.hid hbr
     have HD := Lib.hid (of_decide_eq_true hd)
     have HK := Lib.hid hk
     have HSN := Lib.hid hsn
     clear hsw hbr hd hfa hgd hnx hbl hil hk hsn
     go_wp2_with (go_at_call 24; refine HSW.out.mono ?_; rintro e w6 ⟨rfl, hb6, A6, c6, hf6⟩)
     go_roundg (insCount (sweepF (sweeps n f)).blocks + 1)
     case measure => have := HD.out; have := HK.out; omega
     case rel => exact ⟨n + 1, A6, c6, by rw [HSN.out]; exact Nat.lt_succ_self _, by rw [HSN.out]; exact hf6, HBR.out.trans hb6⟩
    | false =>
     rw [hd] at hsw
     have hsame : sweepF (sweeps n f) = sweeps n f := sweep_same (by have h1 := of_decide_eq_false hd; have h2 := sweep_le (sweeps n f); omega)
     have hfix : sweeps n f = sweptF f := by rw [← swept_self hsame, swept_sweeps]
     rw [hsame, hfix] at hsw
     rw [hfix] at hgd hnx hbl
     have HSW := Lib.hid hsw
     have HBR := Lib.hid hbr
     have HTR := Lib.hid (fun (X : World) (A c) (h : FlowAt w.heap.size xb wo.heap.size X (sweptF f) A c) => trim_any (sweptF f) w.heap.size xb wo.heap.size hww hgd hnx hbl A c X h)
     clear hsw hbr hd hfa hgd hnx hbl hil hk hsn hsame hfix
     go_upto_region 11 with (first | (go_at_call 24; refine HSW.out.mono ?_; rintro e w6 ⟨rfl, hb6, A6, c6, hf6⟩) | (go_at_call 25; refine (HTR.out w6 A6 c6 hf6).mono ?_; rintro e w7 ⟨rfl, hb7, A7, c7, hf7⟩))
     have hbX : Below wo.heap.size wo w7 := (HBR.out.trans hb6).trans hb7
     obtain ⟨d, hde⟩ : ∃ d, d = deadF f := ⟨_, rfl⟩
     have hf7' : FlowAt w.heap.size xb wo.heap.size w7 d A7 c7 := by rw [hde]; exact hf7
     have HDE := Lib.hid hde
     obtain ⟨j0, j1, j2, j3⟩ := hf7'.cells
     have hvb := HL.out.vB.below hbX hwl
     have o1 : w7.cell? ⟨w3.heap.size, 1, none⟩ = some (.slice Ao i co) := hvb.cell 1
     have o2 : w7.frozen? ⟨w3.heap.size, 1, none⟩ = false := hvb.frozen 1
     have hrow7 : w7.ownsRow (w3.heap.size + 1) 41 4 (.slice Ao i co) i css.flatten := by
      have h := HL.out.own.row.kept (grown_of_below (row := none) hbX) (Classical.em _)
      rw [hlo] at h
      exact h
     have hne : (Value.slice Ao i co).ownBlock ≠ some w3.heap.size := fun e => by have := (HL.out.own.row.lt _ e).1; omega
     have hw37 : w3.heap.size < w7.heap.size := hvb.lt
     have hfb7 := hf7'.lt
     obtain ⟨z0, hi0, hz0, hz1, hz2⟩ := info_parts info_flow
     have HBX := Lib.hid hbX
     have HF7 := Lib.hid hf7'
     clear hbX hf7' hf7 hb7 hf6 hb6 hvb HTR HSW HBR hde
     go_wp2_with (first | (at_builtin; refine wpList_append_lies _ rfl _ _ _ rfl (w3.heap.size + 1) 41 z0 _ 4 56 Tryz.underlying25 hi0 hz0 hz1 hz2 rfl (by decide) (.slice Ao i co) i css.flatten rfl (hrow7.alloc _) ⟨w7.heap.size, 0, none⟩ 1 1 [.string d.name, .int .i64 d.params, .int .i64 d.values, .slice A7 d.blocks.length c7] rfl rfl (World.news_of_block (cs := #[.string d.name, .int .i64 d.params, .int .i64 d.values, .slice A7 d.blocks.length c7]) (t := 41) (fr := (0, 0)) (heap_alloc_new w7 _)) (by simp [Value.oneCell']) (by decide) (by unfold maxLen; omega) (by omega) (by simp; omega) (w7.heap.size + 1) (by simp) ?_; intro g2 cap2 w8 hown8 hgrow8 hat8 hlt8; have o3 : w8.cell? ⟨w3.heap.size, 1, none⟩ = some (.slice Ao i co) := (hgrow8.cell_far _ (by simp; omega) (Ne.symm hne)).trans ((World.cell?_alloc_lt w7 _ _ (by simp; omega)).trans o1); have o4 : w8.frozen? ⟨w3.heap.size, 1, none⟩ = false := (hgrow8.frozen_far _ (by simp; omega) (Ne.symm hne)).trans ((World.frozen?_alloc_old w7 _ _ (Nat.ne_of_lt (by simp; omega))).trans o2)))
     go_roundw
     case rel =>
      have hn := HL.out.next hlt (f := f) (A := A7) (c := c7) (by omega) HFE.out HBX.out (by rw [← HDE.out]; exact HF7.out) hgrow8 (by rw [← HDE.out]; exact hown8) (hat8.imp id fun h => by simp [h])
      rw [← HDE.out] at hn
      exact ⟨i + 1, by omega, by go_num, _, _, hn⟩
     case measure => simp [intOf]; omega
  ·have d1 : decide ((i : Int) < (u.flows.length : Int)) = false := decide_eq_false (by omega)
   obtain rfl : i = u.flows.length := by omega
   have hvb := hl.vB
   have o0 : wo.cell? ⟨w3.heap.size, 0, none⟩ = some (.slice A3 u.arrays.length c3) := hvb.cell 0
   have o1 : wo.cell? ⟨w3.heap.size, 1, none⟩ = some (.slice Ao u.flows.length co) := hvb.cell 1
   have hw23 : w.heap.size + 1 < w3.heap.size := by omega
   have hRr := HR3.out.below hl.below hw23
   have r0 : wo.cell? ⟨w.heap.size + 1, 0, none⟩ = some (.slice none 0 0) := hRr.cell 0
   have r1 : wo.cell? ⟨w.heap.size + 1, 1, none⟩ = some (.slice none 0 0) := hRr.cell 1
   have z0 := hRr.frozen 0
   have z1 := hRr.frozen 1
   have HRR := Lib.hid hRr
   clear hvb hRr hl hBW u1
   go_wp2
   have hfin : Blk ((wo.setCell ⟨w.heap.size + 1, 0, none⟩ (.slice A3 u.arrays.length c3)).setCell ⟨w.heap.size + 1, 1, none⟩ (.slice Ao u.flows.length co)) (w.heap.size + 1) 27 #[.slice A3 u.arrays.length c3, .slice Ao u.flows.length co] := (HRR.out.set_ 0 _).set_ 1 _
   have hbel : Below w.heap.size w ((wo.setCell ⟨w.heap.size + 1, 0, none⟩ (.slice A3 u.arrays.length c3)).setCell ⟨w.heap.size + 1, 1, none⟩ (.slice Ao u.flows.length co)) := (HBW.out.setCell (Nat.le_succ _) _).setCell (Nat.le_succ _) _
   have hneq : ∀ (q b : Nat), b ≠ w.heap.size + 1 → b ≠ (⟨w.heap.size + 1, q, none⟩ : Addr).block := fun _ _ h => h
   have hkf : Keeps (fun b => b ≠ w.heap.size + 1) wo ((wo.setCell ⟨w.heap.size + 1, 0, none⟩ (.slice A3 u.arrays.length c3)).setCell ⟨w.heap.size + 1, 1, none⟩ (.slice Ao u.flows.length co)) := ((Keeps.refl _ _).set (fun b hb => hneq 0 b hb) _).set (fun b hb => hneq 1 b hb) _
   have hsz : ((wo.setCell ⟨w.heap.size + 1, 0, none⟩ (.slice A3 u.arrays.length c3)).setCell ⟨w.heap.size + 1, 1, none⟩ (.slice Ao u.flows.length co)).heap.size = wo.heap.size := by simp [World.setCell]
   have hgs := (grown_set wo ⟨w.heap.size + 1, 0, none⟩ (.slice A3 u.arrays.length c3)).trans (grown_set (wo.setCell ⟨w.heap.size + 1, 0, none⟩ (.slice A3 u.arrays.length c3)) ⟨w.heap.size + 1, 1, none⟩ (.slice Ao u.flows.length co))
   generalize (wo.setCell ⟨w.heap.size + 1, 0, none⟩ (.slice A3 u.arrays.length c3)).setCell ⟨w.heap.size + 1, 1, none⟩ (.slice Ao u.flows.length co) = wf at *
   refine bodyPost_ret (results_cellT (p := 2) (q := 3) (ty := 27) (by kernel_rfl) _ _ (w.heap.size + 1) 27 _ (0, 0) _ (.int .i64 0) rfl rfl hfin Tryz.underlying27 rfl (by kernel_rfl)) rfl ?_
   have hlt3 := HL.out.own.row.lt
   have hsz3 := HB3.out.size
   refine ⟨A3, Ao, c3, co, rfl, hbel, ?_, ?_⟩
   ·exact HSA.out.imp (fun b hb => ⟨by omega, by omega, fun e => by have := hlt3 b e; omega⟩) (fun b hb => (hkf b (by omega)).trans (HL.out.below.block b hb.2)) (fun _ _ _ r => r)
   ·have hown := HL.out.own.low (base' := w.heap.size) (by omega)
    rw [List.take_length] at hown
    have hrow := hown.row.kept (w' := wf) (row := some (w.heap.size + 1)) ⟨hgs.os, hgs.tape, hgs.output, hgs.size, hgs.block⟩ (.inr (fun e => by have := hlt3 _ e; omega))
    exact ⟨css, hown.keep mono_flow hrow (fun b hb => ⟨by omega, by have := hb.2.1; omega, hb.2.2⟩) (fun b hb => hkf b (by have := hb.2.1; omega)) (fun b e e2 => e2.2.2 e)⟩
def DeadPost (u : LUnit) (X : World) (e : Ending) (w' : World) : Prop :=
 ∃ B1 B2 d1 d2, e = .returned (.tuple #[.agg #[.slice B1 u.arrays.length d1, .slice B2 u.flows.length d2], .int .i64 0]) ∧ Below X.heap.size X w' ∧ UIn (deadE u) w' B1 B2 d1 d2
theorem DeadOut.uin {u : LUnit} {w w' : World} {xb : Nat} {B1 B2 : Option Addr} {d1 d2 : Nat} (h : DeadOut u w xb w' B1 B2 d1 d2) : UIn (deadE u) w' B1 B2 d1 d2 := by
 have e : (deadE u).flows.length = u.flows.length := List.length_map _
 obtain ⟨css, hown⟩ := h.own
 refine ⟨h.arr.imp (fun b hb => hb.2.1) (Keeps.refl _ _) (fun _ _ _ r => r), ?_⟩
 rw [e]
 exact hown.slr mono_flow (fun b hb => hb.1) (fun b eb => (hown.row.lt b eb).2)
theorem dead_u {u : LUnit} {w : World} {A1 A2 : Option Addr} {c1 c2 : Nat} (hu : UnitOk u) (hs : SmallU u) (hui : UIn u w A1 A2 c1 c2) :
  Calls Tryz.prog 10 #[.agg #[.slice A1 u.arrays.length c1, .slice A2 u.flows.length c2]] w (DeadPost u w) := by
 refine (dead_full w.heap.size (Nat.le_refl _) hu hs hui (hui.flo.imp (fun _ h => h) (Keeps.refl _ _) (fun _ _ _ r => r.imp (fun b hb => ⟨hb, Nat.ne_of_lt hb⟩) (Keeps.refl _ _)))).mono ?_
 rintro e w' ⟨B1, B2, d1, d2, rfl, hb, ho⟩
 exact ⟨B1, B2, d1, d2, rfl, hb, ho.uin⟩
end Go.Proofs.YtkpigkopjfkepaaGreatDoor
