/- What fold.Fold makes of a unit that may be: the folded one, in memory of its own. Printed by wip/gen_foldfold.py. What fold.Known counts: the instructions that set a number, and the ends that are no choice. A unit that lies in memory: what Fit, Fold, Known, Check and Same make of it, in one form. What lies in the rows of a unit in memory, cell by cell. -/
import Derived.Test.YtnpnhdmfdhnmfaaGreatDoorFoldBlock
import Derived.Test.YtnpnhdmfdhnmfaaGreatDoorFoldLaws
import Derived.Test.YtnpnhdmfdhnmfaaGreatDoorFit
import Derived.Test.YtnpnhdmfdhnmfaaGreatDoorSame
import Derived.Test.YtnpnhdmfdhnmfaaGreatDoorIrFit
import Derived.Test.YtnpnhdmfdhnmfaaGreatDoorMem
import Derived.Laws.ResultCell
namespace Go.Proofs.YtnpnhdmfdhnmfaaGreatDoor
open Go.RowKit
open Go.Deep

/-! ### plain -/
theorem placeIf_64 {n top : Int} {is : Bool} (ht : top ≤ 50000) (h : placeIf n top is = true) : In64 n := by
  unfold placeIf at h
  unfold In64
  cases is with
  | true => rw [if_pos rfl] at h; have := of_decide_eq_true h; omega
  | false => rw [if_neg (by decide)] at h; have := of_decide_eq_true h; omega
theorem unit_foldB {u : LUnit} (hu : UnitOk u) {f : LFlow} (hf : f ∈ u.flows) {b : LBlock} (hb : b ∈ f.blocks) : FoldB b := by
  obtain ⟨_, _, _, hv, _, _⟩ := flow_ok hu hf
  obtain ⟨h1, h2⟩ := block_ok hu hf hb
  refine ⟨fun x hx => ?_, hu.lens f hf b hb, ?_⟩
  · have hok := h2 x hx
    have hk := insK_of hok
    unfold insOk at hok
    simp only [Bool.and_eq_true, decide_eq_true_eq] at hok
    obtain ⟨⟨⟨⟨⟨⟨q1, _⟩, q3⟩, q4⟩, _⟩, _⟩, q7⟩ := hok
    have hargs : (∀ k ∈ x.args, In64 k) ∧ x.args.length ≤ 1000 := by
      by_cases h9 : x.kind = 9
      · obtain ⟨g, hg, hl, hp⟩ := hk.call h9
        have hgm : g ∈ u.flows := List.mem_of_find?_eq_some hg
        have := (flow_ok hu hgm).2.1
        refine ⟨fun k hk => ?_, by omega⟩
        have := hp k hk
        unfold In64; omega
      · unfold namedOk at q7
        have h0 : x.args.length = 0 := by
          by_cases h56 : x.kind = 5 ∨ x.kind = 6
          · rw [if_pos h56] at q7; simp only [Bool.and_eq_true, decide_eq_true_eq] at q7; exact q7.1
          · rw [if_neg h56, if_neg h9] at q7; simp only [Bool.and_eq_true, decide_eq_true_eq] at q7; exact q7.2
        refine ⟨fun k hk => ?_, by omega⟩
        rw [List.eq_nil_of_length_eq_zero h0] at hk; cases hk
    exact ⟨q1, placeIf_64 hv q3, placeIf_64 hv q4, hargs.1, hargs.2, fun e => by have := hk.d e; omega⟩
  · unfold termOk at h1
    simp only [Bool.and_eq_true] at h1
    exact placeIf_64 hv h1.1.1.2

theorem results_cellT {P : Program} {fn : Func} {p q : Tmp} {ty : TypeId} (h : fn.results = #[.cell p ty, .tmp q]) (tmps : Array Value) (w : World) (g : Nat) (t : TypeId) (cs : Array Value) (fr : Nat × Nat) (d : TypeDesc) (x : Value)
    (hp : tmps.getD p undef = .pointer (some ⟨g, 0, none⟩)) (hq : tmps.getD q undef = x) (hg : w.heap[g]? = some (.cells cs t fr))
    (hu : P.underlying ty = some d) (hd : (match d with | .struct _ | .array _ _ => true | _ => false) = true) (hi : (P.info? ty).map (·.size) = some cs.size) :
    (results fn tmps).run P w = .ok (.tuple #[.agg cs, x]) w := by
  rw [results_cell_tmp h, hp, hq]
  have ha : (asAddr (.pointer (some ⟨g, 0, none⟩))).run P w = .ok ⟨g, 0, none⟩ w := rfl
  rw [ha]
  show ((loadVar ty ⟨g, 0, none⟩).run P w).andThen _ = _
  rw [run_loadVar_row w g t ty cs fr d hg hu hd hi]; rfl

/-! ### the worlds in the loops -/
/-- over the blocks of a function; w8: the world ahead of the folded function's block -/
structure LBk (f : LFlow) (w8 : World) (k : Nat) (v : Value) (css : List (List Value)) (wk : World) : Prop where
  below : Below w8.heap.size w8 wk
  vB : Blk wk w8.heap.size 45 #[.string f.name, .int .i64 f.params, .int .i64 f.values, v]
  own : OwnL wk (w8.heap.size + 1) 43 5 RBlock v ((f.blocks.take k).map blockE) css
/-- over the functions; w3: the world ahead of the folded unit's block -/
structure LFl (u : LUnit) (va : Value) (w3 : World) (i : Nat) (v : Value) (css : List (List Value)) (wr : World) : Prop where
  below : Below w3.heap.size w3 wr
  vB : Blk wr w3.heap.size 27 #[va, v]
  own : OwnL wr (w3.heap.size + 1) 45 4 RFlow v ((u.flows.take i).map flowE) css
theorem LBk.next {f : LFlow} {w8 : World} {k : Nat} {v : Value} {css : List (List Value)} {wk : World} (h : LBk f w8 k v css wk) (hk : k < f.blocks.length) {X1 X2 X3 : World} {Ay : Option Addr} {cy gp cp n0 : Nat} {y : LBlock} (hy : y = blockE f.blocks[k]) (hn0 : wk.heap.size ≤ n0)
    (hs1 : SlR X1 (fun b => n0 ≤ b ∧ b < X1.heap.size) 8 (RIns X1 (fun b => n0 ≤ b ∧ b < X1.heap.size)) (.slice Ay y.ins.length cy) y.ins)
    (hx2 : Below wk.heap.size wk X2) (h12 : Below X1.heap.size X1 X2) (hv3 : Blk X3 w8.heap.size 45 #[.string f.name, .int .i64 f.params, .int .i64 f.values, v]) (hg : X2.grownBy X3 v.ownBlock) (hown : X3.ownsRow (w8.heap.size + 1) 43 5 (.slice (some ⟨gp, 0, none⟩) (k + 1) cp) (k + 1) (css.flatten ++ [.slice Ay y.ins.length cy, .int .i64 y.term.kind, .int .i64 y.term.a, .int .i64 y.term.to, .int .i64 y.term.els])) (hat : v.ownBlock = some gp ∨ X2.heap.size ≤ gp) :
    LBk f w8 (k + 1) (.slice (some ⟨gp, 0, none⟩) (k + 1) cp) (css ++ [[.slice Ay y.ins.length cy, .int .i64 y.term.kind, .int .i64 y.term.a, .int .i64 y.term.to, .int .i64 y.term.els]]) (X3.setCell ⟨w8.heap.size, 3, none⟩ (.slice (some ⟨gp, 0, none⟩) (k + 1) cp)) := by
  have hbase : ∀ k, v.ownBlock = some k → w8.heap.size + 1 ≤ k ∧ k < wk.heap.size := h.own.lt
  have hW : w8.heap.size < wk.heap.size := h.vB.lt
  have hlen : ((f.blocks.take k).map blockE).length = k := by rw [List.length_map, List.length_take]; omega
  have hke : Keeps (fun k => w8.heap.size + 1 ≤ k ∧ k < wk.heap.size) wk X2 := fun k hk => hx2.block k hk.2
  have hsub : ∀ k, n0 ≤ k ∧ k < X1.heap.size → w8.heap.size + 1 ≤ k ∧ k < X2.heap.size ∧ v.ownBlock ≠ some k := fun k hk => ⟨by omega, by have := h12.size; omega, fun e => by have := (hbase k e).2; omega⟩
  have hkk : Keeps (fun k => n0 ≤ k ∧ k < X1.heap.size) X1 X2 := fun k hk => h12.block k hk.2
  have hsn := OwnL.snoc (x := y) (cs := [.slice Ay y.ins.length cy, .int .i64 y.term.kind, .int .i64 y.term.a, .int .i64 y.term.to, .int .i64 y.term.els]) mono_block h.own hke hx2.size rfl (by rw [hlen]; exact hown) hg hat ⟨_, rfl, hs1.imp hsub hkk (fun _ _ _ r => r.imp hsub hkk)⟩
  rw [hlen] at hsn
  have htk : (f.blocks.take (k + 1)).map blockE = (f.blocks.take k).map blockE ++ [y] := by rw [List.take_succ_eq_append_getElem hk, List.map_append, hy]; rfl
  have hB : Below w8.heap.size w8 X3 := (h.below.trans (hx2.mono h.below.size)).grown hg (by have := hx2.size; omega) (fun k e => by have := (hbase k e).1; omega)
  refine ⟨hB.setCell (Nat.le_refl _) _, hv3.set_ 3 _, ?_⟩
  rw [htk]
  exact hsn.keep mono_block (snoc_put (by simp) _) (by simp [World.setCell])
theorem LFl.next {u : LUnit} {va : Value} {w3 : World} {i : Nat} {v : Value} {css : List (List Value)} {wr : World} (h : LFl u va w3 i v css wr) (hi : i < u.flows.length) {X1 X2 X3 : World} {vb : Value} {gp cp n0 : Nat} {f : LFlow} (hf : f = u.flows[i]) (hn0 : wr.heap.size ≤ n0)
    (hs1 : SlR X1 (fun b => n0 ≤ b ∧ b < X1.heap.size) 5 (RBlock X1 (fun b => n0 ≤ b ∧ b < X1.heap.size)) vb (f.blocks.map blockE))
    (hx2 : Below wr.heap.size wr X2) (h12 : Below X1.heap.size X1 X2) (hv3 : Blk X3 w3.heap.size 27 #[va, v]) (hg : X2.grownBy X3 v.ownBlock) (hown : X3.ownsRow (w3.heap.size + 1) 45 4 (.slice (some ⟨gp, 0, none⟩) (i + 1) cp) (i + 1) (css.flatten ++ [.string f.name, .int .i64 f.params, .int .i64 f.values, vb])) (hat : v.ownBlock = some gp ∨ X2.heap.size ≤ gp) :
    LFl u va w3 (i + 1) (.slice (some ⟨gp, 0, none⟩) (i + 1) cp) (css ++ [[.string f.name, .int .i64 f.params, .int .i64 f.values, vb]]) (X3.setCell ⟨w3.heap.size, 1, none⟩ (.slice (some ⟨gp, 0, none⟩) (i + 1) cp)) := by
  have hbase : ∀ k, v.ownBlock = some k → w3.heap.size + 1 ≤ k ∧ k < wr.heap.size := h.own.lt
  have hW : w3.heap.size < wr.heap.size := h.vB.lt
  have hlen : ((u.flows.take i).map flowE).length = i := by rw [List.length_map, List.length_take]; omega
  have hke : Keeps (fun k => w3.heap.size + 1 ≤ k ∧ k < wr.heap.size) wr X2 := fun k hk => hx2.block k hk.2
  have hsub : ∀ k, n0 ≤ k ∧ k < X1.heap.size → w3.heap.size + 1 ≤ k ∧ k < X2.heap.size ∧ v.ownBlock ≠ some k := fun k hk => ⟨by omega, by have := h12.size; omega, fun e => by have := (hbase k e).2; omega⟩
  have hkk : Keeps (fun k => n0 ≤ k ∧ k < X1.heap.size) X1 X2 := fun k hk => h12.block k hk.2
  have hsn := OwnL.snoc (x := flowE f) (cs := [.string f.name, .int .i64 f.params, .int .i64 f.values, vb]) mono_flow h.own hke hx2.size rfl (by rw [hlen]; exact hown) hg hat ⟨_, rfl, hs1.imp hsub hkk (fun _ _ _ r => r.imp hsub hkk)⟩
  rw [hlen] at hsn
  have htk : (u.flows.take (i + 1)).map flowE = (u.flows.take i).map flowE ++ [flowE f] := by rw [List.take_succ_eq_append_getElem hi, List.map_append, hf]; rfl
  have hB : Below w3.heap.size w3 X3 := (h.below.trans (hx2.mono h.below.size)).grown hg (by have := hx2.size; omega) (fun k e => by have := (hbase k e).1; omega)
  refine ⟨hB.setCell (Nat.le_refl _) _, hv3.set_ 1 _, ?_⟩
  rw [htk]
  exact hsn.keep mono_flow (snoc_put (by simp) _) (by simp [World.setCell])

/-! ### the walk -/
/-- what Fold hands back -/
def FoldPost (u : LUnit) (w : World) (e : Ending) (w' : World) : Prop :=
  ∃ A c A' c', e = .returned (.tuple #[.agg #[.slice A u.arrays.length c, .slice A' u.flows.length c'], .int .i64 0]) ∧ Below w.heap.size w w' ∧ SlR w' (fun b => w.heap.size ≤ b ∧ b < w'.heap.size) 2 RArr (.slice A u.arrays.length c) u.arrays ∧ SlR w' (fun b => w.heap.size ≤ b ∧ b < w'.heap.size) 4 (RFlow w' (fun b => w.heap.size ≤ b ∧ b < w'.heap.size)) (.slice A' u.flows.length c') (foldE u).flows
theorem hb_slr {α : Type} {w X : World} {sz : Nat} {R : List Value → α → Prop} {v : Value} {l : List α} (h : SlR w (· < w.heap.size) sz R v l) (hb : Below w.heap.size w X) : SlR X (· < X.heap.size) sz R v l :=
  h.imp (fun _ h => Nat.lt_of_lt_of_le h hb.size) (fun b h => hb.block b h) (fun _ _ _ r => r)
theorem hb_flows {w X : World} {v : Value} {l : List LFlow} (h : SlR w (· < w.heap.size) 4 (RFlow w (· < w.heap.size)) v l) (hb : Below w.heap.size w X) : SlR X (· < X.heap.size) 4 (RFlow X (· < X.heap.size)) v l :=
  h.imp (fun _ h => Nat.lt_of_lt_of_le h hb.size) (fun b h => hb.block b h) (fun _ _ _ r => r.imp (fun _ h => Nat.lt_of_lt_of_le h hb.size) (fun b h => hb.block b h))

set_option maxRecDepth 100000 in
set_option maxHeartbeats 16000000 in
theorem fold_any (u : LUnit) (hu : UnitOk u) (A1 A2 : Option Addr) (c1 c2 : Nat) (w : World) (ha : SlR w (· < w.heap.size) 2 RArr (.slice A1 u.arrays.length c1) u.arrays) (hf : SlR w (· < w.heap.size) 4 (RFlow w (· < w.heap.size)) (.slice A2 u.flows.length c2) u.flows) :
    Calls Tryz.prog 26 #[.agg #[.slice A1 u.arrays.length c1, .slice A2 u.flows.length c2]] w (FoldPost u w) := by
  have HCK := Lib.hid (fun (X : World) (hb : Below w.heap.size w X) => check_ok u hu A1 A2 c1 c2 X (hb_slr ha hb) (hb_flows hf hb))
  have hal : u.arrays.length * 24 ≤ 140737488355328 := by have := hu.arrs; omega
  have HCL := Lib.hid (fun (X : World) (hb : Below w.heap.size w X) => clone_arr hal X (hb_slr ha hb) (fun _ h => h))
  have hfl := hu.fls
  have HU := Lib.hid hu
  have HF := Lib.hid hf
  clear ha hf hu hal
  go_enter Tryz.func26, Tryz.ntmps26
  go_upto_region 4 with (go_at_call 22; refine (HCK.out _ (below2 w _ _)).mono ?_; rintro e w2 ⟨rfl, hb2⟩)
  refine wp_world ?_
  intro W hW
  have hw2 : w.heap.size + 2 ≤ w2.heap.size := by have := hb2.size; simp at this; omega
  have hB : Below w.heap.size w W := by
    have h := (below2 w _ _).trans (hb2.mono (by simp; omega))
    rw [← hW]; exact h.alloc (by omega) _
  have hU : Blk W w.heap.size 27 #[.slice A1 u.arrays.length c1, .slice A2 u.flows.length c2] := by
    rw [← hW]
    exact (Blk.below ((Blk.new w _ _).alloc _) hb2 (by simp; omega)).alloc _
  have hR : Blk W (w.heap.size + 1) 27 #[.slice none 0 0, .slice none 0 0] := by
    rw [← hW]
    exact (Blk.below (Blk.new_at _ _ _ (by simp)) hb2 (by simp)).alloc _
  have u0 : W.cell? ⟨w.heap.size, 0, none⟩ = some (.slice A1 u.arrays.length c1) := hU.cell 0
  have HU2 := Lib.hid hU
  have HR2 := Lib.hid hR
  have HB := Lib.hid hB
  have hRl := hR.lt
  clear hW hb2 hB hU hR HCK
  go_upto_region 5 with (go_at_call 47; refine (HCL.out _ HB.out).mono ?_; rintro e w3 ⟨va, cssa, rfl, hb3, howna, hla1, hla2, hela, hlta⟩; obtain ⟨A3, c3, hva⟩ := own_form howna; subst hva)
  refine wp_world ?_
  intro W4 hW4
  have hw3 : W.heap.size ≤ w3.heap.size := hb3.size
  have h34 : Below w3.heap.size w3 W4 := by rw [← hW4]; exact below1 _ _
  have hX4 : Blk W4 w3.heap.size 27 #[.slice A3 u.arrays.length c3, .slice none 0 0] := by rw [← hW4]; exact Blk.new w3 _ _
  have hsa : SlR w3 (fun b => W.heap.size ≤ b ∧ b < w3.heap.size) 2 RArr (.slice A3 u.arrays.length c3) u.arrays := SlR.of_own howna rfl hla1 hla2 hela (fun g e => ⟨(howna.lt g e).1, hlta g e⟩)
  have hB3 : Below w.heap.size w w3 := HB.out.trans (hb3.mono HB.out.size)
  have hU3 := HU2.out.below hb3 (by omega)
  have hR3 := HR2.out.below hb3 hRl
  have hB4 : Below w.heap.size w W4 := hB3.trans (h34.mono hB3.size)
  have hU4 := hU3.below h34 hU3.lt
  have u1 : W4.cell? ⟨w.heap.size, 1, none⟩ = some (.slice A2 u.flows.length c2) := hU4.cell 1
  have hst : LFl u (.slice A3 u.arrays.length c3) w3 0 (.slice none 0 0) [] W4 := ⟨h34, hX4, OwnL.nil_ _ _ _ _ _⟩
  have HSA := Lib.hid hsa
  have HB3 := Lib.hid hB3
  have HR3 := Lib.hid hR3
  have HST := Lib.hid hst
  clear hW4 h34 hX4 hsa hB3 hU3 hR3 hB4 hU4 hst hb3 howna hla1 hla2 hela hlta HCL u0
  go_wp2_with fail
  go_loopw [27] (fun s wr => ∃ i : Nat, i ≤ u.flows.length ∧ s = .int .i64 i ∧ ∃ v css, LFl u (.slice A3 u.arrays.length c3) w3 i v css wr) (fun s _ => u.flows.length - (intOf s).toNat)
  case atStart => exact ⟨0, by omega, rfl, _, _, HST.out⟩
  case round =>
    obtain ⟨wo, hwo⟩ : ∃ wo, wo = wr := ⟨_, rfl⟩
    subst hwo
    obtain ⟨i, hi, rfl, v, css, hl⟩ := hrel
    have hBW : Below w.heap.size w wo := HB3.out.trans (hl.below.mono HB3.out.size)
    obtain ⟨Ao, co, hv⟩ := own_form hl.own.row
    have hlo : ((u.flows.take i).map flowE).length = i := by rw [List.length_map, List.length_take]; omega
    rw [hlo] at hv
    subst hv
    have HL := Lib.hid hl
    have HBW := Lib.hid hBW
    have hwl : w3.heap.size < wo.heap.size := hl.vB.lt
    by_cases hlt : i < u.flows.length
    · have e1 : decide ((i : Int) < (u.flows.length : Int)) = true := decide_eq_true (by omega)
      have hi3 : (i : Int) < (u.flows.length : Int) := by omega
      obtain ⟨gf, of_, cf', hform, _, _, hgl, hq⟩ := HF.out.form (by omega)
      obtain ⟨rfl, rfl⟩ : A2 = some ⟨gf, of_, none⟩ ∧ c2 = cf' := by injection hform with h1 _ h2; exact ⟨h1, h2⟩
      obtain ⟨cs, _, ⟨vb, hcs, hsb⟩, hcell⟩ := hq i hlt
      subst hcs
      obtain ⟨f, hfe⟩ : ∃ f, f = u.flows[i] := ⟨_, rfl⟩
      have hfm : f ∈ u.flows := by rw [hfe]; exact List.getElem_mem _
      rw [← hfe] at hcell hsb
      obtain ⟨Ab, cb, hvb, _, _⟩ := hsb.val
      subst hvb
      obtain ⟨_, _, _, _, _, hbl⟩ := flow_ok HU.out hfm
      have hcw := hcell.keep (hBW.block gf hgl)
      have i0 : wo.cell? ⟨gf, of_ + i * 4, none⟩ = some (.string f.name) := by have h := hcw.at_ (j := 0) rfl; simpa using h
      have i1 : wo.cell? ⟨gf, of_ + i * 4 + 1, none⟩ = some (.int .i64 f.params) := hcw.at_ (j := 1) rfl
      have i2 : wo.cell? ⟨gf, of_ + i * 4 + 2, none⟩ = some (.int .i64 f.values) := hcw.at_ (j := 2) rfl
      have i3 : wo.cell? ⟨gf, of_ + i * 4 + 3, none⟩ = some (.slice Ab f.blocks.length cb) := hcw.at_ (j := 3) rfl
      have HSB := Lib.hid hsb
      have HFE := Lib.hid hfe
      have HFM := Lib.hid hfm
      clear hcw hcell hsb hq hform hl hfe hfm hBW
      go_upto_region 8 with fail
      refine wp_world ?_
      intro w8 hw8
      have h8 : Below wo.heap.size wo w8 := by rw [← hw8]; exact below1 _ _
      have hs8 : w8.heap.size = wo.heap.size + 1 := by rw [← hw8]; simp
      have x8 : Blk w8 wo.heap.size 45 #[.string f.name, .int .i64 f.params, .int .i64 f.values, .slice Ab f.blocks.length cb] := by rw [← hw8]; exact Blk.new wo _ _
      have z0 : w8.cell? ⟨wo.heap.size, 0, none⟩ = some (.string f.name) := x8.cell 0
      have z1 : w8.cell? ⟨wo.heap.size, 1, none⟩ = some (.int .i64 f.params) := x8.cell 1
      have z2 : w8.cell? ⟨wo.heap.size, 2, none⟩ = some (.int .i64 f.values) := x8.cell 2
      have H8 := Lib.hid h8
      have HX8 := Lib.hid x8
      have HS8 := Lib.hid hs8
      have hlt8 : wo.heap.size < w8.heap.size := by omega
      clear hw8 h8 hs8 x8 i0 i1 i2 i3
      go_upto_region 9 with fail
      refine wp_world ?_
      intro W9 hW9
      have h89 : Below w8.heap.size w8 W9 := by rw [← hW9]; exact below1 _ _
      have x9 : Blk W9 w8.heap.size 45 #[.string f.name, .int .i64 f.params, .int .i64 f.values, .slice none 0 0] := by rw [← hW9]; exact Blk.new w8 _ _
      have z3 : W9.cell? ⟨wo.heap.size, 3, none⟩ = some (.slice Ab f.blocks.length cb) := (HX8.out.below h89 hlt8).cell 3
      have hst9 : LBk f w8 0 (.slice none 0 0) [] W9 := ⟨h89, x9, OwnL.nil_ _ _ _ _ _⟩
      have HST9 := Lib.hid hst9
      clear hW9 h89 x9 hst9 z0 z1 z2
      go_wp2_with fail
      go_loopw [41] (fun s wk => ∃ k : Nat, k ≤ f.blocks.length ∧ s = .int .i64 k ∧ ∃ v css, LBk f w8 k v css wk) (fun s _ => f.blocks.length - (intOf s).toNat)
      case atStart => exact ⟨0, by omega, rfl, _, _, HST9.out⟩
      case round =>
        obtain ⟨wk, hwk⟩ : ∃ wk, wk = wr := ⟨_, rfl⟩
        subst hwk
        obtain ⟨k, hk, rfl, v, css2, hlk⟩ := hrel
        have hBK : Below wo.heap.size wo wk := H8.out.trans (hlk.below.mono H8.out.size)
        have hBWK : Below w.heap.size w wk := HBW.out.trans (hBK.mono HBW.out.size)
        obtain ⟨Av, cv, hv⟩ := own_form hlk.own.row
        have hlo2 : ((f.blocks.take k).map blockE).length = k := by rw [List.length_map, List.length_take]; omega
        rw [hlo2] at hv
        subst hv
        have HLK := Lib.hid hlk
        have HBK := Lib.hid hBK
        have hkl : w8.heap.size < wk.heap.size := hlk.vB.lt
        by_cases hltk : k < f.blocks.length
        · have d1 : decide ((k : Int) < (f.blocks.length : Int)) = true := decide_eq_true (by omega)
          have hk3 : (k : Int) < (f.blocks.length : Int) := by omega
          obtain ⟨gb, ob, cb', hformb, _, _, hgb, hqb⟩ := HSB.out.form (by omega)
          obtain ⟨rfl, rfl⟩ : Ab = some ⟨gb, ob, none⟩ ∧ cb = cb' := by injection hformb with h1 _ h2; exact ⟨h1, h2⟩
          obtain ⟨cs, _, ⟨vi, hcs, hsi⟩, hcellb⟩ := hqb k hltk
          subst hcs
          obtain ⟨b, hbe⟩ : ∃ b, b = f.blocks[k] := ⟨_, rfl⟩
          have hbm : b ∈ f.blocks := by rw [hbe]; exact List.getElem_mem _
          rw [← hbe] at hcellb hsi
          obtain ⟨Ai, ci, hvi, _, _⟩ := hsi.val
          subst hvi
          have hcw := hcellb.keep (hBWK.block gb hgb)
          have j0 : wk.cell? ⟨gb, ob + k * 5, none⟩ = some (.slice Ai b.ins.length ci) := by have h := hcw.at_ (j := 0) rfl; simpa using h
          have j1 : wk.cell? ⟨gb, ob + k * 5 + 1, none⟩ = some (.int .i64 b.term.kind) := hcw.at_ (j := 1) rfl
          have j2 : wk.cell? ⟨gb, ob + k * 5 + 2, none⟩ = some (.int .i64 b.term.a) := hcw.at_ (j := 2) rfl
          have j3 : wk.cell? ⟨gb, ob + k * 5 + 3, none⟩ = some (.int .i64 b.term.to) := hcw.at_ (j := 3) rfl
          have j4 : wk.cell? ⟨gb, ob + k * 5 + 4, none⟩ = some (.int .i64 b.term.els) := hcw.at_ (j := 4) rfl
          have hFB : FoldB b := unit_foldB HU.out HFM.out hbm
          obtain ⟨y, hy⟩ : ∃ y, y = blockE b := ⟨_, rfl⟩
          have hyk : y = blockE f.blocks[k] := by rw [hy, hbe]
          have HYK := Lib.hid hyk
          have HFBX : Hid (∀ X, Below wk.heap.size wk X → Calls Tryz.prog 48 #[.agg #[.slice Ai b.ins.length ci, .int .i64 b.term.kind, .int .i64 b.term.a, .int .i64 b.term.to, .int .i64 b.term.els]] X fun e X' => ∃ Ay cy, e = .returned (.agg #[.slice Ay y.ins.length cy, .int .i64 y.term.kind, .int .i64 y.term.a, .int .i64 y.term.to, .int .i64 y.term.els]) ∧ Below X.heap.size X X' ∧ SlR X' (fun b => X.heap.size ≤ b ∧ b < X'.heap.size) 8 (RIns X' (fun b => X.heap.size ≤ b ∧ b < X'.heap.size)) (.slice Ay y.ins.length cy) y.ins) := Lib.hid (fun X hb => by
            have hbx : Below w.heap.size w X := hBWK.trans (hb.mono hBWK.size)
            have h := foldblock_any b hFB (.slice Ai b.ins.length ci) X (hsi.imp (fun _ h => Nat.lt_of_lt_of_le h hbx.size) (fun b h => hbx.block b h) (fun _ _ _ r => r.imp (fun _ h => Nat.lt_of_lt_of_le h hbx.size) (fun b h => hbx.block b h)))
            refine h.mono ?_
            rintro e X' ⟨v, he, h1, h2⟩
            rw [← hy] at he h2
            obtain ⟨Ay, cy, hv, _, _⟩ := h2.val
            subst hv
            exact ⟨Ay, cy, he, h1, h2⟩)
          clear hcw hcellb hqb hformb hsi hbe hbm hFB hy hyk hlk hBK hBWK
          go_upto_region 12 with fail
          refine wp_world ?_
          intro W11 hW11
          have h11 : Below wk.heap.size wk W11 := by rw [← hW11]; exact below1 _ _
          have x11 : Blk W11 wk.heap.size 43 #[.slice Ai b.ins.length ci, .int .i64 b.term.kind, .int .i64 b.term.a, .int .i64 b.term.to, .int .i64 b.term.els] := by rw [← hW11]; exact Blk.new wk _ _
          have hl11 : wk.heap.size < W11.heap.size := x11.lt
          have HFB : Hid (∀ X, Below W11.heap.size W11 X → Calls Tryz.prog 48 #[.agg #[.slice Ai b.ins.length ci, .int .i64 b.term.kind, .int .i64 b.term.a, .int .i64 b.term.to, .int .i64 b.term.els]] X fun e X' => ∃ Ay cy, e = .returned (.agg #[.slice Ay y.ins.length cy, .int .i64 y.term.kind, .int .i64 y.term.a, .int .i64 y.term.to, .int .i64 y.term.els]) ∧ Below X.heap.size X X' ∧ SlR X' (fun b => X.heap.size ≤ b ∧ b < X'.heap.size) 8 (RIns X' (fun b => X.heap.size ≤ b ∧ b < X'.heap.size)) (.slice Ay y.ins.length cy) y.ins) := Lib.hid (fun X hb => HFBX.out X (h11.trans (hb.mono h11.size)))
          have hvb11 : Blk W11 w8.heap.size 45 #[.string f.name, .int .i64 f.params, .int .i64 f.values, .slice Av k cv] := HLK.out.vB.below h11 hkl
          have hrow : W11.ownsRow (w8.heap.size + 1) 43 5 (.slice Av k cv) k css2.flatten := by
            have h := HLK.out.own.row
            rw [hlo2] at h
            exact h.kept (grown_below' (row := none) h11) (Classical.em _)
          have hne : ∀ q, (Value.slice Av k cv).ownBlock = some q → w8.heap.size + 1 ≤ q ∧ q < wk.heap.size := fun q e => HLK.out.own.lt q e
          have SO : Hid (∀ X, Below W11.heap.size W11 X → (fun w2 => w2.cell? ⟨w8.heap.size, 3, none⟩ = some (.slice Av k cv) ∧ w2.cell? ⟨wk.heap.size, 0, none⟩ = some (.slice Ai b.ins.length ci) ∧ w2.cell? ⟨wk.heap.size, 1, none⟩ = some (.int .i64 b.term.kind) ∧ w2.cell? ⟨wk.heap.size, 2, none⟩ = some (.int .i64 b.term.a) ∧ w2.cell? ⟨wk.heap.size, 3, none⟩ = some (.int .i64 b.term.to) ∧ w2.cell? ⟨wk.heap.size, 4, none⟩ = some (.int .i64 b.term.els)) X) := Lib.hid (fun X hb => ⟨(hvb11.below hb (by omega)).cell 3, (x11.below hb hl11).cell 0, (x11.below hb hl11).cell 1, (x11.below hb hl11).cell 2, (x11.below hb hl11).cell 3, (x11.below hb hl11).cell 4⟩)
          have HOV : Hid (∀ X, Below W11.heap.size W11 X → X.ownsRow (w8.heap.size + 1) 43 5 (.slice Av k cv) k css2.flatten) := Lib.hid (fun X hb => hrow.kept (grown_below' (row := none) hb) (Classical.em _))
          have hkp : ∀ X2 X3, Below W11.heap.size W11 X2 → X2.grownBy X3 (Value.slice Av k cv).ownBlock → ∀ q, q < W11.heap.size → (q = w8.heap.size ∨ q = wk.heap.size) → X3.heap[q]? = X2.heap[q]? := fun X2 X3 hb hg q hq hq2 => hg.block q (by have := hb.size; omega) (fun e => by have := hne q e.symm; omega)
          have SOG : Hid (∀ X2 X3, Below W11.heap.size W11 X2 → X2.grownBy X3 (Value.slice Av k cv).ownBlock → (fun w2 => w2.cell? ⟨w8.heap.size, 3, none⟩ = some (.slice Av k cv) ∧ w2.cell? ⟨wk.heap.size, 0, none⟩ = some (.slice Ai b.ins.length ci) ∧ w2.cell? ⟨wk.heap.size, 1, none⟩ = some (.int .i64 b.term.kind) ∧ w2.cell? ⟨wk.heap.size, 2, none⟩ = some (.int .i64 b.term.a) ∧ w2.cell? ⟨wk.heap.size, 3, none⟩ = some (.int .i64 b.term.to) ∧ w2.cell? ⟨wk.heap.size, 4, none⟩ = some (.int .i64 b.term.els)) X3) := Lib.hid (fun X2 X3 hb hg => by
            obtain ⟨a0, a1, a2, a3, a4, a5⟩ := SO.out X2 hb
            have k1 := hkp X2 X3 hb hg w8.heap.size (by omega) (.inl rfl)
            have k2 := hkp X2 X3 hb hg wk.heap.size (by omega) (.inr rfl)
            exact ⟨(World.cell?_of_block (w := X2) (w' := X3) (a := ⟨w8.heap.size, 3, none⟩) k1).trans a0, (World.cell?_of_block (w := X2) (w' := X3) (a := ⟨wk.heap.size, 0, none⟩) k2).trans a1, (World.cell?_of_block (w := X2) (w' := X3) (a := ⟨wk.heap.size, 1, none⟩) k2).trans a2, (World.cell?_of_block (w := X2) (w' := X3) (a := ⟨wk.heap.size, 2, none⟩) k2).trans a3, (World.cell?_of_block (w := X2) (w' := X3) (a := ⟨wk.heap.size, 3, none⟩) k2).trans a4, (World.cell?_of_block (w := X2) (w' := X3) (a := ⟨wk.heap.size, 4, none⟩) k2).trans a5⟩)
          have HVB3 : Hid (∀ X2 X3, Below W11.heap.size W11 X2 → X2.grownBy X3 (Value.slice Av k cv).ownBlock → Blk X3 w8.heap.size 45 #[.string f.name, .int .i64 f.params, .int .i64 f.values, .slice Av k cv]) := Lib.hid (fun X2 X3 hb hg => (hvb11.below hb (by omega)).keep (hkp X2 X3 hb hg w8.heap.size (by omega) (.inl rfl)))
          have HVZ : Hid (∀ X2 X3, Below W11.heap.size W11 X2 → X2.grownBy X3 (Value.slice Av k cv).ownBlock → X3.frozen? ⟨w8.heap.size, 3, none⟩ = false ∧ X3.cell? ⟨w8.heap.size, 3, none⟩ = some (.slice Av k cv)) := Lib.hid (fun X2 X3 hb hg => ⟨(HVB3.out X2 X3 hb hg).frozen 3, (HVB3.out X2 X3 hb hg).cell 3⟩)
          obtain ⟨zi, hj0, hj1, hj2, hj3⟩ := info_parts info_block
          have H11 := Lib.hid h11
          clear hW11 h11 x11 hvb11 hrow hkp hne j0 j1 j2 j3 j4 z3
          have hz0 : Below W11.heap.size W11 W11.drew := (Below.refl _ _).drew
          refine wp_region_L (by kernel_rfl) 7 (fun w2 => w2.cell? ⟨w8.heap.size, 3, none⟩ = some (.slice Av k cv) ∧ w2.cell? ⟨wk.heap.size, 0, none⟩ = some (.slice Ai b.ins.length ci) ∧ w2.cell? ⟨wk.heap.size, 1, none⟩ = some (.int .i64 b.term.kind) ∧ w2.cell? ⟨wk.heap.size, 2, none⟩ = some (.int .i64 b.term.a) ∧ w2.cell? ⟨wk.heap.size, 3, none⟩ = some (.int .i64 b.term.to) ∧ w2.cell? ⟨wk.heap.size, 4, none⟩ = some (.int .i64 b.term.els)) (SO.out _ hz0) (fun hHeld => ?_)
          have HS0 := Lib.hid hHeld
          clear hHeld
          change wpAnyL _ _ _ _ _ 7 8 (Array.replicate 8 false) _ _
          generalize W11.drew = X0 at *
          have HZ0 := Lib.hid hz0
          clear hz0
          refine takeL 0 45 (.pointer (some ⟨w8.heap.size, 3, none⟩)) HS0.out rfl rfl (by kernel_rfl) (by kernel_rfl) (by kernel_rfl) (by decide) (fun _ _ _ h => h) (by kernel_rfl) ?_ ?_
          · intro w2; go_simp
          try simp only [List.setIfInBounds_toArray, List.set_cons_zero, List.set_cons_succ]
          refine takeL_S 1 46 (.slice Av k cv) [7] HS0.out rfl rfl (by kernel_rfl) (by kernel_rfl) (by kernel_rfl) (by decide) (by kernel_rfl) (fun _ _ _ h => h) (by kernel_rfl) ?_ ?_
          · intro w2 hSw; obtain ⟨g0, g1, g2, g3, g4, g5⟩ := hSw; go_simp
          try simp only [List.setIfInBounds_toArray, List.set_cons_zero, List.set_cons_succ]
          refine takeL_S 2 47 (.agg #[.slice Ai b.ins.length ci, .int .i64 b.term.kind, .int .i64 b.term.a, .int .i64 b.term.to, .int .i64 b.term.els]) [7] HS0.out rfl rfl (by kernel_rfl) (by kernel_rfl) (by kernel_rfl) (by decide) (by kernel_rfl) (fun _ _ _ h => h) (by kernel_rfl) ?_ ?_
          · intro w2 hSw; obtain ⟨g0, g1, g2, g3, g4, g5⟩ := hSw; go_simp
          try simp only [List.setIfInBounds_toArray, List.set_cons_zero, List.set_cons_succ]
          refine wpAnyL_ready (rs := [3]) (by kernel_rfl) (by simp) ?_
          refine AllReadyL.cons rfl (fun K hK => ?_) AllReadyL.nil
          go_simp
          refine (HFB.out X0 HZ0.out).mono ?_
          rintro e X1 ⟨Ay, cy, rfl, hx1, hsl1⟩
          have HZ1 := Lib.hid (HZ0.out.trans (hx1.mono HZ0.out.size))
          have hx01 : W11.heap.size ≤ X0.heap.size := HZ0.out.size
          have HSL1 := Lib.hid hsl1
          clear hx1 hsl1
          refine hK.out _ _ (SO.out _ HZ1.out) (fun hHeld => ?_)
          have HS1 := Lib.hid hHeld
          clear hK K hHeld
          try simp only [List.setIfInBounds_toArray, List.set_cons_zero, List.set_cons_succ]
          refine wpAnyL_ready (rs := [4]) (by kernel_rfl) (by simp) ?_
          refine AllReadyL.cons rfl (fun K hK => ?_) AllReadyL.nil
          go_simp
          refine hK.out _ _ (SO.out _ (HZ1.out.alloc HZ1.out.size _)) (fun hHeld => ?_)
          have HS2 := Lib.hid hHeld
          clear hK K hHeld
          try simp only [List.setIfInBounds_toArray, List.set_cons_zero, List.set_cons_succ]
          have hz2 : Below W11.heap.size W11 (X1.alloc (.cells #[.slice Ay y.ins.length cy, .int .i64 y.term.kind, .int .i64 y.term.a, .int .i64 y.term.to, .int .i64 y.term.els] 43)) := HZ1.out.alloc HZ1.out.size _
          have hn2 : Blk (X1.alloc (.cells #[.slice Ay y.ins.length cy, .int .i64 y.term.kind, .int .i64 y.term.a, .int .i64 y.term.to, .int .i64 y.term.els] 43)) X1.heap.size 43 #[.slice Ay y.ins.length cy, .int .i64 y.term.kind, .int .i64 y.term.a, .int .i64 y.term.to, .int .i64 y.term.els] := Blk.new X1 _ _
          have h12 : Below X1.heap.size X1 (X1.alloc (.cells #[.slice Ay y.ins.length cy, .int .i64 y.term.kind, .int .i64 y.term.a, .int .i64 y.term.to, .int .i64 y.term.els] 43)) := below1 _ _
          generalize (X1.alloc (.cells #[.slice Ay y.ins.length cy, .int .i64 y.term.kind, .int .i64 y.term.a, .int .i64 y.term.to, .int .i64 y.term.els] 43)) = X2 at *
          have HZ2 := Lib.hid hz2
          have HN2 := Lib.hid hn2
          have H12 := Lib.hid h12
          clear hz2 hn2 h12
          refine wpAnyL_ready (rs := [5]) (by kernel_rfl) (by simp) ?_
          refine AllReadyL.cons rfl (fun K hK => ?_) AllReadyL.nil
          have hsx : w8.heap.size + 1 ≤ X2.heap.size := by have := HZ2.out.size; omega
          refine step_append_lies _ (by rfl) _ _ _ (by rfl) (w8.heap.size + 1) 43 zi _ 5 56 Tryz.underlying22 hj0 hj1 hj2 hj3 rfl (by omega) (.slice Av k cv) k css2.flatten (by rfl) (HOV.out X2 HZ2.out) ⟨X1.heap.size, 0, none⟩ 1 1 [.slice Ay y.ins.length cy, .int .i64 y.term.kind, .int .i64 y.term.a, .int .i64 y.term.to, .int .i64 y.term.els] (by rfl) (by rfl) (World.news_of_block HN2.out) (by simp [Value.oneCell']) (by omega) (by unfold maxLen; omega) (by omega) hsx X2.heap.size rfl ?_
          intro gp cp X3 hown3 hgrow3 hat3 hlt3
          have HW3 := Lib.hid hown3
          have HG3 := Lib.hid hgrow3
          have HA3 := Lib.hid hat3
          have hS3 := (SOG.out X2 X3 HZ2.out hgrow3)
          clear hsx hown3 hgrow3 hat3
          refine hK.out _ _ (hS3) (fun hHeld => ?_)
          have HS3 := Lib.hid hHeld
          clear hK K hHeld
          try simp only [List.setIfInBounds_toArray, List.set_cons_zero, List.set_cons_succ]
          refine takeL 6 51 (.pointer (some ⟨w8.heap.size, 3, none⟩)) HS3.out rfl rfl (by kernel_rfl) (by kernel_rfl) (by kernel_rfl) (by decide) (fun _ _ _ h => h) (by kernel_rfl) ?_ ?_
          · intro w2; go_simp
          try simp only [List.setIfInBounds_toArray, List.set_cons_zero, List.set_cons_succ]
          obtain ⟨vz0, vz1⟩ := HVZ.out X2 X3 HZ2.out HG3.out
          refine wpAnyL_ready (rs := [7]) (by kernel_rfl) (by simp) ?_
          refine AllReadyL.last rfl (by kernel_rfl) (fun K hK => ?_)
          go_simp
          refine hK.out _ _ ?_
          clear hK K
          try simp only [List.setIfInBounds_toArray, List.set_cons_zero, List.set_cons_succ]
          refine wpAnyL_done (by kernel_rfl) ?_ _
          go_wp2_with fail
          go_roundw
          case rel =>
            exact ⟨k + 1, by omega, by go_num, _, _, HLK.out.next hltk HYK.out (Nat.le_trans H11.out.size hx01) HSL1.out (H11.out.trans (HZ2.out.mono H11.out.size)) H12.out (HVB3.out X2 X3 HZ2.out HG3.out) HG3.out HW3.out (HA3.out.imp id fun h => Nat.le_of_eq h.symm)⟩
          case measure => simp [intOf]; omega
        · have d1 : decide ((k : Int) < (f.blocks.length : Int)) = false := decide_eq_false (by omega)
          obtain rfl : k = f.blocks.length := by omega
          have hvo : Blk wk w3.heap.size 27 #[.slice A3 u.arrays.length c3, .slice Ao i co] := HL.out.vB.below hBK hwl
          have hvb := hlk.vB
          have o1 : wk.cell? ⟨w3.heap.size, 1, none⟩ = some (.slice Ao i co) := hvo.cell 1
          have g0 : wk.cell? ⟨w8.heap.size, 0, none⟩ = some (.string f.name) := hvb.cell 0
          have g1 : wk.cell? ⟨w8.heap.size, 1, none⟩ = some (.int .i64 f.params) := hvb.cell 1
          have g2 : wk.cell? ⟨w8.heap.size, 2, none⟩ = some (.int .i64 f.values) := hvb.cell 2
          have g3 : wk.cell? ⟨w8.heap.size, 3, none⟩ = some (.slice Av f.blocks.length cv) := hvb.cell 3
          have hrow : wk.ownsRow (w3.heap.size + 1) 45 4 (.slice Ao i co) i css.flatten := by
            have h := HL.out.own.row
            rw [hlo] at h
            exact h.kept (grown_below' (row := none) hBK) (Classical.em _)
          have hne : ∀ q, (Value.slice Ao i co).ownBlock = some q → w3.heap.size + 1 ≤ q := fun q e => (hrow.lt q e).1
          have hnb : (Value.slice Ao i co).ownBlock ≠ some w3.heap.size := fun e => by have := hne _ e; omega
          obtain ⟨zi, hj0, hj1, hj2, hj3⟩ := info_parts info_flow
          have hks : wo.heap.size ≤ wk.heap.size := hBK.size
          have HVO := Lib.hid hvo
          have HROW := Lib.hid hrow
          clear hlk hvo hvb hrow z3 hBK hBWK
          go_wp2_with (at_builtin; refine wpList_append_lies _ rfl _ _ _ rfl (w3.heap.size + 1) 45 zi _ 4 56 Tryz.underlying25 hj0 hj1 hj2 hj3 rfl (by decide) (.slice Ao i co) i css.flatten rfl (HROW.out.alloc _) ⟨wk.heap.size, 0, none⟩ 1 1 [.string f.name, .int .i64 f.params, .int .i64 f.values, .slice Av f.blocks.length cv] rfl rfl (World.news_of_block (Blk.new wk _ _)) (by simp [Value.oneCell']) (by decide) (by unfold maxLen; omega) (by omega) (by simp; omega) (wk.heap.size + 1) (by simp) ?_; intro g cap w5 hown5 hgrow hat hlt5; have hR5 := (HVO.out.alloc (.cells #[.string f.name, .int .i64 f.params, .int .i64 f.values, .slice Av f.blocks.length cv] 45)).grown hgrow hnb; have k5 : w5.cell? ⟨w3.heap.size, 1, none⟩ = some (.slice Ao i co) := hR5.cell 1; have z5 := hR5.frozen 1)
          go_roundw
          case rel =>
            have hsl9 : SlR wk (fun b => w8.heap.size + 1 ≤ b ∧ b < wk.heap.size) 5 (RBlock wk (fun b => w8.heap.size + 1 ≤ b ∧ b < wk.heap.size)) (.slice Av f.blocks.length cv) (f.blocks.map blockE) := by
              have h := HLK.out.own.slr mono_block
              rw [List.take_length] at h
              exact h
            exact ⟨i + 1, by omega, by go_num, _, _, HL.out.next hlt HFE.out (n0 := w8.heap.size + 1) (by omega) hsl9 (HBK.out.alloc hks _) (below1 _ _) hR5 hgrow hown5 (hat.imp id fun h => by simp; omega)⟩
          case measure => simp [intOf]; omega
    · have d1 : decide ((i : Int) < (u.flows.length : Int)) = false := decide_eq_false (by omega)
      obtain rfl : i = u.flows.length := by omega
      have hvb := hl.vB
      have o0 : wo.cell? ⟨w3.heap.size, 0, none⟩ = some (.slice A3 u.arrays.length c3) := hvb.cell 0
      have o1 : wo.cell? ⟨w3.heap.size, 1, none⟩ = some (.slice Ao u.flows.length co) := hvb.cell 1
      have hw23 : w.heap.size + 1 < w3.heap.size := by omega
      have hRr := HR3.out.below hl.below hw23
      have r0 : wo.cell? ⟨w.heap.size + 1, 0, none⟩ = some (.slice none 0 0) := hRr.cell 0
      have r1 : wo.cell? ⟨w.heap.size + 1, 1, none⟩ = some (.slice none 0 0) := hRr.cell 1
      have z0 := hRr.frozen 0
      have z1 := hRr.frozen 1
      have HRR := Lib.hid hRr
      clear hvb hRr hl hBW u1
      go_wp2
      have hfin : Blk ((wo.setCell ⟨w.heap.size + 1, 0, none⟩ (.slice A3 u.arrays.length c3)).setCell ⟨w.heap.size + 1, 1, none⟩ (.slice Ao u.flows.length co)) (w.heap.size + 1) 27 #[.slice A3 u.arrays.length c3, .slice Ao u.flows.length co] := (HRR.out.set_ 0 _).set_ 1 _
      have hbel : Below w.heap.size w ((wo.setCell ⟨w.heap.size + 1, 0, none⟩ (.slice A3 u.arrays.length c3)).setCell ⟨w.heap.size + 1, 1, none⟩ (.slice Ao u.flows.length co)) := (HBW.out.setCell (Nat.le_succ _) _).setCell (Nat.le_succ _) _
      have hneq : ∀ (q b : Nat), b ≠ w.heap.size + 1 → b ≠ (⟨w.heap.size + 1, q, none⟩ : Addr).block := fun _ _ h => h
      have hkf : Keeps (fun b => w.heap.size + 1 < b) wo ((wo.setCell ⟨w.heap.size + 1, 0, none⟩ (.slice A3 u.arrays.length c3)).setCell ⟨w.heap.size + 1, 1, none⟩ (.slice Ao u.flows.length co)) := ((Keeps.refl _ _).set (fun b hb => hneq 0 b (by omega)) _).set (fun b hb => hneq 1 b (by omega)) _
      have hsz : ((wo.setCell ⟨w.heap.size + 1, 0, none⟩ (.slice A3 u.arrays.length c3)).setCell ⟨w.heap.size + 1, 1, none⟩ (.slice Ao u.flows.length co)).heap.size = wo.heap.size := by simp [World.setCell]
      generalize (wo.setCell ⟨w.heap.size + 1, 0, none⟩ (.slice A3 u.arrays.length c3)).setCell ⟨w.heap.size + 1, 1, none⟩ (.slice Ao u.flows.length co) = wf at *
      refine bodyPost_ret (results_cellT (p := 2) (q := 3) (ty := 27) (by kernel_rfl) _ _ (w.heap.size + 1) 27 _ (0, 0) _ (.int .i64 0) rfl rfl hfin Tryz.underlying27 rfl (by kernel_rfl)) rfl ?_
      refine ⟨A3, c3, Ao, co, rfl, hbel, ?_, ?_⟩
      · exact HSA.out.imp (fun b hb => ⟨by omega, by rw [hsz]; omega⟩) (fun b hb => (hkf b (by omega)).trans (HL.out.below.block b hb.2)) (fun _ _ _ r => r)
      · have h := HL.out.own.slr mono_flow
        rw [List.take_length] at h
        exact h.imp (fun b hb => ⟨by omega, by rw [hsz]; omega⟩) (fun b hb => hkf b (by omega)) (fun _ _ _ r => r.imp (fun b hb => ⟨by omega, by rw [hsz]; omega⟩) (fun b hb => hkf b (by omega)))
end Go.Proofs.YtnpnhdmfdhnmfaaGreatDoor

namespace Go.Proofs.YtnpnhdmfdhnmfaaGreatDoor
open Go.RowKit
open Go.Deep

/-! ### plain -/
def numsL (l : List LIns) : Nat := (l.filter fun x => decide (x.kind = 1)).length
theorem numsL_take {l : List LIns} {j : Nat} (h : j < l.length) : numsL (l.take (j + 1)) = numsL (l.take j) + if l[j].kind = 1 then 1 else 0 := by
  unfold numsL
  rw [List.take_succ_eq_append_getElem h, List.filter_append, List.length_append]
  congr 1
  by_cases hk : l[j].kind = 1
  · rw [if_pos hk, List.filter_cons_of_pos (by simpa using hk)]; rfl
  · rw [if_neg hk, List.filter_cons_of_neg (by simpa using hk)]; rfl
def cntA (l : List LBlock) : Nat := (l.map numsB).sum
def cntB (l : List LBlock) : Nat := (l.map endsB).sum
theorem cntA_take {l : List LBlock} {k : Nat} (h : k < l.length) : cntA (l.take (k + 1)) = cntA (l.take k) + numsB l[k] := by
  unfold cntA
  rw [List.take_succ_eq_append_getElem h, List.map_append, List.sum_append]; simp
theorem cntB_take {l : List LBlock} {k : Nat} (h : k < l.length) : cntB (l.take (k + 1)) = cntB (l.take k) + endsB l[k] := by
  unfold cntB
  rw [List.take_succ_eq_append_getElem h, List.map_append, List.sum_append]; simp
def flA (l : List LFlow) : Nat := (l.map fun f => cntA f.blocks).sum
def flB (l : List LFlow) : Nat := (l.map fun f => cntB f.blocks).sum
theorem flA_take {l : List LFlow} {i : Nat} (h : i < l.length) : flA (l.take (i + 1)) = flA (l.take i) + cntA l[i].blocks := by
  unfold flA
  rw [List.take_succ_eq_append_getElem h, List.map_append, List.sum_append]; simp
theorem flB_take {l : List LFlow} {i : Nat} (h : i < l.length) : flB (l.take (i + 1)) = flB (l.take i) + cntB l[i].blocks := by
  unfold flB
  rw [List.take_succ_eq_append_getElem h, List.map_append, List.sum_append]; simp
theorem flA_all : ∀ l : List LFlow, flA l = cntA ((l.map (·.blocks)).flatten)
  | [] => rfl
  | f :: l => by
    have h := flA_all l
    unfold flA cntA at *
    rw [List.map_cons, List.sum_cons, List.map_cons, List.flatten_cons, List.map_append, List.sum_append, h]
theorem flB_all : ∀ l : List LFlow, flB l = cntB ((l.map (·.blocks)).flatten)
  | [] => rfl
  | f :: l => by
    have h := flB_all l
    unfold flB cntB at *
    rw [List.map_cons, List.sum_cons, List.map_cons, List.flatten_cons, List.map_append, List.sum_append, h]
theorem knownA_fl (u : LUnit) : knownA u = flA u.flows := (flA_all u.flows).symm
theorem knownB_fl (u : LUnit) : knownB u = flB u.flows := (flB_all u.flows).symm

/-! ### the walk -/
structure KW (w : World) (a b : Nat) (wr : World) : Prop where
  below : Below w.heap.size w wr
  out : Blk wr (w.heap.size + 1) 52 #[.int .i64 (a : Int), .int .i64 (b : Int)]
theorem KW.alloc {w wr W : World} {a b : Nat} (h : KW w a b wr) (hb : Below wr.heap.size wr W) : KW w a b W :=
  ⟨h.below.trans (hb.mono h.below.size), h.out.below hb h.out.lt⟩
set_option maxRecDepth 100000 in
set_option maxHeartbeats 16000000 in
theorem knownU_any (u : LUnit) (hu : UnitOk u) (A1 A2 : Option Addr) (c1 c2 : Nat) (w : World) (hf : SlR w (· < w.heap.size) 4 (RFlow w (· < w.heap.size)) (.slice A2 u.flows.length c2) u.flows) :
    Calls Tryz.prog 27 #[.agg #[.slice A1 u.arrays.length c1, .slice A2 u.flows.length c2]] w fun e w' => e = .returned (.agg #[.int .i64 (knownA u : Int), .int .i64 (knownB u : Int)]) ∧ Below w.heap.size w w' := by
  have hfl := hu.fls
  have HU := Lib.hid hu
  have HF := Lib.hid hf
  rw [knownA_fl, knownB_fl]
  clear hf hu
  go_enter Tryz.func27, Tryz.ntmps27
  go_upto_region 1 with fail
  refine wp_world ?_
  intro W hW
  have hst : KW w 0 0 W := ⟨by rw [← hW]; exact below2 w _ _, by rw [← hW]; exact Blk.new_at _ _ _ (by simp)⟩
  have hU : Blk W w.heap.size 27 #[.slice A1 u.arrays.length c1, .slice A2 u.flows.length c2] := by
    rw [← hW]; exact (Blk.new w _ _).alloc _
  have u1 : W.cell? ⟨w.heap.size, 1, none⟩ = some (.slice A2 u.flows.length c2) := hU.cell 1
  clear hW hU
  go_wp2_with fail
  go_loopw [12] (fun s wr => ∃ i : Nat, i ≤ u.flows.length ∧ s = .int .i64 i ∧ ∃ a b, a = flA (u.flows.take i) ∧ b = flB (u.flows.take i) ∧ a ≤ i * 20000000 ∧ b ≤ i * 20000 ∧ KW w a b wr) (fun s _ => u.flows.length - (intOf s).toNat)
  case atStart => exact ⟨0, by omega, rfl, 0, 0, rfl, rfl, by omega, by omega, hst⟩
  case round =>
    obtain ⟨wo, hwo⟩ : ∃ wo, wo = wr := ⟨_, rfl⟩
    subst hwo
    obtain ⟨i, hi, rfl, a, b, ha, hb, ha1, hb1, hl⟩ := hrel
    have HL := Lib.hid hl
    have HA := Lib.hid ha
    have HB := Lib.hid hb
    by_cases hlt : i < u.flows.length
    · have e1 : decide ((i : Int) < (u.flows.length : Int)) = true := decide_eq_true (by omega)
      have hi3 : (i : Int) < (u.flows.length : Int) := by omega
      obtain ⟨gf, of_, cf', hform, _, _, hgl, hq⟩ := HF.out.form (by omega)
      obtain ⟨rfl, rfl⟩ : A2 = some ⟨gf, of_, none⟩ ∧ c2 = cf' := by injection hform with h1 _ h2; exact ⟨h1, h2⟩
      obtain ⟨cs, _, ⟨vb, hcs, hsb⟩, hcell⟩ := hq i hlt
      subst hcs
      have hta := flA_take hlt
      have htb := flB_take hlt
      rw [← ha] at hta
      rw [← hb] at htb
      obtain ⟨f, hfe⟩ : ∃ f, f = u.flows[i] := ⟨_, rfl⟩
      have hfm : f ∈ u.flows := by rw [hfe]; exact List.getElem_mem _
      rw [← hfe] at hcell hsb hta htb
      obtain ⟨Ab, cb, hvb, _, _⟩ := hsb.val
      subst hvb
      obtain ⟨_, _, _, _, _, hbl⟩ := flow_ok HU.out hfm
      have hlens := HU.out.lens f hfm
      have hcw := hcell.keep (hl.below.block gf hgl)
      have i0 : wo.cell? ⟨gf, of_ + i * 4, none⟩ = some (.string f.name) := by have h := hcw.at_ (j := 0) rfl; simpa using h
      have i1 : wo.cell? ⟨gf, of_ + i * 4 + 1, none⟩ = some (.int .i64 f.params) := hcw.at_ (j := 1) rfl
      have i2 : wo.cell? ⟨gf, of_ + i * 4 + 2, none⟩ = some (.int .i64 f.values) := hcw.at_ (j := 2) rfl
      have i3 : wo.cell? ⟨gf, of_ + i * 4 + 3, none⟩ = some (.slice Ab f.blocks.length cb) := hcw.at_ (j := 3) rfl
      have HSB := Lib.hid hsb
      have HTA := Lib.hid hta
      have HTB := Lib.hid htb
      have HLN := Lib.hid hlens
      clear hcw hcell hsb hq hform hl hfe hfm ha hb hta htb hlens u1
      go_upto_region 4 with fail
      refine wp_world ?_
      intro w8 hw8
      have h8 : Below wo.heap.size wo w8 := by rw [← hw8]; exact below1 _ _
      have x8 : Blk w8 wo.heap.size 45 #[.string f.name, .int .i64 f.params, .int .i64 f.values, .slice Ab f.blocks.length cb] := by rw [← hw8]; exact Blk.new wo _ _
      have z3 : w8.cell? ⟨wo.heap.size, 3, none⟩ = some (.slice Ab f.blocks.length cb) := x8.cell 3
      have hst8 : KW w a b w8 := HL.out.alloc h8
      have HST8 := Lib.hid hst8
      clear hw8 h8 x8 hst8 i0 i1 i2 i3
      go_wp2_with fail
      go_loopw [19] (fun s wk => ∃ k : Nat, k ≤ f.blocks.length ∧ s = .int .i64 k ∧ ∃ a2 b2, a2 = a + cntA (f.blocks.take k) ∧ b2 = b + cntB (f.blocks.take k) ∧ a2 ≤ a + k * 1000 ∧ b2 ≤ b + k ∧ KW w a2 b2 wk) (fun s _ => f.blocks.length - (intOf s).toNat)
      case atStart => exact ⟨0, by omega, rfl, a, b, rfl, rfl, by omega, by omega, HST8.out⟩
      case round =>
        obtain ⟨wk, hwk⟩ : ∃ wk, wk = wr := ⟨_, rfl⟩
        subst hwk
        obtain ⟨k, hk, rfl, a2, b2, ha2, hb2, ha3, hb3, hlk⟩ := hrel
        have HLK := Lib.hid hlk
        by_cases hltk : k < f.blocks.length
        · have d1 : decide ((k : Int) < (f.blocks.length : Int)) = true := decide_eq_true (by omega)
          have hk3 : (k : Int) < (f.blocks.length : Int) := by omega
          obtain ⟨gb, ob, cb', hformb, _, _, hgb, hqb⟩ := HSB.out.form (by omega)
          obtain ⟨rfl, rfl⟩ : Ab = some ⟨gb, ob, none⟩ ∧ cb = cb' := by injection hformb with h1 _ h2; exact ⟨h1, h2⟩
          obtain ⟨cs, _, ⟨vi, hcs, hsi⟩, hcellb⟩ := hqb k hltk
          subst hcs
          have hka := cntA_take hltk
          have hkb := cntB_take hltk
          obtain ⟨x, hbe⟩ : ∃ x, x = f.blocks[k] := ⟨_, rfl⟩
          have hxl : x.ins.length ≤ 1000 := HLN.out x (by rw [hbe]; exact List.getElem_mem _)
          rw [← hbe] at hcellb hsi hka hkb
          obtain ⟨Ai, ci, hvi, _, _⟩ := hsi.val
          subst hvi
          have hna : a2 + numsB x = a + cntA (f.blocks.take (k + 1)) := by rw [hka, ha2]; omega
          have hnb : b2 + endsB x = b + cntB (f.blocks.take (k + 1)) := by rw [hkb, hb2]; omega
          have HNA := Lib.hid hna
          have HNB := Lib.hid hnb
          have hcw := hcellb.keep (hlk.below.block gb hgb)
          have j0 : wk.cell? ⟨gb, ob + k * 5, none⟩ = some (.slice Ai x.ins.length ci) := by have h := hcw.at_ (j := 0) rfl; simpa using h
          have j1 : wk.cell? ⟨gb, ob + k * 5 + 1, none⟩ = some (.int .i64 x.term.kind) := hcw.at_ (j := 1) rfl
          have j2 : wk.cell? ⟨gb, ob + k * 5 + 2, none⟩ = some (.int .i64 x.term.a) := hcw.at_ (j := 2) rfl
          have j3 : wk.cell? ⟨gb, ob + k * 5 + 3, none⟩ = some (.int .i64 x.term.to) := hcw.at_ (j := 3) rfl
          have j4 : wk.cell? ⟨gb, ob + k * 5 + 4, none⟩ = some (.int .i64 x.term.els) := hcw.at_ (j := 4) rfl
          have HSI := Lib.hid hsi
          clear hcw hcellb hqb hformb hsi hbe hlk hka hkb hna hnb z3 ha2 hb2
          go_upto_region 7 with fail
          refine wp_world ?_
          intro w11 hw11
          have h11 : Below wk.heap.size wk w11 := by rw [← hw11]; exact below1 _ _
          have x11 : Blk w11 wk.heap.size 43 #[.slice Ai x.ins.length ci, .int .i64 x.term.kind, .int .i64 x.term.a, .int .i64 x.term.to, .int .i64 x.term.els] := by rw [← hw11]; exact Blk.new wk _ _
          have hl11 : wk.heap.size < w11.heap.size := x11.lt
          have z0 : w11.cell? ⟨wk.heap.size, 0, none⟩ = some (.slice Ai x.ins.length ci) := x11.cell 0
          have hst11 : KW w a2 b2 w11 := HLK.out.alloc h11
          have HST11 := Lib.hid hst11
          have HX11 := Lib.hid x11
          clear hw11 h11 x11 hst11 j0 j1 j2 j3 j4
          go_wp2_with fail
          go_loopw [26] (fun s wq => ∃ j : Nat, j ≤ x.ins.length ∧ s = .int .i64 j ∧ Blk wq wk.heap.size 43 #[.slice Ai x.ins.length ci, .int .i64 x.term.kind, .int .i64 x.term.a, .int .i64 x.term.to, .int .i64 x.term.els] ∧ ∃ a3, a3 = a2 + numsL (x.ins.take j) ∧ a3 ≤ a2 + j ∧ KW w a3 b2 wq) (fun s _ => x.ins.length - (intOf s).toNat)
          case atStart => exact ⟨0, by omega, rfl, HX11.out, a2, rfl, by omega, HST11.out⟩
          case round =>
            obtain ⟨wq, hwq⟩ : ∃ wq, wq = wr := ⟨_, rfl⟩
            subst hwq
            obtain ⟨j, hj, rfl, hbq, a3, ha3', ha4, hlq⟩ := hrel
            have HLQ := Lib.hid hlq
            have HA3 := Lib.hid ha3'
            have HBQ := Lib.hid hbq
            by_cases hltj : j < x.ins.length
            · have d2 : decide ((j : Int) < (x.ins.length : Int)) = true := decide_eq_true (by omega)
              have hj3 : (j : Int) < (x.ins.length : Int) := by omega
              obtain ⟨gi, oi, ci', hformi, _, _, hgi, hqi⟩ := HSI.out.form (by omega)
              obtain ⟨rfl, rfl⟩ : Ai = some ⟨gi, oi, none⟩ ∧ ci = ci' := by injection hformi with h1 _ h2; exact ⟨h1, h2⟩
              obtain ⟨cs, _, ⟨va, hcs, hsx⟩, hcelli⟩ := hqi j hltj
              subst hcs
              have hnt := numsL_take hltj
              obtain ⟨y, hye⟩ : ∃ y, y = x.ins[j] := ⟨_, rfl⟩
              rw [← hye] at hcelli hsx hnt
              obtain ⟨Ax, cx, hvx, _, _⟩ := hsx.val
              subst hvx
              have HNT := Lib.hid hnt
              have hcw := hcelli.keep (hlq.below.block gi hgi)
              have p0 : wq.cell? ⟨gi, oi + j * 8, none⟩ = some (.int .i64 y.kind) := by have h := hcw.at_ (j := 0) rfl; simpa using h
              have p1 : wq.cell? ⟨gi, oi + j * 8 + 1, none⟩ = some (.int .i64 y.d) := hcw.at_ (j := 1) rfl
              have p2 : wq.cell? ⟨gi, oi + j * 8 + 2, none⟩ = some (.int .i64 y.a) := hcw.at_ (j := 2) rfl
              have p3 : wq.cell? ⟨gi, oi + j * 8 + 3, none⟩ = some (.int .i64 y.b) := hcw.at_ (j := 3) rfl
              have p4 : wq.cell? ⟨gi, oi + j * 8 + 4, none⟩ = some (.int .i64 y.op) := hcw.at_ (j := 4) rfl
              have p5 : wq.cell? ⟨gi, oi + j * 8 + 5, none⟩ = some (.int .i64 y.n) := hcw.at_ (j := 5) rfl
              have p6 : wq.cell? ⟨gi, oi + j * 8 + 6, none⟩ = some (.string y.name) := hcw.at_ (j := 6) rfl
              have p7 : wq.cell? ⟨gi, oi + j * 8 + 7, none⟩ = some (.slice Ax y.args.length cx) := hcw.at_ (j := 7) rfl
              clear hcw hcelli hqi hformi hsx hye hlq hnt ha3' hbq z0
              go_upto_region 10 with fail
              refine wp_world ?_
              intro w10 hw10
              have h10 : Below wq.heap.size wq w10 := by rw [← hw10]; exact below1 _ _
              have x10 : Blk w10 wq.heap.size 36 #[.int .i64 y.kind, .int .i64 y.d, .int .i64 y.a, .int .i64 y.b, .int .i64 y.op, .int .i64 y.n, .string y.name, .slice Ax y.args.length cx] := by rw [← hw10]; exact Blk.new wq _ _
              have q0 : w10.cell? ⟨wq.heap.size, 0, none⟩ = some (.int .i64 y.kind) := x10.cell 0
              have hst10 : KW w a3 b2 w10 := HLQ.out.alloc h10
              have o0 : w10.cell? ⟨w.heap.size + 1, 0, none⟩ = some (.int .i64 (a3 : Int)) := hst10.out.cell 0
              have oz := hst10.out.frozen 0
              have HST10 := Lib.hid hst10
              have hq11 := HBQ.out.below h10 HBQ.out.lt
              have HQ11 := Lib.hid hq11
              have hw11' : w.heap.size + 1 < wk.heap.size := HLK.out.out.lt
              clear hw10 h10 x10 hst10 hq11 p0 p1 p2 p3 p4 p5 p6 p7
              by_cases hk9 : y.kind = 1
              · have e9 : (y.kind == 1) = true := by simpa using hk9
                go_wp2_with fail
                go_roundw
                case rel =>
                  have hnt := HNT.out
                  rw [if_pos hk9] at hnt
                  have hlw : w.heap.size + 1 < wk.heap.size := HLK.out.out.lt
                  refine ⟨j + 1, by omega, by go_num, ?_, a3 + 1, by have := HA3.out; omega, by omega, ?_, ?_⟩
                  · exact HQ11.out.far (show wk.heap.size ≠ w.heap.size + 1 from Nat.ne_of_gt hlw) _
                  · exact HST10.out.below.setCell (Nat.le_succ _) _
                  · have h := HST10.out.out.set_ 0 (.int .i64 ((a3 + 1 : Nat) : Int))
                    exact h
                case measure => simp [intOf]; omega
              · have e9 : (y.kind == 1) = false := by simpa using hk9
                go_wp2_with fail
                go_roundw
                case rel =>
                  have hnt := HNT.out
                  rw [if_neg hk9] at hnt
                  exact ⟨j + 1, by omega, by go_num, HQ11.out, a3, by have := HA3.out; omega, by omega, HST10.out⟩
                case measure => simp [intOf]; omega
            · have d2 : decide ((j : Int) < (x.ins.length : Int)) = false := decide_eq_false (by omega)
              obtain rfl : j = x.ins.length := by omega
              have q1 : wq.cell? ⟨wk.heap.size, 1, none⟩ = some (.int .i64 x.term.kind) := hbq.cell 1
              have o1 : wq.cell? ⟨w.heap.size + 1, 1, none⟩ = some (.int .i64 (b2 : Int)) := hlq.out.cell 1
              have oz := hlq.out.frozen 1
              rw [List.take_length] at ha3'
              have hfa : a3 = a + cntA (f.blocks.take (k + 1)) := by rw [ha3', ← HNA.out]; rfl
              have HFA := Lib.hid hfa
              clear hlq hbq ha3' hfa z0
              by_cases hk9 : x.term.kind = 2
              · have e9 : (x.term.kind != 2) = false := by simp [hk9]
                have he : endsB x = 0 := by unfold endsB; rw [if_neg (by simp [hk9])]
                go_wp2_with fail
                go_roundw
                case rel =>
                  have hnb := HNB.out
                  rw [he, Nat.add_zero] at hnb
                  exact ⟨k + 1, by omega, by go_num, a3, b2, HFA.out, hnb, by omega, by omega, HLQ.out⟩
                case measure => simp [intOf]; omega
              · have e9 : (x.term.kind != 2) = true := by simpa using hk9
                have he : endsB x = 1 := by unfold endsB; rw [if_pos hk9]
                go_wp2_with fail
                go_roundw
                case rel =>
                  have hnb := HNB.out
                  rw [he] at hnb
                  refine ⟨k + 1, by omega, by go_num, a3, b2 + 1, HFA.out, hnb, by omega, by omega, ?_, ?_⟩
                  · exact HLQ.out.below.setCell (Nat.le_succ _) _
                  · have h := HLQ.out.out.set_ 1 (.int .i64 ((b2 + 1 : Nat) : Int))
                    exact h
                case measure => simp [intOf]; omega
        · have d1 : decide ((k : Int) < (f.blocks.length : Int)) = false := decide_eq_false (by omega)
          obtain rfl : k = f.blocks.length := by omega
          rw [List.take_length] at ha2 hb2
          have HA2 := Lib.hid ha2
          have HB2 := Lib.hid hb2
          clear hlk ha2 hb2 z3
          go_wp2_with fail
          go_roundw
          case rel => exact ⟨i + 1, by omega, by go_num, a2, b2, by rw [HTA.out]; exact HA2.out, by rw [HTB.out]; exact HB2.out, by omega, by omega, HLK.out⟩
          case measure => simp [intOf]; omega
    · have d1 : decide ((i : Int) < (u.flows.length : Int)) = false := decide_eq_false (by omega)
      obtain rfl : i = u.flows.length := by omega
      rw [List.take_length] at ha hb
      subst ha hb
      clear hl u1
      go_wp2
      exact bodyPost_ret (v := .agg #[.int .i64 (flA u.flows : Int), .int .i64 (flB u.flows : Int)]) (results_cell_row (p := 2) (ty := 52) (by kernel_rfl) _ _ (w.heap.size + 1) 52 _ (0, 0) _ rfl HL.out.out Tryz.underlying52 rfl (by kernel_rfl)) rfl ⟨rfl, HL.out.below⟩
end Go.Proofs.YtnpnhdmfdhnmfaaGreatDoor

namespace Go.Proofs.YtnpnhdmfdhnmfaaGreatDoor
open Go.RowKit

structure UIn (u : LUnit) (X : World) (A1 A2 : Option Addr) (c1 c2 : Nat) : Prop where
  arr : SlR X (· < X.heap.size) 2 RArr (.slice A1 u.arrays.length c1) u.arrays
  flo : SlR X (· < X.heap.size) 4 (RFlow X (· < X.heap.size)) (.slice A2 u.flows.length c2) u.flows
section
variable {u v : LUnit} {X W : World} {A1 A2 B1 B2 : Option Addr} {c1 c2 d1 d2 : Nat}
theorem UIn.below (h : UIn u X A1 A2 c1 c2) (hb : Below X.heap.size X W) : UIn u W A1 A2 c1 c2 := ⟨hb_slr h.arr hb, hb_flows h.flo hb⟩
theorem fit_u (raw : List LBlock) (hI : ∀ x ∈ raw, x.I) (vr : Value) (w : World) (hv : SlR w (· < w.heap.size) 5 (RBlock w (· < w.heap.size)) vr raw) :
    Calls Tryz.prog 14 #[vr] w fun e w' => ∃ A1 A2 c1 c2, e = .returned (.agg #[.slice A1 (fitU raw).arrays.length c1, .slice A2 (fitU raw).flows.length c2]) ∧ Below w.heap.size w w' ∧ UIn (fitU raw) w' A1 A2 c1 c2 := by
  refine (fit_any raw hI vr w hv).mono ?_
  rintro e w' ⟨va, vf, css, rfl, hb, ha, hf⟩
  have hf' : SlR w' (· < w'.heap.size) 4 (RFlow w' (· < w'.heap.size)) vf (fitU raw).flows := (hf.slr mono_flow).imp (fun _ h => h.2) (Keeps.refl _ _) (fun _ _ _ r => r.imp (fun _ h => h.2) (Keeps.refl _ _))
  have ha' : SlR w' (· < w'.heap.size) 2 RArr va (fitU raw).arrays := ha.imp (fun _ h => h.2) (Keeps.refl _ _) (fun _ _ _ r => r)
  obtain ⟨A1, c1, e1, _, _⟩ := ha'.val
  obtain ⟨A2, c2, e2, _, _⟩ := hf'.val
  subst e1 e2
  exact ⟨A1, A2, c1, c2, rfl, hb, ha', hf'⟩
theorem fold_u (hu : UnitOk u) (h : UIn u X A1 A2 c1 c2) : Calls Tryz.prog 26 #[.agg #[.slice A1 u.arrays.length c1, .slice A2 u.flows.length c2]] X fun e w' => ∃ B1 B2 d1 d2, e = .returned (.tuple #[.agg #[.slice B1 (foldE u).arrays.length d1, .slice B2 (foldE u).flows.length d2], .int .i64 0]) ∧ Below X.heap.size X w' ∧ UIn (foldE u) w' B1 B2 d1 d2 := by
  refine (fold_any u hu A1 A2 c1 c2 X h.arr h.flo).mono ?_
  rintro e w' ⟨A, c, A', c', rfl, hb, h1, h2⟩
  have hl : (foldE u).flows.length = u.flows.length := List.length_map _
  rw [← hl] at h2 ⊢
  exact ⟨A, A', c, c', rfl, hb, h1.imp (fun _ h => h.2) (Keeps.refl _ _) (fun _ _ _ r => r), h2.imp (fun _ h => h.2) (Keeps.refl _ _) (fun _ _ _ r => r.imp (fun _ h => h.2) (Keeps.refl _ _))⟩
theorem known_u (hu : UnitOk u) (h : UIn u X A1 A2 c1 c2) : Calls Tryz.prog 27 #[.agg #[.slice A1 u.arrays.length c1, .slice A2 u.flows.length c2]] X fun e w' => e = .returned (.agg #[.int .i64 (knownA u : Int), .int .i64 (knownB u : Int)]) ∧ Below X.heap.size X w' :=
  knownU_any u hu A1 A2 c1 c2 X h.flo
theorem check_u (hu : UnitOk u) (h : UIn u X A1 A2 c1 c2) : Calls Tryz.prog 22 #[.agg #[.slice A1 u.arrays.length c1, .slice A2 u.flows.length c2]] X fun e w' => e = .returned (.tuple #[.int .i64 0, .agg #[.int .i64 0, .int .i64 0]]) ∧ Below X.heap.size X w' :=
  check_ok u hu A1 A2 c1 c2 X h.arr h.flo
theorem same_u (h : UIn u X A1 A2 c1 c2) (h' : UIn u X B1 B2 d1 d2) : Calls Tryz.prog 16 #[.agg #[.slice A1 u.arrays.length c1, .slice A2 u.flows.length c2], .agg #[.slice B1 u.arrays.length d1, .slice B2 u.flows.length d2]] X fun e w' => e = .returned (.bool true) ∧ Below X.heap.size X w' := by
  have h := same_any u u A1 A2 B1 B2 c1 c2 d1 d2 X h.arr h.flo h'.arr h'.flo
  rw [show isSo (u = u) = true by unfold isSo; simp] at h
  exact h
end
/-- a unit that lies in a block -/
theorem blk_unit {X : World} {A1 A2 : Option Addr} {n1 n2 c1 c2 b : Nat} {W : World} (h : Blk X b 27 #[.slice A1 n1 c1, .slice A2 n2 c2]) (hb : Below X.heap.size X W) : W.cell? ⟨b, 0, none⟩ = some (.slice A1 n1 c1) ∧ W.cell? ⟨b, 1, none⟩ = some (.slice A2 n2 c2) :=
  ⟨(h.below hb h.lt).cell 0, (h.below hb h.lt).cell 1⟩
end Go.Proofs.YtnpnhdmfdhnmfaaGreatDoor

namespace Go.Proofs.YtnpnhdmfdhnmfaaGreatDoor
open Go.RowKit

/-! ### what lies in a unit's rows -/
theorem sl_some {α : Type} {W : World} {ok : Nat → Prop} {sz n c : Nat} {R : List Value → α → Prop} {A : Option Addr} {l : List α} (h : SlR W ok sz R (.slice A n c) l) (h0 : 0 < l.length) : ∃ g o, A = some ⟨g, o, none⟩ := by
  obtain ⟨g, o, c', e, _⟩ := h.form h0
  injection e with e1 _ _
  exact ⟨g, o, e1⟩
theorem flow_cells {W : World} {g o n c : Nat} {l : List LFlow} (h : SlR W (· < W.heap.size) 4 (RFlow W (· < W.heap.size)) (.slice (some ⟨g, o, none⟩) n c) l) {i : Nat} (hi : i < l.length) :
    ∃ Ab cb, SlR W (· < W.heap.size) 5 (RBlock W (· < W.heap.size)) (.slice Ab l[i].blocks.length cb) l[i].blocks ∧ ∀ X, Below W.heap.size W X → X.cell? ⟨g, o + i * 4, none⟩ = some (.string l[i].name) ∧ X.cell? ⟨g, o + i * 4 + 1, none⟩ = some (.int .i64 l[i].params) ∧ X.cell? ⟨g, o + i * 4 + 2, none⟩ = some (.int .i64 l[i].values) ∧ X.cell? ⟨g, o + i * 4 + 3, none⟩ = some (.slice Ab l[i].blocks.length cb) := by
  obtain ⟨g', o', c', hform, _, _, hgl, hq⟩ := h.form (by omega)
  obtain ⟨rfl, rfl⟩ : g = g' ∧ o = o' := by injection hform with h1 _ h2; injection h1 with h1; injection h1 with h1 h2; exact ⟨h1, h2⟩
  obtain ⟨cs, _, ⟨vb, hcs, hsb⟩, hcell⟩ := hq i hi
  obtain ⟨Ab, cb, hvb, _, _⟩ := hsb.val
  subst hvb
  subst hcs
  refine ⟨Ab, cb, hsb, fun X hb => ?_⟩
  have hcw := hcell.keep (hb.block g hgl)
  exact ⟨by have h := hcw.at_ (j := 0) rfl; simpa using h, hcw.at_ (j := 1) rfl, hcw.at_ (j := 2) rfl, hcw.at_ (j := 3) rfl⟩
theorem block_cells {W : World} {g o n c : Nat} {l : List LBlock} (h : SlR W (· < W.heap.size) 5 (RBlock W (· < W.heap.size)) (.slice (some ⟨g, o, none⟩) n c) l) {k : Nat} (hk : k < l.length) :
    ∃ Ai ci, SlR W (· < W.heap.size) 8 (RIns W (· < W.heap.size)) (.slice Ai l[k].ins.length ci) l[k].ins ∧ ∀ X, Below W.heap.size W X → X.cell? ⟨g, o + k * 5, none⟩ = some (.slice Ai l[k].ins.length ci) ∧ X.cell? ⟨g, o + k * 5 + 1, none⟩ = some (.int .i64 l[k].term.kind) ∧ X.cell? ⟨g, o + k * 5 + 2, none⟩ = some (.int .i64 l[k].term.a) ∧ X.cell? ⟨g, o + k * 5 + 3, none⟩ = some (.int .i64 l[k].term.to) ∧ X.cell? ⟨g, o + k * 5 + 4, none⟩ = some (.int .i64 l[k].term.els) := by
  obtain ⟨g', o', c', hform, _, _, hgl, hq⟩ := h.form (by omega)
  obtain ⟨rfl, rfl⟩ : g = g' ∧ o = o' := by injection hform with h1 _ h2; injection h1 with h1; injection h1 with h1 h2; exact ⟨h1, h2⟩
  obtain ⟨cs, _, ⟨vi, hcs, hsi⟩, hcell⟩ := hq k hk
  obtain ⟨Ai, ci, hvi, _, _⟩ := hsi.val
  subst hvi
  subst hcs
  refine ⟨Ai, ci, hsi, fun X hb => ?_⟩
  have hcw := hcell.keep (hb.block g hgl)
  exact ⟨by have h := hcw.at_ (j := 0) rfl; simpa using h, hcw.at_ (j := 1) rfl, hcw.at_ (j := 2) rfl, hcw.at_ (j := 3) rfl, hcw.at_ (j := 4) rfl⟩
theorem ins_cells {W : World} {g o n c : Nat} {l : List LIns} (h : SlR W (· < W.heap.size) 8 (RIns W (· < W.heap.size)) (.slice (some ⟨g, o, none⟩) n c) l) {j : Nat} (hj : j < l.length) :
    ∃ Ax cx, SlR W (· < W.heap.size) 1 RInt (.slice Ax l[j].args.length cx) l[j].args ∧ ∀ X, Below W.heap.size W X → X.cell? ⟨g, o + j * 8, none⟩ = some (.int .i64 l[j].kind) ∧ X.cell? ⟨g, o + j * 8 + 1, none⟩ = some (.int .i64 l[j].d) ∧ X.cell? ⟨g, o + j * 8 + 2, none⟩ = some (.int .i64 l[j].a) ∧ X.cell? ⟨g, o + j * 8 + 3, none⟩ = some (.int .i64 l[j].b) ∧ X.cell? ⟨g, o + j * 8 + 4, none⟩ = some (.int .i64 l[j].op) ∧ X.cell? ⟨g, o + j * 8 + 5, none⟩ = some (.int .i64 l[j].n) ∧ X.cell? ⟨g, o + j * 8 + 6, none⟩ = some (.string l[j].name) ∧ X.cell? ⟨g, o + j * 8 + 7, none⟩ = some (.slice Ax l[j].args.length cx) := by
  obtain ⟨g', o', c', hform, _, _, hgl, hq⟩ := h.form (by omega)
  obtain ⟨rfl, rfl⟩ : g = g' ∧ o = o' := by injection hform with h1 _ h2; injection h1 with h1; injection h1 with h1 h2; exact ⟨h1, h2⟩
  obtain ⟨cs, _, ⟨va, hcs, hsa⟩, hcell⟩ := hq j hj
  obtain ⟨Ax, cx, hva, _, _⟩ := hsa.val
  subst hva
  subst hcs
  refine ⟨Ax, cx, hsa, fun X hb => ?_⟩
  have hcw := hcell.keep (hb.block g hgl)
  exact ⟨by have h := hcw.at_ (j := 0) rfl; simpa using h, hcw.at_ (j := 1) rfl, hcw.at_ (j := 2) rfl, hcw.at_ (j := 3) rfl, hcw.at_ (j := 4) rfl, hcw.at_ (j := 5) rfl, hcw.at_ (j := 6) rfl, hcw.at_ (j := 7) rfl⟩
end Go.Proofs.YtnpnhdmfdhnmfaaGreatDoor
