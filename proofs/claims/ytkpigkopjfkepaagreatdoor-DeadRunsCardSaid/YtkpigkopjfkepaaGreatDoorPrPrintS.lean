/- What ir.text makes of an instruction, kind by kind. Printed by wip/gen_printt.py. What ir.Print does at a unit that may be: its text. Printed by wip/gen_print.py. What ir.Print does at a unit without arrays and without instructions: its text. Printed by wip/gen_print0.py out of XPrint. -/
import Derived.Test.YtkpigkopjfkepaaGreatDoorPrPrnV
import Derived.Test.YtkpigkopjfkepaaGreatDoorPrIrNameL
import Derived.Test.YtkpigkopjfkepaaGreatDoorPrRegion
import Derived.Shelf.Strings.OnBuilder
import Derived.Test.YtkpigkopjfkepaaGreatDoorPrIrCheck
namespace Go.Proofs.YtkpigkopjfkepaaGreatDoor
open List (setIfInBounds_toArray set_cons_zero set_cons_succ)
open Go.RowKit
def ItoaAt (n : Int) (w : World) : Prop := ∀ X, Below w.heap.size w X → Calls Tryz.prog 41 #[.int .i64 n] X fun e X' => e = .returned (.string (S8 (Lib.itoa n))) ∧ Below X.heap.size X X'
section
set_option maxHeartbeats 2000000
set_option maxRecDepth 100000
end
end Go.Proofs.YtkpigkopjfkepaaGreatDoor
namespace Go.Proofs.YtkpigkopjfkepaaGreatDoor
open List (setIfInBounds_toArray set_cons_zero set_cons_succ)
open Go.RowKit
theorem wr_bound {u : LUnit} {L : List (List UInt8)} {x : List UInt8} {rest : List (List UInt8)} (h : unitLn u = L ++ x :: rest) : (ln L).length + (x.length + 1) ≤ (unitT u).length := by
 unfold unitT
 rw [h, ln_append, ln_cons, List.length_append, List.length_append, List.length_append]
 simp
theorem drop_cons {α : Type} (l : List α) (k : Nat) (h : k < l.length) : l = l.take k ++ l[k] :: l.drop (k + 1) := by
 rw [← List.drop_eq_getElem_cons h, List.take_append_drop]
theorem flowsLn_append (l r : List LFlow) : flowsLn (l ++ r) = flowsLn l ++ flowsLn r := by simp [flowsLn]
theorem flowsLn_cons (f : LFlow) (r : List LFlow) : flowsLn (f :: r) = headT f :: (blocksLn 0 f.blocks ++ flowsLn r) := by simp [flowsLn]
theorem blocksLn_append : ∀ (l r : List LBlock) (k : Nat), blocksLn k (l ++ r) = blocksLn k l ++ blocksLn (k + l.length) r
 | [], r, k => by simp [blocksLn]
 | b :: l, r, k => by
  rw [List.cons_append, blocksLn, blocksLn, blocksLn_append l r (k + 1), List.cons_append, List.append_assoc, List.length_cons]
  rw [show k + 1 + l.length = k + (l.length + 1) by omega]
theorem flow_lines (u : LUnit) (k : Nat) (h : k < u.flows.length) : ∃ rest, unitLn u = (u.arrays.map arrT ++ flowsLn (u.flows.take k)) ++ headT u.flows[k] :: (blocksLn 0 u.flows[k].blocks ++ rest) := by
 refine ⟨flowsLn (u.flows.drop (k + 1)), ?_⟩
 unfold unitLn
 conv => lhs; rw [drop_cons u.flows k h]
 rw [flowsLn_append, flowsLn_cons, List.append_assoc]
def preB (u : LUnit) (k : Nat) (f : LFlow) (j : Nat) : List (List UInt8) := (u.arrays.map arrT ++ flowsLn (u.flows.take k)) ++ headT f :: blocksLn 0 (f.blocks.take j)
theorem block_lines (u : LUnit) (k : Nat) (h : k < u.flows.length) (f : LFlow) (hf : f = u.flows[k]) (j : Nat) (hj : j < f.blocks.length) : ∃ rest, unitLn u = preB u k f j ++ labelT j :: ((bodyT f.blocks[j]).map (9 :: ·) ++ rest) := by
 subst hf
 obtain ⟨rest, e⟩ := flow_lines u k h
 refine ⟨blocksLn (j + 1) (u.flows[k].blocks.drop (j + 1)) ++ rest, ?_⟩
 rw [e]
 conv => lhs; rw [drop_cons u.flows[k].blocks j hj]
 rw [blocksLn_append]
 have hl : (u.flows[k].blocks.take j).length = j := by rw [List.length_take]; omega
 rw [hl, Nat.zero_add, blocksLn]
 unfold preB
 simp
def preI (u : LUnit) (k : Nat) (f : LFlow) (j : Nat) (b : LBlock) (i : Nat) : List (List UInt8) := preB u k f j ++ labelT j :: ((b.ins.take i).map fun x => 9 :: insT x)
theorem end_lines (u : LUnit) (k : Nat) (h : k < u.flows.length) (f : LFlow) (hf : f = u.flows[k]) (j : Nat) (hj : j < f.blocks.length) (b : LBlock) (hb : b = f.blocks[j]) : ∃ rest, unitLn u = preI u k f j b b.ins.length ++ (9 :: endT b.term) :: rest := by
 obtain ⟨rest, e⟩ := block_lines u k h f hf j hj
 rw [← hb] at e
 refine ⟨rest, ?_⟩
 rw [e]
 unfold bodyT preI
 rw [List.take_length]
 simp
theorem preB_succ (u : LUnit) (k : Nat) (f : LFlow) (j : Nat) (hj : j < f.blocks.length) (b : LBlock) (hb : b = f.blocks[j]) : preB u k f (j + 1) = preI u k f j b b.ins.length ++ [9 :: endT b.term] := by
 subst hb
 unfold preB preI preB
 rw [List.take_succ_eq_append_getElem hj, blocksLn_append]
 have hl : (f.blocks.take j).length = j := by rw [List.length_take]; omega
 rw [hl, Nat.zero_add]
 simp [blocksLn, bodyT]
theorem preI_zero (u : LUnit) (k : Nat) (f : LFlow) (j : Nat) (b : LBlock) : preI u k f j b 0 = preB u k f j ++ [labelT j] := by simp [preI]
theorem preB_all (u : LUnit) (k : Nat) (h : k < u.flows.length) (f : LFlow) (hf : f = u.flows[k]) : preB u k f f.blocks.length = u.arrays.map arrT ++ flowsLn (u.flows.take (k + 1)) := by
 subst hf
 unfold preB
 rw [List.take_length, List.take_succ_eq_append_getElem h, flowsLn_append, flowsLn_cons]
 simp [flowsLn]
theorem endT_len {t : LTerm} (ha : Pl t.a) (ht : Pl t.to) (he : Pl t.els) : (endT t).length ≤ 20 := by
 have h1 := vT_len ha
 have h2 := bT_len ht
 have h3 := bT_len he
 unfold endT
 repeat' split
 all_goals (simp; omega)
structure PrA (B : Nat) (L : List (List UInt8)) (W0 wr : World) : Prop where
 bld : Lib.IsBuilderF 93 5 B B (Lib.byteCells (ln L)) wr
 below : Below B W0 wr
theorem bld_below {B : Nat} {bs : List Value} {w w' : World} (h : Lib.IsBuilderF 93 5 B B bs w) (hb : Below w.heap.size w w') : Lib.IsBuilderF 93 5 B B bs w' := by
 have one : ∀ p, Lib.BuilderAtF 93 5 B B p bs w → Lib.BuilderAtF 93 5 B B p bs w' := fun p h => by
  have hlt := h.lt
  obtain ⟨hB, v, hbk, hown, hne⟩ := h
  exact ⟨hB, v, (hb.block B hlt).trans hbk, hown.kept (grown_below' (row := none) hb) (Classical.em _), hne⟩
 exact h.elim (fun x => .inl (one _ x)) (fun x => .inr (one _ x))
theorem bld_lt {B : Nat} {bs : List Value} {w : World} (h : Lib.IsBuilderF 93 5 B B bs w) : B < w.heap.size := h.elim (fun x => x.lt) (fun x => x.lt)
theorem PrA.step {B : Nat} {L : List (List UInt8)} {W0 wr w' : World} (h : PrA B L W0 wr) (hb : Below wr.heap.size wr w') : PrA B L W0 w' :=
 ⟨bld_below h.bld hb, h.below.trans (hb.mono (Nat.le_of_lt (bld_lt h.bld)))⟩
structure Wrote (B : Nat) (L : List (List UInt8)) (W0 w w' : World) : Prop where
 pra : PrA B L W0 w'
 kept : Lib.OthersKept 5 (some B) w w'
theorem ws_any (B : Nat) (L : List (List UInt8)) (x : List UInt8) (W0 w : World) (h : PrA B L W0 w) (hlen : (ln L).length + (x.length + 1) ≤ 140737488355328) :
  Calls Tryz.prog 40 #[.pointer (some ⟨B, 0, none⟩), .string (S8 (x ++ [10]))] w fun e w' => (∃ n : Int, e = .returned (.tuple #[.int .i64 n, .nilIface])) ∧ Wrote B (L ++ [x]) W0 w w' := by
 refine (Any.Builder_WriteString_k Tryz.bws bwsX B B _ (S8 (x ++ [10])) w h.bld (by rw [Lib.byteCells_length]; show _ + (x ++ [10]).length ≤ _; simp; omega) (Nat.le_of_lt (bld_lt h.bld))).mono ?_
 rintro e w' ⟨rfl, hb, hbl, hok⟩
 have e1 : Lib.byteCells (ln L) ++ Lib.strCells (S8 (x ++ [10])) = Lib.byteCells (ln (L ++ [x])) := by
  rw [ln_append, ln_cons, ln_nil, List.append_nil, Lib.byteCells_append]; rfl
 rw [e1] at hb
 exact ⟨⟨_, rfl⟩, ⟨⟨.inr hb, h.below.trans hbl⟩, hok⟩⟩
theorem Wrote.blk {B : Nat} {L : List (List UInt8)} {W0 w w' : World} (h : Wrote B L W0 w w') {g : Nat} {t : TypeId} {cs : Array Value} (hg : Blk w g t cs) (hgB : B < g) (ht : t ≠ 5) : Blk w' g t cs :=
 h.kept g _ hg (fun e => by injection e with e; omega) (fun c fz e => by injection e with _ e; exact ht e)
end Go.Proofs.YtkpigkopjfkepaaGreatDoor
namespace Go.Proofs.YtkpigkopjfkepaaGreatDoor
open List (setIfInBounds_toArray set_cons_zero set_cons_succ)
open Go.RowKit
structure PrintOk0 (u : LUnit) : Prop where
 ok : UnitOk u
 arrs : u.arrays = []
 fls : ∀ f ∈ u.flows, f.name.size ≤ 1000 ∧ Pl f.params ∧ Pl f.values ∧ f.blocks.length ≤ 100
 ins : ∀ f ∈ u.flows, ∀ b ∈ f.blocks, b.ins = []
 ends : ∀ f ∈ u.flows, ∀ b ∈ f.blocks, Pl b.term.a ∧ Pl b.term.to ∧ Pl b.term.els ∧ (b.term.kind = 1 ∨ b.term.kind = 2 ∨ b.term.kind = 3 ∨ b.term.kind = 4)
 len : (unitT u).length ≤ 1000000000
set_option maxRecDepth 100000 in
set_option maxHeartbeats 8000000 in
theorem print0_any (u : LUnit) (hp : PrintOk0 u) (A1 A2 : Option Addr) (c1 c2 : Nat) (w : World) (ha : SlR w (· < w.heap.size) 2 RArr (.slice A1 u.arrays.length c1) u.arrays) (hf : SlR w (· < w.heap.size) 4 (RFlow w (· < w.heap.size)) (.slice A2 u.flows.length c2) u.flows) :
  Calls Tryz.prog 20 #[.agg #[.slice A1 u.arrays.length c1, .slice A2 u.flows.length c2]] w fun e w' => e = .returned (.tuple #[.string (S8 (unitT u)), .int .i64 0]) ∧ Below w.heap.size w w' := by
 have HP := Lib.hid hp
 have la := hp.ok.arrs
 have lf := hp.ok.fls
 have HLEN := Lib.hid hp.len
 have HAA := Lib.hid ha
 have HFF := Lib.hid hf
 clear hp ha hf
 go_enter Tryz.func20, Tryz.ntmps20
 go_upto_region 1 with fail
 refine wp_world ?_
 intro W hW
 have hB : Below w.heap.size w W := by rw [← hW]; exact below1 _ _
 have hU : Blk W w.heap.size 27 #[.slice A1 u.arrays.length c1, .slice A2 u.flows.length c2] := by rw [← hW]; exact Blk.new_at _ _ _ rfl
 clear hW
 have up : ∀ b, b < w.heap.size → b < W.heap.size := fun b h => Nat.lt_of_lt_of_le h hB.size
 have kp : Keeps (· < w.heap.size) w W := fun b h => hB.block b h
 have HA1 := Lib.hid (HAA.out.imp (ok' := (· < W.heap.size)) (R' := RArr) up kp (fun _ _ _ r => r))
 have HF1 := Lib.hid (HFF.out.imp (ok' := (· < W.heap.size)) (R' := RFlow W (· < W.heap.size)) up kp (fun _ _ _ r => r.imp up kp))
 have HC := Lib.hid (check_ok u HP.out.ok A1 A2 c1 c2 W HA1.out HF1.out)
 have u0 : W.cell? ⟨w.heap.size, 0, none⟩ = some (.slice A1 u.arrays.length c1) := hU.cell 0
 have u1 : W.cell? ⟨w.heap.size, 1, none⟩ = some (.slice A2 u.flows.length c2) := hU.cell 1
 have HU := Lib.hid hU
 have HB := Lib.hid hB
 clear up kp hU hB HAA HFF
 go_upto_region 4 with (go_at_call 11; refine HC.out.mono ?_; rintro e w2 ⟨rfl, hb2⟩)
 refine wp_world ?_
 intro W2 hW2
 have hB2 : Below W.heap.size W W2 := by
  rw [← hW2]
  first
   | exact hb2.alloc hb2.size _
   | exact (hb2.alloc hb2.size _).setCell (by simp; exact hb2.size) _
   | exact ((hb2.alloc hb2.size _).setCell (by simp; exact hb2.size) _).setCell (by simp; exact hb2.size) _
 have HB2 := Lib.hid hB2
 clear hW2 hb2 hB2 u0 u1 HC
 go_upto_region 5 with fail
 refine wp_world ?_
 intro W5 hW5
 have hI : Lib.IsBuilderF 93 5 W2.heap.size W2.heap.size (Lib.byteCells (ln [])) W5 := by rw [← hW5]; exact Lib.IsBuilderF.of (Lib.fresh_isBuilder _ _ _)
 have hB5 : Below W2.heap.size W2 W5 := by rw [← hW5]; exact below1 _ _
 have HPR0 : Hid (PrA W2.heap.size [] W2 W5) := Lib.hid ⟨hI, hB5⟩
 have hUl := HU.out.lt
 have hU2 := HU.out.below HB2.out hUl
 have hUl2 : w.heap.size < W2.heap.size := hU2.lt
 have hU5 := hU2.below hB5 hUl2
 have u0 : W5.cell? ⟨w.heap.size, 0, none⟩ = some (.slice A1 u.arrays.length c1) := hU5.cell 0
 have HU2 := Lib.hid hU2
 have up2 : ∀ b, b < W.heap.size → b < W2.heap.size := fun b h => Nat.lt_of_lt_of_le h HB2.out.size
 have kp2 : Keeps (· < W.heap.size) W W2 := fun b h => HB2.out.block b h
 have HA := Lib.hid (HA1.out.imp (ok' := (· < W2.heap.size)) (R' := RArr) up2 kp2 (fun _ _ _ r => r))
 have HF := Lib.hid (HF1.out.imp (ok' := (· < W2.heap.size)) (R' := RFlow W2 (· < W2.heap.size)) up2 kp2 (fun _ _ _ r => r.imp up2 kp2))
 have HBW : Hid (Below w.heap.size w W2) := Lib.hid (HB.out.trans (HB2.out.mono HB.out.size))
 obtain ⟨B, hBe⟩ : ∃ B, B = W2.heap.size := ⟨_, rfl⟩
 rw [← hBe] at HPR0 hUl2
 have HBE := Lib.hid hBe
 have hWB : W5.heap.size = B + 1 := by rw [hBe, ← hW5]; simp
 clear hI hB5 hU2 hU5 up2 kp2 HA1 HF1 HU HB HB2 hUl
 rw [← hBe]
 clear hW5 hBe hWB
 go_wp2
 clear u0
 go_loopw [25] (fun i wr => ∃ k : Nat, k ≤ u.arrays.length ∧ i = .int .i64 k ∧ PrA B ((u.arrays.take k).map arrT) W2 wr) (fun i _ => u.arrays.length - (RowKit.intOf i).toNat)
 case atStart => exact ⟨0, by omega, rfl, HPR0.out⟩
 case round =>
  obtain ⟨k, hk, rfl, hpr⟩ := hrel
  by_cases hlt : k < u.arrays.length
  ·exact absurd hlt (by rw [HP.out.arrs]; exact Nat.not_lt_zero _)
  ·obtain rfl : k = u.arrays.length := by omega
   have htk : u.arrays.take u.arrays.length = u.arrays := List.take_length
   rw [htk] at hpr
   have hbr := hpr.below
   have u1 : wr.cell? ⟨w.heap.size, 1, none⟩ = some (.slice A2 u.flows.length c2) := (HU2.out.below hbr hUl2).cell 1
   have HPRA := Lib.hid hpr
   clear htk hpr hbr
   obtain ⟨wo, hwo⟩ : ∃ wo, wo = wr := ⟨_, rfl⟩
   subst hwo
   go_wp2
   clear u1 hlt hk
   go_loopw [43] (fun i wr => ∃ k : Nat, k ≤ u.flows.length ∧ i = .int .i64 k ∧ PrA B (u.arrays.map arrT ++ flowsLn (u.flows.take k)) W2 wr) (fun i _ => u.flows.length - (RowKit.intOf i).toNat)
   case atStart =>
    refine ⟨0, by omega, rfl, ?_⟩
    rw [List.take_zero, show flowsLn [] = [] from rfl, List.append_nil]
    exact HPRA.out
   case round =>
    obtain ⟨k, hk, rfl, hpr⟩ := hrel
    by_cases hlt : k < u.flows.length
    ·have d1 : decide ((k : Int) < (u.flows.length : Int)) = true := decide_eq_true (by omega)
     obtain ⟨b3, o3, c3, f3, _, _, hb3, q3'⟩ := HF.out.form (by omega)
     obtain rfl : A2 = some ⟨b3, o3, none⟩ := by injection f3
     obtain ⟨cs, _, ⟨vb, hcs, hsl⟩, hcell⟩ := q3' k hlt
     obtain ⟨rest, hrest⟩ := flow_lines u k hlt
     have hbd := wr_bound hrest
     have hmem := List.getElem_mem hlt
     obtain ⟨f, hfe⟩ : ∃ f, f = u.flows[k] := ⟨_, rfl⟩
     rw [← hfe] at hcs hsl hbd hmem
     obtain ⟨Ab, cb, hvb, hlb, hlc⟩ := hsl.val
     subst hvb
     subst hcs
     have hbm2 := Nat.le_trans hlb hlc
     unfold maxLen at hbm2
     obtain ⟨h1, h2, h3, h4⟩ := HP.out.fls f hmem
     have lnm : (L8 f.name).length ≤ 1000 := h1
     have lpr := itoa_len2 h2.1 h2.2
     have lvl := itoa_len2 h3.1 h3.2
     have HFE := Lib.hid hfe
     have HMEM := Lib.hid hmem
     have HPRA := Lib.hid hpr
     have HLB : Hid ((ln (u.arrays.map arrT ++ flowsLn (u.flows.take k))).length + ((headT f).length + 1) ≤ 140737488355328) := Lib.hid (by have hl9 : (unitT u).length ≤ 1000000000 := HLEN.out; omega)
     have hbr := hpr.below
     have hBwr : B < wr.heap.size := bld_lt hpr.bld
     have hcw := hcell.keep (hbr.block b3 (by have := HBE.out; omega))
     have i0 : wr.cell? ⟨b3, o3 + k * 4, none⟩ = some (.string f.name) := by have h := hcw.at_ (j := 0) rfl; simpa using h
     have i1 : wr.cell? ⟨b3, o3 + k * 4 + 1, none⟩ = some (.int .i64 f.params) := hcw.at_ (j := 1) rfl
     have i2 : wr.cell? ⟨b3, o3 + k * 4 + 2, none⟩ = some (.int .i64 f.values) := hcw.at_ (j := 2) rfl
     have i3 : wr.cell? ⟨b3, o3 + k * 4 + 3, none⟩ = some (.slice Ab f.blocks.length cb) := hcw.at_ (j := 3) rfl
     have HIP := Lib.hid (itoa_small f.params h2)
     have HIV := Lib.hid (itoa_small f.values h3)
     have p0 : ∀ W : World, (Op.stringOp .add ⟨#[102, 117, 110, 99, 32]⟩ f.name).run Tryz.prog W = .ok (.string (S8 ([102, 117, 110, 99, 32] ++ L8 f.name))) W := fun W => by
      have h := sadd [102, 117, 110, 99, 32] (L8 f.name) (by simp; omega) W
      rw [S8_L8] at h; exact h
     have p1 : ∀ W : World, (Op.stringOp .add (S8 ([102, 117, 110, 99, 32] ++ L8 f.name)) ⟨#[32]⟩).run Tryz.prog W = .ok (.string (S8 ([102, 117, 110, 99, 32] ++ L8 f.name ++ [32]))) W := fun W => sadd _ [32] (by simp; omega) W
     have p3 : ∀ W : World, (Op.stringOp .add (S8 ([102, 117, 110, 99, 32] ++ L8 f.name ++ [32])) (S8 (Lib.itoa f.params))).run Tryz.prog W = .ok (.string (S8 ([102, 117, 110, 99, 32] ++ L8 f.name ++ [32] ++ Lib.itoa f.params))) W := fun W => sadd _ _ (by simp; omega) W
     have p4 : ∀ W : World, (Op.stringOp .add (S8 ([102, 117, 110, 99, 32] ++ L8 f.name ++ [32] ++ Lib.itoa f.params)) ⟨#[32]⟩).run Tryz.prog W = .ok (.string (S8 ([102, 117, 110, 99, 32] ++ L8 f.name ++ [32] ++ Lib.itoa f.params ++ [32]))) W := fun W => sadd _ [32] (by simp; omega) W
     have p6 : ∀ W : World, (Op.stringOp .add (S8 ([102, 117, 110, 99, 32] ++ L8 f.name ++ [32] ++ Lib.itoa f.params ++ [32])) (S8 (Lib.itoa f.values))).run Tryz.prog W = .ok (.string (S8 (headT f))) W := fun W => sadd ([102, 117, 110, 99, 32] ++ L8 f.name ++ [32] ++ Lib.itoa f.params ++ [32]) (Lib.itoa f.values) (by simp; omega) W
     have p7 : ∀ W : World, (Op.stringOp .add (S8 (headT f)) ⟨#[10]⟩).run Tryz.prog W = .ok (.string (S8 (headT f ++ [10]))) W := fun W => sadd (headT f) [10] (by simp [headT]; omega) W
     have HWS0 := Lib.hid (fun X (h : PrA B (u.arrays.map arrT ++ flowsLn (u.flows.take k)) W2 X) => ws_any B _ (headT f) W2 X h HLB.out)
     have HSL := Lib.hid hsl
     clear f3 q3' hcell hcw hfe hb3 hmem h1 h2 h3 lnm lpr lvl hrest hbd hbr hpr hsl
     generalize S8 (headT f ++ [10]) = q7 at *
     generalize S8 (headT f) = q6 at *
     generalize S8 ([102, 117, 110, 99, 32] ++ L8 f.name ++ [32] ++ Lib.itoa f.params ++ [32]) = q4 at *
     generalize S8 ([102, 117, 110, 99, 32] ++ L8 f.name ++ [32] ++ Lib.itoa f.params) = q3 at *
     generalize S8 ([102, 117, 110, 99, 32] ++ L8 f.name ++ [32]) = q1 at *
     generalize S8 ([102, 117, 110, 99, 32] ++ L8 f.name) = q0 at *
     generalize S8 (Lib.itoa f.params) = q2 at *
     generalize S8 (Lib.itoa f.values) = q5 at *
     go_upto_region 13 with fail
     refine wp_world ?_
     intro W13 hW13
     have h13 : Below wr.heap.size wr W13 := by rw [← hW13]; exact below1 _ _
     have x10 : Blk W13 wr.heap.size 41 #[.string f.name, .int .i64 f.params, .int .i64 f.values, .slice Ab f.blocks.length cb] := by rw [← hW13]; exact Blk.new_at _ _ _ rfl
     have HWS : Hid (Calls Tryz.prog 40 #[.pointer (some ⟨B, 0, none⟩), .string q7] W13.drew fun e w' => (∃ n : Int, e = .returned (.tuple #[.int .i64 n, .nilIface])) ∧ Wrote B (u.arrays.map arrT ++ flowsLn (u.flows.take k) ++ [headT f]) W2 W13.drew w') := Lib.hid (HWS0.out W13.drew (HPRA.out.step h13.drew))
     have SO : Hid ((fun w2 => w2.cell? ⟨wr.heap.size, 0, none⟩ = some (.string f.name) ∧ w2.cell? ⟨wr.heap.size, 1, none⟩ = some (.int .i64 f.params) ∧ w2.cell? ⟨wr.heap.size, 2, none⟩ = some (.int .i64 f.values)) W13.drew) := Lib.hid ⟨x10.cell 0, x10.cell 1, x10.cell 2⟩
     have HX10 : Hid (Blk W13.drew wr.heap.size 41 #[.string f.name, .int .i64 f.params, .int .i64 f.values, .slice Ab f.blocks.length cb]) := Lib.hid x10
     clear hW13 h13 x10 i0 i1 i2 i3 HWS0
     refine wp_region_L (by kernel_rfl) 14 (fun w2 => w2.cell? ⟨wr.heap.size, 0, none⟩ = some (.string f.name) ∧ w2.cell? ⟨wr.heap.size, 1, none⟩ = some (.int .i64 f.params) ∧ w2.cell? ⟨wr.heap.size, 2, none⟩ = some (.int .i64 f.values)) (SO.out) (fun hHeld => ?_)
     have HS0 := Lib.hid hHeld
     clear hHeld
     change wpAnyL _ _ _ _ _ 14 15 (Array.replicate 15 false) _ _
     refine tL 0 47 (.pointer (some ⟨wr.heap.size, 0, none⟩)) HS0.out rfl rfl ?_ ?_
     ·intro w2; go_simp
     simp only [setIfInBounds_toArray, set_cons_zero, set_cons_succ]
     refine tS 1 48 (.string f.name) [2, 3, 7, 8, 12, 13, 14] HS0.out rfl rfl ?_ ?_
     ·intro w2 hSw; obtain ⟨g0, g1, g2⟩ := hSw; go_simp
     simp only [setIfInBounds_toArray, set_cons_zero, set_cons_succ]
     refine tL 2 49 (.string q0) HS0.out rfl rfl ?_ ?_
     ·intro w2; go_simp
     simp only [setIfInBounds_toArray, set_cons_zero, set_cons_succ]
     refine tL 3 50 (.string q1) HS0.out rfl rfl ?_ ?_
     ·intro w2; go_simp
     simp only [setIfInBounds_toArray, set_cons_zero, set_cons_succ]
     refine tL 4 51 (.pointer (some ⟨wr.heap.size, 1, none⟩)) HS0.out rfl rfl ?_ ?_
     ·intro w2; go_simp
     simp only [setIfInBounds_toArray, set_cons_zero, set_cons_succ]
     refine tS 5 52 (.int .i64 f.params) [6, 11, 14] HS0.out rfl rfl ?_ ?_
     ·intro w2 hSw; obtain ⟨g0, g1, g2⟩ := hSw; go_simp
     simp only [setIfInBounds_toArray, set_cons_zero, set_cons_succ]
     refine tL 9 56 (.pointer (some ⟨wr.heap.size, 2, none⟩)) HS0.out rfl rfl ?_ ?_
     ·intro w2; go_simp
     simp only [setIfInBounds_toArray, set_cons_zero, set_cons_succ]
     refine tS 10 57 (.int .i64 f.values) [11, 14] HS0.out rfl rfl ?_ ?_
     ·intro w2 hSw; obtain ⟨g0, g1, g2⟩ := hSw; go_simp
     simp only [setIfInBounds_toArray, set_cons_zero, set_cons_succ]
     refine wpAnyL_ready (rs := [6]) (by kernel_rfl) (by simp) ?_
     refine AllReadyL.cons rfl (fun K hK => ?_) AllReadyL.nil
     go_simp
     refine (HIP.out _).mono ?_
     rintro e w' ⟨rfl, rfl⟩
     refine hK.out _ _ (SO.out) (fun hHeld => ?_)
     have HS1 := Lib.hid hHeld
     clear hK K hHeld
     try simp only [setIfInBounds_toArray, set_cons_zero, set_cons_succ]
     refine tL 7 54 (.string q3) HS1.out rfl rfl ?_ ?_
     ·intro w2; go_simp
     simp only [setIfInBounds_toArray, set_cons_zero, set_cons_succ]
     refine tL 8 55 (.string q4) HS1.out rfl rfl ?_ ?_
     ·intro w2; go_simp
     simp only [setIfInBounds_toArray, set_cons_zero, set_cons_succ]
     refine wpAnyL_ready (rs := [11]) (by kernel_rfl) (by simp) ?_
     refine AllReadyL.cons rfl (fun K hK => ?_) AllReadyL.nil
     go_simp
     refine (HIV.out _).mono ?_
     rintro e w' ⟨rfl, rfl⟩
     refine hK.out _ _ (SO.out) (fun hHeld => ?_)
     have HS2 := Lib.hid hHeld
     clear hK K hHeld
     try simp only [setIfInBounds_toArray, set_cons_zero, set_cons_succ]
     refine tL 12 59 (.string q6) HS2.out rfl rfl ?_ ?_
     ·intro w2; go_simp
     simp only [setIfInBounds_toArray, set_cons_zero, set_cons_succ]
     refine tL 13 60 (.string q7) HS2.out rfl rfl ?_ ?_
     ·intro w2; go_simp
     simp only [setIfInBounds_toArray, set_cons_zero, set_cons_succ]
     refine wpAnyL_ready (rs := [14]) (by kernel_rfl) (by simp) ?_
     refine AllReadyL.last rfl (by kernel_rfl) (fun K hK => ?_)
     go_simp
     refine (HWS.out).mono ?_
     rintro e X1 ⟨⟨nn, rfl⟩, hp1⟩
     have HP1 := Lib.hid hp1
     clear hp1
     refine hK.out _ _ ?_
     clear hK K
     try simp only [setIfInBounds_toArray, set_cons_zero, set_cons_succ]
     refine wpAnyL_done (by kernel_rfl) ?_ _
     have g3 : X1.cell? ⟨wr.heap.size, 3, none⟩ = some (.slice Ab f.blocks.length cb) := (HP1.out.blk HX10.out hBwr (by decide)).cell 3
     have HPRB : Hid (PrA B (preB u k f 0) W2 X1) := Lib.hid (by
      have h := HP1.out.pra
      have e : preB u k f 0 = u.arrays.map arrT ++ flowsLn (u.flows.take k) ++ [headT f] := by simp [preB, blocksLn]
      rw [e]; exact h)
     clear HP1 HX10 HWS SO p0 p1 p3 p4 p6 p7 HIP HIV
     go_wp2
     clear g3
     go_loopw [65] (fun i wq => ∃ j : Nat, j ≤ f.blocks.length ∧ i = .int .i64 j ∧ PrA B (preB u k f j) W2 wq) (fun i _ => f.blocks.length - (RowKit.intOf i).toNat)
     case atStart => exact ⟨0, by omega, rfl, HPRB.out⟩
     case round =>
      obtain ⟨wq, hwq⟩ : ∃ wq, wq = wr := ⟨_, rfl⟩
      subst hwq
      obtain ⟨j, hj, rfl, hpq⟩ := hrel
      by_cases hlt2 : j < f.blocks.length
      ·have d2 : decide ((j : Int) < (f.blocks.length : Int)) = true := decide_eq_true (by omega)
       obtain ⟨b4, o4, c4, f4, _, _, hb4, q4'⟩ := HSL.out.form (by omega)
       obtain rfl : Ab = some ⟨b4, o4, none⟩ := by injection f4
       obtain ⟨cs, _, ⟨vi, hcs, hsi⟩, hcell⟩ := q4' j hlt2
       have hlines := block_lines u k hlt f HFE.out j hlt2
       have hmem2 := List.getElem_mem hlt2
       obtain ⟨b, hbe⟩ : ∃ b, b = f.blocks[j] := ⟨_, rfl⟩
       rw [← hbe] at hcs hsi hmem2
       obtain ⟨Ai, ci, hvi, hli, hlic⟩ := hsi.val
       subst hvi
       subst hcs
       have him := Nat.le_trans hli hlic
       unfold maxLen at him
       have HBEQ := Lib.hid hbe
       have HMEM2 := Lib.hid hmem2
       have HPQ := Lib.hid hpq
       have hPlj : Pl (j : Int) := ⟨by omega, by omega⟩
       have lbj := bT_len hPlj
       have HBJ := Lib.hid (b_any j hPlj)
       have HLB2 : Hid ((ln (preB u k f j)).length + ((labelT j).length + 1) ≤ 140737488355328) := Lib.hid (by
        obtain ⟨rest, hr⟩ := hlines
        have := wr_bound hr
        have hl9 : (unitT u).length ≤ 1000000000 := HLEN.out
        omega)
       have hbr := hpq.below
       have hBwq : B < wq.heap.size := bld_lt hpq.bld
       have hcw := hcell.keep (hbr.block b4 (by have := HBE.out; omega))
       have i0 : wq.cell? ⟨b4, o4 + j * 5, none⟩ = some (.slice Ai b.ins.length ci) := by have h := hcw.at_ (j := 0) rfl; simpa using h
       have i1 : wq.cell? ⟨b4, o4 + j * 5 + 1, none⟩ = some (.int .i64 b.term.kind) := hcw.at_ (j := 1) rfl
       have i2 : wq.cell? ⟨b4, o4 + j * 5 + 2, none⟩ = some (.int .i64 b.term.a) := hcw.at_ (j := 2) rfl
       have i3 : wq.cell? ⟨b4, o4 + j * 5 + 3, none⟩ = some (.int .i64 b.term.to) := hcw.at_ (j := 3) rfl
       have i4 : wq.cell? ⟨b4, o4 + j * 5 + 4, none⟩ = some (.int .i64 b.term.els) := hcw.at_ (j := 4) rfl
       have p0 : ∀ W : World, (Op.stringOp .add (S8 (bT j)) ⟨#[58, 10]⟩).run Tryz.prog W = .ok (.string (S8 (labelT j ++ [10]))) W := fun W => by
        have h := sadd (bT j) [58, 10] (by simp; omega) W
        rw [labelT, List.append_assoc]; exact h
       have HWS0 := Lib.hid (fun X (h : PrA B (preB u k f j) W2 X) => ws_any B _ (labelT j) W2 X h HLB2.out)
       have HSI := Lib.hid hsi
       clear f4 q4' hcell hcw hbe hb4 hmem2 hlines hbr hpq hsi hPlj lbj
       generalize S8 (labelT j ++ [10]) = q1 at *
       generalize S8 (bT j) = q0 at *
       go_upto_region 17 with fail
       refine wp_world ?_
       intro W17 hW17
       have h17 : Below wq.heap.size wq W17 := by rw [← hW17]; exact below1 _ _
       have x12 : Blk W17 wq.heap.size 48 #[.slice Ai b.ins.length ci, .int .i64 b.term.kind, .int .i64 b.term.a, .int .i64 b.term.to, .int .i64 b.term.els] := by rw [← hW17]; exact Blk.new_at _ _ _ rfl
       have HWS := Lib.hid (HWS0.out W17 (HPQ.out.step h17))
       clear hW17 h17 i0 i1 i2 i3 i4 HWS0
       go_upto_region 18 with (first | (go_at_call 42; refine (HBJ.out _).mono ?_; rintro e w' ⟨rfl, rfl⟩) | (go_at_call 40; refine HWS.out.mono ?_; rintro e X2 ⟨⟨nn2, rfl⟩, hp2⟩))
       have hx2 := hp2.blk x12 hBwq (by decide)
       have y0 : X2.cell? ⟨wq.heap.size, 0, none⟩ = some (.slice Ai b.ins.length ci) := hx2.cell 0
       have HPI : Hid (PrA B (preI u k f j b 0) W2 X2) := Lib.hid (by rw [preI_zero]; exact hp2.pra)
       have HX2 := Lib.hid hx2
       clear hp2 hx2 x12 HWS p0 HBJ
       go_wp2
       clear y0
       go_loopw [77] (fun i wz => ∃ m : Nat, m ≤ b.ins.length ∧ i = .int .i64 m ∧ PrA B (preI u k f j b m) W2 wz ∧ Blk wz wq.heap.size 48 #[.slice Ai b.ins.length ci, .int .i64 b.term.kind, .int .i64 b.term.a, .int .i64 b.term.to, .int .i64 b.term.els]) (fun i _ => b.ins.length - (RowKit.intOf i).toNat)
       case atStart => exact ⟨0, by omega, rfl, HPI.out, HX2.out⟩
       case round =>
        obtain ⟨wz, hwz⟩ : ∃ wz, wz = wr := ⟨_, rfl⟩
        subst hwz
        obtain ⟨m, hm, rfl, hpz, hxz⟩ := hrel
        by_cases hlt3 : m < b.ins.length
        ·exact absurd hlt3 (by rw [HP.out.ins f HMEM.out b HMEM2.out]; exact Nat.not_lt_zero _)
        ·obtain rfl : m = b.ins.length := by omega
         have d3 : decide ((b.ins.length : Int) < (b.ins.length : Int)) = false := decide_eq_false (by omega)
         obtain ⟨e1, e2, e3, e4⟩ := HP.out.ends f HMEM.out b HMEM2.out
         have hel := endT_len e1 e2 e3
         have hlines := end_lines u k hlt f HFE.out j hlt2 b HBEQ.out
         have HSUC := Lib.hid (preB_succ u k f j hlt2 b HBEQ.out)
         have HLB3 : Hid ((ln (preI u k f j b b.ins.length)).length + ((9 :: endT b.term).length + 1) ≤ 140737488355328) := Lib.hid (by
          obtain ⟨rest, hr⟩ := hlines
          have := wr_bound hr
          have hl9 : (unitT u).length ≤ 1000000000 := HLEN.out
          omega)
         have HEN := Lib.hid (fun X => pend_any b.term e1 e2 e3 e4 X)
         have y1 : wz.cell? ⟨wq.heap.size, 1, none⟩ = some (.int .i64 b.term.kind) := hxz.cell 1
         have y2 : wz.cell? ⟨wq.heap.size, 2, none⟩ = some (.int .i64 b.term.a) := hxz.cell 2
         have y3 : wz.cell? ⟨wq.heap.size, 3, none⟩ = some (.int .i64 b.term.to) := hxz.cell 3
         have y4 : wz.cell? ⟨wq.heap.size, 4, none⟩ = some (.int .i64 b.term.els) := hxz.cell 4
         have p0 : ∀ W : World, (Op.stringOp .add ⟨#[9]⟩ (S8 (endT b.term))).run Tryz.prog W = .ok (.string (S8 (9 :: endT b.term))) W := fun W => sadd [9] (endT b.term) (by simp; omega) W
         have p1 : ∀ W : World, (Op.stringOp .add (S8 (9 :: endT b.term)) ⟨#[10]⟩).run Tryz.prog W = .ok (.string (S8 ((9 :: endT b.term) ++ [10]))) W := fun W => sadd (9 :: endT b.term) [10] (by simp; omega) W
         have HWS0 := Lib.hid (fun X (h : PrA B (preI u k f j b b.ins.length) W2 X) => ws_any B _ (9 :: endT b.term) W2 X h HLB3.out)
         have HPZ := Lib.hid hpz
         clear hlines hpz hxz e1 e2 e3 e4 hel
         generalize S8 ((9 :: endT b.term) ++ [10]) = q2 at *
         generalize S8 (9 :: endT b.term) = q1 at *
         generalize S8 (endT b.term) = q0 at *
         go_wp2_with (first | (go_at_call 44; refine (HEN.out _).mono ?_; rintro e X3 ⟨rfl, hb3⟩; have HB3 := Lib.hid hb3; clear hb3) | (go_at_call 40; refine (HWS0.out _ (HPZ.out.step HB3.out)).mono ?_; rintro e X4 ⟨⟨nn4, rfl⟩, hp4⟩))
         go_roundw
         case rel =>
          refine ⟨j + 1, by omega, by go_num, ?_⟩
          rw [HSUC.out]
          exact hp4.pra
         case measure => simp [RowKit.intOf]; omega
      ·obtain rfl : j = f.blocks.length := by omega
       have d2 : decide ((f.blocks.length : Int) < (f.blocks.length : Int)) = false := decide_eq_false (by omega)
       rw [preB_all u k hlt f HFE.out] at hpq
       have HPQ := Lib.hid hpq
       clear hpq
       go_wp2
       go_roundw
       case rel => exact ⟨k + 1, by omega, by go_num, HPQ.out⟩
       case measure => simp [RowKit.intOf]; omega
    ·obtain rfl : k = u.flows.length := by omega
     have htk : u.flows.take u.flows.length = u.flows := List.take_length
     rw [htk] at hpr
     have HS : Hid (Calls Tryz.prog 45 #[.pointer (some ⟨B, 0, none⟩)] wr fun e w' => e = .returned (.string (S8 (unitT u))) ∧ Below B wr w') := Lib.hid ((Any.Builder_String_any_k Tryz.bstr bstrX B B (unitT u) wr hpr.bld (Nat.le_of_lt (bld_lt hpr.bld))).mono fun _ _ h => ⟨h.1, h.2.2.1⟩)
     have HBR := Lib.hid hpr.below
     clear hpr htk
     go_wp2_with (go_at_call 45; refine HS.out.mono ?_; rintro e w9 ⟨rfl, hb9⟩)
     go_ret2
     exact ⟨rfl, HBW.out.trans ((HBR.out.trans hb9).mono (by have := HBE.out; have := HBW.out.size; omega))⟩
end Go.Proofs.YtkpigkopjfkepaaGreatDoor
