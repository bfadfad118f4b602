/- What ir.Check does at a unit that may be: it tells that it may. What a unit that may be consists of; units whose functions are made anew may be, too. -/
import Derived.Test.YtkpigkopjfkepaaGreatDoorPrIrBad
import Derived.Test.YtkpigkopjfkepaaGreatDoorPrIrNameL
namespace Go.Proofs.YtkpigkopjfkepaaGreatDoor
open Go.RowKit
structure UnitOk (u : LUnit) : Prop where
 sizes : ∀ a ∈ u.arrays, 1 ≤ a.2 ∧ a.2 ≤ 1048576
 arrs : u.arrays.length ≤ 500
 fls : u.flows.length ≤ 500
 good : ∀ s ∈ allNames u, NameG s
 nodup : (allNames u).Nodup
 main : ∃ (i : Nat) (h : i < u.flows.length), placeU u sMain = (i : Int) ∧ u.flows[i].params ≤ 0
 nums : ∀ f ∈ u.flows, flowBad f = false
 lens : ∀ f ∈ u.flows, ∀ b ∈ f.blocks, b.ins.length ≤ 1000
 blocks : ∀ f ∈ u.flows, f.blocks.any (blockBad u f) = false
theorem size_pred (l : List (ByteArray × Int)) (w : World) (hl : ∀ a ∈ l, 1 ≤ a.2 ∧ a.2 ≤ 1048576) : Pred_arr 28 #[] (fun _ => false) l w := by
 intro W x hx hb
 obtain ⟨h1, h2⟩ := hl x hx
 have e1 : decide (x.2 < 1) = false := decide_eq_false (by omega)
 have e2 : decide (x.2 > 1048576) = false := decide_eq_false (by omega)
 have e3 : decide (1048576 < x.2) = false := decide_eq_false (by omega)
 obtain ⟨s, n⟩ := x
 clear h1 h2
 go_enter Tryz.func28, Tryz.ntmps28
 go_wp2
 go_ret
 exact ⟨rfl, hb.alloc hb.size _⟩
section
set_option maxRecDepth 100000
set_option maxHeartbeats 4000000
theorem check_ok (u : LUnit) (hu : UnitOk u) (A1 A2 : Option Addr) (c1 c2 : Nat) (w : World) (ha : SlR w (· < w.heap.size) 2 RArr (.slice A1 u.arrays.length c1) u.arrays) (hf : SlR w (· < w.heap.size) 4 (RFlow w (· < w.heap.size)) (.slice A2 u.flows.length c2) u.flows) :
  Calls Tryz.prog 11 #[.agg #[.slice A1 u.arrays.length c1, .slice A2 u.flows.length c2]] w fun e w' => e = .returned (.tuple #[.int .i64 0, .agg #[.int .i64 0, .int .i64 0]]) ∧ Below w.heap.size w w' := by
 obtain ⟨im, him, hmain, hpar⟩ := hu.main
 have hfl := hu.fls
 have HU := Lib.hid hu
 have HAA := Lib.hid ha
 have HFF := Lib.hid hf
 have HM := Lib.hid hmain
 clear hu ha hf hmain
 go_enter Tryz.func11, Tryz.ntmps11
 go_upto_region 1 with fail
 refine wp_world ?_
 intro W hW
 have hB : Below w.heap.size w W := by rw [← hW]; exact below2 _ _ _
 have hX : Blk W w.heap.size 27 #[.slice A1 u.arrays.length c1, .slice A2 u.flows.length c2] := by rw [← hW]; exact (Blk.new_at _ _ _ rfl).alloc _
 have hR : Blk W (w.heap.size + 1) 32 #[.int .i64 0, .int .i64 0] := by rw [← hW]; exact Blk.new_at _ _ _ (by simp)
 clear hW
 have arr : ∀ W2, Below w.heap.size w W2 → SlR W2 (· < W2.heap.size) 2 RArr (.slice A1 u.arrays.length c1) u.arrays := fun W2 h => HAA.out.imp (fun _ g => Nat.lt_of_lt_of_le g h.size) (fun b g => h.block b g) (fun _ _ _ r => r)
 have flo : ∀ W2, Below w.heap.size w W2 → SlR W2 (· < W2.heap.size) 4 (RFlow W2 (· < W2.heap.size)) (.slice A2 u.flows.length c2) u.flows := fun W2 h => HFF.out.imp (fun _ g => Nat.lt_of_lt_of_le g h.size) (fun b g => h.block b g) (fun _ _ _ r => r.imp (fun _ g => Nat.lt_of_lt_of_le g h.size) (fun b g => h.block b g))
 have ARR := Lib.hid arr
 have FLO := Lib.hid flo
 have HB := Lib.hid hB
 have HX := Lib.hid hX
 have HR := Lib.hid hR
 have x0 : W.cell? ⟨w.heap.size, 0, none⟩ = some (.slice A1 u.arrays.length c1) := hX.cell 0
 have x1 : W.cell? ⟨w.heap.size, 1, none⟩ = some (.slice A2 u.flows.length c2) := hX.cell 1
 have HP := Lib.hid (place_u u sMain A1 u.arrays.length c1 _ W (FLO.out W hB))
 clear arr flo hB hX hR HAA HFF
 rw [HM.out] at HP
 unfold sMain at HP
 go_upto_region 2 with (go_at_call 26; refine HP.out.mono ?_; rintro e w1 ⟨rfl, hb1⟩)
 have HB1 := Lib.hid (HB.out.trans (hb1.mono HB.out.size))
 have HX1 := Lib.hid (HX.out.below hb1 HX.out.lt)
 have HR1 := Lib.hid (HR.out.below hb1 HR.out.lt)
 have HS := Lib.hid (con_size u.arrays _ (fun _ => false) w1 (ARR.out w1 HB1.out) (size_pred _ _ HU.out.sizes))
 have hany : (u.arrays.any fun _ => false) = false := by simp
 rw [hany] at HS
 have y0 : w1.cell? ⟨w.heap.size, 0, none⟩ = some (.slice A1 u.arrays.length c1) := HX1.out.cell 0
 clear hb1 HX HR HP HB hany x0 x1
 go_upto_region 3 with (go_at_call 27; refine HS.out.mono ?_; rintro e w2 ⟨rfl, hb2⟩)
 have HB2 := Lib.hid (HB1.out.trans (hb2.mono HB1.out.size))
 have HX2 := Lib.hid (HX1.out.below hb2 HX1.out.lt)
 have HR2 := Lib.hid (HR1.out.below hb2 HR1.out.lt)
 have HN := Lib.hid (names_any u A1 A2 c1 c2 w2 (ARR.out w2 HB2.out) (FLO.out w2 HB2.out) HU.out.arrs HU.out.fls HU.out.good HU.out.nodup (by unfold allNames; simp; omega))
 have z0 : w2.cell? ⟨w.heap.size, 0, none⟩ = some (.slice A1 u.arrays.length c1) := HX2.out.cell 0
 have z1 : w2.cell? ⟨w.heap.size, 1, none⟩ = some (.slice A2 u.flows.length c2) := HX2.out.cell 1
 have p1 : (im : Int) < (u.flows.length : Int) := by omega
 have p2 : decide ((im : Int) < 0) = false := decide_eq_false (by omega)
 clear hb2 HX1 HR1 HS HB1 y0
 go_upto_if 34 with (go_at_call 29; refine HN.out.mono ?_; rintro e w3 ⟨rfl, hb3⟩; have HB3 := Lib.hid (HB2.out.trans (hb3.mono HB2.out.size)); have HX3 := Lib.hid (HX2.out.below hb3 HX2.out.lt); have HR3 := Lib.hid (HR2.out.below hb3 HR2.out.lt); have v1 : w3.cell? ⟨w.heap.size, 1, none⟩ = some (.slice A2 u.flows.length c2) := HX3.out.cell 1; obtain ⟨bf, of_, cf, hff, _, _, hbf, hel⟩ := (FLO.out w3 HB3.out).form (by omega); obtain rfl : A2 = some ⟨bf, of_, none⟩ := (by injection hff); obtain ⟨cs, _, ⟨vb2, hcs, _⟩, hcell⟩ := hel im him; subst hcs; have f1 : w3.cell? ⟨bf, of_ + im * 4 + 1, none⟩ = some (.int .i64 u.flows[im].params) := hcell.at_ (j := 1) rfl; generalize u.flows[im].params = pm at *; have e1 : decide (pm > 0) = false := decide_eq_false (by omega); have e2 : decide (0 < pm) = false := decide_eq_false (by omega); clear hcell hel hff hbf hb3)
 clear z0 z1 p1 p2 f1 HN HX2 HR2 HB2
 go_wp2
 clear v1 e1 e2
 go_loopw [39] (fun i wr => ∃ k : Nat, k ≤ u.flows.length ∧ i = .int .i64 k ∧ Below w3.heap.size w3 wr) (fun i _ => u.flows.length - (RowKit.intOf i).toNat)
 case atStart => exact ⟨0, by omega, rfl, Below.refl _ _⟩
 case round =>
  obtain ⟨k, hk, rfl, hbr⟩ := hrel
  have HBr := Lib.hid (HB3.out.trans (hbr.mono HB3.out.size))
  have HXr := Lib.hid (HX3.out.below hbr HX3.out.lt)
  have HRr := Lib.hid (HR3.out.below hbr HR3.out.lt)
  have HBR := Lib.hid hbr
  clear hbr
  by_cases hlt : k < u.flows.length
  ·have d1 : decide ((k : Int) < (u.flows.length : Int)) = true := decide_eq_true (by omega)
   obtain ⟨b3, o3, c3, fm, _, _, hb3, q3⟩ := (FLO.out wr HBr.out).form (by omega)
   obtain ⟨rfl, rfl⟩ : bf = b3 ∧ of_ = o3 := by injection fm with h1 _ _; injection h1 with h1; injection h1 with h1 h2; exact ⟨h1, h2⟩
   obtain ⟨cs, _, ⟨vbx, hcs, hsx⟩, hcell⟩ := q3 k hlt
   have hmem := List.getElem_mem hlt
   obtain ⟨x, hx⟩ : ∃ x, x = u.flows[k] := ⟨_, rfl⟩
   rw [← hx] at hcs hsx hmem
   obtain ⟨Ax, cx, hvx, _, _⟩ := hsx.val
   subst hvx
   subst hcs
   have i0 : wr.cell? ⟨bf, of_ + k * 4, none⟩ = some (.string x.name) := by have h := hcell.at_ (j := 0) rfl; simpa using h
   have i1 : wr.cell? ⟨bf, of_ + k * 4 + 1, none⟩ = some (.int .i64 x.params) := hcell.at_ (j := 1) rfl
   have i2 : wr.cell? ⟨bf, of_ + k * 4 + 2, none⟩ = some (.int .i64 x.values) := hcell.at_ (j := 2) rfl
   have i3 : wr.cell? ⟨bf, of_ + k * 4 + 3, none⟩ = some (.slice Ax x.blocks.length cx) := hcell.at_ (j := 3) rfl
   have v0 : wr.cell? ⟨w.heap.size, 0, none⟩ = some (.slice A1 u.arrays.length c1) := HXr.out.cell 0
   have v1 : wr.cell? ⟨w.heap.size, 1, none⟩ = some (.slice (some ⟨bf, of_, none⟩) u.flows.length c2) := HXr.out.cell 1
   have hxl : w.heap.size < wr.heap.size := HXr.out.lt
   have HSX := Lib.hid hsx
   have HME := Lib.hid hmem
   clear fm q3 hcell hx hsx hb3 hmem
   go_upto_region 9 with fail
   refine wp_world ?_
   intro W4 hW4
   have hb4 : Below wr.heap.size wr W4 := by rw [← hW4]; exact below2 _ _ _
   have hch : Blk W4 (wr.heap.size + 1) 76 #[.slice A1 u.arrays.length c1, .slice (some ⟨bf, of_, none⟩) u.flows.length c2, .string x.name, .int .i64 x.params, .int .i64 x.values, .slice Ax x.blocks.length cx] := by rw [← hW4]; exact Blk.new_at _ _ _ (by simp)
   clear hW4 i0 i1 i2 i3 v0 v1
   have hb40 : Below w.heap.size w W4 := HBr.out.trans (hb4.mono HBr.out.size)
   have hck : ChkR W4 (wr.heap.size + 1) u x A1 c1 (some ⟨bf, of_, none⟩) c2 (.slice Ax x.blocks.length cx) := ⟨⟨hch.cell 0, hch.cell 1, hch.cell 2, hch.cell 3, hch.cell 4, hch.cell 5⟩, ARR.out W4 hb40, FLO.out W4 hb40⟩
   have hbd := bad_any u x (wr.heap.size + 1) A1 (some ⟨bf, of_, none⟩) c1 c2 Ax cx W4 hck (HSX.out.imp (fun _ h => Nat.lt_of_lt_of_le h hb4.size) (fun b h => hb4.block b h) (fun _ _ _ r => r.imp (fun _ h => Nat.lt_of_lt_of_le h hb4.size) (fun b h => hb4.block b h))) (HU.out.nums x HME.out) (HU.out.lens x HME.out)
   rw [findI_none (HU.out.blocks x HME.out)] at hbd
   have HBD := Lib.hid hbd
   have HB4 := Lib.hid (HBR.out.trans (hb4.mono HBR.out.size))
   clear hb4 hch hb40 hck hbd hxl
   go_wp2_with (go_at_call 30; refine HBD.out.mono ?_; rintro e w5 ⟨rfl, hb5⟩)
   go_roundw
   case rel => exact ⟨k + 1, by omega, by go_num, HB4.out.trans (hb5.mono HB4.out.size)⟩
   case measure => simp [RowKit.intOf]; omega
  ·have d1 : decide ((k : Int) < (u.flows.length : Int)) = false := decide_eq_false (by omega)
   have r0 : wr.cell? ⟨w.heap.size + 1, 0, none⟩ = some (.int .i64 0) := HRr.out.cell 0
   have r1 : wr.cell? ⟨w.heap.size + 1, 1, none⟩ = some (.int .i64 0) := HRr.out.cell 1
   have r2 := HRr.out.frozen 0
   have r3 := HRr.out.frozen 1
   go_wp2
   generalize hW9 : (wr.setCell ⟨w.heap.size + 1, 0, none⟩ (.int .i64 0)).setCell ⟨w.heap.size + 1, 1, none⟩ (.int .i64 0) = W9
   have q0 : W9.cell? ⟨w.heap.size + 1, 0, none⟩ = some (.int .i64 0) := by rw [← hW9]; exact ((HRr.out.set_ 0 _).set_ 1 _).cell 0
   have q1 : W9.cell? ⟨w.heap.size + 1, 1, none⟩ = some (.int .i64 0) := by rw [← hW9]; exact ((HRr.out.set_ 0 _).set_ 1 _).cell 1
   have q2 : Below w.heap.size w W9 := by rw [← hW9]; exact (HBr.out.setCell (by simp) _).setCell (by simp) _
   clear hW9 r0 r1 r2 r3
   exact bodyPost_ret (v := .tuple #[.int .i64 0, .agg #[.int .i64 0, .int .i64 0]]) (by simp [results, Tryz.results11, go_sem, q0, q1]) rfl ⟨rfl, q2⟩
end
end Go.Proofs.YtkpigkopjfkepaaGreatDoor
namespace Go.Proofs.YtkpigkopjfkepaaGreatDoor
theorem flow_ok {u : LUnit} (hu : UnitOk u) {f : LFlow} (hf : f ∈ u.flows) : 0 ≤ f.params ∧ f.params ≤ 6 ∧ f.params ≤ f.values ∧ f.values ≤ 50000 ∧ 0 < f.blocks.length ∧ f.blocks.length ≤ 20000 := by
 have h := hu.nums f hf
 unfold flowBad at h
 have h := of_decide_eq_false h
 omega
theorem block_ok {u : LUnit} (hu : UnitOk u) {f : LFlow} (hf : f ∈ u.flows) {b : LBlock} (hb : b ∈ f.blocks) : termOk f.blocks.length f.values b.term = true ∧ (∀ x ∈ b.ins, insOk u f.values x = true) := by
 have h := hu.blocks f hf
 rw [List.any_eq_false] at h
 have h := h b hb
 unfold blockBad at h
 simp only [Bool.not_eq_true, Bool.or_eq_false_iff, Bool.not_eq_false', List.any_eq_false] at h
 exact ⟨h.1, fun x hx => by have := h.2 x hx; simpa using this⟩
theorem placeIf_true {n top : Int} (h : placeIf n top true = true) : 0 ≤ n ∧ n < top := by unfold placeIf at h; simpa using h
structure InsK (u : LUnit) (vals : Int) (x : LIns) : Prop where
 kind : 1 ≤ x.kind ∧ x.kind ≤ 9
 d : hasD x.kind = true → 0 ≤ x.d ∧ x.d < vals
 a : hasA x.kind = true → 0 ≤ x.a ∧ x.a < vals
 b : hasB x.kind = true → 0 ≤ x.b ∧ x.b < vals
 arr : x.kind = 5 ∨ x.kind = 6 → ∃ (i : Nat) (h : i < u.arrays.length), u.arrays[i].1 = x.name
 call : x.kind = 9 → ∃ g, u.flows.find? (fun f => decide (f.name = x.name)) = some g ∧ (x.args.length : Int) = g.params ∧ ∀ n ∈ x.args, 0 ≤ n ∧ n < vals
theorem insK_of {u : LUnit} {vals : Int} {x : LIns} (h : insOk u vals x = true) : InsK u vals x := by
 unfold insOk at h
 simp only [Bool.and_eq_true, decide_eq_true_eq] at h
 obtain ⟨⟨⟨⟨⟨⟨h1, h2⟩, h3⟩, h4⟩, _⟩, _⟩, h7⟩ := h
 refine ⟨h1, fun e => ?_, fun e => ?_, fun e => ?_, fun e => ?_, fun e => ?_⟩
 ·rw [e] at h2; exact placeIf_true h2
 ·rw [e] at h3; exact placeIf_true h3
 ·rw [e] at h4; exact placeIf_true h4
 ·unfold namedOk at h7
  rw [if_pos e] at h7
  simp only [Bool.and_eq_true, List.any_eq_true, decide_eq_true_eq] at h7
  obtain ⟨_, a, ha, hn⟩ := h7
  obtain ⟨i, hi, rfl⟩ := List.getElem_of_mem ha
  exact ⟨i, hi, hn⟩
 ·unfold namedOk at h7
  rw [if_neg (by omega), if_pos e] at h7
  unfold callOk at h7
  cases hg : u.flows.find? (fun f => decide (f.name = x.name)) with
  | none => rw [hg] at h7; cases h7
  | some g =>
   rw [hg] at h7
   simp only [Bool.and_eq_true, decide_eq_true_eq, Bool.not_eq_true', List.any_eq_false] at h7
   refine ⟨g, rfl, h7.1, fun n hn => ?_⟩
   have := h7.2 n hn
   exact placeIf_true (by simpa using this)
structure TermK (nb vals : Int) (t : LTerm) : Prop where
 kind : 1 ≤ t.kind ∧ t.kind ≤ 4
 a : t.kind ≠ 1 → 0 ≤ t.a ∧ t.a < vals
 dest : t.kind = 1 ∨ t.kind = 2 → 0 ≤ t.to ∧ t.to < nb
 els : t.kind = 2 → 0 ≤ t.els ∧ t.els < nb
theorem termK_of {nb vals : Int} {t : LTerm} (h : termOk nb vals t = true) : TermK nb vals t := by
 unfold termOk at h
 simp only [Bool.and_eq_true, decide_eq_true_eq] at h
 obtain ⟨⟨⟨h1, h2⟩, h3⟩, h4⟩ := h
 refine ⟨h1, fun e => ?_, fun e => ?_, fun e => ?_⟩
 ·rw [decide_eq_true e] at h2; exact placeIf_true h2
 ·rw [decide_eq_true e] at h3; exact placeIf_true h3
 ·rw [decide_eq_true e] at h4; exact placeIf_true h4
theorem hasD_iff (k : Int) : hasD k = true ↔ (k = 1 ∨ k = 2 ∨ k = 3 ∨ k = 4 ∨ k = 5 ∨ k = 7 ∨ k = 9) := by unfold hasD; simp
def mapU (g : LFlow → LFlow) (u : LUnit) : LUnit := { u with flows := u.flows.map g }
theorem find_map {g : LFlow → LFlow} (s : ByteArray) : ∀ l : List LFlow, (∀ f ∈ l, (g f).name = f.name) → (l.map g).find? (fun f => decide (f.name = s)) = (l.find? (fun f => decide (f.name = s))).map g
 | [], _ => rfl
 | f :: l, hl => by
  rw [List.map_cons, List.find?_cons, List.find?_cons, hl f (by simp)]
  split
  ·rfl
  ·exact find_map s l fun f hf => hl f (by simp [hf])
theorem names_map {g : LFlow → LFlow} {u : LUnit} (hn : ∀ f ∈ u.flows, (g f).name = f.name) : allNames (mapU g u) = allNames u := by
 unfold allNames mapU
 show u.arrays.map (·.1) ++ (u.flows.map g).map (·.name) = _
 rw [List.map_map]
 congr 1
 exact List.map_congr_left hn
theorem callOk_map {g : LFlow → LFlow} {u : LUnit} (hn : ∀ f ∈ u.flows, (g f).name = f.name) (hp : ∀ f ∈ u.flows, (g f).params = f.params) (vals : Int) (s : ByteArray) (args : List Int) : callOk (mapU g u) vals s args = callOk u vals s args := by
 unfold callOk
 show (match (u.flows.map g).find? (fun f => decide (f.name = s)) with | some g => _ | none => _) = _
 rw [find_map s u.flows hn]
 cases h : u.flows.find? (fun f => decide (f.name = s)) with
 | none => rfl
 | some f => show (decide ((args.length : Int) = (g f).params) && _) = _; rw [hp f (List.mem_of_find?_eq_some h)]
theorem insOk_map {g : LFlow → LFlow} {u : LUnit} (hn : ∀ f ∈ u.flows, (g f).name = f.name) (hp : ∀ f ∈ u.flows, (g f).params = f.params) (vals : Int) (x : LIns) : insOk (mapU g u) vals x = insOk u vals x := by
 unfold insOk namedOk
 rw [callOk_map hn hp]
 rfl
theorem blockBad_map {g : LFlow → LFlow} {u : LUnit} (hn : ∀ f ∈ u.flows, (g f).name = f.name) (hp : ∀ f ∈ u.flows, (g f).params = f.params) (f : LFlow) (b : LBlock) : blockBad (mapU g u) f b = blockBad u f b := by
 unfold blockBad
 congr 1
 induction b.ins with
 | nil => rfl
 | cons x l ih => rw [List.any_cons, List.any_cons, insOk_map hn hp, ih]
theorem findI_map {g : LFlow → LFlow} (s : ByteArray) : ∀ (l : List LFlow), (∀ f ∈ l, (g f).name = f.name) → findI (fun f => decide (f.name = s)) (l.map g) = findI (fun f => decide (f.name = s)) l := fun l hn => by
 have h1 : ∀ l : List LFlow, (∀ f ∈ l, (g f).name = f.name) → (l.map g).any (fun f => decide (f.name = s)) = l.any (fun f => decide (f.name = s)) ∧ (l.map g).findIdx (fun f => decide (f.name = s)) = l.findIdx (fun f => decide (f.name = s)) := by
  intro l
  induction l with
  | nil => intro _; exact ⟨rfl, rfl⟩
  | cons f l ih =>
   intro hl
   obtain ⟨i1, i2⟩ := ih fun f hf => hl f (by simp [hf])
   rw [List.map_cons, List.any_cons, List.any_cons, List.findIdx_cons, List.findIdx_cons, hl f (by simp), i1, i2]
   exact ⟨rfl, rfl⟩
 obtain ⟨e1, e2⟩ := h1 l hn
 unfold findI
 rw [e1, e2]
theorem unit_map {g : LFlow → LFlow} {u : LUnit} (hu : UnitOk u) (hn : ∀ f ∈ u.flows, (g f).name = f.name) (hp : ∀ f ∈ u.flows, (g f).params = f.params) (hnum : ∀ f ∈ u.flows, flowBad (g f) = false) (hl : ∀ f ∈ u.flows, ∀ b ∈ (g f).blocks, b.ins.length ≤ 1000)
  (hb : ∀ f ∈ u.flows, ∀ b ∈ (g f).blocks, blockBad u (g f) b = false) : UnitOk (mapU g u) := by
 refine ⟨hu.sizes, hu.arrs, by show (u.flows.map g).length ≤ 500; rw [List.length_map]; exact hu.fls, by rw [names_map hn]; exact hu.good, by rw [names_map hn]; exact hu.nodup, ?_, fun f hf => ?_, fun f hf => ?_, fun f hf => ?_⟩
 ·obtain ⟨i, hi, h1, h2⟩ := hu.main
  refine ⟨i, by show i < (u.flows.map g).length; rw [List.length_map]; exact hi, ?_, ?_⟩
  ·show findI _ (u.flows.map g) = _
   rw [findI_map sMain u.flows hn]; exact h1
  ·show ((u.flows.map g)[i]'(by simpa using hi)).params ≤ 0
   rw [List.getElem_map, hp _ (List.getElem_mem hi)]; exact h2
 ·obtain ⟨f0, h0, rfl⟩ := List.mem_map.1 (show f ∈ u.flows.map g from hf); exact hnum f0 h0
 ·obtain ⟨f0, h0, rfl⟩ := List.mem_map.1 (show f ∈ u.flows.map g from hf); exact hl f0 h0
 ·obtain ⟨f0, h0, rfl⟩ := List.mem_map.1 (show f ∈ u.flows.map g from hf)
  rw [List.any_eq_false]
  intro b hb'
  rw [blockBad_map hn hp, hb f0 h0 b hb']; decide
end Go.Proofs.YtkpigkopjfkepaaGreatDoor
