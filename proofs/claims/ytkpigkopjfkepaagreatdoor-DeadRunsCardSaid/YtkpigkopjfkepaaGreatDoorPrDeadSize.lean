/- What dead.Size counts: instructions, and blocks. -/
import Derived.Test.YtkpigkopjfkepaaGreatDoorPrDeadDead
namespace Go.Proofs.YtkpigkopjfkepaaGreatDoor
open Go.RowKit
open Go.Deep
def szI (l : List LFlow) : Nat := (l.map fun f => insCount f.blocks).sum
def szB (l : List LFlow) : Nat := (l.map fun f => f.blocks.length).sum
theorem szI_take {l : List LFlow} {i : Nat} (h : i < l.length) : szI (l.take (i + 1)) = szI (l.take i) + insCount l[i].blocks := by
 unfold szI
 rw [List.take_succ_eq_append_getElem h, List.map_append, List.sum_append]; simp
theorem szB_take {l : List LFlow} {i : Nat} (h : i < l.length) : szB (l.take (i + 1)) = szB (l.take i) + l[i].blocks.length := by
 unfold szB
 rw [List.take_succ_eq_append_getElem h, List.map_append, List.sum_append]; simp
theorem ic_take {l : List LBlock} {k : Nat} (h : k < l.length) : insCount (l.take (k + 1)) = insCount (l.take k) + l[k].ins.length := by
 rw [List.take_succ_eq_append_getElem h, insCount_snoc]
structure SzW (w : World) (a b : Nat) (wr : World) : Prop where
 below : Below w.heap.size w wr
 out : Blk wr (w.heap.size + 1) 32 #[.int .i64 (a : Int), .int .i64 (b : Int)]
theorem SzW.alloc {w wr W : World} {a b : Nat} (h : SzW w a b wr) (hb : Below wr.heap.size wr W) : SzW w a b W :=
 ⟨h.below.trans (hb.mono h.below.size), h.out.below hb h.out.lt⟩
set_option maxRecDepth 100000 in
set_option maxHeartbeats 16000000 in
theorem size_u {u : LUnit} {w : World} {A1 A2 : Option Addr} {c1 c2 : Nat} (hs : SmallU u) (hfl : u.flows.length ≤ 500) (hui : UIn u w A1 A2 c1 c2) :
  Calls Tryz.prog 12 #[.agg #[.slice A1 u.arrays.length c1, .slice A2 u.flows.length c2]] w fun e w' => e = .returned (.agg #[.int .i64 (sizeI u : Int), .int .i64 (sizeB u : Int)]) ∧ Below w.heap.size w w' := by
 have HSM := Lib.hid hs
 have HF := Lib.hid hui.flo
 show Calls _ _ _ _ fun e w' => e = .returned (.agg #[.int .i64 (szI u.flows : Int), .int .i64 (szB u.flows : Int)]) ∧ Below w.heap.size w w'
 clear hui hs
 go_enter Tryz.func12, Tryz.ntmps12
 go_upto_region 1 with fail
 refine wp_world ?_
 intro W hW
 have hst : SzW w 0 0 W := ⟨by rw [← hW]; exact below2 w _ _, by rw [← hW]; exact Blk.new_at _ _ _ (by simp)⟩
 have hU : Blk W w.heap.size 27 #[.slice A1 u.arrays.length c1, .slice A2 u.flows.length c2] := by
  rw [← hW]; exact (Blk.new w _ _).alloc _
 have u1 : W.cell? ⟨w.heap.size, 1, none⟩ = some (.slice A2 u.flows.length c2) := hU.cell 1
 clear hW hU
 go_wp2_with fail
 go_loopw [10] (fun s wr => ∃ i : Nat, i ≤ u.flows.length ∧ s = .int .i64 i ∧ ∃ a b, a = szI (u.flows.take i) ∧ b = szB (u.flows.take i) ∧ a ≤ i * 900000 ∧ b ≤ i * 1000 ∧ SzW w a b wr) (fun s _ => u.flows.length - (intOf s).toNat)
 case atStart => exact ⟨0, by omega, rfl, 0, 0, rfl, rfl, by omega, by omega, hst⟩
 case round =>
  obtain ⟨wo, hwo⟩ : ∃ wo, wo = wr := ⟨_, rfl⟩
  subst hwo
  obtain ⟨i, hi, rfl, a, b, ha, hb, ha1, hb1, hl⟩ := hrel
  have HL := Lib.hid hl
  by_cases hlt : i < u.flows.length
  ·have e1 : decide ((i : Int) < (u.flows.length : Int)) = true := decide_eq_true (by omega)
   have hi3 : (i : Int) < (u.flows.length : Int) := by omega
   obtain ⟨gf, of_, cf', hform, _, _, hgl, hq⟩ := HF.out.form (by omega)
   obtain ⟨rfl, rfl⟩ : A2 = some ⟨gf, of_, none⟩ ∧ c2 = cf' := by injection hform with h1 _ h2; exact ⟨h1, h2⟩
   obtain ⟨cs, _, ⟨vb, hcs, hsb⟩, hcell⟩ := hq i hlt
   subst hcs
   have hta := szI_take hlt
   have htb := szB_take hlt
   rw [← ha] at hta
   rw [← hb] at htb
   obtain ⟨f, hfe⟩ : ∃ f, f = u.flows[i] := ⟨_, rfl⟩
   have hfm : f ∈ u.flows := by rw [hfe]; exact List.getElem_mem _
   rw [← hfe] at hcell hsb hta htb
   obtain ⟨Ab, cb, hvb, _, _⟩ := hsb.val
   subst hvb
   obtain ⟨hbl, hlens⟩ := HSM.out f hfm
   have hcw := hcell.keep (hl.below.block gf hgl)
   have i0 : wo.cell? ⟨gf, of_ + i * 4, none⟩ = some (.string f.name) := by have h := hcw.at_ (j := 0) rfl; simpa using h
   have i1 : wo.cell? ⟨gf, of_ + i * 4 + 1, none⟩ = some (.int .i64 f.params) := hcw.at_ (j := 1) rfl
   have i2 : wo.cell? ⟨gf, of_ + i * 4 + 2, none⟩ = some (.int .i64 f.values) := hcw.at_ (j := 2) rfl
   have i3 : wo.cell? ⟨gf, of_ + i * 4 + 3, none⟩ = some (.slice Ab f.blocks.length cb) := hcw.at_ (j := 3) rfl
   have HSB := Lib.hid hsb
   have HTA := Lib.hid hta
   have HTB := Lib.hid htb
   have HLN := Lib.hid hlens
   clear hcw hcell hsb hq hform hl hfe hfm ha hb hta htb hlens u1
   go_upto_region 4 with fail
   refine wp_world ?_
   intro w8 hw8
   have h8 : Below wo.heap.size wo w8 := by rw [← hw8]; exact below1 _ _
   have x8 : Blk w8 wo.heap.size 41 #[.string f.name, .int .i64 f.params, .int .i64 f.values, .slice Ab f.blocks.length cb] := by rw [← hw8]; exact Blk.new wo _ _
   have z3 : w8.cell? ⟨wo.heap.size, 3, none⟩ = some (.slice Ab f.blocks.length cb) := x8.cell 3
   have hst8 : SzW w a b w8 := HL.out.alloc h8
   have hwl : w.heap.size + 1 < wo.heap.size := HL.out.out.lt
   have o1 : w8.cell? ⟨w.heap.size + 1, 1, none⟩ = some (.int .i64 (b : Int)) := hst8.out.cell 1
   have oz := hst8.out.frozen 1
   have hbi : IntKind.i64.wrap ((b : Int) + (f.blocks.length : Int)) = (b : Int) + (f.blocks.length : Int) := by rw [IntKind.wrap_i64]; omega
   have HST8 := Lib.hid hst8
   have HX8 := Lib.hid x8
   clear hw8 h8 x8 hst8 i0 i1 i2 i3
   go_upto_region 5 with fail
   refine wp_world ?_
   intro w9 hw9
   have hst9 : SzW w a (b + f.blocks.length) w9 := by
    rw [← hw9]
    refine ⟨HST8.out.below.setCell (Nat.le_succ _) _, ?_⟩
    have h := HST8.out.out.set_ 1 (.int .i64 ((b + f.blocks.length : Nat) : Int))
    exact h
   have y3 : w9.cell? ⟨wo.heap.size, 3, none⟩ = some (.slice Ab f.blocks.length cb) := by
    rw [← hw9]
    exact (HX8.out.far (p := ⟨w.heap.size + 1, 1, none⟩) (by show wo.heap.size ≠ w.heap.size + 1; omega) _).cell 3
   have HST9 := Lib.hid hst9
   clear hw9 hst9 hbi o1 oz z3
   go_wp2_with fail
   go_loopw [24] (fun s wk => ∃ k : Nat, k ≤ f.blocks.length ∧ s = .int .i64 k ∧ ∃ a2, a2 = a + insCount (f.blocks.take k) ∧ a2 ≤ a + k * 900 ∧ SzW w a2 (b + f.blocks.length) wk) (fun s _ => f.blocks.length - (intOf s).toNat)
   case atStart => exact ⟨0, by omega, rfl, a, rfl, by omega, HST9.out⟩
   case round =>
    obtain ⟨wk, hwk⟩ : ∃ wk, wk = wr := ⟨_, rfl⟩
    subst hwk
    obtain ⟨k, hk, rfl, a2, ha2, ha3, hlk⟩ := hrel
    have HLK := Lib.hid hlk
    by_cases hltk : k < f.blocks.length
    ·have d1 : decide ((k : Int) < (f.blocks.length : Int)) = true := decide_eq_true (by omega)
     have hk3 : (k : Int) < (f.blocks.length : Int) := by omega
     obtain ⟨gb, ob, cb', hformb, _, _, hgb, hqb⟩ := HSB.out.form (by omega)
     obtain ⟨rfl, rfl⟩ : Ab = some ⟨gb, ob, none⟩ ∧ cb = cb' := by injection hformb with h1 _ h2; exact ⟨h1, h2⟩
     obtain ⟨cs, _, ⟨vi, hcs, hsi⟩, hcellb⟩ := hqb k hltk
     subst hcs
     have hka := ic_take hltk
     obtain ⟨x, hbe⟩ : ∃ x, x = f.blocks[k] := ⟨_, rfl⟩
     have hxl : x.ins.length ≤ 900 := HLN.out x (by rw [hbe]; exact List.getElem_mem _)
     rw [← hbe] at hcellb hsi hka
     obtain ⟨Ai, ci, hvi, _, _⟩ := hsi.val
     subst hvi
     have hna : a2 + x.ins.length = a + insCount (f.blocks.take (k + 1)) := by rw [hka, ha2]; omega
     have HNA := Lib.hid hna
     have hcw := hcellb.keep (hlk.below.block gb hgb)
     have j0 : wk.cell? ⟨gb, ob + k * 5, none⟩ = some (.slice Ai x.ins.length ci) := by have h := hcw.at_ (j := 0) rfl; simpa using h
     have j1 : wk.cell? ⟨gb, ob + k * 5 + 1, none⟩ = some (.int .i64 x.term.kind) := hcw.at_ (j := 1) rfl
     have j2 : wk.cell? ⟨gb, ob + k * 5 + 2, none⟩ = some (.int .i64 x.term.a) := hcw.at_ (j := 2) rfl
     have j3 : wk.cell? ⟨gb, ob + k * 5 + 3, none⟩ = some (.int .i64 x.term.to) := hcw.at_ (j := 3) rfl
     have j4 : wk.cell? ⟨gb, ob + k * 5 + 4, none⟩ = some (.int .i64 x.term.els) := hcw.at_ (j := 4) rfl
     clear hcw hcellb hqb hformb hsi hbe hlk hka hna y3 ha2
     go_upto_region 8 with fail
     refine wp_world ?_
     intro w11 hw11
     have h11 : Below wk.heap.size wk w11 := by rw [← hw11]; exact below1 _ _
     have x11 : Blk w11 wk.heap.size 48 #[.slice Ai x.ins.length ci, .int .i64 x.term.kind, .int .i64 x.term.a, .int .i64 x.term.to, .int .i64 x.term.els] := by rw [← hw11]; exact Blk.new wk _ _
     have z0 : w11.cell? ⟨wk.heap.size, 0, none⟩ = some (.slice Ai x.ins.length ci) := x11.cell 0
     have hst11 : SzW w a2 (b + f.blocks.length) w11 := HLK.out.alloc h11
     have o0 : w11.cell? ⟨w.heap.size + 1, 0, none⟩ = some (.int .i64 (a2 : Int)) := hst11.out.cell 0
     have oz := hst11.out.frozen 0
     have hbi : IntKind.i64.wrap ((a2 : Int) + (x.ins.length : Int)) = (a2 : Int) + (x.ins.length : Int) := by rw [IntKind.wrap_i64]; omega
     have HST11 := Lib.hid hst11
     clear hw11 h11 x11 hst11 j0 j1 j2 j3 j4
     go_wp2_with fail
     go_roundw
     case rel =>
      refine ⟨k + 1, by omega, by go_num, a2 + x.ins.length, HNA.out, by omega, ?_, ?_⟩
      ·exact HST11.out.below.setCell (Nat.le_succ _) _
      ·have h := HST11.out.out.set_ 0 (.int .i64 ((a2 + x.ins.length : Nat) : Int))
       exact h
     case measure => simp [intOf]; omega
    ·have d1 : decide ((k : Int) < (f.blocks.length : Int)) = false := decide_eq_false (by omega)
     obtain rfl : k = f.blocks.length := by omega
     rw [List.take_length] at ha2
     have HA2 := Lib.hid ha2
     clear hlk ha2 y3
     go_wp2_with fail
     go_roundw
     case rel => exact ⟨i + 1, by omega, by go_num, a2, b + f.blocks.length, by rw [HTA.out]; exact HA2.out, by rw [HTB.out], by omega, by omega, HLK.out⟩
     case measure => simp [intOf]; omega
  ·have d1 : decide ((i : Int) < (u.flows.length : Int)) = false := decide_eq_false (by omega)
   obtain rfl : i = u.flows.length := by omega
   rw [List.take_length] at ha hb
   subst ha hb
   clear hl u1
   go_wp2
   exact bodyPost_ret (v := .agg #[.int .i64 (szI u.flows : Int), .int .i64 (szB u.flows : Int)]) (results_cell_row (p := 2) (ty := 32) (by kernel_rfl) _ _ (w.heap.size + 1) 32 _ (0, 0) _ rfl HL.out.out Tryz.underlying32 rfl (by kernel_rfl)) rfl ⟨rfl, HL.out.below⟩
end Go.Proofs.YtkpigkopjfkepaaGreatDoor
