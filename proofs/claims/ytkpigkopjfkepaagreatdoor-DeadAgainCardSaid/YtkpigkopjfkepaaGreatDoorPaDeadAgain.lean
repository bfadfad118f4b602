/- Dead of what Dead made is itself; it is no greater than it was: the walk of 'DeadAgainSaid'. Printed by wip/gen_deadagain.py. -/
import Derived.Test.YtkpigkopjfkepaaGreatDoorPaAw15
import Derived.Test.YtkpigkopjfkepaaGreatDoorPaArgs
import Derived.Test.YtkpigkopjfkepaaGreatDoorPaRegion
namespace Go.Proofs.YtkpigkopjfkepaaGreatDoor
open Go.RowKit

theorem small_fit (raw : List LBlock) : SmallU (fitU raw) := fun f hf => by
  obtain ⟨k, _, rfl⟩ := mem_fit hf
  exact ⟨by have := fit_le raw k; omega, fun b hb => by have := fit_ins raw k b hb; omega⟩
/-- Dead's answer, with the lengths of what it was made of -/
theorem dead_v {u v : LUnit} (hv : deadE u = v) {X : World} {A1 A2 : Option Addr} {c1 c2 : Nat} (hu : UnitOk u) (hs : SmallU u) (h : UIn u X A1 A2 c1 c2) :
    Calls Tryz.prog 10 #[.agg #[.slice A1 u.arrays.length c1, .slice A2 u.flows.length c2]] X fun e w' => ∃ B1 B2 d1 d2, e = .returned (.tuple #[.agg #[.slice B1 v.arrays.length d1, .slice B2 v.flows.length d2], .int .i64 0]) ∧ Below X.heap.size X w' ∧ UIn v w' B1 B2 d1 d2 := by
  refine (dead_u hu hs h).mono ?_
  rintro e w' ⟨B1, B2, d1, d2, rfl, hb, hv'⟩
  subst hv
  have hl : (deadE u).flows.length = u.flows.length := List.length_map _
  exact ⟨B1, B2, d1, d2, by rw [hl]; rfl, hb, hv'⟩
set_option maxRecDepth 100000 in
set_option maxHeartbeats 16000000 in
theorem deadAgain_walk (vr : Value) (raw : List LBlock) (hI : ∀ x ∈ raw, x.I) (w : World) (hsl : SlR w (· < w.heap.size) 5 (RBlock w (· < w.heap.size)) vr raw) :
    Calls Tryz.prog 3 #[vr] w fun e w' => e = .returned (.bool true) ∧ Below w.heap.size w w' := by
  obtain ⟨Ar, cr, hvr, _, _⟩ := hsl.val
  subst hvr
  have HAW := Lib.hid (awake15_any w)
  have HFIT := Lib.hid (fun (X : World) (hb : Below w.heap.size w X) => fit_u raw hI (.slice Ar raw.length cr) X (slr_at mono_block hsl hb))
  have huo := unit_fit raw
  have hus := small_fit raw
  generalize fitU raw = u at HFIT huo hus
  have hfl := huo.fls
  obtain ⟨v, hv⟩ : ∃ v, v = deadE u := ⟨_, rfl⟩
  have HD1 := Lib.hid (fun (X : World) (A1 A2 : Option Addr) (c1 c2 : Nat) (h : UIn u X A1 A2 c1 c2) => dead_v hv.symm huo hus h)
  have hvo : UnitOk v := by rw [hv]; exact dead_ok huo
  have hvs : SmallU v := by rw [hv]; exact small_dead hus
  have hvv : deadE v = v := by rw [hv]; exact deadE_again huo
  have hvl : v.flows.length = u.flows.length := by rw [hv]; exact List.length_map _
  have hsz := dead_sizes huo
  rw [← hv] at hsz
  have HD2 := Lib.hid (fun (X : World) (A1 A2 : Option Addr) (c1 c2 : Nat) (h : UIn v X A1 A2 c1 c2) => dead_v hvv hvo hvs h)
  have HCK := Lib.hid (fun (X : World) (A1 A2 : Option Addr) (c1 c2 : Nat) (h : UIn v X A1 A2 c1 c2) => check_u hvo h)
  have HS1 := Lib.hid (fun (X : World) (A1 A2 : Option Addr) (c1 c2 : Nat) (h : UIn u X A1 A2 c1 c2) => size_u hus (by omega) h)
  have HS2 := Lib.hid (fun (X : World) (A1 A2 : Option Addr) (c1 c2 : Nat) (h : UIn v X A1 A2 c1 c2) => size_u hvs (by omega) h)
  have d1 : sizeI v ≤ sizeI u := hsz.1
  have d2 : sizeB v ≤ sizeB u := hsz.2.1
  have d3 : v.flows.length ≤ sizeB v := by rw [hvl]; have := hsz.2.2; rw [hvl] at this; exact this
  generalize sizeI u = iu at *
  generalize sizeI v = iv at *
  generalize sizeB u = bu at *
  generalize sizeB v = bv at *
  clear hsl hI huo hus hvo hvs hvv hv hvl hsz
  go_enter Tryz.func3, Tryz.ntmps3
  go_upto_region 3 with (first | (go_at_call 8; refine HAW.out.mono ?_; rintro e w2 ⟨rfl, hb2⟩) | (go_at_call 9; refine (HFIT.out _ hb2).mono ?_; rintro e w3 ⟨A1, A2, c1, c2, rfl, hb3, hui⟩))
  refine wp_world ?_
  intro W hW
  have hB3 : Below w.heap.size w w3 := hb2.trans (hb3.mono hb2.size)
  have hB : Below w.heap.size w W := by rw [← hW]; exact hB3.alloc hB3.size _
  have hU : Blk W w3.heap.size 27 #[.slice A1 u.arrays.length c1, .slice A2 u.flows.length c2] := by rw [← hW]; exact Blk.new w3 _ _
  have hui3 : UIn u W A1 A2 c1 c2 := by rw [← hW]; exact hui.below (below1 w3 _)
  have v0 : W.cell? ⟨w3.heap.size, 0, none⟩ = some (.slice A1 u.arrays.length c1) := hU.cell 0
  have v1 : W.cell? ⟨w3.heap.size, 1, none⟩ = some (.slice A2 u.flows.length c2) := hU.cell 1
  have HB := Lib.hid hB
  have HU := Lib.hid hU
  have HUI := Lib.hid hui3
  clear hW hB3 hB hU hui3 hui hb2 hb3 HAW HFIT
  go_upto_region 4 with (go_at_call 10; refine (HD1.out W A1 A2 c1 c2 HUI.out).mono ?_; rintro e w5 ⟨B1, B2, d4, d5, rfl, hb5, hvi⟩)
  refine wp_world ?_
  intro W5 hW5
  have hb51 : Below w5.heap.size w5 W5 := by rw [← hW5]; exact below1 _ _
  have hB5 : Below W.heap.size W W5 := by rw [← hW5]; exact hb5.alloc hb5.size _
  have hV : Blk W5 w5.heap.size 27 #[.slice B1 v.arrays.length d4, .slice B2 v.flows.length d5] := by rw [← hW5]; exact Blk.new w5 _ _
  have hvi5 := hvi.below hb51
  have v2 : W5.cell? ⟨w5.heap.size, 0, none⟩ = some (.slice B1 v.arrays.length d4) := hV.cell 0
  have v3 : W5.cell? ⟨w5.heap.size, 1, none⟩ = some (.slice B2 v.flows.length d5) := hV.cell 1
  have HB5 := Lib.hid hB5
  have HV := Lib.hid hV
  have HVI := Lib.hid hvi5
  have hs5 := hB5.size
  clear hW5 hb51 hB5 hV hvi5 hvi hb5 v0 v1 HD1
  go_upto_region 5 with (go_at_call 10; refine (HD2.out W5 B1 B2 d4 d5 HVI.out).mono ?_; rintro e w7 ⟨C1, C2, d6, d7, rfl, hb7, hwi⟩)
  refine wp_world ?_
  intro W7 hW7
  have hb71 : Below w7.heap.size w7 W7 := by rw [← hW7]; exact below1 _ _
  have hB7 : Below W5.heap.size W5 W7 := by rw [← hW7]; exact hb7.alloc hb7.size _
  have hT : Blk W7 w7.heap.size 27 #[.slice C1 v.arrays.length d6, .slice C2 v.flows.length d7] := by rw [← hW7]; exact Blk.new w7 _ _
  have hwi7 := hwi.below hb71
  obtain ⟨v4, v5⟩ := blk_unit HV.out hB7
  have HB7 := Lib.hid hB7
  have HT := Lib.hid hT
  have HWI := Lib.hid hwi7
  have HVI7 := Lib.hid (HVI.out.below hB7)
  have hs7 := hB7.size
  clear hW7 hb71 hB7 hT hwi7 hwi hb7 v2 v3 HD2
  go_upto_region 6 with (go_at_call 11; refine (HCK.out W7 B1 B2 d4 d5 HVI7.out).mono ?_; rintro e w9 ⟨rfl, hb9⟩)
  refine wp_world ?_
  intro W9 hW9
  have hB9 : Below W7.heap.size W7 W9 := by rw [← hW9]; exact hb9.alloc hb9.size _
  have hB59 := HB7.out.trans (hB9.mono HB7.out.size)
  have hB09 := HB5.out.trans (hB59.mono HB5.out.size)
  obtain ⟨v6, v7⟩ := blk_unit HU.out hB09
  have HB9 := Lib.hid hB9
  have HUI9 := Lib.hid (HUI.out.below hB09)
  have hs9 := hB9.size
  clear hW9 hb9 hB9 hB59 hB09 v4 v5 HCK
  go_upto_region 7 with (go_at_call 12; refine (HS1.out W9 A1 A2 c1 c2 HUI9.out).mono ?_; rintro e w10 ⟨rfl, hb10⟩)
  refine wp_world ?_
  intro W10 hW10
  have hB10 : Below W9.heap.size W9 W10 := by rw [← hW10]; exact hb10.alloc hb10.size _
  have hP : Blk W10 w10.heap.size 32 #[.int .i64 (iu : Int), .int .i64 (bu : Int)] := by rw [← hW10]; exact Blk.new w10 _ _
  have hB710 := HB9.out.trans (hB10.mono HB9.out.size)
  have hB510 := HB7.out.trans (hB710.mono HB7.out.size)
  obtain ⟨v8, v9⟩ := blk_unit HV.out hB510
  have HB710 := Lib.hid hB710
  have HP := Lib.hid hP
  have HVI10 := Lib.hid (HVI.out.below hB510)
  have hs10 := hB10.size
  clear hW10 hb10 hB10 hP hB710 hB510 v6 v7 HS1
  go_upto_region 8 with (go_at_call 12; refine (HS2.out W10 B1 B2 d4 d5 HVI10.out).mono ?_; rintro e w11 ⟨rfl, hb11⟩)
  refine wp_world ?_
  intro W11 hW11
  have hB11 : Below W10.heap.size W10 W11 := by rw [← hW11]; exact hb11.alloc hb11.size _
  have hQ : Blk W11 w11.heap.size 32 #[.int .i64 (iv : Int), .int .i64 (bv : Int)] := by rw [← hW11]; exact Blk.new w11 _ _
  have hP11 := HP.out.below hB11 HP.out.lt
  have hB711 := HB710.out.trans (hB11.mono HB710.out.size)
  have hB511 := HB7.out.trans (hB711.mono HB7.out.size)
  have hB011 := HB5.out.trans (hB511.mono HB5.out.size)
  obtain ⟨x0, x1⟩ := blk_unit HV.out hB511
  obtain ⟨y0, y1⟩ := blk_unit HT.out hB711
  have HSM := Lib.hid (same_u (HVI.out.below hB511) (HWI.out.below hB711))
  have HQ := Lib.hid hQ
  have HP11 := Lib.hid hP11
  have HV11 := Lib.hid (HV.out.below hB511 HV.out.lt)
  have hbw := HB.out.trans (hB011.mono HB.out.size)
  have HBW := Lib.hid hbw
  clear hW11 hb11 hB11 hQ hP11 hB711 hB511 hB011 hbw v8 v9 HS2
  refine wp_region_lit ?_
  refine takeP 35 (.bool true) rfl (by kernel_rfl) (by go_simp) ?_
  simp only [List.setIfInBounds_toArray, List.set_cons_zero, List.set_cons_succ]
  refine takeP 36 (.bool true) rfl (by kernel_rfl) (by go_simp) ?_
  simp only [List.setIfInBounds_toArray, List.set_cons_zero, List.set_cons_succ]
  refine takeP 37 (.int .i64 0) rfl (by kernel_rfl) (by go_simp) ?_
  simp only [List.setIfInBounds_toArray, List.set_cons_zero, List.set_cons_succ]
  refine takeP 38 (.bool true) rfl (by kernel_rfl) (by go_simp) ?_
  simp only [List.setIfInBounds_toArray, List.set_cons_zero, List.set_cons_succ]
  refine takeP 39 (.bool true) rfl (by kernel_rfl) (by go_simp) ?_
  simp only [List.setIfInBounds_toArray, List.set_cons_zero, List.set_cons_succ]
  refine takeP 40 (.bool true) rfl (by kernel_rfl) (by go_simp) ?_
  simp only [List.setIfInBounds_toArray, List.set_cons_zero, List.set_cons_succ]
  refine takeP 41 (.int .i64 0) rfl (by kernel_rfl) (by go_simp) ?_
  simp only [List.setIfInBounds_toArray, List.set_cons_zero, List.set_cons_succ]
  refine takeP 42 (.bool true) rfl (by kernel_rfl) (by go_simp) ?_
  simp only [List.setIfInBounds_toArray, List.set_cons_zero, List.set_cons_succ]
  refine takeP 43 (.bool true) rfl (by kernel_rfl) (by go_simp) ?_
  simp only [List.setIfInBounds_toArray, List.set_cons_zero, List.set_cons_succ]
  refine takeP 44 (.bool true) rfl (by kernel_rfl) (by go_simp) ?_
  simp only [List.setIfInBounds_toArray, List.set_cons_zero, List.set_cons_succ]
  refine takeP 45 (.int .i64 0) rfl (by kernel_rfl) (by go_simp) ?_
  simp only [List.setIfInBounds_toArray, List.set_cons_zero, List.set_cons_succ]
  refine takeP 46 (.bool true) rfl (by kernel_rfl) (by go_simp) ?_
  simp only [List.setIfInBounds_toArray, List.set_cons_zero, List.set_cons_succ]
  refine takeP 47 (.bool true) rfl (by kernel_rfl) (by go_simp) ?_
  simp only [List.setIfInBounds_toArray, List.set_cons_zero, List.set_cons_succ]
  refine takeP 48 (.bool true) rfl (by kernel_rfl) (by go_simp) ?_
  simp only [List.setIfInBounds_toArray, List.set_cons_zero, List.set_cons_succ]
  refine takeP 49 (.agg #[.slice B1 v.arrays.length d4, .slice B2 v.flows.length d5]) rfl (by kernel_rfl) (by go_simp) ?_
  simp only [List.setIfInBounds_toArray, List.set_cons_zero, List.set_cons_succ]
  refine takeP 50 (.agg #[.slice C1 v.arrays.length d6, .slice C2 v.flows.length d7]) rfl (by kernel_rfl) (by go_simp) ?_
  simp only [List.setIfInBounds_toArray, List.set_cons_zero, List.set_cons_succ]
  refine stepP (by kernel_rfl) (fun K hK => ?_)
  go_simp
  refine HSM.out.mono ?_
  rintro e ws ⟨rfl, hbs⟩
  have q0 : ws.cell? ⟨w11.heap.size, 0, none⟩ = some (.int .i64 (iv : Int)) := (HQ.out.below hbs HQ.out.lt).cell 0
  have q1 : ws.cell? ⟨w11.heap.size, 1, none⟩ = some (.int .i64 (bv : Int)) := (HQ.out.below hbs HQ.out.lt).cell 1
  have p0 : ws.cell? ⟨w10.heap.size, 0, none⟩ = some (.int .i64 (iu : Int)) := (HP11.out.below hbs HP11.out.lt).cell 0
  have p1 : ws.cell? ⟨w10.heap.size, 1, none⟩ = some (.int .i64 (bu : Int)) := (HP11.out.below hbs HP11.out.lt).cell 1
  have z1 : ws.cell? ⟨w5.heap.size, 1, none⟩ = some (.slice B2 v.flows.length d5) := (HV11.out.below hbs HV11.out.lt).cell 1
  refine hK.out _ _ ?_
  clear hK K
  try simp only [List.setIfInBounds_toArray, List.set_cons_zero, List.set_cons_succ]
  refine takeP 52 (.bool true) rfl (by kernel_rfl) (by go_simp) ?_
  simp only [List.setIfInBounds_toArray, List.set_cons_zero, List.set_cons_succ]
  refine takeP 53 (.bool true) rfl (by kernel_rfl) (by go_simp) ?_
  simp only [List.setIfInBounds_toArray, List.set_cons_zero, List.set_cons_succ]
  refine takeP 54 (.pointer (some ⟨w11.heap.size, 0, none⟩)) rfl (by kernel_rfl) (by go_simp) ?_
  simp only [List.setIfInBounds_toArray, List.set_cons_zero, List.set_cons_succ]
  refine takeP 55 (.int .i64 (iv : Int)) rfl (by kernel_rfl) (by go_simp) ?_
  simp only [List.setIfInBounds_toArray, List.set_cons_zero, List.set_cons_succ]
  refine takeP 56 (.pointer (some ⟨w10.heap.size, 0, none⟩)) rfl (by kernel_rfl) (by go_simp) ?_
  simp only [List.setIfInBounds_toArray, List.set_cons_zero, List.set_cons_succ]
  refine takeP 57 (.int .i64 (iu : Int)) rfl (by kernel_rfl) (by go_simp) ?_
  simp only [List.setIfInBounds_toArray, List.set_cons_zero, List.set_cons_succ]
  refine takeP 58 (.bool true) rfl (by kernel_rfl) (by go_simp) ?_
  simp only [List.setIfInBounds_toArray, List.set_cons_zero, List.set_cons_succ]
  refine takeP 59 (.bool true) rfl (by kernel_rfl) (by go_simp) ?_
  simp only [List.setIfInBounds_toArray, List.set_cons_zero, List.set_cons_succ]
  refine takeP 60 (.bool true) rfl (by kernel_rfl) (by go_simp) ?_
  simp only [List.setIfInBounds_toArray, List.set_cons_zero, List.set_cons_succ]
  refine takeP 61 (.pointer (some ⟨w11.heap.size, 1, none⟩)) rfl (by kernel_rfl) (by go_simp) ?_
  simp only [List.setIfInBounds_toArray, List.set_cons_zero, List.set_cons_succ]
  refine takeP 62 (.int .i64 (bv : Int)) rfl (by kernel_rfl) (by go_simp) ?_
  simp only [List.setIfInBounds_toArray, List.set_cons_zero, List.set_cons_succ]
  refine takeP 63 (.pointer (some ⟨w10.heap.size, 1, none⟩)) rfl (by kernel_rfl) (by go_simp) ?_
  simp only [List.setIfInBounds_toArray, List.set_cons_zero, List.set_cons_succ]
  refine takeP 64 (.int .i64 (bu : Int)) rfl (by kernel_rfl) (by go_simp) ?_
  simp only [List.setIfInBounds_toArray, List.set_cons_zero, List.set_cons_succ]
  refine takeP 65 (.bool true) rfl (by kernel_rfl) (by go_simp) ?_
  simp only [List.setIfInBounds_toArray, List.set_cons_zero, List.set_cons_succ]
  refine takeP 66 (.bool true) rfl (by kernel_rfl) (by go_simp) ?_
  simp only [List.setIfInBounds_toArray, List.set_cons_zero, List.set_cons_succ]
  refine takeP 67 (.bool true) rfl (by kernel_rfl) (by go_simp) ?_
  simp only [List.setIfInBounds_toArray, List.set_cons_zero, List.set_cons_succ]
  refine takeP 68 (.pointer (some ⟨w11.heap.size, 1, none⟩)) rfl (by kernel_rfl) (by go_simp) ?_
  simp only [List.setIfInBounds_toArray, List.set_cons_zero, List.set_cons_succ]
  refine takeP 69 (.int .i64 (bv : Int)) rfl (by kernel_rfl) (by go_simp) ?_
  simp only [List.setIfInBounds_toArray, List.set_cons_zero, List.set_cons_succ]
  refine takeP 70 (.pointer (some ⟨w5.heap.size, 1, none⟩)) rfl (by kernel_rfl) (by go_simp) ?_
  simp only [List.setIfInBounds_toArray, List.set_cons_zero, List.set_cons_succ]
  refine takeP 71 (.slice B2 v.flows.length d5) rfl (by kernel_rfl) (by go_simp) ?_
  simp only [List.setIfInBounds_toArray, List.set_cons_zero, List.set_cons_succ]
  refine takeP 72 (.int .i64 (v.flows.length : Int)) rfl (by kernel_rfl) (by go_simp) ?_
  simp only [List.setIfInBounds_toArray, List.set_cons_zero, List.set_cons_succ]
  refine takeP 73 (.bool true) rfl (by kernel_rfl) (by go_simp) ?_
  simp only [List.setIfInBounds_toArray, List.set_cons_zero, List.set_cons_succ]
  refine takeP 74 (.bool true) rfl (by kernel_rfl) (by go_simp) ?_
  simp only [List.setIfInBounds_toArray, List.set_cons_zero, List.set_cons_succ]
  refine takeP 2 (.bool true) rfl (by kernel_rfl) (by go_simp) ?_
  simp only [List.setIfInBounds_toArray, List.set_cons_zero, List.set_cons_succ]
  refine wpList_nil ?_
  go_wp2
  go_ret
  exact ⟨rfl, HBW.out.trans (hbs.mono HBW.out.size)⟩
end Go.Proofs.YtkpigkopjfkepaaGreatDoor
