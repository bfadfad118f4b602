/- Fold of what was folded is itself: the walk of 'FoldAgainSaid'. Printed by wip/gen_foldagain.py. -/
import Derived.Test.YtnpnhdmfdhnmfaaGreatDoorFoldFold
import Derived.Test.YtnpnhdmfdhnmfaaGreatDoorAw14
import Derived.Test.YtnpnhdmfdhnmfaaGreatDoorArgs
import Derived.Test.YtnpnhdmfdhnmfaaGreatDoorRegion
namespace Go.Proofs.YtnpnhdmfdhnmfaaGreatDoor
open Go.RowKit

set_option maxRecDepth 100000 in
set_option maxHeartbeats 16000000 in
theorem foldAgain_walk (vr : Value) (raw : List LBlock) (hI : ∀ x ∈ raw, x.I) (w : World) (hsl : SlR w (· < w.heap.size) 5 (RBlock w (· < w.heap.size)) vr raw) :
    Calls Tryz.prog 9 #[vr] w fun e w' => e = .returned (.bool true) ∧ Below w.heap.size w w' := by
  obtain ⟨Ar, cr, hvr, _, _⟩ := hsl.val
  subst hvr
  have HAW := Lib.hid (awake14_any w)
  have HFIT := Lib.hid (fun (X : World) (hb : Below w.heap.size w X) => fit_u raw hI (.slice Ar raw.length cr) X (slr_at mono_block hsl hb))
  have huo := unit_fit raw
  generalize fitU raw = u at HFIT huo
  have HUO := Lib.hid huo
  have HFO := Lib.hid (fun (X : World) (A1 A2 : Option Addr) (c1 c2 : Nat) (h : UIn u X A1 A2 c1 c2) => fold_u HUO.out h)
  have hvo := fold_ok huo
  have hvv := foldE_again huo
  generalize foldE u = v at HFO hvo hvv
  have HVO := Lib.hid hvo
  have HFV := Lib.hid (fun (X : World) (A1 A2 : Option Addr) (c1 c2 : Nat) (h : UIn v X A1 A2 c1 c2) => fold_u HVO.out h)
  rw [hvv] at HFV
  clear hsl hI huo hvo hvv
  go_enter Tryz.func9, Tryz.ntmps9
  go_upto_region 3 with (first | (go_at_call 25; refine HAW.out.mono ?_; rintro e w2 ⟨rfl, hb2⟩) | (go_at_call 14; refine (HFIT.out _ hb2).mono ?_; rintro e w3 ⟨A1, A2, c1, c2, rfl, hb3, hui⟩) | (go_at_call 26; refine (HFO.out w3 A1 A2 c1 c2 hui).mono ?_; rintro e w4 ⟨B1, B2, d1, d2, rfl, hb4, hvi⟩))
  refine wp_world ?_
  intro W hW
  have hB4 : Below w.heap.size w w4 := (hb2.trans (hb3.mono hb2.size)).trans (hb4.mono (hb2.trans (hb3.mono hb2.size)).size)
  have hB : Below w.heap.size w W := by rw [← hW]; exact hB4.alloc hB4.size _
  have hV : Blk W w4.heap.size 27 #[.slice B1 v.arrays.length d1, .slice B2 v.flows.length d2] := by rw [← hW]; exact Blk.new w4 _ _
  have hvi4 : UIn v W B1 B2 d1 d2 := by rw [← hW]; exact hvi.below (below1 w4 _)
  have v0 : W.cell? ⟨w4.heap.size, 0, none⟩ = some (.slice B1 v.arrays.length d1) := hV.cell 0
  have v1 : W.cell? ⟨w4.heap.size, 1, none⟩ = some (.slice B2 v.flows.length d2) := hV.cell 1
  have HB := Lib.hid hB
  have HV := Lib.hid hV
  have HVI := Lib.hid hvi4
  clear hW hB4 hB hV hvi4 hvi hui hb2 hb3 hb4 HAW HFIT HFO
  go_upto_region 4 with (go_at_call 26; refine (HFV.out W B1 B2 d1 d2 HVI.out).mono ?_; rintro e w5 ⟨D1, D2, e1, e2, rfl, hb5, hvj⟩)
  refine wp_world ?_
  intro W6 hW6
  have hb6 : Below W.heap.size W W6 := by rw [← hW6]; exact hb5.alloc hb5.size _
  have hX : Blk W6 w5.heap.size 27 #[.slice D1 v.arrays.length e1, .slice D2 v.flows.length e2] := by rw [← hW6]; exact Blk.new w5 _ _
  have hvj6 : UIn v W6 D1 D2 e1 e2 := by rw [← hW6]; exact hvj.below (below1 w5 _)
  have hvi6 := HVI.out.below hb6
  have SO : Hid (∀ X, Below W6.heap.size W6 X → (fun w9 => w9.cell? ⟨w4.heap.size, 0, none⟩ = some (.slice B1 v.arrays.length d1) ∧ w9.cell? ⟨w4.heap.size, 1, none⟩ = some (.slice B2 v.flows.length d2) ∧ w9.cell? ⟨w5.heap.size, 0, none⟩ = some (.slice D1 v.arrays.length e1) ∧ w9.cell? ⟨w5.heap.size, 1, none⟩ = some (.slice D2 v.flows.length e2)) X) := Lib.hid (fun X hb => ⟨(blk_unit HV.out (hb6.trans (hb.mono hb6.size))).1, (blk_unit HV.out (hb6.trans (hb.mono hb6.size))).2, (blk_unit hX hb).1, (blk_unit hX hb).2⟩)
  have HSM := Lib.hid (fun (X : World) (hb : Below W6.heap.size W6 X) => same_u (hvi6.below hb) (hvj6.below hb))
  have HK1 := Lib.hid (fun (X : World) (hb : Below W6.heap.size W6 X) => known_u HVO.out (hvi6.below hb))
  have HK2 := Lib.hid (fun (X : World) (hb : Below W6.heap.size W6 X) => known_u HVO.out (hvj6.below hb))
  have HB6 := Lib.hid hb6
  generalize (knownA v : Int) = ka at *
  generalize (knownB v : Int) = kb at *
  clear hW6 hb5 hb6 hX hvj6 hvj hvi6 v0 v1
  refine wp_region_L (by kernel_rfl) 21 (fun w9 => w9.cell? ⟨w4.heap.size, 0, none⟩ = some (.slice B1 v.arrays.length d1) ∧ w9.cell? ⟨w4.heap.size, 1, none⟩ = some (.slice B2 v.flows.length d2) ∧ w9.cell? ⟨w5.heap.size, 0, none⟩ = some (.slice D1 v.arrays.length e1) ∧ w9.cell? ⟨w5.heap.size, 1, none⟩ = some (.slice D2 v.flows.length e2)) (SO.out _ (Below.refl _ _).drew) (fun hHeld => ?_)
  have HS0 := Lib.hid hHeld
  clear hHeld
  change wpAnyL _ _ _ _ _ 21 22 (Array.replicate 22 false) _ _
  refine takeL 0 20 (.bool true) HS0.out rfl rfl (by kernel_rfl) (by kernel_rfl) (by kernel_rfl) (by decide) (fun _ _ _ h => h) (by kernel_rfl) ?_ ?_
  · intro w2; go_simp
  try simp only [List.setIfInBounds_toArray, List.set_cons_zero, List.set_cons_succ]
  refine takeL 1 21 (.bool true) HS0.out rfl rfl (by kernel_rfl) (by kernel_rfl) (by kernel_rfl) (by decide) (fun _ _ _ h => h) (by kernel_rfl) ?_ ?_
  · intro w2; go_simp
  try simp only [List.setIfInBounds_toArray, List.set_cons_zero, List.set_cons_succ]
  refine takeL 2 22 (.int .i64 0) HS0.out rfl rfl (by kernel_rfl) (by kernel_rfl) (by kernel_rfl) (by decide) (fun _ _ _ h => h) (by kernel_rfl) ?_ ?_
  · intro w2; go_simp
  try simp only [List.setIfInBounds_toArray, List.set_cons_zero, List.set_cons_succ]
  refine takeL 3 23 (.bool true) HS0.out rfl rfl (by kernel_rfl) (by kernel_rfl) (by kernel_rfl) (by decide) (fun _ _ _ h => h) (by kernel_rfl) ?_ ?_
  · intro w2; go_simp
  try simp only [List.setIfInBounds_toArray, List.set_cons_zero, List.set_cons_succ]
  refine takeL 4 24 (.bool true) HS0.out rfl rfl (by kernel_rfl) (by kernel_rfl) (by kernel_rfl) (by decide) (fun _ _ _ h => h) (by kernel_rfl) ?_ ?_
  · intro w2; go_simp
  try simp only [List.setIfInBounds_toArray, List.set_cons_zero, List.set_cons_succ]
  refine takeL 5 25 (.bool true) HS0.out rfl rfl (by kernel_rfl) (by kernel_rfl) (by kernel_rfl) (by decide) (fun _ _ _ h => h) (by kernel_rfl) ?_ ?_
  · intro w2; go_simp
  try simp only [List.setIfInBounds_toArray, List.set_cons_zero, List.set_cons_succ]
  refine takeL 6 26 (.int .i64 0) HS0.out rfl rfl (by kernel_rfl) (by kernel_rfl) (by kernel_rfl) (by decide) (fun _ _ _ h => h) (by kernel_rfl) ?_ ?_
  · intro w2; go_simp
  try simp only [List.setIfInBounds_toArray, List.set_cons_zero, List.set_cons_succ]
  refine takeL 7 27 (.bool true) HS0.out rfl rfl (by kernel_rfl) (by kernel_rfl) (by kernel_rfl) (by decide) (fun _ _ _ h => h) (by kernel_rfl) ?_ ?_
  · intro w2; go_simp
  try simp only [List.setIfInBounds_toArray, List.set_cons_zero, List.set_cons_succ]
  refine takeL 8 28 (.bool true) HS0.out rfl rfl (by kernel_rfl) (by kernel_rfl) (by kernel_rfl) (by decide) (fun _ _ _ h => h) (by kernel_rfl) ?_ ?_
  · intro w2; go_simp
  try simp only [List.setIfInBounds_toArray, List.set_cons_zero, List.set_cons_succ]
  refine takeL 9 29 (.bool true) HS0.out rfl rfl (by kernel_rfl) (by kernel_rfl) (by kernel_rfl) (by decide) (fun _ _ _ h => h) (by kernel_rfl) ?_ ?_
  · intro w2; go_simp
  try simp only [List.setIfInBounds_toArray, List.set_cons_zero, List.set_cons_succ]
  refine takeL_S 10 30 (.agg #[.slice B1 v.arrays.length d1, .slice B2 v.flows.length d2]) [21] HS0.out rfl rfl (by kernel_rfl) (by kernel_rfl) (by kernel_rfl) (by decide) (by kernel_rfl) (fun _ _ _ h => h) (by kernel_rfl) ?_ ?_
  · intro w2 hSw; obtain ⟨g0, g1, g2, g3⟩ := hSw; go_simp
  try simp only [List.setIfInBounds_toArray, List.set_cons_zero, List.set_cons_succ]
  refine takeL_S 11 31 (.agg #[.slice D1 v.arrays.length e1, .slice D2 v.flows.length e2]) [21] HS0.out rfl rfl (by kernel_rfl) (by kernel_rfl) (by kernel_rfl) (by decide) (by kernel_rfl) (fun _ _ _ h => h) (by kernel_rfl) ?_ ?_
  · intro w2 hSw; obtain ⟨g0, g1, g2, g3⟩ := hSw; go_simp
  try simp only [List.setIfInBounds_toArray, List.set_cons_zero, List.set_cons_succ]
  refine wpAnyL_ready (rs := [12]) (by kernel_rfl) (by simp) ?_
  refine AllReadyL.cons rfl (fun K hK => ?_) AllReadyL.nil
  go_simp
  refine (HSM.out W6.drew (Below.refl _ _).drew).mono ?_
  rintro e X1 ⟨rfl, hx1⟩
  have HX1 : Hid (Below W6.heap.size W6 X1) := Lib.hid (Below.trans (Below.refl W6.heap.size W6).drew hx1)
  clear hx1
  refine hK.out _ _ (SO.out _ HX1.out) (fun hHeld => ?_)
  have HS1 := Lib.hid hHeld
  clear hK K hHeld
  try simp only [List.setIfInBounds_toArray, List.set_cons_zero, List.set_cons_succ]
  refine takeL 13 33 (.bool true) HS1.out rfl rfl (by kernel_rfl) (by kernel_rfl) (by kernel_rfl) (by decide) (fun _ _ _ h => h) (by kernel_rfl) ?_ ?_
  · intro w2; go_simp
  try simp only [List.setIfInBounds_toArray, List.set_cons_zero, List.set_cons_succ]
  refine takeL 14 34 (.bool true) HS1.out rfl rfl (by kernel_rfl) (by kernel_rfl) (by kernel_rfl) (by decide) (fun _ _ _ h => h) (by kernel_rfl) ?_ ?_
  · intro w2; go_simp
  try simp only [List.setIfInBounds_toArray, List.set_cons_zero, List.set_cons_succ]
  refine takeL_S 15 35 (.agg #[.slice B1 v.arrays.length d1, .slice B2 v.flows.length d2]) [21] HS1.out rfl rfl (by kernel_rfl) (by kernel_rfl) (by kernel_rfl) (by decide) (by kernel_rfl) (fun _ _ _ h => h) (by kernel_rfl) ?_ ?_
  · intro w2 hSw; obtain ⟨g0, g1, g2, g3⟩ := hSw; go_simp
  try simp only [List.setIfInBounds_toArray, List.set_cons_zero, List.set_cons_succ]
  refine takeL_S 17 37 (.agg #[.slice D1 v.arrays.length e1, .slice D2 v.flows.length e2]) [21] HS1.out rfl rfl (by kernel_rfl) (by kernel_rfl) (by kernel_rfl) (by decide) (by kernel_rfl) (fun _ _ _ h => h) (by kernel_rfl) ?_ ?_
  · intro w2 hSw; obtain ⟨g0, g1, g2, g3⟩ := hSw; go_simp
  try simp only [List.setIfInBounds_toArray, List.set_cons_zero, List.set_cons_succ]
  refine wpAnyL_ready (rs := [16]) (by kernel_rfl) (by simp) ?_
  refine AllReadyL.cons rfl (fun K hK => ?_) AllReadyL.nil
  go_simp
  refine (HK1.out X1 HX1.out).mono ?_
  rintro e X2 ⟨rfl, hx2⟩
  have HX2 : Hid (Below W6.heap.size W6 X2) := Lib.hid (HX1.out.trans (hx2.mono HX1.out.size))
  clear hx2
  refine hK.out _ _ (SO.out _ HX2.out) (fun hHeld => ?_)
  have HS2 := Lib.hid hHeld
  clear hK K hHeld
  try simp only [List.setIfInBounds_toArray, List.set_cons_zero, List.set_cons_succ]
  refine wpAnyL_ready (rs := [18]) (by kernel_rfl) (by simp) ?_
  refine AllReadyL.cons rfl (fun K hK => ?_) AllReadyL.nil
  go_simp
  refine (HK2.out X2 HX2.out).mono ?_
  rintro e X3 ⟨rfl, hx3⟩
  have HX3 : Hid (Below W6.heap.size W6 X3) := Lib.hid (HX2.out.trans (hx3.mono HX2.out.size))
  clear hx3
  refine hK.out _ _ (SO.out _ HX3.out) (fun hHeld => ?_)
  have HS3 := Lib.hid hHeld
  clear hK K hHeld
  try simp only [List.setIfInBounds_toArray, List.set_cons_zero, List.set_cons_succ]
  refine takeL 19 39 (.bool true) HS3.out rfl rfl (by kernel_rfl) (by kernel_rfl) (by kernel_rfl) (by decide) (fun _ _ _ h => h) (by kernel_rfl) ?_ ?_
  · intro w2; have heq := eqt ka kb w2; go_simp
  try simp only [List.setIfInBounds_toArray, List.set_cons_zero, List.set_cons_succ]
  refine takeL 20 40 (.bool true) HS3.out rfl rfl (by kernel_rfl) (by kernel_rfl) (by kernel_rfl) (by decide) (fun _ _ _ h => h) (by kernel_rfl) ?_ ?_
  · intro w2; go_simp
  try simp only [List.setIfInBounds_toArray, List.set_cons_zero, List.set_cons_succ]
  refine wpAnyL_ready (rs := [21]) (by kernel_rfl) (by simp) ?_
  refine AllReadyL.last rfl (by kernel_rfl) (fun K hK => ?_)
  go_simp
  refine hK.out _ _ ?_
  clear hK K
  try simp only [List.setIfInBounds_toArray, List.set_cons_zero, List.set_cons_succ]
  refine wpAnyL_done (by kernel_rfl) ?_ _
  go_wp2
  go_ret
  exact ⟨rfl, HB.out.trans ((HB6.out.trans (HX3.out.mono HB6.out.size)).mono HB.out.size)⟩
end Go.Proofs.YtnpnhdmfdhnmfaaGreatDoor
