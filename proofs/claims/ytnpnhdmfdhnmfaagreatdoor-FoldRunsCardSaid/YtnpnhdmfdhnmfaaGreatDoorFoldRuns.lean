/- What a folded unit does is what the unit did, step by step: the walk of 'FoldRunsSaid'. Printed by wip/gen_foldruns.py. -/
import Derived.Test.YtnpnhdmfdhnmfaaGreatDoorFoldFold
import Derived.Test.YtnpnhdmfdhnmfaaGreatDoorAw14
import Derived.Test.YtnpnhdmfdhnmfaaGreatDoorFoldRun
import Derived.Test.YtnpnhdmfdhnmfaaGreatDoorAw11
import Derived.Test.YtnpnhdmfdhnmfaaGreatDoorArgs
import Derived.Test.YtnpnhdmfdhnmfaaGreatDoorRegion
namespace Go.Proofs.YtnpnhdmfdhnmfaaGreatDoor
open Go.RowKit

theorem run_u {u : LUnit} (hu : UnitOk u) {m : MRun} {inp : List Int} {n : Nat} (hn : n ≤ 20000) {X : World} {A1 A2 : Option Addr} {c1 c2 : Nat} (h : UIn u X A1 A2 c1 c2) {vin : Value} (hin : SlR X (· < X.heap.size) 1 RInt vin inp) (h1 : (runU u inp n).status = m.status) (h2 : (runU u inp n).code = m.code) (h3 : (runU u inp n).out = m.out) (h4 : (runU u inp n).steps = m.steps) :
    Calls Tryz.prog 30 #[.agg #[.slice A1 u.arrays.length c1, .slice A2 u.flows.length c2], vin, .int .i64 (n : Int)] X fun e X' => ∃ A c, e = .returned (.agg #[.int .i64 m.status, .int .i64 m.code, .slice A m.out.length c, .int .i64 m.steps]) ∧ Below X.heap.size X X' ∧ SlR X' (· < X'.heap.size) 1 RInt (.slice A m.out.length c) m.out := by
  refine (run_any u hu inp n hn A1 A2 c1 c2 vin X h.arr h.flo hin).mono ?_
  rintro e X' ⟨vout, he, hb, ho⟩
  rw [h1, h2, h4] at he
  rw [h3] at ho
  obtain ⟨A, c, hv⟩ := own_form ho
  subst hv
  exact ⟨A, c, he, hb, slr_of_own ho⟩
set_option maxRecDepth 100000 in
set_option maxHeartbeats 16000000 in
theorem foldRuns_walk (vr vin : Value) (steps : Int) (raw : List LBlock) (hI : ∀ x ∈ raw, x.I) (inp : List Int) (_hlen : (inp.length + 0) * 8 ≤ 140737488355328) (w : World) (hsl : SlR w (· < w.heap.size) 5 (RBlock w (· < w.heap.size)) vr raw) (hin : SlR w (· < w.heap.size) 1 RInt vin inp) (ws : (Lit.int .i64 steps).wf = true) :
    Calls Tryz.prog 11 #[vr, vin, .int .i64 steps] w fun e w' => e = .returned (.bool true) ∧ Below w.heap.size w w' := by
  obtain ⟨Ar, cr, hvr, _, _⟩ := hsl.val
  obtain ⟨Ai, ci, hvi, _, _⟩ := hin.val
  subst hvr hvi
  obtain ⟨jo, jo'⟩ := i64_of_wf ws
  have HAW := Lib.hid (awake14_any w)
  have HFIT := Lib.hid (fun (X : World) (hb : Below w.heap.size w X) => fit_u raw hI (.slice Ar raw.length cr) X (slr_at mono_block hsl hb))
  have HPS := Lib.hid (fun w2 => pick14_any steps 401 jo jo' (by omega) w2)
  have p0 := pk_lo steps 401 (by omega)
  have p1 := pk_hi steps 401 (by omega)
  generalize pk steps 401 = nn at *
  obtain ⟨n, rfl⟩ := Int.eq_ofNat_of_zero_le p0
  have hn : n ≤ 20000 := by omega
  have huo := unit_fit raw
  generalize fitU raw = u at HFIT huo
  have HUO := Lib.hid huo
  have HFO := Lib.hid (fun (X : World) (A1 A2 : Option Addr) (c1 c2 : Nat) (h : UIn u X A1 A2 c1 c2) => fold_u HUO.out h)
  have hvo := fold_ok huo
  have hrr := fold_run huo inp n
  obtain ⟨m, hm⟩ : ∃ m, m = runU u inp n := ⟨_, rfl⟩
  rw [← hm] at hrr
  have HM := Lib.hid hm
  generalize foldE u = v at HFO hvo hrr
  have HVO := Lib.hid hvo
  have HRR := Lib.hid hrr
  have HIN := Lib.hid (fun (X : World) (hb : Below w.heap.size w X) => (hb_slr hin hb : SlR X (· < X.heap.size) 1 RInt (.slice Ai inp.length ci) inp))
  clear hsl hI huo hvo hrr hm hin p0 p1
  go_enter Tryz.func11, Tryz.ntmps11
  go_upto_region 3 with (first | (go_at_call 25; refine HAW.out.mono ?_; rintro e w2 ⟨rfl, hb2⟩) | (go_at_call 14; refine (HFIT.out _ hb2).mono ?_; rintro e w3 ⟨A1, A2, c1, c2, rfl, hb3, hui⟩))
  refine wp_world ?_
  intro W hW
  have hB3 : Below w.heap.size w w3 := hb2.trans (hb3.mono hb2.size)
  have hB : Below w.heap.size w W := by rw [← hW]; exact hB3.alloc hB3.size _
  have hU : Blk W w3.heap.size 27 #[.slice A1 u.arrays.length c1, .slice A2 u.flows.length c2] := by rw [← hW]; exact Blk.new w3 _ _
  have hui3 : UIn u W A1 A2 c1 c2 := by rw [← hW]; exact hui.below (below1 w3 _)
  have v0 : W.cell? ⟨w3.heap.size, 0, none⟩ = some (.slice A1 u.arrays.length c1) := hU.cell 0
  have v1 : W.cell? ⟨w3.heap.size, 1, none⟩ = some (.slice A2 u.flows.length c2) := hU.cell 1
  have HB := Lib.hid hB
  have HU := Lib.hid hU
  have HUI := Lib.hid hui3
  clear hW hB3 hB hU hui3 hui hb2 hb3 HAW HFIT
  go_upto_region 4 with (go_at_call 26; refine (HFO.out W A1 A2 c1 c2 HUI.out).mono ?_; rintro e w5 ⟨D1, D2, e1, e2, rfl, hb5, hvj⟩)
  refine wp_world ?_
  intro W6 hW6
  have hb6 : Below W.heap.size W W6 := by rw [← hW6]; exact hb5.alloc hb5.size _
  have hX : Blk W6 w5.heap.size 27 #[.slice D1 v.arrays.length e1, .slice D2 v.flows.length e2] := by rw [← hW6]; exact Blk.new w5 _ _
  have hvj6 : UIn v W6 D1 D2 e1 e2 := by rw [← hW6]; exact hvj.below (below1 w5 _)
  have hui6 := HUI.out.below hb6
  have SO : Hid (∀ X, Below W6.heap.size W6 X → (fun w9 => w9.cell? ⟨w3.heap.size, 0, none⟩ = some (.slice A1 u.arrays.length c1) ∧ w9.cell? ⟨w3.heap.size, 1, none⟩ = some (.slice A2 u.flows.length c2) ∧ w9.cell? ⟨w5.heap.size, 0, none⟩ = some (.slice D1 v.arrays.length e1) ∧ w9.cell? ⟨w5.heap.size, 1, none⟩ = some (.slice D2 v.flows.length e2)) X) := Lib.hid (fun X hb => ⟨(blk_unit HU.out (hb6.trans (hb.mono hb6.size))).1, (blk_unit HU.out (hb6.trans (hb.mono hb6.size))).2, (blk_unit hX hb).1, (blk_unit hX hb).2⟩)
  have hbw : Below w.heap.size w W6 := HB.out.trans (hb6.mono HB.out.size)
  have HBW := Lib.hid hbw
  have HR1 := Lib.hid (fun (X : World) (hb : Below W6.heap.size W6 X) => run_u (m := m) HUO.out hn (hui6.below hb) (HIN.out X (hbw.trans (hb.mono hbw.size))) (by rw [HM.out]) (by rw [HM.out]) (by rw [HM.out]) (by rw [HM.out]))
  have HR2 := Lib.hid (fun (X : World) (hb : Below W6.heap.size W6 X) => run_u (m := m) HVO.out hn (hvj6.below hb) (HIN.out X (hbw.trans (hb.mono hbw.size))) (by rw [HRR.out]; rfl) (by rw [HRR.out]; rfl) (by rw [HRR.out]; rfl) (by rw [HRR.out]; rfl))
  have HSM := Lib.hid (fun (X : World) (va vb : Value) (ha : SlR X (· < X.heap.size) 1 RInt va m.out) (hb : SlR X (· < X.heap.size) 1 RInt vb m.out) => same_true m.status m.code m.steps m.out va vb X ha hb)
  clear hW6 hb5 hb6 hX hvj6 hvj hui6 v0 v1 hbw
  go_upto_region 5 with (go_at_call 28; refine (HPS.out _).mono ?_; rintro e w' ⟨rfl, rfl⟩)
  refine wp_region_L (by kernel_rfl) 16 (fun w9 => w9.cell? ⟨w3.heap.size, 0, none⟩ = some (.slice A1 u.arrays.length c1) ∧ w9.cell? ⟨w3.heap.size, 1, none⟩ = some (.slice A2 u.flows.length c2) ∧ w9.cell? ⟨w5.heap.size, 0, none⟩ = some (.slice D1 v.arrays.length e1) ∧ w9.cell? ⟨w5.heap.size, 1, none⟩ = some (.slice D2 v.flows.length e2)) (SO.out _ (Below.refl _ _).drew) (fun hHeld => ?_)
  have HS0 := Lib.hid hHeld
  clear hHeld
  change wpAnyL _ _ _ _ _ 16 17 (Array.replicate 17 false) _ _
  refine takeL 0 22 (.bool true) HS0.out rfl rfl (by kernel_rfl) (by kernel_rfl) (by kernel_rfl) (by decide) (fun _ _ _ h => h) (by kernel_rfl) ?_ ?_
  · intro w2; go_simp
  try simp only [List.setIfInBounds_toArray, List.set_cons_zero, List.set_cons_succ]
  refine takeL 1 23 (.bool true) HS0.out rfl rfl (by kernel_rfl) (by kernel_rfl) (by kernel_rfl) (by decide) (fun _ _ _ h => h) (by kernel_rfl) ?_ ?_
  · intro w2; go_simp
  try simp only [List.setIfInBounds_toArray, List.set_cons_zero, List.set_cons_succ]
  refine takeL 2 24 (.int .i64 0) HS0.out rfl rfl (by kernel_rfl) (by kernel_rfl) (by kernel_rfl) (by decide) (fun _ _ _ h => h) (by kernel_rfl) ?_ ?_
  · intro w2; go_simp
  try simp only [List.setIfInBounds_toArray, List.set_cons_zero, List.set_cons_succ]
  refine takeL 3 25 (.bool true) HS0.out rfl rfl (by kernel_rfl) (by kernel_rfl) (by kernel_rfl) (by decide) (fun _ _ _ h => h) (by kernel_rfl) ?_ ?_
  · intro w2; go_simp
  try simp only [List.setIfInBounds_toArray, List.set_cons_zero, List.set_cons_succ]
  refine takeL 4 26 (.bool true) HS0.out rfl rfl (by kernel_rfl) (by kernel_rfl) (by kernel_rfl) (by decide) (fun _ _ _ h => h) (by kernel_rfl) ?_ ?_
  · intro w2; go_simp
  try simp only [List.setIfInBounds_toArray, List.set_cons_zero, List.set_cons_succ]
  refine takeL 5 27 (.bool true) HS0.out rfl rfl (by kernel_rfl) (by kernel_rfl) (by kernel_rfl) (by decide) (fun _ _ _ h => h) (by kernel_rfl) ?_ ?_
  · intro w2; go_simp
  try simp only [List.setIfInBounds_toArray, List.set_cons_zero, List.set_cons_succ]
  refine takeL_S 6 28 (.agg #[.slice A1 u.arrays.length c1, .slice A2 u.flows.length c2]) [16] HS0.out rfl rfl (by kernel_rfl) (by kernel_rfl) (by kernel_rfl) (by decide) (by kernel_rfl) (fun _ _ _ h => h) (by kernel_rfl) ?_ ?_
  · intro w2 hSw; obtain ⟨g0, g1, g2, g3⟩ := hSw; go_simp
  try simp only [List.setIfInBounds_toArray, List.set_cons_zero, List.set_cons_succ]
  refine takeL 7 29 (.slice Ai inp.length ci) HS0.out rfl rfl (by kernel_rfl) (by kernel_rfl) (by kernel_rfl) (by decide) (fun _ _ _ h => h) (by kernel_rfl) ?_ ?_
  · intro w2; go_simp
  try simp only [List.setIfInBounds_toArray, List.set_cons_zero, List.set_cons_succ]
  refine takeL 8 30 (.int .i64 (n : Int)) HS0.out rfl rfl (by kernel_rfl) (by kernel_rfl) (by kernel_rfl) (by decide) (fun _ _ _ h => h) (by kernel_rfl) ?_ ?_
  · intro w2; go_simp
  try simp only [List.setIfInBounds_toArray, List.set_cons_zero, List.set_cons_succ]
  refine takeL_S 10 32 (.agg #[.slice D1 v.arrays.length e1, .slice D2 v.flows.length e2]) [16] HS0.out rfl rfl (by kernel_rfl) (by kernel_rfl) (by kernel_rfl) (by decide) (by kernel_rfl) (fun _ _ _ h => h) (by kernel_rfl) ?_ ?_
  · intro w2 hSw; obtain ⟨g0, g1, g2, g3⟩ := hSw; go_simp
  try simp only [List.setIfInBounds_toArray, List.set_cons_zero, List.set_cons_succ]
  refine takeL 11 33 (.slice Ai inp.length ci) HS0.out rfl rfl (by kernel_rfl) (by kernel_rfl) (by kernel_rfl) (by decide) (fun _ _ _ h => h) (by kernel_rfl) ?_ ?_
  · intro w2; go_simp
  try simp only [List.setIfInBounds_toArray, List.set_cons_zero, List.set_cons_succ]
  refine takeL 12 34 (.int .i64 (n : Int)) HS0.out rfl rfl (by kernel_rfl) (by kernel_rfl) (by kernel_rfl) (by decide) (fun _ _ _ h => h) (by kernel_rfl) ?_ ?_
  · intro w2; go_simp
  try simp only [List.setIfInBounds_toArray, List.set_cons_zero, List.set_cons_succ]
  refine wpAnyL_ready (rs := [9]) (by kernel_rfl) (by simp) ?_
  refine AllReadyL.cons rfl (fun K hK => ?_) AllReadyL.nil
  go_simp
  refine (HR1.out W6.drew (Below.refl _ _).drew).mono ?_
  rintro e X1 ⟨Ra, ra, rfl, hx1, hs1⟩
  have HX1 : Hid (Below W6.heap.size W6 X1) := Lib.hid (Below.trans (Below.refl W6.heap.size W6).drew hx1)
  have HQ1 := Lib.hid hs1
  clear hx1 hs1
  refine hK.out _ _ (SO.out _ HX1.out) (fun hHeld => ?_)
  have HS1 := Lib.hid hHeld
  clear hK K hHeld
  try simp only [List.setIfInBounds_toArray, List.set_cons_zero, List.set_cons_succ]
  refine wpAnyL_ready (rs := [13]) (by kernel_rfl) (by simp) ?_
  refine AllReadyL.cons rfl (fun K hK => ?_) AllReadyL.nil
  go_simp
  refine (HR2.out X1 HX1.out).mono ?_
  rintro e X2 ⟨Rb, rb, rfl, hx2, hs2⟩
  have HX2 : Hid (Below W6.heap.size W6 X2) := Lib.hid (HX1.out.trans (hx2.mono HX1.out.size))
  have HQ3 := Lib.hid (hb_slr HQ1.out hx2)
  have HQ2 := Lib.hid hs2
  clear hx2 hs2
  refine hK.out _ _ (SO.out _ HX2.out) (fun hHeld => ?_)
  have HS2 := Lib.hid hHeld
  clear hK K hHeld
  try simp only [List.setIfInBounds_toArray, List.set_cons_zero, List.set_cons_succ]
  refine wpAnyL_ready (rs := [14]) (by kernel_rfl) (by simp) ?_
  refine AllReadyL.cons rfl (fun K hK => ?_) AllReadyL.nil
  go_simp
  refine (HSM.out X2 _ _ HQ3.out HQ2.out).mono ?_
  rintro e X3 ⟨rfl, hx3⟩
  have HX3 : Hid (Below W6.heap.size W6 X3) := Lib.hid (HX2.out.trans (hx3.mono HX2.out.size))
  clear hx3
  refine hK.out _ _ (SO.out _ HX3.out) (fun hHeld => ?_)
  have HS3 := Lib.hid hHeld
  clear hK K hHeld
  try simp only [List.setIfInBounds_toArray, List.set_cons_zero, List.set_cons_succ]
  refine takeL 15 37 (.bool true) HS3.out rfl rfl (by kernel_rfl) (by kernel_rfl) (by kernel_rfl) (by decide) (fun _ _ _ h => h) (by kernel_rfl) ?_ ?_
  · intro w2; go_simp
  try simp only [List.setIfInBounds_toArray, List.set_cons_zero, List.set_cons_succ]
  refine wpAnyL_ready (rs := [16]) (by kernel_rfl) (by simp) ?_
  refine AllReadyL.last rfl (by kernel_rfl) (fun K hK => ?_)
  go_simp
  refine hK.out _ _ ?_
  clear hK K
  try simp only [List.setIfInBounds_toArray, List.set_cons_zero, List.set_cons_succ]
  refine wpAnyL_done (by kernel_rfl) ?_ _
  go_wp2
  go_ret
  exact ⟨rfl, HBW.out.trans (HX3.out.mono HBW.out.size)⟩
end Go.Proofs.YtnpnhdmfdhnmfaaGreatDoor
