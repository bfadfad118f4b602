/- What a unit does is what it did, with as many steps, or fewer, behind Dead: the walk of 'DeadRunsSaid'. Printed by wip/gen_deadruns.py. -/
import Derived.Test.YtkpigkopjfkepaaGreatDoorPrAgainF
import Derived.Test.YtkpigkopjfkepaaGreatDoorPrRunRun
import Derived.Test.YtkpigkopjfkepaaGreatDoorPrSameA
import Derived.Test.YtkpigkopjfkepaaGreatDoorPrRegion
namespace Go.Proofs.YtkpigkopjfkepaaGreatDoor
open List (setIfInBounds_toArray set_cons_zero set_cons_succ)
open Go.RowKit
theorem run_u {u : LUnit} (hu : UnitOk u) {m : MRun} {inp : List Int} {n : Nat} (hn : n ≤ 20000) {X : World} {A1 A2 : Option Addr} {c1 c2 : Nat} (h : UIn u X A1 A2 c1 c2) {vin : Value} (hin : SlR X (· < X.heap.size) 1 RInt vin inp) (hm : m = runU u inp n) :
  Calls Tryz.prog 18 #[.agg #[.slice A1 u.arrays.length c1, .slice A2 u.flows.length c2], vin, .int .i64 (n : Int)] X fun e X' => ∃ A c, e = .returned (.agg #[.int .i64 m.status, .int .i64 m.code, .slice A m.out.length c, .int .i64 m.steps]) ∧ Below X.heap.size X X' ∧ SlR X' (· < X'.heap.size) 1 RInt (.slice A m.out.length c) m.out := by
 subst hm
 refine (run_any u hu inp n hn A1 A2 c1 c2 vin X h.arr h.flo hin).mono ?_
 rintro e X' ⟨vout, he, hb, ho⟩
 obtain ⟨A, c, hv⟩ := own_form ho
 subst hv
 exact ⟨A, c, he, hb, slr_of_own ho⟩
set_option maxRecDepth 100000 in
set_option maxHeartbeats 16000000 in
theorem deadRuns_walk (vr vin : Value) (steps : Int) (raw : List LBlock) (hI : ∀ x ∈ raw, x.I) (inp : List Int) (_hlen : (inp.length + 0) * 8 ≤ 140737488355328) (w : World) (hsl : SlR w (· < w.heap.size) 5 (RBlock w (· < w.heap.size)) vr raw) (hin : SlR w (· < w.heap.size) 1 RInt vin inp) (ws : (Lit.int .i64 steps).wf = true) :
  Calls Tryz.prog 7 #[vr, vin, .int .i64 steps] w fun e w' => e = .returned (.bool true) ∧ Below w.heap.size w w' := by
 obtain ⟨Ar, cr, hvr, _, _⟩ := hsl.val
 obtain ⟨Ai, ci, hvi, _, _⟩ := hin.val
 subst hvr hvi
 obtain ⟨jo, jo'⟩ := i64_of_wf ws
 have HAW := Lib.hid (awake15_any w)
 have HFIT := Lib.hid (fun (X : World) (hb : Below w.heap.size w X) => fit_u raw hI (.slice Ar raw.length cr) X (slr_at mono_block hsl hb))
 have HPS := Lib.hid (fun w2 => pick15_any steps 401 jo jo' (by omega) w2)
 have p0 := pk_lo steps 401 (by omega)
 have p1 := pk_hi steps 401 (by omega)
 generalize pk steps 401 = nn at *
 obtain ⟨n, rfl⟩ := Int.eq_ofNat_of_zero_le p0
 have hn : n ≤ 20000 := by omega
 have huo := unit_fit raw
 have hus := small_fit raw
 generalize fitU raw = u at HFIT huo hus
 have HUO := Lib.hid huo
 obtain ⟨v, hv⟩ : ∃ v, v = deadE u := ⟨_, rfl⟩
 have HD1 := Lib.hid (fun (X : World) (A1 A2 : Option Addr) (c1 c2 : Nat) (h : UIn u X A1 A2 c1 c2) => dead_v hv.symm huo hus h)
 have HVO : Hid (UnitOk v) := Lib.hid (by rw [hv]; exact dead_ok huo)
 have hdr := dead_run huo inp n
 rw [← hv] at hdr
 obtain ⟨m, hm⟩ : ∃ m, m = runU u inp n := ⟨_, rfl⟩
 obtain ⟨m2, hm2⟩ : ∃ m2, m2 = runU v inp n := ⟨_, rfl⟩
 rw [← hm, ← hm2] at hdr
 obtain ⟨hfo, hst⟩ := hdr
 have HM := Lib.hid hm
 have HM2 := Lib.hid hm2
 have HFO := Lib.hid hfo
 have HST := Lib.hid hst
 have HIN := Lib.hid (fun (X : World) (hb : Below w.heap.size w X) => (hb_slr hin hb : SlR X (· < X.heap.size) 1 RInt (.slice Ai inp.length ci) inp))
 clear hsl hI huo hus hv hm hm2 hfo hst hin p0 p1
 go_enter Tryz.func7, Tryz.ntmps7
 go_upto_region 3 with (first | (go_at_call 8; refine HAW.out.mono ?_; rintro e w2 ⟨rfl, hb2⟩) | (go_at_call 9; refine (HFIT.out _ hb2).mono ?_; rintro e w3 ⟨A1, A2, c1, c2, rfl, hb3, hui⟩))
 refine wp_world ?_
 intro W hW
 have hB3 : Below w.heap.size w w3 := hb2.trans (hb3.mono hb2.size)
 have hB : Below w.heap.size w W := by rw [← hW]; exact hB3.alloc hB3.size _
 have hU : Blk W w3.heap.size 27 #[.slice A1 u.arrays.length c1, .slice A2 u.flows.length c2] := by rw [← hW]; exact Blk.new w3 _ _
 have hui3 : UIn u W A1 A2 c1 c2 := by rw [← hW]; exact hui.below (below1 w3 _)
 have v0 : W.cell? ⟨w3.heap.size, 0, none⟩ = some (.slice A1 u.arrays.length c1) := hU.cell 0
 have v1 : W.cell? ⟨w3.heap.size, 1, none⟩ = some (.slice A2 u.flows.length c2) := hU.cell 1
 have HB := Lib.hid hB
 have HU := Lib.hid hU
 have HUI := Lib.hid hui3
 clear hW hB3 hB hU hui3 hui hb2 hb3 HAW HFIT
 go_upto_region 4 with (go_at_call 10; refine (HD1.out W A1 A2 c1 c2 HUI.out).mono ?_; rintro e w5 ⟨B1, B2, d4, d5, rfl, hb5, hvi⟩)
 refine wp_world ?_
 intro W5 hW5
 have hb51 : Below w5.heap.size w5 W5 := by rw [← hW5]; exact below1 _ _
 have hB5 : Below W.heap.size W W5 := by rw [← hW5]; exact hb5.alloc hb5.size _
 have hV : Blk W5 w5.heap.size 27 #[.slice B1 v.arrays.length d4, .slice B2 v.flows.length d5] := by rw [← hW5]; exact Blk.new w5 _ _
 have hvi5 := hvi.below hb51
 obtain ⟨v2, v3⟩ := blk_unit HU.out hB5
 have HB5 := Lib.hid hB5
 have HV := Lib.hid hV
 have HVI := Lib.hid hvi5
 have HUI5 := Lib.hid (HUI.out.below hB5)
 have hbw5 : Below w.heap.size w W5 := HB.out.trans (hB5.mono HB.out.size)
 have HBW5 := Lib.hid hbw5
 have hs5 := hB5.size
 clear hW5 hb51 hB5 hV hvi5 hvi hb5 v0 v1 HD1 hbw5
 have HR1 := Lib.hid (run_u HUO.out hn HUI5.out (HIN.out W5 HBW5.out) HM.out)
 go_upto_region 6 with (first | (go_at_call 14; refine (HPS.out _).mono ?_; rintro e w' ⟨rfl, rfl⟩) | (go_at_call 18; refine HR1.out.mono ?_; rintro e w7 ⟨Ra, ra, rfl, hb7, hs7⟩))
 refine wp_world ?_
 intro W7 hW7
 have hb71 : Below w7.heap.size w7 W7 := by rw [← hW7]; exact below1 _ _
 have hB7 : Below W5.heap.size W5 W7 := by rw [← hW7]; exact hb7.alloc hb7.size _
 have hRa : Blk W7 w7.heap.size 57 #[.int .i64 m.status, .int .i64 m.code, .slice Ra m.out.length ra, .int .i64 m.steps] := by rw [← hW7]; exact Blk.new w7 _ _
 obtain ⟨v4, v5⟩ := blk_unit HV.out hB7
 have HRA := Lib.hid hRa
 have HSA := Lib.hid (hb_slr hs7 hb71)
 have HVI7 := Lib.hid (HVI.out.below hB7)
 have hbw7 : Below w.heap.size w W7 := HBW5.out.trans (hB7.mono HBW5.out.size)
 have HBW7 := Lib.hid hbw7
 clear hW7 hb71 hB7 hb7 hs7 hRa hbw7 v2 v3 HR1
 have HR2 := Lib.hid (run_u HVO.out hn HVI7.out (HIN.out W7 HBW7.out) HM2.out)
 go_upto_region 7 with (go_at_call 18; refine HR2.out.mono ?_; rintro e w9 ⟨Rb, rb, rfl, hb9, hs9⟩)
 refine wp_world ?_
 intro W9 hW9
 have hb91 : Below w9.heap.size w9 W9 := by rw [← hW9]; exact below1 _ _
 have hB9 : Below W7.heap.size W7 W9 := by rw [← hW9]; exact hb9.alloc hb9.size _
 have hRb : Blk W9 w9.heap.size 57 #[.int .i64 m2.status, .int .i64 m2.code, .slice Rb m2.out.length rb, .int .i64 m2.steps] := by rw [← hW9]; exact Blk.new w9 _ _
 have hRa9 := HRA.out.below hB9 HRA.out.lt
 have a0 : W9.cell? ⟨w7.heap.size, 0, none⟩ = some (.int .i64 m.status) := hRa9.cell 0
 have a1 : W9.cell? ⟨w7.heap.size, 1, none⟩ = some (.int .i64 m.code) := hRa9.cell 1
 have a2 : W9.cell? ⟨w7.heap.size, 2, none⟩ = some (.slice Ra m.out.length ra) := hRa9.cell 2
 have a3 : W9.cell? ⟨w7.heap.size, 3, none⟩ = some (.int .i64 m.steps) := hRa9.cell 3
 have b0 : W9.cell? ⟨w9.heap.size, 0, none⟩ = some (.int .i64 m2.status) := hRb.cell 0
 have b1 : W9.cell? ⟨w9.heap.size, 1, none⟩ = some (.int .i64 m2.code) := hRb.cell 1
 have b2 : W9.cell? ⟨w9.heap.size, 2, none⟩ = some (.slice Rb m2.out.length rb) := hRb.cell 2
 have b3 : W9.cell? ⟨w9.heap.size, 3, none⟩ = some (.int .i64 m2.steps) := hRb.cell 3
 have HFL := Lib.hid (follows_true m m2 HFO.out Ra Rb ra rb W9 (hb_slr HSA.out hB9) (hb_slr hs9 hb91))
 have HRA9 := Lib.hid hRa9
 have HRB9 := Lib.hid hRb
 have hbw9 : Below w.heap.size w W9 := HBW7.out.trans (hB9.mono HBW7.out.size)
 have HBW9 := Lib.hid hbw9
 clear hW9 hb91 hB9 hb9 hs9 hRa9 hRb hbw9 v4 v5 HR2
 by_cases h0 : m.status = 0
 ·have e0 : (m.status == 0) = true := by simp [h0]
  clear h0
  refine wp_region_lit ?_
  refine takeP 32 (.bool true) rfl (by kernel_rfl) (by go_simp) ?_
  simp only [setIfInBounds_toArray, set_cons_zero, set_cons_succ]
  refine takeP 33 (.bool true) rfl (by kernel_rfl) (by go_simp) ?_
  simp only [setIfInBounds_toArray, set_cons_zero, set_cons_succ]
  refine takeP 34 (.int .i64 0) rfl (by kernel_rfl) (by go_simp) ?_
  simp only [setIfInBounds_toArray, set_cons_zero, set_cons_succ]
  refine takeP 35 (.bool true) rfl (by kernel_rfl) (by go_simp) ?_
  simp only [setIfInBounds_toArray, set_cons_zero, set_cons_succ]
  refine takeP 36 (.bool true) rfl (by kernel_rfl) (by go_simp) ?_
  simp only [setIfInBounds_toArray, set_cons_zero, set_cons_succ]
  refine takeP 37 (.bool true) rfl (by kernel_rfl) (by go_simp) ?_
  simp only [setIfInBounds_toArray, set_cons_zero, set_cons_succ]
  refine takeP 38 (.agg #[.int .i64 m.status, .int .i64 m.code, .slice Ra m.out.length ra, .int .i64 m.steps]) rfl (by kernel_rfl) (by go_simp) ?_
  simp only [setIfInBounds_toArray, set_cons_zero, set_cons_succ]
  refine takeP 39 (.agg #[.int .i64 m2.status, .int .i64 m2.code, .slice Rb m2.out.length rb, .int .i64 m2.steps]) rfl (by kernel_rfl) (by go_simp) ?_
  simp only [setIfInBounds_toArray, set_cons_zero, set_cons_succ]
  refine stepP (by kernel_rfl) (fun K hK => ?_)
  go_simp
  refine HFL.out.mono ?_
  rintro e ws ⟨rfl, hbs⟩
  have q0 : ws.cell? ⟨w7.heap.size, 0, none⟩ = some (.int .i64 m.status) := (HRA9.out.below hbs HRA9.out.lt).cell 0
  have q3 : ws.cell? ⟨w7.heap.size, 3, none⟩ = some (.int .i64 m.steps) := (HRA9.out.below hbs HRA9.out.lt).cell 3
  have s3 : ws.cell? ⟨w9.heap.size, 3, none⟩ = some (.int .i64 m2.steps) := (HRB9.out.below hbs HRB9.out.lt).cell 3
  refine hK.out _ _ ?_
  clear hK K
  try simp only [setIfInBounds_toArray, set_cons_zero, set_cons_succ]
  refine takeP 41 (.bool true) rfl (by kernel_rfl) (by go_simp) ?_
  simp only [setIfInBounds_toArray, set_cons_zero, set_cons_succ]
  refine takeP 42 (.bool true) rfl (by kernel_rfl) (by go_simp) ?_
  simp only [setIfInBounds_toArray, set_cons_zero, set_cons_succ]
  refine takeP 43 (.pointer (some ⟨w7.heap.size, 0, none⟩)) rfl (by kernel_rfl) (by go_simp) ?_
  simp only [setIfInBounds_toArray, set_cons_zero, set_cons_succ]
  refine takeP 44 (.int .i64 m.status) rfl (by kernel_rfl) (by go_simp) ?_
  simp only [setIfInBounds_toArray, set_cons_zero, set_cons_succ]
  refine takeP 45 (.bool true) rfl (by kernel_rfl) (by go_simp) ?_
  simp only [setIfInBounds_toArray, set_cons_zero, set_cons_succ]
  refine takeP 46 (.bool true) rfl (by kernel_rfl) (by go_simp) ?_
  simp only [setIfInBounds_toArray, set_cons_zero, set_cons_succ]
  refine takeP_no 47 rfl (by kernel_rfl) ?_
  simp only [setIfInBounds_toArray, set_cons_zero, set_cons_succ]
  refine takeP_no 48 rfl (by kernel_rfl) ?_
  simp only [setIfInBounds_toArray, set_cons_zero, set_cons_succ]
  refine takeP_no 49 rfl (by kernel_rfl) ?_
  simp only [setIfInBounds_toArray, set_cons_zero, set_cons_succ]
  refine takeP_no 50 rfl (by kernel_rfl) ?_
  simp only [setIfInBounds_toArray, set_cons_zero, set_cons_succ]
  refine takeP_no 51 rfl (by kernel_rfl) ?_
  simp only [setIfInBounds_toArray, set_cons_zero, set_cons_succ]
  refine takeP 52 (.bool true) rfl (by kernel_rfl) (by go_simp) ?_
  simp only [setIfInBounds_toArray, set_cons_zero, set_cons_succ]
  refine takeP 53 (.bool true) rfl (by kernel_rfl) (by go_simp) ?_
  simp only [setIfInBounds_toArray, set_cons_zero, set_cons_succ]
  refine takeP 6 (.bool true) rfl (by kernel_rfl) (by go_simp) ?_
  simp only [setIfInBounds_toArray, set_cons_zero, set_cons_succ]
  refine wpList_nil ?_
  go_wp2
  go_ret
  exact ⟨rfl, HBW9.out.trans (hbs.mono HBW9.out.size)⟩
 ·have e0 : (m.status == 0) = false := by simp [h0]
  have hle : m2.steps ≤ m.steps := by rcases HST.out with h | h; exact absurd h h0; exact h
  have d0 : decide (m2.steps ≤ m.steps) = true := decide_eq_true hle
  clear h0
  refine wp_region_lit ?_
  refine takeP 32 (.bool true) rfl (by kernel_rfl) (by go_simp) ?_
  simp only [setIfInBounds_toArray, set_cons_zero, set_cons_succ]
  refine takeP 33 (.bool true) rfl (by kernel_rfl) (by go_simp) ?_
  simp only [setIfInBounds_toArray, set_cons_zero, set_cons_succ]
  refine takeP 34 (.int .i64 0) rfl (by kernel_rfl) (by go_simp) ?_
  simp only [setIfInBounds_toArray, set_cons_zero, set_cons_succ]
  refine takeP 35 (.bool true) rfl (by kernel_rfl) (by go_simp) ?_
  simp only [setIfInBounds_toArray, set_cons_zero, set_cons_succ]
  refine takeP 36 (.bool true) rfl (by kernel_rfl) (by go_simp) ?_
  simp only [setIfInBounds_toArray, set_cons_zero, set_cons_succ]
  refine takeP 37 (.bool true) rfl (by kernel_rfl) (by go_simp) ?_
  simp only [setIfInBounds_toArray, set_cons_zero, set_cons_succ]
  refine takeP 38 (.agg #[.int .i64 m.status, .int .i64 m.code, .slice Ra m.out.length ra, .int .i64 m.steps]) rfl (by kernel_rfl) (by go_simp) ?_
  simp only [setIfInBounds_toArray, set_cons_zero, set_cons_succ]
  refine takeP 39 (.agg #[.int .i64 m2.status, .int .i64 m2.code, .slice Rb m2.out.length rb, .int .i64 m2.steps]) rfl (by kernel_rfl) (by go_simp) ?_
  simp only [setIfInBounds_toArray, set_cons_zero, set_cons_succ]
  refine stepP (by kernel_rfl) (fun K hK => ?_)
  go_simp
  refine HFL.out.mono ?_
  rintro e ws ⟨rfl, hbs⟩
  have q0 : ws.cell? ⟨w7.heap.size, 0, none⟩ = some (.int .i64 m.status) := (HRA9.out.below hbs HRA9.out.lt).cell 0
  have q3 : ws.cell? ⟨w7.heap.size, 3, none⟩ = some (.int .i64 m.steps) := (HRA9.out.below hbs HRA9.out.lt).cell 3
  have s3 : ws.cell? ⟨w9.heap.size, 3, none⟩ = some (.int .i64 m2.steps) := (HRB9.out.below hbs HRB9.out.lt).cell 3
  refine hK.out _ _ ?_
  clear hK K
  try simp only [setIfInBounds_toArray, set_cons_zero, set_cons_succ]
  refine takeP 41 (.bool true) rfl (by kernel_rfl) (by go_simp) ?_
  simp only [setIfInBounds_toArray, set_cons_zero, set_cons_succ]
  refine takeP 42 (.bool true) rfl (by kernel_rfl) (by go_simp) ?_
  simp only [setIfInBounds_toArray, set_cons_zero, set_cons_succ]
  refine takeP 43 (.pointer (some ⟨w7.heap.size, 0, none⟩)) rfl (by kernel_rfl) (by go_simp) ?_
  simp only [setIfInBounds_toArray, set_cons_zero, set_cons_succ]
  refine takeP 44 (.int .i64 m.status) rfl (by kernel_rfl) (by go_simp) ?_
  simp only [setIfInBounds_toArray, set_cons_zero, set_cons_succ]
  refine takeP 45 (.bool false) rfl (by kernel_rfl) (by go_simp) ?_
  simp only [setIfInBounds_toArray, set_cons_zero, set_cons_succ]
  refine takeP 46 (.bool false) rfl (by kernel_rfl) (by go_simp) ?_
  simp only [setIfInBounds_toArray, set_cons_zero, set_cons_succ]
  refine takeP 47 (.pointer (some ⟨w9.heap.size, 3, none⟩)) rfl (by kernel_rfl) (by go_simp) ?_
  simp only [setIfInBounds_toArray, set_cons_zero, set_cons_succ]
  refine takeP 48 (.int .i64 m2.steps) rfl (by kernel_rfl) (by go_simp) ?_
  simp only [setIfInBounds_toArray, set_cons_zero, set_cons_succ]
  refine takeP 49 (.pointer (some ⟨w7.heap.size, 3, none⟩)) rfl (by kernel_rfl) (by go_simp) ?_
  simp only [setIfInBounds_toArray, set_cons_zero, set_cons_succ]
  refine takeP 50 (.int .i64 m.steps) rfl (by kernel_rfl) (by go_simp) ?_
  simp only [setIfInBounds_toArray, set_cons_zero, set_cons_succ]
  refine takeP 51 (.bool true) rfl (by kernel_rfl) (by go_simp) ?_
  simp only [setIfInBounds_toArray, set_cons_zero, set_cons_succ]
  refine takeP 52 (.bool true) rfl (by kernel_rfl) (by go_simp) ?_
  simp only [setIfInBounds_toArray, set_cons_zero, set_cons_succ]
  refine takeP 53 (.bool true) rfl (by kernel_rfl) (by go_simp) ?_
  simp only [setIfInBounds_toArray, set_cons_zero, set_cons_succ]
  refine takeP 6 (.bool true) rfl (by kernel_rfl) (by go_simp) ?_
  simp only [setIfInBounds_toArray, set_cons_zero, set_cons_succ]
  refine wpList_nil ?_
  go_wp2
  go_ret
  exact ⟨rfl, HBW9.out.trans (hbs.mono HBW9.out.size)⟩
end Go.Proofs.YtkpigkopjfkepaaGreatDoor
