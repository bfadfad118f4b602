/- What Fold keeps, and that at least as much is known: the walk of 'FoldKeepsSaid'. Printed by wip/gen_foldkeeps.py. -/
import Derived.Test.YtnpnhdmfdhnmfaaGreatDoorFoldFold
import Derived.Test.YtnpnhdmfdhnmfaaGreatDoorAw14
import Derived.Test.YtnpnhdmfdhnmfaaGreatDoorArgs
import Derived.Test.YtnpnhdmfdhnmfaaGreatDoorRegion
import Derived.BigQuiet
namespace Go.Proofs.YtnpnhdmfdhnmfaaGreatDoor
open Go.RowKit

theorem fold_u' {u : LUnit} {X : World} {A1 A2 : Option Addr} {c1 c2 : Nat} (hu : UnitOk u) (h : UIn u X A1 A2 c1 c2) : Calls Tryz.prog 26 #[.agg #[.slice A1 u.arrays.length c1, .slice A2 u.flows.length c2]] X fun e w' => ∃ B1 B2 d1 d2, e = .returned (.tuple #[.agg #[.slice B1 u.arrays.length d1, .slice B2 u.flows.length d2], .int .i64 0]) ∧ Below X.heap.size X w' ∧ UIn (foldE u) w' B1 B2 d1 d2 := by
  refine (fold_u hu h).mono ?_
  rintro e w' ⟨B1, B2, d1, d2, rfl, hb, hv⟩
  have hl : (foldE u).flows.length = u.flows.length := List.length_map _
  exact ⟨B1, B2, d1, d2, by rw [hl]; rfl, hb, hv⟩
theorem fl_len (u : LUnit) : (foldE u).flows.length = u.flows.length := List.length_map _
theorem sets_any14 (x : LIns) (A : Option Addr) (l c : Nat) (w : World) (hk : 1 ≤ x.kind ∧ x.kind ≤ 9) :
    Calls Tryz.prog 18 #[.agg #[.int .i64 x.kind, .int .i64 x.d, .int .i64 x.a, .int .i64 x.b, .int .i64 x.op, .int .i64 x.n, .string x.name, .slice A l c]] w fun e w' => e = .returned (.int .i64 (setsE x)) ∧ Below w.heap.size w w' :=
  sets_ir x (.slice A l c) ⟨_, _, _, rfl⟩ w hk
set_option maxRecDepth 100000 in
set_option maxHeartbeats 16000000 in
theorem foldKeeps_walk (vr : Value) (raw : List LBlock) (hI : ∀ x ∈ raw, x.I) (w : World) (hsl : SlR w (· < w.heap.size) 5 (RBlock w (· < w.heap.size)) vr raw) :
    Calls Tryz.prog 8 #[vr] w fun e w' => e = .returned (.bool true) ∧ Below w.heap.size w w' := by
  obtain ⟨Ar, cr, hvr, _, _⟩ := hsl.val
  subst hvr
  have HAW := Lib.hid (awake14_any w)
  have HFIT := Lib.hid (fun (X : World) (hb : Below w.heap.size w X) => fit_u raw hI (.slice Ar raw.length cr) X (slr_at mono_block hsl hb))
  have huo := unit_fit raw
  generalize fitU raw = u at HFIT huo
  have HUO := Lib.hid huo
  have HFO := Lib.hid (fun (X : World) (A1 A2 : Option Addr) (c1 c2 : Nat) (h : UIn u X A1 A2 c1 c2) => fold_u' HUO.out h)
  have HVO := Lib.hid (fold_ok huo)
  have hle := known_le u
  have hfl := huo.fls
  clear hsl hI huo
  go_enter Tryz.func8, Tryz.ntmps8
  go_upto_region 3 with (first | (go_at_call 25; refine HAW.out.mono ?_; rintro e w2 ⟨rfl, hb2⟩) | (go_at_call 14; refine (HFIT.out _ hb2).mono ?_; rintro e w3 ⟨A1, A2, c1, c2, rfl, hb3, hui⟩))
  refine wp_world ?_
  intro W hW
  have hB3 : Below w.heap.size w w3 := hb2.trans (hb3.mono hb2.size)
  have hB : Below w.heap.size w W := by rw [← hW]; exact hB3.alloc hB3.size _
  have hU : Blk W w3.heap.size 27 #[.slice A1 u.arrays.length c1, .slice A2 u.flows.length c2] := by rw [← hW]; exact Blk.new w3 _ _
  have hui3 : UIn u W A1 A2 c1 c2 := by rw [← hW]; exact hui.below (below1 w3 _)
  have v0 : W.cell? ⟨w3.heap.size, 0, none⟩ = some (.slice A1 u.arrays.length c1) := hU.cell 0
  have v1 : W.cell? ⟨w3.heap.size, 1, none⟩ = some (.slice A2 u.flows.length c2) := hU.cell 1
  have HB := Lib.hid hB
  have HU := Lib.hid hU
  have HUI := Lib.hid hui3
  clear hW hB3 hB hU hui3 hui hb2 hb3 HAW HFIT
  go_upto_region 4 with (go_at_call 26; refine (HFO.out W A1 A2 c1 c2 HUI.out).mono ?_; rintro e w5 ⟨D1, D2, e1, e2, rfl, hb5, hvj⟩)
  refine wp_world ?_
  intro W6 hW6
  have hb6 : Below W.heap.size W W6 := by rw [← hW6]; exact hb5.alloc hb5.size _
  have hX : Blk W6 w5.heap.size 27 #[.slice D1 u.arrays.length e1, .slice D2 u.flows.length e2] := by rw [← hW6]; exact Blk.new w5 _ _
  have hvj6 : UIn (foldE u) W6 D1 D2 e1 e2 := by rw [← hW6]; exact hvj.below (below1 w5 _)
  have hui6 := HUI.out.below hb6
  have hU6 := HU.out.below hb6 HU.out.lt
  have x0 : W6.cell? ⟨w5.heap.size, 0, none⟩ = some (.slice D1 u.arrays.length e1) := hX.cell 0
  have x1 : W6.cell? ⟨w5.heap.size, 1, none⟩ = some (.slice D2 u.flows.length e2) := hX.cell 1
  have hck : ∀ X, Below W6.heap.size W6 X → Calls Tryz.prog 22 #[.agg #[.slice D1 u.arrays.length e1, .slice D2 u.flows.length e2]] X fun e w' => e = .returned (.tuple #[.int .i64 0, .agg #[.int .i64 0, .int .i64 0]]) ∧ Below X.heap.size X w' := fun X hb => by
    have h := check_u HVO.out (hvj6.below hb)
    rw [fl_len] at h
    exact h
  have hk2 : ∀ X, Below W6.heap.size W6 X → Calls Tryz.prog 27 #[.agg #[.slice D1 u.arrays.length e1, .slice D2 u.flows.length e2]] X fun e w' => e = .returned (.agg #[.int .i64 (knownA (foldE u) : Int), .int .i64 (knownB (foldE u) : Int)]) ∧ Below X.heap.size X w' := fun X hb => by
    have h := known_u HVO.out (hvj6.below hb)
    rw [fl_len] at h
    exact h
  have HCK := Lib.hid hck
  have HK2 := Lib.hid hk2
  have HK1 := Lib.hid (fun (X : World) (hb : Below W6.heap.size W6 X) => known_u HUO.out (hui6.below hb))
  have HB6 := Lib.hid (HB.out.trans (hb6.mono HB.out.size))
  have HX := Lib.hid hX
  have HU6 := Lib.hid hU6
  have HVF := Lib.hid hvj6.flo
  have HUF := Lib.hid hui6.flo
  generalize knownA (foldE u) = ka2 at *
  generalize knownB (foldE u) = kb2 at *
  generalize knownA u = ka1 at *
  generalize knownB u = kb1 at *
  clear hW6 hb5 hb6 hX hvj6 hvj hui6 v0 v1 hck hk2 hU6
  go_upto_region 5 with (go_at_call 22; refine (HCK.out W6 (Below.refl _ _)).mono ?_; rintro e w7 ⟨rfl, hb7⟩)
  refine wp_world ?_
  intro W8 hW8
  have h8 : Below W6.heap.size W6 W8 := by rw [← hW8]; exact hb7.alloc hb7.size _
  have v1 : W8.cell? ⟨w3.heap.size, 1, none⟩ = some (.slice A2 u.flows.length c2) := (blk_unit HU6.out h8).2
  have x3 : W8.cell? ⟨w5.heap.size, 1, none⟩ = some (.slice D2 u.flows.length e2) := (blk_unit HX.out h8).2
  have H8 := Lib.hid h8
  clear hW8 h8 hb7 x0 x1
  go_wp2_with fail
  go_loopw [9] (fun s wr => ∃ i : Nat, i ≤ u.flows.length ∧ s = .int .i64 i ∧ Below W6.heap.size W6 wr) (fun s _ => u.flows.length - (intOf s).toNat)
  case atStart => exact ⟨0, by omega, rfl, H8.out⟩
  case round =>
    obtain ⟨wo, hwo⟩ : ∃ wo, wo = wr := ⟨_, rfl⟩
    subst hwo
    obtain ⟨i, hi, rfl, hbo⟩ := hrel
    have HBO := Lib.hid hbo
    have va1 : wo.cell? ⟨w3.heap.size, 1, none⟩ = some (.slice A2 u.flows.length c2) := (blk_unit HU6.out hbo).2
    have va0 : wo.cell? ⟨w3.heap.size, 0, none⟩ = some (.slice A1 u.arrays.length c1) := (blk_unit HU6.out hbo).1
    have vx1 : wo.cell? ⟨w5.heap.size, 1, none⟩ = some (.slice D2 u.flows.length e2) := (blk_unit HX.out hbo).2
    clear v1 x3
    by_cases hlt : i < u.flows.length
    · have e1' : decide ((i : Int) < (u.flows.length : Int)) = true := decide_eq_true (by omega)
      have hi3 : (i : Int) < (u.flows.length : Int) := by omega
      obtain ⟨gf, of_, rfl⟩ := sl_some HUF.out (by omega)
      obtain ⟨gv, ov, rfl⟩ := sl_some HVF.out (by rw [fl_len]; omega)
      obtain ⟨Ab, cb, hsb, hfc⟩ := flow_cells HUF.out hlt
      obtain ⟨Db, eb, hsd, hvc⟩ := flow_cells HVF.out (i := i) (by rw [fl_len]; exact hlt)
      have hfv : (foldE u).flows[i]'(by rw [fl_len]; exact hlt) = flowE u.flows[i] := by simp [foldE]
      rw [hfv] at hsd hvc
      obtain ⟨f, hfe⟩ : ∃ f, f = u.flows[i] := ⟨_, rfl⟩
      have hfm : f ∈ u.flows := by rw [hfe]; exact List.getElem_mem _
      rw [← hfe] at hsb hfc hsd hvc
      obtain ⟨_, _, _, _, _, hbl⟩ := flow_ok HUO.out hfm
      have hdl : (flowE f).blocks.length = f.blocks.length := List.length_map _
      rw [hdl] at hsd hvc
      obtain ⟨q0, q1, q2, q3⟩ := hfc wo hbo
      obtain ⟨r0, r1, r2, r3⟩ := hvc wo hbo
      replace r1 : wo.cell? ⟨gv, ov + i * 4 + 1, none⟩ = some (.int .i64 f.params) := r1
      replace r2 : wo.cell? ⟨gv, ov + i * 4 + 2, none⟩ = some (.int .i64 f.values) := r2
      have HSB := Lib.hid hsb
      have HSD := Lib.hid hsd
      have HFC := Lib.hid hfc
      have HVC := Lib.hid hvc
      have HFM := Lib.hid hfm
      clear hsb hsd hfc hvc hfm hfe hfv hdl r0 q0 hbo
      go_upto_region 10 with fail
      go_quiet (fail)
      go_upto_region 12 with fail
      refine wp_world ?_
      intro wd hwd
      have hbd : Below W6.heap.size W6 wd := by rw [← hwd]; exact below_drewN HBO.out _
      have HBD := Lib.hid hbd
      clear hwd hbd q1 q2 q3 r1 r2 r3 va0 va1 vx1 HBO
      go_wp2_with fail
      go_loopw [10] (fun s wr => ∃ k : Nat, k ≤ f.blocks.length ∧ s = .int .i64 k ∧ Below W6.heap.size W6 wr) (fun s _ => f.blocks.length - (intOf s).toNat)
      case atStart => exact ⟨0, by omega, rfl, HBD.out⟩
      case round =>
        obtain ⟨wk, hwk⟩ : ∃ wk, wk = wr := ⟨_, rfl⟩
        subst hwk
        obtain ⟨k, hk, rfl, hbk⟩ := hrel
        have HBK := Lib.hid hbk
        have va1 : wk.cell? ⟨w3.heap.size, 1, none⟩ = some (.slice (some ⟨gf, of_, none⟩) u.flows.length c2) := (blk_unit HU6.out hbk).2
        obtain ⟨_, _, _, q3⟩ := HFC.out wk hbk
        by_cases hltk : k < f.blocks.length
        · have d1 : decide ((k : Int) < (f.blocks.length : Int)) = true := decide_eq_true (by omega)
          have hk3 : (k : Int) < (f.blocks.length : Int) := by omega
          obtain ⟨gb, ob, rfl⟩ := sl_some HSB.out (by omega)
          have hdl : (flowE f).blocks.length = f.blocks.length := List.length_map _
          obtain ⟨gd, od, rfl⟩ := sl_some HSD.out (by omega)
          obtain ⟨Ai, ci, hsi, hbc⟩ := block_cells HSB.out hltk
          obtain ⟨Bi, di, hsj, hdc⟩ := block_cells HSD.out (k := k) (by omega)
          have hbv : (flowE f).blocks[k]'(by omega) = blockE f.blocks[k] := by simp [flowE]
          rw [hbv] at hsj hdc
          obtain ⟨x, hxe⟩ : ∃ x, x = f.blocks[k] := ⟨_, rfl⟩
          have hxm : x ∈ f.blocks := by rw [hxe]; exact List.getElem_mem _
          rw [← hxe] at hsi hbc hsj hdc
          have hil : (blockE x).ins.length = x.ins.length := insL_length _ _
          rw [hil] at hsj hdc
          obtain ⟨ht, hio⟩ := block_ok HUO.out HFM.out hxm
          have hxl := HUO.out.lens f HFM.out x hxm
          have HIO := Lib.hid hio
          have HIO2 := Lib.hid (insL_ok64 x.ins (EnvK.e0 f.values) hio)
          obtain ⟨tt, htt⟩ : ∃ tt, tt = (blockE x).term := ⟨_, rfl⟩
          have htk : tt.kind = x.term.kind ∨ (x.term.kind = 2 ∧ tt.kind = 1 ∧ (tt.to = x.term.to ∨ tt.to = x.term.els)) := by rw [htt]; exact termE_kind (envE E0 x.ins) x.term
          rw [← htt] at hdc
          obtain ⟨a0, a1, a2, a3, a4⟩ := hbc wk hbk
          have HSI := Lib.hid hsi
          have HSJ := Lib.hid hsj
          have HDC := Lib.hid hdc
          clear hsi hsj hbc hdc hxm hxe hbv htt hio ht hbk
          go_upto_region 16 with fail
          refine wp_world ?_
          intro w15 hw15
          have h15 : Below wk.heap.size wk w15 := by rw [← hw15]; exact below1 _ _
          have x15 : Blk w15 wk.heap.size 43 #[.slice Ai x.ins.length ci, .int .i64 x.term.kind, .int .i64 x.term.a, .int .i64 x.term.to, .int .i64 x.term.els] := by rw [← hw15]; exact Blk.new wk _ _
          have hl15 : wk.heap.size < w15.heap.size := x15.lt
          have hb15 : Below W6.heap.size W6 w15 := HBK.out.trans (h15.mono HBK.out.size)
          have vx1 : w15.cell? ⟨w5.heap.size, 1, none⟩ = some (.slice (some ⟨gv, ov, none⟩) u.flows.length e2) := (blk_unit HX.out hb15).2
          obtain ⟨_, _, _, r3⟩ := HVC.out w15 hb15
          obtain ⟨b0, b1, b2, b3, b4⟩ := HDC.out w15 hb15
          have HX15 := Lib.hid x15
          have HB15 := Lib.hid hb15
          clear hw15 h15 x15 hb15 a0 a1 a2 a3 a4 va1 q3
          go_upto_region 17 with fail
          refine wp_world ?_
          intro W7 hW7
          have h7 : Below w15.heap.size w15 W7 := by rw [← hW7]; exact below1 _ _
          have hXB : Blk W7 w15.heap.size 43 #[.slice Bi x.ins.length di, .int .i64 tt.kind, .int .i64 tt.a, .int .i64 tt.to, .int .i64 tt.els] := by rw [← hW7]; exact Blk.new w15 _ _
          have hXA := HX15.out.below h7 hl15
          have hb7 : Below W6.heap.size W6 W7 := HB15.out.trans (h7.mono HB15.out.size)
          have ca0 : W7.cell? ⟨wk.heap.size, 0, none⟩ = some (.slice Ai x.ins.length ci) := hXA.cell 0
          have cb0 : W7.cell? ⟨w15.heap.size, 0, none⟩ = some (.slice Bi x.ins.length di) := hXB.cell 0
          have HXA := Lib.hid hXA
          have HXB := Lib.hid hXB
          have HB7 := Lib.hid hb7
          clear hW7 h7 hXA hXB hb7 b0 b1 b2 b3 b4 vx1 r3 HX15
          go_wp2_with fail
          go_loopw [13] (fun s wr => ∃ j : Nat, j ≤ x.ins.length ∧ s = .int .i64 j ∧ Below W7.heap.size W7 wr) (fun s _ => x.ins.length - (intOf s).toNat)
          case atStart => exact ⟨0, by omega, rfl, Below.refl _ _⟩
          case round =>
            obtain ⟨wq, hwq⟩ : ∃ wq, wq = wr := ⟨_, rfl⟩
            subst hwq
            obtain ⟨j, hj, rfl, hbq⟩ := hrel
            have HBQ := Lib.hid hbq
            have ha := HXA.out.below hbq HXA.out.lt
            have hb := HXB.out.below hbq HXB.out.lt
            have HA := Lib.hid ha
            have HBb := Lib.hid hb
            have hb6q : Below W6.heap.size W6 wq := HB7.out.trans (hbq.mono HB7.out.size)
            have HB6Q := Lib.hid hb6q
            clear ca0 cb0
            by_cases hltj : j < x.ins.length
            · have d2 : decide ((j : Int) < (x.ins.length : Int)) = true := decide_eq_true (by omega)
              have hj3 : (j : Int) < (x.ins.length : Int) := by omega
              have ca0 : wq.cell? ⟨wk.heap.size, 0, none⟩ = some (.slice Ai x.ins.length ci) := ha.cell 0
              obtain ⟨gi, oi, rfl⟩ := sl_some HSI.out (by omega)
              obtain ⟨gj, oj, rfl⟩ := sl_some HSJ.out (by omega)
              obtain ⟨Ax, cx, _, hic⟩ := ins_cells HSI.out hltj
              obtain ⟨Bx, dx, _, hjc⟩ := ins_cells HSJ.out (j := j) (by omega)
              obtain ⟨ya, hya⟩ : ∃ ya, ya = x.ins[j] := ⟨_, rfl⟩
              obtain ⟨yb, hyb⟩ : ∃ yb, yb = (blockE x).ins[j]'(by omega) := ⟨_, rfl⟩
              have hyab : yb = insE (envE E0 (x.ins.take j)) ya := by
                have h : (insL E0 x.ins)[j]? = _ := insL_get x.ins E0 j
                rw [List.getElem?_eq_getElem hltj, ← hya, List.getElem?_eq_getElem (by rw [insL_length]; exact hltj)] at h
                rw [hyb]; exact Option.some.inj h
              have hka := (insK_of (HIO.out ya (by rw [hya]; exact List.getElem_mem _))).kind
              have hkb := (insK_of (HIO2.out yb (by rw [hyb]; exact List.getElem_mem _))).kind
              have hss : setsE yb = setsE ya := by rw [hyab, insE_sets]
              rw [← hya] at hic
              rw [← hyb] at hjc
              have HSA := Lib.hid (fun (X : World) => sets_any14 ya Ax ya.args.length cx X hka)
              have HSBb := Lib.hid (fun (X : World) => sets_any14 yb Bx yb.args.length dx X hkb)
              rw [hss] at HSBb
              obtain ⟨st, hst⟩ : ∃ st, st = setsE ya := ⟨_, rfl⟩
              rw [← hst] at HSA HSBb
              have SO : Hid (∀ X, Below wq.heap.size wq X → (fun w9 => w9.cell? ⟨wk.heap.size, 0, none⟩ = some (.slice (some ⟨gi, oi, none⟩) x.ins.length ci) ∧ w9.cell? ⟨w15.heap.size, 0, none⟩ = some (.slice (some ⟨gj, oj, none⟩) x.ins.length di) ∧ w9.cell? ⟨gi, oi + j * 8, none⟩ = some (.int .i64 ya.kind) ∧ w9.cell? ⟨gi, oi + j * 8 + 1, none⟩ = some (.int .i64 ya.d) ∧ w9.cell? ⟨gi, oi + j * 8 + 2, none⟩ = some (.int .i64 ya.a) ∧ w9.cell? ⟨gi, oi + j * 8 + 3, none⟩ = some (.int .i64 ya.b) ∧ w9.cell? ⟨gi, oi + j * 8 + 4, none⟩ = some (.int .i64 ya.op) ∧ w9.cell? ⟨gi, oi + j * 8 + 5, none⟩ = some (.int .i64 ya.n) ∧ w9.cell? ⟨gi, oi + j * 8 + 6, none⟩ = some (.string ya.name) ∧ w9.cell? ⟨gi, oi + j * 8 + 7, none⟩ = some (.slice Ax ya.args.length cx) ∧ w9.cell? ⟨gj, oj + j * 8, none⟩ = some (.int .i64 yb.kind) ∧ w9.cell? ⟨gj, oj + j * 8 + 1, none⟩ = some (.int .i64 yb.d) ∧ w9.cell? ⟨gj, oj + j * 8 + 2, none⟩ = some (.int .i64 yb.a) ∧ w9.cell? ⟨gj, oj + j * 8 + 3, none⟩ = some (.int .i64 yb.b) ∧ w9.cell? ⟨gj, oj + j * 8 + 4, none⟩ = some (.int .i64 yb.op) ∧ w9.cell? ⟨gj, oj + j * 8 + 5, none⟩ = some (.int .i64 yb.n) ∧ w9.cell? ⟨gj, oj + j * 8 + 6, none⟩ = some (.string yb.name) ∧ w9.cell? ⟨gj, oj + j * 8 + 7, none⟩ = some (.slice Bx yb.args.length dx)) X) := Lib.hid (fun X hX => by
                obtain ⟨p0, p1, p2, p3, p4, p5, p6, p7⟩ := hic X (hb6q.trans (hX.mono hb6q.size))
                obtain ⟨n0, n1, n2, n3, n4, n5, n6, n7⟩ := hjc X (hb6q.trans (hX.mono hb6q.size))
                exact ⟨(ha.below hX ha.lt).cell 0, (hb.below hX hb.lt).cell 0, p0, p1, p2, p3, p4, p5, p6, p7, n0, n1, n2, n3, n4, n5, n6, n7⟩)
              have e9 : (st != st) = false := by simp
              clear ha hb hic hjc hya hyb hyab hka hkb hss hst hbq hb6q
              go_upto_region 22 with fail
              refine wp_region_L (by kernel_rfl) 12 (fun w9 => w9.cell? ⟨wk.heap.size, 0, none⟩ = some (.slice (some ⟨gi, oi, none⟩) x.ins.length ci) ∧ w9.cell? ⟨w15.heap.size, 0, none⟩ = some (.slice (some ⟨gj, oj, none⟩) x.ins.length di) ∧ w9.cell? ⟨gi, oi + j * 8, none⟩ = some (.int .i64 ya.kind) ∧ w9.cell? ⟨gi, oi + j * 8 + 1, none⟩ = some (.int .i64 ya.d) ∧ w9.cell? ⟨gi, oi + j * 8 + 2, none⟩ = some (.int .i64 ya.a) ∧ w9.cell? ⟨gi, oi + j * 8 + 3, none⟩ = some (.int .i64 ya.b) ∧ w9.cell? ⟨gi, oi + j * 8 + 4, none⟩ = some (.int .i64 ya.op) ∧ w9.cell? ⟨gi, oi + j * 8 + 5, none⟩ = some (.int .i64 ya.n) ∧ w9.cell? ⟨gi, oi + j * 8 + 6, none⟩ = some (.string ya.name) ∧ w9.cell? ⟨gi, oi + j * 8 + 7, none⟩ = some (.slice Ax ya.args.length cx) ∧ w9.cell? ⟨gj, oj + j * 8, none⟩ = some (.int .i64 yb.kind) ∧ w9.cell? ⟨gj, oj + j * 8 + 1, none⟩ = some (.int .i64 yb.d) ∧ w9.cell? ⟨gj, oj + j * 8 + 2, none⟩ = some (.int .i64 yb.a) ∧ w9.cell? ⟨gj, oj + j * 8 + 3, none⟩ = some (.int .i64 yb.b) ∧ w9.cell? ⟨gj, oj + j * 8 + 4, none⟩ = some (.int .i64 yb.op) ∧ w9.cell? ⟨gj, oj + j * 8 + 5, none⟩ = some (.int .i64 yb.n) ∧ w9.cell? ⟨gj, oj + j * 8 + 6, none⟩ = some (.string yb.name) ∧ w9.cell? ⟨gj, oj + j * 8 + 7, none⟩ = some (.slice Bx yb.args.length dx)) (SO.out _ (Below.refl _ _).drew) (fun hHeld => ?_)
              have HS0 := Lib.hid hHeld
              clear hHeld
              change wpAnyL _ _ _ _ _ 12 13 (Array.replicate 13 false) _ _
              refine takeL 0 143 (.pointer (some ⟨wk.heap.size, 0, none⟩)) HS0.out rfl rfl (by kernel_rfl) (by kernel_rfl) (by kernel_rfl) (by decide) (fun _ _ _ h => h) (by kernel_rfl) ?_ ?_
              · intro w2; go_simp
              try simp only [List.setIfInBounds_toArray, List.set_cons_zero, List.set_cons_succ]
              refine takeL_S 1 144 (.slice (some ⟨gi, oi, none⟩) x.ins.length ci) [3, 4, 5, 12] HS0.out rfl rfl (by kernel_rfl) (by kernel_rfl) (by kernel_rfl) (by decide) (by kernel_rfl) (fun _ _ _ h => h) (by kernel_rfl) ?_ ?_
              · intro w2 hSw; obtain ⟨g0, g1, g2, g3, g4, g5, g6, g7, g8, g9, g10, g11, g12, g13, g14, g15, g16, g17⟩ := hSw; go_simp
              try simp only [List.setIfInBounds_toArray, List.set_cons_zero, List.set_cons_succ]
              refine takeL 2 145 (.int .i64 (j : Int)) HS0.out rfl rfl (by kernel_rfl) (by kernel_rfl) (by kernel_rfl) (by decide) (fun _ _ _ h => h) (by kernel_rfl) ?_ ?_
              · intro w2; go_simp
              try simp only [List.setIfInBounds_toArray, List.set_cons_zero, List.set_cons_succ]
              refine takeL 3 146 (.pointer (some ⟨gi, oi + j * 8, none⟩)) HS0.out rfl rfl (by kernel_rfl) (by kernel_rfl) (by kernel_rfl) (by decide) (fun _ _ _ h => h) (by kernel_rfl) ?_ ?_
              · intro w2; go_simp
              try simp only [List.setIfInBounds_toArray, List.set_cons_zero, List.set_cons_succ]
              refine takeL_S 4 147 (.agg #[.int .i64 ya.kind, .int .i64 ya.d, .int .i64 ya.a, .int .i64 ya.b, .int .i64 ya.op, .int .i64 ya.n, .string ya.name, .slice Ax ya.args.length cx]) [5, 12] HS0.out rfl rfl (by kernel_rfl) (by kernel_rfl) (by kernel_rfl) (by decide) (by kernel_rfl) (fun _ _ _ h => h) (by kernel_rfl) ?_ ?_
              · intro w2 hSw; obtain ⟨g0, g1, g2, g3, g4, g5, g6, g7, g8, g9, g10, g11, g12, g13, g14, g15, g16, g17⟩ := hSw; go_simp
              try simp only [List.setIfInBounds_toArray, List.set_cons_zero, List.set_cons_succ]
              refine takeL 6 149 (.pointer (some ⟨w15.heap.size, 0, none⟩)) HS0.out rfl rfl (by kernel_rfl) (by kernel_rfl) (by kernel_rfl) (by decide) (fun _ _ _ h => h) (by kernel_rfl) ?_ ?_
              · intro w2; go_simp
              try simp only [List.setIfInBounds_toArray, List.set_cons_zero, List.set_cons_succ]
              refine takeL_S 7 150 (.slice (some ⟨gj, oj, none⟩) x.ins.length di) [9, 10, 11, 12] HS0.out rfl rfl (by kernel_rfl) (by kernel_rfl) (by kernel_rfl) (by decide) (by kernel_rfl) (fun _ _ _ h => h) (by kernel_rfl) ?_ ?_
              · intro w2 hSw; obtain ⟨g0, g1, g2, g3, g4, g5, g6, g7, g8, g9, g10, g11, g12, g13, g14, g15, g16, g17⟩ := hSw; go_simp
              try simp only [List.setIfInBounds_toArray, List.set_cons_zero, List.set_cons_succ]
              refine takeL 8 151 (.int .i64 (j : Int)) HS0.out rfl rfl (by kernel_rfl) (by kernel_rfl) (by kernel_rfl) (by decide) (fun _ _ _ h => h) (by kernel_rfl) ?_ ?_
              · intro w2; go_simp
              try simp only [List.setIfInBounds_toArray, List.set_cons_zero, List.set_cons_succ]
              refine takeL 9 152 (.pointer (some ⟨gj, oj + j * 8, none⟩)) HS0.out rfl rfl (by kernel_rfl) (by kernel_rfl) (by kernel_rfl) (by decide) (fun _ _ _ h => h) (by kernel_rfl) ?_ ?_
              · intro w2; go_simp
              try simp only [List.setIfInBounds_toArray, List.set_cons_zero, List.set_cons_succ]
              refine takeL_S 10 153 (.agg #[.int .i64 yb.kind, .int .i64 yb.d, .int .i64 yb.a, .int .i64 yb.b, .int .i64 yb.op, .int .i64 yb.n, .string yb.name, .slice Bx yb.args.length dx]) [11, 12] HS0.out rfl rfl (by kernel_rfl) (by kernel_rfl) (by kernel_rfl) (by decide) (by kernel_rfl) (fun _ _ _ h => h) (by kernel_rfl) ?_ ?_
              · intro w2 hSw; obtain ⟨g0, g1, g2, g3, g4, g5, g6, g7, g8, g9, g10, g11, g12, g13, g14, g15, g16, g17⟩ := hSw; go_simp
              try simp only [List.setIfInBounds_toArray, List.set_cons_zero, List.set_cons_succ]
              refine wpAnyL_ready (rs := [5]) (by kernel_rfl) (by simp) ?_
              refine AllReadyL.cons rfl (fun K hK => ?_) AllReadyL.nil
              go_simp
              refine (HSA.out wq.drew).mono ?_
              rintro e X1 ⟨rfl, hx1⟩
              have HX1 : Hid (Below wq.heap.size wq X1) := Lib.hid (Below.trans (Below.refl wq.heap.size wq).drew hx1)
              clear hx1
              refine hK.out _ _ (SO.out _ HX1.out) (fun hHeld => ?_)
              have HS1 := Lib.hid hHeld
              clear hK K hHeld
              try simp only [List.setIfInBounds_toArray, List.set_cons_zero, List.set_cons_succ]
              refine wpAnyL_ready (rs := [11]) (by kernel_rfl) (by simp) ?_
              refine AllReadyL.cons rfl (fun K hK => ?_) AllReadyL.nil
              go_simp
              refine (HSBb.out X1).mono ?_
              rintro e X2 ⟨rfl, hx2⟩
              have HX2 : Hid (Below wq.heap.size wq X2) := Lib.hid (HX1.out.trans (hx2.mono HX1.out.size))
              clear hx2
              refine hK.out _ _ (SO.out _ HX2.out) (fun hHeld => ?_)
              have HS2 := Lib.hid hHeld
              clear hK K hHeld
              try simp only [List.setIfInBounds_toArray, List.set_cons_zero, List.set_cons_succ]
              refine wpAnyL_ready (rs := [12]) (by kernel_rfl) (by simp) ?_
              refine AllReadyL.last rfl (by kernel_rfl) (fun K hK => ?_)
              go_simp
              refine hK.out _ _ ?_
              clear hK K
              try simp only [List.setIfInBounds_toArray, List.set_cons_zero, List.set_cons_succ]
              refine wpAnyL_done (by kernel_rfl) ?_ _
              go_wp2_with fail
              go_roundw
              case rel => exact ⟨j + 1, by omega, by go_num, HBQ.out.trans (HX2.out.mono HBQ.out.size)⟩
              case measure => simp [intOf]; omega
            · have d2 : decide ((j : Int) < (x.ins.length : Int)) = false := decide_eq_false (by omega)
              have ca0 : wq.cell? ⟨wk.heap.size, 0, none⟩ = some (.slice Ai x.ins.length ci) := ha.cell 0
              have t1 : wq.cell? ⟨wk.heap.size, 1, none⟩ = some (.int .i64 x.term.kind) := ha.cell 1
              have t3 : wq.cell? ⟨wk.heap.size, 3, none⟩ = some (.int .i64 x.term.to) := ha.cell 3
              have t4 : wq.cell? ⟨wk.heap.size, 4, none⟩ = some (.int .i64 x.term.els) := ha.cell 4
              have s1 : wq.cell? ⟨w15.heap.size, 1, none⟩ = some (.int .i64 tt.kind) := hb.cell 1
              have s3 : wq.cell? ⟨w15.heap.size, 3, none⟩ = some (.int .i64 tt.to) := hb.cell 3
              clear ha hb hbq hb6q
              go_upto_region 24 with fail
              rcases htk with htk | ⟨k2, k1, htk⟩
              · rw [htk] at s1
                have n0 : (x.term.kind != x.term.kind) = false := by simp
                go_wp2_with fail
                go_roundw
                case rel => exact ⟨k + 1, by omega, by go_num, HB6Q.out⟩
                case measure => simp [intOf]; omega
              · rw [k2] at t1
                rw [k1] at s1
                by_cases hto : tt.to = x.term.to
                · rw [hto] at s3
                  have n0 : (x.term.to != x.term.to) = false := by simp
                  go_wp2_with fail
                  go_roundw
                  case rel => exact ⟨k + 1, by omega, by go_num, HB6Q.out⟩
                  case measure => simp [intOf]; omega
                · have hte := htk.resolve_left hto
                  rw [hte] at s3 hto
                  have n9 : (x.term.els != x.term.to) = true := by simpa using hto
                  have n0 : (x.term.els != x.term.els) = false := by simp
                  go_wp2_with fail
                  go_roundw
                  case rel => exact ⟨k + 1, by omega, by go_num, HB6Q.out⟩
                  case measure => simp [intOf]; omega
        · have d1 : decide ((k : Int) < (f.blocks.length : Int)) = false := decide_eq_false (by omega)
          clear hbk
          go_wp2_with fail
          go_roundw
          case rel => exact ⟨i + 1, by omega, by go_num, HBK.out⟩
          case measure => simp [intOf]; omega
    · have e1' : decide ((i : Int) < (u.flows.length : Int)) = false := decide_eq_false (by omega)
      have g1 : decide ((ka1 : Int) ≤ (ka2 : Int)) = true := decide_eq_true (by have := hle.1; omega)
      have g2 : decide ((kb1 : Int) ≤ (kb2 : Int)) = true := decide_eq_true (by have := hle.2; omega)
      clear vx1 hbo
      go_upto_region 27 with (go_at_call 27; refine (HK1.out wo HBO.out).mono ?_; rintro e w9 ⟨rfl, hb9⟩)
      refine wp_world ?_
      intro w10 hw10
      have h9 : Below W6.heap.size W6 w9 := HBO.out.trans (hb9.mono HBO.out.size)
      have h10 : Below W6.heap.size W6 w10 := by rw [← hw10]; exact h9.alloc h9.size _
      have k10 : Blk w10 w9.heap.size 52 #[.int .i64 (ka1 : Int), .int .i64 (kb1 : Int)] := by rw [← hw10]; exact Blk.new w9 _ _
      have x0 : w10.cell? ⟨w5.heap.size, 0, none⟩ = some (.slice D1 u.arrays.length e1) := (blk_unit HX.out h10).1
      have x1 : w10.cell? ⟨w5.heap.size, 1, none⟩ = some (.slice D2 u.flows.length e2) := (blk_unit HX.out h10).2
      have H10 := Lib.hid h10
      have HK10 := Lib.hid k10
      have hl10 := k10.lt
      clear hw10 h9 h10 k10 hb9 va0 va1
      go_upto_region 28 with (go_at_call 27; refine (HK2.out w10 H10.out).mono ?_; rintro e w11 ⟨rfl, hb11⟩)
      refine wp_world ?_
      intro w12 hw12
      have h12 : Below w10.heap.size w10 w12 := by rw [← hw12]; exact hb11.alloc hb11.size _
      have k12 : Blk w12 w11.heap.size 52 #[.int .i64 (ka2 : Int), .int .i64 (kb2 : Int)] := by rw [← hw12]; exact Blk.new w11 _ _
      have k10 := HK10.out.below h12 hl10
      have y0 : w12.cell? ⟨w11.heap.size, 0, none⟩ = some (.int .i64 (ka2 : Int)) := k12.cell 0
      have y1 : w12.cell? ⟨w11.heap.size, 1, none⟩ = some (.int .i64 (kb2 : Int)) := k12.cell 1
      have z0 : w12.cell? ⟨w9.heap.size, 0, none⟩ = some (.int .i64 (ka1 : Int)) := k10.cell 0
      have z1 : w12.cell? ⟨w9.heap.size, 1, none⟩ = some (.int .i64 (kb1 : Int)) := k10.cell 1
      have H12 := Lib.hid (H10.out.trans (h12.mono H10.out.size))
      clear hw12 h12 k12 k10 hb11 x0 x1
      go_wp2
      go_ret
      exact ⟨rfl, HB6.out.trans (H12.out.mono HB6.out.size)⟩
end Go.Proofs.YtnpnhdmfdhnmfaaGreatDoor
