/- What does more than set a value stays, in its order, behind Dead; ends stay what they are: the walk of 'DeadKeepsSaid'. -/
import Derived.Test.YtkpigkopjfkepaaGreatDoorPkDeadAgain
import Derived.Test.YtkpigkopjfkepaaGreatDoorPkUIn
import Derived.Test.YtkpigkopjfkepaaGreatDoorPkArgs
import Derived.Test.YtkpigkopjfkepaaGreatDoorPkRegion
import Derived.BigQuiet
namespace Go.Proofs.YtkpigkopjfkepaaGreatDoor
open Go.RowKit

/-! ### plain -/
theorem kf_skip {l : List LIns} {n : Nat} (h : n < l.length) (hk : keptB l[n] = false) : (l.drop (n + 1)).filter keptB = (l.drop n).filter keptB := by
  rw [List.drop_eq_getElem_cons h, List.filter_cons, hk]; rfl
theorem kf_take {l : List LIns} {n : Nat} (h : n < l.length) (hk : keptB l[n] = true) : (l.drop n).filter keptB = l[n] :: (l.drop (n + 1)).filter keptB := by
  rw [List.drop_eq_getElem_cons h, List.filter_cons, hk]; rfl
theorem kf_end (l : List LIns) : (l.drop l.length).filter keptB = [] := by rw [List.drop_length]; rfl
set_option maxHeartbeats 2000000 in
theorem kept_any (x : LIns) (A : Option Addr) (m c : Nat) (w : World) : Calls Tryz.prog 16 #[.agg #[.int .i64 x.kind, .int .i64 x.d, .int .i64 x.a, .int .i64 x.b, .int .i64 x.op, .int .i64 x.n, .string x.name, .slice A m c]] w fun e w' => e = .returned (.bool (keptB x)) ∧ Below w.heap.size w w' := by
  obtain ⟨k, d, a, b, op, nn, nm, args⟩ := x
  have key : keptB ⟨k, d, a, b, op, nn, nm, args⟩ = decide (5 ≤ k ∨ (k = 4 ∧ (op = 4 ∨ op = 5))) := by unfold keptB; with_reducible rfl
  rw [key]
  clear key
  show Calls _ _ #[.agg #[.int .i64 k, .int .i64 d, .int .i64 a, .int .i64 b, .int .i64 op, .int .i64 nn, .string nm, .slice A m c]] _ _
  by_cases h5 : 5 ≤ k
  · have e : decide (5 ≤ k ∨ (k = 4 ∧ (op = 4 ∨ op = 5))) = true := decide_eq_true (.inl h5)
    have b5 : decide (k ≥ 5) = true := decide_eq_true h5
    rw [e]
    clear e
    go_enter Tryz.func16, Tryz.ntmps16
    go_wp2
    go_ret
    exact ⟨rfl, below1 _ _⟩
  have b5 : decide (k ≥ 5) = false := decide_eq_false h5
  by_cases h4 : k = 4
  · have b4 : (k == 4) = true := by simp [h4]
    by_cases o4 : op = 4
    · have e : decide (5 ≤ k ∨ (k = 4 ∧ (op = 4 ∨ op = 5))) = true := decide_eq_true (.inr ⟨h4, .inl o4⟩)
      have c4 : (op == 4) = true := by simp [o4]
      rw [e]
      clear e h4 o4
      go_enter Tryz.func16, Tryz.ntmps16
      go_wp2
      go_ret
      exact ⟨rfl, below1 _ _⟩
    by_cases o5 : op = 5
    · have e : decide (5 ≤ k ∨ (k = 4 ∧ (op = 4 ∨ op = 5))) = true := decide_eq_true (.inr ⟨h4, .inr o5⟩)
      have c4 : (op == 4) = false := by simp [o4]
      have c5 : (op == 5) = true := by simp [o5]
      rw [e]
      clear e h4 o4 o5
      go_enter Tryz.func16, Tryz.ntmps16
      go_wp2
      go_ret
      exact ⟨rfl, below1 _ _⟩
    · have e : decide (5 ≤ k ∨ (k = 4 ∧ (op = 4 ∨ op = 5))) = false := decide_eq_false (by omega)
      have c4 : (op == 4) = false := by simp [o4]
      have c5 : (op == 5) = false := by simp [o5]
      rw [e]
      clear e h4 o4 o5
      go_enter Tryz.func16, Tryz.ntmps16
      go_wp2
      go_ret
      exact ⟨rfl, below1 _ _⟩
  · have b4 : (k == 4) = false := by simp [h4]
    have e : decide (5 ≤ k ∨ (k = 4 ∧ (op = 4 ∨ op = 5))) = false := decide_eq_false (by omega)
    rw [e]
    clear e h4
    go_enter Tryz.func16, Tryz.ntmps16
    go_wp2
    go_ret
    exact ⟨rfl, below1 _ _⟩

set_option maxRecDepth 100000 in
set_option maxHeartbeats 16000000 in
theorem deadKeeps_walk (vr : Value) (raw : List LBlock) (hI : ∀ x ∈ raw, x.I) (w : World) (hsl : SlR w (· < w.heap.size) 5 (RBlock w (· < w.heap.size)) vr raw) :
    Calls Tryz.prog 5 #[vr] w fun e w' => e = .returned (.bool true) ∧ Below w.heap.size w w' := by
  obtain ⟨Ar, cr, hvr, _, _⟩ := hsl.val
  subst hvr
  have HAW := Lib.hid (awake15_any w)
  have HFIT := Lib.hid (fun (X : World) (hb : Below w.heap.size w X) => fit_u raw hI (.slice Ar raw.length cr) X (slr_at mono_block hsl hb))
  have huo := unit_fit raw
  have hus := small_fit raw
  generalize fitU raw = u at HFIT huo hus
  have hfl := huo.fls
  have HUO := Lib.hid huo
  have HUS := Lib.hid hus
  have HD1 := Lib.hid (fun (X : World) (A1 A2 : Option Addr) (c1 c2 : Nat) (h : UIn u X A1 A2 c1 c2) => dead_u huo hus h)
  clear hsl hI huo hus
  go_enter Tryz.func5, Tryz.ntmps5
  go_upto_region 3 with (first | (go_at_call 8; refine HAW.out.mono ?_; rintro e w2 ⟨rfl, hb2⟩) | (go_at_call 9; refine (HFIT.out _ hb2).mono ?_; rintro e w3 ⟨A1, A2, c1, c2, rfl, hb3, hui⟩))
  refine wp_world ?_
  intro W hW
  have hB3 : Below w.heap.size w w3 := hb2.trans (hb3.mono hb2.size)
  have hB : Below w.heap.size w W := by rw [← hW]; exact hB3.alloc hB3.size _
  have hU : Blk W w3.heap.size 27 #[.slice A1 u.arrays.length c1, .slice A2 u.flows.length c2] := by rw [← hW]; exact Blk.new w3 _ _
  have hui3 : UIn u W A1 A2 c1 c2 := by rw [← hW]; exact hui.below (below1 w3 _)
  have v0 : W.cell? ⟨w3.heap.size, 0, none⟩ = some (.slice A1 u.arrays.length c1) := hU.cell 0
  have v1 : W.cell? ⟨w3.heap.size, 1, none⟩ = some (.slice A2 u.flows.length c2) := hU.cell 1
  have HB := Lib.hid hB
  have HU := Lib.hid hU
  have HUI := Lib.hid hui3
  clear hW hB3 hB hU hui3 hui hb2 hb3 HAW HFIT
  go_upto_region 4 with (go_at_call 10; refine (HD1.out W A1 A2 c1 c2 HUI.out).mono ?_; rintro e w5 ⟨B1, B2, d4, d5, rfl, hb5, hvi⟩)
  refine wp_world ?_
  intro W6 hW6
  have hb51 : Below w5.heap.size w5 W6 := by rw [← hW6]; exact below1 _ _
  have hB6 : Below W.heap.size W W6 := by rw [← hW6]; exact hb5.alloc hb5.size _
  have hV : Blk W6 w5.heap.size 27 #[.slice B1 u.arrays.length d4, .slice B2 u.flows.length d5] := by rw [← hW6]; exact Blk.new w5 _ _
  have hvf := (hvi.below hb51).flo
  have hdl : (deadE u).flows.length = u.flows.length := List.length_map _
  rw [hdl] at hvf
  have huf := (HUI.out.below hB6).flo
  have hU6 := HU.out.below hB6 HU.out.lt
  have v1 : W6.cell? ⟨w3.heap.size, 1, none⟩ = some (.slice A2 u.flows.length c2) := hU6.cell 1
  have x1 : W6.cell? ⟨w5.heap.size, 1, none⟩ = some (.slice B2 u.flows.length d5) := hV.cell 1
  have n0 : ((u.flows.length : Int) != (u.flows.length : Int)) = false := by simp
  have HB6 := Lib.hid (HB.out.trans (hB6.mono HB.out.size))
  have HV := Lib.hid hV
  have HU6 := Lib.hid hU6
  have HUF := Lib.hid huf
  have HVF := Lib.hid hvf
  have HDL := Lib.hid hdl
  clear hW6 hb51 hB6 hV hvf huf hU6 hvi hb5 v0 HD1 hdl
  go_wp2_with fail
  go_loopw [7] (fun s wr => ∃ i : Nat, i ≤ u.flows.length ∧ s = .int .i64 i ∧ Below W6.heap.size W6 wr) (fun s _ => u.flows.length - (intOf s).toNat)
  case atStart => exact ⟨0, by omega, rfl, Below.refl _ _⟩
  case round =>
    obtain ⟨wo, hwo⟩ : ∃ wo, wo = wr := ⟨_, rfl⟩
    subst hwo
    obtain ⟨i, hi, rfl, hbo⟩ := hrel
    have HBO := Lib.hid hbo
    clear v1 x1
    have va1 : wo.cell? ⟨w3.heap.size, 1, none⟩ = some (.slice A2 u.flows.length c2) := (blk_unit HU6.out hbo).2
    by_cases hlt : i < u.flows.length
    · have e1' : decide ((i : Int) < (u.flows.length : Int)) = true := decide_eq_true (by omega)
      have hi3 : (i : Int) < (u.flows.length : Int) := by omega
      obtain ⟨gf, of_, rfl⟩ := sl_some HUF.out (by omega)
      obtain ⟨gv, ov, rfl⟩ := sl_some HVF.out (by rw [HDL.out]; omega)
      obtain ⟨Ab, cb, hsb, hfc⟩ := flow_cells HUF.out hlt
      obtain ⟨Db, eb, hsd, hvc⟩ := flow_cells HVF.out (i := i) (by rw [HDL.out]; exact hlt)
      have hfv : (deadE u).flows[i]'(by rw [HDL.out]; exact hlt) = deadF u.flows[i] := by simp [deadE, mapU]
      rw [hfv] at hsd hvc
      obtain ⟨f, hfe⟩ : ∃ f, f = u.flows[i] := ⟨_, rfl⟩
      have hfm : f ∈ u.flows := by rw [hfe]; exact List.getElem_mem _
      rw [← hfe] at hsb hfc hsd hvc
      obtain ⟨hgd, hnx, hbl, hil⟩ := sweeps_good HUO.out HUS.out hfm 0
      have hpos : 0 < f.blocks.length := hnx.1
      have HNX : Hid (NextOk f) := Lib.hid hnx
      obtain ⟨q0, q1, q2, q3⟩ := hfc wo hbo
      have HRE := Lib.hid (reach_any f hgd hpos hbl (.slice Ab f.blocks.length cb) wo (slr_at mono_block hsb hbo))
      have hbl' : f.blocks.length ≤ 1000 := hbl
      have HSB := Lib.hid hsb
      have HSD := Lib.hid hsd
      have HVC := Lib.hid hvc
      have HFC := Lib.hid hfc
      clear hsb hfc hsd hvc hfv hfe hfm hgd hnx hbl hil hbo
      go_upto_region 10 with (go_at_call 15; refine HRE.out.mono ?_; rintro e w8 ⟨vM, M, rfl, hb8, hsM, hML, hvis⟩; obtain ⟨gM, oM, cM, hvM, _, _, hgM, hqM⟩ := hsM.form (by omega); rw [hML] at hvM; subst hvM)
      refine wp_world ?_
      intro w8' hw8'
      obtain rfl : w8 = w8' := hw8'
      have hcom : ∀ k (hk : k < f.blocks.length), w8.cell? ⟨gM, oM + k, none⟩ = some (.bool (comeB f k)) := fun k hk => by
        have hkM : k < M.length := by omega
        obtain ⟨cs, hcl, hcs, hcell⟩ := hqM k hkM
        have hcs' : cs = [.bool M[k]] := hcs
        subst hcs'
        have h := hcell.at_ (j := 0) rfl
        rw [come_marks (hvis hpos) hkM] at h
        simpa using h
      have HCOM := Lib.hid hcom
      have hb68 : Below W6.heap.size W6 w8 := HBO.out.trans (hb8.mono HBO.out.size)
      have HB68 := Lib.hid hb68
      have hp0 := place_zero f
      clear hcom hqM hsM hvis hML hb8 hb68 q0 q1 q2 q3 HRE va1
      go_wp2_with fail
      go_loopw [9, 10] (fun s9 s wr => ∃ k : Nat, k ≤ f.blocks.length ∧ s = .int .i64 k ∧ s9 = .int .i64 (placeN f k : Int) ∧ Below w8.heap.size w8 wr) (fun _ s _ => f.blocks.length - (intOf s).toNat)
      case atStart => exact ⟨0, by omega, rfl, by rw [hp0]; rfl, Below.refl _ _⟩
      case round =>
        obtain ⟨wk, hwk⟩ : ∃ wk, wk = wr := ⟨_, rfl⟩
        subst hwk
        obtain ⟨k, hk, rfl, rfl, hbk⟩ := hrel
        clear hp0
        have hb6k : Below W6.heap.size W6 wk := HB68.out.trans (hbk.mono HB68.out.size)
        have vx1 : wk.cell? ⟨w5.heap.size, 1, none⟩ = some (.slice (some ⟨gv, ov, none⟩) u.flows.length d5) := (blk_unit HV.out hb6k).2
        have vu1 : wk.cell? ⟨w3.heap.size, 1, none⟩ = some (.slice (some ⟨gf, of_, none⟩) u.flows.length c2) := (blk_unit HU6.out hb6k).2
        obtain ⟨_, _, _, r3⟩ := HVC.out wk hb6k
        obtain ⟨_, _, _, s3⟩ := HFC.out wk hb6k
        have hpl := place_le f k
        have HB6K := Lib.hid hb6k
        have HBK := Lib.hid hbk
        by_cases hltk : k < f.blocks.length
        · have d1 : decide ((k : Int) < (f.blocks.length : Int)) = true := decide_eq_true (by omega)
          have hk3 : (k : Int) < (f.blocks.length : Int) := by omega
          have y0 : wk.cell? ⟨gM, oM + k, none⟩ = some (.bool (comeB f k)) := (hbk.cell (p := ⟨gM, oM + k, none⟩) hgM.2).trans (HCOM.out k hltk)
          cases hc : comeB f k with
          | false =>
            rw [hc] at y0
            have hps : placeN f (k + 1) = placeN f k := by rw [place_succ, hc]; rfl
            have HPS := Lib.hid hps
            clear hps hbk hb6k vx1 vu1 r3 s3
            go_wp2_with fail
            go_roundw
            case rel => exact ⟨k + 1, by omega, by go_num, by rw [HPS.out], HBK.out⟩
            case measure => simp [intOf]; omega
          | true =>
            rw [hc] at y0
            have hps : placeN f (k + 1) = placeN f k + 1 := by rw [place_succ, hc]; rfl
            obtain ⟨hdp, hdk, hdt, hda⟩ := dead_kept hltk hc
            obtain ⟨L, hL⟩ : ∃ L, L = (deadF f).blocks.length := ⟨_, rfl⟩
            have hdp3 : (placeN f k : Int) < (L : Int) := by omega
            have g9 : decide ((placeN f k : Int) ≥ (L : Int)) = false := decide_eq_false (by omega)
            have g9' : ¬ L ≤ placeN f k := by omega
            obtain ⟨gb, ob, rfl⟩ := sl_some HSB.out (by omega)
            obtain ⟨gd, od, rfl⟩ := sl_some HSD.out (by omega)
            obtain ⟨Ai, ci, hsi, hbc⟩ := block_cells HSB.out hltk
            obtain ⟨Bi, di, hsj, hdc⟩ := block_cells HSD.out hdp
            obtain ⟨x, hxe⟩ : ∃ x, x = f.blocks[k] := ⟨_, rfl⟩
            obtain ⟨y, hye⟩ : ∃ y, y = (deadF f).blocks[placeN f k] := ⟨_, rfl⟩
            rw [← hxe] at hsi hbc hdk hdt hda
            rw [← hye] at hsj hdc hdk hdt hda
            rw [← hL] at r3
            obtain ⟨a0, a1, a2, a3, a4⟩ := hbc wk hb6k
            have HPS := Lib.hid hps
            have HSI := Lib.hid hsi
            have HSJ := Lib.hid hsj
            have HDC := Lib.hid hdc
            have HDK := Lib.hid hdk
            have HDT := Lib.hid hdt
            have HDA := Lib.hid hda
            have HL := Lib.hid hL
            have hxl := hsi.len_le
            have hyl := hsj.len_le
            unfold maxLen at hxl hyl
            clear hps hdp hdk hdt hda hsi hbc hsj hdc hxe hye hL hbk hb6k
            go_upto_region 18 with fail
            refine wp_world ?_
            intro w15 hw15
            have h15 : Below wk.heap.size wk w15 := by rw [← hw15]; exact below1 _ _
            have x15 : Blk w15 wk.heap.size 48 #[.slice Ai x.ins.length ci, .int .i64 x.term.kind, .int .i64 x.term.a, .int .i64 x.term.to, .int .i64 x.term.els] := by rw [← hw15]; exact Blk.new wk _ _
            have hl15 : wk.heap.size < w15.heap.size := x15.lt
            have hb15 : Below W6.heap.size W6 w15 := HB6K.out.trans (h15.mono HB6K.out.size)
            have vx1' : w15.cell? ⟨w5.heap.size, 1, none⟩ = some (.slice (some ⟨gv, ov, none⟩) u.flows.length d5) := (blk_unit HV.out hb15).2
            obtain ⟨_, _, _, r3'⟩ := HVC.out w15 hb15
            rw [← HL.out] at r3'
            obtain ⟨b0, b1, b2, b3, b4⟩ := HDC.out w15 hb15
            have HX15 := Lib.hid x15
            have HB15 := Lib.hid hb15
            have H15 := Lib.hid h15
            clear hw15 h15 x15 hb15 a0 a1 a2 a3 a4 vx1 vu1 r3 s3 y0
            go_upto_region 19 with fail
            refine wp_world ?_
            intro W7 hW7
            have h7 : Below w15.heap.size w15 W7 := by rw [← hW7]; exact below1 _ _
            have hXB : Blk W7 w15.heap.size 48 #[.slice Bi y.ins.length di, .int .i64 y.term.kind, .int .i64 y.term.a, .int .i64 y.term.to, .int .i64 y.term.els] := by rw [← hW7]; exact Blk.new w15 _ _
            have hXA := HX15.out.below h7 hl15
            have hb7 : Below W6.heap.size W6 W7 := HB15.out.trans (h7.mono HB15.out.size)
            have hb87 : Below w8.heap.size w8 W7 := HBK.out.trans ((H15.out.trans (h7.mono H15.out.size)).mono HBK.out.size)
            have HXA := Lib.hid hXA
            have HXB := Lib.hid hXB
            have HB7 := Lib.hid hb7
            have HB87 := Lib.hid hb87
            clear hW7 h7 hXA hXB hb7 hb87 b0 b1 b2 b3 b4 vx1' r3' HX15
            go_wp2_with fail
            go_loopw [13, 14] (fun s13 s wr => ∃ j at_ : Nat, j ≤ x.ins.length ∧ at_ ≤ y.ins.length ∧ s = .int .i64 j ∧ s13 = .int .i64 at_ ∧ Hid ((y.ins.drop at_).filter keptB = (x.ins.drop j).filter keptB) ∧ Below W7.heap.size W7 wr) (fun _ s _ => x.ins.length - (intOf s).toNat)
            case atStart => exact ⟨0, 0, by omega, by omega, rfl, rfl, Lib.hid (by simpa using HDK.out), Below.refl _ _⟩
            case round =>
              as_aux_lemma =>
                obtain ⟨wq, hwq⟩ : ∃ wq, wq = wr := ⟨_, rfl⟩
                subst hwq
                obtain ⟨j, at_, hj, hat, rfl, rfl, hkf, hbq⟩ := hrel
                have HBQ := Lib.hid hbq
                have ha := HXA.out.below hbq HXA.out.lt
                have hb := HXB.out.below hbq HXB.out.lt
                have hb6q : Below W6.heap.size W6 wq := HB7.out.trans (hbq.mono HB7.out.size)
                by_cases hltj : j < x.ins.length
                · have d2 : decide ((j : Int) < (x.ins.length : Int)) = true := decide_eq_true (by omega)
                  have hj3 : (j : Int) < (x.ins.length : Int) := by omega
                  have ca0 : wq.cell? ⟨wk.heap.size, 0, none⟩ = some (.slice Ai x.ins.length ci) := ha.cell 0
                  obtain ⟨gi, oi, rfl⟩ := sl_some HSI.out (by omega)
                  obtain ⟨Ax, cx, _, hic⟩ := ins_cells HSI.out hltj
                  obtain ⟨ya, hya⟩ : ∃ ya, ya = x.ins[j] := ⟨_, rfl⟩
                  rw [← hya] at hic
                  obtain ⟨p0, p1, p2, p3, p4, p5, p6, p7⟩ := hic wq hb6q
                  have HKA := Lib.hid (kept_any ya Ax ya.args.length cx wq)
                  have HIC := Lib.hid hic
                  have HYA := Lib.hid hya
                  clear ha hb hic hya hb6q hbq
                  cases hka : keptB ya with
                  | false =>
                    rw [hka] at HKA
                    have hkn : (y.ins.drop at_).filter keptB = (x.ins.drop (j + 1)).filter keptB := by rw [kf_skip hltj (by rw [← HYA.out]; exact hka)]; exact hkf.out
                    have HKN := Lib.hid hkn
                    clear hkn hka
                    go_wp2_with (go_at_call 16; refine HKA.out.mono ?_; rintro e w20 ⟨rfl, hb20⟩)
                    go_roundw
                    case rel => exact ⟨j + 1, at_, by omega, hat, by go_num, rfl, HKN, HBQ.out.trans (hb20.mono HBQ.out.size)⟩
                    case measure => simp [intOf]; omega
                  | true =>
                    rw [hka] at HKA
                    have hkn : (y.ins.drop at_).filter keptB = ya :: (x.ins.drop (j + 1)).filter keptB := by
                      have h := hkf.out
                      rw [kf_take hltj (by rw [← HYA.out]; exact hka), ← HYA.out] at h
                      exact h
                    have HKN := Lib.hid hkn
                    clear hkn hka hkf
                    go_upto_region 25 with (go_at_call 16; refine HKA.out.mono ?_; rintro e w20 ⟨rfl, hb20⟩)
                    refine wp_world ?_
                    intro w20' hw20'
                    obtain rfl : w20 = w20' := hw20'
                    have hb720 := HBQ.out.trans (hb20.mono HBQ.out.size)
                    have HB720 := Lib.hid hb720
                    clear hb20 hb720 p0 p1 p2 p3 p4 p5 p6 p7 ca0 HKA
                    go_loopw [13] (fun s13 wr => ∃ at2 : Nat, at2 ≤ y.ins.length ∧ s13 = .int .i64 at2 ∧ Hid ((y.ins.drop at2).filter keptB = ya :: (x.ins.drop (j + 1)).filter keptB) ∧ Below W7.heap.size W7 wr) (fun s _ => y.ins.length - (intOf s).toNat)
                    case atStart => exact ⟨at_, hat, rfl, HKN, HB720.out⟩
                    case round =>
                      as_aux_lemma =>
                        obtain ⟨wz, hwz⟩ : ∃ wz, wz = wr := ⟨_, rfl⟩
                        subst hwz
                        obtain ⟨at2, hat2, rfl, hkf2, hbz⟩ := hrel
                        by_cases hlt2 : at2 < y.ins.length
                        · have d3 : decide ((at2 : Int) < (y.ins.length : Int)) = true := decide_eq_true (by omega)
                          have hat3 : (at2 : Int) < (y.ins.length : Int) := by omega
                          have hb6z : Below W6.heap.size W6 wz := HB7.out.trans (hbz.mono HB7.out.size)
                          have cb0 : wz.cell? ⟨w15.heap.size, 0, none⟩ = some (.slice Bi y.ins.length di) := (HXB.out.below hbz HXB.out.lt).cell 0
                          obtain ⟨gj, oj, rfl⟩ := sl_some HSJ.out (by omega)
                          obtain ⟨Bx, dx, _, hjc⟩ := ins_cells HSJ.out hlt2
                          obtain ⟨yb, hyb⟩ : ∃ yb, yb = y.ins[at2] := ⟨_, rfl⟩
                          rw [← hyb] at hjc
                          obtain ⟨p0, p1, p2, p3, p4, p5, p6, p7⟩ := hjc wz hb6z
                          have HKB := Lib.hid (kept_any yb Bx yb.args.length dx wz)
                          have HBZ := Lib.hid hbz
                          cases hkb : keptB yb with
                          | false =>
                            rw [hkb] at HKB
                            have hkn : (y.ins.drop (at2 + 1)).filter keptB = ya :: (x.ins.drop (j + 1)).filter keptB := by rw [kf_skip hlt2 (by rw [← hyb]; exact hkb)]; exact hkf2.out
                            have HKN2 := Lib.hid hkn
                            clear hkn hkb hyb hjc hbz hb6z hkf2
                            go_wp2_with (go_at_call 16; refine HKB.out.mono ?_; rintro e w21 ⟨rfl, hb21⟩)
                            go_roundw
                            case rel => exact ⟨at2 + 1, by omega, by go_num, HKN2, HBZ.out.trans (hb21.mono HBZ.out.size)⟩
                            case measure => simp [intOf]; omega
                          | true =>
                            rw [hkb] at HKB
                            have hkt : yb :: (y.ins.drop (at2 + 1)).filter keptB = ya :: (x.ins.drop (j + 1)).filter keptB := by
                              have h := hkf2.out
                              rw [kf_take hlt2 (by rw [← hyb]; exact hkb), ← hyb] at h
                              exact h
                            obtain ⟨hyy, hkn⟩ : yb = ya ∧ (y.ins.drop (at2 + 1)).filter keptB = (x.ins.drop (j + 1)).filter keptB := by injection hkt with h1 h2; exact ⟨h1, h2⟩
                            have HKN2 := Lib.hid hkn
                            rw [hyy] at hjc p0 p1 p2 p3 p4 p5 p6 p7 HKB
                            have HJC := Lib.hid hjc
                            clear hkn hkt hkb hyb hjc hbz hb6z hkf2 hyy
                            go_upto_region 27 with (go_at_call 16; refine HKB.out.mono ?_; rintro e w21 ⟨rfl, hb21⟩)
                            refine wp_world ?_
                            intro w22 hw22
                            have hb22 : Below W7.heap.size W7 w22 := by rw [← hw22]; exact HBZ.out.trans (hb21.mono HBZ.out.size)
                            have hb6x : Below W6.heap.size W6 w22 := HB7.out.trans (hb22.mono HB7.out.size)
                            have ca0 : w22.cell? ⟨wk.heap.size, 0, none⟩ = some (.slice (some ⟨gi, oi, none⟩) x.ins.length ci) := (HXA.out.below hb22 HXA.out.lt).cell 0
                            have cb1 : w22.cell? ⟨w15.heap.size, 0, none⟩ = some (.slice (some ⟨gj, oj, none⟩) y.ins.length di) := (HXB.out.below hb22 HXB.out.lt).cell 0
                            obtain ⟨m0, m1, m2, m3, _, _, _, _⟩ := HIC.out w22 hb6x
                            obtain ⟨l0, l1, l2, l3, _, _, _, _⟩ := HJC.out w22 hb6x
                            have HB22 := Lib.hid hb22
                            have f0 : ((at2 : Int) == (y.ins.length : Int)) = false := by rw [beq_eq_false_iff_ne]; omega
                            have f1 : (ya.kind != ya.kind) = false := by simp
                            have f2 : (ya.d != ya.d) = false := by simp
                            have f3 : (ya.a != ya.a) = false := by simp
                            have f4 : (ya.b != ya.b) = false := by simp
                            clear hw22 hb21 hb22 hb6x p0 p1 p2 p3 p4 p5 p6 p7 cb0 HKB
                            go_quiet (fail)
                            go_upto_region 29 with fail
                            refine wp_world ?_
                            intro wd hwd
                            have hbd : Below w22.heap.size w22 wd := by rw [← hwd]; exact belowN w22 _
                            have HBD := Lib.hid hbd
                            clear hwd hbd ca0 cb1 m0 m1 m2 m3 l0 l1 l2 l3
                            go_wp2_with fail
                            go_roundw
                            case rel => exact ⟨j + 1, at2 + 1, by omega, by omega, by go_num, by go_num, HKN2, HB22.out.trans (HBD.out.mono HB22.out.size)⟩
                            case measure => simp [intOf]; omega
                        · exfalso
                          have h := hkf2.out
                          obtain rfl : at2 = y.ins.length := by omega
                          rw [kf_end] at h
                          cases h
                · have d2 : decide ((j : Int) < (x.ins.length : Int)) = false := decide_eq_false (by omega)
                  have ca0 : wq.cell? ⟨wk.heap.size, 0, none⟩ = some (.slice Ai x.ins.length ci) := ha.cell 0
                  have t1 : wq.cell? ⟨wk.heap.size, 1, none⟩ = some (.int .i64 x.term.kind) := ha.cell 1
                  have t2 : wq.cell? ⟨wk.heap.size, 2, none⟩ = some (.int .i64 x.term.a) := ha.cell 2
                  have s1 : wq.cell? ⟨w15.heap.size, 1, none⟩ = some (.int .i64 x.term.kind) := by rw [← HDT.out]; exact hb.cell 1
                  have s2 : wq.cell? ⟨w15.heap.size, 2, none⟩ = some (.int .i64 x.term.a) := by rw [← HDA.out]; exact hb.cell 2
                  have k1 : (x.term.kind != x.term.kind) = false := by simp
                  have k2 : (x.term.a != x.term.a) = false := by simp
                  clear ha hb hbq hb6q
                  go_wp2_with fail
                  go_roundw
                  case rel => exact ⟨k + 1, by omega, by go_num, by rw [HPS.out]; rfl, HB87.out.trans (HBQ.out.mono HB87.out.size)⟩
                  case measure => simp [intOf]; omega
        · have d1 : decide ((k : Int) < (f.blocks.length : Int)) = false := decide_eq_false (by omega)
          obtain rfl : k = f.blocks.length := by omega
          have hdl := dead_len f
          rw [hdl] at r3
          have n9 : ((placeN f f.blocks.length : Int) != (placeN f f.blocks.length : Int)) = false := by simp
          clear hbk hb6k hdl
          go_wp2_with fail
          go_roundw
          case rel => exact ⟨i + 1, by omega, by go_num, HB6K.out⟩
          case measure => simp [intOf]; omega
    · have e1' : decide ((i : Int) < (u.flows.length : Int)) = false := decide_eq_false (by omega)
      clear hbo
      go_wp2
      go_ret
      exact ⟨rfl, HB6.out.trans (HBO.out.mono HB6.out.size)⟩
end Go.Proofs.YtkpigkopjfkepaaGreatDoor
