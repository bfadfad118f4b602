/- A block that leads nowhere: the proof of 'FlowStraightSaid', with no condition. -/
import Derived.Test.YtknccacfhknnaaaStepPlain
namespace Go.Proofs.Ytknccacfhknnaaa
open Go.ChangeShapes Go.WideShapes Go.ChangeAt Go.RowKit Go.Maps

set_option maxRecDepth 100000 in
set_option maxHeartbeats 4000000 in
theorem flowStraight_walk (vr : Value) (a : Int) (hvr : ∃ A n c, vr = .slice A n c) (raw : List LBlock) (hI : ∀ x ∈ raw, x.I) (w : World) (hv : SlR w (· < w.heap.size) 5 (RBlock w (· < w.heap.size)) vr raw) (hwh : (Lit.int .i64 a).wf = true) :
    Calls Try.prog 6 #[vr, .int .i64 a] w fun e w' => e = .returned (.bool true) ∧ Below w.heap.size w w' := by
  obtain ⟨A0, n0, c0, rfl⟩ := hvr
  have HP := Lib.hid (fun w => pick13_any a 10 (i64_of_wf hwh).1 (i64_of_wf hwh).2 (by omega) w)
  have hpk := pk_small a
  generalize hpa : pk a 10 = r at *
  have HV := Lib.hid hv
  have HPA := Lib.hid hpa
  have HPK := Lib.hid hpk
  clear hv hwh hpa hpk
  have hfld := field_flows
  go_enter Try.func6, Try.ntmps6
  go_upto_region 2 with (go_at_call 11; refine (awake13_any _).mono ?_; rintro e w1 ⟨rfl, hb1⟩)
  have HF := Lib.hid (fit_flows raw hI (.slice A0 n0 c0) w1 (HV.out.imp (fun _ h => Nat.lt_of_lt_of_le h hb1.size) (fun b h => hb1.block b h) (fun _ _ _ r => r.imp (fun _ h => Nat.lt_of_lt_of_le h hb1.size) (fun b h => hb1.block b h))))
  have HB1 := Lib.hid hb1
  clear hb1
  have hGF := good_fit raw 0
  have hpos := fit_pos raw 0
  have hil := fit_ins raw 0
  have hlaw := law_fit raw 0
  generalize hf : fitFl raw 0 = f at *
  have HGF := Lib.hid hGF
  have HIL := Lib.hid hil
  have HLAW := Lib.hid hlaw
  clear hGF hil hlaw
  go_upto_region 3 with (go_at_call 12; refine HF.out.mono ?_; rintro e w2 ⟨Aa, ca, b, off, c, rfl, hb2, hbl, hff⟩; obtain ⟨A, cc, q0, q1, q2, q3, hsl⟩ := hff 0 (by omega); have HSL := Lib.hid hsl; have HB2 := Lib.hid hb2; rw [hf] at q0 q1 q2 q3; simp only [Nat.zero_mul, Nat.add_zero] at q0 q1 q2 q3; clear hff hsl hb2)
  clear q0 q1 q2 q3 hfld
  refine wp_world ?_
  intro W hW
  have hBW : Below w2.heap.size w2 W := by rw [← hW]; exact below1 _ _
  have hF : Blk W w2.heap.size 25 #[.string f.name, .int .i64 f.params, .int .i64 f.values, .slice A f.blocks.length cc] := by rw [← hW]; exact Blk.new_at _ _ _ rfl
  clear hW
  have hsl2 := HSL.out
  rw [hf] at hsl2
  have hSW : SlR W (· < w2.heap.size) 5 (RBlock W (· < w2.heap.size)) (.slice A f.blocks.length cc) f.blocks := hsl2.imp (fun _ h => h) (fun b h => hBW.block b h) (fun _ _ _ r => r.imp (fun _ h => h) (fun b h => hBW.block b h))
  obtain ⟨bb, ob, cb, hfb, _, _, hbb, hblk⟩ := hSW.form hpos
  obtain rfl : A = some ⟨bb, ob, none⟩ := by injection hfb
  obtain ⟨cs, _, ⟨vi, hcs, hins⟩, hcell⟩ := hblk 0 hpos
  subst hcs
  have hil0 := HIL.out _ (List.getElem_mem hpos)
  have hlaw0 := HLAW.out _ (List.getElem_mem hpos)
  have hgood0 := (HGF.out _ (List.getElem_mem hpos)).ins
  obtain ⟨ins, hinse⟩ : ∃ l, l = f.blocks[0].ins := ⟨_, rfl⟩
  obtain ⟨t, ht⟩ : ∃ t, t = f.blocks[0].term := ⟨_, rfl⟩
  rw [← hinse] at hins hil0 hlaw0 hgood0
  rw [← ht] at hcell
  obtain ⟨Ai, ci, hvi, _, _⟩ := hins.val
  subst hvi
  have i0 : W.cell? ⟨bb, ob, none⟩ = some (.slice Ai ins.length ci) := by have h := hcell.at_ (j := 0) rfl; simpa using h
  have i1 : W.cell? ⟨bb, ob + 1, none⟩ = some (.int .i64 t.kind) := by have h := hcell.at_ (j := 1) rfl; simpa using h
  have i2 : W.cell? ⟨bb, ob + 2, none⟩ = some (.int .i64 t.a) := by have h := hcell.at_ (j := 2) rfl; simpa using h
  have i3 : W.cell? ⟨bb, ob + 3, none⟩ = some (.int .i64 t.to) := by have h := hcell.at_ (j := 3) rfl; simpa using h
  have i4 : W.cell? ⟨bb, ob + 4, none⟩ = some (.int .i64 t.els) := by have h := hcell.at_ (j := 4) rfl; simpa using h
  have c3 : W.cell? ⟨w2.heap.size, 3, none⟩ = some (.slice (some ⟨bb, ob, none⟩) f.blocks.length cc) := hF.cell 3
  have p0 : (0 : Int) < (f.blocks.length : Int) := by omega
  have hll := hins.len_le
  unfold maxLen at hll
  have HINS := Lib.hid hins
  have HL0 := Lib.hid hlaw0
  have HG0 := Lib.hid hgood0
  have HIL0 := Lib.hid hil0
  have HBW := Lib.hid hBW
  have HFW := Lib.hid hF
  clear hins hlaw0 hgood0 hil0 hBW hF hsl2 hSW hfb hcell hblk hbb hf HSL HIL HLAW HGF ht hinse
  go_upto_region 4 with fail
  refine wp_world ?_
  intro W1 hW1
  have hB1 : Below W.heap.size W W1 := by rw [← hW1]; exact below1 _ _
  have hK : Blk W1 W.heap.size 38 #[.slice Ai ins.length ci, .int .i64 t.kind, .int .i64 t.a, .int .i64 t.to, .int .i64 t.els] := by rw [← hW1]; exact Blk.new_at _ _ _ rfl
  have hF1 := HFW.out.below hB1 HFW.out.lt
  have hne : w2.heap.size ≠ W.heap.size := by have := HFW.out.lt; omega
  have hfl1 : w2.heap.size < W1.heap.size := hF1.lt
  have hkl1 : W.heap.size < W1.heap.size := hK.lt
  have HBW1 := Lib.hid hB1
  have HK1 := Lib.hid hK
  have HF1 := Lib.hid hF1
  clear i0 i1 i2 i3 i4 c3 hB1 hK hF1 hW1 p0
  have k0 : W1.cell? ⟨W.heap.size, 0, none⟩ = some (.slice Ai ins.length ci) := HK1.out.cell 0
  have k1 : W1.cell? ⟨W.heap.size, 1, none⟩ = some (.int .i64 t.kind) := HK1.out.cell 1
  have k2 : W1.cell? ⟨W.heap.size, 2, none⟩ = some (.int .i64 t.a) := HK1.out.cell 2
  have k3 : W1.cell? ⟨W.heap.size, 3, none⟩ = some (.int .i64 t.to) := HK1.out.cell 3
  have k4 : W1.cell? ⟨W.heap.size, 4, none⟩ = some (.int .i64 t.els) := HK1.out.cell 4
  have z0 := HK1.out.frozen 0
  have z1 := HK1.out.frozen 1
  have z2 := HK1.out.frozen 2
  have z3 := HK1.out.frozen 3
  have z4 := HK1.out.frozen 4
  go_upto_region 5 with (go_at_call 13; refine (HP.out _).mono ?_; rintro e w' ⟨rfl, rfl⟩)
  refine wp_world ?_
  intro W2 hW2
  have hK2 : Blk W2 W.heap.size 38 #[.slice Ai ins.length ci, .int .i64 3, .int .i64 r, .int .i64 0, .int .i64 0] := by rw [← hW2]; exact (((HK1.out.set_ 1 _).set_ 2 _).set_ 3 _).set_ 4 _
  have hF2 : Blk W2 w2.heap.size 25 #[.string f.name, .int .i64 f.params, .int .i64 f.values, .slice (some ⟨bb, ob, none⟩) f.blocks.length cc] := by rw [← hW2]; exact (((HF1.out.far hne _).far hne _).far hne _).far hne _
  have hB2 : Below W.heap.size W W2 := by rw [← hW2]; exact (((HBW1.out.setCell (Nat.le_refl _) _).setCell (Nat.le_refl _) _).setCell (Nat.le_refl _) _).setCell (Nat.le_refl _) _
  clear hW2 k0 k1 k2 k3 k4 z0 z1 z2 z3 z4 hfl1 hkl1
  have HBW2 := Lib.hid hB2
  have HK2 := Lib.hid hK2
  have HF2 := Lib.hid hF2
  have hfl2 : w2.heap.size < W2.heap.size := hF2.lt
  have hkl2 : W.heap.size < W2.heap.size := hK2.lt
  clear hB2 hK2 hF2 HBW1 HK1 HF1
  have k0 : W2.cell? ⟨W.heap.size, 0, none⟩ = some (.slice Ai ins.length ci) := HK2.out.cell 0
  have k1 : W2.cell? ⟨W.heap.size, 1, none⟩ = some (.int .i64 3) := HK2.out.cell 1
  have k2 : W2.cell? ⟨W.heap.size, 2, none⟩ = some (.int .i64 r) := HK2.out.cell 2
  have k3 : W2.cell? ⟨W.heap.size, 3, none⟩ = some (.int .i64 0) := HK2.out.cell 3
  have k4 : W2.cell? ⟨W.heap.size, 4, none⟩ = some (.int .i64 0) := HK2.out.cell 4
  have f3 : W2.cell? ⟨w2.heap.size, 3, none⟩ = some (.slice (some ⟨bb, ob, none⟩) f.blocks.length cc) := HF2.out.cell 3
  have z3 := HF2.out.frozen 3
  go_upto_region 6 with fail
  refine wp_world ?_
  intro W3 hW3
  have hA3 : Blk W3 W2.heap.size 38 #[.slice Ai ins.length ci, .int .i64 3, .int .i64 r, .int .i64 0, .int .i64 0] := by rw [← hW3]; exact Blk.new_at _ _ _ (by simp)
  have hK3 : Blk W3 W.heap.size 38 #[.slice Ai ins.length ci, .int .i64 3, .int .i64 r, .int .i64 0, .int .i64 0] := by rw [← hW3]; exact (HK2.out.far (fun h => hne h.symm) _).alloc _
  have hF3 : Blk W3 w2.heap.size 25 #[.string f.name, .int .i64 f.params, .int .i64 f.values, .slice (some ⟨W2.heap.size, 0, none⟩) 1 1] := by rw [← hW3]; exact (HF2.out.set_ 3 _).alloc _
  have hB3 : Below w2.heap.size w2 W3 := by
    rw [← hW3]
    have h2 := HBW.out.trans (HBW2.out.mono HBW.out.size)
    exact (h2.setCell (Nat.le_refl _) _).alloc (by simpa using h2.size) _
  clear hW3 k0 k1 k2 k3 k4 f3 z3 hfl2 hkl2
  have hins3 : SlR W3 (· < w2.heap.size) 8 (RIns W3 (· < w2.heap.size)) (.slice Ai ins.length ci) ins := HINS.out.imp (fun _ h => h) (fun b h => (hB3.block b h).trans (HBW.out.block b h).symm) (fun _ _ _ r => r.imp (fun _ h => h) (fun b h => (hB3.block b h).trans (HBW.out.block b h).symm))
  have hlv := live_any (retF f ins r) (retF_good f ins r HG0.out (place_of_small HPK.out)) (by show 1 ≤ 1000; omega) (.slice (some ⟨W2.heap.size, 0, none⟩) 1 1) W3
    (slr_one_blk hA3 hA3.lt (hins3.imp (fun _ h => Nat.lt_of_lt_of_le h hB3.size) (Keeps.refl _ _) (fun _ _ _ r => r.imp (fun _ h => Nat.lt_of_lt_of_le h hB3.size) (Keeps.refl _ _))))
  have hSe : ∀ v, liveS (retF f ins r) 0 v = stepsS ins (endS ⟨3, r, 0, 0⟩ (liveS (retF f ins r))) v := fun v => by rw [retF_live]
  have hE : ∀ v, endS ⟨3, r, 0, 0⟩ (liveS (retF f ins r)) v = decide (r = v) := end_ret r _
  change Calls _ _ #[.agg #[.string f.name, .int .i64 f.params, .int .i64 f.values, .slice (some ⟨W2.heap.size, 0, none⟩) 1 1]] W3 (RowsPost [riseL (liveS (retF f ins r) 0)] W3) at hlv
  generalize liveS (retF f ins r) 0 = S at *
  generalize endS ⟨3, r, 0, 0⟩ (liveS (retF f ins r)) = E at *
  have HLV := Lib.hid hlv
  have HSE := Lib.hid hSe
  have HE := Lib.hid hE
  clear hlv hSe hE
  have HI3 := Lib.hid hins3
  have HK3 := Lib.hid hK3
  have HB3 := Lib.hid hB3
  have hk3l : W.heap.size < W3.heap.size := hK3.lt
  have d0 : W3.cell? ⟨w2.heap.size, 0, none⟩ = some (.string f.name) := hF3.cell 0
  have d1 : W3.cell? ⟨w2.heap.size, 1, none⟩ = some (.int .i64 f.params) := hF3.cell 1
  have d2 : W3.cell? ⟨w2.heap.size, 2, none⟩ = some (.int .i64 f.values) := hF3.cell 2
  have d3 : W3.cell? ⟨w2.heap.size, 3, none⟩ = some (.slice (some ⟨W2.heap.size, 0, none⟩) 1 1) := hF3.cell 3
  clear hins3 hK3 hB3 hF3 hA3 HBW2 HK2 HF2 HINS HFW
  go_upto_region 7 with (go_at_call 14; refine HLV.out.mono ?_; rintro e w4 ⟨v4, rfl, hb4, hs4⟩)

  obtain ⟨bl, ol, cl, hv4, _, _, hbl4, hel4⟩ := hs4.form (by show 0 < 1; omega)
  replace hv4 : v4 = .slice (some ⟨bl, ol, none⟩) 1 cl := hv4
  subst hv4
  obtain ⟨cs, _, ⟨u, hcs, hu⟩, hc⟩ := hel4 0 (by show 0 < 1; omega)
  replace hu : SlR w4 (fun b => W3.heap.size ≤ b ∧ b < w4.heap.size) 1 RInt u (riseL S) := hu
  obtain ⟨Al, cl2, hul, _, _⟩ := hu.val
  subst hul
  subst hcs
  have r0 : w4.cell? ⟨bl, ol, none⟩ = some (.slice Al (riseL S).length cl2) := by have h := hc.at_ (j := 0) rfl; simpa using h
  have hK4 := HK3.out.below hb4 HK3.out.lt
  have x0 : w4.cell? ⟨W.heap.size, 0, none⟩ = some (.slice Ai ins.length ci) := hK4.cell 0
  have x2 : w4.cell? ⟨W.heap.size, 2, none⟩ = some (.int .i64 r) := hK4.cell 2
  have hkl : W.heap.size < w4.heap.size := hK4.lt
  have hbll : bl < w4.heap.size := hbl4.2
  have h24 : w2.heap.size ≤ w4.heap.size := Nat.le_trans HB3.out.size hb4.size
  have HI4 := Lib.hid (HI3.out.imp (ok' := fun b => b < w4.heap.size) (R' := RIns w4 fun b => b < w4.heap.size) (fun _ h => Nat.lt_of_lt_of_le h h24) (fun b h => hb4.block b (Nat.lt_of_lt_of_le h HB3.out.size)) (fun _ _ _ r => r.imp (fun _ h => Nat.lt_of_lt_of_le h h24) (fun b h => hb4.block b (Nat.lt_of_lt_of_le h HB3.out.size))))
  have HU := Lib.hid hu
  have hll2 := hu.len_le
  unfold maxLen at hll2
  have HB4 := Lib.hid hb4
  clear hs4 hbl4 hel4 hu hc hK4 hb4 d0 d1 d2 d3 hk3l h24 HLV HI3 HK3
  go_wp2
  go_loopw [9] (fun s wr => ∃ v : Nat, v ≤ 10 ∧ s = .int .i64 v ∧ Below w4.heap.size w4 wr) (fun s _ => 10 - (RowKit.intOf s).toNat)
  case atStart => exact ⟨0, by omega, rfl, Below.refl _ _⟩
  case round =>
    obtain ⟨v, hv10, rfl, hbr⟩ := hrel
    by_cases hlt : v < 10
    · have d0 : decide ((v : Int) < 10) = true := decide_eq_true (by omega)
      have y0 : wr.cell? ⟨W.heap.size, 0, none⟩ = some (.slice Ai ins.length ci) := (hbr.cell (p := ⟨W.heap.size, 0, none⟩) hkl).trans x0
      have y2 : wr.cell? ⟨W.heap.size, 2, none⟩ = some (.int .i64 r) := (hbr.cell (p := ⟨W.heap.size, 2, none⟩) hkl).trans x2
      have HBR := Lib.hid hbr
      clear hbr
      obtain ⟨wo, hwo⟩ : ∃ wo, wo = wr := ⟨_, rfl⟩
      subst hwo
      have hE0 : (r == (v : Int)) = E v := by rw [HE.out]; rfl
      go_wp2
      go_loopw [10, 11] (fun s10 s11 wr => ∃ (i : Nat) (z : Int), i ≤ ins.length ∧ s11 = .int .i64 z ∧ z = (i : Int) - 1 ∧ s10 = .bool (stepsS (ins.drop i) E v) ∧ Below w4.heap.size w4 wr) (fun _ s _ => (RowKit.intOf s + 1).toNat)
      case atStart =>
        refine ⟨ins.length, _, Nat.le_refl _, rfl, by go_num, ?_, HBR.out⟩
        rw [List.drop_length]
        first | (rw [hE0]; rfl) | (rw [← hE0]; rfl) | simp [stepsS, ← hE0]
      case round =>
        obtain ⟨i, z, hi, rfl, hz, rfl, hbr⟩ := hrel
        have e0 : wr.cell? ⟨W.heap.size, 0, none⟩ = some (.slice Ai ins.length ci) := (hbr.cell (p := ⟨W.heap.size, 0, none⟩) hkl).trans x0
        cases i with
        | zero =>
          have dm : decide (z ≥ 0) = false := decide_eq_false (by omega)
          clear hz
          have r1 : wr.cell? ⟨bl, ol, none⟩ = some (.slice Al (riseL S).length cl2) := (hbr.cell (p := ⟨bl, ol, none⟩) hbll).trans r0
          have hs : stepsS (ins.drop 0) E v = S v := by rw [HSE.out]; rfl
          rw [hs]
          have hd : decide ((v : Int) ∈ riseL S) = S v := rise_bool (place_of_small ⟨by omega, by omega⟩)
          have HBR2 := Lib.hid hbr
          have HU2 := Lib.hid (HU.out.imp (ok' := fun b => b < w4.heap.size) (R' := RInt) (w' := wr) (fun _ h => h.2) (fun b h => hbr.block b h.2) (fun _ _ _ r => r))
          clear hbr hs
          generalize S v = q at *
          cases q with
          | false =>
            go_wp2_with (go_at_call 16; refine (has_any _ _ _ _ _ HU2.out).mono ?_; rintro e w' ⟨he, rfl⟩; rw [hd] at he; subst he)
            go_roundw
            case rel => exact ⟨v + 1, by omega, by go_num, HBR2.out⟩
            case measure => simp [RowKit.intOf]; omega
          | true =>
            go_wp2_with (go_at_call 16; refine (has_any _ _ _ _ _ HU2.out).mono ?_; rintro e w' ⟨he, rfl⟩; rw [hd] at he; subst he)
            go_roundw
            case rel => exact ⟨v + 1, by omega, by go_num, HBR2.out⟩
            case measure => simp [RowKit.intOf]; omega
        | succ m =>
          have hzm : z = (m : Int) := by omega
          have dm : decide (z ≥ 0) = true := decide_eq_true (by omega)
          have p0 : 0 ≤ z := by omega
          have hzn : z.toNat = m := by omega
          have HZ := Lib.hid hzm
          clear hz
          have him : m < ins.length := by omega
          have p1 : z < (ins.length : Int) := by omega
          clear hzm
          have hst := steps_drop him E
          have hst2 := congrFun hst (v : Int)
          obtain ⟨bi, oi, ci2, hfi, _, _, hbi, hell⟩ := HI4.out.form (by omega)
          obtain rfl : Ai = some ⟨bi, oi, none⟩ := by injection hfi
          obtain ⟨cs, _, ⟨va, hcs, hargs⟩, hcell⟩ := hell m him
          subst hcs
          have hlaw := HL0.out _ (List.getElem_mem him)
          obtain ⟨x, hx⟩ : ∃ x, x = ins[m] := ⟨_, rfl⟩
          rw [← hx] at hargs hcell hlaw hst2
          obtain ⟨k, d, a', b', op, nn, nm, args⟩ := x
          obtain ⟨Aa, ca2, hva, _, _⟩ := hargs.val
          subst hva
          have hcw := hcell.keep (hbr.block bi hbi)
          have j0 : wr.cell? ⟨bi, oi + z.toNat * 8, none⟩ = some (.int .i64 k) := by rw [hzn]; have h := hcw.at_ (j := 0) rfl; simpa using h
          have j1 : wr.cell? ⟨bi, oi + z.toNat * 8 + 1, none⟩ = some (.int .i64 d) := by rw [hzn]; exact hcw.at_ (j := 1) rfl
          have j2 : wr.cell? ⟨bi, oi + z.toNat * 8 + 2, none⟩ = some (.int .i64 a') := by rw [hzn]; exact hcw.at_ (j := 2) rfl
          have j3 : wr.cell? ⟨bi, oi + z.toNat * 8 + 3, none⟩ = some (.int .i64 b') := by rw [hzn]; exact hcw.at_ (j := 3) rfl
          have j4 : wr.cell? ⟨bi, oi + z.toNat * 8 + 4, none⟩ = some (.int .i64 op) := by rw [hzn]; exact hcw.at_ (j := 4) rfl
          have j5 : wr.cell? ⟨bi, oi + z.toNat * 8 + 5, none⟩ = some (.int .i64 nn) := by rw [hzn]; exact hcw.at_ (j := 5) rfl
          have j6 : wr.cell? ⟨bi, oi + z.toNat * 8 + 6, none⟩ = some (.string nm) := by rw [hzn]; exact hcw.at_ (j := 6) rfl
          have j7 : wr.cell? ⟨bi, oi + z.toNat * 8 + 7, none⟩ = some (.slice Aa args.length ca2) := by rw [hzn]; exact hcw.at_ (j := 7) rfl
          have HAR := Lib.hid (hargs.imp (ok' := fun b => b < w4.heap.size) (R' := RInt) (w' := wr) (fun _ h => h) (fun b h => hbr.block b h) (fun _ _ _ r => r))
          have hwr4 := hbr.size
          have HBR2 := Lib.hid hbr
          have HST := Lib.hid hst2
          generalize stepsS (ins.drop (m + 1)) E = T at *
          obtain ⟨q, hq⟩ : ∃ q, q = T v := ⟨_, rfl⟩
          rw [← hq]
          have HQ := Lib.hid hq
          have hno := hlaw.args
          have hlo : 1 ≤ k := hlaw.lo
          have hhi : k ≤ 9 := hlaw.hi
          clear hzn hell hcell hcw hargs hbr hst hst2 hx hq hlaw hfi
          rcases kinds9 hlo hhi with rfl | rfl | rfl | rfl | rfl | rfl | rfl | rfl | rfl
          · skip
            by_cases hd : d = (v : Int)
            · have hde : (d == (v : Int)) = true := beq_iff_eq.2 hd
              have hdd : decide (d = (v : Int)) = true := decide_eq_true hd
              have hds : (v : Int) = d := hd.symm
              obtain rfl : args = [] := hno (by show (1 : Int) ≠ 9; decide)
              have hm : decide ((v : Int) ∈ ([] : List Int)) = false := by simp
              have hv : stepsS (ins.drop m) E (v : Int) = false := by rw [HST.out, stepS_eq]; simp [usesL, setsL, hasA, hasB, hd]
              have HV9 := Lib.hid hv
              clear hv hno hd hds
              go_wp2_with (go_at_call 16; refine (has_any _ _ _ _ _ (HAR.out.imp (fun _ h => h) (fun b h => Below.heap_alloc _ _ b (Nat.lt_of_lt_of_le h hwr4)) (fun _ _ _ r => r))).mono ?_; rintro e w' ⟨he, rfl⟩; rw [hm] at he; subst he)
              go_roundw
              case rel => exact ⟨m, z - 1, by omega, by go_num, by rw [HZ.out], by rw [HV9.out], HBR2.out.alloc HBR2.out.size _⟩
              case measure => simp only [RowKit.intOf]; omega
            · have hde : (d == (v : Int)) = false := by simp [hd]
              have hdd : decide (d = (v : Int)) = false := decide_eq_false hd
              have hds : ¬ (v : Int) = d := fun h => hd h.symm
              obtain rfl : args = [] := hno (by show (1 : Int) ≠ 9; decide)
              have hm : decide ((v : Int) ∈ ([] : List Int)) = false := by simp
              have hv : stepsS (ins.drop m) E (v : Int) = q := by rw [HST.out, stepS_eq]; simp [usesL, setsL, hasA, hasB, hds] <;> exact HQ.out.symm
              have HV9 := Lib.hid hv
              clear hv hno hd hds
              go_wp2_with (go_at_call 16; refine (has_any _ _ _ _ _ (HAR.out.imp (fun _ h => h) (fun b h => Below.heap_alloc _ _ b (Nat.lt_of_lt_of_le h hwr4)) (fun _ _ _ r => r))).mono ?_; rintro e w' ⟨he, rfl⟩; rw [hm] at he; subst he)
              go_roundw
              case rel => exact ⟨m, z - 1, by omega, by go_num, by rw [HZ.out], by rw [HV9.out], HBR2.out.alloc HBR2.out.size _⟩
              case measure => simp only [RowKit.intOf]; omega
          · skip
            by_cases hd : d = (v : Int)
            · have hde : (d == (v : Int)) = true := beq_iff_eq.2 hd
              have hdd : decide (d = (v : Int)) = true := decide_eq_true hd
              have hds : (v : Int) = d := hd.symm
              by_cases ha : a' = (v : Int)
              · have hae : (a' == (v : Int)) = true := beq_iff_eq.2 ha
                have had : decide (a' = (v : Int)) = true := decide_eq_true ha
                have has : (v : Int) = a' := ha.symm
                obtain rfl : args = [] := hno (by show (2 : Int) ≠ 9; decide)
                have hm : decide ((v : Int) ∈ ([] : List Int)) = false := by simp
                have hv : stepsS (ins.drop m) E (v : Int) = true := by rw [HST.out, stepS_eq]; simp [usesL, setsL, hasA, hasB, hd, ha]
                have HV9 := Lib.hid hv
                clear hv hno hd hds ha has
                go_wp2
                go_roundw
                case rel => exact ⟨m, z - 1, by omega, by go_num, by rw [HZ.out], by rw [HV9.out], HBR2.out.alloc HBR2.out.size _⟩
                case measure => simp only [RowKit.intOf]; omega
              · have hae : (a' == (v : Int)) = false := by simp [ha]
                have had : decide (a' = (v : Int)) = false := decide_eq_false ha
                have has : ¬ (v : Int) = a' := fun h => ha h.symm
                obtain rfl : args = [] := hno (by show (2 : Int) ≠ 9; decide)
                have hm : decide ((v : Int) ∈ ([] : List Int)) = false := by simp
                have hv : stepsS (ins.drop m) E (v : Int) = false := by rw [HST.out, stepS_eq]; simp [usesL, setsL, hasA, hasB, hd, has]
                have HV9 := Lib.hid hv
                clear hv hno hd hds ha has
                go_wp2_with (go_at_call 16; refine (has_any _ _ _ _ _ (HAR.out.imp (fun _ h => h) (fun b h => Below.heap_alloc _ _ b (Nat.lt_of_lt_of_le h hwr4)) (fun _ _ _ r => r))).mono ?_; rintro e w' ⟨he, rfl⟩; rw [hm] at he; subst he)
                go_roundw
                case rel => exact ⟨m, z - 1, by omega, by go_num, by rw [HZ.out], by rw [HV9.out], HBR2.out.alloc HBR2.out.size _⟩
                case measure => simp only [RowKit.intOf]; omega
            · have hde : (d == (v : Int)) = false := by simp [hd]
              have hdd : decide (d = (v : Int)) = false := decide_eq_false hd
              have hds : ¬ (v : Int) = d := fun h => hd h.symm
              by_cases ha : a' = (v : Int)
              · have hae : (a' == (v : Int)) = true := beq_iff_eq.2 ha
                have had : decide (a' = (v : Int)) = true := decide_eq_true ha
                have has : (v : Int) = a' := ha.symm
                obtain rfl : args = [] := hno (by show (2 : Int) ≠ 9; decide)
                have hm : decide ((v : Int) ∈ ([] : List Int)) = false := by simp
                have hv : stepsS (ins.drop m) E (v : Int) = true := by rw [HST.out, stepS_eq]; simp [usesL, setsL, hasA, hasB, hds, ha]
                have HV9 := Lib.hid hv
                clear hv hno hd hds ha has
                go_wp2
                go_roundw
                case rel => exact ⟨m, z - 1, by omega, by go_num, by rw [HZ.out], by rw [HV9.out], HBR2.out.alloc HBR2.out.size _⟩
                case measure => simp only [RowKit.intOf]; omega
              · have hae : (a' == (v : Int)) = false := by simp [ha]
                have had : decide (a' = (v : Int)) = false := decide_eq_false ha
                have has : ¬ (v : Int) = a' := fun h => ha h.symm
                obtain rfl : args = [] := hno (by show (2 : Int) ≠ 9; decide)
                have hm : decide ((v : Int) ∈ ([] : List Int)) = false := by simp
                have hv : stepsS (ins.drop m) E (v : Int) = q := by rw [HST.out, stepS_eq]; simp [usesL, setsL, hasA, hasB, hds, has] <;> exact HQ.out.symm
                have HV9 := Lib.hid hv
                clear hv hno hd hds ha has
                go_wp2_with (go_at_call 16; refine (has_any _ _ _ _ _ (HAR.out.imp (fun _ h => h) (fun b h => Below.heap_alloc _ _ b (Nat.lt_of_lt_of_le h hwr4)) (fun _ _ _ r => r))).mono ?_; rintro e w' ⟨he, rfl⟩; rw [hm] at he; subst he)
                go_roundw
                case rel => exact ⟨m, z - 1, by omega, by go_num, by rw [HZ.out], by rw [HV9.out], HBR2.out.alloc HBR2.out.size _⟩
                case measure => simp only [RowKit.intOf]; omega
          · skip
            by_cases hd : d = (v : Int)
            · have hde : (d == (v : Int)) = true := beq_iff_eq.2 hd
              have hdd : decide (d = (v : Int)) = true := decide_eq_true hd
              have hds : (v : Int) = d := hd.symm
              by_cases ha : a' = (v : Int)
              · have hae : (a' == (v : Int)) = true := beq_iff_eq.2 ha
                have had : decide (a' = (v : Int)) = true := decide_eq_true ha
                have has : (v : Int) = a' := ha.symm
                obtain rfl : args = [] := hno (by show (3 : Int) ≠ 9; decide)
                have hm : decide ((v : Int) ∈ ([] : List Int)) = false := by simp
                have hv : stepsS (ins.drop m) E (v : Int) = true := by rw [HST.out, stepS_eq]; simp [usesL, setsL, hasA, hasB, hd, ha]
                have HV9 := Lib.hid hv
                clear hv hno hd hds ha has
                go_wp2
                go_roundw
                case rel => exact ⟨m, z - 1, by omega, by go_num, by rw [HZ.out], by rw [HV9.out], HBR2.out.alloc HBR2.out.size _⟩
                case measure => simp only [RowKit.intOf]; omega
              · have hae : (a' == (v : Int)) = false := by simp [ha]
                have had : decide (a' = (v : Int)) = false := decide_eq_false ha
                have has : ¬ (v : Int) = a' := fun h => ha h.symm
                obtain rfl : args = [] := hno (by show (3 : Int) ≠ 9; decide)
                have hm : decide ((v : Int) ∈ ([] : List Int)) = false := by simp
                have hv : stepsS (ins.drop m) E (v : Int) = false := by rw [HST.out, stepS_eq]; simp [usesL, setsL, hasA, hasB, hd, has]
                have HV9 := Lib.hid hv
                clear hv hno hd hds ha has
                go_wp2_with (go_at_call 16; refine (has_any _ _ _ _ _ (HAR.out.imp (fun _ h => h) (fun b h => Below.heap_alloc _ _ b (Nat.lt_of_lt_of_le h hwr4)) (fun _ _ _ r => r))).mono ?_; rintro e w' ⟨he, rfl⟩; rw [hm] at he; subst he)
                go_roundw
                case rel => exact ⟨m, z - 1, by omega, by go_num, by rw [HZ.out], by rw [HV9.out], HBR2.out.alloc HBR2.out.size _⟩
                case measure => simp only [RowKit.intOf]; omega
            · have hde : (d == (v : Int)) = false := by simp [hd]
              have hdd : decide (d = (v : Int)) = false := decide_eq_false hd
              have hds : ¬ (v : Int) = d := fun h => hd h.symm
              by_cases ha : a' = (v : Int)
              · have hae : (a' == (v : Int)) = true := beq_iff_eq.2 ha
                have had : decide (a' = (v : Int)) = true := decide_eq_true ha
                have has : (v : Int) = a' := ha.symm
                obtain rfl : args = [] := hno (by show (3 : Int) ≠ 9; decide)
                have hm : decide ((v : Int) ∈ ([] : List Int)) = false := by simp
                have hv : stepsS (ins.drop m) E (v : Int) = true := by rw [HST.out, stepS_eq]; simp [usesL, setsL, hasA, hasB, hds, ha]
                have HV9 := Lib.hid hv
                clear hv hno hd hds ha has
                go_wp2
                go_roundw
                case rel => exact ⟨m, z - 1, by omega, by go_num, by rw [HZ.out], by rw [HV9.out], HBR2.out.alloc HBR2.out.size _⟩
                case measure => simp only [RowKit.intOf]; omega
              · have hae : (a' == (v : Int)) = false := by simp [ha]
                have had : decide (a' = (v : Int)) = false := decide_eq_false ha
                have has : ¬ (v : Int) = a' := fun h => ha h.symm
                obtain rfl : args = [] := hno (by show (3 : Int) ≠ 9; decide)
                have hm : decide ((v : Int) ∈ ([] : List Int)) = false := by simp
                have hv : stepsS (ins.drop m) E (v : Int) = q := by rw [HST.out, stepS_eq]; simp [usesL, setsL, hasA, hasB, hds, has] <;> exact HQ.out.symm
                have HV9 := Lib.hid hv
                clear hv hno hd hds ha has
                go_wp2_with (go_at_call 16; refine (has_any _ _ _ _ _ (HAR.out.imp (fun _ h => h) (fun b h => Below.heap_alloc _ _ b (Nat.lt_of_lt_of_le h hwr4)) (fun _ _ _ r => r))).mono ?_; rintro e w' ⟨he, rfl⟩; rw [hm] at he; subst he)
                go_roundw
                case rel => exact ⟨m, z - 1, by omega, by go_num, by rw [HZ.out], by rw [HV9.out], HBR2.out.alloc HBR2.out.size _⟩
                case measure => simp only [RowKit.intOf]; omega
          · skip
            by_cases hd : d = (v : Int)
            · have hde : (d == (v : Int)) = true := beq_iff_eq.2 hd
              have hdd : decide (d = (v : Int)) = true := decide_eq_true hd
              have hds : (v : Int) = d := hd.symm
              by_cases ha : a' = (v : Int)
              · have hae : (a' == (v : Int)) = true := beq_iff_eq.2 ha
                have had : decide (a' = (v : Int)) = true := decide_eq_true ha
                have has : (v : Int) = a' := ha.symm
                obtain rfl : args = [] := hno (by show (4 : Int) ≠ 9; decide)
                have hm : decide ((v : Int) ∈ ([] : List Int)) = false := by simp
                have hv : stepsS (ins.drop m) E (v : Int) = true := by rw [HST.out, stepS_eq]; simp [usesL, setsL, hasA, hasB, hd, ha]
                have HV9 := Lib.hid hv
                clear hv hno hd hds ha has
                go_wp2
                go_roundw
                case rel => exact ⟨m, z - 1, by omega, by go_num, by rw [HZ.out], by rw [HV9.out], HBR2.out.alloc HBR2.out.size _⟩
                case measure => simp only [RowKit.intOf]; omega
              · have hae : (a' == (v : Int)) = false := by simp [ha]
                have had : decide (a' = (v : Int)) = false := decide_eq_false ha
                have has : ¬ (v : Int) = a' := fun h => ha h.symm
                by_cases hb : b' = (v : Int)
                · have hbe : (b' == (v : Int)) = true := beq_iff_eq.2 hb
                  have hbd : decide (b' = (v : Int)) = true := decide_eq_true hb
                  have hbs : (v : Int) = b' := hb.symm
                  obtain rfl : args = [] := hno (by show (4 : Int) ≠ 9; decide)
                  have hm : decide ((v : Int) ∈ ([] : List Int)) = false := by simp
                  have hv : stepsS (ins.drop m) E (v : Int) = true := by rw [HST.out, stepS_eq]; simp [usesL, setsL, hasA, hasB, hd, has, hb]
                  have HV9 := Lib.hid hv
                  clear hv hno hd hds ha has hb hbs
                  go_wp2
                  go_roundw
                  case rel => exact ⟨m, z - 1, by omega, by go_num, by rw [HZ.out], by rw [HV9.out], HBR2.out.alloc HBR2.out.size _⟩
                  case measure => simp only [RowKit.intOf]; omega
                · have hbe : (b' == (v : Int)) = false := by simp [hb]
                  have hbd : decide (b' = (v : Int)) = false := decide_eq_false hb
                  have hbs : ¬ (v : Int) = b' := fun h => hb h.symm
                  obtain rfl : args = [] := hno (by show (4 : Int) ≠ 9; decide)
                  have hm : decide ((v : Int) ∈ ([] : List Int)) = false := by simp
                  have hv : stepsS (ins.drop m) E (v : Int) = false := by rw [HST.out, stepS_eq]; simp [usesL, setsL, hasA, hasB, hd, has, hbs]
                  have HV9 := Lib.hid hv
                  clear hv hno hd hds ha has hb hbs
                  go_wp2_with (go_at_call 16; refine (has_any _ _ _ _ _ (HAR.out.imp (fun _ h => h) (fun b h => Below.heap_alloc _ _ b (Nat.lt_of_lt_of_le h hwr4)) (fun _ _ _ r => r))).mono ?_; rintro e w' ⟨he, rfl⟩; rw [hm] at he; subst he)
                  go_roundw
                  case rel => exact ⟨m, z - 1, by omega, by go_num, by rw [HZ.out], by rw [HV9.out], HBR2.out.alloc HBR2.out.size _⟩
                  case measure => simp only [RowKit.intOf]; omega
            · have hde : (d == (v : Int)) = false := by simp [hd]
              have hdd : decide (d = (v : Int)) = false := decide_eq_false hd
              have hds : ¬ (v : Int) = d := fun h => hd h.symm
              by_cases ha : a' = (v : Int)
              · have hae : (a' == (v : Int)) = true := beq_iff_eq.2 ha
                have had : decide (a' = (v : Int)) = true := decide_eq_true ha
                have has : (v : Int) = a' := ha.symm
                obtain rfl : args = [] := hno (by show (4 : Int) ≠ 9; decide)
                have hm : decide ((v : Int) ∈ ([] : List Int)) = false := by simp
                have hv : stepsS (ins.drop m) E (v : Int) = true := by rw [HST.out, stepS_eq]; simp [usesL, setsL, hasA, hasB, hds, ha]
                have HV9 := Lib.hid hv
                clear hv hno hd hds ha has
                go_wp2
                go_roundw
                case rel => exact ⟨m, z - 1, by omega, by go_num, by rw [HZ.out], by rw [HV9.out], HBR2.out.alloc HBR2.out.size _⟩
                case measure => simp only [RowKit.intOf]; omega
              · have hae : (a' == (v : Int)) = false := by simp [ha]
                have had : decide (a' = (v : Int)) = false := decide_eq_false ha
                have has : ¬ (v : Int) = a' := fun h => ha h.symm
                by_cases hb : b' = (v : Int)
                · have hbe : (b' == (v : Int)) = true := beq_iff_eq.2 hb
                  have hbd : decide (b' = (v : Int)) = true := decide_eq_true hb
                  have hbs : (v : Int) = b' := hb.symm
                  obtain rfl : args = [] := hno (by show (4 : Int) ≠ 9; decide)
                  have hm : decide ((v : Int) ∈ ([] : List Int)) = false := by simp
                  have hv : stepsS (ins.drop m) E (v : Int) = true := by rw [HST.out, stepS_eq]; simp [usesL, setsL, hasA, hasB, hds, has, hb]
                  have HV9 := Lib.hid hv
                  clear hv hno hd hds ha has hb hbs
                  go_wp2
                  go_roundw
                  case rel => exact ⟨m, z - 1, by omega, by go_num, by rw [HZ.out], by rw [HV9.out], HBR2.out.alloc HBR2.out.size _⟩
                  case measure => simp only [RowKit.intOf]; omega
                · have hbe : (b' == (v : Int)) = false := by simp [hb]
                  have hbd : decide (b' = (v : Int)) = false := decide_eq_false hb
                  have hbs : ¬ (v : Int) = b' := fun h => hb h.symm
                  obtain rfl : args = [] := hno (by show (4 : Int) ≠ 9; decide)
                  have hm : decide ((v : Int) ∈ ([] : List Int)) = false := by simp
                  have hv : stepsS (ins.drop m) E (v : Int) = q := by rw [HST.out, stepS_eq]; simp [usesL, setsL, hasA, hasB, hds, has, hbs] <;> exact HQ.out.symm
                  have HV9 := Lib.hid hv
                  clear hv hno hd hds ha has hb hbs
                  go_wp2_with (go_at_call 16; refine (has_any _ _ _ _ _ (HAR.out.imp (fun _ h => h) (fun b h => Below.heap_alloc _ _ b (Nat.lt_of_lt_of_le h hwr4)) (fun _ _ _ r => r))).mono ?_; rintro e w' ⟨he, rfl⟩; rw [hm] at he; subst he)
                  go_roundw
                  case rel => exact ⟨m, z - 1, by omega, by go_num, by rw [HZ.out], by rw [HV9.out], HBR2.out.alloc HBR2.out.size _⟩
                  case measure => simp only [RowKit.intOf]; omega
          · skip
            by_cases hd : d = (v : Int)
            · have hde : (d == (v : Int)) = true := beq_iff_eq.2 hd
              have hdd : decide (d = (v : Int)) = true := decide_eq_true hd
              have hds : (v : Int) = d := hd.symm
              by_cases ha : a' = (v : Int)
              · have hae : (a' == (v : Int)) = true := beq_iff_eq.2 ha
                have had : decide (a' = (v : Int)) = true := decide_eq_true ha
                have has : (v : Int) = a' := ha.symm
                obtain rfl : args = [] := hno (by show (5 : Int) ≠ 9; decide)
                have hm : decide ((v : Int) ∈ ([] : List Int)) = false := by simp
                have hv : stepsS (ins.drop m) E (v : Int) = true := by rw [HST.out, stepS_eq]; simp [usesL, setsL, hasA, hasB, hd, ha]
                have HV9 := Lib.hid hv
                clear hv hno hd hds ha has
                go_wp2
                go_roundw
                case rel => exact ⟨m, z - 1, by omega, by go_num, by rw [HZ.out], by rw [HV9.out], HBR2.out.alloc HBR2.out.size _⟩
                case measure => simp only [RowKit.intOf]; omega
              · have hae : (a' == (v : Int)) = false := by simp [ha]
                have had : decide (a' = (v : Int)) = false := decide_eq_false ha
                have has : ¬ (v : Int) = a' := fun h => ha h.symm
                obtain rfl : args = [] := hno (by show (5 : Int) ≠ 9; decide)
                have hm : decide ((v : Int) ∈ ([] : List Int)) = false := by simp
                have hv : stepsS (ins.drop m) E (v : Int) = false := by rw [HST.out, stepS_eq]; simp [usesL, setsL, hasA, hasB, hd, has]
                have HV9 := Lib.hid hv
                clear hv hno hd hds ha has
                go_wp2_with (go_at_call 16; refine (has_any _ _ _ _ _ (HAR.out.imp (fun _ h => h) (fun b h => Below.heap_alloc _ _ b (Nat.lt_of_lt_of_le h hwr4)) (fun _ _ _ r => r))).mono ?_; rintro e w' ⟨he, rfl⟩; rw [hm] at he; subst he)
                go_roundw
                case rel => exact ⟨m, z - 1, by omega, by go_num, by rw [HZ.out], by rw [HV9.out], HBR2.out.alloc HBR2.out.size _⟩
                case measure => simp only [RowKit.intOf]; omega
            · have hde : (d == (v : Int)) = false := by simp [hd]
              have hdd : decide (d = (v : Int)) = false := decide_eq_false hd
              have hds : ¬ (v : Int) = d := fun h => hd h.symm
              by_cases ha : a' = (v : Int)
              · have hae : (a' == (v : Int)) = true := beq_iff_eq.2 ha
                have had : decide (a' = (v : Int)) = true := decide_eq_true ha
                have has : (v : Int) = a' := ha.symm
                obtain rfl : args = [] := hno (by show (5 : Int) ≠ 9; decide)
                have hm : decide ((v : Int) ∈ ([] : List Int)) = false := by simp
                have hv : stepsS (ins.drop m) E (v : Int) = true := by rw [HST.out, stepS_eq]; simp [usesL, setsL, hasA, hasB, hds, ha]
                have HV9 := Lib.hid hv
                clear hv hno hd hds ha has
                go_wp2
                go_roundw
                case rel => exact ⟨m, z - 1, by omega, by go_num, by rw [HZ.out], by rw [HV9.out], HBR2.out.alloc HBR2.out.size _⟩
                case measure => simp only [RowKit.intOf]; omega
              · have hae : (a' == (v : Int)) = false := by simp [ha]
                have had : decide (a' = (v : Int)) = false := decide_eq_false ha
                have has : ¬ (v : Int) = a' := fun h => ha h.symm
                obtain rfl : args = [] := hno (by show (5 : Int) ≠ 9; decide)
                have hm : decide ((v : Int) ∈ ([] : List Int)) = false := by simp
                have hv : stepsS (ins.drop m) E (v : Int) = q := by rw [HST.out, stepS_eq]; simp [usesL, setsL, hasA, hasB, hds, has] <;> exact HQ.out.symm
                have HV9 := Lib.hid hv
                clear hv hno hd hds ha has
                go_wp2_with (go_at_call 16; refine (has_any _ _ _ _ _ (HAR.out.imp (fun _ h => h) (fun b h => Below.heap_alloc _ _ b (Nat.lt_of_lt_of_le h hwr4)) (fun _ _ _ r => r))).mono ?_; rintro e w' ⟨he, rfl⟩; rw [hm] at he; subst he)
                go_roundw
                case rel => exact ⟨m, z - 1, by omega, by go_num, by rw [HZ.out], by rw [HV9.out], HBR2.out.alloc HBR2.out.size _⟩
                case measure => simp only [RowKit.intOf]; omega
          · skip
            by_cases ha : a' = (v : Int)
            · have hae : (a' == (v : Int)) = true := beq_iff_eq.2 ha
              have had : decide (a' = (v : Int)) = true := decide_eq_true ha
              have has : (v : Int) = a' := ha.symm
              obtain rfl : args = [] := hno (by show (6 : Int) ≠ 9; decide)
              have hm : decide ((v : Int) ∈ ([] : List Int)) = false := by simp
              have hv : stepsS (ins.drop m) E (v : Int) = true := by rw [HST.out, stepS_eq]; simp [usesL, setsL, hasA, hasB, ha]
              have HV9 := Lib.hid hv
              clear hv hno ha has
              go_wp2
              go_roundw
              case rel => exact ⟨m, z - 1, by omega, by go_num, by rw [HZ.out], by rw [HV9.out], HBR2.out.alloc HBR2.out.size _⟩
              case measure => simp only [RowKit.intOf]; omega
            · have hae : (a' == (v : Int)) = false := by simp [ha]
              have had : decide (a' = (v : Int)) = false := decide_eq_false ha
              have has : ¬ (v : Int) = a' := fun h => ha h.symm
              by_cases hb : b' = (v : Int)
              · have hbe : (b' == (v : Int)) = true := beq_iff_eq.2 hb
                have hbd : decide (b' = (v : Int)) = true := decide_eq_true hb
                have hbs : (v : Int) = b' := hb.symm
                obtain rfl : args = [] := hno (by show (6 : Int) ≠ 9; decide)
                have hm : decide ((v : Int) ∈ ([] : List Int)) = false := by simp
                have hv : stepsS (ins.drop m) E (v : Int) = true := by rw [HST.out, stepS_eq]; simp [usesL, setsL, hasA, hasB, has, hb]
                have HV9 := Lib.hid hv
                clear hv hno ha has hb hbs
                go_wp2
                go_roundw
                case rel => exact ⟨m, z - 1, by omega, by go_num, by rw [HZ.out], by rw [HV9.out], HBR2.out.alloc HBR2.out.size _⟩
                case measure => simp only [RowKit.intOf]; omega
              · have hbe : (b' == (v : Int)) = false := by simp [hb]
                have hbd : decide (b' = (v : Int)) = false := decide_eq_false hb
                have hbs : ¬ (v : Int) = b' := fun h => hb h.symm
                obtain rfl : args = [] := hno (by show (6 : Int) ≠ 9; decide)
                have hm : decide ((v : Int) ∈ ([] : List Int)) = false := by simp
                have hv : stepsS (ins.drop m) E (v : Int) = q := by rw [HST.out, stepS_eq]; simp [usesL, setsL, hasA, hasB, has, hbs] <;> exact HQ.out.symm
                have HV9 := Lib.hid hv
                clear hv hno ha has hb hbs
                go_wp2_with (go_at_call 16; refine (has_any _ _ _ _ _ (HAR.out.imp (fun _ h => h) (fun b h => Below.heap_alloc _ _ b (Nat.lt_of_lt_of_le h hwr4)) (fun _ _ _ r => r))).mono ?_; rintro e w' ⟨he, rfl⟩; rw [hm] at he; subst he)
                go_roundw
                case rel => exact ⟨m, z - 1, by omega, by go_num, by rw [HZ.out], by rw [HV9.out], HBR2.out.alloc HBR2.out.size _⟩
                case measure => simp only [RowKit.intOf]; omega
          · skip
            by_cases hd : d = (v : Int)
            · have hde : (d == (v : Int)) = true := beq_iff_eq.2 hd
              have hdd : decide (d = (v : Int)) = true := decide_eq_true hd
              have hds : (v : Int) = d := hd.symm
              obtain rfl : args = [] := hno (by show (7 : Int) ≠ 9; decide)
              have hm : decide ((v : Int) ∈ ([] : List Int)) = false := by simp
              have hv : stepsS (ins.drop m) E (v : Int) = false := by rw [HST.out, stepS_eq]; simp [usesL, setsL, hasA, hasB, hd]
              have HV9 := Lib.hid hv
              clear hv hno hd hds
              go_wp2_with (go_at_call 16; refine (has_any _ _ _ _ _ (HAR.out.imp (fun _ h => h) (fun b h => Below.heap_alloc _ _ b (Nat.lt_of_lt_of_le h hwr4)) (fun _ _ _ r => r))).mono ?_; rintro e w' ⟨he, rfl⟩; rw [hm] at he; subst he)
              go_roundw
              case rel => exact ⟨m, z - 1, by omega, by go_num, by rw [HZ.out], by rw [HV9.out], HBR2.out.alloc HBR2.out.size _⟩
              case measure => simp only [RowKit.intOf]; omega
            · have hde : (d == (v : Int)) = false := by simp [hd]
              have hdd : decide (d = (v : Int)) = false := decide_eq_false hd
              have hds : ¬ (v : Int) = d := fun h => hd h.symm
              obtain rfl : args = [] := hno (by show (7 : Int) ≠ 9; decide)
              have hm : decide ((v : Int) ∈ ([] : List Int)) = false := by simp
              have hv : stepsS (ins.drop m) E (v : Int) = q := by rw [HST.out, stepS_eq]; simp [usesL, setsL, hasA, hasB, hds] <;> exact HQ.out.symm
              have HV9 := Lib.hid hv
              clear hv hno hd hds
              go_wp2_with (go_at_call 16; refine (has_any _ _ _ _ _ (HAR.out.imp (fun _ h => h) (fun b h => Below.heap_alloc _ _ b (Nat.lt_of_lt_of_le h hwr4)) (fun _ _ _ r => r))).mono ?_; rintro e w' ⟨he, rfl⟩; rw [hm] at he; subst he)
              go_roundw
              case rel => exact ⟨m, z - 1, by omega, by go_num, by rw [HZ.out], by rw [HV9.out], HBR2.out.alloc HBR2.out.size _⟩
              case measure => simp only [RowKit.intOf]; omega
          · skip
            by_cases ha : a' = (v : Int)
            · have hae : (a' == (v : Int)) = true := beq_iff_eq.2 ha
              have had : decide (a' = (v : Int)) = true := decide_eq_true ha
              have has : (v : Int) = a' := ha.symm
              obtain rfl : args = [] := hno (by show (8 : Int) ≠ 9; decide)
              have hm : decide ((v : Int) ∈ ([] : List Int)) = false := by simp
              have hv : stepsS (ins.drop m) E (v : Int) = true := by rw [HST.out, stepS_eq]; simp [usesL, setsL, hasA, hasB, ha]
              have HV9 := Lib.hid hv
              clear hv hno ha has
              go_wp2
              go_roundw
              case rel => exact ⟨m, z - 1, by omega, by go_num, by rw [HZ.out], by rw [HV9.out], HBR2.out.alloc HBR2.out.size _⟩
              case measure => simp only [RowKit.intOf]; omega
            · have hae : (a' == (v : Int)) = false := by simp [ha]
              have had : decide (a' = (v : Int)) = false := decide_eq_false ha
              have has : ¬ (v : Int) = a' := fun h => ha h.symm
              obtain rfl : args = [] := hno (by show (8 : Int) ≠ 9; decide)
              have hm : decide ((v : Int) ∈ ([] : List Int)) = false := by simp
              have hv : stepsS (ins.drop m) E (v : Int) = q := by rw [HST.out, stepS_eq]; simp [usesL, setsL, hasA, hasB, has] <;> exact HQ.out.symm
              have HV9 := Lib.hid hv
              clear hv hno ha has
              go_wp2_with (go_at_call 16; refine (has_any _ _ _ _ _ (HAR.out.imp (fun _ h => h) (fun b h => Below.heap_alloc _ _ b (Nat.lt_of_lt_of_le h hwr4)) (fun _ _ _ r => r))).mono ?_; rintro e w' ⟨he, rfl⟩; rw [hm] at he; subst he)
              go_roundw
              case rel => exact ⟨m, z - 1, by omega, by go_num, by rw [HZ.out], by rw [HV9.out], HBR2.out.alloc HBR2.out.size _⟩
              case measure => simp only [RowKit.intOf]; omega
          · skip
            by_cases hd : d = (v : Int)
            · have hde : (d == (v : Int)) = true := beq_iff_eq.2 hd
              have hdd : decide (d = (v : Int)) = true := decide_eq_true hd
              have hds : (v : Int) = d := hd.symm
              by_cases hmm : (v : Int) ∈ args
              · have hm : decide ((v : Int) ∈ args) = true := decide_eq_true hmm
                have hv : stepsS (ins.drop m) E (v : Int) = true := by rw [HST.out, stepS_eq]; simp [usesL, setsL, hasA, hasB, hd, hmm]
                have HV9 := Lib.hid hv
                clear hv hno hd hds hmm
                go_wp2_with (go_at_call 16; refine (has_any _ _ _ _ _ (HAR.out.imp (fun _ h => h) (fun b h => Below.heap_alloc _ _ b (Nat.lt_of_lt_of_le h hwr4)) (fun _ _ _ r => r))).mono ?_; rintro e w' ⟨he, rfl⟩; rw [hm] at he; subst he)
                go_roundw
                case rel => exact ⟨m, z - 1, by omega, by go_num, by rw [HZ.out], by rw [HV9.out], HBR2.out.alloc HBR2.out.size _⟩
                case measure => simp only [RowKit.intOf]; omega
              · have hm : decide ((v : Int) ∈ args) = false := decide_eq_false hmm
                have hv : stepsS (ins.drop m) E (v : Int) = false := by rw [HST.out, stepS_eq]; simp [usesL, setsL, hasA, hasB, hd, hmm]
                have HV9 := Lib.hid hv
                clear hv hno hd hds hmm
                go_wp2_with (go_at_call 16; refine (has_any _ _ _ _ _ (HAR.out.imp (fun _ h => h) (fun b h => Below.heap_alloc _ _ b (Nat.lt_of_lt_of_le h hwr4)) (fun _ _ _ r => r))).mono ?_; rintro e w' ⟨he, rfl⟩; rw [hm] at he; subst he)
                go_roundw
                case rel => exact ⟨m, z - 1, by omega, by go_num, by rw [HZ.out], by rw [HV9.out], HBR2.out.alloc HBR2.out.size _⟩
                case measure => simp only [RowKit.intOf]; omega
            · have hde : (d == (v : Int)) = false := by simp [hd]
              have hdd : decide (d = (v : Int)) = false := decide_eq_false hd
              have hds : ¬ (v : Int) = d := fun h => hd h.symm
              by_cases hmm : (v : Int) ∈ args
              · have hm : decide ((v : Int) ∈ args) = true := decide_eq_true hmm
                have hv : stepsS (ins.drop m) E (v : Int) = true := by rw [HST.out, stepS_eq]; simp [usesL, setsL, hasA, hasB, hds, hmm]
                have HV9 := Lib.hid hv
                clear hv hno hd hds hmm
                go_wp2_with (go_at_call 16; refine (has_any _ _ _ _ _ (HAR.out.imp (fun _ h => h) (fun b h => Below.heap_alloc _ _ b (Nat.lt_of_lt_of_le h hwr4)) (fun _ _ _ r => r))).mono ?_; rintro e w' ⟨he, rfl⟩; rw [hm] at he; subst he)
                go_roundw
                case rel => exact ⟨m, z - 1, by omega, by go_num, by rw [HZ.out], by rw [HV9.out], HBR2.out.alloc HBR2.out.size _⟩
                case measure => simp only [RowKit.intOf]; omega
              · have hm : decide ((v : Int) ∈ args) = false := decide_eq_false hmm
                have hv : stepsS (ins.drop m) E (v : Int) = q := by rw [HST.out, stepS_eq]; simp [usesL, setsL, hasA, hasB, hds, hmm] <;> exact HQ.out.symm
                have HV9 := Lib.hid hv
                clear hv hno hd hds hmm
                go_wp2_with (go_at_call 16; refine (has_any _ _ _ _ _ (HAR.out.imp (fun _ h => h) (fun b h => Below.heap_alloc _ _ b (Nat.lt_of_lt_of_le h hwr4)) (fun _ _ _ r => r))).mono ?_; rintro e w' ⟨he, rfl⟩; rw [hm] at he; subst he)
                go_roundw
                case rel => exact ⟨m, z - 1, by omega, by go_num, by rw [HZ.out], by rw [HV9.out], HBR2.out.alloc HBR2.out.size _⟩
                case measure => simp only [RowKit.intOf]; omega
    · obtain rfl : v = 10 := by omega
      have d0 : decide (((10 : Nat) : Int) < 10) = false := by decide
      go_wp2
      go_ret
      have q1 := HB1.out.size
      have e1 := HB1.out.trans (HB2.out.mono q1)
      have e2 := e1.trans (HB3.out.mono e1.size)
      have e3 := e2.trans (HB4.out.mono e2.size)
      exact ⟨rfl, e3.trans (hbr.mono e3.size)⟩
end Go.Proofs.Ytknccacfhknnaaa
