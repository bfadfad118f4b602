/- In every block: what is wanted behind each instruction, and ahead of the block, is what the statement's own steps give: the proof of 'FlowStepsSaid', with no condition. Printed by wip/gen_flowsteps.py. -/
import Derived.Test.YtknccacfhknnaaaSteps2
namespace Go.Proofs.Ytknccacfhknnaaa
open Go.ChangeShapes Go.WideShapes Go.ChangeAt Go.RowKit Go.Maps

/-- a place that lies where it lay -/
theorem slr_up {α : Type} {a b : World} {n sz : Nat} {R R' : List Value → α → Prop} {v : Value} {l : List α} (h : SlR a (· < n) sz R v l) (hb : Below n a b) (hR : ∀ cs x, R cs x → R' cs x) (hn : n ≤ a.heap.size) : SlR b (· < b.heap.size) sz R' v l :=
  h.imp (fun _ h => Nat.lt_of_lt_of_le h (Nat.le_trans hn hb.size)) (fun k h => hb.block k h) (fun cs x _ r => hR cs x r)
theorem rblock_up {a b : World} {n : Nat} (hb : Below n a b) (hn : n ≤ a.heap.size) {cs : List Value} {x : LBlock} (h : RBlock a (· < n) cs x) : RBlock b (· < b.heap.size) cs x :=
  h.imp (fun _ h => Nat.lt_of_lt_of_le h (Nat.le_trans hn hb.size)) (fun k h => hb.block k h)
theorem rins_up {a b : World} {n : Nat} (hb : Below n a b) (hn : n ≤ a.heap.size) {cs : List Value} {x : LIns} (h : RIns a (· < n) cs x) : RIns b (· < b.heap.size) cs x :=
  h.imp (fun _ h => Nat.lt_of_lt_of_le h (Nat.le_trans hn hb.size)) (fun k h => hb.block k h)
theorem rints_up {a b : World} {n : Nat} (hb : Below n a b) (hn : n ≤ a.heap.size) {cs : List Value} {x : List Int} (h : RInts a (· < n) cs x) : RInts b (· < b.heap.size) cs x :=
  mono_ints _ _ _ _ _ _ h (fun _ h => Nat.lt_of_lt_of_le h (Nat.le_trans hn hb.size)) (fun k h => hb.block k h)
theorem cell_up {a b : World} {n g j : Nat} {v : Value} (hb : Below n a b) (h : a.cell? ⟨g, j, none⟩ = some v) (hg : g < n) : b.cell? ⟨g, j, none⟩ = some v := (hb.cell (p := ⟨g, j, none⟩) hg).trans h
theorem below_drewN' (w : World) (n : Nat) : Below w.heap.size w (w.drewN n) := below_drewN (Below.refl _ _) n
theorem nx_of {f : LFlow} {t : LTerm} {x : Int} (hx : x ∈ nextL t) (h0 : 0 ≤ x ∧ x < (f.blocks.length : Int)) : Nx ((List.range f.blocks.length).map fun i => riseL (liveS f i)) (riseL (endS t (liveS f))) x := by
  refine ⟨h0.1, by simp; omega, fun y hy => ?_⟩
  simp only [List.getElem_map, List.getElem_range] at hy
  rw [mem_riseL] at hy ⊢
  exact ⟨hy.1, endS_iff.2 (.inr ⟨x, hx, hy.2⟩)⟩
theorem slr_drewN' {Y : World} {v : Value} {l : List (List Int)} (h : SlR Y (· < Y.heap.size) 1 (RInts Y (· < Y.heap.size)) v l) (n : Nat) : SlR (Y.drewN n) (· < (Y.drewN n).heap.size) 1 (RInts (Y.drewN n) (· < (Y.drewN n).heap.size)) v l := slr_up h (below_drewN' Y n) (fun _ _ h => rints_up (below_drewN' Y n) (Nat.le_refl _) h) (Nat.le_refl _)
theorem slr_drewN'' {Y : World} {v : Value} {l : List LIns} (h : SlR Y (· < Y.heap.size) 8 (RIns Y (· < Y.heap.size)) v l) (n : Nat) : SlR (Y.drewN n) (· < (Y.drewN n).heap.size) 8 (RIns (Y.drewN n) (· < (Y.drewN n).heap.size)) v l := slr_up h (below_drewN' Y n) (fun _ _ h => rins_up (below_drewN' Y n) (Nat.le_refl _) h) (Nat.le_refl _)
theorem next_to {t : LTerm} (h1 : 1 ≤ t.kind) (h : t.kind ≤ 2) : t.to ∈ nextL t := by
  unfold nextL
  split
  · simp
  · rw [if_pos (by omega)]; simp
theorem next_els {t : LTerm} (h : t.kind = 2) : t.els ∈ nextL t := by
  unfold nextL
  split
  · simp
  · rename_i hn
    rw [if_pos (.inl h)]
    have : t.to = t.els := by
      by_cases e : t.to = t.els
      · exact e
      · exact absurd ⟨h, e⟩ hn
    simp [this]
theorem wants_a' {t : LTerm} (L : Nat → Int → Bool) (h1 : 1 ≤ t.kind) (h4 : t.kind ≤ 4) (hp : placeP t.a = true) (h : t.kind ≠ 1) : t.a ∈ riseL (endS t L) := by
  rw [mem_riseL]
  exact ⟨hp, endS_iff.2 (.inl (by unfold wantsL; rw [if_pos (by omega)]; simp))⟩

set_option maxRecDepth 100000 in
set_option maxHeartbeats 4000000 in
theorem flowSteps_walk (vr : Value) (which : Int) (hvr : ∃ A n c, vr = .slice A n c) (raw : List LBlock) (hI : ∀ x ∈ raw, x.I) (w : World) (hv : SlR w (· < w.heap.size) 5 (RBlock w (· < w.heap.size)) vr raw) (hwh : (Lit.int .i64 which).wf = true) :
    Calls Try.prog 3 #[vr, .int .i64 which] w fun e w' => e = .returned (.bool true) ∧ Below w.heap.size w w' := by
  obtain ⟨A0, n0, c0, rfl⟩ := hvr
  obtain ⟨k, hk3, hpick⟩ := pick3 which (i64_of_wf hwh)
  have HV := Lib.hid hv
  have HP := Lib.hid hpick
  clear hv hpick hwh
  have hfld := field_flows
  go_enter Try.func3, Try.ntmps3
  go_upto_region 2 with (go_at_call 11; refine (awake13_any _).mono ?_; rintro e w1 ⟨rfl, hb1⟩)
  have HF := Lib.hid (fit_flows raw hI (.slice A0 n0 c0) w1 (HV.out.imp (fun _ h => Nat.lt_of_lt_of_le h hb1.size) (fun b h => hb1.block b h) (fun _ _ _ r => r.imp (fun _ h => Nat.lt_of_lt_of_le h hb1.size) (fun b h => hb1.block b h))))
  have HB1 := Lib.hid hb1
  clear hb1
  have hGF := good_fit raw k
  have hpos := fit_pos raw k
  have hle := fit_le raw k
  have hkd : ∀ b ∈ (fitFl raw k).blocks, 1 ≤ b.term.kind ∧ b.term.kind ≤ 4 ∧ placeP b.term.a = true := fun b hb => by
    obtain ⟨y, _, rfl⟩ := List.mem_map.1 hb
    exact ⟨(fitTerm_kind _ _).1, (fitTerm_kind _ _).2, place_of_small (fitTerm_a _ _)⟩
  have hil := fit_ins raw k
  have hlw := law_fit raw k
  generalize hf : fitFl raw k = f at *
  have HGF := Lib.hid hGF
  have HKD := Lib.hid hkd
  have HIL := Lib.hid hil
  have HLW := Lib.hid hlw
  clear hGF hkd hil hlw
  go_upto_region 3 with (first | (go_at_call 12; refine HF.out.mono ?_; rintro e w2 ⟨Aa, ca, b, off, c, rfl, hb2, hbl, hff⟩; obtain ⟨A, cc, q0, q1, q2, q3, hsl⟩ := hff k hk3; have HSL := Lib.hid hsl; have HB2 := Lib.hid hb2; clear hff hsl hb2) | (go_at_call 13; refine (HP.out _).mono ?_; rintro e w' ⟨rfl, rfl⟩))
  clear q0 q1 q2 q3 hfld
  refine wp_world ?_
  intro W hW
  have hBW : Below w2.heap.size w2 W := by rw [← hW]; exact below1 _ _
  have hF : Blk W w2.heap.size 25 #[.string f.name, .int .i64 f.params, .int .i64 f.values, .slice A f.blocks.length cc] := by rw [← hW]; exact Blk.new_at _ _ _ rfl
  clear hW
  have c0' : W.cell? ⟨w2.heap.size, 0, none⟩ = some (.string f.name) := hF.cell 0
  have c1 : W.cell? ⟨w2.heap.size, 1, none⟩ = some (.int .i64 f.params) := hF.cell 1
  have c2 : W.cell? ⟨w2.heap.size, 2, none⟩ = some (.int .i64 f.values) := hF.cell 2
  have c3 : W.cell? ⟨w2.heap.size, 3, none⟩ = some (.slice A f.blocks.length cc) := hF.cell 3
  have hsl2 := HSL.out
  rw [hf] at hsl2
  have hSW : SlR W (· < W.heap.size) 5 (RBlock W (· < W.heap.size)) (.slice A f.blocks.length cc) f.blocks := hsl2.imp (fun _ h => Nat.lt_of_lt_of_le h hBW.size) (fun b h => hBW.block b h) (fun _ _ _ r => r.imp (fun _ h => Nat.lt_of_lt_of_le h hBW.size) (fun b h => hBW.block b h))
  have HLV := Lib.hid (live_any f HGF.out (by omega) (.slice A f.blocks.length cc) W hSW)
  have HSW := Lib.hid hSW
  have HBW := Lib.hid hBW
  have HFW := Lib.hid hF
  clear hSW hBW hF hsl2 hf HSL
  have hlen8 : f.blocks.length ≤ 900 := by omega
  go_upto_region 4 with (go_at_call 14; refine HLV.out.mono ?_; rintro e w3 ⟨v3, rfl, hb3, hs3⟩)
  have hl3 : ((List.range f.blocks.length).map fun i => riseL (liveS f i)).length = f.blocks.length := by simp
  obtain ⟨vb, vo, vc, hv3, _, _, hvb, _⟩ := hs3.form (by rw [hl3]; exact hpos)
  rw [hl3] at hv3
  subst hv3
  have HV3 := Lib.hid (hs3.imp (ok' := (· < w3.heap.size)) (R' := RInts w3 (· < w3.heap.size)) (fun _ h => h.2) (fun _ _ => rfl) (fun _ _ _ r => mono_ints _ _ _ _ _ _ r (fun _ h => h.2) (fun _ _ => rfl)))
  have HF3 := Lib.hid (HFW.out.below hb3 HFW.out.lt)
  have HS3 := Lib.hid (slr_up HSW.out hb3 (fun cs x h => rblock_up hb3 (Nat.le_refl _) h) (Nat.le_refl _))
  have HB03 : Hid (Below w.heap.size w w3) := Lib.hid (by
    have q1 := HB1.out.size
    have e1 := HB1.out.trans (HB2.out.mono q1)
    have e2 := e1.trans (HBW.out.mono e1.size)
    exact e2.trans (hb3.mono e2.size))
  have f3 : w3.cell? ⟨w2.heap.size, 3, none⟩ = some (.slice A f.blocks.length cc) := HF3.out.cell 3
  have d0 : ((f.blocks.length : Int) != (f.blocks.length : Int)) = false := by simp
  clear hs3 hvb hl3 hb3 c0' c1 c2 c3 HV HP HF HB1 HB2 HLV HSW HBW HFW
  go_wp2
  clear f3 d0
  go_loopw [8] (fun s wr => ∃ i : Nat, i ≤ f.blocks.length ∧ s = .int .i64 i ∧ Below w3.heap.size w3 wr) (fun s _ => f.blocks.length - (RowKit.intOf s).toNat)
  case atStart => exact ⟨0, by omega, rfl, Below.refl _ _⟩
  case round =>
    obtain ⟨i, hi, rfl, hbr⟩ := hrel
    have HFr := Lib.hid (HF3.out.below hbr HF3.out.lt)
    have HSr := Lib.hid (slr_up HS3.out hbr (fun cs x h => rblock_up hbr (Nat.le_refl _) h) (Nat.le_refl _))
    have HVr := Lib.hid (slr_up HV3.out hbr (fun cs x h => rints_up hbr (Nat.le_refl _) h) (Nat.le_refl _))
    have HBR := Lib.hid hbr
    have f0 : wr.cell? ⟨w2.heap.size, 0, none⟩ = some (.string f.name) := HFr.out.cell 0
    have f1 : wr.cell? ⟨w2.heap.size, 1, none⟩ = some (.int .i64 f.params) := HFr.out.cell 1
    have f2 : wr.cell? ⟨w2.heap.size, 2, none⟩ = some (.int .i64 f.values) := HFr.out.cell 2
    have f3 : wr.cell? ⟨w2.heap.size, 3, none⟩ = some (.slice A f.blocks.length cc) := HFr.out.cell 3
    clear hbr
    by_cases hlt : i < f.blocks.length
    · have d1 : decide ((i : Int) < (f.blocks.length : Int)) = true := decide_eq_true (by omega)
      have p1 : (i : Int) < (f.blocks.length : Int) := by omega
      obtain ⟨bb, ob, cb, hfb, _, _, hbb, hblk⟩ := HSr.out.form hpos
      obtain rfl : A = some ⟨bb, ob, none⟩ := by injection hfb
      obtain ⟨cs, _, ⟨vi, hcs, hins⟩, hcell⟩ := hblk i hlt
      subst hcs
      have hil0 := HIL.out _ (List.getElem_mem hlt)
      have hlaw0 := HLW.out _ (List.getElem_mem hlt)
      have hkd0 := HKD.out _ (List.getElem_mem hlt)
      have hgd0 := HGF.out _ (List.getElem_mem hlt)
      have hAft := After_any f HGF.out (by omega) i hlt (by omega)
      have hEq : liveS f i = stepsS f.blocks[i].ins (endS f.blocks[i].term (liveS f)) := liveS_eq f i hlt
      have hNT : f.blocks[i].term.kind ≤ 2 → Nx ((List.range f.blocks.length).map fun i => riseL (liveS f i)) (riseL (endS f.blocks[i].term (liveS f))) f.blocks[i].term.to := fun h => nx_of (next_to hkd0.1 h) (hgd0.next _ (next_to hkd0.1 h))
      have hNE : f.blocks[i].term.kind = 2 → Nx ((List.range f.blocks.length).map fun i => riseL (liveS f i)) (riseL (endS f.blocks[i].term (liveS f))) f.blocks[i].term.els := fun h => nx_of (next_els h) (hgd0.next _ (next_els h))
      have hWA : f.blocks[i].term.kind ≠ 1 → f.blocks[i].term.a ∈ riseL (endS f.blocks[i].term (liveS f)) := wants_a' _ hkd0.1 hkd0.2.1 hkd0.2.2
      have hk1 := hkd0.1
      obtain ⟨ins, hinse⟩ : ∃ l, l = f.blocks[i].ins := ⟨_, rfl⟩
      obtain ⟨t, ht⟩ : ∃ t, t = f.blocks[i].term := ⟨_, rfl⟩
      rw [← hinse] at hins hil0 hlaw0 hAft hEq
      rw [← ht] at hcell hAft hEq hNT hNE hWA hk1
      generalize endS t (liveS f) = E at *
      obtain ⟨Ai, ci, hvi, _, _⟩ := hins.val
      subst hvi
      have i0 : wr.cell? ⟨bb, ob + i * 5, none⟩ = some (.slice Ai ins.length ci) := by have h := hcell.at_ (j := 0) rfl; simpa using h
      have i1 : wr.cell? ⟨bb, ob + i * 5 + 1, none⟩ = some (.int .i64 t.kind) := hcell.at_ (j := 1) rfl
      have i2 : wr.cell? ⟨bb, ob + i * 5 + 2, none⟩ = some (.int .i64 t.a) := hcell.at_ (j := 2) rfl
      have i3 : wr.cell? ⟨bb, ob + i * 5 + 3, none⟩ = some (.int .i64 t.to) := hcell.at_ (j := 3) rfl
      have i4 : wr.cell? ⟨bb, ob + i * 5 + 4, none⟩ = some (.int .i64 t.els) := hcell.at_ (j := 4) rfl
      have HIN := Lib.hid hins
      have HLA := Lib.hid hlaw0
      have HAF := Lib.hid hAft
      have HEQ := Lib.hid hEq
      have HNT := Lib.hid hNT
      have HNE := Lib.hid hNE
      have HWA := Lib.hid hWA
      clear hins hlaw0 hkd0 hgd0 hAft hEq hNT hNE hWA hcell hblk hbb hfb hinse ht
      go_upto_region 10 with fail
      refine wp_world ?_
      intro W1 hW1
      have hB1 : Below wr.heap.size wr W1 := by rw [← hW1]; exact below1 _ _
      have hK : Blk W1 wr.heap.size 38 #[.slice Ai ins.length ci, .int .i64 t.kind, .int .i64 t.a, .int .i64 t.to, .int .i64 t.els] := by rw [← hW1]; exact Blk.new_at _ _ _ rfl
      have HF1 := Lib.hid (HFr.out.below hB1 HFr.out.lt)
      have HS1 := Lib.hid (slr_up HSr.out hB1 (fun cs x h => rblock_up hB1 (Nat.le_refl _) h) (Nat.le_refl _))
      have HV1 := Lib.hid (slr_up HVr.out hB1 (fun cs x h => rints_up hB1 (Nat.le_refl _) h) (Nat.le_refl _))
      have HI1 := Lib.hid (slr_up HIN.out hB1 (fun cs x h => rins_up hB1 (Nat.le_refl _) h) (Nat.le_refl _))
      have HK1 := Lib.hid hK
      have HBW1 := Lib.hid (HBR.out.trans (hB1.mono HBR.out.size))
      have HAC := Lib.hid (HAF.out _ W1 HS1.out)
      clear i0 i1 i2 i3 i4 f0 f1 f2 f3 hB1 hK hW1 HFr HSr HVr HIN HBR HAF
      have f0 : W1.cell? ⟨w2.heap.size, 0, none⟩ = some (.string f.name) := HF1.out.cell 0
      have f1 : W1.cell? ⟨w2.heap.size, 1, none⟩ = some (.int .i64 f.params) := HF1.out.cell 1
      have f2 : W1.cell? ⟨w2.heap.size, 2, none⟩ = some (.int .i64 f.values) := HF1.out.cell 2
      have f3 : W1.cell? ⟨w2.heap.size, 3, none⟩ = some (.slice (some ⟨bb, ob, none⟩) f.blocks.length cc) := HF1.out.cell 3
      generalize hbx : wr.heap.size = bx at *
      go_upto_region 11 with (go_at_call 15; refine HAC.out.mono ?_; rintro e w4 ⟨v4, rfl, hb4, hs4⟩)
      have hal := afterL_len ins E
      obtain ⟨lb, lo, lc, hv4, _, _, _, _⟩ := hs4.form (by rw [hal]; omega)
      rw [hal] at hv4
      subst hv4
      have HR4 := Lib.hid (hs4.imp (ok' := (· < w4.heap.size)) (R' := RInts w4 (· < w4.heap.size)) (fun _ h => h.2) (fun _ _ => rfl) (fun _ _ _ r => mono_ints _ _ _ _ _ _ r (fun _ h => h.2) (fun _ _ => rfl)))
      have HK4 := Lib.hid (HK1.out.below hb4 HK1.out.lt)
      have HV4 := Lib.hid (slr_up HV1.out hb4 (fun cs x h => rints_up hb4 (Nat.le_refl _) h) (Nat.le_refl _))
      have HI4 := Lib.hid (slr_up HI1.out hb4 (fun cs x h => rins_up hb4 (Nat.le_refl _) h) (Nat.le_refl _))
      have HBW4 := Lib.hid (HBW1.out.trans (hb4.mono HBW1.out.size))
      clear f0 f1 f2 f3 hs4 hal hb4 HF1 HS1 HV1 HI1 HK1 HAC HBW1
      have k0 : w4.cell? ⟨bx, 0, none⟩ = some (.slice Ai ins.length ci) := HK4.out.cell 0
      have k1 : w4.cell? ⟨bx, 1, none⟩ = some (.int .i64 t.kind) := HK4.out.cell 1
      have k2 : w4.cell? ⟨bx, 2, none⟩ = some (.int .i64 t.a) := HK4.out.cell 2
      have k3 : w4.cell? ⟨bx, 3, none⟩ = some (.int .i64 t.to) := HK4.out.cell 3
      have k4 : w4.cell? ⟨bx, 4, none⟩ = some (.int .i64 t.els) := HK4.out.cell 4
      have d2 : (((ins.length + 1 : Nat) : Int) != (ins.length : Int) + 1) = false := by simp
      go_upto_region 14 with fail
      refine wp_world ?_
      intro W5 hW5
      have hB5 : Below w4.heap.size w4 W5 := by rw [← hW5]; exact below1 _ _
      have hT : Blk W5 w4.heap.size 36 #[.int .i64 t.kind, .int .i64 t.a, .int .i64 t.to, .int .i64 t.els] := by rw [← hW5]; exact Blk.new_at _ _ _ rfl
      have HR5 := Lib.hid (slr_up HR4.out hB5 (fun cs x h => rints_up hB5 (Nat.le_refl _) h) (Nat.le_refl _))
      have HV5 := Lib.hid (slr_up HV4.out hB5 (fun cs x h => rints_up hB5 (Nat.le_refl _) h) (Nat.le_refl _))
      have HI5 := Lib.hid (slr_up HI4.out hB5 (fun cs x h => rins_up hB5 (Nat.le_refl _) h) (Nat.le_refl _))
      have HK5 := Lib.hid (HK4.out.below hB5 HK4.out.lt)
      have HT5 := Lib.hid hT
      have HBW5 := Lib.hid (HBW4.out.trans (hB5.mono HBW4.out.size))
      have hbT : bx < w4.heap.size := HK4.out.lt
      generalize htx : w4.heap.size = tx at *
      clear k0 k1 k2 k3 k4 d2 hB5 hT hW5 HR4 HV4 HI4 HK4 HBW4 htx
      obtain ⟨Ae, ce, hlb5, l5, hE5⟩ := row_at HR5.out (m := ins.length) (by omega)
      have hde : stepsS (ins.drop (ins.length + 1)) E = E := by rw [List.drop_eq_nil_of_le (by omega)]; rfl
      rw [hde] at l5 hE5
      refine reg14 _ (by kernel_rfl) bx tx lb lo lc ci ins.length ce Ai Ae t.kind t.a (riseL E) _ (by omega) (HK5.out.cell 0) (HT5.out.cell 0) (HT5.out.cell 1) l5 hE5 HWA.out _ _ _ _ _ _ _ _ _ _ _ _ _ _ _ _ _ _ _ _ _ _ _ _ _ _ _ _ _ _ _ _ _ _ _ _ _ _ _ _ _ _ _ _ _ _ _ _ _ _ _ _ _ _ _ _ _ _ _ _ _ _ _ _ _ _ _ _ _ _ _ _ _ _ _ _ _ _ _ _ _ _ _ _ _ _ _ _ _ _ _ _ _ _ _ _ _ _ _ _ _ _ _ _ _ _ _ _ _ _ _ _ _ _ _ _ _ _ _ _ _ _ _ _ _ _ _ _ _ _ _ _ _ _ _ _ _ _ _ _ _ _ _ _ _ _ _ _ _ _ _ _ _ _ _ _ _ _ _ _ _ _ _ _ _ _ _ _ _ _ _ _ _ _ _ _ _ _ _ _ _ _ _ _ _ _ _ _ _ _ _ _ _ _ _ _ _ _ _ _ _ _ _ _ _ _ _ _ _ _ _ _ _ _ _ _ _ _ _ _ _ _ _ _ _ _ _ _ _ _ _ _ _ _ ?_
      intro x65 x66 x67 x68 x69 x70 x71 x72 x73 x74 x75 x76 x77 x78 W6 hq6
      obtain ⟨n6, rfl⟩ := hq6
      have t2 : W5.cell? ⟨tx, 2, none⟩ = some (.int .i64 t.to) := HT5.out.cell 2
      have t3 : W5.cell? ⟨tx, 3, none⟩ = some (.int .i64 t.els) := HT5.out.cell 3
      clear l5 hE5 hlb5
      go_upto_block 2 with fail
      refine wp_world ?_
      intro W7 hW7
      have hB7 : Below W5.heap.size W5 W7 := by rw [← hW7]; exact (below_drewN' W5 n6).trans (below1 (W5.drewN n6) _)
      have hTo : Blk W7 W5.heap.size 3 #[.int .i64 t.to, .int .i64 t.els] := by rw [← hW7]; exact Blk.new_at _ _ _ rfl
      have HR7 := Lib.hid (slr_up HR5.out hB7 (fun cs x h => rints_up hB7 (Nat.le_refl _) h) (Nat.le_refl _))
      have HV7 := Lib.hid (slr_up HV5.out hB7 (fun cs x h => rints_up hB7 (Nat.le_refl _) h) (Nat.le_refl _))
      have HI7 := Lib.hid (slr_up HI5.out hB7 (fun cs x h => rins_up hB7 (Nat.le_refl _) h) (Nat.le_refl _))
      have HK7 := Lib.hid (HK5.out.below hB7 HK5.out.lt)
      have HT7 := Lib.hid (HT5.out.below hB7 HT5.out.lt)
      have HTo := Lib.hid hTo
      have HBW7 := Lib.hid (HBW5.out.trans (hB7.mono HBW5.out.size))
      generalize W5.heap.size = ta at *
      clear t2 t3 hB7 hTo hW7 HR5 HV5 HI5 HK5 HT5 HBW5
      obtain ⟨Ae, ce, hlb7, l7, hE7⟩ := row_at HR7.out (m := ins.length) (by omega)
      rw [hde] at l7 hE7
      refine blk2 _ (by kernel_rfl) f.blocks.length vb vo vc ta bx tx lb lo lc ci ins.length ce Ai Ae t.kind t.to t.els (riseL E) ((List.range f.blocks.length).map fun i => riseL (liveS f i)) _ hk1 (by omega) hlen8 (by simp) (HK7.out.cell 0) (HT7.out.cell 0) (HTo.out.cell 0) (HTo.out.cell 1) HV7.out l7 hE7 HNT.out HNE.out _ _ _ _ _ _ _ _ _ _ _ _ _ _ _ _ _ _ _ _ _ _ _ _ _ _ _ _ _ _ _ _ _ _ _ _ _ _ _ _ _ _ _ _ _ _ _ _ _ _ _ _ _ _ _ _ _ _ _ _ _ _ _ _ _ _ _ _ _ _ _ _ _ _ _ _ _ _ _ _ _ _ _ _ _ _ _ _ _ _ _ _ _ _ _ _ _ _ _ _ _ _ _ _ _ _ _ _ _ _ _ _ _ _ _ _ _ _ _ _ _ _ _ _ _ _ _ _ _ _ _ _ _ _ _ _ _ _ _ _ _ _ _ _ _ _ _ _ _ _ _ _ _ _ _ _ _ _ _ _ _ _ _ _ _ _ _ _ _ _ _ _ _ _ _ _ _ _ _ _ _ _ _ _ _ _ _ _ _ _ _ _ _ _ _ _ _ _ _ _ _ _ _ _ _ _ _ _ _ _ _ _ _ _ _ _ _ _ _ _ _ _ _ _ _ _ _ _ _ _ _ ?_
      intro x4 x13 x14 x85 x86 x87 x88 x89 x90 x91 x92 x93 x94 x95 x96 x97 x98 x99 x100 x101 x102 x103 x104 x105 x106 x107 x108 x109 x110 x111 x112 x113 x114 x115 x116 x117 x118 x119 x120 x121 x122 x123 x124 x125 x126 x127 x128 x129 x130 W8 hq8
      obtain ⟨n8, rfl⟩ := hq8
      clear l7 hE7 hlb7 hde
      go_upto_block 6 with fail
      obtain ⟨AS, cS, v8, hS8⟩ := form_ints' HV7.out (i := i) (by simp; omega)
      simp only [List.getElem_map, List.getElem_range] at v8 hS8
      refine blk6 _ (by kernel_rfl) f.blocks.length i vb vo vc bx lb lo lc ci cS Ai AS ins E (liveS f i) (W7.drewN n8) hlen8 hlt (by omega) HEQ.out (HK7.out.cell 0) (slr_drewN' HR7.out n8) (slr_drewN'' HI7.out n8) HLA.out v8 (slr_drewN hS8 n8) _ _ _ _ _ _ _ _ _ _ _ _ _ _ _ _ _ _ _ _ _ _ _ _ _ _ _ _ _ _ _ _ _ _ _ _ _ _ _ _ _ _ _ _ _ _ _ _ _ _ _ _ _ _ _ _ _ _ _ _ _ _ _ _ _ _ _ _ _ _ _ _ _ _ _ _ _ _ _ _ _ _ _ _ _ _ _ _ _ _ _ _ _ _ _ _ _ _ _ _ _ _ _ _ _ _ _ _ _ _ _ _ _ _ _ _ _ _ _ _ _ _ _ _ _ _ _ _ _ _ _ _ _ _ _ _ _ _ _ _ _ _ _ _ _ _ _ _ _ _ _ _ _ _ _ _ _ _ _ _ _ _ _ _ _ _ _ _ _ _ _ _ _ _ _ _ _ _ _ _ _ _ _ _ _ _ _ _ _ _ _ _ _ _ _ _ _ _ _ _ _ _ _ _ _ _ _ _ _ _ _ _ _ _ _ _ _ _ _ _ _ _ _ _ _ _ _ _ _ _ _ ?_
      intro x4 x15 x16 x17 x18 x19 x20 x131 x132 x133 x134 x135 x136 x137 x138 x139 x140 x141 x142 x143 x144 x145 x146 x147 x148 x149 x150 x151 x152 x153 x154 x155 x156 x157 x158 x159 x160 x161 x162 x163 x164 x165 x166 x167 x168 x169 x170 x171 x172 x173 x174 x175 x176 x177 x178 x179 x180 x181 x182 x183 x184 x185 x186 x187 x188 x189 x190 x191 x192 x193 x194 x195 x196 x197 x198 x199 x200 x201 x202 x203 x204 x205 x206 x207 x208 x209 x210 x211 x212 x213 x214 x215 x216 x217 x218 x219 x220 x221 x222 x223 x224 x225 x226 x227 x228 x229 x230 x231 x232 x233 x234 W9 hb9
      have HB9 := Lib.hid hb9
      clear hb9 v8 hS8
      go_wp2
      go_roundw
      case rel =>
        have e1 := HBW7.out.trans ((below_drewN' W7 n8).mono HBW7.out.size)
        exact ⟨i + 1, by omega, by go_num, e1.trans (HB9.out.mono e1.size)⟩
      case measure => simp [RowKit.intOf]; omega
    · have d1 : decide ((i : Int) < (f.blocks.length : Int)) = false := decide_eq_false (by omega)
      go_wp2
      go_ret
      exact ⟨rfl, HB03.out.trans (HBR.out.mono HB03.out.size)⟩
end Go.Proofs.Ytknccacfhknnaaa
