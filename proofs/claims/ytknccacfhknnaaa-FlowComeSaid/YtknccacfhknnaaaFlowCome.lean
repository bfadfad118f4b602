/- Block 0 is come to; what a block that is come to leads to is, too; and nothing else: the proof of 'FlowComeSaid', with no condition. -/
import Derived.Test.YtknccacfhknnaaaFlowLawPre
namespace Go.Proofs.Ytknccacfhknnaaa
open Go.ChangeShapes Go.WideShapes Go.ChangeAt Go.RowKit Go.Maps

/-- what the law's loops know: the marks, closed and led -/
structure ComeM (f : LFlow) (M : List Bool) : Prop where
  len : M.length = f.blocks.length
  zero : M[0]? = some true
  closed : ∀ (p i : Nat), p < f.blocks.length → i < f.blocks.length → (∀ h : p < f.blocks.length, leadsB f.blocks[p].term i = true) → M[p]? = some true → M[i]? = some true
  led : ∀ i : Nat, M[i]? = some true → i = 0 ∨ ∃ (p : Nat) (h : p < f.blocks.length), M[p]? = some true ∧ leadsB f.blocks[p].term i = true
theorem come_of_visited {f : LFlow} (hk : ∀ b ∈ f.blocks, 1 ≤ b.term.kind) {M : List Bool} (hl : M.length = f.blocks.length) (hv : Visited (succF f) 0 (List.replicate f.blocks.length false) M) : ComeM f M := by
  have hs : ∀ (p : Nat) (h : p < f.blocks.length), succF f p = nextL f.blocks[p].term := fun p h => by unfold succF; rw [List.getElem?_eq_getElem h]
  have hf : ∀ p : Nat, (List.replicate f.blocks.length false)[p]? ≠ some true := fun p => by
    rw [List.getElem?_replicate]
    split <;> simp
  refine ⟨hl, hv.at_, fun p i hp hi h hm => ?_, fun i hm => ?_⟩
  · have := hv.closed p hm (hf p) (i : Int) (by rw [hs p hp]; exact (leads_next (hk _ (List.getElem_mem hp)) i).1 (h hp))
    simpa using this
  · rcases hv.led i hm (hf i) with h | ⟨p, hp, h⟩
    · exact .inl h
    · have hpl : p < f.blocks.length := by rw [← hl]; exact (List.getElem?_eq_some_iff.1 hp).1
      rw [hs p hpl] at h
      exact .inr ⟨p, hpl, hp, (leads_next (hk _ (List.getElem_mem hpl)) i).2 h⟩
/-- the block is led to by one of the first p -/
def ledB (f : LFlow) (M : List Bool) (i p : Nat) : Bool := decide (i = 0) || (List.range p).any fun q => match f.blocks[q]?, M[q]? with
  | some b, some true => leadsB b.term i
  | _, _ => false
theorem ledB_zero (f : LFlow) (M : List Bool) (i : Nat) : ledB f M i 0 = decide (i = 0) := by simp [ledB]
theorem ledB_succ {f : LFlow} {M : List Bool} {i p : Nat} (h : p < f.blocks.length) (hm : p < M.length) : ledB f M i (p + 1) = (ledB f M i p || (leadsB f.blocks[p].term i && M[p])) := by
  unfold ledB
  rw [List.range_succ, List.any_append, ← Bool.or_assoc]
  congr 1
  simp only [List.any_cons, List.any_nil, Bool.or_false, List.getElem?_eq_getElem h, List.getElem?_eq_getElem hm]
  cases hb : M[p] <;> simp
theorem ledB_all {f : LFlow} {M : List Bool} (hc : ComeM f M) {i : Nat} (h : M[i]? = some true) : ledB f M i f.blocks.length = true := by
  unfold ledB
  rcases hc.led i h with h1 | ⟨p, hp, h1, h2⟩
  · simp [h1]
  · rw [Bool.or_eq_true]
    refine .inr (List.any_eq_true.2 ⟨p, List.mem_range.2 hp, ?_⟩)
    rw [List.getElem?_eq_getElem hp, h1]
    exact h2

set_option maxRecDepth 100000 in
set_option maxHeartbeats 8000000 in
theorem flowCome_walk (vr : Value) (which : Int) (hvr : ∃ A n c, vr = .slice A n c) (raw : List LBlock) (hI : ∀ x ∈ raw, x.I) (w : World) (hv : SlR w (· < w.heap.size) 5 (RBlock w (· < w.heap.size)) vr raw) (hwh : (Lit.int .i64 which).wf = true) :
    Calls Try.prog 5 #[vr, .int .i64 which] w fun e w' => e = .returned (.bool true) ∧ Below w.heap.size w w' := by
  obtain ⟨A0, n0, c0, rfl⟩ := hvr
  obtain ⟨k, hk3, hpick⟩ := pick3 which (i64_of_wf hwh)
  have HV := Lib.hid hv
  have HP := Lib.hid hpick
  clear hv hpick hwh
  have hfld := field_flows
  go_enter Try.func5, Try.ntmps5
  go_upto_region 2 with (go_at_call 11; refine (awake13_any _).mono ?_; rintro e w1 ⟨rfl, hb1⟩)
  have HF := Lib.hid (fit_flows raw hI (.slice A0 n0 c0) w1 (HV.out.imp (fun _ h => Nat.lt_of_lt_of_le h hb1.size) (fun b h => hb1.block b h) (fun _ _ _ r => r.imp (fun _ h => Nat.lt_of_lt_of_le h hb1.size) (fun b h => hb1.block b h))))
  have HB1 := Lib.hid hb1
  clear hb1
  have hGF := good_fit raw k
  have hpos := fit_pos raw k
  have hle := fit_le raw k
  have hkd : ∀ b ∈ (fitFl raw k).blocks, 1 ≤ b.term.kind := fun b hb => by
    obtain ⟨y, _, rfl⟩ := List.mem_map.1 hb
    exact (fitTerm_kind _ _).1
  generalize hf : fitFl raw k = f at *
  have HGF := Lib.hid hGF
  have HKD := Lib.hid hkd
  clear hGF hkd
  go_upto_region 3 with (first | (go_at_call 12; refine HF.out.mono ?_; rintro e w2 ⟨Aa, ca, b, off, c, rfl, hb2, hbl, hff⟩; obtain ⟨A, cc, q0, q1, q2, q3, hsl⟩ := hff k hk3; have HSL := Lib.hid hsl; have HB2 := Lib.hid hb2; clear hff hsl hb2) | (go_at_call 13; refine (HP.out _).mono ?_; rintro e w' ⟨rfl, rfl⟩))
  clear q0 q1 q2 q3 hfld
  refine wp_world ?_
  intro W hW
  have hBW : Below w2.heap.size w2 W := by rw [← hW]; exact below1 _ _
  have hF : Blk W w2.heap.size 25 #[.string f.name, .int .i64 f.params, .int .i64 f.values, .slice A f.blocks.length cc] := by rw [← hW]; exact Blk.new_at _ _ _ rfl
  clear hW
  have c0' : W.cell? ⟨w2.heap.size, 0, none⟩ = some (.string f.name) := hF.cell 0
  have c1 : W.cell? ⟨w2.heap.size, 1, none⟩ = some (.int .i64 f.params) := hF.cell 1
  have c2 : W.cell? ⟨w2.heap.size, 2, none⟩ = some (.int .i64 f.values) := hF.cell 2
  have c3 : W.cell? ⟨w2.heap.size, 3, none⟩ = some (.slice A f.blocks.length cc) := hF.cell 3
  have hsl2 := HSL.out
  rw [hf] at hsl2
  have hSW : SlR W (· < W.heap.size) 5 (RBlock W (· < W.heap.size)) (.slice A f.blocks.length cc) f.blocks := hsl2.imp (fun _ h => Nat.lt_of_lt_of_le h hBW.size) (fun b h => hBW.block b h) (fun _ _ _ r => r.imp (fun _ h => Nat.lt_of_lt_of_le h hBW.size) (fun b h => hBW.block b h))
  have HRE := Lib.hid (reach_any f HGF.out hpos (by omega) (.slice A f.blocks.length cc) W hSW)
  have HSW := Lib.hid hSW
  have HBW := Lib.hid hBW
  have HFW := Lib.hid hF
  clear hSW hBW hF hsl2 hf HSL
  go_upto_region 4 with (go_at_call 17; refine HRE.out.mono ?_; rintro e w3 ⟨v3, M, rfl, hb3, hs3, hml, hvis⟩; have hcm := come_of_visited HKD.out hml (hvis hpos); obtain ⟨bm, om, cm, hv3, _, _, hbm, hel3⟩ := hs3.form (by omega); rw [hml] at hv3; subst hv3)
  have hF3 := HFW.out.below hb3 HFW.out.lt
  have k3 : w3.cell? ⟨w2.heap.size, 3, none⟩ = some (.slice A f.blocks.length cc) := hF3.cell 3
  have hmc : ∀ (i : Nat) (h : i < M.length), w3.cell? ⟨bm, om + i, none⟩ = some (.bool M[i]) := fun i h => by
    obtain ⟨cs, _, hr, hc⟩ := hel3 i h
    subst hr
    have h := hc.at_ (j := 0) rfl
    simpa using h
  have hm0 : M[0]? = some true := hcm.zero
  have hml0 : 0 < M.length := by omega
  have r0 : w3.cell? ⟨bm, om, none⟩ = some (.bool true) := by
    have h := hmc 0 hml0
    rw [List.getElem?_eq_getElem hml0] at hm0
    rw [Option.some.inj hm0] at h
    simpa using h
  have hbl3 : bm < w3.heap.size := hbm.2
  have b0 : ((f.blocks.length : Int) != (f.blocks.length : Int)) = false := by simp
  have p0 : (0 : Int) < (f.blocks.length : Int) := by omega
  have HCM := Lib.hid hcm
  have HMC := Lib.hid hmc
  have HML := Lib.hid hml
  have HF3 := Lib.hid hF3
  have HB3 := Lib.hid hb3
  have hfl3 : w2.heap.size < w3.heap.size := hF3.lt
  clear c0' c1 c2 c3 hcm hmc hml hF3 hb3 hs3 hvis hel3 hm0 hml0 hbm HRE
  obtain ⟨bb, ob, cb, hfb, _, _, hbb, hblk⟩ := HSW.out.form hpos
  obtain rfl : A = some ⟨bb, ob, none⟩ := by injection hfb
  have hbb3 : bb < w3.heap.size := Nat.lt_of_lt_of_le hbb HB3.out.size
  have hbbW : bb < W.heap.size := hbb
  have HBLK := Lib.hid hblk
  clear hfb hblk hbb
  go_wp2
  go_loopw [8] (fun s wr => ∃ i : Nat, i ≤ f.blocks.length ∧ s = .int .i64 i ∧ Below w3.heap.size w3 wr) (fun s _ => f.blocks.length - (RowKit.intOf s).toNat)
  case atStart => exact ⟨0, by omega, rfl, Below.refl _ _⟩
  case round =>
    obtain ⟨i, hi, rfl, hbr⟩ := hrel
    have k4 : wr.cell? ⟨w2.heap.size, 3, none⟩ = some (.slice (some ⟨bb, ob, none⟩) f.blocks.length cc) := (hbr.cell (p := ⟨w2.heap.size, 3, none⟩) hfl3).trans k3
    by_cases hlt : i < f.blocks.length
    · have d0 : decide ((i : Int) < (f.blocks.length : Int)) = true := decide_eq_true (by omega)
      have him : i < M.length := by rw [HML.out]; exact hlt
      have m0 : wr.cell? ⟨bm, om + i, none⟩ = some (.bool M[i]) := (hbr.cell (p := ⟨bm, om + i, none⟩) hbl3).trans (HMC.out i him)
      have HBR := Lib.hid hbr
      clear hbr
      obtain ⟨wo, hwo⟩ : ∃ wo, wo = wr := ⟨_, rfl⟩
      subst hwo
      go_wp2
      go_loopw [9, 10] (fun s9 s10 wr => ∃ p : Nat, p ≤ f.blocks.length ∧ s10 = .int .i64 p ∧ s9 = .bool (ledB f M i p) ∧ Below w3.heap.size w3 wr) (fun _ s _ => f.blocks.length - (RowKit.intOf s).toNat)
      case atStart =>
        refine ⟨0, by omega, rfl, ?_, HBR.out⟩
        rw [ledB_zero]
        by_cases h : i = 0
        · subst h; simp
        · simp [h]
      case round =>
        obtain ⟨p, hp, rfl, rfl, hbr⟩ := hrel
        have m1 : wr.cell? ⟨bm, om + i, none⟩ = some (.bool M[i]) := (hbr.cell (p := ⟨bm, om + i, none⟩) hbl3).trans (HMC.out i him)
        by_cases hlt2 : p < f.blocks.length
        · have d1 : decide ((p : Int) < (f.blocks.length : Int)) = true := decide_eq_true (by omega)
          have hpm : p < M.length := by rw [HML.out]; exact hlt2
          have m2 : wr.cell? ⟨bm, om + p, none⟩ = some (.bool M[p]) := (hbr.cell (p := ⟨bm, om + p, none⟩) hbl3).trans (HMC.out p hpm)
          have k5 : wr.cell? ⟨w2.heap.size, 3, none⟩ = some (.slice (some ⟨bb, ob, none⟩) f.blocks.length cc) := (hbr.cell (p := ⟨w2.heap.size, 3, none⟩) hfl3).trans k3
          obtain ⟨cs, _, ⟨vi, hcs, _⟩, hcell⟩ := HBLK.out p hlt2
          subst hcs
          have hls := ledB_succ (i := i) hlt2 hpm
          obtain ⟨t, ht0⟩ : ∃ t, t = f.blocks[p].term := ⟨_, rfl⟩
          rw [← ht0] at hcell hls
          have hcw := (hcell.keep (HB3.out.block bb (Nat.lt_of_lt_of_le hbbW (Nat.le_refl _)))).keep (hbr.block bb hbb3)
          have i1 : wr.cell? ⟨bb, ob + p * 5 + 1, none⟩ = some (.int .i64 t.kind) := hcw.at_ (j := 1) rfl
          have i2 : wr.cell? ⟨bb, ob + p * 5 + 2, none⟩ = some (.int .i64 t.a) := hcw.at_ (j := 2) rfl
          have i3 : wr.cell? ⟨bb, ob + p * 5 + 3, none⟩ = some (.int .i64 t.to) := hcw.at_ (j := 3) rfl
          have i4 : wr.cell? ⟨bb, ob + p * 5 + 4, none⟩ = some (.int .i64 t.els) := hcw.at_ (j := 4) rfl
          have HLS := Lib.hid hls
          have hbmr : bm < wr.heap.size := Nat.lt_of_lt_of_le hbl3 hbr.size
          have HBR2 := Lib.hid hbr
          generalize hq : ledB f M i p = q at *
          generalize hmp : M[p] = mp at *
          have HQ := Lib.hid hq
          have HMP := Lib.hid hmp
          have HT0 := Lib.hid ht0
          clear hcell hcw hls hbr hq hmp ht0
          by_cases k2 : t.kind ≤ 2
          · have k2d : decide (t.kind ≤ 2) = true := decide_eq_true k2
            by_cases ht : t.to = (i : Int)
            · have hte : (t.to == (i : Int)) = true := beq_iff_eq.2 ht
              have htd : decide (t.to = (i : Int)) = true := decide_eq_true ht
              have hld : leadsB t i = true := by unfold leadsB; simp [k2, ht]
              have HLD := Lib.hid hld
              clear hld
              clear k2 ht
              cases mp with
              | false =>
                cases q with
                | false =>
                  have hv : ledB f M i (p + 1) = false := by rw [HLS.out, HLD.out]; rfl
                  have HV9 := Lib.hid hv
                  clear hv
                  go_wp2
                  go_roundw
                  case rel => exact ⟨p + 1, by omega, by go_num, by rw [HV9.out], HBR2.out.alloc HBR2.out.size _⟩
                  case measure => simp [RowKit.intOf]; omega
                | true =>
                  have hv : ledB f M i (p + 1) = true := by rw [HLS.out, HLD.out]; rfl
                  have HV9 := Lib.hid hv
                  clear hv
                  go_wp2
                  go_roundw
                  case rel => exact ⟨p + 1, by omega, by go_num, by rw [HV9.out], HBR2.out.alloc HBR2.out.size _⟩
                  case measure => simp [RowKit.intOf]; omega
              | true =>
                have hmi : M[i] = true := by
                  have h := HCM.out.closed p i hlt2 hlt (fun _ => by rw [← HT0.out]; exact HLD.out) (by rw [List.getElem?_eq_getElem hpm, HMP.out])
                  rw [List.getElem?_eq_getElem him] at h
                  exact Option.some.inj h
                have m1' := m1
                rw [hmi] at m1'
                clear hmi m1
                cases q with
                | false =>
                  have hv : ledB f M i (p + 1) = true := by rw [HLS.out, HLD.out]; rfl
                  have HV9 := Lib.hid hv
                  clear hv
                  go_wp2
                  go_roundw
                  case rel => exact ⟨p + 1, by omega, by go_num, by rw [HV9.out], HBR2.out.alloc HBR2.out.size _⟩
                  case measure => simp [RowKit.intOf]; omega
                | true =>
                  have hv : ledB f M i (p + 1) = true := by rw [HLS.out, HLD.out]; rfl
                  have HV9 := Lib.hid hv
                  clear hv
                  go_wp2
                  go_roundw
                  case rel => exact ⟨p + 1, by omega, by go_num, by rw [HV9.out], HBR2.out.alloc HBR2.out.size _⟩
                  case measure => simp [RowKit.intOf]; omega
            · have hte : (t.to == (i : Int)) = false := by simp [ht]
              have htd : decide (t.to = (i : Int)) = false := decide_eq_false ht
              by_cases kk : t.kind = 2
              · have kke : (t.kind == 2) = true := beq_iff_eq.2 kk
                have kkd : decide (t.kind = 2) = true := decide_eq_true kk
                by_cases he : t.els = (i : Int)
                · have hee : (t.els == (i : Int)) = true := beq_iff_eq.2 he
                  have hed : decide (t.els = (i : Int)) = true := decide_eq_true he
                  have hld : leadsB t i = true := by unfold leadsB; simp [kk, he]
                  have HLD := Lib.hid hld
                  clear hld
                  clear k2 ht kk he
                  cases mp with
                  | false =>
                    cases q with
                    | false =>
                      have hv : ledB f M i (p + 1) = false := by rw [HLS.out, HLD.out]; rfl
                      have HV9 := Lib.hid hv
                      clear hv
                      go_wp2
                      go_roundw
                      case rel => exact ⟨p + 1, by omega, by go_num, by rw [HV9.out], HBR2.out.alloc HBR2.out.size _⟩
                      case measure => simp [RowKit.intOf]; omega
                    | true =>
                      have hv : ledB f M i (p + 1) = true := by rw [HLS.out, HLD.out]; rfl
                      have HV9 := Lib.hid hv
                      clear hv
                      go_wp2
                      go_roundw
                      case rel => exact ⟨p + 1, by omega, by go_num, by rw [HV9.out], HBR2.out.alloc HBR2.out.size _⟩
                      case measure => simp [RowKit.intOf]; omega
                  | true =>
                    have hmi : M[i] = true := by
                      have h := HCM.out.closed p i hlt2 hlt (fun _ => by rw [← HT0.out]; exact HLD.out) (by rw [List.getElem?_eq_getElem hpm, HMP.out])
                      rw [List.getElem?_eq_getElem him] at h
                      exact Option.some.inj h
                    have m1' := m1
                    rw [hmi] at m1'
                    clear hmi m1
                    cases q with
                    | false =>
                      have hv : ledB f M i (p + 1) = true := by rw [HLS.out, HLD.out]; rfl
                      have HV9 := Lib.hid hv
                      clear hv
                      go_wp2
                      go_roundw
                      case rel => exact ⟨p + 1, by omega, by go_num, by rw [HV9.out], HBR2.out.alloc HBR2.out.size _⟩
                      case measure => simp [RowKit.intOf]; omega
                    | true =>
                      have hv : ledB f M i (p + 1) = true := by rw [HLS.out, HLD.out]; rfl
                      have HV9 := Lib.hid hv
                      clear hv
                      go_wp2
                      go_roundw
                      case rel => exact ⟨p + 1, by omega, by go_num, by rw [HV9.out], HBR2.out.alloc HBR2.out.size _⟩
                      case measure => simp [RowKit.intOf]; omega
                · have hee : (t.els == (i : Int)) = false := by simp [he]
                  have hed : decide (t.els = (i : Int)) = false := decide_eq_false he
                  have hld : leadsB t i = false := by unfold leadsB; simp [ht, he]
                  have HLD := Lib.hid hld
                  clear hld
                  clear k2 ht kk he
                  cases q with
                  | false =>
                    have hv : ledB f M i (p + 1) = false := by rw [HLS.out, HLD.out]; rfl
                    have HV9 := Lib.hid hv
                    clear hv
                    go_wp2
                    go_roundw
                    case rel => exact ⟨p + 1, by omega, by go_num, by rw [HV9.out], HBR2.out.alloc HBR2.out.size _⟩
                    case measure => simp [RowKit.intOf]; omega
                  | true =>
                    have hv : ledB f M i (p + 1) = true := by rw [HLS.out, HLD.out]; rfl
                    have HV9 := Lib.hid hv
                    clear hv
                    go_wp2
                    go_roundw
                    case rel => exact ⟨p + 1, by omega, by go_num, by rw [HV9.out], HBR2.out.alloc HBR2.out.size _⟩
                    case measure => simp [RowKit.intOf]; omega
              · have kke : (t.kind == 2) = false := by simp [kk]
                have kkd : decide (t.kind = 2) = false := decide_eq_false kk
                have hld : leadsB t i = false := by unfold leadsB; simp [ht, kk]
                have HLD := Lib.hid hld
                clear hld
                clear k2 ht kk
                cases q with
                | false =>
                  have hv : ledB f M i (p + 1) = false := by rw [HLS.out, HLD.out]; rfl
                  have HV9 := Lib.hid hv
                  clear hv
                  go_wp2
                  go_roundw
                  case rel => exact ⟨p + 1, by omega, by go_num, by rw [HV9.out], HBR2.out.alloc HBR2.out.size _⟩
                  case measure => simp [RowKit.intOf]; omega
                | true =>
                  have hv : ledB f M i (p + 1) = true := by rw [HLS.out, HLD.out]; rfl
                  have HV9 := Lib.hid hv
                  clear hv
                  go_wp2
                  go_roundw
                  case rel => exact ⟨p + 1, by omega, by go_num, by rw [HV9.out], HBR2.out.alloc HBR2.out.size _⟩
                  case measure => simp [RowKit.intOf]; omega
          · have k2d : decide (t.kind ≤ 2) = false := decide_eq_false k2
            have kk : ¬ t.kind = 2 := by omega
            have kke : (t.kind == 2) = false := by simp [kk]
            have kkd : decide (t.kind = 2) = false := decide_eq_false kk
            have hld : leadsB t i = false := by unfold leadsB; simp [k2, kk]
            have HLD := Lib.hid hld
            clear hld
            clear k2 kk
            cases q with
            | false =>
              have hv : ledB f M i (p + 1) = false := by rw [HLS.out, HLD.out]; rfl
              have HV9 := Lib.hid hv
              clear hv
              go_wp2
              go_roundw
              case rel => exact ⟨p + 1, by omega, by go_num, by rw [HV9.out], HBR2.out.alloc HBR2.out.size _⟩
              case measure => simp [RowKit.intOf]; omega
            | true =>
              have hv : ledB f M i (p + 1) = true := by rw [HLS.out, HLD.out]; rfl
              have HV9 := Lib.hid hv
              clear hv
              go_wp2
              go_roundw
              case rel => exact ⟨p + 1, by omega, by go_num, by rw [HV9.out], HBR2.out.alloc HBR2.out.size _⟩
              case measure => simp [RowKit.intOf]; omega
        · have d1 : decide ((p : Int) < (f.blocks.length : Int)) = false := decide_eq_false (by omega)
          obtain rfl : p = f.blocks.length := by omega
          have hall := fun h => ledB_all HCM.out (i := i) h
          generalize hq : ledB f M i f.blocks.length = q at *
          generalize hmp : M[i] = mp at *
          have hkey : mp = true → q = true := fun h => hall (by rw [List.getElem?_eq_getElem him, hmp, h])
          have HBR2 := Lib.hid hbr
          have HQ := Lib.hid hq
          have HMP := Lib.hid hmp
          clear hall hq hmp hbr
          cases mp with
          | false =>
            clear hkey
            cases q with
            | false =>
              go_wp2
              go_roundw
              case rel => exact ⟨i + 1, by omega, by go_num, HBR2.out⟩
              case measure => simp [RowKit.intOf]; omega
            | true =>
              go_wp2
              go_roundw
              case rel => exact ⟨i + 1, by omega, by go_num, HBR2.out⟩
              case measure => simp [RowKit.intOf]; omega
          | true =>
            obtain rfl := hkey rfl
            clear hkey
            go_wp2
            go_roundw
            case rel => exact ⟨i + 1, by omega, by go_num, HBR2.out⟩
            case measure => simp [RowKit.intOf]; omega
    · have d0 : decide ((i : Int) < (f.blocks.length : Int)) = false := decide_eq_false (by omega)
      go_wp2
      go_ret
      have q1 := HB1.out.size
      have e1 := HB1.out.trans (HB2.out.mono q1)
      have e2 := e1.trans (HBW.out.mono e1.size)
      have e3 := e2.trans (HB3.out.mono e2.size)
      exact ⟨rfl, e3.trans (hbr.mono e3.size)⟩
end Go.Proofs.Ytknccacfhknnaaa
