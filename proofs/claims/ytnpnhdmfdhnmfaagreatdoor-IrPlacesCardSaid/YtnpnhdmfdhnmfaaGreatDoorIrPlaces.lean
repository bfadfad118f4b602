/- Each function is found at its place; where an end leads to are blocks that there are: the walk of 'IrPlacesSaid'. -/
import Derived.Test.YtnpnhdmfdhnmfaaGreatDoorAw10
import Derived.Test.YtnpnhdmfdhnmfaaGreatDoorFit
import Derived.Test.YtnpnhdmfdhnmfaaGreatDoorFitGood
import Derived.Test.YtnpnhdmfdhnmfaaGreatDoorArgs
import Derived.BigQuiet
namespace Go.Proofs.YtnpnhdmfdhnmfaaGreatDoor
open Go.RowKit

theorem place_fit (raw : List LBlock) {k : Nat} (hk : k < 3) : placeU (fitU raw) (fitFl raw k).name = (k : Int) := by
  rcases (by omega : k = 0 ∨ k = 1 ∨ k = 2) with rfl | rfl | rfl <;> (unfold placeU findI; rfl)
theorem place_no (raw : List LBlock) (s : ByteArray) (h : decide (sMain = s) = false ∧ decide (sF = s) = false ∧ decide (sG = s) = false) : placeU (fitU raw) s = -1 := by
  unfold placeU
  refine findI_none ?_
  show (decide (sMain = s) || (decide (sF = s) || (decide (sG = s) || false))) = false
  rw [h.1, h.2.1, h.2.2]
  rfl
theorem slr_flows {w : World} {base : Nat} {T : TypeId} {v : Value} {l : List LFlow} {css : List (List Value)} (h : OwnL w base T 4 RFlow v l css) : SlR w (· < w.heap.size) 4 (RFlow w (· < w.heap.size)) v l :=
  SlR.of_own h.row rfl h.len h.each (fun i h1 h2 => (h.elems i h1 h2).imp (fun _ hb => hb.2.1) (Keeps.refl _ _)) (fun g e => (h.lt g e).2)
set_option maxRecDepth 100000 in
set_option maxHeartbeats 8000000 in
theorem irPlaces_walk (vr : Value) (raw : List LBlock) (hI : ∀ x ∈ raw, x.I) (w : World) (hsl : SlR w (· < w.heap.size) 5 (RBlock w (· < w.heap.size)) vr raw) :
    Calls Tryz.prog 6 #[vr] w fun e w' => e = .returned (.bool true) ∧ Below w.heap.size w w' := by
  obtain ⟨Ar, cr, hvr, _, _⟩ := hsl.val
  subst hvr
  have HAW := Lib.hid (awake10_any w)
  have HFIT := Lib.hid (fun (X : World) (hb : Below w.heap.size w X) => fit_any raw hI (.slice Ar raw.length cr) X (hsl.imp (fun _ h => Nat.lt_of_lt_of_le h hb.size) (fun b h => hb.block b h) (fun _ _ _ r => r.imp (fun _ h => Nat.lt_of_lt_of_le h hb.size) (fun b h => hb.block b h))))
  clear hsl hI
  go_enter Tryz.func6, Tryz.ntmps6
  go_upto_region 3 with (first | (go_at_call 13; refine HAW.out.mono ?_; rintro e w2 ⟨rfl, hb2⟩) | (go_at_call 14; refine (HFIT.out _ hb2).mono ?_; rintro e w3 ⟨va, vf, css, rfl, hb3, hsa, hof⟩; obtain ⟨Aa, ca, hva, _, _⟩ := hsa.val; obtain ⟨Af, cf, hvf, _, _⟩ := (slr_flows hof).val; subst hva hvf))
  refine wp_world ?_
  intro W hW
  have hB : Below w.heap.size w W := by
    have h := hb2.trans (hb3.mono hb2.size)
    rw [← hW]; exact h.alloc h.size _
  have hU : Blk W w3.heap.size 27 #[.slice Aa (fitU raw).arrays.length ca, .slice Af (fitU raw).flows.length cf] := by rw [← hW]; exact Blk.new w3 _ _
  have hF : SlR W (· < W.heap.size) 4 (RFlow W (· < W.heap.size)) (.slice Af (fitU raw).flows.length cf) (fitU raw).flows := by
    rw [← hW]
    exact slr_flows (hof.below mono_flow (below1 w3 _))
  obtain ⟨ub, hub⟩ : ∃ ub, ub = w3.heap.size := ⟨_, rfl⟩
  rw [← hub] at hU ⊢
  have hul := hU.lt
  obtain ⟨gf, of_, cf', hform, _, _, hgl, hq⟩ := hF.form (by show 0 < 3; decide)
  obtain ⟨rfl, rfl⟩ : Af = some ⟨gf, of_, none⟩ ∧ cf = cf' := by injection hform with h1 _ h2; exact ⟨h1, h2⟩
  have HF := Lib.hid hF
  have HQ := Lib.hid hq
  have HU := Lib.hid hU
  have HB := Lib.hid hB
  have u0 : W.cell? ⟨ub, 0, none⟩ = some (.slice Aa 2 ca) := hU.cell 0
  have u1 : W.cell? ⟨ub, 1, none⟩ = some (.slice (some ⟨gf, of_, none⟩) 3 cf) := hU.cell 1
  have HU0 : Hid (∀ X, Below W.heap.size W X → X.cell? ⟨ub, 0, none⟩ = some (.slice Aa 2 ca) ∧ X.cell? ⟨ub, 1, none⟩ = some (.slice (some ⟨gf, of_, none⟩) 3 cf)) := Lib.hid (fun X h => ⟨(HU.out.below h hul).cell 0, (HU.out.below h hul).cell 1⟩)
  have HPS : Hid (∀ X, Below W.heap.size W X → ∀ s, Calls Tryz.prog 23 #[.agg #[.slice Aa 2 ca, .slice (some ⟨gf, of_, none⟩) 3 cf], .string s] X fun e w' => e = .returned (.int .i64 (placeU (fitU raw) s)) ∧ Below X.heap.size X w') := Lib.hid (fun X hb s => place_u (fitU raw) s Aa 2 ca _ X (HF.out.imp (fun _ h => Nat.lt_of_lt_of_le h hb.size) (fun b h => hb.block b h) (fun _ _ _ r => r.imp (fun _ h => Nat.lt_of_lt_of_le h hb.size) (fun b h => hb.block b h))))
  clear hW hB hU hF hform hq hb2 hb3 hsa hof HAW HFIT hub
  go_wp2
  clear u0 u1
  go_loopw [5] (fun s wr => ∃ i : Nat, i ≤ 3 ∧ s = .int .i64 i ∧ Below W.heap.size W wr) (fun s _ => 3 - (RowKit.intOf s).toNat)
  case atStart => exact ⟨0, by omega, rfl, Below.refl _ _⟩
  case round =>
    obtain ⟨i, hi, rfl, hbr⟩ := hrel
    obtain ⟨u0, u1⟩ := HU0.out wr hbr
    have HBR := Lib.hid hbr
    by_cases hlt : i < 3
    · have e1 : decide ((i : Int) < 3) = true := decide_eq_true (by omega)
      have hi3 : (i : Int) < 3 := by omega
      obtain ⟨cs, _, ⟨vb, hcs, hsb⟩, hcell⟩ := HQ.out i hlt
      have hfe : (fitU raw).flows[i] = fitFl raw i := by
        rcases (by omega : i = 0 ∨ i = 1 ∨ i = 2) with rfl | rfl | rfl <;> rfl
      rw [hfe] at hcs hsb
      obtain ⟨Ab, cb, hvb, hlb, hlc⟩ := hsb.val
      subst hvb
      subst hcs
      have HCE := Lib.hid hcell
      have hcw := hcell.keep (hbr.block gf hgl)
      have i0 : wr.cell? ⟨gf, of_ + i * 4, none⟩ = some (.string (fitFl raw i).name) := by have h := hcw.at_ (j := 0) rfl; simpa using h
      have hwr : gf < wr.heap.size := Nat.lt_of_lt_of_le hgl hbr.size
      have hwu : ub < wr.heap.size := Nat.lt_of_lt_of_le hul hbr.size
      have HPL : Hid (∀ X, Below wr.heap.size wr X → Calls Tryz.prog 23 #[.agg #[.slice Aa 2 ca, .slice (some ⟨gf, of_, none⟩) 3 cf], .string (fitFl raw i).name] X fun e w' => e = .returned (.int .i64 (i : Int)) ∧ Below X.heap.size X w') := Lib.hid (fun X hb => by
        have h := HPS.out X (HBR.out.trans (hb.mono HBR.out.size)) (fitFl raw i).name
        rw [place_fit raw hlt] at h
        exact h)
      have SO : Hid (∀ X, Below wr.heap.size wr X → (fun w2 => w2.cell? ⟨ub, 0, none⟩ = some (.slice Aa 2 ca) ∧ w2.cell? ⟨ub, 1, none⟩ = some (.slice (some ⟨gf, of_, none⟩) 3 cf) ∧ w2.cell? ⟨gf, of_ + i * 4, none⟩ = some (.string (fitFl raw i).name)) X) := Lib.hid (fun X hb => ⟨(hb.cell (p := ⟨ub, 0, none⟩) hwu).trans u0, (hb.cell (p := ⟨ub, 1, none⟩) hwu).trans u1, (hb.cell (p := ⟨gf, of_ + i * 4, none⟩) hwr).trans i0⟩)
      have HSB := Lib.hid hsb
      have hpos := fit_pos raw i
      have hle := fit_le raw i
      clear hcw hcell hsb hbr hfe
      go_upto_region 6 with fail
      clear i0 u0 u1
      refine wp_region_L (by kernel_rfl) 9 (fun w2 => w2.cell? ⟨ub, 0, none⟩ = some (.slice Aa 2 ca) ∧ w2.cell? ⟨ub, 1, none⟩ = some (.slice (some ⟨gf, of_, none⟩) 3 cf) ∧ w2.cell? ⟨gf, of_ + i * 4, none⟩ = some (.string (fitFl raw i).name)) (SO.out _ (Below.refl _ _).drew) (fun hHeld => ?_)
      have HS0 := Lib.hid hHeld
      clear hHeld
      change wpAnyL _ _ _ _ _ 9 10 (Array.replicate 10 false) _ _
      refine takeL_S 0 20 (.agg #[.slice Aa 2 ca, .slice (some ⟨gf, of_, none⟩) 3 cf]) [7, 9] HS0.out rfl rfl (by kernel_rfl) (by kernel_rfl) (by kernel_rfl) (by decide) (by kernel_rfl) (fun _ _ _ h => h) (by kernel_rfl) ?_ ?_
      · intro w2 hSw; obtain ⟨g0, g1, g2⟩ := hSw; go_simp
      simp only [List.setIfInBounds_toArray, List.set_cons_zero, List.set_cons_succ]
      refine takeL 1 21 (.pointer (some ⟨ub, 1, none⟩)) HS0.out rfl rfl (by kernel_rfl) (by kernel_rfl) (by kernel_rfl) (by decide) (fun _ _ _ h => h) (by kernel_rfl) ?_ ?_
      · intro w2; go_simp
      simp only [List.setIfInBounds_toArray, List.set_cons_zero, List.set_cons_succ]
      refine takeL_S 2 22 (.slice (some ⟨gf, of_, none⟩) 3 cf) [4, 5, 6, 7, 9] HS0.out rfl rfl (by kernel_rfl) (by kernel_rfl) (by kernel_rfl) (by decide) (by kernel_rfl) (fun _ _ _ h => h) (by kernel_rfl) ?_ ?_
      · intro w2 hSw; obtain ⟨g0, g1, g2⟩ := hSw; go_simp
      simp only [List.setIfInBounds_toArray, List.set_cons_zero, List.set_cons_succ]
      refine takeL 3 23 (.int .i64 (i : Int)) HS0.out rfl rfl (by kernel_rfl) (by kernel_rfl) (by kernel_rfl) (by decide) (fun _ _ _ h => h) (by kernel_rfl) ?_ ?_
      · intro w2; go_simp
      simp only [List.setIfInBounds_toArray, List.set_cons_zero, List.set_cons_succ]
      refine takeL 4 24 (.pointer (some ⟨gf, of_ + i * 4, none⟩)) HS0.out rfl rfl (by kernel_rfl) (by kernel_rfl) (by kernel_rfl) (by decide) (fun _ _ _ h => h) (by kernel_rfl) ?_ ?_
      · intro w2; go_simp
      simp only [List.setIfInBounds_toArray, List.set_cons_zero, List.set_cons_succ]
      refine takeL 5 25 (.pointer (some ⟨gf, of_ + i * 4, none⟩)) HS0.out rfl rfl (by kernel_rfl) (by kernel_rfl) (by kernel_rfl) (by decide) (fun _ _ _ h => h) (by kernel_rfl) ?_ ?_
      · intro w2; go_simp
      simp only [List.setIfInBounds_toArray, List.set_cons_zero, List.set_cons_succ]
      refine takeL_S 6 26 (.string (fitFl raw i).name) [7, 9] HS0.out rfl rfl (by kernel_rfl) (by kernel_rfl) (by kernel_rfl) (by decide) (by kernel_rfl) (fun _ _ _ h => h) (by kernel_rfl) ?_ ?_
      · intro w2 hSw; obtain ⟨g0, g1, g2⟩ := hSw; go_simp
      simp only [List.setIfInBounds_toArray, List.set_cons_zero, List.set_cons_succ]
      refine takeL 8 28 (.int .i64 (i : Int)) HS0.out rfl rfl (by kernel_rfl) (by kernel_rfl) (by kernel_rfl) (by decide) (fun _ _ _ h => h) (by kernel_rfl) ?_ ?_
      · intro w2; go_simp
      simp only [List.setIfInBounds_toArray, List.set_cons_zero, List.set_cons_succ]
      refine wpAnyL_ready (rs := [7]) (by kernel_rfl) (by simp) ?_
      refine AllReadyL.cons rfl (fun K hK => ?_) AllReadyL.nil
      go_simp
      refine (HPL.out wr.drew (Below.refl _ _).drew).mono ?_
      rintro e X1 ⟨rfl, hx1⟩
      have HX1 : Hid (Below wr.heap.size wr X1) := Lib.hid ((Below.refl wr.heap.size wr).drew.trans hx1)
      clear hx1
      refine hK.out _ _ (SO.out _ HX1.out) (fun hHeld => ?_)
      have HS1 := Lib.hid hHeld
      clear hK K hHeld
      try simp only [List.setIfInBounds_toArray, List.set_cons_zero, List.set_cons_succ]
      refine wpAnyL_ready (rs := [9]) (by kernel_rfl) (by simp) ?_
      refine AllReadyL.last rfl (by kernel_rfl) (fun K hK => ?_)
      go_simp
      refine hK.out _ _ ?_
      clear hK K
      try simp only [List.setIfInBounds_toArray, List.set_cons_zero, List.set_cons_succ]
      refine wpAnyL_done (by kernel_rfl) ?_ _
      have HBX := Lib.hid (HBR.out.trans (HX1.out.mono HBR.out.size))
      go_wp2
      go_loopw [6] (fun s wr => ∃ k : Nat, k ≤ (fitFl raw i).blocks.length ∧ s = .int .i64 k ∧ Below W.heap.size W wr) (fun s _ => (fitFl raw i).blocks.length - (RowKit.intOf s).toNat)
      case atStart => exact ⟨0, by omega, rfl, HBX.out⟩
      case round =>
        obtain ⟨wq, hwq⟩ : ∃ wq, wq = wr := ⟨_, rfl⟩
        subst hwq
        obtain ⟨k, hk, rfl, hbq⟩ := hrel
        obtain ⟨u0, u1⟩ := HU0.out wq hbq
        have HBQ := Lib.hid hbq
        have hcw := HCE.out.keep (hbq.block gf hgl)
        have i3 : wq.cell? ⟨gf, of_ + i * 4 + 3, none⟩ = some (.slice Ab (fitFl raw i).blocks.length cb) := hcw.at_ (j := 3) rfl
        clear hcw
        by_cases hlt2 : k < (fitFl raw i).blocks.length
        · have d2 : decide ((k : Int) < ((fitFl raw i).blocks.length : Int)) = true := decide_eq_true (by omega)
          have hk3 : (k : Int) < ((fitFl raw i).blocks.length : Int) := by omega
          obtain ⟨b4, o4, c4, f4, _, _, hb4, q4⟩ := HSB.out.form (by omega)
          obtain rfl : Ab = some ⟨b4, o4, none⟩ := by injection f4
          obtain ⟨cs, _, ⟨vi, hcs, hsi⟩, hcell⟩ := q4 k hlt2
          have hgd := (fit_blkC raw i _ (List.getElem_mem hlt2)).term
          obtain ⟨b, hbe⟩ : ∃ b, b = (fitFl raw i).blocks[k] := ⟨_, rfl⟩
          rw [← hbe] at hcs hgd
          subst hcs
          have hcw := hcell.keep (hbq.block b4 hb4)
          have i1 : wq.cell? ⟨b4, o4 + k * 5 + 1, none⟩ = some (.int .i64 b.term.kind) := hcw.at_ (j := 1) rfl
          have i2 : wq.cell? ⟨b4, o4 + k * 5 + 2, none⟩ = some (.int .i64 b.term.a) := hcw.at_ (j := 2) rfl
          have i4 : wq.cell? ⟨b4, o4 + k * 5 + 3, none⟩ = some (.int .i64 b.term.to) := hcw.at_ (j := 3) rfl
          have i5 : wq.cell? ⟨b4, o4 + k * 5 + 4, none⟩ = some (.int .i64 b.term.els) := hcw.at_ (j := 4) rfl
          have HNX := Lib.hid (fun X => next_any b.term X)
          clear f4 q4 hcell hcw hsi hb4 hbe hbq
          go_upto_region 12 with fail
          refine wp_world ?_
          intro W7 hW7
          have h7 : Below wq.heap.size wq W7 := by rw [← hW7]; exact below1 _ _
          have x7 : Blk W7 wq.heap.size 41 #[.int .i64 b.term.kind, .int .i64 b.term.a, .int .i64 b.term.to, .int .i64 b.term.els] := by rw [← hW7]; exact Blk.new_at _ _ _ rfl
          have z0 : W7.cell? ⟨wq.heap.size, 0, none⟩ = some (.int .i64 b.term.kind) := x7.cell 0
          have z1 : W7.cell? ⟨wq.heap.size, 1, none⟩ = some (.int .i64 b.term.a) := x7.cell 1
          have z2 : W7.cell? ⟨wq.heap.size, 2, none⟩ = some (.int .i64 b.term.to) := x7.cell 2
          have z3 : W7.cell? ⟨wq.heap.size, 3, none⟩ = some (.int .i64 b.term.els) := x7.cell 3
          have H7 := Lib.hid (HBQ.out.trans (h7.mono HBQ.out.size))
          clear hW7 h7 i1 i2 i3 i4 i5 u0 u1
          go_upto_region 14 with (go_at_call 24; refine (HNX.out W7).mono ?_; rintro e w8 ⟨v8, rfl, hb8, hs8⟩; obtain ⟨A8, c8, hv8, _, _⟩ := hs8.val; subst hv8)
          have x8 := x7.below hb8 x7.lt
          have y0 : w8.cell? ⟨wq.heap.size, 0, none⟩ = some (.int .i64 b.term.kind) := x8.cell 0
          have y2 : w8.cell? ⟨wq.heap.size, 2, none⟩ = some (.int .i64 b.term.to) := x8.cell 2
          have y3 : w8.cell? ⟨wq.heap.size, 3, none⟩ = some (.int .i64 b.term.els) := x8.cell 3
          have H8 := Lib.hid (H7.out.trans (hb8.mono H7.out.size))
          have HS8 := Lib.hid hs8
          generalize b.term = t at *
          clear x7 x8 hb8 hs8 z0 z1 z2 z3 HNX
          cases hgd with
          | jump dst j0 j1 =>
            obtain ⟨b9, o9, c9, f9, _, _, _, q9⟩ := HS8.out.form (by show 0 < 1; decide)
            obtain rfl : A8 = some ⟨b9, o9, none⟩ := by injection f9
            obtain ⟨cs, _, hcs, hcl⟩ := q9 0 (by show 0 < 1; decide)
            have e0 : (nextL ⟨1, 0, dst, 0⟩)[0]'(by show 0 < 1; decide) = dst := rfl
            rw [e0] at hcs
            subst hcs
            have m0 : w8.cell? ⟨b9, o9, none⟩ = some (.int .i64 dst) := by have h := hcl.at_ (j := 0) rfl; simpa using h
            have el : ((nextL ⟨1, 0, dst, 0⟩).length : Int) = 1 := rfl
            have el2 : (nextL ⟨1, 0, dst, 0⟩).length = 1 := rfl
            rw [el2]
            clear f9 q9 hcl e0 HS8
            go_upto_region 18 with fail
            go_quiet (fail)
            go_wp2
            go_roundw
            case rel => exact ⟨k + 1, by omega, by go_num, below_drewN H8.out _⟩
            case measure => simp [RowKit.intOf]; omega
          | if_ a dst els a0 a1 t0 t1 l0 l1 =>
            by_cases hte : dst = els
            · subst hte
              have en : nextL ⟨2, a, dst, dst⟩ = [dst] := by simp [nextL]
              rw [en] at HS8
              obtain ⟨b9, o9, c9, f9, _, _, _, q9⟩ := HS8.out.form (by simp)
              obtain rfl : A8 = some ⟨b9, o9, none⟩ := by injection f9
              obtain ⟨cs, _, hcs, hcl⟩ := q9 0 (by simp)
              subst hcs
              have m0 : w8.cell? ⟨b9, o9, none⟩ = some (.int .i64 dst) := by have h := hcl.at_ (j := 0) rfl; simpa using h
              rw [en, show [dst].length = 1 from rfl]
              clear f9 q9 hcl en HS8
              go_upto_region 18 with fail
              go_quiet (fail)
              go_wp2
              go_roundw
              case rel => exact ⟨k + 1, by omega, by go_num, below_drewN H8.out _⟩
              case measure => simp [RowKit.intOf]; omega
            · have en : nextL ⟨2, a, dst, els⟩ = [dst, els] := by simp [nextL, hte]
              rw [en] at HS8
              obtain ⟨b9, o9, c9, f9, _, _, _, q9⟩ := HS8.out.form (by simp)
              obtain rfl : A8 = some ⟨b9, o9, none⟩ := by injection f9
              obtain ⟨cs, _, hcs, hcl⟩ := q9 0 (by simp)
              obtain ⟨cs1, _, hcs1, hcl1⟩ := q9 1 (by simp)
              subst hcs
              subst hcs1
              have m0 : w8.cell? ⟨b9, o9, none⟩ = some (.int .i64 dst) := by have h := hcl.at_ (j := 0) rfl; simpa using h
              have m1 : w8.cell? ⟨b9, o9 + 1, none⟩ = some (.int .i64 els) := by have h := hcl1.at_ (j := 0) rfl; simpa using h
              have hne : (dst == els) = false := by simp [hte]
              have hne2 : decide (dst = els) = false := decide_eq_false hte
              rw [en, show [dst, els].length = 2 from rfl]
              clear f9 q9 hcl hcl1 en HS8
              go_upto_region 18 with fail
              go_quiet (fail)
              go_wp2
              go_roundw
              case rel => exact ⟨k + 1, by omega, by go_num, below_drewN H8.out _⟩
              case measure => simp [RowKit.intOf]; omega
          | ret a a0 a1 =>
            have en : (nextL ⟨3, a, 0, 0⟩).length = 0 := rfl
            rw [en]
            clear HS8
            go_upto_region 18 with fail
            go_quiet (fail)
            go_wp2
            go_roundw
            case rel => exact ⟨k + 1, by omega, by go_num, below_drewN H8.out _⟩
            case measure => simp [RowKit.intOf]; omega
          | trap a a0 a1 =>
            have en : (nextL ⟨4, a, 0, 0⟩).length = 0 := rfl
            rw [en]
            clear HS8
            go_upto_region 18 with fail
            go_quiet (fail)
            go_wp2
            go_roundw
            case rel => exact ⟨k + 1, by omega, by go_num, below_drewN H8.out _⟩
            case measure => simp [RowKit.intOf]; omega
        · obtain rfl : k = (fitFl raw i).blocks.length := by omega
          have d2 : decide (((fitFl raw i).blocks.length : Int) < ((fitFl raw i).blocks.length : Int)) = false := decide_eq_false (by omega)
          go_wp2
          go_roundw
          case rel => exact ⟨i + 1, by omega, by go_num, HBQ.out⟩
          case measure => simp [RowKit.intOf]; omega
    · obtain rfl : i = 3 := by omega
      have e1 : decide (((3 : Nat) : Int) < 3) = false := decide_eq_false (by omega)
      have hpa := HPS.out wr HBR.out ⟨#[97]⟩
      rw [place_no raw ⟨#[97]⟩ (by decide)] at hpa
      have HPA := Lib.hid hpa
      have HPH : Hid (∀ X, Below W.heap.size W X → Calls Tryz.prog 23 #[.agg #[.slice Aa 2 ca, .slice (some ⟨gf, of_, none⟩) 3 cf], .string ⟨#[104]⟩] X fun e w' => e = .returned (.int .i64 (-1)) ∧ Below X.heap.size X w') := Lib.hid (fun X hb => by
        have h := HPS.out X hb ⟨#[104]⟩
        rw [place_no raw ⟨#[104]⟩ (by decide)] at h
        exact h)
      have tok : True := trivial
      clear hpa HPS
      go_wp2_with (first
        | (go_at_call 23; have _t := tok; refine HPA.out.mono ?_; rintro e w8 ⟨rfl, hb8⟩; clear tok; have H8 := Lib.hid (HBR.out.trans (hb8.mono HBR.out.size)); clear hb8; obtain ⟨k0, k1⟩ := HU0.out w8 H8.out)
        | (go_at_call 23; refine (HPH.out w8 H8.out).mono ?_; rintro e w9 ⟨rfl, hb9⟩; have H9 := Lib.hid (H8.out.trans (hb9.mono H8.out.size)); clear hb9))
      go_ret
      exact ⟨rfl, HB.out.trans (H9.out.mono HB.out.size)⟩
end Go.Proofs.YtnpnhdmfdhnmfaaGreatDoor
