/- Unlike units that may be have unlike texts: the walk of 'IrUnlikeSaid'. -/
import Derived.Test.YtnpnhdmfdhnmfaaGreatDoorAw10
import Derived.Test.YtnpnhdmfdhnmfaaGreatDoorFitPrint
import Derived.Test.YtnpnhdmfdhnmfaaGreatDoorArgs
import Derived.Test.YtnpnhdmfdhnmfaaGreatDoorSame
namespace Go.Proofs.YtnpnhdmfdhnmfaaGreatDoor
open Go.RowKit

theorem S8_inj {a b : List UInt8} (h : S8 a = S8 b) : a = b := by
  have h2 := congrArg L8 h
  exact h2
/-- a unit that Fit has made lies in block b -/
structure FitAt (raw : List LBlock) (W : World) (b : Nat) (A1 A2 : Option Addr) (c1 c2 : Nat) : Prop where
  blk : Blk W b 27 #[.slice A1 (fitU raw).arrays.length c1, .slice A2 (fitU raw).flows.length c2]
  arr : SlR W (· < W.heap.size) 2 RArr (.slice A1 (fitU raw).arrays.length c1) (fitU raw).arrays
  flo : SlR W (· < W.heap.size) 4 (RFlow W (· < W.heap.size)) (.slice A2 (fitU raw).flows.length c2) (fitU raw).flows
theorem FitAt.below {raw : List LBlock} {W W' : World} {b : Nat} {A1 A2 : Option Addr} {c1 c2 : Nat} (h : FitAt raw W b A1 A2 c1 c2) (hb : Below W.heap.size W W') : FitAt raw W' b A1 A2 c1 c2 :=
  ⟨h.blk.below hb h.blk.lt, h.arr.imp (fun _ g => Nat.lt_of_lt_of_le g hb.size) (fun b g => hb.block b g) (fun _ _ _ r => r), slr_at mono_flow h.flo hb⟩
set_option maxRecDepth 100000 in
set_option maxHeartbeats 8000000 in
theorem irUnlike_walk (vr vs : Value) (raw : List LBlock) (hI : ∀ x ∈ raw, x.I) (ras : List LBlock) (hJ : ∀ x ∈ ras, x.I) (w : World) (htab : TabAt w) (hsl : SlR w (· < w.heap.size) 5 (RBlock w (· < w.heap.size)) vr raw) (hsm : SlR w (· < w.heap.size) 5 (RBlock w (· < w.heap.size)) vs ras) :
    Calls Tryz.prog 3 #[vr, vs] w fun e w' => e = .returned (.bool true) ∧ Below w.heap.size w w' := by
  obtain ⟨Ar, cr, hvr, _, _⟩ := hsl.val
  obtain ⟨As, cs, hvs, _, _⟩ := hsm.val
  subst hvr hvs
  have HAW := Lib.hid (awake10_any w)
  have HFIT := Lib.hid (fun (X : World) (hb : Below w.heap.size w X) => fit_any raw hI (.slice Ar raw.length cr) X (slr_at mono_block hsl hb))
  have HFIS := Lib.hid (fun (X : World) (hb : Below w.heap.size w X) => fit_any ras hJ (.slice As ras.length cs) X (slr_at mono_block hsm hb))
  have HTAB := Lib.hid htab
  have HI := Lib.hid hI
  have HJ := Lib.hid hJ
  clear hsl hsm hI hJ htab
  go_enter Tryz.func3, Tryz.ntmps3
  go_upto_region 3 with (first | (go_at_call 13; refine HAW.out.mono ?_; rintro e w2 ⟨rfl, hb2⟩) | (go_at_call 14; refine (HFIT.out _ hb2).mono ?_; rintro e w3 ⟨va, vf, css, rfl, hb3, hsa, hof⟩; obtain ⟨Aa, ca, hva, _, _⟩ := hsa.val; obtain ⟨Af, cf, hvf, _, _⟩ := (slr_flows hof).val; subst hva hvf))
  refine wp_world ?_
  intro W hW
  have hB : Below w.heap.size w W := by
    have h := hb2.trans (hb3.mono hb2.size)
    rw [← hW]; exact h.alloc h.size _
  have hFA : FitAt raw W w3.heap.size Aa Af ca cf := by
    rw [← hW]
    exact ⟨Blk.new w3 _ _, hsa.imp (fun b hb => by have hb' := hb.2; simp; omega) (fun b hb => Below.heap_alloc w3 _ b hb.2) (fun _ _ _ r => r), slr_flows (hof.below mono_flow (below1 w3 _))⟩
  obtain ⟨ua, hua⟩ : ∃ ua, ua = w3.heap.size := ⟨_, rfl⟩
  rw [← hua] at hFA ⊢
  have HFA := Lib.hid hFA
  have HB := Lib.hid hB
  clear hW hB hFA hua hsa hof hb2 hb3 HAW HFIT
  go_upto_region 4 with (go_at_call 14; refine (HFIS.out _ HB.out).mono ?_; rintro e w4 ⟨va, vf, css, rfl, hb4, hsa, hof⟩; obtain ⟨Ba, da, hva, _, _⟩ := hsa.val; obtain ⟨Bf, df, hvf, _, _⟩ := (slr_flows hof).val; subst hva hvf)
  refine wp_world ?_
  intro V hV
  have hBV : Below W.heap.size W V := by rw [← hV]; exact hb4.alloc hb4.size _
  have hFB : FitAt ras V w4.heap.size Ba Bf da df := by
    rw [← hV]
    exact ⟨Blk.new w4 _ _, hsa.imp (fun b hb => by have hb' := hb.2; simp; omega) (fun b hb => Below.heap_alloc w4 _ b hb.2) (fun _ _ _ r => r), slr_flows (hof.below mono_flow (below1 w4 _))⟩
  obtain ⟨ub, hub⟩ : ∃ ub, ub = w4.heap.size := ⟨_, rfl⟩
  rw [← hub] at hFB ⊢
  have hFA := HFA.out.below hBV
  have HFA2 := Lib.hid hFA
  have HFB := Lib.hid hFB
  have HBV := Lib.hid (HB.out.trans (hBV.mono HB.out.size))
  have a0 : V.cell? ⟨ua, 0, none⟩ = some (.slice Aa (fitU raw).arrays.length ca) := hFA.blk.cell 0
  have a1 : V.cell? ⟨ua, 1, none⟩ = some (.slice Af (fitU raw).flows.length cf) := hFA.blk.cell 1
  have HPA := Lib.hid (print_fit raw HI.out Aa Af ca cf V (HTAB.out.below HBV.out) hFA.arr hFA.flo)
  have HPB0 := Lib.hid (fun (X : World) (hb : Below V.heap.size V X) => print_fit ras HJ.out Ba Bf da df X (HTAB.out.below (HBV.out.trans (hb.mono HBV.out.size))) (HFB.out.below hb).arr (HFB.out.below hb).flo)
  have HINJ : Hid (S8 (unitT (fitU raw)) = S8 (unitT (fitU ras)) → fitU raw = fitU ras) := Lib.hid (fun e => print_fit_inj (S8_inj e))
  have HEQ : Hid (fitU raw = fitU ras → S8 (unitT (fitU raw)) = S8 (unitT (fitU ras))) := Lib.hid (fun e => by rw [e])
  generalize S8 (unitT (fitU raw)) = sa at *
  generalize S8 (unitT (fitU ras)) = sb at *
  clear hV hBV hFB hFA hub hsa hof hb4 HFIS HFA
  go_upto_region 5 with (go_at_call 15; refine HPA.out.mono ?_; rintro e w5 ⟨rfl, hb5⟩)
  have HB5 := Lib.hid hb5
  have hf5 := HFB.out.below hb5
  have b0 : w5.cell? ⟨ub, 0, none⟩ = some (.slice Ba (fitU ras).arrays.length da) := hf5.blk.cell 0
  have b1 : w5.cell? ⟨ub, 1, none⟩ = some (.slice Bf (fitU ras).flows.length df) := hf5.blk.cell 1
  have HPB := Lib.hid (HPB0.out w5 hb5)
  clear a0 a1 hb5 hf5 HPA HPB0
  go_upto_region 6 with (go_at_call 15; refine HPB.out.mono ?_; rintro e w6 ⟨rfl, hb6⟩)
  have HB6 := Lib.hid (HB5.out.trans (hb6.mono HB5.out.size))
  have ha6 := HFA2.out.below HB6.out
  have hb6' := HFB.out.below HB6.out
  have a0 : w6.cell? ⟨ua, 0, none⟩ = some (.slice Aa (fitU raw).arrays.length ca) := ha6.blk.cell 0
  have a1 : w6.cell? ⟨ua, 1, none⟩ = some (.slice Af (fitU raw).flows.length cf) := ha6.blk.cell 1
  have g0 : w6.cell? ⟨ub, 0, none⟩ = some (.slice Ba (fitU ras).arrays.length da) := hb6'.blk.cell 0
  have g1 : w6.cell? ⟨ub, 1, none⟩ = some (.slice Bf (fitU ras).flows.length df) := hb6'.blk.cell 1
  have hsame := same_any (fitU raw) (fitU ras) Aa Af Ba Bf ca cf da df w6 ha6.arr ha6.flo hb6'.arr hb6'.flo
  clear b0 b1 hb6 ha6 hb6' HPB
  by_cases heq : fitU raw = fitU ras
  · have hs := HEQ.out heq
    rw [isSo_yes heq] at hsame
    have HSA := Lib.hid hsame
    subst hs
    clear heq hsame
    go_wp2_with (go_at_call 16; refine HSA.out.mono ?_; rintro e w7 ⟨rfl, hb7⟩)
    go_ret
    have h6 := HBV.out.trans (HB6.out.mono HBV.out.size)
    exact ⟨by first | rfl | simp, h6.trans (hb7.mono h6.size)⟩
  · have hs : ¬ sa = sb := fun e => heq (HINJ.out e)
    have hs2 : ¬ sa.toList = sb.toList := fun e => hs (tl_inj e)
    have hs3 : (sa.toList == sb.toList) = false := by simp [hs2]
    rw [isSo_no heq] at hsame
    have HSA := Lib.hid hsame
    clear heq hsame
    go_wp2_with (go_at_call 16; refine HSA.out.mono ?_; rintro e w7 ⟨rfl, hb7⟩)
    go_ret
    have h6 := HBV.out.trans (HB6.out.mono HBV.out.size)
    exact ⟨by first | rfl | simp, h6.trans (hb7.mono h6.size)⟩
end Go.Proofs.YtnpnhdmfdhnmfaaGreatDoor
