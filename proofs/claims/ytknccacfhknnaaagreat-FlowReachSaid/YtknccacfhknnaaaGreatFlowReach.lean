/- Blocks that a run does not come to may be anything: the walk of 'FlowReachSaid', with no condition. The statement 'FlowReachSaid', out of its walk. -/
import Derived.Test.YtknccacfhknnaaaGreatLawPick
import Derived.Test.YtknccacfhknnaaaGreatSims
import Derived.Test.YtknccacfhknnaaaGreatRegion
import Derived.Test.YtknccacfhknnaaaGreatAw11
import Derived.Test.YtknccacfhknnaaaGreatArgs
import Derived.Deep.CutRange
import Derived.Deep.DeepCutAuto
import Derived.Carry
import Derived.SizedLaws
namespace Go.Proofs.YtknccacfhknnaaaGreat
open Go.RowKit
open Go.Deep

set_option maxRecDepth 100000 in
set_option maxHeartbeats 16000000 in
theorem flowReach_walk (vr vin : Value) (which steps : Int) (raw : List LBlock) (hI : ∀ x ∈ raw, x.I) (inp : List Int) (_hlen : (inp.length + 0) * 8 ≤ 140737488355328) (w : World) (hsl : SlR w (· < w.heap.size) 5 (RBlock w (· < w.heap.size)) vr raw) (hin : SlR w (· < w.heap.size) 1 RInt vin inp) (wh : (Lit.int .i64 which).wf = true) (ws : (Lit.int .i64 steps).wf = true) :
    Calls Tryz.prog 5 #[vr, vin, .int .i64 which, .int .i64 steps] w fun e w' => e = .returned (.bool true) ∧ Below w.heap.size w w' := by
  obtain ⟨Ai, ci, hvi, hil, hic⟩ := hin.val
  subst hvi
  obtain ⟨io, io'⟩ := i64_of_wf wh
  obtain ⟨jo, jo'⟩ := i64_of_wf ws
  obtain ⟨k, hk3, hpick⟩ := pick3 which ⟨io, io'⟩
  have HAW := Lib.hid (awake13_any w)
  have HFIT := Lib.hid (fun (X : World) (hb : Below w.heap.size w X) => fit_any raw hI vr X (hsl.imp (fun _ h => Nat.lt_of_lt_of_le h hb.size) (fun b h => hb.block b h) (fun _ _ _ r => r.imp (fun _ h => Nat.lt_of_lt_of_le h hb.size) (fun b h => hb.block b h))))
  obtain ⟨hq3, hw3⟩ := tdiv3 ⟨io, io'⟩
  have HPN := Lib.hid (fun (n : Nat) hn hn2 => pickN (which.tdiv 3) hq3 n hn hn2)
  have HPS := Lib.hid (fun w2 => pick13_any steps 301 jo jo' (by omega) w2)
  have p0 := pk_lo steps 301 (by omega)
  have p1 := pk_hi steps 301 (by omega)
  generalize pk steps 301 = mm at *
  obtain ⟨m, rfl⟩ := Int.eq_ofNat_of_zero_le p0
  have hm : m ≤ 300 := by omega
  have HIN := Lib.hid hin
  have HP := Lib.hid hpick
  have HW3 := Lib.hid hw3
  clear hq3 hw3 p0 p1 hsl hin hI hpick
  go_enter Tryz.func5, Tryz.ntmps5
  go_upto_region 3 with (first | (go_at_call 12; refine HAW.out.mono ?_; rintro e w2 ⟨rfl, hb2⟩) | (go_at_call 7; refine (HFIT.out _ hb2).mono ?_; rintro e w3 ⟨va, vf, css, rfl, hb3, hsa, hof⟩; obtain ⟨A1, c1, hva, _, _⟩ := hsa.val; obtain ⟨gf, cf, hvf⟩ := own_three hof; subst hva hvf))
  refine wp_world ?_
  intro W hW
  have hB : Below w.heap.size w W := by
    have h := hb2.trans (hb3.mono hb2.size)
    rw [← hW]; exact h.alloc h.size _
  have hU : Blk W w3.heap.size 28 #[.slice A1 (fitU raw).arrays.length c1, .slice (some ⟨gf, 0, none⟩) 3 cf] := by rw [← hW]; exact Blk.new w3 _ _
  have hA : SlR W (· < W.heap.size) 2 RArr (.slice A1 (fitU raw).arrays.length c1) (fitU raw).arrays := by rw [← hW]; exact hsa.imp (fun b hb => by have hb' := hb.2; simp; omega) (fun b hb => Below.heap_alloc w3 _ b hb.2) (fun _ _ _ r => r)
  have hA4 : SlR W (fun b => b < w2.heap.size + 4) 2 RArr (.slice A1 (fitU raw).arrays.length c1) (fitU raw).arrays := by rw [← hW]; exact hsa.imp (fun b hb => hb.1.2) (fun b hb => Below.heap_alloc w3 _ b hb.2) (fun _ _ _ r => r)
  have hO : OwnL W (w2.heap.size + 4) 35 4 RFlow (.slice (some ⟨gf, 0, none⟩) 3 cf) (fitFlows raw 3) css := by rw [← hW]; exact hof.below mono_flow (below1 _ _)
  have hs23 : w2.heap.size ≤ w3.heap.size := hb3.size
  have hs2w : w.heap.size ≤ w2.heap.size := hb2.size
  have hg3 : gf < w3.heap.size := (hof.lt gf rfl).2
  clear hW hb2 hb3 hsa hof HAW HFIT
  -- the function
  have hkc : k < css.length := by rw [hO.len]; simp [fitFlows]; omega
  have hkl : k < (fitFlows raw 3).length := by simp [fitFlows]; omega
  have hfk : (fitFlows raw 3)[k] = fitFl raw k := by simp [fitFlows]
  have hel := hO.elems k hkc hkl
  rw [hfk] at hel
  obtain ⟨vb, hcs, hbl⟩ := hel
  obtain ⟨Ab, cb, hvb, _, _⟩ := hbl.val
  subst hvb
  have hGF := good_fit raw k
  have hpos := fit_pos raw k
  have hle := fit_le raw k
  have q0 : W.cell? ⟨gf, k * 4, none⟩ = some (.string (fitFl raw k).name) := hO.cell (i := 0) hkc (by rw [hcs]; rfl)
  have q1 : W.cell? ⟨gf, k * 4 + 1, none⟩ = some (.int .i64 (fitFl raw k).params) := hO.cell (i := 1) hkc (by rw [hcs]; rfl)
  have q2 : W.cell? ⟨gf, k * 4 + 2, none⟩ = some (.int .i64 (fitFl raw k).values) := hO.cell (i := 2) hkc (by rw [hcs]; rfl)
  have q3 : W.cell? ⟨gf, k * 4 + 3, none⟩ = some (.slice Ab (fitFl raw k).blocks.length cb) := hO.cell (i := 3) hkc (by rw [hcs]; rfl)
  have u1 : W.cell? ⟨w3.heap.size, 1, none⟩ = some (.slice (some ⟨gf, 0, none⟩) 3 cf) := hU.cell 1
  have HTRAP := Lib.hid (trap_unit raw k)
  obtain ⟨f, hf⟩ : ∃ f, f = fitFl raw k := ⟨_, rfl⟩
  rw [← hf] at hbl hGF hpos hle q0 q1 q2 q3
  have HF := Lib.hid hf
  have HA := Lib.hid hA
  have HA4 := Lib.hid hA4
  have HO := Lib.hid hO
  have HU := Lib.hid hU
  have HB := Lib.hid hB
  have HBL := Lib.hid hbl
  have HGF := Lib.hid hGF
  have hul := hU.lt
  clear hB hU hA hA4 hO hkc hkl hfk hcs hbl hGF hf
  go_upto_region 5 with (go_at_call 13; refine (HP.out _).mono ?_; rintro e w' ⟨rfl, rfl⟩)
  refine wp_world ?_
  intro W1 hW1
  have hB1 : Below W.heap.size W W1 := by rw [← hW1]; exact below1 _ _
  have hF : Blk W1 W.heap.size 35 #[.string f.name, .int .i64 f.params, .int .i64 f.values, .slice Ab f.blocks.length cb] := by rw [← hW1]; exact Blk.new_at _ _ _ rfl
  have hwl : W.heap.size < W1.heap.size := hF.lt
  clear hW1 q0 q1 q2 q3 u1
  have hS1 : SlR W1 (· < W1.heap.size) 5 (RBlock W1 (· < W1.heap.size)) (.slice Ab f.blocks.length cb) f.blocks := HBL.out.imp (fun _ h => Nat.lt_of_lt_of_le h.2.1 hB1.size) (fun b h => hB1.block b h.2.1) (fun _ _ _ r => r.imp (fun _ h => Nat.lt_of_lt_of_le h.2.1 hB1.size) (fun b h => hB1.block b h.2.1))
  have HRE := Lib.hid (reach_any f HGF.out hpos (by omega) _ W1 hS1)
  have c0 : W1.cell? ⟨W.heap.size, 0, none⟩ = some (.string f.name) := hF.cell 0
  have c1' : W1.cell? ⟨W.heap.size, 1, none⟩ = some (.int .i64 f.params) := hF.cell 1
  have c2 : W1.cell? ⟨W.heap.size, 2, none⟩ = some (.int .i64 f.values) := hF.cell 2
  have c3 : W1.cell? ⟨W.heap.size, 3, none⟩ = some (.slice Ab f.blocks.length cb) := hF.cell 3
  have HB1 := Lib.hid hB1
  have HFB := Lib.hid hF
  clear hB1 hF hS1 HGF
  go_upto_region 6 with (go_at_call 17; refine HRE.out.mono ?_; rintro e W2 ⟨v3, M, rfl, hb3, hs3, hml, hvis⟩; obtain ⟨bm, om, cm, hv3, _, _, hbm, hel3⟩ := hs3.form (by omega); rw [hml] at hv3; subst hv3)
  clear c0 c1' c2 c3 HRE
  have hvis := hvis hpos
  have hmc : ∀ (i : Nat) (h : i < M.length), W2.cell? ⟨bm, om + i, none⟩ = some (.bool M[i]) := fun i h => by
    obtain ⟨cs, _, hr, hc⟩ := hel3 i h
    subst hr
    have h := hc.at_ (j := 0) rfl
    simpa using h
  have hml0 : 0 < M.length := by omega
  have r0 : W2.cell? ⟨bm, om, none⟩ = some (.bool true) := by
    have h := hmc 0 hml0
    have hm0 := hvis.at_
    rw [List.getElem?_eq_getElem hml0] at hm0
    rw [Option.some.inj hm0] at h
    simpa using h
  have b0 : ((f.blocks.length : Int) != (f.blocks.length : Int)) = false := by simp
  have hp0 : (0 : Int) < (f.blocks.length : Int) := by omega
  have hF2 := HFB.out.below hb3 HFB.out.lt
  have k3 : W2.cell? ⟨W.heap.size, 3, none⟩ = some (.slice Ab f.blocks.length cb) := hF2.cell 3
  have HB2 := Lib.hid hb3
  have HMC := Lib.hid hmc
  have HVIS := Lib.hid hvis
  have HML := Lib.hid hml
  have HF2 := Lib.hid hF2
  have hw12 : W1.heap.size ≤ W2.heap.size := hb3.size
  clear hb3 hs3 hml hvis hel3 hmc hml0 hF2 hbm
  have w3e := HW3.out
  obtain ⟨i, hi, hpi⟩ := HPN.out f.blocks.length hpos (by omega)
  have HPI := Lib.hid hpi
  clear hpi HPN
  go_upto_region 9 with (go_at_call 13; refine (HPI.out _).mono ?_; rintro e w' ⟨rfl, rfl⟩)
  have him : i < M.length := by rw [HML.out]; exact hi
  have m0 : W2.cell? ⟨bm, om + i, none⟩ = some (.bool M[i]) := HMC.out i him
  have hBW2 : Below w.heap.size w W2 := (HB.out.trans (HB1.out.mono HB.out.size)).trans (HB2.out.mono (Nat.le_trans HB.out.size HB1.out.size))
  by_cases hMi : M[i] = true
  · rw [hMi] at m0
    have HBW2 := Lib.hid hBW2
    clear hBW2
    go_wp2
    go_ret
    exact ⟨rfl, HBW2.out⟩
  · have hMf : M[i] = false := by simpa using hMi
    have HMF := Lib.hid (show M[i]? = some false by rw [List.getElem?_eq_getElem him, hMf])
    rw [hMf] at m0
    clear hMi hMf
    have hB12 : Below W.heap.size W W2 := HB1.out.trans (HB2.out.mono HB1.out.size)
    have hU2 := HU.out.below hB12 hul
    have hO2 : OwnL W2 (w2.heap.size + 4) 35 4 RFlow (.slice (some ⟨gf, 0, none⟩) 3 cf) (fitFlows raw 3) css := HO.out.below mono_flow hB12
    have hA2 : SlR W2 (· < W2.heap.size) 2 RArr (.slice A1 (fitU raw).arrays.length c1) (fitU raw).arrays := HA.out.imp (fun _ h => Nat.lt_of_lt_of_le h hB12.size) (fun b h => hB12.block b h) (fun _ _ _ r => r)
    have hI2 : SlR W2 (· < W2.heap.size) 1 RInt (.slice Ai inp.length ci) inp := HIN.out.imp (fun b hb => Nat.lt_of_lt_of_le hb hBW2.size) (fun b hb => hBW2.block b hb) (fun _ _ _ r => r)
    have hR1 : Calls Tryz.prog 9 #[.agg #[.slice A1 (fitU raw).arrays.length c1, .slice (some ⟨gf, 0, none⟩) 3 cf], .slice Ai inp.length ci, .int .i64 (m : Int)] W2 fun e X' => ∃ A c, e = .returned (.agg #[.int .i64 (runU (fitU raw) inp m).status, .int .i64 (runU (fitU raw) inp m).code, .slice A (runU (fitU raw) inp m).out.length c, .int .i64 (runU (fitU raw) inp m).steps]) ∧ Below W2.heap.size W2 X' ∧ X'.ownsRow W2.heap.size 3 1 (.slice A (runU (fitU raw) inp m).out.length c) (runU (fitU raw) inp m).out.length ((runU (fitU raw) inp m).out.map (Value.int .i64)) := fit_run hA2 (ownL_slr hO2) inp m (by omega) _ W2 (Below.refl _ _) hI2
    obtain ⟨ma, hma⟩ : ∃ ma, ma = runU (fitU raw) inp m := ⟨_, rfl⟩
    rw [← hma] at hR1
    have HMA := Lib.hid hma
    have HR1 := Lib.hid hR1
    have u20 : W2.cell? ⟨w3.heap.size, 0, none⟩ = some (.slice A1 (fitU raw).arrays.length c1) := hU2.cell 0
    have u21 : W2.cell? ⟨w3.heap.size, 1, none⟩ = some (.slice (some ⟨gf, 0, none⟩) 3 cf) := hU2.cell 1
    have HU2 := Lib.hid hU2
    have HO2 := Lib.hid hO2
    have HA2 := Lib.hid hA2
    have HI2 := Lib.hid hI2
    have HB12 := Lib.hid hB12
    have HBW2 := Lib.hid hBW2
    clear hR1 hma hU2 hO2 hA2 hI2 hB12 hBW2 r0 b0 k3
    go_upto_region 13 with (first | (go_at_call 13; refine (HPS.out _).mono ?_; rintro e w' ⟨rfl, rfl⟩) | (go_at_call 9; refine HR1.out.mono ?_; rintro e w4 ⟨Aa, ca, rfl, hb4, ho4⟩))
    refine wp_world ?_
    intro W4 hW4
    have hB4 : Below W2.heap.size W2 W4 := by rw [← hW4]; exact hb4.alloc hb4.size _
    have hRA : ResAt W4 W2.heap.size w4.heap.size ma := by rw [← hW4]; exact ⟨Aa, ca, Blk.new w4 _ _, ho4.alloc _⟩
    have hral : w4.heap.size < W4.heap.size := by rw [← hW4]; simp
    have hw24 : W2.heap.size ≤ w4.heap.size := hb4.size
    clear hW4 hb4 ho4 u20 u21 HR1 m0
    -- the copy of the blocks
    have hBW4 : Below W.heap.size W W4 := HB12.out.trans (hB4.mono HB12.out.size)
    obtain ⟨okf, hokf⟩ : ∃ p : Nat → Prop, p = okOwn (w2.heap.size + 4) W (.slice (some ⟨gf, 0, none⟩) 3 cf) := ⟨_, rfl⟩
    have hokb : ∀ b, okf b → w2.heap.size + 4 ≤ b ∧ b < W.heap.size ∧ b ≠ gf := fun b hb => by
      rw [hokf] at hb
      exact ⟨hb.1, hb.2.1, fun e => hb.2.2 (by rw [e]; rfl)⟩
    have hsb : SlR W4 okf 5 (RBlock W4 okf) (.slice Ab f.blocks.length cb) f.blocks := by
      rw [hokf]; exact HBL.out.imp (fun _ h => h) (fun b h => hBW4.block b h.2.1) (fun _ _ _ r => r.imp (fun _ h => h) (fun b h => hBW4.block b h.2.1))
    obtain ⟨bb, ob, cb', hfb, _, _, _, _⟩ := hsb.form hpos
    obtain rfl : Ab = some ⟨bb, ob, none⟩ := by injection hfb
    obtain ⟨css0, hcl, hce, hcR, hcC, _⟩ := hsb.rows hpos
    have hones : ∀ u ∈ css0.flatten, u.oneCell' = true := flatten_ones fun cs hc => by
      obtain ⟨j, hj, rfl⟩ := List.getElem_of_mem hc
      exact block_ones (hcR j hj (by omega))
    have hfl : css0.flatten.length = f.blocks.length * 5 := by rw [flatten_len hce, hcl]
    have hF4 := HF2.out.below hB4 HF2.out.lt
    have k3 : W4.cell? ⟨W.heap.size, 3, none⟩ = some (.slice (some ⟨bb, ob, none⟩) f.blocks.length cb) := hF4.cell 3
    have z3 := hF4.frozen 3
    have hfl4 : W.heap.size < W4.heap.size := hF4.lt
    have hne : (Value.slice none 0 0).ownBlock ≠ some W.heap.size := by simp [Value.ownBlock]
    obtain ⟨hgf0, hgf1⟩ := HO.out.lt gf rfl
    have hbase : w2.heap.size + 4 ≤ W4.heap.size := by omega
    obtain ⟨z0, hi0, hz0, hz1, hz2⟩ := info_parts info_block
    have HNEWS := Lib.hid hcC.news
    have HCE := Lib.hid hce
    have HCR := Lib.hid hcR
    have HCL := Lib.hid hcl
    have HB4 := Lib.hid hB4
    have HBW4 := Lib.hid hBW4
    have HRA := Lib.hid hRA
    have HF4 := Lib.hid hF4
    have HOK := Lib.hid hokb
    have HONES := Lib.hid hones
    have HFL := Lib.hid hfl
    clear hsb hfb hcC hce hcR hcl hB4 hBW4 hRA hF4 hokb hokf hones hfl
    go_upto_region 14 with (at_builtin; refine wpList_append_lies _ rfl _ _ _ rfl (w2.heap.size + 4) 48 z0 _ 5 56 Tryz.underlying22 hi0 hz0 hz1 hz2 rfl (by decide) (.slice none 0 0) 0 [] rfl (World.ownsRow_nil _ _ _ _) ⟨bb, ob, none⟩ f.blocks.length cb css0.flatten rfl HFL.out HNEWS.out HONES.out hpos (by unfold maxLen; omega) (by omega) hbase W4.heap.size rfl ?_; intro g cap w5 hown5 hgrow hat hlt5; have hF5 := HF4.out.grown hgrow hne; have k5 : w5.cell? ⟨W.heap.size, 3, none⟩ = some (.slice (some ⟨bb, ob, none⟩) f.blocks.length cb) := hF5.cell 3; have z5 := hF5.frozen 3)
    refine wp_world ?_
    intro W5 hW5
    simp only [Nat.zero_add, List.nil_append] at hown5 hW5
    have hg5 : g = W4.heap.size := by
      rcases hat with h | h
      · cases h
      · exact h
    have hB45 : Below W4.heap.size W4 w5 := (Below.refl _ _).grown hgrow (Nat.le_refl _) (fun k e => by cases e)
    have hk5 : Keeps (fun b => b < W4.heap.size ∧ b ≠ W.heap.size) W4 W5 := by
      rw [← hW5]
      exact Keeps.set (fun b hb => hB45.block b hb.1) (fun b hb => hb.2) _
    have hsz5 : W5.heap.size = w5.heap.size := by rw [← hW5]; simp [World.setCell]
    have hB5 : Below W.heap.size W W5 := by
      rw [← hW5]; exact (HBW4.out.trans (hB45.mono HBW4.out.size)).setCell (Nat.le_refl _) _
    have hF5 : Blk W5 W.heap.size 35 #[.string f.name, .int .i64 f.params, .int .i64 f.values, .slice (some ⟨g, 0, none⟩) f.blocks.length cap] := by rw [← hW5]; exact hF5.set_ 3 _
    have hwg : W.heap.size ≠ g := by omega
    have hown : W5.ownsRow (w2.heap.size + 4) 48 5 (.slice (some ⟨g, 0, none⟩) f.blocks.length cap) f.blocks.length css0.flatten := by
      rw [← hW5]
      exact own_keep hown5 fun g' e => Below.heap_setCell _ _ _ g' (by have e' : g = g' := (by simpa [Value.ownBlock] using e); show g' ≠ W.heap.size; omega)
    have hgl : g < W5.heap.size := by omega
    have hrow : OwnL W5 (w2.heap.size + 4) 48 5 (RBut gf) (.slice (some ⟨g, 0, none⟩) f.blocks.length cap) f.blocks css0 :=
      OwnL.copied (mono_but gf) (w := W4) (ok := okf) hown rfl HCL.out HCE.out (fun i h1 h2 => (HCR.out i h1 h2).imp (fun b hb => ⟨hb, (HOK.out b hb).2.2⟩) (Keeps.refl _ _)) (fun b hb => by have := HOK.out b hb; omega) (hk5.mono fun b hb => by have := HOK.out b hb; omega)
    have HK5 := Lib.hid hk5
    have c3 : W5.cell? ⟨W.heap.size, 3, none⟩ = some (.slice (some ⟨g, 0, none⟩) f.blocks.length cap) := hF5.cell 3
    have r0 := hrow.frozen (i * 5)
    have r1 := hrow.frozen (i * 5 + 1)
    have r2 := hrow.frozen (i * 5 + 2)
    have r3 := hrow.frozen (i * 5 + 3)
    have r4 := hrow.frozen (i * 5 + 4)
    have hic5 : i < css0.length := by rw [HCL.out]; exact hi
    have hci : (css0[i]).length = 5 := HCE.out _ (List.getElem_mem _)
    obtain ⟨d0, d1, d2, d3, d4, hd⟩ : ∃ d0 d1 d2 d3 d4, css0[i] = [d0, d1, d2, d3, d4] := by
      match css0[i], hci with
      | [d0, d1, d2, d3, d4], _ => exact ⟨_, _, _, _, _, rfl⟩
    have e0 : W5.cell? ⟨g, i * 5, none⟩ = some d0 := hrow.cell (i := 0) hic5 (by rw [hd]; rfl)
    have e1 : W5.cell? ⟨g, i * 5 + 1, none⟩ = some d1 := hrow.cell (i := 1) hic5 (by rw [hd]; rfl)
    have e2 : W5.cell? ⟨g, i * 5 + 2, none⟩ = some d2 := hrow.cell (i := 2) hic5 (by rw [hd]; rfl)
    have e3 : W5.cell? ⟨g, i * 5 + 3, none⟩ = some d3 := hrow.cell (i := 3) hic5 (by rw [hd]; rfl)
    have e4 : W5.cell? ⟨g, i * 5 + 4, none⟩ = some d4 := hrow.cell (i := 4) hic5 (by rw [hd]; rfl)
    have hi2 : (i : Int) < (f.blocks.length : Int) := by omega
    have hg5a : W4.heap.size ≤ g := by omega
    have HB5 := Lib.hid hB5
    have HF5 := Lib.hid hF5
    have HROW := Lib.hid hrow
    have hw5l : W.heap.size < W5.heap.size := hF5.lt
    clear hg5 hW5 hown5 hgrow hat hlt5 hB45 hk5 hsz5 hB5 hF5 hrow hown HNEWS HCE HCR HONES HFL k3 z3 k5 z5 hne hci hd hi0 hz0 hz1 hz2
    go_upto_region 15 with fail
    refine wp_world ?_
    intro W6 hW6
    have hs : ∀ (X : World) (p : Addr) (u : Value), (X.setCell p u).heap.size = X.heap.size := fun X p u => by simp [World.setCell]
    have hW6' : (((((W5.alloc (.cells #[.int .i64 8, .int .i64 0, .int .i64 0, .int .i64 0, .int .i64 0, .int .i64 0, .string ⟨#[]⟩, .slice none 0 0] 44)).setCell ⟨g, i * 5, none⟩ (.slice (some ⟨W5.heap.size, 0, none⟩) 1 1)).setCell ⟨g, i * 5 + 1, none⟩ (.int .i64 4)).setCell ⟨g, i * 5 + 2, none⟩ (.int .i64 0)).setCell ⟨g, i * 5 + 3, none⟩ (.int .i64 0)).setCell ⟨g, i * 5 + 4, none⟩ (.int .i64 0) = W6 := by
      rw [← hW6, World.setCell_alloc_past _ _ _ _ hgl, World.setCell_alloc_past _ _ _ _ (by rw [hs]; exact hgl), World.setCell_alloc_past _ _ _ _ (by rw [hs, hs]; exact hgl), World.setCell_alloc_past _ _ _ _ (by rw [hs, hs, hs]; exact hgl), World.setCell_alloc_past _ _ _ _ (by rw [hs, hs, hs, hs]; exact hgl)]
    clear hW6
    obtain ⟨X, hX⟩ : ∃ X, X = W5.alloc (.cells #[.int .i64 8, .int .i64 0, .int .i64 0, .int .i64 0, .int .i64 0, .int .i64 0, .string ⟨#[]⟩, .slice none 0 0] 44) := ⟨_, rfl⟩
    have hI : Blk X W5.heap.size 44 #[.int .i64 8, .int .i64 0, .int .i64 0, .int .i64 0, .int .i64 0, .int .i64 0, .string ⟨#[]⟩, .slice none 0 0] := by rw [hX]; exact Blk.new W5 _ _
    have hBX : Below W5.heap.size W5 X := by rw [hX]; exact below1 _ _
    rw [← hX] at hW6'
    clear hX
    have hgw : W.heap.size ≤ g := by omega
    have hBx : Below W.heap.size W X := HB5.out.trans (hBX.mono HB5.out.size)
    have hFx := HF5.out.below hBX HF5.out.lt
    have hRoX := HROW.out.below (mono_but gf) hBX
    have hB6 : Below W.heap.size W W6 := by
      rw [← hW6']; exact ((((hBx.setCell hgw _).setCell hgw _).setCell hgw _).setCell hgw _).setCell hgw _
    have hF6 : Blk W6 W.heap.size 35 #[.string f.name, .int .i64 f.params, .int .i64 f.values, .slice (some ⟨g, 0, none⟩) f.blocks.length cap] := by
      rw [← hW6']; exact ((((hFx.far hwg _).far hwg _).far hwg _).far hwg _).far hwg _
    have hne : ∀ (j b : Nat), b ≠ g → b ≠ (⟨g, j, none⟩ : Addr).block := fun _ _ h => h
    have hK6 : Keeps (fun b => b ≠ g) X W6 := by
      rw [← hW6']; exact (((((Keeps.refl _ _).set (hne _) _).set (hne _) _).set (hne _) _).set (hne _) _).set (hne _) _
    have hk46 : Keeps (fun b => b < W4.heap.size ∧ b ≠ W.heap.size) W4 W6 := (HK5.out.trans (Keeps.mono (Keeps.of_below hBX) fun b hb => by show b < W5.heap.size; have := hb.1; omega)).trans (hK6.mono fun b hb => by have := hb.1; omega)
    have htrap : RBut gf X (okOwn (w2.heap.size + 4) X (.slice (some ⟨g, 0, none⟩) f.blocks.length cap)) [.slice (some ⟨W5.heap.size, 0, none⟩) 1 1, .int .i64 4, .int .i64 0, .int .i64 0, .int .i64 0] trapBlock := by
      refine ⟨_, rfl, ⟨_, 1, rfl, Nat.le_refl _, by decide, .inr ⟨W5.heap.size, 0, rfl, ⟨⟨by omega, hI.lt, fun e => ?_⟩, by omega⟩, fun j hj => ?_⟩⟩⟩
      · have e' : g = W5.heap.size := (by simpa [Value.ownBlock] using e)
        omega
      · obtain rfl : j = 0 := by have : j < 1 := hj; omega
        refine ⟨insCells trapIns (.slice none 0 0), rfl, ⟨_, rfl, SlR.nil_ _ _ _ _⟩, fun q hq => ?_⟩
        have hq' : q < 8 := hq
        rw [hI.cell]
        rcases (by omega : q = 0 ∨ q = 1 ∨ q = 2 ∨ q = 3 ∨ q = 4 ∨ q = 5 ∨ q = 6 ∨ q = 7) with rfl | rfl | rfl | rfl | rfl | rfl | rfl | rfl <;> rfl
    have hrow6 : OwnL W6 (w2.heap.size + 4) 48 5 (RBut gf) (.slice (some ⟨g, 0, none⟩) f.blocks.length cap) (f.blocks.set i trapBlock) (css0.set i [.slice (some ⟨W5.heap.size, 0, none⟩) 1 1, .int .i64 4, .int .i64 0, .int .i64 0, .int .i64 0]) := by
      rw [← hW6']
      exact hRoX.put5 (mono_but gf) hi htrap
    have hO6 : OwnL W6 (w2.heap.size + 4) 35 4 RFlow (.slice (some ⟨gf, 0, none⟩) 3 cf) (fitFlows raw 3) css := HO.out.below mono_flow hB6
    have hlen3 : (fitFlows raw 3).length = 3 := by simp [fitFlows]
    have hkc : k < css.length := by rw [hO6.len, hlen3]; exact hk3
    have hel6 := hO6.elems k hkc (by rw [hlen3]; exact hk3)
    generalize (fitFlows raw 3)[k]'(by rw [hlen3]; exact hk3) = fk at hel6
    obtain ⟨vb6, hcs6, hbl6⟩ := hel6
    have q0 : W6.cell? ⟨gf, k * 4, none⟩ = some _ := hO6.cell (i := 0) hkc (by rw [hcs6]; rfl)
    have q1 : W6.cell? ⟨gf, k * 4 + 1, none⟩ = some _ := hO6.cell (i := 1) hkc (by rw [hcs6]; rfl)
    have q2 : W6.cell? ⟨gf, k * 4 + 2, none⟩ = some _ := hO6.cell (i := 2) hkc (by rw [hcs6]; rfl)
    have q3 : W6.cell? ⟨gf, k * 4 + 3, none⟩ = some vb6 := hO6.cell (i := 3) hkc (by rw [hcs6]; rfl)
    have y0 := hO6.frozen (k * 4)
    have y1 := hO6.frozen (k * 4 + 1)
    have y2 := hO6.frozen (k * 4 + 2)
    have y3 := hO6.frozen (k * 4 + 3)
    have hU6 := HU.out.below hB6 hul
    have u1 : W6.cell? ⟨w3.heap.size, 1, none⟩ = some (.slice (some ⟨gf, 0, none⟩) 3 cf) := hU6.cell 1
    have c0 : W6.cell? ⟨W.heap.size, 0, none⟩ = some (.string f.name) := hF6.cell 0
    have c1' : W6.cell? ⟨W.heap.size, 1, none⟩ = some (.int .i64 f.params) := hF6.cell 1
    have c2 : W6.cell? ⟨W.heap.size, 2, none⟩ = some (.int .i64 f.values) := hF6.cell 2
    have c3 : W6.cell? ⟨W.heap.size, 3, none⟩ = some (.slice (some ⟨g, 0, none⟩) f.blocks.length cap) := hF6.cell 3
    have HB6 := Lib.hid hB6
    have HK46 := Lib.hid hk46
    have HROW6 := Lib.hid hrow6
    have HO6 := Lib.hid hO6
    have HU6 := Lib.hid hU6
    have hg6 : g < W6.heap.size := (hrow6.lt g rfl).2
    clear hB6 hF6 hk46 hrow6 hO6 hU6 hW6' hI hBX hBx hFx hRoX hK6 htrap hne hs hkc hcs6 hbl6 hw5l hgl e0 e1 e2 e3 e4 r0 r1 r2 r3 r4 HF5 HROW HB5 HK5 HF4 HB4 hlen3
    go_upto_region 16 with fail
    refine wp_world ?_
    intro W9 hW9
    have hsz9 : W6.heap.size ≤ W9.heap.size := by rw [← hW9]; simp [World.setCell]
    have hneg : ∀ (j b : Nat), b ≠ gf → b ≠ (⟨gf, j, none⟩ : Addr).block := fun _ _ h => h
    have hK69 : Keeps (fun b => b ≠ gf) W6 W9 := by
      rw [← hW9]; exact ((((Keeps.refl _ _).set (hneg _) _).set (hneg _) _).set (hneg _) _).set (hneg _) _
    have hflx : RFlow W6 (okOwn (w2.heap.size + 4) W6 (.slice (some ⟨gf, 0, none⟩) 3 cf)) [.string f.name, .int .i64 f.params, .int .i64 f.values, .slice (some ⟨g, 0, none⟩) f.blocks.length cap] (trapF f i) := by
      refine ⟨_, rfl, ?_⟩
      have hlen' : (f.blocks.set i trapBlock).length = f.blocks.length := List.length_set
      have hrow6 := HROW6.out
      rw [← hlen'] at hrow6 ⊢
      refine hrow6.slr_in (fun g' e => ?_) (fun cs x hx => hx.imp (fun b hb => ⟨hb.1.1, hb.1.2.1, fun e => hb.2 ?_⟩) (Keeps.refl _ _))
      · have e' : g = g' := (by simpa [Value.ownBlock] using e)
        subst e'
        exact ⟨by omega, hg6, fun e => by
          have e2 : gf = g := (by simpa [Value.ownBlock] using e)
          omega⟩
      · have e2 : gf = b := (by simpa [Value.ownBlock] using e)
        exact e2.symm
    have hl3 : (fitFlows raw 3).length = 3 := rfl
    have hO9 : OwnL W9 (w2.heap.size + 4) 35 4 RFlow (.slice (some ⟨gf, 0, none⟩) 3 cf) ((fitFlows raw 3).set k (trapF f i)) (css.set k [.string f.name, .int .i64 f.params, .int .i64 f.values, .slice (some ⟨g, 0, none⟩) f.blocks.length cap]) := by
      rw [← hW9]
      have hO6 : OwnL W6 (w2.heap.size + 4) 35 4 RFlow (.slice (some ⟨gf, 0, none⟩) (fitFlows raw 3).length cf) (fitFlows raw 3) css := by
        rw [hl3]; exact HO6.out
      have h := hO6.put4 mono_flow (j := k) (x := trapF f i) (by simp [fitFlows]; omega) (c0 := .string f.name) (c1 := .int .i64 f.params) (c2 := .int .i64 f.values) (c3 := .slice (some ⟨g, 0, none⟩) f.blocks.length cap) (by rw [hl3]; exact hflx)
      rw [hl3] at h
      exact h
    have hk49 : Keeps (fun b => b < W4.heap.size ∧ b ≠ W.heap.size ∧ b ≠ gf) W4 W9 := (HK46.out.mono fun b hb => ⟨hb.1, hb.2.1⟩).trans (hK69.mono fun b hb => hb.2.2)
    have hRA9 : ResAt W9 W2.heap.size w4.heap.size ma := HRA.out.keeps hw24 (hk49.mono fun b hb => ⟨hb.2, by omega, by omega⟩)
    have hkW9 : Keeps (fun b => b < W.heap.size ∧ b ≠ gf) W W9 := ((Keeps.of_below HB6.out).mono fun b hb => hb.1).trans (hK69.mono fun b hb => hb.2)
    have hA9 : SlR W9 (· < W9.heap.size) 2 RArr (.slice A1 (fitU raw).arrays.length c1) (fitU raw).arrays := HA4.out.imp (fun b hb => by have := HB6.out.size; omega) (hkW9.mono fun b hb => ⟨by have := hb; omega, by have := hb; omega⟩) (fun _ _ _ r => r)
    have hI9 : SlR W9 (· < W9.heap.size) 1 RInt (.slice Ai inp.length ci) inp := HIN.out.imp (fun b hb => by have h1 := HB6.out.size; have h2 := HB.out.size; omega) ((Keeps.of_below HB.out).trans (hkW9.mono fun b hb => ⟨by have := HB.out.size; omega, by omega⟩)) (fun _ _ _ r => r)
    have hU9 := HU6.out.keep (hK69 w3.heap.size (by omega))
    have hB9 : Below w.heap.size w W9 := by
      have hb6 := HB.out.trans (HB6.out.mono HB.out.size)
      have hgw : w.heap.size ≤ gf := by omega
      rw [← hW9]; exact (((hb6.setCell hgw _).setCell hgw _).setCell hgw _).setCell hgw _
    -- the run behind
    have hvis := HVIS.out
    rw [HF.out] at hvis
    obtain ⟨u, hua, huf, huo, hur⟩ := HTRAP.out i hk3 M hvis HMF.out
    rw [← HF.out] at huf
    have hF9 : SlR W9 (· < W9.heap.size) 4 (RFlow W9 (· < W9.heap.size)) (.slice (some ⟨gf, 0, none⟩) 3 cf) u.flows := by
      rw [huf]
      have h := ownL_slr hO9
      exact h
    have hul3 : u.flows.length = 3 := by rw [huf, List.length_set]; rfl
    have hual : u.arrays.length = (fitU raw).arrays.length := by rw [hua]
    obtain ⟨r1, r2, r3, r4⟩ := hur inp m
    rw [← HMA.out] at r1 r2 r3 r4
    have HR2 := Lib.hid (fun (X : World) (hb : Below W9.heap.size W9 X) => (show Calls Tryz.prog 9 #[.agg #[.slice A1 (fitU raw).arrays.length c1, .slice (some ⟨gf, 0, none⟩) 3 cf], .slice Ai inp.length ci, .int .i64 (m : Int)] X fun e X' => ∃ A c, e = .returned (.agg #[.int .i64 ma.status, .int .i64 ma.code, .slice A ma.out.length c, .int .i64 ma.steps]) ∧ Below X.heap.size X X' ∧ SlR X' (· < X'.heap.size) 1 RInt (.slice A ma.out.length c) ma.out from by
      have h := run_any u huo inp m (by omega) A1 (some ⟨gf, 0, none⟩) c1 cf (.slice Ai inp.length ci) X (by rw [hua]; exact hA9.imp (fun _ h => Nat.lt_of_lt_of_le h hb.size) (fun b h => hb.block b h) (fun _ _ _ r => r)) (by rw [hul3]; exact hF9.imp (fun _ h => Nat.lt_of_lt_of_le h hb.size) (fun b h => hb.block b h) (fun _ _ _ r => r.imp (fun _ h => Nat.lt_of_lt_of_le h hb.size) (fun b h => hb.block b h))) (hI9.imp (fun _ h => Nat.lt_of_lt_of_le h hb.size) (fun b h => hb.block b h) (fun _ _ _ r => r))
      rw [hul3, hual] at h
      refine h.mono ?_
      rintro e X' ⟨vout, he, hb', ho⟩
      rw [r1, r2, r4] at he
      rw [r3] at ho
      obtain ⟨A, c, hv⟩ := own_form ho
      subst hv
      exact ⟨A, c, he, hb', slr_of_own ho⟩))
    obtain ⟨Aa, ca, hRa, hoa⟩ := hRA9
    have hsA := slr_of_own hoa
    have HSM := Lib.hid (fun (X : World) (hb : Below W9.heap.size W9 X) (v : Value) (hv : SlR X (· < X.heap.size) 1 RInt v ma.out) => same_true ma.status ma.code ma.steps ma.out (.slice Aa ma.out.length ca) v X (hsA.imp (fun _ h => Nat.lt_of_lt_of_le h hb.size) (fun b h => hb.block b h) (fun _ _ _ r => r)) hv)
    have hral9 := hRa.lt
    have hul9 := hU9.lt
    have SO : Hid (∀ X, Below W9.heap.size W9 X → (fun w2 => w2.cell? ⟨w4.heap.size, 0, none⟩ = some (.int .i64 ma.status) ∧ w2.cell? ⟨w4.heap.size, 1, none⟩ = some (.int .i64 ma.code) ∧ w2.cell? ⟨w4.heap.size, 2, none⟩ = some (.slice Aa ma.out.length ca) ∧ w2.cell? ⟨w4.heap.size, 3, none⟩ = some (.int .i64 ma.steps) ∧ w2.cell? ⟨w3.heap.size, 0, none⟩ = some (.slice A1 (fitU raw).arrays.length c1) ∧ w2.cell? ⟨w3.heap.size, 1, none⟩ = some (.slice (some ⟨gf, 0, none⟩) 3 cf)) X) := Lib.hid (fun X hb => ⟨(hRa.below hb hral9).cell 0, (hRa.below hb hral9).cell 1, (hRa.below hb hral9).cell 2, (hRa.below hb hral9).cell 3, (hU9.below hb hul9).cell 0, (hU9.below hb hul9).cell 1⟩)
    have HB9 := Lib.hid hB9
    clear hneg hK69 hsz9 hflx hO9 hk49 hkW9 hA9 hI9 hU9 hB9 hvis hua huf huo hur hF9 hul3 hual r1 r2 r3 r4 hRa hoa hsA hW9 q0 q1 q2 q3 y0 y1 y2 y3 u1 c0 c1' c2 c3
    refine wp_region_L (by kernel_rfl) 6 (fun w2 => w2.cell? ⟨w4.heap.size, 0, none⟩ = some (.int .i64 ma.status) ∧ w2.cell? ⟨w4.heap.size, 1, none⟩ = some (.int .i64 ma.code) ∧ w2.cell? ⟨w4.heap.size, 2, none⟩ = some (.slice Aa ma.out.length ca) ∧ w2.cell? ⟨w4.heap.size, 3, none⟩ = some (.int .i64 ma.steps) ∧ w2.cell? ⟨w3.heap.size, 0, none⟩ = some (.slice A1 (fitU raw).arrays.length c1) ∧ w2.cell? ⟨w3.heap.size, 1, none⟩ = some (.slice (some ⟨gf, 0, none⟩) 3 cf)) (SO.out _ (Below.refl _ _).drew) (fun hHeld => ?_)
    have HS0 := Lib.hid hHeld
    clear hHeld
    change wpAnyL _ _ _ _ _ 6 7 (Array.replicate 7 false) _ _
    refine takeL_S 0 78 (.agg #[.int .i64 ma.status, .int .i64 ma.code, .slice Aa ma.out.length ca, .int .i64 ma.steps]) [6] HS0.out rfl rfl (by kernel_rfl) (by kernel_rfl) (by kernel_rfl) (by decide) (by kernel_rfl) (fun _ _ _ h => h) (by kernel_rfl) ?_ ?_
    · intro w2 hSw; obtain ⟨g0, g1, g2, g3, g4, g5⟩ := hSw; go_simp
    simp only [List.setIfInBounds_toArray, List.set_cons_zero, List.set_cons_succ]
    refine takeL_S 1 79 (.agg #[.slice A1 (fitU raw).arrays.length c1, .slice (some ⟨gf, 0, none⟩) 3 cf]) [6] HS0.out rfl rfl (by kernel_rfl) (by kernel_rfl) (by kernel_rfl) (by decide) (by kernel_rfl) (fun _ _ _ h => h) (by kernel_rfl) ?_ ?_
    · intro w2 hSw; obtain ⟨g0, g1, g2, g3, g4, g5⟩ := hSw; go_simp
    simp only [List.setIfInBounds_toArray, List.set_cons_zero, List.set_cons_succ]
    refine takeL 2 80 (.slice Ai inp.length ci) HS0.out rfl rfl (by kernel_rfl) (by kernel_rfl) (by kernel_rfl) (by decide) (fun _ _ _ h => h) (by kernel_rfl) ?_ ?_
    · intro w2; go_simp
    simp only [List.setIfInBounds_toArray, List.set_cons_zero, List.set_cons_succ]
    refine takeL 3 81 (.int .i64 (m : Int)) HS0.out rfl rfl (by kernel_rfl) (by kernel_rfl) (by kernel_rfl) (by decide) (fun _ _ _ h => h) (by kernel_rfl) ?_ ?_
    · intro w2; go_simp
    simp only [List.setIfInBounds_toArray, List.set_cons_zero, List.set_cons_succ]
    refine wpAnyL_ready (rs := [4]) (by kernel_rfl) (by simp) ?_
    refine AllReadyL.cons rfl (fun K hK => ?_) AllReadyL.nil
    go_simp
    refine (HR2.out W9.drew (Below.refl _ _).drew).mono ?_
    rintro e X1 ⟨Ab, cb, rfl, hx1, hsb⟩
    have HX1 : Hid (Below W9.heap.size W9 X1) := Lib.hid (Below.trans (Below.refl W9.heap.size W9).drew hx1)
    have HSB := Lib.hid hsb
    clear hx1 hsb
    refine hK.out _ _ (SO.out _ HX1.out) (fun hHeld => ?_)
    have HS1 := Lib.hid hHeld
    clear hK K hHeld
    try simp only [List.setIfInBounds_toArray, List.set_cons_zero, List.set_cons_succ]
    refine wpAnyL_ready (rs := [5]) (by kernel_rfl) (by simp) ?_
    refine AllReadyL.cons rfl (fun K hK => ?_) AllReadyL.nil
    go_simp
    refine (HSM.out X1 HX1.out _ HSB.out).mono ?_
    rintro e X2 ⟨rfl, hx2⟩
    have HX2 := Lib.hid (HX1.out.trans (hx2.mono HX1.out.size))
    clear hx2
    refine hK.out _ _ (SO.out _ HX2.out) (fun hHeld => ?_)
    have HS2 := Lib.hid hHeld
    clear hK K hHeld
    try simp only [List.setIfInBounds_toArray, List.set_cons_zero, List.set_cons_succ]
    refine wpAnyL_ready (rs := [6]) (by kernel_rfl) (by simp) ?_
    refine AllReadyL.last rfl (by kernel_rfl) (fun K hK => ?_)
    go_simp
    refine hK.out _ _ ?_
    clear hK K
    try simp only [List.setIfInBounds_toArray, List.set_cons_zero, List.set_cons_succ]
    refine wpAnyL_done (by kernel_rfl) ?_ _
    go_wp2
    go_ret
    exact ⟨rfl, HB9.out.trans (HX2.out.mono HB9.out.size)⟩
end Go.Proofs.YtknccacfhknnaaaGreat

namespace Go.Proofs.YtknccacfhknnaaaGreat
open Go.ChangeShapes Go.WideShapes Go.ChangeAt Go.RowKit

/-! ### from the walk to the statement -/
theorem laidOutFlowReach_ : laidOutB Tryz.prog = true := by kernel_rfl
theorem bytesIntFlowReach_ : Tryz.checked.prog.bytesOf 3 = 8 := by kernel_rfl
set_option maxRecDepth 100000 in
theorem flowReach_lifted (os : Os) (started : os.Started) (H : Type) (enc : TypeId × Value → H) :
    ReturnsInHanded {} Tryz.checked os 5 .any (Rows.flowReachSpec.pre6 enc Tryz.prog Tryz.f5 Rows.flowReachRow.domain false) (Rows.flowReachSpec.post enc Tryz.prog Tryz.f5 false true false false) := by
  refine returnsInHanded_of_change_sized (C := Tryz.checked) own_ started (by kernel_rfl) Tryz.func5
    (ChangeSpec.witness6 (enc := enc) (C := Tryz.checked) false ⟨#[], #[.slice none 0 0, .slice none 0 0, .int .i64 0, .int .i64 0], []⟩ 8 (by kernel_rfl) (by kernel_rfl) (by kernel_rfl) (by kernel_rfl)) ?_
  intro W base args ds gs before hval0 hW hcnd hsz _
  have hval : ∀ (j : Nat) t v, Tryz.f5.params[j]? = some t → args[j]? = some v → Value.okWide Tryz.prog W .any base t v := hval0
  have hW' := hW
  obtain ⟨p, q, hA0, hV, rfl, hfz, hnd⟩ := hW
  have hA : DataW.TrodAll enc Tryz.prog W 0 (fun _ => true) true Tryz.f5.params.toList args.toList ds p := hA0
  rw [Tryz.params5] at hA hval
  obtain ⟨v0, vs0, d0, ds0, p0, q0, hargs, rfl, rfl, h0, r0⟩ := trodAll_cons hA
  obtain ⟨v1, vs1, d1, ds1, p1, q1, rfl, rfl, rfl, h1, r1⟩ := trodAll_cons r0
  obtain ⟨v2, vs2, d2, ds2, p2, q2, rfl, rfl, rfl, h2, r2⟩ := trodAll_cons r1
  obtain ⟨v3, vs3, d3, ds3, p3, q3, rfl, rfl, rfl, h3, r3⟩ := trodAll_cons r2
  obtain ⟨rfl, rfl, rfl⟩ := trodAll_nil r3
  obtain rfl : args = #[v0, v1, v2, v3] := by cases args; simp_all
  obtain ⟨rfl, rfl⟩ := trodVars_none hV
  clear hA0 hval0 hargs
  obtain ⟨A0, n0, c0, rfl⟩ := okWide_slice Tryz.underlying22 (hval 0 22 v0 rfl rfl)
  obtain ⟨raw0, hI0, hsl0⟩ := open_blocks h0 ⟨_, _, _, rfl⟩
  obtain ⟨A1, n1, c1, rfl⟩ := okWide_slice Tryz.underlying23 (hval 1 23 v1 rfl rfl)
  obtain ⟨l1, hsl1, hd1⟩ := open_ints_sl h1 ⟨_, _, _, rfl⟩
  have hr1 : (l1.length + 0) * 8 ≤ 140737488355328 := by
    rcases hd1 with ⟨_, hnil⟩ | ⟨es, sp, hde, hel⟩
    · rw [hnil]; simp
    · subst hde
      have h := sized_slice hsz (j := 1) (t := 23) (by rw [Tryz.params5]; rfl) rfl Tryz.underlying23
      rw [bytesIntFlowReach_] at h
      unfold reachBytes at h
      omega
  obtain ⟨a2, rfl, rfl, rfl, w2⟩ := open_int Tryz.underlying3 (hval 2 3 v2 rfl rfl) h2
  obtain ⟨a3, rfl, rfl, rfl, w3⟩ := open_int Tryz.underlying3 (hval 3 3 v3 rfl rfl) h3
  simp only [List.append_nil] at hW'
  refine (flowReach_walk (.slice A0 n0 c0) (.slice A1 n1 c1) a2 a3 raw0 hI0 l1 hr1 W hsl0 hsl1 w2 w3).mono fun e W' ⟨he, hg⟩ => ?_
  subst he
  have ht := (trodAll_cons_mk (Below.trod laidOutFlowReach_ (by kernel_rfl) (of_decide_eq_true (by kernel_rfl)) h0 hg (fun x hx => hW'.lt x (by simp [hx]))) (trodAll_cons_mk (Below.trod laidOutFlowReach_ (by kernel_rfl) (of_decide_eq_true (by kernel_rfl)) h1 hg (fun x hx => hW'.lt x (by simp [hx]))) (trodAll_cons_mk (shut_int Tryz.underlying3 w2) (trodAll_cons_mk (shut_int Tryz.underlying3 w3) trodAll_mk0))))
  simp only [List.append_nil] at ht
  exact ⟨_, rfl, post_law hW' (fun _ _ _ => (trodAll_cons_mk (shut_bool Tryz.underlying4 _) trodAll_mk0)) ht rfl hg⟩

theorem flowReach_over : Rows.flowReachRow.holds Tryz.pinned (OpenSpec.ofChange Rows.flowReachSpec) :=
  OpenClaim.holds_of_wide 5 Tryz.f5 rfl rfl rfl rfl rfl rfl rfl ⟨rfl, rfl, rfl, rfl, rfl⟩ rfl rfl rfl rfl rfl (by kernel_rfl) Tryz.func5 (by kernel_rfl)
    (of_decide_eq_true (by kernel_rfl)) (by unfold Func.isWrapper; first | (rw [if_pos (by decide +kernel)]; kernel_rfl) | (rw [if_neg (by decide +kernel)]; exact ⟨rfl, rfl⟩))
    (fun os started H enc _ => flowReach_lifted os started H enc)

/-- the statement -/
theorem flowReach_holds : Rows.FlowReachSaid := flowReach_over

end Go.Proofs.YtknccacfhknnaaaGreat
