/- The law CheckMade: what is made of what there is is fine; functions in another order are as fine. Printed by wip/gen_trlmade.py. -/
import Derived.Test.YtmignlclfbaifaaGreatTrLTurn
namespace Go.Proofs.YtmignlclfbaifaaGreat
open Go.RowKit

set_option maxRecDepth 100000 in
set_option maxHeartbeats 8000000 in
theorem checkMade_walk (v : Value) (turn : Int) (l : List Int) (hI : ∀ x ∈ l, I64 x) (W0 : World) (hraw0 : SlR W0 (· < W0.heap.size) 1 RInt v l) (ht : I64 turn) :
    Calls Tryz.prog 4 #[v, .int .i64 turn] W0 fun e w' => e = .returned (.bool true) ∧ Below W0.heap.size W0 w' := by
  obtain ⟨Ar, cr, hv, _, _⟩ := hraw0.val
  subst hv
  have hraw := hraw0
  clear hraw0
  have HT := Lib.hid ht
  clear ht
  go_enter Tryz.func4, Tryz.ntmps4
  go_upto_region 2 with (go_at_call 9; refine (awake5_any W0).mono ?_; rintro e W1 ⟨rfl, hb1⟩)
  have hraw1 : SlR W1 (· < W1.heap.size) 1 RInt (.slice Ar l.length cr) l := hb_slr hraw hb1
  have HPR := Lib.hid (prog_any l Ar cr W1 hraw1 hI)
  have HB1 := Lib.hid hb1
  clear hraw hraw1 hb1
  go_upto_region 3 with (go_at_call 11; refine HPR.out.mono ?_; intro e W2 hp; obtain ⟨p, A1, A2, c1, c2, rfl, hgen, hb2, ha2, hf2⟩ := hp.rows)
  refine wp_world ?_
  intro W hW
  have hb : Below W2.heap.size W2 W := by rw [← hW]; exact below1 _ _
  have hp : Blk W W2.heap.size 27 #[.slice A1 p.arrays.length c1, .slice A2 p.funcs.length c2] := by rw [← hW]; exact Blk.new _ _ _
  have hB : Below W0.heap.size W0 W := HB1.out.trans ((hb2.trans (hb.mono hb2.size)).mono HB1.out.size)
  have ha := hb_slr ha2 hb
  have hf := hb_funs hf2 hb
  obtain ⟨pb, hpb⟩ : ∃ b, W2.heap.size = b := ⟨_, rfl⟩
  rw [hpb] at hp ⊢
  have HG := Lib.hid hgen
  have hpos := hgen.pos
  obtain ⟨b, off, c', hform, _, _, _, _⟩ := hf.form hpos
  obtain ⟨rfl, rfl⟩ : A2 = some ⟨b, off, none⟩ ∧ c2 = c' := by injection hform with h1 _ h2; exact ⟨h1, h2⟩
  have hfc : p.funcs.length ≤ c2 ∧ c2 ≤ maxLen := by obtain ⟨_, _, h, h1, h2, _⟩ := hf; injection h with _ _ h3; rw [h3]; exact ⟨h1, h2⟩
  obtain ⟨na, hna⟩ : ∃ n, n = p.arrays.length := ⟨_, rfl⟩
  obtain ⟨nf, hnf⟩ : ∃ n, n = p.funcs.length := ⟨_, rfl⟩
  have hnf3 : nf ≤ 3 := by rw [hnf]; exact hgen.few.1
  have hnf0 : 0 < nf := by rw [hnf]; exact hpos
  have HA : Hid (∀ X, Below W.heap.size W X → SlR X (· < X.heap.size) 2 RArr (.slice A1 na c1) p.arrays) := Lib.hid (fun X h => by rw [hna]; exact hb_slr ha h)
  have HF : Hid (∀ X, Below W.heap.size W X → SlR X (· < X.heap.size) 4 (RFunc 8 X (· < X.heap.size)) (.slice (some ⟨b, off, none⟩) nf c2) p.funcs) := Lib.hid (fun X h => by rw [hnf]; exact hb_funs hf h)
  have HC1 : Hid (Calls Tryz.prog 13 #[.agg #[.slice A1 na c1, .slice (some ⟨b, off, none⟩) nf c2]] W fun r w' => r = .returned (.tuple #[.int .i64 0, .agg #[.int .i64 0, .int .i64 0]]) ∧ Below W.heap.size W w') := Lib.hid (by
    have h := check_any 7 p A1 (some ⟨b, off, none⟩) c1 c2 W ha hf (hgen.fewP 8)
    rw [ok_check hgen.made.ok (by decide), ← hna, ← hnf] at h
    exact h)
  obtain ⟨k, hk, -, hpk⟩ := pick5_n turn HT.out nf hnf0
  have HPK := Lib.hid hpk
  have HK := Lib.hid hk
  rw [← hna, ← hnf] at hp
  rw [← hna, ← hnf]
  have hnc : nf ≤ c2 := by rw [hnf]; exact hfc.1
  have hpl := hp.lt
  have p0 := hp.cell 0
  have p1 := hp.cell 1
  have HP := Lib.hid hp
  have HB := Lib.hid hB
  have HNA := Lib.hid hna
  have HNF := Lib.hid hnf
  have HFC := Lib.hid hfc
  clear hW hb hp hB ha hf ha2 hf2 hb2 hpb hna hnf hgen hpos hform hfc hpk HB1 HPR
  go_upto_region 4 with (go_at_call 13; refine HC1.out.mono ?_; rintro e w2 ⟨rfl, hb2⟩)
  refine wp_world ?_
  intro W3 hW3
  have hb3 : Below W.heap.size W W3 := by rw [← hW3]; exact hb2.alloc hb2.size _
  have hT3 : Blk W3 w2.heap.size 33 #[.int .i64 0, .int .i64 0] := by rw [← hW3]; exact Blk.new w2 _ _
  have hp3 := HP.out.below hb3 hpl
  have r0 := hp3.cell 0
  have r1 := hp3.cell 1
  obtain ⟨tb, htb⟩ : ∃ b, w2.heap.size = b := ⟨_, rfl⟩
  rw [htb] at hT3 ⊢
  have HB3 := Lib.hid hb3
  have HT3 := Lib.hid hT3
  have htl := hT3.lt
  clear hW3 hb3 hb2 hT3 p0 p1 hp3 htb HC1
  go_upto_region 5 with (go_at_call 19; refine (HPK.out _).mono ?_; rintro e W4 ⟨rfl, hw⟩; subst hw)
  have hnk : (nf - k : Nat) ≤ 3 := by omega
  clear r0 r1
  have HX0 : Hid (Below W3.heap.size W3 W3.drew) := Lib.hid (Below.refl _ _).drew
  have SO : Hid (∀ X, Below W3.heap.size W3 X → (fun X => X.cell? ⟨pb, 0, none⟩ = some (.slice A1 na c1) ∧ X.cell? ⟨pb, 1, none⟩ = some (.slice (some ⟨b, off, none⟩) nf c2)) X) := Lib.hid (fun X h => have h := HB3.out.trans (h.mono HB3.out.size); ⟨(HP.out.below h hpl).cell 0, (HP.out.below h hpl).cell 1⟩)
  have hk1 : ¬ (k : Int) < 0 := by omega
  have hk2 : (k : Int) ≤ (nf : Int) := by omega
  have hk3 : (k : Int) ≤ (c2 : Int) := by omega
  have hk4 : k ≤ nf := by omega
  have hk5 : (0 : Int) ≤ (k : Int) := by omega
  have hk6 : k ≤ c2 := by omega
  have hk7 : ¬ c2 = k := by omega
  obtain ⟨zi, hj0, hj1, hj2, hj3⟩ := info_parts info_func
  obtain ⟨X0, hX0⟩ : ∃ X0, W3.drew = X0 := ⟨_, rfl⟩
  have hs1 := (HF.out W3.drew HB3.out.drew).drop hk4
  have hs2 := (HF.out W3.drew HB3.out.drew).take hk4
  rw [hX0] at hs1 hs2
  obtain ⟨css, q1, q2, q3, q4, q5, q6⟩ := news_rows hs1 (by rw [List.length_drop, HNF.out]) (fun _ _ => ones_func)
  obtain ⟨dss, s1, s2, s3, s4, s5, s6⟩ := news_rows hs2 (by rw [List.length_take, ← HNF.out]; omega) (fun _ _ => ones_func)
  have HQ1 := Lib.hid (And.intro q1 (And.intro q2 (And.intro q3 (And.intro q4 (And.intro q5 q6)))))
  have HQ2 := Lib.hid (And.intro s1 (And.intro s2 (And.intro s3 (And.intro s4 (And.intro s5 s6)))))
  clear hs1 hs2 q1 q2 q3 q4 q5 q6 s1 s2 s3 s4 s5 s6
  go_cut [10] (fun s wx => ∃ (gq nn cv : Nat) (Av : Option Addr), s = .pointer (some ⟨gq, 0, none⟩) ∧ nn = (p.funcs.drop k ++ p.funcs.take k).length ∧ Below W3.heap.size W3 wx ∧ Blk wx gq 27 #[.slice A1 na c1, .slice Av nn cv] ∧ SlR wx (· < wx.heap.size) 4 (RFunc 8 wx (· < wx.heap.size)) (.slice Av nn cv) (p.funcs.drop k ++ p.funcs.take k))
  case first =>
    refine wp_region_L (by kernel_rfl) 14 (fun X => X.cell? ⟨pb, 0, none⟩ = some (.slice A1 na c1) ∧ X.cell? ⟨pb, 1, none⟩ = some (.slice (some ⟨b, off, none⟩) nf c2)) (SO.out _ HX0.out) (fun hHeld => ?_)
    have HS0 := Lib.hid hHeld
    clear hHeld
    change wpAnyL _ _ _ _ _ 14 15 (Array.replicate 15 false) _ _
    rw [hX0] at HX0 HS0 ⊢
    refine takeL 0 26 (.pointer (some ⟨pb, 0, none⟩)) HS0.out rfl rfl (by kernel_rfl) (by kernel_rfl) (by kernel_rfl) (by decide) (fun _ _ _ h => h) (by kernel_rfl) ?_ ?_
    · intro w2; go_simp
    try simp only [sA, sB, sC]
    refine takeL_S 1 27 (.slice A1 na c1) [14] HS0.out rfl rfl (by kernel_rfl) (by kernel_rfl) (by kernel_rfl) (by decide) (by kernel_rfl) (fun _ _ _ h => h) (by kernel_rfl) ?_ ?_
    · intro w2 hSw; obtain ⟨g0, g1⟩ := hSw; go_simp
    try simp only [sA, sB, sC]
    refine takeL 2 28 (.pointer (some ⟨pb, 1, none⟩)) HS0.out rfl rfl (by kernel_rfl) (by kernel_rfl) (by kernel_rfl) (by decide) (fun _ _ _ h => h) (by kernel_rfl) ?_ ?_
    · intro w2; go_simp
    try simp only [sA, sB, sC]
    refine takeL_S 3 29 (.slice (some ⟨b, off, none⟩) nf c2) [14] HS0.out rfl rfl (by kernel_rfl) (by kernel_rfl) (by kernel_rfl) (by decide) (by kernel_rfl) (fun _ _ _ h => h) (by kernel_rfl) ?_ ?_
    · intro w2 hSw; obtain ⟨g0, g1⟩ := hSw; go_simp
    try simp only [sA, sB, sC]
    refine takeL 4 30 (.int .i64 (k : Int)) HS0.out rfl rfl (by kernel_rfl) (by kernel_rfl) (by kernel_rfl) (by decide) (fun _ _ _ h => h) (by kernel_rfl) ?_ ?_
    · intro w2; go_simp
    try simp only [sA, sB, sC]
    refine takeL 5 31 (.slice (some ⟨b, off + k * 4, none⟩) (nf - k) (c2 - k)) HS0.out rfl rfl (by kernel_rfl) (by kernel_rfl) (by kernel_rfl) (by decide) (fun _ _ _ h => h) (by kernel_rfl) ?_ ?_
    · intro w2; go_simp
    try simp only [sA, sB, sC]
    refine takeL 7 33 (.pointer (some ⟨pb, 1, none⟩)) HS0.out rfl rfl (by kernel_rfl) (by kernel_rfl) (by kernel_rfl) (by decide) (fun _ _ _ h => h) (by kernel_rfl) ?_ ?_
    · intro w2; go_simp
    try simp only [sA, sB, sC]
    refine takeL_S 8 34 (.slice (some ⟨b, off, none⟩) nf c2) [14] HS0.out rfl rfl (by kernel_rfl) (by kernel_rfl) (by kernel_rfl) (by decide) (by kernel_rfl) (fun _ _ _ h => h) (by kernel_rfl) ?_ ?_
    · intro w2 hSw; obtain ⟨g0, g1⟩ := hSw; go_simp
    try simp only [sA, sB, sC]
    refine takeL 9 35 (.int .i64 (k : Int)) HS0.out rfl rfl (by kernel_rfl) (by kernel_rfl) (by kernel_rfl) (by decide) (fun _ _ _ h => h) (by kernel_rfl) ?_ ?_
    · intro w2; go_simp
    try simp only [sA, sB, sC]
    refine takeL 10 36 (.slice (some ⟨b, off, none⟩) k c2) HS0.out rfl rfl (by kernel_rfl) (by kernel_rfl) (by kernel_rfl) (by decide) (fun _ _ _ h => h) (by kernel_rfl) ?_ ?_
    · intro w2; go_simp
    try simp only [sA, sB, sC]
    have HZ0 : Hid (Below X0.heap.size X0 X0) := Lib.hid (Below.refl _ _)
    refine wpAnyL_ready (rs := [6, 13]) (by kernel_rfl) (by simp) ?_
    refine AllReadyL.cons rfl (fun K hK => ?_) (AllReadyL.cons rfl (fun K hK => ?_) AllReadyL.nil)
    · refine step_append_any _ (by rfl) _ _ _ (by rfl) (X0.heap.size) 49 zi _ 4 88 Tryz.underlying25 hj0 hj1 hj2 hj3 rfl (by omega) (.slice none 0 0) 0 ([]) (by rfl) (World.ownsRow_nil _ _ _ _) (some ⟨b, off + k * 4, none⟩) (nf - k) (c2 - k) (css.flatten) (by rfl) (HQ1.out.2.2.2.1) ((HQ1.out.2.2.2.2.1.imp id fun ⟨ad, ha, hc⟩ => ⟨ad, ha, fun j u hu => cell_keep HZ0.out rfl (hc j u hu)⟩)) (HQ1.out.2.2.2.2.2) (by unfold maxLen; omega) (by omega) (Nat.le_refl _) (X0.heap.size) rfl ?_
      intro v1 X1 hown1 hgrow1 hat1
      have hbl : Below X0.heap.size X0 X1 := ⟨hgrow1.os, hgrow1.tape, hgrow1.output, hgrow1.size, fun q hq => hgrow1.block q (Nat.lt_of_lt_of_le hq HZ0.out.size) (fun e => by cases e)⟩
      have HZ1 := Lib.hid (HZ0.out.trans hbl)
      have HX1 := Lib.hid (HX0.out.trans (hbl.mono HX0.out.size))
      have HO1 := Lib.hid hown1
      have HGR1 := Lib.hid (⟨hgrow1.os, hgrow1.tape, hgrow1.output, hgrow1.size, fun q hq _ => hgrow1.block q hq (fun e => by cases e)⟩ : X0.grownBy X1 none)
      clear hown1 hgrow1 hat1 hbl
      refine hK.out _ _ (SO.out _ HX1.out) (fun hHeld => ?_)
      have HS1 := Lib.hid hHeld
      clear hK K hHeld
      try simp only [sA, sB, sC]
      refine wpAnyL_ready (rs := [11, 13]) (by kernel_rfl) (by simp) ?_
      refine AllReadyL.cons rfl (fun K hK => ?_) (AllReadyL.cons rfl (fun K hK => ?_) AllReadyL.nil)
      · have HOX := HO1
        refine step_append_any _ (by rfl) _ _ _ (by rfl) (X0.heap.size) 49 zi _ 4 88 Tryz.underlying25 hj0 hj1 hj2 hj3 rfl (by omega) (v1) (0 + (nf - k)) ([] ++ css.flatten) (by rfl) (HO1.out) (some ⟨b, off, none⟩) (k) (c2) (dss.flatten) (by rfl) (HQ2.out.2.2.2.1) ((HQ2.out.2.2.2.2.1.imp id fun ⟨ad, ha, hc⟩ => ⟨ad, ha, fun j u hu => cell_keep HZ1.out rfl (hc j u hu)⟩)) (HQ2.out.2.2.2.2.2) (by unfold maxLen; omega) (by omega) (HZ1.out.size) (X1.heap.size) rfl ?_
        intro v2 X2 hown2 hgrow2 hat2
        have hbl : Below X0.heap.size X1 X2 := ⟨hgrow2.os, hgrow2.tape, hgrow2.output, hgrow2.size, fun q hq => hgrow2.block q (Nat.lt_of_lt_of_le hq HZ1.out.size) (fun e => by have h1 := (HO1.out).lt q e.symm; have h2 := Nat.le_refl X0.heap.size; omega)⟩
        have HZ2 := Lib.hid (HZ1.out.trans hbl)
        have HX2 := Lib.hid (HX1.out.trans (hbl.mono HX0.out.size))
        obtain ⟨nn, hnn⟩ : ∃ n, n = 0 + (nf - k) + k := ⟨_, rfl⟩
        rw [← hnn] at hown2
        obtain ⟨Av, cv, hv2⟩ := own_form hown2
        subst hv2
        have HO2 := Lib.hid hown2
        have HGR2 := Lib.hid hgrow2
        have HAT2 := Lib.hid hat2
        have HNN := Lib.hid hnn
        clear hown2 hgrow2 hat2 hnn hbl
        have HO2A := HO2
        refine hK.out _ _ (SO.out _ HX2.out) (fun hHeld => ?_)
        have HS2 := Lib.hid hHeld
        clear hK K hHeld
        try simp only [sA, sB, sC]
        refine takeL 12 38 (.agg #[.slice A1 na c1, .slice Av nn cv]) HS2.out rfl rfl (by kernel_rfl) (by kernel_rfl) (by kernel_rfl) (by decide) (fun _ _ _ h => h) (by kernel_rfl) ?_ ?_
        · intro w2; go_simp
        try simp only [sA, sB, sC]
        refine wpAnyL_ready (rs := [13]) (by kernel_rfl) (by simp) ?_
        refine AllReadyL.cons rfl (fun K hK => ?_) AllReadyL.nil
        go_simp
        obtain ⟨X3, hXX⟩ : ∃ Z, X2.alloc (.cells #[.slice none 0 0, .slice none 0 0] 27) = Z := ⟨_, rfl⟩
        rw [hXX]
        have hbl : Below X2.heap.size X2 X3 := by rw [← hXX]; exact below1 _ _
        have hq : Blk X3 X2.heap.size 27 #[.slice none 0 0, .slice none 0 0] := by rw [← hXX]; exact Blk.new _ _ _
        have hszz : X3.heap.size = X2.heap.size + 1 := by rw [← hXX]; simp
        have hal := HO2.out.alloc (.cells #[.slice none 0 0, .slice none 0 0] 27)
        rw [hXX] at hal
        have HAL := Lib.hid hal
        clear hal
        have HZ3 := Lib.hid (HZ2.out.trans (hbl.mono HZ2.out.size))
        have HX3 := Lib.hid (HX2.out.trans (hbl.mono HX2.out.size))
        have HQB := Lib.hid hq
        have HSZ := Lib.hid hszz
        have HGA := Lib.hid hbl
        clear hXX hbl hq hszz
        refine hK.out _ _ (SO.out _ HX3.out) (fun hHeld => ?_)
        have HS3 := Lib.hid hHeld
        clear hK K hHeld
        try simp only [sA, sB, sC]
        have HO2 := HAL
        have hqz : Blk X3 (X2.heap.size) 27 #[.slice none 0 0, .slice none 0 0] := HQB.out
        have z0 := hqz.cell 0; have z1 := hqz.cell 1; have y0 := hqz.frozen 0; have y1 := hqz.frozen 1
        have hneq : ∀ q, (.slice Av nn cv : Value).ownBlock = some q → q ≠ X2.heap.size := fun q hq => by have h1 := (HO2A.out.lt q hq).2; omega
        have HNEQ := Lib.hid hneq; have HQZ := Lib.hid hqz
        clear hneq hqz
        refine wpAnyL_ready (rs := [14]) (by kernel_rfl) (by simp) ?_
        refine AllReadyL.last rfl (by kernel_rfl) (fun K hK => ?_)
        go_simp
        refine hK.out _ _ ?_
        clear hK K
        try simp only [sA, sB, sC]
        refine wpAnyL_done (by kernel_rfl) ?_ _
        go_wp2
        go_meet
        case rel =>
          exact ⟨X2.heap.size, nn, cv, Av, rfl, by rw [HNN.out, List.length_append, List.length_drop, List.length_take, ← HNF.out]; omega, made_rel HX3.out HX0.out.size HZ3.out HO2.out HNEQ.out HQZ.out HQ1.out HQ2.out (HZ2.out.size) (by rw [HNN.out, List.length_drop, List.length_take, ← HNF.out]; omega)⟩
      · go_simp
        obtain ⟨X2, hXX⟩ : ∃ Z, X1.alloc (.cells #[.slice none 0 0, .slice none 0 0] 27) = Z := ⟨_, rfl⟩
        rw [hXX]
        have hbl : Below X1.heap.size X1 X2 := by rw [← hXX]; exact below1 _ _
        have hq : Blk X2 X1.heap.size 27 #[.slice none 0 0, .slice none 0 0] := by rw [← hXX]; exact Blk.new _ _ _
        have hszz : X2.heap.size = X1.heap.size + 1 := by rw [← hXX]; simp
        have hal := HO1.out.alloc (.cells #[.slice none 0 0, .slice none 0 0] 27)
        rw [hXX] at hal
        have HAL := Lib.hid hal
        clear hal
        have HZ2 := Lib.hid (HZ1.out.trans (hbl.mono HZ1.out.size))
        have HX2 := Lib.hid (HX1.out.trans (hbl.mono HX1.out.size))
        have HQB := Lib.hid hq
        have HSZ := Lib.hid hszz
        have HGA := Lib.hid hbl
        clear hXX hbl hq hszz
        refine hK.out _ _ (SO.out _ HX2.out) (fun hHeld => ?_)
        have HS2 := Lib.hid hHeld
        clear hK K hHeld
        try simp only [sA, sB, sC]
        refine wpAnyL_ready (rs := [11]) (by kernel_rfl) (by simp) ?_
        refine AllReadyL.cons rfl (fun K hK => ?_) AllReadyL.nil
        refine step_append_any _ (by rfl) _ _ _ (by rfl) (X0.heap.size) 49 zi _ 4 88 Tryz.underlying25 hj0 hj1 hj2 hj3 rfl (by omega) (v1) (0 + (nf - k)) ([] ++ css.flatten) (by rfl) (HAL.out) (some ⟨b, off, none⟩) (k) (c2) (dss.flatten) (by rfl) (HQ2.out.2.2.2.1) ((HQ2.out.2.2.2.2.1.imp id fun ⟨ad, ha, hc⟩ => ⟨ad, ha, fun j u hu => cell_keep HZ2.out rfl (hc j u hu)⟩)) (HQ2.out.2.2.2.2.2) (by unfold maxLen; omega) (by omega) (HZ2.out.size) (X2.heap.size) rfl ?_
        intro v2 X3 hown2 hgrow2 hat2
        have hbl : Below X0.heap.size X2 X3 := ⟨hgrow2.os, hgrow2.tape, hgrow2.output, hgrow2.size, fun q hq => hgrow2.block q (Nat.lt_of_lt_of_le hq HZ2.out.size) (fun e => by have h1 := (HAL.out).lt q e.symm; have h2 := Nat.le_refl X0.heap.size; omega)⟩
        have HZ3 := Lib.hid (HZ2.out.trans hbl)
        have HX3 := Lib.hid (HX2.out.trans (hbl.mono HX0.out.size))
        obtain ⟨nn, hnn⟩ : ∃ n, n = 0 + (nf - k) + k := ⟨_, rfl⟩
        rw [← hnn] at hown2
        obtain ⟨Av, cv, hv2⟩ := own_form hown2
        subst hv2
        have HO2 := Lib.hid hown2
        have HGR2 := Lib.hid hgrow2
        have HAT2 := Lib.hid hat2
        have HNN := Lib.hid hnn
        clear hown2 hgrow2 hat2 hnn hbl
        refine hK.out _ _ (SO.out _ HX3.out) (fun hHeld => ?_)
        have HS3 := Lib.hid hHeld
        clear hK K hHeld
        try simp only [sA, sB, sC]
        refine takeL 12 38 (.agg #[.slice A1 na c1, .slice Av nn cv]) HS3.out rfl rfl (by kernel_rfl) (by kernel_rfl) (by kernel_rfl) (by decide) (fun _ _ _ h => h) (by kernel_rfl) ?_ ?_
        · intro w2; go_simp
        try simp only [sA, sB, sC]
        have hqz : Blk X3 (X1.heap.size) 27 #[.slice none 0 0, .slice none 0 0] := HQB.out.grown HGR2.out (fun e => by have h1 := (HO1.out.lt _ e).2; omega)
        have z0 := hqz.cell 0; have z1 := hqz.cell 1; have y0 := hqz.frozen 0; have y1 := hqz.frozen 1
        have hneq : ∀ q, (.slice Av nn cv : Value).ownBlock = some q → q ≠ X1.heap.size := fun q hq => by have h1 := (HAT2.out q hq).1; rcases h1 with h1 | h1; have h2 := (HO1.out.lt q h1).2; omega; have := HSZ.out; omega
        have HNEQ := Lib.hid hneq; have HQZ := Lib.hid hqz
        clear hneq hqz
        refine wpAnyL_ready (rs := [14]) (by kernel_rfl) (by simp) ?_
        refine AllReadyL.last rfl (by kernel_rfl) (fun K hK => ?_)
        go_simp
        refine hK.out _ _ ?_
        clear hK K
        try simp only [sA, sB, sC]
        refine wpAnyL_done (by kernel_rfl) ?_ _
        go_wp2
        go_meet
        case rel =>
          exact ⟨X1.heap.size, nn, cv, Av, rfl, by rw [HNN.out, List.length_append, List.length_drop, List.length_take, ← HNF.out]; omega, made_rel HX3.out HX0.out.size HZ3.out HO2.out HNEQ.out HQZ.out HQ1.out HQ2.out (HZ1.out.size) (by rw [HNN.out, List.length_drop, List.length_take, ← HNF.out]; omega)⟩
    · go_simp
      obtain ⟨X1, hXX⟩ : ∃ Z, X0.alloc (.cells #[.slice none 0 0, .slice none 0 0] 27) = Z := ⟨_, rfl⟩
      rw [hXX]
      have hbl : Below X0.heap.size X0 X1 := by rw [← hXX]; exact below1 _ _
      have hq : Blk X1 X0.heap.size 27 #[.slice none 0 0, .slice none 0 0] := by rw [← hXX]; exact Blk.new _ _ _
      have hszz : X1.heap.size = X0.heap.size + 1 := by rw [← hXX]; simp
      have HZ1 := Lib.hid (HZ0.out.trans (hbl.mono HZ0.out.size))
      have HX1 := Lib.hid (HX0.out.trans (hbl.mono HX0.out.size))
      have HQB := Lib.hid hq
      have HSZ := Lib.hid hszz
      have HGA := Lib.hid hbl
      clear hXX hbl hq hszz
      refine hK.out _ _ (SO.out _ HX1.out) (fun hHeld => ?_)
      have HS1 := Lib.hid hHeld
      clear hK K hHeld
      try simp only [sA, sB, sC]
      refine wpAnyL_ready (rs := [6]) (by kernel_rfl) (by simp) ?_
      refine AllReadyL.cons rfl (fun K hK => ?_) AllReadyL.nil
      refine step_append_any _ (by rfl) _ _ _ (by rfl) (X1.heap.size) 49 zi _ 4 88 Tryz.underlying25 hj0 hj1 hj2 hj3 rfl (by omega) (.slice none 0 0) 0 ([]) (by rfl) (World.ownsRow_nil _ _ _ _) (some ⟨b, off + k * 4, none⟩) (nf - k) (c2 - k) (css.flatten) (by rfl) (HQ1.out.2.2.2.1) ((HQ1.out.2.2.2.2.1.imp id fun ⟨ad, ha, hc⟩ => ⟨ad, ha, fun j u hu => cell_keep HZ1.out rfl (hc j u hu)⟩)) (HQ1.out.2.2.2.2.2) (by unfold maxLen; omega) (by omega) (Nat.le_refl _) (X1.heap.size) rfl ?_
      intro v1 X2 hown1 hgrow1 hat1
      have hbl : Below X0.heap.size X1 X2 := ⟨hgrow1.os, hgrow1.tape, hgrow1.output, hgrow1.size, fun q hq => hgrow1.block q (Nat.lt_of_lt_of_le hq HZ1.out.size) (fun e => by cases e)⟩
      have HZ2 := Lib.hid (HZ1.out.trans hbl)
      have HX2 := Lib.hid (HX1.out.trans (hbl.mono HX0.out.size))
      have HO1 := Lib.hid hown1
      have HGR1 := Lib.hid (⟨hgrow1.os, hgrow1.tape, hgrow1.output, hgrow1.size, fun q hq _ => hgrow1.block q hq (fun e => by cases e)⟩ : X1.grownBy X2 none)
      clear hown1 hgrow1 hat1 hbl
      refine hK.out _ _ (SO.out _ HX2.out) (fun hHeld => ?_)
      have HS2 := Lib.hid hHeld
      clear hK K hHeld
      try simp only [sA, sB, sC]
      refine wpAnyL_ready (rs := [11]) (by kernel_rfl) (by simp) ?_
      refine AllReadyL.cons rfl (fun K hK => ?_) AllReadyL.nil
      refine step_append_any _ (by rfl) _ _ _ (by rfl) (X1.heap.size) 49 zi _ 4 88 Tryz.underlying25 hj0 hj1 hj2 hj3 rfl (by omega) (v1) (0 + (nf - k)) ([] ++ css.flatten) (by rfl) (HO1.out) (some ⟨b, off, none⟩) (k) (c2) (dss.flatten) (by rfl) (HQ2.out.2.2.2.1) ((HQ2.out.2.2.2.2.1.imp id fun ⟨ad, ha, hc⟩ => ⟨ad, ha, fun j u hu => cell_keep HZ2.out rfl (hc j u hu)⟩)) (HQ2.out.2.2.2.2.2) (by unfold maxLen; omega) (by omega) (HGR1.out.size) (X2.heap.size) rfl ?_
      intro v2 X3 hown2 hgrow2 hat2
      have hbl : Below X0.heap.size X2 X3 := ⟨hgrow2.os, hgrow2.tape, hgrow2.output, hgrow2.size, fun q hq => hgrow2.block q (Nat.lt_of_lt_of_le hq HZ2.out.size) (fun e => by have h1 := (HO1.out).lt q e.symm; have h2 := HZ1.out.size; omega)⟩
      have HZ3 := Lib.hid (HZ2.out.trans hbl)
      have HX3 := Lib.hid (HX2.out.trans (hbl.mono HX0.out.size))
      obtain ⟨nn, hnn⟩ : ∃ n, n = 0 + (nf - k) + k := ⟨_, rfl⟩
      rw [← hnn] at hown2
      obtain ⟨Av, cv, hv2⟩ := own_form hown2
      subst hv2
      have HO2 := Lib.hid hown2
      have HGR2 := Lib.hid hgrow2
      have HAT2 := Lib.hid hat2
      have HNN := Lib.hid hnn
      clear hown2 hgrow2 hat2 hnn hbl
      refine hK.out _ _ (SO.out _ HX3.out) (fun hHeld => ?_)
      have HS3 := Lib.hid hHeld
      clear hK K hHeld
      try simp only [sA, sB, sC]
      refine takeL 12 38 (.agg #[.slice A1 na c1, .slice Av nn cv]) HS3.out rfl rfl (by kernel_rfl) (by kernel_rfl) (by kernel_rfl) (by decide) (fun _ _ _ h => h) (by kernel_rfl) ?_ ?_
      · intro w2; go_simp
      try simp only [sA, sB, sC]
      have hqz : Blk X3 (X0.heap.size) 27 #[.slice none 0 0, .slice none 0 0] := (HQB.out.grown HGR1.out (fun e => by cases e)).grown HGR2.out (fun e => by have h1 := HO1.out.lt _ e; have := HSZ.out; omega)
      have z0 := hqz.cell 0; have z1 := hqz.cell 1; have y0 := hqz.frozen 0; have y1 := hqz.frozen 1
      have hneq : ∀ q, (.slice Av nn cv : Value).ownBlock = some q → q ≠ X0.heap.size := fun q hq => by have h1 := (HO2.out.lt q hq).1; have := HSZ.out; omega
      have HNEQ := Lib.hid hneq; have HQZ := Lib.hid hqz
      clear hneq hqz
      refine wpAnyL_ready (rs := [14]) (by kernel_rfl) (by simp) ?_
      refine AllReadyL.last rfl (by kernel_rfl) (fun K hK => ?_)
      go_simp
      refine hK.out _ _ ?_
      clear hK K
      try simp only [sA, sB, sC]
      refine wpAnyL_done (by kernel_rfl) ?_ _
      go_wp2
      go_meet
      case rel =>
        exact ⟨X0.heap.size, nn, cv, Av, rfl, by rw [HNN.out, List.length_append, List.length_drop, List.length_take, ← HNF.out]; omega, made_rel HX3.out HX0.out.size HZ3.out HO2.out HNEQ.out HQZ.out HQ1.out HQ2.out (HZ0.out.size) (by rw [HNN.out, List.length_drop, List.length_take, ← HNF.out]; omega)⟩
  case rest =>
  obtain ⟨gq, nn, cv, Av, rfl, hnn, hbw, hqb, hrow⟩ := hcut
  have hcq : Calls Tryz.prog 13 #[.agg #[.slice A1 na c1, .slice Av nn cv]] wc fun r w' => r = .returned (.tuple #[.int .i64 0, .agg #[.int .i64 0, .int .i64 0]]) ∧ Below wc.heap.size wc w' := by
    have h := check_any 7 { p with funcs := p.funcs.drop k ++ p.funcs.take k } A1 Av c1 cv wc (by have h := HA.out wc (HB3.out.trans (hbw.mono HB3.out.size)); rw [HNA.out] at h; exact h) (by rw [← hnn]; exact hrow) (turn_few HG.out k)
    rw [turn_check HG.out k] at h
    rw [show p.arrays.length = na from HNA.out.symm] at h
    rw [show ({ p with funcs := p.funcs.drop k ++ p.funcs.take k } : LProg).funcs.length = nn from hnn.symm] at h
    exact h
  have HCQ := Lib.hid hcq
  have HBW := Lib.hid hbw
  have a0 := hqb.cell 0
  have a1 := hqb.cell 1
  have htw := HT3.out.below hbw htl
  have htl2 := htw.lt
  have HTW := Lib.hid htw
  clear hcq hbw hqb hrow hnn htw
  go_upto_region 7 with (go_at_call 13; refine HCQ.out.mono ?_; rintro e w5 ⟨rfl, hb5⟩)
  refine wp_world ?_
  intro W7 hW7
  have hb7 : Below wc.heap.size wc W7 := by rw [← hW7]; exact hb5.alloc hb5.size _
  have hT7 : Blk W7 w5.heap.size 33 #[.int .i64 0, .int .i64 0] := by rw [← hW7]; exact Blk.new w5 _ _
  have u0 := hT7.cell 0
  have u1 := hT7.cell 1
  have t0 := (HTW.out.below hb7 htl2).cell 0
  have t1 := (HTW.out.below hb7 htl2).cell 1
  have HB7 := Lib.hid hb7
  clear hW7 hb7 hb5 hT7 a0 a1
  refine wp_region_lit ?_
  refine takeP 44 (.bool true) rfl (by kernel_rfl) (by go_simp) ?_
  simp only [sA, sB, sC]
  refine takeP 45 (.bool true) rfl (by kernel_rfl) (by go_simp) ?_
  simp only [sA, sB, sC]
  refine takeP 46 (.int .i64 0) rfl (by kernel_rfl) (by go_simp) ?_
  simp only [sA, sB, sC]
  refine takeP 47 (.bool true) rfl (by kernel_rfl) (by go_simp) ?_
  simp only [sA, sB, sC]
  refine takeP 48 (.bool true) rfl (by kernel_rfl) (by go_simp) ?_
  simp only [sA, sB, sC]
  refine takeP 49 (.bool true) rfl (by kernel_rfl) (by go_simp) ?_
  simp only [sA, sB, sC]
  refine takeP 50 (.agg #[.int .i64 0, .int .i64 0]) rfl (by kernel_rfl) (by go_simp) ?_
  simp only [sA, sB, sC]
  refine takeP 51 (.agg #[.int .i64 0, .int .i64 0]) rfl (by kernel_rfl) (by go_simp) ?_
  simp only [sA, sB, sC]
  refine takeP 52 (.bool true) rfl (by kernel_rfl) (by have heq := eqt 0 0 W7; go_simp) ?_
  simp only [sA, sB, sC]
  refine takeP 53 (.bool true) rfl (by kernel_rfl) (by go_simp) ?_
  simp only [sA, sB, sC]
  refine takeP 54 (.bool true) rfl (by kernel_rfl) (by go_simp) ?_
  simp only [sA, sB, sC]
  refine takeP 55 (.int .i64 0) rfl (by kernel_rfl) (by go_simp) ?_
  simp only [sA, sB, sC]
  refine takeP 56 (.bool true) rfl (by kernel_rfl) (by go_simp) ?_
  simp only [sA, sB, sC]
  refine takeP 57 (.bool true) rfl (by kernel_rfl) (by go_simp) ?_
  simp only [sA, sB, sC]
  refine takeP 58 (.bool true) rfl (by kernel_rfl) (by go_simp) ?_
  simp only [sA, sB, sC]
  refine takeP 59 (.agg #[.int .i64 0, .int .i64 0]) rfl (by kernel_rfl) (by go_simp) ?_
  simp only [sA, sB, sC]
  refine takeP 60 (.agg #[.int .i64 0, .int .i64 0]) rfl (by kernel_rfl) (by go_simp) ?_
  simp only [sA, sB, sC]
  refine takeP 61 (.bool true) rfl (by kernel_rfl) (by have heq := eqt 0 0 W7; go_simp) ?_
  simp only [sA, sB, sC]
  refine takeP 62 (.bool true) rfl (by kernel_rfl) (by go_simp) ?_
  simp only [sA, sB, sC]
  refine takeP 4 (.bool true) rfl (by kernel_rfl) (by go_simp) ?_
  simp only [sA, sB, sC]
  refine wpList_nil ?_
  go_wp2
  go_ret
  have hw3 := HB3.out.trans (HBW.out.mono HB3.out.size)
  have hw7 := hw3.trans (HB7.out.mono hw3.size)
  exact ⟨rfl, HB.out.trans (hw7.mono HB.out.size)⟩
end Go.Proofs.YtmignlclfbaifaaGreat
