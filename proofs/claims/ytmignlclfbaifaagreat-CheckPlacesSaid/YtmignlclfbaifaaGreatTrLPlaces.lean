/- The law CheckPlaces: each function and array is found at the first place of its name. Printed by wip/gen_trlplaces.py. -/
import Derived.Test.YtmignlclfbaifaaGreatTrGenL
namespace Go.Proofs.YtmignlclfbaifaaGreat
open Go.RowKit

set_option maxRecDepth 100000 in
set_option maxHeartbeats 8000000 in
theorem checkPlaces_walk (v : Value) (l : List Int) (hI : ∀ x ∈ l, I64 x) (W0 : World) (hraw0 : SlR W0 (· < W0.heap.size) 1 RInt v l) :
    Calls Tryz.prog 7 #[v] W0 fun e w' => e = .returned (.bool true) ∧ Below W0.heap.size W0 w' := by
  obtain ⟨Ar, cr, hv, _, _⟩ := hraw0.val
  subst hv
  have hraw := hraw0
  clear hraw0
  go_enter Tryz.func7, Tryz.ntmps7
  go_upto_region 2 with (go_at_call 9; refine (awake5_any W0).mono ?_; rintro e W1 ⟨rfl, hb1⟩)
  have hraw1 : SlR W1 (· < W1.heap.size) 1 RInt (.slice Ar l.length cr) l := hb_slr hraw hb1
  have HPR := Lib.hid (prog_any l Ar cr W1 hraw1 hI)
  have HB1 := Lib.hid hb1
  clear hraw hraw1 hb1
  go_upto_region 3 with (go_at_call 11; refine HPR.out.mono ?_; intro e W2 hp; obtain ⟨p, A1, A2, c1, c2, rfl, hgen, hb2, ha2, hf2⟩ := hp.rows)
  refine wp_world ?_
  intro W hW
  have hb : Below W2.heap.size W2 W := by rw [← hW]; exact below1 _ _
  have hp : Blk W W2.heap.size 27 #[.slice A1 p.arrays.length c1, .slice A2 p.funcs.length c2] := by rw [← hW]; exact Blk.new _ _ _
  have hB : Below W0.heap.size W0 W := HB1.out.trans ((hb2.trans (hb.mono hb2.size)).mono HB1.out.size)
  have ha := hb_slr ha2 hb
  have hf := hb_funs hf2 hb
  obtain ⟨pb, hpb⟩ : ∃ b, W2.heap.size = b := ⟨_, rfl⟩
  rw [hpb] at hp ⊢
  obtain ⟨na, hna⟩ : ∃ n, n = p.arrays.length := ⟨_, rfl⟩
  obtain ⟨nf, hnf⟩ : ∃ n, n = p.funcs.length := ⟨_, rfl⟩
  have HOK := Lib.hid hgen.made.ok
  have HSM := Lib.hid hgen.made.small
  have hna2 : na ≤ 2 := by rw [hna]; exact hgen.few.2
  have hnf3 : nf ≤ 3 := by rw [hnf]; exact hgen.few.1
  have HA : Hid (∀ X, Below W.heap.size W X → SlR X (· < X.heap.size) 2 RArr (.slice A1 p.arrays.length c1) p.arrays) := Lib.hid (fun X h => hb_slr ha h)
  have HF : Hid (∀ X, Below W.heap.size W X → SlR X (· < X.heap.size) 4 (RFunc 8 X (· < X.heap.size)) (.slice A2 p.funcs.length c2) p.funcs) := Lib.hid (fun X h => hb_funs hf h)
  have HPL : Hid (∀ (s : ByteArray) X, Below W.heap.size W X → Calls Tryz.prog 15 #[.agg #[.slice A1 na c1, .slice A2 nf c2], .string s] X fun e w' => e = .returned (.int .i64 (placeL p s)) ∧ Below X.heap.size X w') := Lib.hid (fun s X h => by
    have q := place_any 8 p A1 A2 na c1 c2 s X (HF.out X h)
    rw [← hnf] at q; exact q)
  have HAL : Hid (∀ (s : ByteArray) X, Below W.heap.size W X → Calls Tryz.prog 17 #[.agg #[.slice A1 na c1, .slice A2 nf c2], .string s] X fun e w' => e = .returned (.int .i64 (arrayL p s)) ∧ Below X.heap.size X w') := Lib.hid (fun s X h => by
    have q := arrayL_any p A1 A2 nf c1 c2 s X (HA.out X h)
    rw [← hna] at q; exact q)
  rw [← hna, ← hnf] at hp
  rw [← hna, ← hnf]
  have hpl := hp.lt
  have HP := Lib.hid hp
  have HB := Lib.hid hB
  have HNA := Lib.hid hna
  have HNF := Lib.hid hnf
  have HFR : Hid (∀ (i : Nat) (hi : i < p.funcs.length), ∃ b off, A2 = some ⟨b, off, none⟩ ∧ ∀ X, Below W.heap.size W X → X.cell? ⟨b, off + i * 4, none⟩ = some (.string p.funcs[i].name)) := Lib.hid (fun i hi => by
    obtain ⟨b, off, c', hform, _, _, hbl, hel⟩ := hf.form (by omega)
    obtain ⟨rfl, rfl⟩ : A2 = some ⟨b, off, none⟩ ∧ c2 = c' := by injection hform with h1 _ h2; exact ⟨h1, h2⟩
    refine ⟨b, off, rfl, fun X h => ?_⟩
    obtain ⟨cs, _, ⟨vp, vl, vb, rfl, _⟩, hcell⟩ := hel i hi
    have q := (hcell.keep (h.block b hbl)).at_ (j := 0) rfl
    simpa using q)
  have HAR : Hid (∀ (i : Nat) (hi : i < p.arrays.length), ∃ b off, A1 = some ⟨b, off, none⟩ ∧ ∀ X, Below W.heap.size W X → X.cell? ⟨b, off + i * 2, none⟩ = some (.string p.arrays[i].1)) := Lib.hid (fun i hi => by
    obtain ⟨b, off, c', hform, _, _, hbl, hel⟩ := ha.form (by omega)
    obtain ⟨rfl, rfl⟩ : A1 = some ⟨b, off, none⟩ ∧ c1 = c' := by injection hform with h1 _ h2; exact ⟨h1, h2⟩
    refine ⟨b, off, rfl, fun X h => ?_⟩
    obtain ⟨cs, _, hcs, hcell⟩ := hel i hi
    obtain rfl : cs = [.string p.arrays[i].1, .int .i64 p.arrays[i].2] := hcs
    have q := (hcell.keep (h.block b hbl)).at_ (j := 0) rfl
    simpa using q)
  clear hW hb hp hB ha hf ha2 hf2 hb2 hpb hna hnf hgen HB1 HPR
  go_wp2
  go_loopw [5] (fun s wr => ∃ i : Nat, i ≤ nf ∧ s = .int .i64 i ∧ Below W.heap.size W wr) (fun s _ => nf - (intOf s).toNat)
  case atStart => exact ⟨0, Nat.zero_le _, rfl, Below.refl _ _⟩
  case round =>
    obtain ⟨i, hi, rfl, hbr⟩ := hrel
    have HBR := Lib.hid hbr
    have hpw := HP.out.below hbr hpl
    have p0 := hpw.cell 0; have p1 := hpw.cell 1
    clear hbr hpw
    by_cases hlt : i < nf
    · have d1 : decide ((i : Int) < (nf : Int)) = true := decide_eq_true (by omega)
      have hin : i < p.funcs.length := by rw [← HNF.out]; exact hlt
      obtain ⟨b, off, hA, hcl⟩ := HFR.out i hin
      have hfirst := place_at HOK.out hin
      have hsec := array_none HOK.out hin
      obtain ⟨nm, hnm⟩ : ∃ s, s = p.funcs[i].name := ⟨_, rfl⟩
      rw [← hnm] at hcl hfirst hsec
      subst hA
      have HCL := Lib.hid hcl; have HIN := Lib.hid hlt
      have H1 : Hid (∀ X, Below W.heap.size W X → Calls Tryz.prog 15 #[.agg #[.slice A1 na c1, .slice (some ⟨b, off, none⟩) nf c2], .string nm] X fun e w' => e = .returned (.int .i64 (i : Int)) ∧ Below X.heap.size X w') := Lib.hid (fun X h => by have q := HPL.out nm X h; rw [hfirst] at q; exact q)
      have H2 : Hid (∀ X, Below W.heap.size W X → Calls Tryz.prog 17 #[.agg #[.slice A1 na c1, .slice (some ⟨b, off, none⟩) nf c2], .string nm] X fun e w' => e = .returned (.int .i64 (-1)) ∧ Below X.heap.size X w') := Lib.hid (fun X h => by have q := HAL.out nm X h; rw [hsec] at q; exact q)
      clear hcl hfirst hsec hnm hin
      have hi2 : ¬ (i : Int) < 0 := by omega
      have hi1 : (i : Int) < (nf : Int) := by omega
      go_upto_region 6 with fail
      have SO : Hid (∀ X, Below W.heap.size W X → (fun X => X.cell? ⟨pb, 0, none⟩ = some (.slice A1 na c1) ∧ X.cell? ⟨pb, 1, none⟩ = some (.slice (some ⟨b, off, none⟩) nf c2) ∧ X.cell? ⟨b, off + i * 4, none⟩ = some (.string nm)) X) := Lib.hid (fun X h => ⟨(HP.out.below h hpl).cell 0, (HP.out.below h hpl).cell 1, HCL.out X h⟩)
      have HX0 : Hid (Below W.heap.size W wr.drew) := Lib.hid HBR.out.drew
      clear p0 p1
      refine wp_region_L (by kernel_rfl) 20 (fun X => X.cell? ⟨pb, 0, none⟩ = some (.slice A1 na c1) ∧ X.cell? ⟨pb, 1, none⟩ = some (.slice (some ⟨b, off, none⟩) nf c2) ∧ X.cell? ⟨b, off + i * 4, none⟩ = some (.string nm)) (SO.out _ HX0.out) (fun hHeld => ?_)
      have HS0 := Lib.hid hHeld
      clear hHeld
      change wpAnyL _ _ _ _ _ 20 21 (Array.replicate 21 false) _ _
      obtain ⟨X0, hX0⟩ : ∃ X0, wr.drew = X0 := ⟨_, rfl⟩
      rw [hX0] at HX0 HS0 ⊢
      clear hX0
      refine takeL_S 0 17 (.agg #[.slice A1 na c1, .slice (some ⟨b, off, none⟩) nf c2]) [7, 10, 20] HS0.out rfl rfl (by kernel_rfl) (by kernel_rfl) (by kernel_rfl) (by decide) (by kernel_rfl) (fun _ _ _ h => h) (by kernel_rfl) ?_ ?_
      · intro w2 hSw; obtain ⟨g0, g1, g2⟩ := hSw; go_simp
      try simp only [sA, sB, sC]
      refine takeL 1 18 (.pointer (some ⟨pb, 1, none⟩)) HS0.out rfl rfl (by kernel_rfl) (by kernel_rfl) (by kernel_rfl) (by decide) (fun _ _ _ h => h) (by kernel_rfl) ?_ ?_
      · intro w2; go_simp
      try simp only [sA, sB, sC]
      refine takeL_S 2 19 (.slice (some ⟨b, off, none⟩) nf c2) [4, 5, 6, 7, 10, 20] HS0.out rfl rfl (by kernel_rfl) (by kernel_rfl) (by kernel_rfl) (by decide) (by kernel_rfl) (fun _ _ _ h => h) (by kernel_rfl) ?_ ?_
      · intro w2 hSw; obtain ⟨g0, g1, g2⟩ := hSw; go_simp
      try simp only [sA, sB, sC]
      refine takeL 3 20 (.int .i64 (i : Int)) HS0.out rfl rfl (by kernel_rfl) (by kernel_rfl) (by kernel_rfl) (by decide) (fun _ _ _ h => h) (by kernel_rfl) ?_ ?_
      · intro w2; go_simp
      try simp only [sA, sB, sC]
      refine takeL 4 21 (.pointer (some ⟨b, off + i * 4, none⟩)) HS0.out rfl rfl (by kernel_rfl) (by kernel_rfl) (by kernel_rfl) (by decide) (fun _ _ _ h => h) (by kernel_rfl) ?_ ?_
      · intro w2; go_simp
      try simp only [sA, sB, sC]
      refine takeL 5 22 (.pointer (some ⟨b, off + i * 4, none⟩)) HS0.out rfl rfl (by kernel_rfl) (by kernel_rfl) (by kernel_rfl) (by decide) (fun _ _ _ h => h) (by kernel_rfl) ?_ ?_
      · intro w2; go_simp
      try simp only [sA, sB, sC]
      refine takeL_S 6 23 (.string nm) [7, 10, 20] HS0.out rfl rfl (by kernel_rfl) (by kernel_rfl) (by kernel_rfl) (by decide) (by kernel_rfl) (fun _ _ _ h => h) (by kernel_rfl) ?_ ?_
      · intro w2 hSw; obtain ⟨g0, g1, g2⟩ := hSw; go_simp
      try simp only [sA, sB, sC]
      refine takeL 8 25 (.int .i64 (i : Int)) HS0.out rfl rfl (by kernel_rfl) (by kernel_rfl) (by kernel_rfl) (by decide) (fun _ _ _ h => h) (by kernel_rfl) ?_ ?_
      · intro w2; go_simp
      try simp only [sA, sB, sC]
      refine wpAnyL_ready (rs := [7]) (by kernel_rfl) (by simp) ?_
      refine AllReadyL.cons rfl (fun K hK => ?_) AllReadyL.nil
      go_simp
      refine (H1.out X0 HX0.out).mono ?_
      rintro e X1 ⟨rfl, hb⟩
      have HX1 := Lib.hid (HX0.out.trans (hb.mono HX0.out.size))
      clear hb
      refine hK.out _ _ (SO.out _ HX1.out) (fun hHeld => ?_)
      have HS1 := Lib.hid hHeld
      clear hK K hHeld
      try simp only [sA, sB, sC]
      refine takeL 9 26 (.bool false) HS1.out rfl rfl (by kernel_rfl) (by kernel_rfl) (by kernel_rfl) (by decide) (fun _ _ _ h => h) (by kernel_rfl) ?_ ?_
      · intro w2; go_simp
      try simp only [sA, sB, sC]
      refine takeL 10 27 (.bool false) HS1.out rfl rfl (by kernel_rfl) (by kernel_rfl) (by kernel_rfl) (by decide) (fun _ _ _ h => h) (by kernel_rfl) ?_ ?_
      · intro w2; go_simp
      try simp only [sA, sB, sC]
      refine takeL_S 11 28 (.agg #[.slice A1 na c1, .slice (some ⟨b, off, none⟩) nf c2]) [18, 19, 20] HS1.out rfl rfl (by kernel_rfl) (by kernel_rfl) (by kernel_rfl) (by decide) (by kernel_rfl) (fun _ _ _ h => h) (by kernel_rfl) ?_ ?_
      · intro w2 hSw; obtain ⟨g0, g1, g2⟩ := hSw; go_simp
      try simp only [sA, sB, sC]
      refine takeL 12 29 (.pointer (some ⟨pb, 1, none⟩)) HS1.out rfl rfl (by kernel_rfl) (by kernel_rfl) (by kernel_rfl) (by decide) (fun _ _ _ h => h) (by kernel_rfl) ?_ ?_
      · intro w2; go_simp
      try simp only [sA, sB, sC]
      refine takeL_S 13 30 (.slice (some ⟨b, off, none⟩) nf c2) [15, 16, 17, 18, 19, 20] HS1.out rfl rfl (by kernel_rfl) (by kernel_rfl) (by kernel_rfl) (by decide) (by kernel_rfl) (fun _ _ _ h => h) (by kernel_rfl) ?_ ?_
      · intro w2 hSw; obtain ⟨g0, g1, g2⟩ := hSw; go_simp
      try simp only [sA, sB, sC]
      refine takeL 14 31 (.int .i64 (i : Int)) HS1.out rfl rfl (by kernel_rfl) (by kernel_rfl) (by kernel_rfl) (by decide) (fun _ _ _ h => h) (by kernel_rfl) ?_ ?_
      · intro w2; go_simp
      try simp only [sA, sB, sC]
      refine takeL 15 32 (.pointer (some ⟨b, off + i * 4, none⟩)) HS1.out rfl rfl (by kernel_rfl) (by kernel_rfl) (by kernel_rfl) (by decide) (fun _ _ _ h => h) (by kernel_rfl) ?_ ?_
      · intro w2; go_simp
      try simp only [sA, sB, sC]
      refine takeL 16 33 (.pointer (some ⟨b, off + i * 4, none⟩)) HS1.out rfl rfl (by kernel_rfl) (by kernel_rfl) (by kernel_rfl) (by decide) (fun _ _ _ h => h) (by kernel_rfl) ?_ ?_
      · intro w2; go_simp
      try simp only [sA, sB, sC]
      refine takeL_S 17 34 (.string nm) [18, 19, 20] HS1.out rfl rfl (by kernel_rfl) (by kernel_rfl) (by kernel_rfl) (by decide) (by kernel_rfl) (fun _ _ _ h => h) (by kernel_rfl) ?_ ?_
      · intro w2 hSw; obtain ⟨g0, g1, g2⟩ := hSw; go_simp
      try simp only [sA, sB, sC]
      refine wpAnyL_ready (rs := [18]) (by kernel_rfl) (by simp) ?_
      refine AllReadyL.cons rfl (fun K hK => ?_) AllReadyL.nil
      go_simp
      refine (H2.out X1 HX1.out).mono ?_
      rintro e X2 ⟨rfl, hb⟩
      have HX2 := Lib.hid (HX1.out.trans (hb.mono HX1.out.size))
      clear hb
      refine hK.out _ _ (SO.out _ HX2.out) (fun hHeld => ?_)
      have HS2 := Lib.hid hHeld
      clear hK K hHeld
      try simp only [sA, sB, sC]
      refine takeL 19 36 (.bool false) HS2.out rfl rfl (by kernel_rfl) (by kernel_rfl) (by kernel_rfl) (by decide) (fun _ _ _ h => h) (by kernel_rfl) ?_ ?_
      · intro w2; go_simp
      try simp only [sA, sB, sC]
      refine wpAnyL_ready (rs := [20]) (by kernel_rfl) (by simp) ?_
      refine AllReadyL.last rfl (by kernel_rfl) (fun K hK => ?_)
      go_simp
      refine hK.out _ _ ?_
      clear hK K
      try simp only [sA, sB, sC]
      refine wpAnyL_done (by kernel_rfl) ?_ _
      go_wp2
      go_roundw
      case rel => exact ⟨i + 1, HIN.out, by go_num, HX2.out⟩
      case measure => have := HIN.out; simp [intOf]; omega
    · have hin : i = nf := by omega
      have d1 : decide ((i : Int) < (nf : Int)) = false := decide_eq_false (by omega)
      clear hin
      obtain ⟨Wa, hwa⟩ : ∃ x, x = wr := ⟨wr, rfl⟩
      subst hwa
      have HBW := Lib.hid HBR.out
      clear HBR
      go_wp2
      go_loopw [6] (fun s wr => ∃ i : Nat, i ≤ na ∧ s = .int .i64 i ∧ Below W.heap.size W wr) (fun s _ => na - (intOf s).toNat)
      case atStart => exact ⟨0, Nat.zero_le _, rfl, HBW.out⟩
      case round =>
        obtain ⟨i, hi, rfl, hbr⟩ := hrel
        have HBR := Lib.hid hbr
        have hpw := HP.out.below hbr hpl
        have p0 := hpw.cell 0; have p1 := hpw.cell 1
        clear hbr hpw
        by_cases hlt : i < na
        · have d1 : decide ((i : Int) < (na : Int)) = true := decide_eq_true (by omega)
          have hin : i < p.arrays.length := by rw [← HNA.out]; exact hlt
          obtain ⟨b, off, hA, hcl⟩ := HAR.out i hin
          have hfirst := array_at HOK.out hin
          have hsec := place_none HOK.out hin
          obtain ⟨nm, hnm⟩ : ∃ s, s = p.arrays[i].1 := ⟨_, rfl⟩
          rw [← hnm] at hcl hfirst hsec
          subst hA
          have HCL := Lib.hid hcl; have HIN := Lib.hid hlt
          have H1 : Hid (∀ X, Below W.heap.size W X → Calls Tryz.prog 17 #[.agg #[.slice (some ⟨b, off, none⟩) na c1, .slice A2 nf c2], .string nm] X fun e w' => e = .returned (.int .i64 (i : Int)) ∧ Below X.heap.size X w') := Lib.hid (fun X h => by have q := HAL.out nm X h; rw [hfirst] at q; exact q)
          have H2 : Hid (∀ X, Below W.heap.size W X → Calls Tryz.prog 15 #[.agg #[.slice (some ⟨b, off, none⟩) na c1, .slice A2 nf c2], .string nm] X fun e w' => e = .returned (.int .i64 (-1)) ∧ Below X.heap.size X w') := Lib.hid (fun X h => by have q := HPL.out nm X h; rw [hsec] at q; exact q)
          clear hcl hfirst hsec hnm hin
          have hi2 : ¬ (i : Int) < 0 := by omega
          have hi1 : (i : Int) < (na : Int) := by omega
          go_upto_region 11 with fail
          have SO : Hid (∀ X, Below W.heap.size W X → (fun X => X.cell? ⟨pb, 0, none⟩ = some (.slice (some ⟨b, off, none⟩) na c1) ∧ X.cell? ⟨pb, 1, none⟩ = some (.slice A2 nf c2) ∧ X.cell? ⟨b, off + i * 2, none⟩ = some (.string nm)) X) := Lib.hid (fun X h => ⟨(HP.out.below h hpl).cell 0, (HP.out.below h hpl).cell 1, HCL.out X h⟩)
          have HX0 : Hid (Below W.heap.size W wr.drew) := Lib.hid HBR.out.drew
          clear p0 p1
          refine wp_region_L (by kernel_rfl) 20 (fun X => X.cell? ⟨pb, 0, none⟩ = some (.slice (some ⟨b, off, none⟩) na c1) ∧ X.cell? ⟨pb, 1, none⟩ = some (.slice A2 nf c2) ∧ X.cell? ⟨b, off + i * 2, none⟩ = some (.string nm)) (SO.out _ HX0.out) (fun hHeld => ?_)
          have HS0 := Lib.hid hHeld
          clear hHeld
          change wpAnyL _ _ _ _ _ 20 21 (Array.replicate 21 false) _ _
          obtain ⟨X0, hX0⟩ : ∃ X0, wr.drew = X0 := ⟨_, rfl⟩
          rw [hX0] at HX0 HS0 ⊢
          clear hX0
          refine takeL_S 0 45 (.agg #[.slice (some ⟨b, off, none⟩) na c1, .slice A2 nf c2]) [7, 10, 20] HS0.out rfl rfl (by kernel_rfl) (by kernel_rfl) (by kernel_rfl) (by decide) (by kernel_rfl) (fun _ _ _ h => h) (by kernel_rfl) ?_ ?_
          · intro w2 hSw; obtain ⟨g0, g1, g2⟩ := hSw; go_simp
          try simp only [sA, sB, sC]
          refine takeL 1 46 (.pointer (some ⟨pb, 0, none⟩)) HS0.out rfl rfl (by kernel_rfl) (by kernel_rfl) (by kernel_rfl) (by decide) (fun _ _ _ h => h) (by kernel_rfl) ?_ ?_
          · intro w2; go_simp
          try simp only [sA, sB, sC]
          refine takeL_S 2 47 (.slice (some ⟨b, off, none⟩) na c1) [4, 5, 6, 7, 10, 20] HS0.out rfl rfl (by kernel_rfl) (by kernel_rfl) (by kernel_rfl) (by decide) (by kernel_rfl) (fun _ _ _ h => h) (by kernel_rfl) ?_ ?_
          · intro w2 hSw; obtain ⟨g0, g1, g2⟩ := hSw; go_simp
          try simp only [sA, sB, sC]
          refine takeL 3 48 (.int .i64 (i : Int)) HS0.out rfl rfl (by kernel_rfl) (by kernel_rfl) (by kernel_rfl) (by decide) (fun _ _ _ h => h) (by kernel_rfl) ?_ ?_
          · intro w2; go_simp
          try simp only [sA, sB, sC]
          refine takeL 4 49 (.pointer (some ⟨b, off + i * 2, none⟩)) HS0.out rfl rfl (by kernel_rfl) (by kernel_rfl) (by kernel_rfl) (by decide) (fun _ _ _ h => h) (by kernel_rfl) ?_ ?_
          · intro w2; go_simp
          try simp only [sA, sB, sC]
          refine takeL 5 50 (.pointer (some ⟨b, off + i * 2, none⟩)) HS0.out rfl rfl (by kernel_rfl) (by kernel_rfl) (by kernel_rfl) (by decide) (fun _ _ _ h => h) (by kernel_rfl) ?_ ?_
          · intro w2; go_simp
          try simp only [sA, sB, sC]
          refine takeL_S 6 51 (.string nm) [7, 10, 20] HS0.out rfl rfl (by kernel_rfl) (by kernel_rfl) (by kernel_rfl) (by decide) (by kernel_rfl) (fun _ _ _ h => h) (by kernel_rfl) ?_ ?_
          · intro w2 hSw; obtain ⟨g0, g1, g2⟩ := hSw; go_simp
          try simp only [sA, sB, sC]
          refine takeL 8 53 (.int .i64 (i : Int)) HS0.out rfl rfl (by kernel_rfl) (by kernel_rfl) (by kernel_rfl) (by decide) (fun _ _ _ h => h) (by kernel_rfl) ?_ ?_
          · intro w2; go_simp
          try simp only [sA, sB, sC]
          refine wpAnyL_ready (rs := [7]) (by kernel_rfl) (by simp) ?_
          refine AllReadyL.cons rfl (fun K hK => ?_) AllReadyL.nil
          go_simp
          refine (H1.out X0 HX0.out).mono ?_
          rintro e X1 ⟨rfl, hb⟩
          have HX1 := Lib.hid (HX0.out.trans (hb.mono HX0.out.size))
          clear hb
          refine hK.out _ _ (SO.out _ HX1.out) (fun hHeld => ?_)
          have HS1 := Lib.hid hHeld
          clear hK K hHeld
          try simp only [sA, sB, sC]
          refine takeL 9 54 (.bool false) HS1.out rfl rfl (by kernel_rfl) (by kernel_rfl) (by kernel_rfl) (by decide) (fun _ _ _ h => h) (by kernel_rfl) ?_ ?_
          · intro w2; go_simp
          try simp only [sA, sB, sC]
          refine takeL 10 55 (.bool false) HS1.out rfl rfl (by kernel_rfl) (by kernel_rfl) (by kernel_rfl) (by decide) (fun _ _ _ h => h) (by kernel_rfl) ?_ ?_
          · intro w2; go_simp
          try simp only [sA, sB, sC]
          refine takeL_S 11 56 (.agg #[.slice (some ⟨b, off, none⟩) na c1, .slice A2 nf c2]) [18, 19, 20] HS1.out rfl rfl (by kernel_rfl) (by kernel_rfl) (by kernel_rfl) (by decide) (by kernel_rfl) (fun _ _ _ h => h) (by kernel_rfl) ?_ ?_
          · intro w2 hSw; obtain ⟨g0, g1, g2⟩ := hSw; go_simp
          try simp only [sA, sB, sC]
          refine takeL 12 57 (.pointer (some ⟨pb, 0, none⟩)) HS1.out rfl rfl (by kernel_rfl) (by kernel_rfl) (by kernel_rfl) (by decide) (fun _ _ _ h => h) (by kernel_rfl) ?_ ?_
          · intro w2; go_simp
          try simp only [sA, sB, sC]
          refine takeL_S 13 58 (.slice (some ⟨b, off, none⟩) na c1) [15, 16, 17, 18, 19, 20] HS1.out rfl rfl (by kernel_rfl) (by kernel_rfl) (by kernel_rfl) (by decide) (by kernel_rfl) (fun _ _ _ h => h) (by kernel_rfl) ?_ ?_
          · intro w2 hSw; obtain ⟨g0, g1, g2⟩ := hSw; go_simp
          try simp only [sA, sB, sC]
          refine takeL 14 59 (.int .i64 (i : Int)) HS1.out rfl rfl (by kernel_rfl) (by kernel_rfl) (by kernel_rfl) (by decide) (fun _ _ _ h => h) (by kernel_rfl) ?_ ?_
          · intro w2; go_simp
          try simp only [sA, sB, sC]
          refine takeL 15 60 (.pointer (some ⟨b, off + i * 2, none⟩)) HS1.out rfl rfl (by kernel_rfl) (by kernel_rfl) (by kernel_rfl) (by decide) (fun _ _ _ h => h) (by kernel_rfl) ?_ ?_
          · intro w2; go_simp
          try simp only [sA, sB, sC]
          refine takeL 16 61 (.pointer (some ⟨b, off + i * 2, none⟩)) HS1.out rfl rfl (by kernel_rfl) (by kernel_rfl) (by kernel_rfl) (by decide) (fun _ _ _ h => h) (by kernel_rfl) ?_ ?_
          · intro w2; go_simp
          try simp only [sA, sB, sC]
          refine takeL_S 17 62 (.string nm) [18, 19, 20] HS1.out rfl rfl (by kernel_rfl) (by kernel_rfl) (by kernel_rfl) (by decide) (by kernel_rfl) (fun _ _ _ h => h) (by kernel_rfl) ?_ ?_
          · intro w2 hSw; obtain ⟨g0, g1, g2⟩ := hSw; go_simp
          try simp only [sA, sB, sC]
          refine wpAnyL_ready (rs := [18]) (by kernel_rfl) (by simp) ?_
          refine AllReadyL.cons rfl (fun K hK => ?_) AllReadyL.nil
          go_simp
          refine (H2.out X1 HX1.out).mono ?_
          rintro e X2 ⟨rfl, hb⟩
          have HX2 := Lib.hid (HX1.out.trans (hb.mono HX1.out.size))
          clear hb
          refine hK.out _ _ (SO.out _ HX2.out) (fun hHeld => ?_)
          have HS2 := Lib.hid hHeld
          clear hK K hHeld
          try simp only [sA, sB, sC]
          refine takeL 19 64 (.bool false) HS2.out rfl rfl (by kernel_rfl) (by kernel_rfl) (by kernel_rfl) (by decide) (fun _ _ _ h => h) (by kernel_rfl) ?_ ?_
          · intro w2; go_simp
          try simp only [sA, sB, sC]
          refine wpAnyL_ready (rs := [20]) (by kernel_rfl) (by simp) ?_
          refine AllReadyL.last rfl (by kernel_rfl) (fun K hK => ?_)
          go_simp
          refine hK.out _ _ ?_
          clear hK K
          try simp only [sA, sB, sC]
          refine wpAnyL_done (by kernel_rfl) ?_ _
          go_wp2
          go_roundw
          case rel => exact ⟨i + 1, HIN.out, by go_num, HX2.out⟩
          case measure => have := HIN.out; simp [intOf]; omega
        · have hin : i = na := by omega
          have d1 : decide ((i : Int) < (na : Int)) = false := decide_eq_false (by omega)
          clear hin
          have HS1 : Hid (placeL p ⟨#[115, 116, 114, 97, 110, 103, 101]⟩ = -1) := Lib.hid (place_out (big_out HSM.out))
          have HS2 : Hid (arrayL p ⟨#[115, 116, 114, 97, 110, 103, 101]⟩ = -1) := Lib.hid (array_out (big_out HSM.out))
          have HS3 : Hid (placeL p ⟨#[]⟩ = -1) := Lib.hid (place_out (empty_out HOK.out))
          have H1 : Hid (∀ X, Below W.heap.size W X → Calls Tryz.prog 15 #[.agg #[.slice A1 na c1, .slice A2 nf c2], .string ⟨#[115, 116, 114, 97, 110, 103, 101]⟩] X fun e w' => e = .returned (.int .i64 (-1)) ∧ Below X.heap.size X w') := Lib.hid (fun X h => by have q := HPL.out ⟨#[115, 116, 114, 97, 110, 103, 101]⟩ X h; rw [HS1.out] at q; exact q)
          have H2 : Hid (∀ X, Below W.heap.size W X → Calls Tryz.prog 17 #[.agg #[.slice A1 na c1, .slice A2 nf c2], .string ⟨#[115, 116, 114, 97, 110, 103, 101]⟩] X fun e w' => e = .returned (.int .i64 (-1)) ∧ Below X.heap.size X w') := Lib.hid (fun X h => by have q := HAL.out ⟨#[115, 116, 114, 97, 110, 103, 101]⟩ X h; rw [HS2.out] at q; exact q)
          have H3 : Hid (∀ X, Below W.heap.size W X → Calls Tryz.prog 15 #[.agg #[.slice A1 na c1, .slice A2 nf c2], .string ⟨#[]⟩] X fun e w' => e = .returned (.int .i64 (-1)) ∧ Below X.heap.size X w') := Lib.hid (fun X h => by have q := HPL.out ⟨#[]⟩ X h; rw [HS3.out] at q; exact q)
          clear HPL HAL
          go_upto_region 13 with fail
          go_upto_region 13 with fail
          refine wp_region_lit ?_
          refine takeP 66 (.bool true) rfl (by kernel_rfl) (by go_simp) ?_
          simp only [sA, sB, sC]
          refine takeP 67 (.bool true) rfl (by kernel_rfl) (by go_simp) ?_
          simp only [sA, sB, sC]
          refine takeP 68 (.agg #[.slice A1 na c1, .slice A2 nf c2]) rfl (by kernel_rfl) (by go_simp) ?_
          simp only [sA, sB, sC]
          refine stepP (by kernel_rfl) (fun K hK => ?_)
          go_simp
          refine (H1.out wr HBR.out).mono ?_
          rintro e X1 ⟨rfl, hb⟩
          have HX1 := Lib.hid (HBR.out.trans (hb.mono HBR.out.size))
          have a0 := (HP.out.below HX1.out hpl).cell 0
          have a1 := (HP.out.below HX1.out hpl).cell 1
          clear hb
          refine hK.out _ _ ?_
          clear hK K
          try simp only [sA, sB, sC]
          refine takeP 70 (.bool true) rfl (by kernel_rfl) (by go_simp) ?_
          simp only [sA, sB, sC]
          refine takeP 71 (.bool true) rfl (by kernel_rfl) (by go_simp) ?_
          simp only [sA, sB, sC]
          refine takeP 72 (.bool true) rfl (by kernel_rfl) (by go_simp) ?_
          simp only [sA, sB, sC]
          refine takeP 73 (.agg #[.slice A1 na c1, .slice A2 nf c2]) rfl (by kernel_rfl) (by go_simp) ?_
          simp only [sA, sB, sC]
          refine stepP (by kernel_rfl) (fun K hK => ?_)
          go_simp
          refine (H2.out X1 HX1.out).mono ?_
          rintro e X2 ⟨rfl, hb⟩
          have HX2 := Lib.hid (HX1.out.trans (hb.mono HX1.out.size))
          have b0 := (HP.out.below HX2.out hpl).cell 0
          have b1 := (HP.out.below HX2.out hpl).cell 1
          clear hb
          refine hK.out _ _ ?_
          clear hK K
          try simp only [sA, sB, sC]
          refine takeP 75 (.bool true) rfl (by kernel_rfl) (by go_simp) ?_
          simp only [sA, sB, sC]
          refine takeP 76 (.bool true) rfl (by kernel_rfl) (by go_simp) ?_
          simp only [sA, sB, sC]
          refine takeP 77 (.bool true) rfl (by kernel_rfl) (by go_simp) ?_
          simp only [sA, sB, sC]
          refine takeP 78 (.agg #[.slice A1 na c1, .slice A2 nf c2]) rfl (by kernel_rfl) (by go_simp) ?_
          simp only [sA, sB, sC]
          refine stepP (by kernel_rfl) (fun K hK => ?_)
          go_simp
          refine (H3.out X2 HX2.out).mono ?_
          rintro e X3 ⟨rfl, hb⟩
          have HX3 := Lib.hid (HX2.out.trans (hb.mono HX2.out.size))
          have c0 := (HP.out.below HX3.out hpl).cell 0
          have c1 := (HP.out.below HX3.out hpl).cell 1
          clear hb
          refine hK.out _ _ ?_
          clear hK K
          try simp only [sA, sB, sC]
          refine takeP 80 (.bool true) rfl (by kernel_rfl) (by go_simp) ?_
          simp only [sA, sB, sC]
          refine takeP 81 (.bool true) rfl (by kernel_rfl) (by go_simp) ?_
          simp only [sA, sB, sC]
          refine takeP 2 (.bool true) rfl (by kernel_rfl) (by go_simp) ?_
          simp only [sA, sB, sC]
          refine wpList_nil ?_
          go_wp2
          go_ret
          exact ⟨rfl, HB.out.trans (HX3.out.mono HB.out.size)⟩
end Go.Proofs.YtmignlclfbaifaaGreat
