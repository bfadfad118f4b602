/- The law CheckTwice: a name that is there twice is told. Printed by wip/gen_trltwice.py. -/
import Derived.Test.YtmignlclfbaifaaGreatTrLTwo
namespace Go.Proofs.YtmignlclfbaifaaGreat
open Go.RowKit Go.Sort Go.Shelf

set_option maxRecDepth 100000 in
set_option maxHeartbeats 8000000 in
theorem checkTwice_walk (v : Value) (which where_ : Int) (l : List Int) (hI : ∀ x ∈ l, I64 x) (W0 : World) (hraw0 : SlR W0 (· < W0.heap.size) 1 RInt v l) (ht1 : I64 which) (ht2 : I64 where_) :
    Calls Tryz.prog 6 #[v, .int .i64 which, .int .i64 where_] W0 fun e w' => e = .returned (.bool true) ∧ Below W0.heap.size W0 w' := by
  obtain ⟨z0, hi0, hz0, hz1, hz2⟩ := info_parts info_string
  obtain ⟨za, ha0, ha1, ha2, ha3⟩ := info_parts info_arr
  obtain ⟨zf, hf0, hf1, hf2, hf3⟩ := info_parts info_func
  obtain ⟨Ar, cr, hv, _, _⟩ := hraw0.val
  subst hv
  have hraw := hraw0
  clear hraw0
  have HT1 := Lib.hid ht1
  have HT2 := Lib.hid ht2
  clear ht1 ht2
  go_enter Tryz.func6, Tryz.ntmps6
  go_upto_region 2 with (go_at_call 9; refine (awake5_any W0).mono ?_; rintro e W1 ⟨rfl, hb1⟩)
  have hraw1 : SlR W1 (· < W1.heap.size) 1 RInt (.slice Ar l.length cr) l := hb_slr hraw hb1
  have HPR := Lib.hid (prog_any l Ar cr W1 hraw1 hI)
  have HB1 := Lib.hid hb1
  clear hraw hraw1 hb1
  go_upto_region 3 with (go_at_call 11; refine HPR.out.mono ?_; intro e W2 hp; obtain ⟨p, A1, c1, g, c2, B1, B3, lo, css1, css, rfl, hb2, hlo, hB1, hin2, harr2, halt2⟩ := hp.inn2)
  refine wp_world ?_
  intro W hW
  have hb : Below W2.heap.size W2 W := by rw [← hW]; exact below1 _ _
  have hp : Blk W W2.heap.size 27 #[.slice A1 p.arrays.length c1, .slice (some ⟨g, 0, none⟩) p.funcs.length c2] := by rw [← hW]; exact Blk.new _ _ _
  have hB : Below W0.heap.size W0 W := HB1.out.trans ((hb2.trans (hb.mono hb2.size)).mono HB1.out.size)
  have hg2 := hin2.row.row.lt g rfl
  obtain ⟨pb, hpb⟩ : ∃ b, W2.heap.size = b := ⟨_, rfl⟩
  rw [hpb] at hp hg2 ⊢
  have hpos := hin2.gen.pos
  obtain ⟨na, hna⟩ : ∃ n, n = p.arrays.length := ⟨_, rfl⟩
  obtain ⟨nf, hnf⟩ : ∃ n, n = p.funcs.length := ⟨_, rfl⟩
  have hnf3 : nf ≤ 3 := by rw [hnf]; exact hin2.gen.few.1
  have hna2 : na ≤ 2 := by rw [hna]; exact hin2.gen.few.2
  have hnf0 : 0 < nf := by rw [hnf]; exact hpos
  have hbase : W0.heap.size ≤ lo ∧ W0.heap.size ≤ B1 := ⟨Nat.le_trans HB1.out.size (Nat.le_trans hB1 hlo), Nat.le_trans HB1.out.size hB1⟩
  have HIN0 : Hid (∀ X bw, Below W.heap.size W X → Blk X bw 33 #[.int .i64 0, .int .i64 0] → W.heap.size ≤ bw → TwIn W0 X p A1 c1 g c2 B1 B3 lo pb bw css1 css) := Lib.hid (fun X bw hX hbw hle => by
    have hWX : Below W2.heap.size W2 X := hb.trans (hX.mono hb.size)
    have hpl : pb < W.heap.size := hp.lt
    refine ⟨hin2.gen, hB.trans (hX.mono hB.size), hbase.2, hbase.1, hlo, hin2.low, ⟨hg2.2, by omega, hbw.lt⟩, harr2.below mono_arr hWX, halt2, ?_, hp.below hX hp.lt, hbw⟩
    exact hin2.row.below (mono_func 8) hWX (fun b hb => hb.2.1) (fun b hq => ⟨hq.1, by have := hq.2.1; omega, fun e => hq.2.2 (by rw [e]; rfl)⟩) (fun k e hk => hk.2.2 (by have e' : g = k := (by simpa [Value.ownBlock] using e); exact e'.symm)))
  have hAW : SlR W (· < W.heap.size) 2 RArr (.slice A1 p.arrays.length c1) p.arrays := hin2.arrs.imp (fun b hb3 => by have hb4 : b < lo := hb3; have := hin2.low; have := hp.lt; show b < W.heap.size; omega) (fun b hb3 => hb.block b (by have hb4 : b < lo := hb3; have := hin2.low; omega)) fun _ _ _ r => r
  have hFW : SlR W (· < W.heap.size) 4 (RFunc 8 W (· < W.heap.size)) (.slice (some ⟨g, 0, none⟩) p.funcs.length c2) p.funcs := by
    have h := hin2.row.slr (mono_func 8) (ok' := (· < pb)) (fun b hb => by rw [← hpb]; exact hb.2.1) (fun k e => by have e' : g = k := (by simpa [Value.ownBlock] using e); show k < pb; omega)
    have hpl : pb < W.heap.size := hp.lt
    have up : ∀ b, b < pb → b < W.heap.size := fun b hb => by omega
    have kp : Keeps (· < pb) W2 W := fun b hb3 => hb.block b (by rw [hpb]; exact hb3)
    exact h.imp up kp fun _ _ _ r => r.imp up kp
  have HNA := Lib.hid hna
  have HNF := Lib.hid hnf
  have HB := Lib.hid hB
  have HGN := Lib.hid hin2.gen
  rw [← hna] at hp hAW
  rw [← hnf] at hp hFW
  rw [← hna, ← hnf]
  have HP := Lib.hid hp
  have HA := Lib.hid hAW
  have HF := Lib.hid hFW
  have HPL : Hid (pb < W.heap.size) := Lib.hid hp.lt
  clear hW hb hp hB hin2 harr2 halt2 hb2 hlo hB1 hg2 hpb hna hnf hpos hbase hAW hFW HB1 HPR
  have hgl : ∃ n, n = na + nf := ⟨_, rfl⟩
  go_wp2
  go_loopw [9, 10] (fun v i wr => ∃ k : Nat, k ≤ na ∧ i = .int .i64 k ∧ NamesAt W wr v ((p.arrays.map (·.1)).take k)) (fun _ i _ => na - (RowKit.intOf i).toNat)
  case atStart => exact ⟨0, by omega, rfl, World.ownsRow_nil _ _ _ _, Below.refl _ _⟩
  case round =>
    obtain ⟨k, hk, rfl, hna⟩ := hrel
    obtain ⟨Av, cv, hv⟩ := own_form hna.row
    have htl := take_map_len (·.1) p.arrays k (by rw [← HNA.out]; exact hk)
    rw [htl] at hv
    subst hv
    have hbr := hna.below
    have hsz := hbr.size
    have p0 : wr.cell? ⟨pb, 0, none⟩ = some (.slice A1 na c1) := (HP.out.below hbr HPL.out).cell 0
    by_cases hlt : k < na
    · have d1 : decide ((k : Int) < (na : Int)) = true := decide_eq_true (by omega)
      have hk1 : (k : Int) < (na : Int) := by omega
      have hk2 : ¬ (k : Int) < 0 := by omega
      have hlp : k < p.arrays.length := by rw [← HNA.out]; exact hlt
      obtain ⟨b3, o3, c3, f3, _, _, hb3, q3⟩ := HA.out.form (by omega)
      obtain rfl : A1 = some ⟨b3, o3, none⟩ := by injection f3
      obtain ⟨cs, _, hcs, hcell⟩ := q3 k hlp
      obtain ⟨x, hx⟩ : ∃ x, x = p.arrays[k] := ⟨_, rfl⟩
      rw [← hx] at hcs
      obtain ⟨nm, sz⟩ := x
      subst hcs
      have hcw := hcell.keep (hbr.block b3 hb3)
      have i0 : wr.cell? ⟨b3, o3 + k * 2, none⟩ = some (.string nm) := by have h := hcw.at_ (j := 0) rfl; simpa using h
      have i1 : wr.cell? ⟨b3, o3 + k * 2 + 1, none⟩ = some (.int .i64 sz) := hcw.at_ (j := 1) rfl
      have hts := take_map_succ (·.1) p.arrays k hlp
      rw [← hx] at hts
      have HTS := Lib.hid hts
      have hown : wr.ownsRow W.heap.size 9 1 (.slice Av k cv) k (((p.arrays.map (·.1)).take k).map encT) := by have h := hna.row; rw [htl] at h; exact h
      have HNA2 := Lib.hid hna
      have HTL := Lib.hid htl
      clear f3 q3 hcell hcw hx hts htl hna hb3 hlp
      generalize hxs : ((p.arrays.map (·.1)).take k).map encT = xs at *
      have HXS := Lib.hid hxs
      clear hxs
      go_wp2_with (at_builtin; refine wpList_append_lies _ rfl (.tmp 28) (.tmp 35) _ rfl W.heap.size 9 z0 _ 1 16 Tryz.underlying47 hi0 hz0 hz1 hz2 rfl (by decide) _ _ _ rfl (hown.alloc _) ⟨wr.heap.size, 0, none⟩ 1 1 [.string nm] rfl rfl (World.news_of_block (cs := #[.string nm]) (t := 9) (fr := (0, 0)) (Blk.new _ _ _)) (by simp [Value.oneCell']) (by decide) (by unfold maxLen; omega) (by omega) (by simp; omega) (wr.heap.size + 1) (by simp) ?_; intro gq cq w1 hown1 hgrow hat hlt1)
      go_roundw
      case rel =>
        refine ⟨k + 1, by omega, by go_num, ?_⟩
        rw [HTS.out]
        exact namesAt_one HNA2.out HTL.out.symm HXS.out.symm hown1 hgrow
      case measure => simp [RowKit.intOf]; omega
    · have hkn : k = na := by omega
      have d1 : decide ((k : Int) < (na : Int)) = false := decide_eq_false (by omega)
      have htk : (p.arrays.map (·.1)).take k = p.arrays.map (·.1) := List.take_of_length_le (by simp; rw [← HNA.out]; omega)
      rw [htk] at hna
      have HNA2 := Lib.hid hna
      subst hkn
      clear htk hna hbr hsz htl
      obtain ⟨wo, hwo⟩ : ∃ wo, wo = wr := ⟨_, rfl⟩
      subst hwo
      go_wp2
      clear p0 hlt d1
      go_loopw [9, 11] (fun v i wr => ∃ j : Nat, j ≤ nf ∧ i = .int .i64 j ∧ NamesAt W wr v (p.arrays.map (·.1) ++ (p.funcs.map (·.name)).take j)) (fun _ i _ => nf - (RowKit.intOf i).toNat)
      case atStart =>
        refine ⟨0, by omega, rfl, ?_⟩
        rw [List.take_zero, List.append_nil]
        exact HNA2.out
      case round =>
        clear HNA2
        obtain ⟨j, hj, rfl, hna⟩ := hrel
        obtain ⟨Av2, cv2, hv⟩ := own_form hna.row
        have htl : (p.arrays.map (·.1) ++ (p.funcs.map (·.name)).take j).length = k + j := by rw [List.length_append, take_map_len (·.name) p.funcs j (by rw [← HNF.out]; exact hj), List.length_map, ← HNA.out]
        rw [htl] at hv
        subst hv
        have hbr := hna.below
        have hsz := hbr.size
        have p1 : wr.cell? ⟨pb, 1, none⟩ = some (.slice (some ⟨g, 0, none⟩) nf c2) := (HP.out.below hbr HPL.out).cell 1
        by_cases hlt : j < nf
        · have d1 : decide ((j : Int) < (nf : Int)) = true := decide_eq_true (by omega)
          have hk1 : (j : Int) < (nf : Int) := by omega
          have hk2 : ¬ (j : Int) < 0 := by omega
          have hlp : j < p.funcs.length := by rw [← HNF.out]; exact hlt
          obtain ⟨b3, o3, c3, f3, _, _, hb3, q3⟩ := HF.out.form (by omega)
          obtain ⟨rfl, rfl⟩ : g = b3 ∧ o3 = 0 := by injection f3 with f3 _ _; injection f3 with f3; injection f3 with f3 f4 _; exact ⟨f3, f4.symm⟩
          obtain ⟨cs, _, ⟨vp, vl, vb, hcs, hsp, hsl, hsb⟩, hcell⟩ := q3 j hlp
          obtain ⟨x, hx⟩ : ∃ x, x = p.funcs[j] := ⟨_, rfl⟩
          rw [← hx] at hcs hsp hsl hsb
          obtain ⟨nm, ps, ls, bs⟩ := x
          subst hcs
          have hcw := hcell.keep (hbr.block g hb3)
          have i0 : wr.cell? ⟨g, j * 4, none⟩ = some (.string nm) := by have h := hcw.at_ (j := 0) rfl; simpa using h
          have hts := take_map_succ (·.name) p.funcs j hlp
          rw [← hx] at hts
          have HTS := Lib.hid hts
          have hown : wr.ownsRow W.heap.size 9 1 (.slice Av2 (k + j) cv2) (k + j) ((p.arrays.map (·.1) ++ (p.funcs.map (·.name)).take j).map encT) := by have h := hna.row; rw [htl] at h; exact h
          have HNA2 := Lib.hid hna
          have HTL := Lib.hid htl
          clear f3 q3 hcell hcw hx hts htl hna hb3 hsp hsl hsb hlp
          generalize hxs : (p.arrays.map (·.1) ++ (p.funcs.map (·.name)).take j).map encT = xs at *
          have HXS := Lib.hid hxs
          clear hxs
          go_wp2_with (at_builtin; refine wpList_append_lies _ rfl (.tmp 44) (.tmp 51) _ rfl W.heap.size 9 z0 _ 1 16 Tryz.underlying47 hi0 hz0 hz1 hz2 rfl (by decide) _ _ _ rfl (hown.alloc _) ⟨wr.heap.size, 0, none⟩ 1 1 [.string nm] rfl rfl (World.news_of_block (cs := #[.string nm]) (t := 9) (fr := (0, 0)) (Blk.new _ _ _)) (by simp [Value.oneCell']) (by decide) (by unfold maxLen; omega) (by omega) (by simp; omega) (wr.heap.size + 1) (by simp) ?_; intro gq cq w1 hown1 hgrow hat hlt1)
          go_roundw
          case rel =>
            refine ⟨j + 1, by omega, by go_num, ?_⟩
            rw [HTS.out, ← List.append_assoc]
            exact namesAt_one HNA2.out HTL.out.symm HXS.out.symm hown1 hgrow
          case measure => simp [RowKit.intOf]; omega
        · have htk : p.arrays.map (·.1) ++ (p.funcs.map (·.name)).take j = globalsL p := by rw [List.take_of_length_le (by simp; rw [← HNF.out]; omega)]; rfl
          rw [htk] at hna
          have d1 : decide ((j : Int) < (nf : Int)) = false := decide_eq_false (by omega)
          have hlA : k + j = (globalsL p).length := by rw [← htl, htk]
          have hrow := hna.row
          rw [← hlA] at hrow
          obtain ⟨gn, cn, hvn, _, _, _⟩ := own_some hrow (by omega)
          injection hvn with hv1 _ hv2
          subst hv1 hv2
          obtain ⟨nn, hnn⟩ : ∃ n, n = k + j := ⟨_, rfl⟩
          rw [← hnn] at hrow hlA ⊢
          have hnn0 : 0 < nn := by omega
          have hnn9 : nn ≤ 5 := by omega
          obtain ⟨i, hi, -, hpi⟩ := pick5_n which HT1.out nn hnn0
          have hpk := hpi
          obtain ⟨q, hq, -, hpq⟩ := pick5_n where_ HT2.out (nf + 2) (by omega)
          rw [show ((nf + 2 : Nat) : Int) = (nf : Int) + 2 by omega] at hpq
          obtain ⟨s, hs⟩ : ∃ s, s = (globalsL p)[i]'(by omega) := ⟨_, rfl⟩
          have hsc : wr.cell? ⟨gn, i, none⟩ = some (.string s) := by rw [hs]; exact names_cell hrow (by omega)
          have HSM : Hid (s ∈ globalsL p) := Lib.hid (by rw [hs]; exact List.getElem_mem _)
          have HPI := Lib.hid hpi
          have HPQ := Lib.hid hpq
          have HBR := Lib.hid hbr
          have hi1 : (i : Int) < (nn : Int) := by omega
          have hi2 : ¬ (i : Int) < 0 := by omega
          clear htk hna hlA hrow hnn hpi hpk hpq hs hbr hsz htl
          go_upto_region 13 with (go_at_call 19; refine (HPI.out _).mono ?_; rintro e W4 ⟨rfl, hw⟩; subst hw)
          go_upto_region 14 with (go_at_call 19; refine (HPQ.out _).mono ?_; rintro e W4 ⟨rfl, hw⟩; subst hw)
          go_upto_region 15 with fail
          refine wp_world ?_
          intro X hX
          have hbX : Below W.heap.size W X := by rw [← hX]; exact HBR.out.alloc HBR.out.size _
          have hwt : Blk X wr.heap.size 33 #[.int .i64 0, .int .i64 0] := by rw [← hX]; exact Blk.new _ _ _
          have HTW := Lib.hid (HIN0.out X wr.heap.size hbX hwt HBR.out.size)
          obtain ⟨bw, hbw⟩ : ∃ b, wr.heap.size = b := ⟨_, rfl⟩
          rw [hbw] at HTW ⊢
          have HQN : Hid (q < nf + 2) := Lib.hid hq
          have p0 : X.cell? ⟨pb, 0, none⟩ = some (.slice A1 k c1) := by have h := HTW.out.prog.cell 0; rw [← HNA.out] at h; exact h
          have p1 : X.cell? ⟨pb, 1, none⟩ = some (.slice (some ⟨g, 0, none⟩) nf c2) := by have h := HTW.out.prog.cell 1; rw [← HNF.out] at h; exact h
          have z0' : X.frozen? ⟨pb, 0, none⟩ = false := HTW.out.prog.frozen 0
          have z1' : X.frozen? ⟨pb, 1, none⟩ = false := HTW.out.prog.frozen 1
          clear hX hbX hwt hbw hsc hi hi1 hi2 HPI HPQ HBR HIN0 HA HF HP hq hlt d1
          go_upto_block 4 with fail
          go_cut [] (fun wx => TwOut W0 wx pb bw)
          case first =>
            rcases (by have := HQN.out; omega : q < nf ∨ q = nf ∨ q = nf + 1) with hqc | hqc | hqc
            case inl =>
              have d1 : ((q : Int) == (nf : Int)) = false := beq_eq_false_iff_ne.2 (by omega)
              have d2 : ((q : Int) == (nf : Int) + 1) = false := beq_eq_false_iff_ne.2 (by omega)
              have hk1 : (q : Int) < (nf : Int) := by omega
              have hk2 : ¬ (q : Int) < 0 := by omega
              have hkl : q < p.funcs.length := by rw [← HNF.out]; exact hqc
              have hlen := HTW.out.row.len
              obtain ⟨vp, vl, vb, hcs, hpar, hloc, hbod⟩ := HTW.out.row.elems q (by omega) hkl
              obtain ⟨x, hx⟩ : ∃ x, x = p.funcs[q] := ⟨_, rfl⟩
              rw [← hx] at hcs hpar hloc hbod
              have hcell : ∀ (j : Nat) (hj : j < 4), X.cell? ⟨g, q * 4 + j, none⟩ = some ([Value.string x.name, vp, vl, vb][j]'(by simpa using hj)) := fun j hj => by
                have h := HTW.out.row.cell rfl (j := q) (i := j) (by omega) (by rw [hcs]; exact hj)
                simp only [hcs] at h
                exact h
              obtain ⟨Ap, cp, hvp, _, _⟩ := hpar.val
              obtain ⟨Al, cl, hvl, _, _⟩ := hloc.val
              obtain ⟨Ab, cb, hvb, _, _⟩ := hbod.val
              obtain ⟨nl, hnl⟩ : ∃ n, n = x.locals.length := ⟨_, rfl⟩
              obtain ⟨np, hnp⟩ : ∃ n, n = x.params.length := ⟨_, rfl⟩
              obtain ⟨nb, hnb⟩ : ∃ n, n = x.body.length := ⟨_, rfl⟩
              rw [← hnp] at hvp; rw [← hnl] at hvl; rw [← hnb] at hvb
              subst hvp hvl hvb
              have e0 : X.cell? ⟨g, q * 4, none⟩ = some (.string x.name) := hcell 0 (by omega)
              have e1 : X.cell? ⟨g, q * 4 + 1, none⟩ = some (.slice Ap np cp) := hcell 1 (by omega)
              have e2 : X.cell? ⟨g, q * 4 + 2, none⟩ = some (.slice Al nl cl) := hcell 2 (by omega)
              have e3 : X.cell? ⟨g, q * 4 + 3, none⟩ = some (.slice Ab nb cb) := hcell 3 (by omega)
              have hxm : x ∈ p.funcs := by rw [hx]; exact List.getElem_mem _
              have hnl9 : nl ≤ 5 := by rw [hnl]; exact (HGN.out.func 8 hxm).2.1
              have HPAR := Lib.hid hpar; have HLOC := Lib.hid hloc; have HBOD := Lib.hid hbod; have HX := Lib.hid hx; have HNL := Lib.hid hnl; have HKL := Lib.hid hkl
              have HOG : Hid (g < pb ∧ pb < bw ∧ bw < X.heap.size ∧ g ≠ bw) := Lib.hid ⟨HTW.out.ord.1, HTW.out.ord.2.1, HTW.out.ord.2.2, by have := HTW.out.ord; omega⟩
              clear hlen hcs hpar hloc hbod hx hcell hnl hnp hnb hxm
              go_upto_region 17 with fail
              refine wp_world ?_
              intro Wf hWf
              have hbf : Below X.heap.size X Wf := by rw [← hWf]; exact below1 _ _
              have hfb : Blk Wf X.heap.size 49 #[.string x.name, .slice Ap np cp, .slice Al nl cl, .slice Ab nb cb] := by rw [← hWf]; exact Blk.new _ _ _
              obtain ⟨gf, hgf⟩ : ∃ b, X.heap.size = b := ⟨_, rfl⟩
              rw [hgf] at hfb ⊢
              have hnw := news_strs (HLOC.out.imp (fun _ h => h) (fun b hb => hbf.block b (by have := HOG.out; omega)) (fun _ _ _ r => r)) HNL.out
              have HNW := Lib.hid hnw; have HBF := Lib.hid hbf; have HFB := Lib.hid hfb; have HGF := Lib.hid hgf
              have HLW : Hid (gf < Wf.heap.size) := Lib.hid hfb.lt
              have f2 := hfb.cell 2
              clear hWf hbf hfb hgf hnw e0 e1 e2 e3 p0 p1 z0' z1'
              go_upto_region 18 with (at_builtin; first | (refine wpList_append_any _ rfl (.const (.slice none 0 0)) (.tmp 74) _ rfl Wf.heap.size 9 z0 _ 1 16 Tryz.underlying47 hi0 hz0 hz1 hz2 rfl (by decide) (.slice none 0 0) 0 [] rfl (World.ownsRow_nil _ _ _ _) Al nl cl (x.locals.map Value.string) rfl HNW.out.1 HNW.out.2.1 HNW.out.2.2 (by unfold maxLen; omega) (by omega) (Nat.le_refl _) Wf.heap.size rfl ?_; intro v1 X1 hown1 hgrow1 hat1; obtain ⟨Av1, cv1, hv1⟩ := own_form hown1; subst hv1; obtain ⟨n1, hn1⟩ : ∃ n, n = 0 + nl := ⟨_, rfl⟩; rw [← hn1] at hown1 ⊢; have hn9 : n1 ≤ 5 := (by omega); have HN1 := Lib.hid hn1; have HO1 := Lib.hid (hown1.alloc (.cells #[.string s] 9)); have HG1 := Lib.hid hgrow1; have HZ1 : Hid (Wf.heap.size ≤ X1.heap.size) := Lib.hid hgrow1.size; clear hn1 hown1 hgrow1 hat1) | (refine wpList_append_any _ rfl (.tmp 75) (.tmp 77) _ rfl Wf.heap.size 9 z0 _ 1 16 Tryz.underlying47 hi0 hz0 hz1 hz2 rfl (by decide) (.slice Av1 n1 cv1) n1 ([] ++ x.locals.map Value.string) rfl HO1.out (some ⟨X1.heap.size, 0, none⟩) 1 1 [.string s] rfl rfl (Or.inr ⟨⟨X1.heap.size, 0, none⟩, rfl, World.news_of_block (cs := #[.string s]) (t := 9) (fr := (0, 0)) (Blk.new _ _ _)⟩) (by simp [Value.oneCell']) (by unfold maxLen; omega) (by omega) (by have := HZ1.out; simp; omega) (X1.heap.size + 1) (by simp) ?_; intro v2 X2 hown2 hgrow2 hat2; obtain ⟨Av2_, cv2_, hv2⟩ := own_form hown2; subst hv2; have HO2 := Lib.hid hown2; have HG2 := Lib.hid hgrow2; have hX2 := tw_two HBF.out HG1.out HO1.out HG2.out; have HX2 := Lib.hid hX2; have hfx := HFB.out.keep (hX2.2 gf HLW.out); have HFX := Lib.hid hfx; have k2 := hfx.cell 2; have y2 := hfx.frozen 2; clear hown2 hgrow2 hat2 hX2 hfx))
              refine wp_world ?_
              intro Ws hWs
              have hgfl : X.heap.size ≤ gf := Nat.le_of_eq HGF.out
              have hbs : Below X.heap.size X Ws := by rw [← hWs]; exact HX2.out.1.setCell (p := ⟨gf, 2, none⟩) hgfl _
              have hfs : Blk Ws gf 49 #[.string x.name, .slice Ap np cp, .slice Av2_ (n1 + 1) cv2_, .slice Ab nb cb] := by rw [← hWs]; exact HFX.out.set_ 2 _
              have hrow : Ws.ownsRow Wf.heap.size 9 1 (.slice Av2_ (n1 + 1) cv2_) (n1 + 1) ((x.locals ++ [s]).map encT) := by
                have h := HO2.out.kept (grown_set X2 ⟨gf, 2, none⟩ (.slice Av2_ (n1 + 1) cv2_)) (by
                  cases e : (.slice Av2_ (n1 + 1) cv2_ : Value).ownBlock with
                  | none => exact .inl rfl
                  | some q => exact .inr (fun e2 => by have h3 := (HO2.out.lt q e).1; have h4 := Option.some.inj e2; have h5 := HLW.out; have h6 : q = gf := h4; omega))
                rw [hWs] at h
                rw [List.map_append]
                exact h
              have hts := HTW.out.below hbs
              have p1 : Ws.cell? ⟨pb, 1, none⟩ = some (.slice (some ⟨g, 0, none⟩) nf c2) := by have h := hts.prog.cell 1; rw [← HNF.out] at h; exact h
              have q0 : Ws.frozen? ⟨g, q * 4, none⟩ = false := hts.row.frozen rfl _
              have q1 : Ws.frozen? ⟨g, q * 4 + 1, none⟩ = false := hts.row.frozen rfl _
              have q2 : Ws.frozen? ⟨g, q * 4 + 2, none⟩ = false := hts.row.frozen rfl _
              have q3 : Ws.frozen? ⟨g, q * 4 + 3, none⟩ = false := hts.row.frozen rfl _
              have hcx : ∀ j, j < 4 → ∃ u, Ws.cell? ⟨g, q * 4 + j, none⟩ = some u := fun j hj => own_cell hts.row.row _ (by have := HKL.out; omega)
              obtain ⟨u0_, e0⟩ := hcx 0 (by omega)
              obtain ⟨u1_, e1⟩ := hcx 1 (by omega)
              obtain ⟨u2_, e2⟩ := hcx 2 (by omega)
              obtain ⟨u3_, e3⟩ := hcx 3 (by omega)
              have e0' : Ws.cell? ⟨g, q * 4, none⟩ = some u0_ := e0
              have f0 := hfs.cell 0
              have f1 := hfs.cell 1
              have f2 := hfs.cell 2
              have f3 := hfs.cell 3
              have w0 := hts.want.cell 0; have y0 := hts.want.frozen 0
              have w1 := hts.want.cell 1; have y1 := hts.want.frozen 1
              have HRW := Lib.hid hrow; have HBS := Lib.hid hbs
              have HBSE : Hid (X.heap.size ≤ Wf.heap.size) := Lib.hid HBF.out.size
              have hne1 : g ≠ bw := HOG.out.2.2.2; have hne2 : bw ≠ g := fun e => hne1 e.symm; have hne3 : gf ≠ g := by have := HOG.out; omega
              have hne4 : pb ≠ g := by have := HOG.out; omega
              clear hWs hfs hrow hts hcx e0 hgfl hbs k2 y2
              go_wp2
              go_meet
              case rel =>
                have hh := tw_loc (Y := Ws) HTW.out HBS.out HSM.out HKL.out (by have h := HPAR.out; rw [HX.out] at h; exact h) (by have h := HBOD.out; rw [HX.out] at h; exact h) (by have h := HRW.out; rw [HX.out] at h; exact h) HBSE.out
                rw [← HX.out] at hh
                exact hh
            case inr.inl =>
              have d1 : ((q : Int) == (nf : Int)) = true := beq_iff_eq.2 (by omega)
              have hown := HTW.out.arr.row
              rw [← HNA.out] at hown
              clear hqc HGN
              have HBL : Hid (B1 ≤ X.heap.size) := Lib.hid HTW.out.b1x
              go_wp2_with (at_builtin; refine wpList_append_lies _ rfl (.tmp 93) (.tmp 96) _ rfl B1 53 za _ 2 24 Tryz.underlying24 ha0 ha1 ha2 ha3 rfl (by decide) (.slice A1 k c1) k css1.flatten rfl (hown.alloc _) ⟨X.heap.size, 0, none⟩ 1 1 [.string s, .int .i64 1] rfl rfl (World.news_of_block (cs := #[.string s, .int .i64 1]) (t := 53) (fr := (0, 0)) (Blk.new _ _ _)) (by simp [Value.oneCell']) (by decide) (by unfold maxLen; omega) (by omega) (by simp; have := HBL.out; omega) (X.heap.size + 1) (by simp) ?_; intro gq cq w1 hown1 hgrow hat hlt1; have HO1 := Lib.hid hown1; have HGW := Lib.hid hgrow; have HAT := Lib.hid hat; have pz : w1.frozen? ⟨pb, 0, none⟩ = false := (tw_keep HTW.out (below1 X _) hgrow HNA.out).1; have pc : w1.cell? ⟨pb, 0, none⟩ = some (.slice A1 k c1) := by have h := (tw_keep HTW.out (below1 X _) hgrow HNA.out).2; rw [← HNA.out] at h; exact h)
              go_meet
              case rel => exact tw_arr HTW.out (below1 X _) HSM.out HNA.out HO1.out HGW.out (by rcases HAT.out with h | h; exact .inl h; exact .inr (by rw [h]; simp))
            case inr.inr =>
              have d1 : ((q : Int) == (nf : Int)) = false := beq_eq_false_iff_ne.2 (by omega)
              have d2 : ((q : Int) == (nf : Int) + 1) = true := beq_iff_eq.2 (by omega)
              have hown := HTW.out.row.row
              rw [← HNF.out] at hown
              clear hqc HGN
              have HBL : Hid (B3 ≤ X.heap.size) := Lib.hid (by have h1 := (HTW.out.row.row.lt g rfl).1; have h2 := HTW.out.ord; omega)
              go_wp2_with (at_builtin; refine wpList_append_lies _ rfl (.tmp 106) (.tmp 109) _ rfl B3 49 zf _ 4 88 Tryz.underlying25 hf0 hf1 hf2 hf3 rfl (by decide) (.slice (some ⟨g, 0, none⟩) nf c2) nf css.flatten rfl (hown.alloc _) ⟨X.heap.size, 0, none⟩ 1 1 [.string s, .slice none 0 0, .slice none 0 0, .slice none 0 0] rfl rfl (World.news_of_block (cs := #[.string s, .slice none 0 0, .slice none 0 0, .slice none 0 0]) (t := 49) (fr := (0, 0)) (Blk.new _ _ _)) (by simp [Value.oneCell']) (by decide) (by unfold maxLen; omega) (by omega) (by simp; have := HBL.out; omega) (X.heap.size + 1) (by simp) ?_; intro gq cq w1 hown1 hgrow hat hlt1; have HO1 := Lib.hid hown1; have HGW := Lib.hid hgrow; have HAT := Lib.hid hat; have pz : w1.frozen? ⟨pb, 1, none⟩ = false := (tw_keepf HTW.out (below1 X _) hgrow).1; have pc : w1.cell? ⟨pb, 1, none⟩ = some (.slice (some ⟨g, 0, none⟩) nf c2) := by have h := (tw_keepf HTW.out (below1 X _) hgrow).2; rw [← HNF.out] at h; exact h)
              go_meet
              case rel => exact tw_fun HTW.out (below1 X _) HSM.out HNF.out HO1.out HGW.out (by rcases HAT.out with h | h; exact .inl h; exact .inr (by rw [h]; simp))
          case rest =>
            obtain ⟨qq, kk, Aq, Af, cq, cf, hB, hp, hw, ha, hf, hfew, hck⟩ := hcut
            obtain ⟨n1, hn1⟩ : ∃ n, n = qq.arrays.length := ⟨_, rfl⟩
            obtain ⟨n2, hn2⟩ : ∃ n, n = qq.funcs.length := ⟨_, rfl⟩
            rw [← hn1, ← hn2] at hp
            have hc : Calls Tryz.prog 13 #[.agg #[.slice Aq n1 cq, .slice Af n2 cf]] wc fun r w' => r = .returned (.tuple #[.int .i64 50, .agg #[.int .i64 kk, .int .i64 0]]) ∧ Below wc.heap.size wc w' := by
              have h := check_any 7 qq Aq Af cq cf wc ha hf hfew
              rw [hck, ← hn1, ← hn2] at h
              exact h
            have HCK := Lib.hid hc
            have HWT := Lib.hid hw
            have HBX := Lib.hid hB
            have p0 := hp.cell 0
            have p1 := hp.cell 1
            clear hB hp hw ha hf hfew hck hc hn1 hn2
            go_upto_region 25 with (go_at_call 13; refine HCK.out.mono ?_; rintro e w5 ⟨rfl, hb5⟩)
            refine wp_world ?_
            intro W7 hW7
            have hb7 : Below wc.heap.size wc W7 := by rw [← hW7]; exact hb5.alloc hb5.size _
            have hT7 : Blk W7 w5.heap.size 33 #[.int .i64 kk, .int .i64 0] := by rw [← hW7]; exact Blk.new w5 _ _
            have t0 := hT7.cell 0
            have t1 := hT7.cell 1
            have hw7 := HWT.out.below hb7 HWT.out.lt
            have w0 := hw7.cell 0
            have w1 := hw7.cell 1
            have HB7 := Lib.hid hb7
            obtain ⟨tb, htb⟩ : ∃ b, w5.heap.size = b := ⟨_, rfl⟩
            rw [htb] at t0 t1 ⊢
            clear hW7 hb7 hb5 hT7 hw7 p0 p1 htb
            refine wp_region_lit ?_
            refine takeP 117 (.bool true) rfl (by kernel_rfl) (by go_simp) ?_
            simp only [sA, sB, sC]
            refine takeP 118 (.bool true) rfl (by kernel_rfl) (by go_simp) ?_
            simp only [sA, sB, sC]
            refine takeP 119 (.int .i64 50) rfl (by kernel_rfl) (by go_simp) ?_
            simp only [sA, sB, sC]
            refine takeP 120 (.bool true) rfl (by kernel_rfl) (by go_simp) ?_
            simp only [sA, sB, sC]
            refine takeP 121 (.bool true) rfl (by kernel_rfl) (by go_simp) ?_
            simp only [sA, sB, sC]
            refine takeP 122 (.bool true) rfl (by kernel_rfl) (by go_simp) ?_
            simp only [sA, sB, sC]
            refine takeP 123 (.agg #[.int .i64 kk, .int .i64 0]) rfl (by kernel_rfl) (by go_simp) ?_
            simp only [sA, sB, sC]
            refine takeP 124 (.agg #[.int .i64 kk, .int .i64 0]) rfl (by kernel_rfl) (by go_simp) ?_
            simp only [sA, sB, sC]
            refine takeP 125 (.bool true) rfl (by kernel_rfl) (by have heq := eqt kk 0 W7; go_simp) ?_
            simp only [sA, sB, sC]
            refine takeP 126 (.bool true) rfl (by kernel_rfl) (by go_simp) ?_
            simp only [sA, sB, sC]
            refine takeP 6 (.bool true) rfl (by kernel_rfl) (by go_simp) ?_
            simp only [sA, sB, sC]
            refine wpList_nil ?_
            go_wp2
            go_ret
            exact ⟨rfl, HBX.out.trans (HB7.out.mono HBX.out.size)⟩
end Go.Proofs.YtmignlclfbaifaaGreat
