/- The generator's calls: (scope).call, where the scope is not free. Printed by wip/gen_trcall.py. -/
import Derived.Test.YtmignlclfbaifaaGreatTrArgs
namespace Go.Proofs.YtmignlclfbaifaaGreat
open Go.RowKit

theorem made_call {c : Scp} {m : Nat} (hm : 2 ≤ m) (hk : ScOk c) {s : ByteArray} {l : List LExpr} (hs : (s, l.length) ∈ c.funs) (hl : ∀ x ∈ l, madeE c (m - 1) x) : madeE c m ⟨5, 0, 0, s, l⟩ := by
  obtain ⟨m, rfl⟩ : ∃ q, m = q + 1 := ⟨m - 1, by omega⟩
  refine ⟨?_, fun h => absurd (show (5 : Int) = 2 from h) (by decide), fun h => absurd (show (5 : Int) = 6 from h) (by decide), fun _ => hs, hl⟩
  have h := hk.funs _ hs
  show (nameB s && decide ((0 : Int) = 0) && decide ((0 : Int) = 0) && decide (l.length ≤ 6)) = true
  rw [h.1, decide_eq_true h.2]; rfl
theorem four_src {X : World} {sb g : Nat} {a b c d : Value} (h : SrcAt X sb) (hg : sb < g) : SrcAt ((((X.setCell ⟨g, 0, none⟩ a).setCell ⟨g, 1, none⟩ b).setCell ⟨g, 2, none⟩ c).setCell ⟨g, 3, none⟩ d) sb :=
  have f : ∀ {X : World} (i : Nat) (u : Value), SrcAt X sb → SrcAt (X.setCell ⟨g, i, none⟩ u) sb := fun i u h => h.keep fun b hb => Below.heap_setCell _ ⟨g, i, none⟩ u b (by show b ≠ g; omega)
  f 3 d (f 2 c (f 1 b (f 0 a h)))
section
set_option maxRecDepth 100000
set_option maxHeartbeats 4000000

theorem call_step (m : Nat) (hm : 2 ≤ m) (hm2 : m ≤ 1000) (hX : ExprAt (m - 1)) : CallAt m := by
  intro w sb c Av Aa Af cv ca cf loop hs hc hk
  have HSB := Lib.hid hs.lt
  have HOK := Lib.hid hk
  obtain ⟨zi, hj0, hj1, hj2, hj3⟩ := info_parts info_expr
  obtain ⟨nv, hnv⟩ : ∃ n, n = c.vars.length := ⟨_, rfl⟩
  obtain ⟨na, hna⟩ : ∃ n, n = c.arrs.length := ⟨_, rfl⟩
  obtain ⟨nf, hnf⟩ : ∃ n, n = c.funs.length := ⟨_, rfl⟩
  have HSS := Lib.hid hs
  have lf : nf ≤ 400 := hnf ▸ hk.lf
  have lp : 0 < nf := hnf ▸ hk.fpos
  have em : ((m - 1 : Nat) : Int) = (m : Int) - 1 := by omega
  obtain ⟨b, off, cf', hform, _, hlm, hbl, hel⟩ := hc.funs.form hk.fpos
  obtain ⟨rfl, rfl⟩ : Af = some ⟨b, off, none⟩ ∧ cf = cf' := by injection hform with h1 _ h2; exact ⟨h1, h2⟩
  have HEL : Hid (∀ (k : Nat), k < nf → ∃ (nm : ByteArray) (n : Nat) (Ap : Option Addr) (cp : Nat), (nm, n) ∈ c.funs ∧ ∀ X : World, w.grownBy X (some sb) → X.cell? ⟨b, off + k * 4, none⟩ = some (.string nm) ∧ X.cell? ⟨b, off + k * 4 + 1, none⟩ = some (.slice Ap n cp) ∧ X.cell? ⟨b, off + k * 4 + 2, none⟩ = some (.slice none 0 0) ∧ X.cell? ⟨b, off + k * 4 + 3, none⟩ = some (.slice none 0 0)) := Lib.hid (fun k hk2 => by
    have hk3 : k < c.funs.length := hnf ▸ hk2
    obtain ⟨cs, _, ⟨Ap, cp, hcs⟩, hcell⟩ := hel k hk3
    subst hcs
    refine ⟨c.funs[k].1, c.funs[k].2, Ap, cp, List.getElem_mem _, fun X hX => ?_⟩
    have hq := hcell.keep (hX.block b hbl.1 (fun e => hbl.2 (Option.some.inj e)))
    exact ⟨by simpa using hq.at_ (j := 0) rfl, hq.at_ (j := 1) rfl, hq.at_ (j := 2) rfl, hq.at_ (j := 3) rfl⟩)
  have HX : Hid (∀ X, w.grownBy X (some sb) → SrcAt X sb → Calls Tryz.prog 24 #[.agg #[.slice Av nv cv, .slice Aa na ca, .slice (some ⟨b, off, none⟩) nf cf, .bool false, .bool loop], .pointer (some ⟨sb, 0, none⟩), .int .i64 ((m : Int) - 1)] X (ExprPost X sb c (m - 1))) := Lib.hid (fun X hg hsx => by
    have h := hX X sb c Av Aa (some ⟨b, off, none⟩) cv ca cf loop hsx (hc.grown hg) hk
    rw [em, ← hnv, ← hna, ← hnf] at h
    exact h)
  rw [← hnv, ← hna, ← hnf]
  clear hs hc hk hX hnv hna hnf em hform hlm hbl hel
  go_enter Tryz.func41, Tryz.ntmps41
  go_upto_region 1 with fail
  refine wp_world ?_
  intro Wa hWa
  have hst : StE w sb Wa nv na nf Av Aa (some ⟨b, off, none⟩) cv ca cf loop := by
    rw [← hWa]
    exact ⟨grown_below' (below2 _ _ _), HSS.out.below (below2 _ _ _), (Blk.new _ _ _).alloc _, Blk.new_at _ _ _ (by simp), by simp, HSB.out⟩
  have hsz0 : Wa.heap.size = w.heap.size + 2 := by rw [← hWa]; simp
  clear hWa
  have HSZ0 := Lib.hid hsz0
  have hlt0 : w.heap.size < Wa.heap.size := by omega
  clear hsz0
  have HSA := Lib.hid hst
  have ab3 : Wa.cell? ⟨w.heap.size, 3, none⟩ = some (.bool false) := hst.box.cell 3
  have ab2 : Wa.cell? ⟨w.heap.size, 2, none⟩ = some (.slice (some ⟨b, off, none⟩) nf cf) := hst.box.cell 2
  have HSCB : Hid (Blk Wa w.heap.size 61 #[.slice Av nv cv, .slice Aa na ca, .slice (some ⟨b, off, none⟩) nf cf, .bool false, .bool loop]) := Lib.hid hst.box
  have HXW : Hid (∀ X, Wa.grownBy X (some sb) → SrcAt X sb → Calls Tryz.prog 24 #[.agg #[.slice Av nv cv, .slice Aa na ca, .slice (some ⟨b, off, none⟩) nf cf, .bool false, .bool loop], .pointer (some ⟨sb, 0, none⟩), .int .i64 ((m : Int) - 1)] X (ExprPost X sb c (m - 1))) := Lib.hid (fun X hg hsx => HX.out X (HSA.out.g.trans hg) hsx)
  clear hst
  go_upto_region 6 with fail
  refine wp_world ?_
  intro W hW
  have hst : StE w sb W nv na nf Av Aa (some ⟨b, off, none⟩) cv ca cf loop := by rw [← hW]; exact HSA.out.below (below1 _ _)
  obtain ⟨ge, hge⟩ : ∃ ge, Wa.heap.size = ge := ⟨_, rfl⟩
  have hbx : Blk W ge 42 #[.int .i64 5, .int .i64 0, .int .i64 0, .string ⟨#[]⟩, .slice none 0 0] := by rw [← hW, ← hge]; exact Blk.new_at _ _ _ (by simp)
  have hsz : W.heap.size = w.heap.size + 3 := by have := HSZ0.out; rw [← hW]; simp; omega
  have HGA : Hid (Wa.grownBy W (some sb)) := Lib.hid (by rw [← hW]; exact World.grownBy_alloc _ _ _)
  have hge2 : ge = w.heap.size + 2 := hge.symm.trans HSZ0.out
  rw [hge]
  have HGE := Lib.hid hge2
  have HG2 := Lib.hid hge
  clear hW hge hge2 ab2 ab3
  have HST := Lib.hid hst
  have HBX := Lib.hid hbx
  have HSZ := Lib.hid hsz
  have HFC : Hid (∀ X, W.grownBy X (some sb) → X.cell? ⟨w.heap.size, 2, none⟩ = some (.slice (some ⟨b, off, none⟩) nf cf)) := Lib.hid (fun X hX => (HST.out.box.grown hX (fun e => by have := Option.some.inj e; have := HSB.out; omega)).cell 2)
  have HGW : Hid (w.grownBy W (some sb)) := Lib.hid HST.out.g
  have HG0 : Hid (W.grownBy W.drew (some sb)) := Lib.hid (grown_below' (Below.refl _ _).drew)
  have HSR0 : Hid (SrcAt W.drew sb) := Lib.hid (HST.out.src.below (Below.refl _ _).drew)
  clear hst hbx
  go_cut [9] (fun s wx => ∃ (gf n : Nat) (nm : ByteArray) (Ap : Option Addr) (cp : Nat), s = .pointer (some ⟨gf, 0, none⟩) ∧ (nm, n) ∈ c.funs ∧ W.grownBy wx (some sb) ∧ SrcAt wx sb ∧ Blk wx gf 49 #[.string nm, .slice Ap n cp, .slice none 0 0, .slice none 0 0] ∧ W.heap.size ≤ gf)
  case first =>
    refine wp_region_L (by kernel_rfl) 10 (fun X => W.grownBy X (some sb)) (HG0.out) (fun hHeld => ?_)
    have HS0 := Lib.hid hHeld
    clear hHeld
    change wpAnyL _ _ _ _ _ 10 11 (Array.replicate 11 false) _ _
    obtain ⟨X0, hX0⟩ : ∃ X0, W.drew = X0 := ⟨_, rfl⟩
    rw [hX0] at HG0 HS0 HSR0 ⊢
    clear hX0
    refine tj 0 26 (.pointer (some ⟨w.heap.size, 2, none⟩)) HS0.out rfl rfl ?_
    try simp only [sA, sB, sC]
    refine tS 1 27 (.slice (some ⟨b, off, none⟩) nf cf) [10] HS0.out rfl rfl ?_ ?_
    · intro w2 hSw; obtain ⟨⟩ := True.intro; have gg := HFC.out w2 hSw; have hSw := hSw; go_simp
    try simp only [sA, sB, sC]
    refine tj 2 28 (.pointer (some ⟨sb, 0, none⟩)) HS0.out rfl rfl ?_
    try simp only [sA, sB, sC]
    refine tj 3 29 (.pointer (some ⟨w.heap.size, 2, none⟩)) HS0.out rfl rfl ?_
    try simp only [sA, sB, sC]
    refine tS 4 30 (.slice (some ⟨b, off, none⟩) nf cf) [10] HS0.out rfl rfl ?_ ?_
    · intro w2 hSw; obtain ⟨⟩ := True.intro; have gg := HFC.out w2 hSw; have hSw := hSw; go_simp
    try simp only [sA, sB, sC]
    refine tj 5 31 (.int .i64 (nf : Int)) HS0.out rfl rfl ?_
    try simp only [sA, sB, sC]
    refine wpAnyL_ready (rs := [6, 9]) (by kernel_rfl) (by simp) ?_
    refine AllReadyL.cons rfl (fun K hK => ?_) (AllReadyL.cons rfl (fun K hK => ?_) AllReadyL.nil)
    · go_simp
      refine (next_any X0 sb nf lp HSR0.out).mono ?_
      rintro e X1 ⟨⟨k, hk, rfl⟩, hs, hg⟩
      have HG1 : Hid (W.grownBy X1 (some sb)) := Lib.hid (HG0.out.trans hg)
      have HSR1 := Lib.hid hs
      obtain ⟨nm, n, Ap, cp, hmem, hkk⟩ := HEL.out k hk
      have HK := Lib.hid hkk
      have HMEM := Lib.hid hmem
      refine hK.out _ _ (HG1.out) (fun hHeld => ?_)
      have HS1 := Lib.hid hHeld
      clear hK K hHeld
      try simp only [sA, sB, sC]
      clear hs hg hkk hmem
      refine tj 7 33 (.pointer (some ⟨b, off + k * 4, none⟩)) HS1.out rfl rfl ?_
      try simp only [sA, sB, sC]
      refine tS 8 34 (.agg #[.string nm, .slice Ap n cp, .slice none 0 0, .slice none 0 0]) [10] HS1.out rfl rfl ?_ ?_
      · intro w2 hSw; obtain ⟨⟩ := True.intro; obtain ⟨q0, q1, q2, q3⟩ := HK.out w2 (HGW.out.trans hSw); have hSw := hSw; go_simp
      try simp only [sA, sB, sC]
      refine wpAnyL_ready (rs := [9]) (by kernel_rfl) (by simp) ?_
      refine AllReadyL.cons rfl (fun K hK => ?_) AllReadyL.nil
      go_simp
      refine hK.out _ _ ((HG1.out.trans (World.grownBy_alloc _ _ _))) (fun hHeld => ?_)
      have HS2 := Lib.hid hHeld
      clear hK K hHeld
      try simp only [sA, sB, sC]
      refine wpAnyL_ready (rs := [10]) (by kernel_rfl) (by simp) ?_
      refine AllReadyL.last rfl (by kernel_rfl) (fun K hK => ?_)
      go_simp
      refine hK.out _ _ ?_
      clear hK K
      try simp only [sA, sB, sC]
      refine wpAnyL_done (by kernel_rfl) ?_ _
      have hsz1 : W.heap.size ≤ X1.heap.size := HG1.out.size
      go_wp2
      go_meet
      case rel => exact ⟨X1.heap.size, n, nm, Ap, cp, rfl, HMEM.out, HG1.out.trans (World.grownBy_alloc _ _ _), HSR1.out.below (below1 _ _), Blk.new _ _ _, hsz1⟩
    · go_simp
      obtain ⟨X1, hXX⟩ : ∃ X, X0.alloc (.cells #[.string ⟨#[]⟩, .slice none 0 0, .slice none 0 0, .slice none 0 0] 49) = X := ⟨_, rfl⟩
      rw [hXX]
      have HG1 : Hid (W.grownBy X1 (some sb)) := Lib.hid (by rw [← hXX]; exact HG0.out.trans (World.grownBy_alloc _ _ _))
      have HSR1 : Hid (SrcAt X1 sb) := Lib.hid (by rw [← hXX]; exact HSR0.out.below (below1 _ _))
      have HZ1 : Hid (Blk X1 X0.heap.size 49 #[.string ⟨#[]⟩, .slice none 0 0, .slice none 0 0, .slice none 0 0]) := Lib.hid (by rw [← hXX]; exact Blk.new_at _ _ _ rfl)
      clear hXX
      refine hK.out _ _ (HG1.out) (fun hHeld => ?_)
      have HS1 := Lib.hid hHeld
      clear hK K hHeld
      try simp only [sA, sB, sC]
      refine wpAnyL_ready (rs := [6]) (by kernel_rfl) (by simp) ?_
      refine AllReadyL.cons rfl (fun K hK => ?_) AllReadyL.nil
      go_simp
      refine (next_any X1 sb nf lp HSR1.out).mono ?_
      rintro e X2 ⟨⟨k, hk, rfl⟩, hs, hg⟩
      have HG2 : Hid (W.grownBy X2 (some sb)) := Lib.hid (HG1.out.trans hg)
      have HSR2 := Lib.hid hs
      obtain ⟨nm, n, Ap, cp, hmem, hkk⟩ := HEL.out k hk
      have HK := Lib.hid hkk
      have HMEM := Lib.hid hmem
      have HZ2 := Lib.hid (HZ1.out.grown hg (fun e => by have := Option.some.inj e; have := HSB.out; have := HG0.out.size; have := HSZ.out; omega))
      refine hK.out _ _ (HG2.out) (fun hHeld => ?_)
      have HS2 := Lib.hid hHeld
      clear hK K hHeld
      try simp only [sA, sB, sC]
      clear hs hg hkk hmem
      refine tj 7 33 (.pointer (some ⟨b, off + k * 4, none⟩)) HS2.out rfl rfl ?_
      try simp only [sA, sB, sC]
      refine tS 8 34 (.agg #[.string nm, .slice Ap n cp, .slice none 0 0, .slice none 0 0]) [10] HS2.out rfl rfl ?_ ?_
      · intro w2 hSw; obtain ⟨⟩ := True.intro; obtain ⟨q0, q1, q2, q3⟩ := HK.out w2 (HGW.out.trans hSw); have hSw := hSw; go_simp
      try simp only [sA, sB, sC]
      refine wpAnyL_ready (rs := [10]) (by kernel_rfl) (by simp) ?_
      refine AllReadyL.last rfl (by kernel_rfl) (fun K hK => ?_)
      have z0 : X2.cell? ⟨X0.heap.size, 0, none⟩ = some (.string ⟨#[]⟩) := HZ2.out.cell 0
      have z1 : X2.cell? ⟨X0.heap.size, 1, none⟩ = some (.slice none 0 0) := HZ2.out.cell 1
      have z2 : X2.cell? ⟨X0.heap.size, 2, none⟩ = some (.slice none 0 0) := HZ2.out.cell 2
      have z3 : X2.cell? ⟨X0.heap.size, 3, none⟩ = some (.slice none 0 0) := HZ2.out.cell 3
      have y0 : X2.frozen? ⟨X0.heap.size, 0, none⟩ = false := HZ2.out.frozen 0
      have y1 : X2.frozen? ⟨X0.heap.size, 1, none⟩ = false := HZ2.out.frozen 1
      have y2 : X2.frozen? ⟨X0.heap.size, 2, none⟩ = false := HZ2.out.frozen 2
      have y3 : X2.frozen? ⟨X0.heap.size, 3, none⟩ = false := HZ2.out.frozen 3
      go_simp
      refine hK.out _ _ ?_
      clear hK K
      try simp only [sA, sB, sC]
      refine wpAnyL_done (by kernel_rfl) ?_ _
      have hsz0 : W.heap.size ≤ X0.heap.size := HG0.out.size
      have hsz1 : sb < X0.heap.size := by have := HSB.out; have := HSZ.out; omega
      go_wp2
      go_meet
      case rel => exact ⟨X0.heap.size, n, nm, Ap, cp, rfl, HMEM.out, grown_own (grown_own (grown_own (grown_own HG2.out _ hsz0 _ _) _ hsz0 _ _) _ hsz0 _ _) _ hsz0 _ _, four_src HSR2.out hsz1, (((HZ2.out.set_ 0 _).set_ 1 _).set_ 2 _).set_ 3 _, hsz0⟩
  case rest =>
    obtain ⟨gf, n, nm, Ap, cp, rfl, hmem, hgc, hsc, hfb, hgl⟩ := hcut
    have f0 : wc.cell? ⟨gf, 0, none⟩ = some (.string nm) := hfb.cell 0
    have f1 : wc.cell? ⟨gf, 1, none⟩ = some (.slice Ap n cp) := hfb.cell 1
    have hn6 : n ≤ 6 := (HOK.out.funs _ hmem).2
    have hne : gf ≠ ge := by have := HGE.out; have := HSZ.out; omega
    have hne2 : ge ≠ gf := fun e => hne e.symm
    have hbe := HBX.out.grown hgc (fun e => by have := Option.some.inj e; have := HSB.out; have := HGE.out; omega)
    have e0 : wc.cell? ⟨ge, 0, none⟩ = some (.int .i64 5) := hbe.cell 0
    have e1 : wc.cell? ⟨ge, 1, none⟩ = some (.int .i64 0) := hbe.cell 1
    have e2 : wc.cell? ⟨ge, 2, none⟩ = some (.int .i64 0) := hbe.cell 2
    have e3 : wc.cell? ⟨ge, 3, none⟩ = some (.string ⟨#[]⟩) := hbe.cell 3
    have e4 : wc.cell? ⟨ge, 4, none⟩ = some (.slice none 0 0) := hbe.cell 4
    have z0 : wc.frozen? ⟨ge, 0, none⟩ = false := hbe.frozen 0
    have z1 : wc.frozen? ⟨ge, 1, none⟩ = false := hbe.frozen 1
    have z2 : wc.frozen? ⟨ge, 2, none⟩ = false := hbe.frozen 2
    have z3 : wc.frozen? ⟨ge, 3, none⟩ = false := hbe.frozen 3
    have z4 : wc.frozen? ⟨ge, 4, none⟩ = false := hbe.frozen 4
    have hb0 : BoxS Wa sb wc (ge + 1) ge 42 #[.int .i64 5, .int .i64 0, .int .i64 0, .string ⟨#[]⟩, .slice none 0 0] m (madeE c (m - 1)) (.slice none 0 0) [] :=
      ⟨HGA.out.trans hgc, hsc, hbe, Nat.le_of_eq HG2.out, Nat.lt_succ_self _, by have := HGE.out; have := HSZ.out; have := hgc.size; omega, ⟨[], OwnL.nil_ _ _ _ _ _⟩, fun _ h => (by cases h), by have := HSB.out; have := HG2.out; have := HGE.out; omega⟩
    have HBE := Lib.hid hb0
    have HMEM := Lib.hid hmem
    clear hmem hgc hsc hfb hbe hb0
    go_wp2
    go_loopw [10] (fun i wr => ∃ k : Nat, k ≤ n ∧ i = .int .i64 k ∧ ∃ (v : Value) (l : List LExpr), l.length = k ∧ BoxS Wa sb wr (ge + 1) ge 42 #[.int .i64 5, .int .i64 0, .int .i64 0, .string nm, v] m (madeE c (m - 1)) v l) (fun i _ => n - (intOf i).toNat)
    case atStart => exact ⟨0, by omega, rfl, .slice none 0 0, [], rfl, HBE.out.set 3 _⟩
    case round =>
      obtain ⟨k, hk, rfl, v, l, hl, hb⟩ := hrel
      obtain ⟨css0, hcs0⟩ := hb.own
      obtain ⟨Ag, cg, hv⟩ := own_form hcs0.row
      clear hcs0 css0
      obtain ⟨ng, hng⟩ : ∃ ng, ng = l.length := ⟨_, rfl⟩
      rw [← hng] at hv
      subst hv
      have HN := Lib.hid hng
      have hnk : ng = k := hng.trans hl
      have HNK := Lib.hid hnk
      have hng6 : ng ≤ 6 := by omega
      have HB := Lib.hid hb
      clear hl hng hnk
      by_cases hlt : k < n
      · have d1 : decide ((k : Int) < (n : Int)) = true := decide_eq_true (by omega)
        clear hb
        go_upto_region 12 with fail
        have SO : Hid (∀ X, (Blk X (ge) 42 #[.int .i64 5, .int .i64 0, .int .i64 0, .string nm, .slice Ag ng cg] ∧ Wa.grownBy X (some sb)) → (fun X => X.cell? ⟨ge, 4, none⟩ = some (.slice Ag ng cg) ∧ X.cell? ⟨w.heap.size, 0, none⟩ = some (.slice Av nv cv) ∧ X.cell? ⟨w.heap.size, 1, none⟩ = some (.slice Aa na ca) ∧ X.cell? ⟨w.heap.size, 2, none⟩ = some (.slice (some ⟨b, off, none⟩) nf cf) ∧ X.cell? ⟨w.heap.size, 3, none⟩ = some (.bool false) ∧ X.cell? ⟨w.heap.size, 4, none⟩ = some (.bool loop)) X) := Lib.hid (fun X h => have hq := HSCB.out.grown h.2 (fun e => by have := Option.some.inj e; have := HSB.out; omega); ⟨h.1.cell 4, hq.cell 0, hq.cell 1, hq.cell 2, hq.cell 3, hq.cell 4⟩)
        refine wp_region_L (by kernel_rfl) 10 (fun X => X.cell? ⟨ge, 4, none⟩ = some (.slice Ag ng cg) ∧ X.cell? ⟨w.heap.size, 0, none⟩ = some (.slice Av nv cv) ∧ X.cell? ⟨w.heap.size, 1, none⟩ = some (.slice Aa na ca) ∧ X.cell? ⟨w.heap.size, 2, none⟩ = some (.slice (some ⟨b, off, none⟩) nf cf) ∧ X.cell? ⟨w.heap.size, 3, none⟩ = some (.bool false) ∧ X.cell? ⟨w.heap.size, 4, none⟩ = some (.bool loop)) (SO.out _ ⟨HB.out.drew.blk, HB.out.drew.gr⟩) (fun hHeld => ?_)
        have HS0 := Lib.hid hHeld
        clear hHeld
        change wpAnyL _ _ _ _ _ 10 11 (Array.replicate 11 false) _ _
        have HB0 : Hid (BoxS Wa sb wr.drew (ge + 1) (ge) 42 #[.int .i64 5, .int .i64 0, .int .i64 0, .string nm, .slice Ag ng cg] (m) (madeE c (m - 1)) (.slice Ag ng cg) (l)) := Lib.hid HB.out.drew
        obtain ⟨X0, hX0⟩ : ∃ X0, wr.drew = X0 := ⟨_, rfl⟩
        rw [hX0] at HB0 HS0 ⊢
        clear hX0
        obtain ⟨css, hcss⟩ := HB0.out.own
        have HOW := Lib.hid hcss
        clear hcss
        refine tj 0 46 (.pointer (some ⟨ge, 4, none⟩)) HS0.out rfl rfl ?_
        try simp only [sA, sB, sC]
        refine tS 1 47 (.slice Ag ng cg) [10] HS0.out rfl rfl ?_ ?_
        · intro w2 hSw; obtain ⟨g0, g1, g2, g3, g4, g5⟩ := hSw; go_simp
        try simp only [sA, sB, sC]
        refine tS 2 48 (.agg #[.slice Av nv cv, .slice Aa na ca, .slice (some ⟨b, off, none⟩) nf cf, .bool false, .bool loop]) [10] HS0.out rfl rfl ?_ ?_
        · intro w2 hSw; obtain ⟨g0, g1, g2, g3, g4, g5⟩ := hSw; go_simp
        try simp only [sA, sB, sC]
        refine tj 3 49 (.pointer (some ⟨sb, 0, none⟩)) HS0.out rfl rfl ?_
        try simp only [sA, sB, sC]
        refine tj 4 50 (.int .i64 (m : Int)) HS0.out rfl rfl ?_
        try simp only [sA, sB, sC]
        refine tk 5 51 (.int .i64 ((m : Int) - 1)) HS0.out rfl rfl ?_ ?_
        · intro w2; go_simp; rw [IntKind.wrap_i64]; omega
        try simp only [sA, sB, sC]
        refine wpAnyL_ready (rs := [6]) (by kernel_rfl) (by simp) ?_
        refine AllReadyL.cons rfl (fun K hK => ?_) AllReadyL.nil
        go_simp
        refine (HXW.out X0 HB0.out.gr HB0.out.src).mono ?_
        intro e X1 hp
        obtain ⟨x, Ax, cx, rfl, hm1, hx1, hs1, hg1⟩ := hp.new
        have HB1 := Lib.hid (HB0.out.step hg1 hs1)
        have HMX : Hid ((madeE c (m - 1)) x) := Lib.hid (hm1)
        have HXR := Lib.hid (RExpr.up (d' := m) _ (by omega) hx1)
        have HG1 := Lib.hid hg1
        have HSR := Lib.hid hs1
        clear hp hm1 hx1 hs1 hg1
        refine hK.out _ _ (SO.out _ ⟨HB1.out.blk, HB1.out.gr⟩) (fun hHeld => ?_)
        have HS1 := Lib.hid hHeld
        clear hK K hHeld
        try simp only [sA, sB, sC]
        refine wpAnyL_ready (rs := [7]) (by kernel_rfl) (by simp) ?_
        refine AllReadyL.cons rfl (fun K hK => ?_) AllReadyL.nil
        go_simp
        refine hK.out _ _ (SO.out _ ⟨(HB1.out.below (below1 _ _)).blk, (HB1.out.below (below1 _ _)).gr⟩) (fun hHeld => ?_)
        have HS2 := Lib.hid hHeld
        clear hK K hHeld
        try simp only [sA, sB, sC]
        have hb2 := HB1.out.below (below1 X1 (.cells #[.int .i64 x.kind, .int .i64 x.op, .int .i64 x.n, .string x.name, .slice Ax x.args.length cx] 42))
        have hn2 : Blk (X1.alloc (.cells #[.int .i64 x.kind, .int .i64 x.op, .int .i64 x.n, .string x.name, .slice Ax x.args.length cx] 42)) X1.heap.size 42 #[.int .i64 x.kind, .int .i64 x.op, .int .i64 x.n, .string x.name, .slice Ax x.args.length cx] := Blk.new X1 _ _
        have h12 := below1 X1 (.cells #[.int .i64 x.kind, .int .i64 x.op, .int .i64 x.n, .string x.name, .slice Ax x.args.length cx] 42)
        generalize (X1.alloc (.cells #[.int .i64 x.kind, .int .i64 x.op, .int .i64 x.n, .string x.name, .slice Ax x.args.length cx] 42)) = X2 at *
        have HB2 := Lib.hid hb2
        have HN2 := Lib.hid hn2
        have H12 := Lib.hid h12
        clear hb2 hn2 h12
        refine wpAnyL_ready (rs := [8]) (by kernel_rfl) (by simp) ?_
        refine AllReadyL.cons rfl (fun K hK => ?_) AllReadyL.nil
        have hsx := HB2.out.bs
        refine step_append_lies _ (by rfl) _ _ _ (by rfl) (ge + 1) 42 zi _ 5 64 Tryz.underlying40 hj0 hj1 hj2 hj3 rfl (by omega) (.slice Ag ng cg) ng css.flatten (by rfl) (HB0.out.row2 HG1.out H12.out HN.out HOW.out) ⟨X1.heap.size, 0, none⟩ 1 1 [.int .i64 x.kind, .int .i64 x.op, .int .i64 x.n, .string x.name, .slice Ax x.args.length cx] (by rfl) (by rfl) (World.news_of_block HN2.out) (by simp [Value.oneCell']) (by omega) (by unfold maxLen; omega) (by omega) hsx X2.heap.size rfl ?_
        intro gp cp X3 hown3 hgrow3 hat3 hlt3
        have HB3 := Lib.hid (HB0.out.app HG1.out HSR.out H12.out HN.out HOW.out HXR.out rfl HMX.out hown3 hgrow3 hat3)
        clear hsx hown3 hgrow3 hat3
        refine hK.out _ _ (SO.out _ ⟨HB3.out.blk, HB3.out.gr⟩) (fun hHeld => ?_)
        have HS3 := Lib.hid hHeld
        clear hK K hHeld
        try simp only [sA, sB, sC]
        refine tj 9 55 (.pointer (some ⟨ge, 4, none⟩)) HS3.out rfl rfl ?_
        try simp only [sA, sB, sC]
        refine wpAnyL_ready (rs := [10]) (by kernel_rfl) (by simp) ?_
        refine AllReadyL.last rfl (by kernel_rfl) (fun K hK => ?_)
        have kc : X3.cell? ⟨ge, 4, none⟩ = some (.slice Ag ng cg) := HB3.out.blk.cell 4
        have kz := HB3.out.blk.frozen 4
        go_simp
        refine hK.out _ _ ?_
        clear hK K
        try simp only [sA, sB, sC]
        refine wpAnyL_done (by kernel_rfl) ?_ _
        have HB4 := Lib.hid (HB3.out.set 4 (.slice (some ⟨gp, 0, none⟩) (ng + 1) cp))
        go_wp2
        go_roundw
        case rel => exact ⟨k + 1, by omega, by go_num, _, l ++ [x], by rw [List.length_append, List.length_singleton, ← HN.out, HNK.out], HB4.out⟩
        case measure => simp [intOf]; omega
      · have hkn : k = n := by omega
        have d1 : decide ((k : Int) < (n : Int)) = false := decide_eq_false (by omega)
        have hsr := HSA.out.step hb.gr hb.src
        have HSR := Lib.hid hsr
        have HNN := Lib.hid (HNK.out.trans hkn)
        clear hkn
        have q0 : wr.cell? ⟨ge, 0, none⟩ = some (.int .i64 5) := hb.blk.cell 0
        have q1 : wr.cell? ⟨ge, 1, none⟩ = some (.int .i64 0) := hb.blk.cell 1
        have q2 : wr.cell? ⟨ge, 2, none⟩ = some (.int .i64 0) := hb.blk.cell 2
        have q3 : wr.cell? ⟨ge, 3, none⟩ = some (.string nm) := hb.blk.cell 3
        have q4 : wr.cell? ⟨ge, 4, none⟩ = some (.slice Ag ng cg) := hb.blk.cell 4
        have r0 : wr.cell? ⟨w.heap.size + 1, 0, none⟩ = some (.int .i64 0) := hsr.res.cell 0
        have t0 : wr.frozen? ⟨w.heap.size + 1, 0, none⟩ = false := hsr.res.frozen 0
        have r1 : wr.cell? ⟨w.heap.size + 1, 1, none⟩ = some (.int .i64 0) := hsr.res.cell 1
        have t1 : wr.frozen? ⟨w.heap.size + 1, 1, none⟩ = false := hsr.res.frozen 1
        have r2 : wr.cell? ⟨w.heap.size + 1, 2, none⟩ = some (.int .i64 0) := hsr.res.cell 2
        have t2 : wr.frozen? ⟨w.heap.size + 1, 2, none⟩ = false := hsr.res.frozen 2
        have r3 : wr.cell? ⟨w.heap.size + 1, 3, none⟩ = some (.string ⟨#[]⟩) := hsr.res.cell 3
        have t3 : wr.frozen? ⟨w.heap.size + 1, 3, none⟩ = false := hsr.res.frozen 3
        have r4 : wr.cell? ⟨w.heap.size + 1, 4, none⟩ = some (.slice none 0 0) := hsr.res.cell 4
        have t4 : wr.frozen? ⟨w.heap.size + 1, 4, none⟩ = false := hsr.res.frozen 4
        clear hb hsr
        go_wp2
        have hrow : RowE w wr m (.slice Ag ng cg) l := by
          obtain ⟨css, hc⟩ := HB.out.own
          have hl2 : ∀ b, (ge + 1 ≤ b ∧ b < wr.heap.size) → made2 w wr b := fun b hb2 => ⟨by have := HGE.out; omega, hb2.2⟩
          exact SlR.imp (hc.slr (mono_expr m)) hl2 (fun _ _ => rfl) fun _ _ _ q => q.imp hl2 (fun _ _ => rfl) m
        have hmem2 : (nm, l.length) ∈ c.funs := by rw [← HN.out, HNN.out]; exact HMEM.out
        have hend := expr_end HSR.out (⟨5, 0, 0, nm, l⟩) (.slice Ag ng cg) (made_call hm HOK.out.toScOk hmem2 HB.out.made) hrow
        refine bodyPost_ret (v := .agg #[.int .i64 (⟨5, 0, 0, nm, l⟩ : LExpr).kind, .int .i64 (⟨5, 0, 0, nm, l⟩ : LExpr).op, .int .i64 (⟨5, 0, 0, nm, l⟩ : LExpr).n, .string (⟨5, 0, 0, nm, l⟩ : LExpr).name, .slice Ag ng cg]) (results_cell_row (p := 6) (ty := 42) (by kernel_rfl) _ _ (w.heap.size + 1) 42 _ (0, 0) _ rfl hend.1 Tryz.underlying42 rfl (by kernel_rfl)) rfl ⟨hend.2, 0, 0, nm, .slice Ag ng cg, rfl⟩
end
end Go.Proofs.YtmignlclfbaifaaGreat
