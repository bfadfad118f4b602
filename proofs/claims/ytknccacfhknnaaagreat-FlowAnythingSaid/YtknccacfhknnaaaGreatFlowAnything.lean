/- What Follows does, where the one run follows the other: it tells true. A value that is not wanted at a block's beginning may be anything there: the walk of 'FlowAnythingSaid', with no condition. The statement 'FlowAnythingSaid', out of its walk. -/
import Derived.Test.YtknccacfhknnaaaGreatAw11
import Derived.Test.YtknccacfhknnaaaGreatSims
import Derived.Test.YtknccacfhknnaaaGreatLawPick
import Derived.Test.YtknccacfhknnaaaGreatRegion
import Derived.Test.YtknccacfhknnaaaGreatArgs
import Derived.Deep.CutRange
import Derived.Deep.DeepCutAuto
import Derived.Carry
import Derived.SizedLaws
namespace Go.Proofs.YtknccacfhknnaaaGreat
open Go.RowKit

set_option maxHeartbeats 1000000 in
theorem begins12_true (l t : List Int) (va vb : Value) (ok ok' : Nat → Prop) (w : World) (ha : SlR w ok 1 RInt va l) (hb : SlR w ok' 1 RInt vb (l ++ t)) :
    Calls Tryz.prog 29 #[va, vb] w fun e w' => e = .returned (.bool true) ∧ Below w.heap.size w w' := by
  obtain ⟨A1, k1, e1, h1, h1'⟩ := ha.val
  obtain ⟨A2, k2, e2, h2, h2'⟩ := hb.val
  rw [List.length_append] at e2 h2
  subst e1 e2
  have HA := Lib.hid ha
  have HB := Lib.hid hb
  have hlen := Nat.le_trans h1 h1'
  have hlen2 := Nat.le_trans h2 h2'
  unfold maxLen at hlen hlen2
  have b0 : decide ((l.length : Int) > ((l.length + t.length : Nat) : Int)) = false := decide_eq_false (by omega)
  have b1 : decide (((l.length + t.length : Nat) : Int) < (l.length : Int)) = false := decide_eq_false (by omega)
  generalize hn : l.length + t.length = n at *
  have hle : l.length ≤ n := by omega
  have HN := Lib.hid hn
  clear ha hb hn
  go_enter Tryz.func29, Tryz.ntmps29
  go_wp2_with fail
  go_loopw [5] (fun v wr => ∃ i : Nat, i ≤ l.length ∧ v = .int .i64 i ∧ ∃ nq, wr = w.drewN nq) (fun v _ => l.length - (intOf v).toNat)
  case atStart => exact ⟨0, by omega, rfl, 0, rfl⟩
  case round =>
    obtain ⟨i, hi, rfl, nq, rfl⟩ := hrel
    by_cases hlt : i < l.length
    · have d0 : decide ((i : Int) < (l.length : Int)) = true := decide_eq_true (by omega)
      obtain ⟨b3, o3, c3, f3, _, _, hb3, q3⟩ := HA.out.form (by omega)
      obtain ⟨b4, o4, c4, f4, _, _, hb4, q4⟩ := HB.out.form (by simp; omega)
      obtain rfl : A1 = some ⟨b3, o3, none⟩ := by injection f3
      obtain rfl : A2 = some ⟨b4, o4, none⟩ := by injection f4
      obtain ⟨cs3, _, r3, s3⟩ := q3 i hlt
      obtain ⟨cs4, _, r4, s4⟩ := q4 i (by simp; omega)
      subst r3
      subst r4
      rw [List.getElem_append_left (h := hlt)] at s4
      obtain ⟨k, hk⟩ : ∃ k, k = l[i] := ⟨_, rfl⟩
      rw [← hk] at s3 s4
      have i3 : w.cell? ⟨b3, o3 + i, none⟩ = some (.int .i64 k) := by have h := s3.at_ (j := 0) rfl; simpa using h
      have i4 : w.cell? ⟨b4, o4 + i, none⟩ = some (.int .i64 k) := by have h := s4.at_ (j := 0) rfl; simpa using h
      have b5 : (k != k) = false := by simp
      have p2 : (i : Int) < (l.length : Int) := by omega
      have p3 : (i : Int) < (n : Int) := by omega
      clear f3 f4 q3 q4 s3 s4 hk
      go_wp2
      go_quiet (fail)
      go_wp2
      go_roundw
      case rel => exact ⟨i + 1, by omega, by go_num, _, rfl⟩
      case measure => simp [intOf]; omega
    · have d0 : decide ((i : Int) < (l.length : Int)) = false := decide_eq_false (by omega)
      go_wp2
      go_ret
      exact ⟨rfl, below_drewN (Below.refl _ _) _⟩

set_option maxHeartbeats 1000000 in
theorem follows_true (ma mb : MRun) (hf : FollowsP ma mb) (Aa Ab : Option Addr) (ca cb : Nat) (w : World) (ha : SlR w (· < w.heap.size) 1 RInt (.slice Aa ma.out.length ca) ma.out) (hb : SlR w (· < w.heap.size) 1 RInt (.slice Ab mb.out.length cb) mb.out) :
    Calls Tryz.prog 16 #[.agg #[.int .i64 ma.status, .int .i64 ma.code, .slice Aa ma.out.length ca, .int .i64 ma.steps], .agg #[.int .i64 mb.status, .int .i64 mb.code, .slice Ab mb.out.length cb, .int .i64 mb.steps]] w fun e w' => e = .returned (.bool true) ∧ Below w.heap.size w w' := by
  unfold FollowsP at hf
  have HA := Lib.hid ha
  have HB := Lib.hid hb
  clear ha hb
  by_cases h0 : ma.status = 0
  · rw [if_pos h0] at hf
    obtain ⟨t, ht⟩ := hf
    have e0 : (ma.status == 0) = true := by simp [h0]
    have hbb : SlR w (· < w.heap.size) 1 RInt (.slice Ab mb.out.length cb) (ma.out ++ t) := by rw [ht]; exact HB.out
    have HBE := Lib.hid (fun (X : World) (hx : Below w.heap.size w X) => begins12_true ma.out t _ _ _ _ X (HA.out.imp (ok' := (· < w.heap.size)) (R' := RInt) (fun _ h => h) (fun b h => hx.block b h) (fun _ _ _ r => r)) (hbb.imp (ok' := (· < w.heap.size)) (R' := RInt) (fun _ h => h) (fun b h => hx.block b h) (fun _ _ _ r => r)))
    clear h0 ht hbb
    go_enter Tryz.func16, Tryz.ntmps16
    go_upto_region 1 with fail
    refine wp_world ?_
    intro W hW
    have hB : Below w.heap.size w W := by rw [← hW]; exact ((Below.refl _ _).alloc (Nat.le_refl _) _).alloc (by simp) _
    have hX : Blk W w.heap.size 32 #[.int .i64 ma.status, .int .i64 ma.code, .slice Aa ma.out.length ca, .int .i64 ma.steps] := by rw [← hW]; exact (Blk.new w _ _).alloc _
    have hY : Blk W (w.heap.size + 1) 32 #[.int .i64 mb.status, .int .i64 mb.code, .slice Ab mb.out.length cb, .int .i64 mb.steps] := by rw [← hW]; exact Blk.new_at _ _ _ (by simp)
    have x0 : W.cell? ⟨w.heap.size, 0, none⟩ = some (.int .i64 ma.status) := hX.cell 0
    have x2 : W.cell? ⟨w.heap.size, 2, none⟩ = some (.slice Aa ma.out.length ca) := hX.cell 2
    have y2 : W.cell? ⟨w.heap.size + 1, 2, none⟩ = some (.slice Ab mb.out.length cb) := hY.cell 2
    have HBW := Lib.hid hB
    clear hW hB hX hY
    go_wp2_with (go_at_call 29; refine (HBE.out _ HBW.out).mono ?_; rintro e w2 ⟨rfl, hb2⟩)
    go_ret
    exact ⟨rfl, HBW.out.trans (hb2.mono HBW.out.size)⟩
  · rw [if_neg h0] at hf
    obtain ⟨f1, f2, f3⟩ := hf
    have e0 : (ma.status == 0) = false := by simp [h0]
    obtain ⟨s, hs⟩ : ∃ s, s = ma.status := ⟨_, rfl⟩
    obtain ⟨c, hc⟩ : ∃ c, c = ma.code := ⟨_, rfl⟩
    obtain ⟨l, hl⟩ : ∃ l, l = ma.out := ⟨_, rfl⟩
    rw [← hs] at e0 f1
    rw [← hc] at f2
    have HA2 := HA.out
    have HB2 := HB.out
    rw [f3] at HB2
    rw [← hl] at HA2 HB2 f3
    have HSM := Lib.hid (fun (X : World) (hx : Below w.heap.size w X) => same_true s c mb.steps l _ _ X (HA2.imp (ok' := (· < X.heap.size)) (R' := RInt) (fun _ h => Nat.lt_of_lt_of_le h hx.size) (fun b h => hx.block b h) (fun _ _ _ r => r)) (HB2.imp (ok' := (· < X.heap.size)) (R' := RInt) (fun _ h => Nat.lt_of_lt_of_le h hx.size) (fun b h => hx.block b h) (fun _ _ _ r => r)))
    rw [f1, f2, f3, ← hs, ← hc, ← hl]
    generalize mb.steps = p at *
    generalize ma.steps = q at *
    clear h0 f1 f2 f3 hs hc hl HA HB HA2 HB2
    go_enter Tryz.func16, Tryz.ntmps16
    go_upto_region 1 with fail
    refine wp_world ?_
    intro W hW
    have hB : Below w.heap.size w W := by rw [← hW]; exact ((Below.refl _ _).alloc (Nat.le_refl _) _).alloc (by simp) _
    have hX : Blk W w.heap.size 32 #[.int .i64 s, .int .i64 c, .slice Aa l.length ca, .int .i64 q] := by rw [← hW]; exact (Blk.new w _ _).alloc _
    have hY : Blk W (w.heap.size + 1) 32 #[.int .i64 s, .int .i64 c, .slice Ab l.length cb, .int .i64 p] := by rw [← hW]; exact Blk.new_at _ _ _ (by simp)
    have x0 : W.cell? ⟨w.heap.size, 0, none⟩ = some (.int .i64 s) := hX.cell 0
    have x3 : W.cell? ⟨w.heap.size, 3, none⟩ = some (.int .i64 q) := hX.cell 3
    have y3 : W.cell? ⟨w.heap.size + 1, 3, none⟩ = some (.int .i64 p) := hY.cell 3
    have z3 : W.frozen? ⟨w.heap.size, 3, none⟩ = false := hX.frozen 3
    have HBW := Lib.hid hB
    have HX := Lib.hid hX
    have HY := Lib.hid hY
    clear hW hB hX hY
    go_upto_region 4 with fail
    refine wp_world ?_
    intro W2 hW2
    have hB2 : Below w.heap.size w W2 := by rw [← hW2]; exact HBW.out.setCell (Nat.le_refl _) _
    have hX2 : Blk W2 w.heap.size 32 #[.int .i64 s, .int .i64 c, .slice Aa l.length ca, .int .i64 p] := by rw [← hW2]; exact HX.out.set_ 3 _
    have hY2 : Blk W2 (w.heap.size + 1) 32 #[.int .i64 s, .int .i64 c, .slice Ab l.length cb, .int .i64 p] := by rw [← hW2]; exact HY.out.far (by show w.heap.size + 1 ≠ w.heap.size; omega) _
    clear hW2 x0 x3 y3 z3
    have x0 : W2.cell? ⟨w.heap.size, 0, none⟩ = some (.int .i64 s) := hX2.cell 0
    have x1 : W2.cell? ⟨w.heap.size, 1, none⟩ = some (.int .i64 c) := hX2.cell 1
    have x2 : W2.cell? ⟨w.heap.size, 2, none⟩ = some (.slice Aa l.length ca) := hX2.cell 2
    have x3 : W2.cell? ⟨w.heap.size, 3, none⟩ = some (.int .i64 p) := hX2.cell 3
    have y0 : W2.cell? ⟨w.heap.size + 1, 0, none⟩ = some (.int .i64 s) := hY2.cell 0
    have y1 : W2.cell? ⟨w.heap.size + 1, 1, none⟩ = some (.int .i64 c) := hY2.cell 1
    have y2 : W2.cell? ⟨w.heap.size + 1, 2, none⟩ = some (.slice Ab l.length cb) := hY2.cell 2
    have y3 : W2.cell? ⟨w.heap.size + 1, 3, none⟩ = some (.int .i64 p) := hY2.cell 3
    have HB2 := Lib.hid hB2
    clear hB2 hX2 hY2
    go_wp2_with (go_at_call 11; refine (HSM.out _ HB2.out).mono ?_; rintro e w2 ⟨rfl, hb2⟩)
    go_ret
    exact ⟨rfl, HB2.out.trans (hb2.mono HB2.out.size)⟩
end Go.Proofs.YtknccacfhknnaaaGreat

namespace Go.Proofs.YtknccacfhknnaaaGreat
open Go.RowKit
open Go.Deep

set_option maxRecDepth 100000 in
set_option maxHeartbeats 16000000 in
theorem flowAnything_walk (vr vin : Value) (which value n steps : Int) (raw : List LBlock) (hI : ∀ x ∈ raw, x.I) (inp : List Int) (_hlen : (inp.length + 0) * 8 ≤ 140737488355328) (w : World) (hsl : SlR w (· < w.heap.size) 5 (RBlock w (· < w.heap.size)) vr raw) (hin : SlR w (· < w.heap.size) 1 RInt vin inp) (wh : (Lit.int .i64 which).wf = true) (wv : (Lit.int .i64 value).wf = true) (_wn : (Lit.int .i64 n).wf = true) (ws : (Lit.int .i64 steps).wf = true) :
    Calls Tryz.prog 4 #[vr, vin, .int .i64 which, .int .i64 value, .int .i64 n, .int .i64 steps] w fun e w' => e = .returned (.bool true) ∧ Below w.heap.size w w' := by
  obtain ⟨Ai, ci, hvi, hil, hic⟩ := hin.val
  subst hvi
  obtain ⟨io, io'⟩ := i64_of_wf wh
  obtain ⟨jo, jo'⟩ := i64_of_wf ws
  obtain ⟨v, hv10, hpv⟩ := pickN value (i64_of_wf wv) 10 (by omega) (by omega)
  have HPV := Lib.hid hpv
  obtain ⟨k, hk3, hpick⟩ := pick3 which ⟨io, io'⟩
  have HAW := Lib.hid (awake13_any w)
  have HFIT := Lib.hid (fun (X : World) (hb : Below w.heap.size w X) => fit_any raw hI vr X (hsl.imp (fun _ h => Nat.lt_of_lt_of_le h hb.size) (fun b h => hb.block b h) (fun _ _ _ r => r.imp (fun _ h => Nat.lt_of_lt_of_le h hb.size) (fun b h => hb.block b h))))
  obtain ⟨hq3, hw3⟩ := tdiv3 ⟨io, io'⟩
  have HPN := Lib.hid (fun (n : Nat) hn hn2 => pickN (which.tdiv 3) hq3 n hn hn2)
  have HPS := Lib.hid (fun w2 => pick13_any steps 301 jo jo' (by omega) w2)
  have p0 := pk_lo steps 301 (by omega)
  have p1 := pk_hi steps 301 (by omega)
  generalize pk steps 301 = mm at *
  obtain ⟨m, rfl⟩ := Int.eq_ofNat_of_zero_le p0
  have hm : m ≤ 300 := by omega
  have HIN := Lib.hid hin
  have HP := Lib.hid hpick
  have HW3 := Lib.hid hw3
  clear hpv hq3 hw3 p0 p1 hsl hin hI hpick
  go_enter Tryz.func4, Tryz.ntmps4
  go_upto_region 3 with (first | (go_at_call 12; refine HAW.out.mono ?_; rintro e w2 ⟨rfl, hb2⟩) | (go_at_call 7; refine (HFIT.out _ hb2).mono ?_; rintro e w3 ⟨va, vf, css, rfl, hb3, hsa, hof⟩; obtain ⟨A1, c1, hva, _, _⟩ := hsa.val; obtain ⟨gf, cf, hvf⟩ := own_three hof; subst hva hvf))
  refine wp_world ?_
  intro W hW
  have hB : Below w.heap.size w W := by
    have h := hb2.trans (hb3.mono hb2.size)
    rw [← hW]; exact h.alloc h.size _
  have hU : Blk W w3.heap.size 28 #[.slice A1 (fitU raw).arrays.length c1, .slice (some ⟨gf, 0, none⟩) 3 cf] := by rw [← hW]; exact Blk.new w3 _ _
  have hA : SlR W (· < W.heap.size) 2 RArr (.slice A1 (fitU raw).arrays.length c1) (fitU raw).arrays := by rw [← hW]; exact hsa.imp (fun b hb => by have hb' := hb.2; simp; omega) (fun b hb => Below.heap_alloc w3 _ b hb.2) (fun _ _ _ r => r)
  have hA4 : SlR W (fun b => b < w2.heap.size + 4) 2 RArr (.slice A1 (fitU raw).arrays.length c1) (fitU raw).arrays := by rw [← hW]; exact hsa.imp (fun b hb => hb.1.2) (fun b hb => Below.heap_alloc w3 _ b hb.2) (fun _ _ _ r => r)
  have hO : OwnL W (w2.heap.size + 4) 35 4 RFlow (.slice (some ⟨gf, 0, none⟩) 3 cf) (fitFlows raw 3) css := by rw [← hW]; exact hof.below mono_flow (below1 _ _)
  have hs23 : w2.heap.size ≤ w3.heap.size := hb3.size
  have hs2w : w.heap.size ≤ w2.heap.size := hb2.size
  have hg3 : gf < w3.heap.size := (hof.lt gf rfl).2
  clear hW hb2 hb3 hsa hof HAW HFIT
  -- the function
  have hkc : k < css.length := by rw [hO.len]; simp [fitFlows]; omega
  have hkl : k < (fitFlows raw 3).length := by simp [fitFlows]; omega
  have hfk : (fitFlows raw 3)[k] = fitFl raw k := by simp [fitFlows]
  have hel := hO.elems k hkc hkl
  rw [hfk] at hel
  obtain ⟨vb, hcs, hbl⟩ := hel
  obtain ⟨Ab, cb, hvb, _, _⟩ := hbl.val
  subst hvb
  have hGF := good_fit raw k
  have hpos := fit_pos raw k
  have hle := fit_le raw k
  have q0 : W.cell? ⟨gf, k * 4, none⟩ = some (.string (fitFl raw k).name) := hO.cell (i := 0) hkc (by rw [hcs]; rfl)
  have q1 : W.cell? ⟨gf, k * 4 + 1, none⟩ = some (.int .i64 (fitFl raw k).params) := hO.cell (i := 1) hkc (by rw [hcs]; rfl)
  have q2 : W.cell? ⟨gf, k * 4 + 2, none⟩ = some (.int .i64 (fitFl raw k).values) := hO.cell (i := 2) hkc (by rw [hcs]; rfl)
  have q3 : W.cell? ⟨gf, k * 4 + 3, none⟩ = some (.slice Ab (fitFl raw k).blocks.length cb) := hO.cell (i := 3) hkc (by rw [hcs]; rfl)
  have u1 : W.cell? ⟨w3.heap.size, 1, none⟩ = some (.slice (some ⟨gf, 0, none⟩) 3 cf) := hU.cell 1
  have HANY := Lib.hid (any_unit raw k)
  obtain ⟨f, hf⟩ : ∃ f, f = fitFl raw k := ⟨_, rfl⟩
  rw [← hf] at hbl hGF hpos hle q0 q1 q2 q3
  have HF := Lib.hid hf
  have HA := Lib.hid hA
  have HA4 := Lib.hid hA4
  have HO := Lib.hid hO
  have HU := Lib.hid hU
  have HB := Lib.hid hB
  have HBL := Lib.hid hbl
  have HGF := Lib.hid hGF
  have hul := hU.lt
  clear hB hU hA hA4 hO hkc hkl hfk hcs hbl hGF hf
  go_upto_region 5 with (go_at_call 13; refine (HP.out _).mono ?_; rintro e w' ⟨rfl, rfl⟩)
  refine wp_world ?_
  intro W1 hW1
  have hB1 : Below W.heap.size W W1 := by rw [← hW1]; exact below1 _ _
  have hF : Blk W1 W.heap.size 35 #[.string f.name, .int .i64 f.params, .int .i64 f.values, .slice Ab f.blocks.length cb] := by rw [← hW1]; exact Blk.new_at _ _ _ rfl
  have hwl : W.heap.size < W1.heap.size := hF.lt
  clear hW1 q0 q1 q2 q3 u1
  have hS1 : SlR W1 (· < W1.heap.size) 5 (RBlock W1 (· < W1.heap.size)) (.slice Ab f.blocks.length cb) f.blocks := HBL.out.imp (fun _ h => Nat.lt_of_lt_of_le h.2.1 hB1.size) (fun b h => hB1.block b h.2.1) (fun _ _ _ r => r.imp (fun _ h => Nat.lt_of_lt_of_le h.2.1 hB1.size) (fun b h => hB1.block b h.2.1))
  have HRE := Lib.hid (live_any f HGF.out (by omega) _ W1 hS1)
  have c0 : W1.cell? ⟨W.heap.size, 0, none⟩ = some (.string f.name) := hF.cell 0
  have c1' : W1.cell? ⟨W.heap.size, 1, none⟩ = some (.int .i64 f.params) := hF.cell 1
  have c2 : W1.cell? ⟨W.heap.size, 2, none⟩ = some (.int .i64 f.values) := hF.cell 2
  have c3 : W1.cell? ⟨W.heap.size, 3, none⟩ = some (.slice Ab f.blocks.length cb) := hF.cell 3
  have HB1 := Lib.hid hB1
  have HFB := Lib.hid hF
  clear hB1 hF hS1 HGF
  obtain ⟨ls, hls⟩ : ∃ ls, ls = (List.range f.blocks.length).map (fun i => riseL (liveS f i)) := ⟨_, rfl⟩
  have hll : ls.length = f.blocks.length := by rw [hls]; simp
  have HLS := Lib.hid hls
  rw [← hls] at HRE
  clear hls
  go_upto_region 6 with (go_at_call 14; refine HRE.out.mono ?_; rintro e W2 ⟨v3, rfl, hb3, hs3⟩; obtain ⟨bm, om, cm, hv3, _, _, hbm, hel3⟩ := hs3.form (by omega); rw [hll] at hv3; subst hv3)
  clear c0 c1' c2 c3 HRE
  have b0 : ((f.blocks.length : Int) != (f.blocks.length : Int)) = false := by simp
  have hp0 : (0 : Int) < (f.blocks.length : Int) := by omega
  have hF2 := HFB.out.below hb3 HFB.out.lt
  have k3 : W2.cell? ⟨W.heap.size, 3, none⟩ = some (.slice Ab f.blocks.length cb) := hF2.cell 3
  have HB2 := Lib.hid hb3
  have HF2 := Lib.hid hF2
  have hw12 : W1.heap.size ≤ W2.heap.size := hb3.size
  have w3e := HW3.out
  obtain ⟨i, hi, hpi⟩ := HPN.out f.blocks.length hpos (by omega)
  have HPI := Lib.hid hpi
  have him : i < ls.length := by rw [hll]; exact hi
  obtain ⟨css3, _, hr3, hc3⟩ := hel3 i him
  obtain ⟨A3, c3', hv3, hs3'⟩ : ∃ A c, css3 = [.slice A ls[i].length c] ∧ SlR W2 (fun b => W1.heap.size ≤ b ∧ b < W2.heap.size) 1 RInt (.slice A ls[i].length c) ls[i] := by
    obtain ⟨v', e', h'⟩ := hr3
    obtain ⟨A, c, e2, _, _⟩ := h'.val
    subst e2
    exact ⟨A, c, e', h'⟩
  subst hv3
  have m0 : W2.cell? ⟨bm, om + i, none⟩ = some (.slice A3 ls[i].length c3') := by have h := hc3.at_ (j := 0) rfl; simpa using h
  have hin2 : (i : Int) < (f.blocks.length : Int) := by omega
  have HHAS := Lib.hid (has_any ls[i] (v : Int) _ _ W2 hs3')
  have hlsi : ls[i] = riseL (liveS f i) := by
    have h := HLS.out
    subst h
    simp
  obtain ⟨li, hli⟩ : ∃ l, l = ls[i] := ⟨_, rfl⟩
  rw [← hli] at m0 HHAS hlsi
  have HLI := Lib.hid hli
  have HLSI := Lib.hid hlsi
  have tok : True := trivial
  clear hli hlsi hll hb3 hs3 hel3 hF2 hbm hpi HPN hr3 hc3 hs3'
  go_upto_region 10 with (first | (go_at_call 13; have _t := tok; refine (HPI.out _).mono ?_; rintro e w' ⟨rfl, rfl⟩; clear tok) | (go_at_call 13; refine (HPV.out _).mono ?_; rintro e w' ⟨rfl, rfl⟩))
  have hBW2 : Below w.heap.size w W2 := (HB.out.trans (HB1.out.mono HB.out.size)).trans (HB2.out.mono (Nat.le_trans HB.out.size HB1.out.size))
  by_cases hv : (v : Int) ∈ li
  · have hd : decide ((v : Int) ∈ li) = true := decide_eq_true hv
    rw [hd] at HHAS
    have HBW2 := Lib.hid hBW2
    clear hBW2 hd hv
    go_wp2_with (go_at_call 15; refine HHAS.out.mono ?_; rintro e w' ⟨rfl, rfl⟩)
    go_ret
    exact ⟨rfl, HBW2.out⟩
  · have hd : decide ((v : Int) ∈ li) = false := decide_eq_false hv
    rw [hd] at HHAS
    have hlv : liveS f i (v : Int) = false := by
      rw [HLSI.out, mem_riseL] at hv
      by_cases e : liveS f i (v : Int) = true
      · exact absurd ⟨by unfold placeP; exact decide_eq_true (by omega), e⟩ hv
      · simpa using e
    have HLV := Lib.hid hlv
    clear hv hd hlv
    have hB12 : Below W.heap.size W W2 := HB1.out.trans (HB2.out.mono HB1.out.size)
    have hU2 := HU.out.below hB12 hul
    have hO2 : OwnL W2 (w2.heap.size + 4) 35 4 RFlow (.slice (some ⟨gf, 0, none⟩) 3 cf) (fitFlows raw 3) css := HO.out.below mono_flow hB12
    have hA2 : SlR W2 (· < W2.heap.size) 2 RArr (.slice A1 (fitU raw).arrays.length c1) (fitU raw).arrays := HA.out.imp (fun _ h => Nat.lt_of_lt_of_le h hB12.size) (fun b h => hB12.block b h) (fun _ _ _ r => r)
    have hI2 : SlR W2 (· < W2.heap.size) 1 RInt (.slice Ai inp.length ci) inp := HIN.out.imp (fun b hb => Nat.lt_of_lt_of_le hb hBW2.size) (fun b hb => hBW2.block b hb) (fun _ _ _ r => r)
    have hR1 : Calls Tryz.prog 9 #[.agg #[.slice A1 (fitU raw).arrays.length c1, .slice (some ⟨gf, 0, none⟩) 3 cf], .slice Ai inp.length ci, .int .i64 (m : Int)] W2 fun e X' => ∃ A c, e = .returned (.agg #[.int .i64 (runU (fitU raw) inp m).status, .int .i64 (runU (fitU raw) inp m).code, .slice A (runU (fitU raw) inp m).out.length c, .int .i64 (runU (fitU raw) inp m).steps]) ∧ Below W2.heap.size W2 X' ∧ X'.ownsRow W2.heap.size 3 1 (.slice A (runU (fitU raw) inp m).out.length c) (runU (fitU raw) inp m).out.length ((runU (fitU raw) inp m).out.map (Value.int .i64)) := fit_run hA2 (ownL_slr hO2) inp m (by omega) _ W2 (Below.refl _ _) hI2
    obtain ⟨ma, hma⟩ : ∃ ma, ma = runU (fitU raw) inp m := ⟨_, rfl⟩
    rw [← hma] at hR1
    have HMA := Lib.hid hma
    have HR1 := Lib.hid hR1
    have u20 : W2.cell? ⟨w3.heap.size, 0, none⟩ = some (.slice A1 (fitU raw).arrays.length c1) := hU2.cell 0
    have u21 : W2.cell? ⟨w3.heap.size, 1, none⟩ = some (.slice (some ⟨gf, 0, none⟩) 3 cf) := hU2.cell 1
    have HU2 := Lib.hid hU2
    have HO2 := Lib.hid hO2
    have HA2 := Lib.hid hA2
    have HI2 := Lib.hid hI2
    have HB12 := Lib.hid hB12
    have HBW2 := Lib.hid hBW2
    clear hR1 hma hU2 hO2 hA2 hI2 hB12 hBW2 b0 k3
    go_upto_region 14 with (first | (go_at_call 15; refine HHAS.out.mono ?_; rintro e w' ⟨rfl, rfl⟩) | (go_at_call 13; refine (HPS.out _).mono ?_; rintro e w' ⟨rfl, rfl⟩) | (go_at_call 9; refine HR1.out.mono ?_; rintro e w4 ⟨Aa, ca, rfl, hb4, ho4⟩))
    refine wp_world ?_
    intro W4 hW4
    have hB4 : Below W2.heap.size W2 W4 := by rw [← hW4]; exact hb4.alloc hb4.size _
    have hRA : ResAt W4 W2.heap.size w4.heap.size ma := by rw [← hW4]; exact ⟨Aa, ca, Blk.new w4 _ _, ho4.alloc _⟩
    have hral : w4.heap.size < W4.heap.size := by rw [← hW4]; simp
    have hw24 : W2.heap.size ≤ w4.heap.size := hb4.size
    clear hW4 hb4 ho4 u20 u21 HR1 m0 HHAS
    -- the copy of the blocks
    have hBW4 : Below W.heap.size W W4 := HB12.out.trans (hB4.mono HB12.out.size)
    obtain ⟨okf, hokf⟩ : ∃ p : Nat → Prop, p = okOwn (w2.heap.size + 4) W (.slice (some ⟨gf, 0, none⟩) 3 cf) := ⟨_, rfl⟩
    have hokb : ∀ b, okf b → w2.heap.size + 4 ≤ b ∧ b < W.heap.size ∧ b ≠ gf := fun b hb => by
      rw [hokf] at hb
      exact ⟨hb.1, hb.2.1, fun e => hb.2.2 (by rw [e]; rfl)⟩
    have hsb : SlR W4 okf 5 (RBlock W4 okf) (.slice Ab f.blocks.length cb) f.blocks := by
      rw [hokf]; exact HBL.out.imp (fun _ h => h) (fun b h => hBW4.block b h.2.1) (fun _ _ _ r => r.imp (fun _ h => h) (fun b h => hBW4.block b h.2.1))
    obtain ⟨bb, ob, cb', hfb, _, _, _, _⟩ := hsb.form hpos
    obtain rfl : Ab = some ⟨bb, ob, none⟩ := by injection hfb
    obtain ⟨css0, hcl, hce, hcR, hcC, _⟩ := hsb.rows hpos
    have hones : ∀ u ∈ css0.flatten, u.oneCell' = true := flatten_ones fun cs hc => by
      obtain ⟨j, hj, rfl⟩ := List.getElem_of_mem hc
      exact block_ones (hcR j hj (by omega))
    have hfl : css0.flatten.length = f.blocks.length * 5 := by rw [flatten_len hce, hcl]
    have hF4 := HF2.out.below hB4 HF2.out.lt
    have k3 : W4.cell? ⟨W.heap.size, 3, none⟩ = some (.slice (some ⟨bb, ob, none⟩) f.blocks.length cb) := hF4.cell 3
    have z3 := hF4.frozen 3
    have hfl4 : W.heap.size < W4.heap.size := hF4.lt
    have hne : (Value.slice none 0 0).ownBlock ≠ some W.heap.size := by simp [Value.ownBlock]
    obtain ⟨hgf0, hgf1⟩ := HO.out.lt gf rfl
    have hbase : w2.heap.size + 4 ≤ W4.heap.size := by omega
    obtain ⟨z0, hi0, hz0, hz1, hz2⟩ := info_parts info_block
    have HNEWS := Lib.hid hcC.news
    have HCE := Lib.hid hce
    have HCR := Lib.hid hcR
    have HCL := Lib.hid hcl
    have HB4 := Lib.hid hB4
    have HBW4 := Lib.hid hBW4
    have HRA := Lib.hid hRA
    have HF4 := Lib.hid hF4
    have HOK := Lib.hid hokb
    have HONES := Lib.hid hones
    have HFL := Lib.hid hfl
    clear hsb hfb hcC hce hcR hcl hB4 hBW4 hRA hF4 hokb hokf hones hfl
    go_upto_region 15 with (at_builtin; refine wpList_append_lies _ rfl _ _ _ rfl (w2.heap.size + 4) 48 z0 _ 5 56 Tryz.underlying22 hi0 hz0 hz1 hz2 rfl (by decide) (.slice none 0 0) 0 [] rfl (World.ownsRow_nil _ _ _ _) ⟨bb, ob, none⟩ f.blocks.length cb css0.flatten rfl HFL.out HNEWS.out HONES.out hpos (by unfold maxLen; omega) (by omega) hbase W4.heap.size rfl ?_; intro g cap w5 hown5 hgrow hat hlt5; have hF5 := HF4.out.grown hgrow hne; have k5 : w5.cell? ⟨W.heap.size, 3, none⟩ = some (.slice (some ⟨bb, ob, none⟩) f.blocks.length cb) := hF5.cell 3; have z5 := hF5.frozen 3)
    refine wp_world ?_
    intro W5 hW5
    simp only [Nat.zero_add, List.nil_append] at hown5 hW5
    have hg5 : g = W4.heap.size := by
      rcases hat with h | h
      · cases h
      · exact h
    have hB45 : Below W4.heap.size W4 w5 := (Below.refl _ _).grown hgrow (Nat.le_refl _) (fun k e => by cases e)
    have hk5 : Keeps (fun b => b < W4.heap.size ∧ b ≠ W.heap.size) W4 W5 := by
      rw [← hW5]
      exact Keeps.set (fun b hb => hB45.block b hb.1) (fun b hb => hb.2) _
    have hsz5 : W5.heap.size = w5.heap.size := by rw [← hW5]; simp [World.setCell]
    have hB5 : Below W.heap.size W W5 := by
      rw [← hW5]; exact (HBW4.out.trans (hB45.mono HBW4.out.size)).setCell (Nat.le_refl _) _
    have hF5 : Blk W5 W.heap.size 35 #[.string f.name, .int .i64 f.params, .int .i64 f.values, .slice (some ⟨g, 0, none⟩) f.blocks.length cap] := by rw [← hW5]; exact hF5.set_ 3 _
    have hwg : W.heap.size ≠ g := by omega
    have hown : W5.ownsRow (w2.heap.size + 4) 48 5 (.slice (some ⟨g, 0, none⟩) f.blocks.length cap) f.blocks.length css0.flatten := by
      rw [← hW5]
      exact own_keep hown5 fun g' e => Below.heap_setCell _ _ _ g' (by have e' : g = g' := (by simpa [Value.ownBlock] using e); show g' ≠ W.heap.size; omega)
    have hgl : g < W5.heap.size := by omega
    have hrow : OwnL W5 (w2.heap.size + 4) 48 5 (RBut gf) (.slice (some ⟨g, 0, none⟩) f.blocks.length cap) f.blocks css0 :=
      OwnL.copied (mono_but gf) (w := W4) (ok := okf) hown rfl HCL.out HCE.out (fun i h1 h2 => (HCR.out i h1 h2).imp (fun b hb => ⟨hb, (HOK.out b hb).2.2⟩) (Keeps.refl _ _)) (fun b hb => by have := HOK.out b hb; omega) (hk5.mono fun b hb => by have := HOK.out b hb; omega)
    have HK5 := Lib.hid hk5
    have hic5 : i < css0.length := by rw [HCL.out]; exact hi
    obtain ⟨blk, hblk⟩ : ∃ b, b = f.blocks[i] := ⟨_, rfl⟩
    have hblk' : f.blocks[i]? = some blk := by rw [hblk]; exact List.getElem?_eq_getElem hi
    have hel5 := hrow.elems i hic5 hi
    rw [← hblk] at hel5
    obtain ⟨vi5, hd5, hsi⟩ := hel5
    obtain ⟨Ac, cc, hvi5, hxc, hxm⟩ := hsi.val
    subst hvi5
    obtain ⟨xs, hxs⟩ : ∃ xs, xs = blk.ins := ⟨_, rfl⟩
    have hx6 : xs.length ≤ 6 := by
      rw [hxs]
      have := fit_ins raw k blk (by rw [← HF.out]; exact List.mem_of_getElem? hblk')
      exact this
    rw [← hxs] at hsi hd5
    have c5 : W5.cell? ⟨W.heap.size, 3, none⟩ = some (.slice (some ⟨g, 0, none⟩) f.blocks.length cap) := hF5.cell 3
    have e5 : W5.cell? ⟨g, i * 5, none⟩ = some (.slice Ac xs.length cc) := hrow.cell (i := 0) hic5 (by rw [hd5]; rfl)
    have SO5 : Hid (∀ X, Below W5.heap.size W5 X → (fun w2 => w2.cell? ⟨W.heap.size, 3, none⟩ = some (.slice (some ⟨g, 0, none⟩) f.blocks.length cap) ∧ w2.cell? ⟨g, i * 5, none⟩ = some (.slice Ac xs.length cc)) X) := Lib.hid (fun X hb => ⟨(hb.cell (p := ⟨W.heap.size, 3, none⟩) hF5.lt).trans c5, (hb.cell (p := ⟨g, i * 5, none⟩) hgl).trans e5⟩)
    -- the block's instructions
    have HIX : ∃ cssI : List (List Value), cssI.length = xs.length ∧ (∀ cs ∈ cssI, cs.length = 8) ∧ (∀ (j : Nat) (h1 : j < cssI.length) (h2 : j < xs.length), RIns W5 (fun k => okOwn (w2.heap.size + 4) W5 (.slice (some ⟨g, 0, none⟩) f.blocks.length cap) k ∧ k ≠ gf) cssI[j] xs[j]) ∧ (xs.length = 0 ∨ ∃ bi oi, Ac = some ⟨bi, oi, none⟩ ∧ bi < W5.heap.size ∧ Cells W5 bi oi cssI.flatten) := by
      by_cases h0 : xs.length = 0
      · exact ⟨[], by rw [h0]; rfl, by simp, fun j h1 _ => by simp at h1, .inl h0⟩
      · obtain ⟨bi, oi, c', hvf, _, _, _, _⟩ := hsi.form (by omega)
        obtain rfl : Ac = some ⟨bi, oi, none⟩ := by injection hvf
        obtain ⟨cssI, q1, q2, q3, q4, q5⟩ := hsi.rows (by omega)
        exact ⟨cssI, q1, q2, q3, .inr ⟨bi, oi, rfl, q5.1.2.1, q4⟩⟩
    obtain ⟨cssI, hil1, hil2, hil3, hil4⟩ := HIX
    have HIL : Hid (cssI.flatten.length = xs.length * 8) := Lib.hid (by rw [flatten_len hil2, hil1])
    have HIN5 : Hid (∀ X, Below W5.heap.size W5 X → (xs.length = 0 ∨ ∃ ad, Ac = some ad ∧ ∀ j u, cssI.flatten[j]? = some u → X.cell? (ad.add j) = some u)) := Lib.hid (fun X hb => hil4.imp id fun ⟨bi, oi, e, hlt, hc⟩ => ⟨_, e, (hc.keep (hb.block bi hlt)).news⟩)
    have HI1 : Hid (∀ u ∈ cssI.flatten, u.oneCell' = true) := Lib.hid (flatten_ones fun cs hc => by
      obtain ⟨j, hj, rfl⟩ := List.getElem_of_mem hc
      exact ins_ones (hil3 j hj (by omega)))
    have HI2 := Lib.hid hil2
    have HI3 := Lib.hid hil3
    have HI4 := Lib.hid hil1
    have hi2 : (i : Int) < (f.blocks.length : Int) := by omega
    have hg5a : W4.heap.size ≤ g := by omega
    obtain ⟨zi, hj0, hj1, hj2, hj3⟩ := info_parts info_ins
    have HB5 := Lib.hid hB5
    have HF5 := Lib.hid hF5
    have HROW := Lib.hid hrow
    have HD5 := Lib.hid hd5
    have HBLK := Lib.hid hblk'
    have HXS := Lib.hid hxs
    have hw5l : W.heap.size < W5.heap.size := hF5.lt
    clear hg5 hW5 hown5 hgrow hat hlt5 hB45 hk5 hsz5 hB5 hF5 hrow hown HNEWS HCE HCR HONES HFL k3 z3 k5 z5 hne hd5 hblk hblk' hxs hi0 hz0 hz1 hz2 hil1 hil2 hil3 hil4 hsi c5 e5 hxc hxm
    go_wp2_with fail
    have hz5 : Below W5.heap.size W5 W5.drew := (Below.refl _ _).drew
    refine wp_region_L (by kernel_rfl) 16 (fun w2 => w2.cell? ⟨W.heap.size, 3, none⟩ = some (.slice (some ⟨g, 0, none⟩) f.blocks.length cap) ∧ w2.cell? ⟨g, i * 5, none⟩ = some (.slice Ac xs.length cc)) (SO5.out _ hz5) (fun hHeld => ?_)
    have HS0 := Lib.hid hHeld
    clear hHeld
    change wpAnyL _ _ _ _ _ 16 17 (Array.replicate 17 false) _ _
    generalize W5.drew = X0 at *
    have HZ0 := Lib.hid hz5
    clear hz5
    refine takeL 0 69 (.pointer (some ⟨W.heap.size, 3, none⟩)) HS0.out rfl rfl (by kernel_rfl) (by kernel_rfl) (by kernel_rfl) (by decide) (fun _ _ _ h => h) (by kernel_rfl) ?_ ?_
    · intro w2; go_simp
    simp only [List.setIfInBounds_toArray, List.set_cons_zero, List.set_cons_succ]
    refine takeL_S 1 70 (.slice (some ⟨g, 0, none⟩) f.blocks.length cap) [16] HS0.out rfl rfl (by kernel_rfl) (by kernel_rfl) (by kernel_rfl) (by decide) (by kernel_rfl) (fun _ _ _ h => h) (by kernel_rfl) ?_ ?_
    · intro w2 hSw; obtain ⟨g0, g1⟩ := hSw; go_simp
    simp only [List.setIfInBounds_toArray, List.set_cons_zero, List.set_cons_succ]
    refine takeL 2 71 (.int .i64 (i : Int)) HS0.out rfl rfl (by kernel_rfl) (by kernel_rfl) (by kernel_rfl) (by decide) (fun _ _ _ h => h) (by kernel_rfl) ?_ ?_
    · intro w2; go_simp
    simp only [List.setIfInBounds_toArray, List.set_cons_zero, List.set_cons_succ]
    refine takeL 3 72 (.int .i64 (v : Int)) HS0.out rfl rfl (by kernel_rfl) (by kernel_rfl) (by kernel_rfl) (by decide) (fun _ _ _ h => h) (by kernel_rfl) ?_ ?_
    · intro w2; go_simp
    simp only [List.setIfInBounds_toArray, List.set_cons_zero, List.set_cons_succ]
    refine takeL 4 73 (.int .i64 n) HS0.out rfl rfl (by kernel_rfl) (by kernel_rfl) (by kernel_rfl) (by decide) (fun _ _ _ h => h) (by kernel_rfl) ?_ ?_
    · intro w2; go_simp
    simp only [List.setIfInBounds_toArray, List.set_cons_zero, List.set_cons_succ]
    refine takeL 5 74 (.agg #[.int .i64 1, .int .i64 (v : Int), .int .i64 0, .int .i64 0, .int .i64 0, .int .i64 n, .string ⟨#[]⟩, .slice none 0 0]) HS0.out rfl rfl (by kernel_rfl) (by kernel_rfl) (by kernel_rfl) (by decide) (fun _ _ _ h => h) (by kernel_rfl) ?_ ?_
    · intro w2; go_simp
    simp only [List.setIfInBounds_toArray, List.set_cons_zero, List.set_cons_succ]
    refine takeL 7 76 (.pointer (some ⟨W.heap.size, 3, none⟩)) HS0.out rfl rfl (by kernel_rfl) (by kernel_rfl) (by kernel_rfl) (by decide) (fun _ _ _ h => h) (by kernel_rfl) ?_ ?_
    · intro w2; go_simp
    simp only [List.setIfInBounds_toArray, List.set_cons_zero, List.set_cons_succ]
    refine takeL_S 8 77 (.slice (some ⟨g, 0, none⟩) f.blocks.length cap) [16] HS0.out rfl rfl (by kernel_rfl) (by kernel_rfl) (by kernel_rfl) (by decide) (by kernel_rfl) (fun _ _ _ h => h) (by kernel_rfl) ?_ ?_
    · intro w2 hSw; obtain ⟨g0, g1⟩ := hSw; go_simp
    simp only [List.setIfInBounds_toArray, List.set_cons_zero, List.set_cons_succ]
    refine takeL 9 78 (.int .i64 (i : Int)) HS0.out rfl rfl (by kernel_rfl) (by kernel_rfl) (by kernel_rfl) (by decide) (fun _ _ _ h => h) (by kernel_rfl) ?_ ?_
    · intro w2; go_simp
    simp only [List.setIfInBounds_toArray, List.set_cons_zero, List.set_cons_succ]
    refine takeL 10 79 (.pointer (some ⟨g, i * 5, none⟩)) HS0.out rfl rfl (by kernel_rfl) (by kernel_rfl) (by kernel_rfl) (by decide) (fun _ _ _ h => h) (by kernel_rfl) ?_ ?_
    · intro w2; go_simp
    simp only [List.setIfInBounds_toArray, List.set_cons_zero, List.set_cons_succ]
    refine takeL 11 80 (.pointer (some ⟨g, i * 5, none⟩)) HS0.out rfl rfl (by kernel_rfl) (by kernel_rfl) (by kernel_rfl) (by decide) (fun _ _ _ h => h) (by kernel_rfl) ?_ ?_
    · intro w2; go_simp
    simp only [List.setIfInBounds_toArray, List.set_cons_zero, List.set_cons_succ]
    refine takeL_S 12 81 (.slice Ac xs.length cc) [16] HS0.out rfl rfl (by kernel_rfl) (by kernel_rfl) (by kernel_rfl) (by decide) (by kernel_rfl) (fun _ _ _ h => h) (by kernel_rfl) ?_ ?_
    · intro w2 hSw; obtain ⟨g0, g1⟩ := hSw; go_simp
    simp only [List.setIfInBounds_toArray, List.set_cons_zero, List.set_cons_succ]
    refine wpAnyL_ready (rs := [6]) (by kernel_rfl) (by simp) ?_
    refine AllReadyL.cons rfl (fun K hK => ?_) AllReadyL.nil
    go_simp
    refine hK.out _ _ (SO5.out _ (HZ0.out.alloc HZ0.out.size _)) (fun hHeld => ?_)
    have HS1 := Lib.hid hHeld
    clear hK K hHeld
    try simp only [List.setIfInBounds_toArray, List.set_cons_zero, List.set_cons_succ]
    have hz1 : Below W5.heap.size W5 (X0.alloc (.cells #[.int .i64 1, .int .i64 (v : Int), .int .i64 0, .int .i64 0, .int .i64 0, .int .i64 n, .string ⟨#[]⟩, .slice none 0 0] 44)) := HZ0.out.alloc HZ0.out.size _
    have hn1 : Blk (X0.alloc (.cells #[.int .i64 1, .int .i64 (v : Int), .int .i64 0, .int .i64 0, .int .i64 0, .int .i64 n, .string ⟨#[]⟩, .slice none 0 0] 44)) X0.heap.size 44 #[.int .i64 1, .int .i64 (v : Int), .int .i64 0, .int .i64 0, .int .i64 0, .int .i64 n, .string ⟨#[]⟩, .slice none 0 0] := Blk.new X0 _ _
    have hx01 : W5.heap.size ≤ X0.heap.size := HZ0.out.size
    generalize X0.alloc (.cells #[.int .i64 1, .int .i64 (v : Int), .int .i64 0, .int .i64 0, .int .i64 0, .int .i64 n, .string ⟨#[]⟩, .slice none 0 0] 44) = X1 at *
    have HZ1 := Lib.hid hz1
    have HN1 := Lib.hid hn1
    clear hz1 hn1
    refine wpAnyL_ready (rs := [13]) (by kernel_rfl) (by simp) ?_
    refine AllReadyL.cons rfl (fun K hK => ?_) AllReadyL.nil
    have hsx : W5.heap.size ≤ X1.heap.size := HZ1.out.size
    have hv1 : X1.ownsRow W5.heap.size 44 8 (.slice (some ⟨X0.heap.size, 0, none⟩) 1 1) 1 [.int .i64 1, .int .i64 (v : Int), .int .i64 0, .int .i64 0, .int .i64 0, .int .i64 n, .string ⟨#[]⟩, .slice none 0 0] := own_made HN1.out hx01 (by decide) rfl
    refine step_append_row _ (by rfl) _ _ _ (by rfl) W5.heap.size 44 zi _ 8 88 Tryz.underlying42 hj0 hj1 hj2 hj3 rfl (by omega) (.slice (some ⟨X0.heap.size, 0, none⟩) 1 1) 1 _ (by rfl) hv1 (by omega) Ac xs.length cc cssI.flatten (by rfl) HIL.out (HIN5.out X1 HZ1.out) HI1.out (by unfold maxLen; omega) (by omega) hsx X1.heap.size rfl ?_
    intro gp cp X2 hown2 hgrow2 hat2 hlt2
    have HZ2 : Hid (Below W5.heap.size W5 X2) := Lib.hid (HZ1.out.grown hgrow2 hsx (fun k e => (hv1.lt k e).1))
    have HOW2 := Lib.hid hown2
    have hgp : W5.heap.size ≤ gp := hat2.elim (fun h => (hv1.lt gp h).1) (fun h => by omega)
    clear hsx hv1 hown2 hgrow2 hat2
    refine hK.out _ _ (SO5.out _ HZ2.out) (fun hHeld => ?_)
    have HS2 := Lib.hid hHeld
    clear hK K hHeld
    try simp only [List.setIfInBounds_toArray, List.set_cons_zero, List.set_cons_succ]
    refine takeL 14 83 (.pointer (some ⟨g, i * 5, none⟩)) HS2.out rfl rfl (by kernel_rfl) (by kernel_rfl) (by kernel_rfl) (by decide) (fun _ _ _ h => h) (by kernel_rfl) ?_ ?_
    · intro w2; go_simp
    simp only [List.setIfInBounds_toArray, List.set_cons_zero, List.set_cons_succ]
    refine takeL 15 84 (.pointer (some ⟨g, i * 5, none⟩)) HS2.out rfl rfl (by kernel_rfl) (by kernel_rfl) (by kernel_rfl) (by decide) (fun _ _ _ h => h) (by kernel_rfl) ?_ ?_
    · intro w2; go_simp
    simp only [List.setIfInBounds_toArray, List.set_cons_zero, List.set_cons_succ]
    have zf := (HROW.out.below (mono_but gf) HZ2.out).frozen (i * 5)
    have yc := (SO5.out _ HZ2.out).2
    refine wpAnyL_ready (rs := [16]) (by kernel_rfl) (by simp) ?_
    refine AllReadyL.last rfl (by kernel_rfl) (fun K hK => ?_)
    go_simp
    refine hK.out _ _ ?_
    clear hK K
    try simp only [List.setIfInBounds_toArray, List.set_cons_zero, List.set_cons_succ]
    refine wpAnyL_done (by kernel_rfl) ?_ _
    go_upto_region 16 with fail
    refine wp_world ?_
    intro W6 hW6
    have hgw : W.heap.size ≤ g := by omega
    have hB6 : Below W.heap.size W W6 := by
      rw [← hW6]; exact (HB5.out.trans (HZ2.out.mono HB5.out.size)).setCell hgw _
    have hF6 : Blk W6 W.heap.size 35 #[.string f.name, .int .i64 f.params, .int .i64 f.values, .slice (some ⟨g, 0, none⟩) f.blocks.length cap] := by
      rw [← hW6]; exact (HF5.out.below HZ2.out HF5.out.lt).far hwg _
    have hneg0 : ∀ (j b : Nat), b ≠ g → b ≠ (⟨g, j, none⟩ : Addr).block := fun _ _ h => h
    have hK6 : Keeps (fun b => b ≠ g) X2 W6 := by
      rw [← hW6]; exact (Keeps.refl _ _).set (hneg0 _) _
    have hk46 : Keeps (fun b => b < W4.heap.size ∧ b ≠ W.heap.size) W4 W6 := (HK5.out.trans (Keeps.mono (Keeps.of_below HZ2.out) fun b hb => by show b < W5.heap.size; have := hb.1; omega)).trans (hK6.mono fun b hb => by have := hb.1; omega)
    have hnew : RBut gf X2 (okOwn (w2.heap.size + 4) X2 (.slice (some ⟨g, 0, none⟩) f.blocks.length cap)) (.slice (some ⟨gp, 0, none⟩) (1 + xs.length) cp :: termCells blk.term) (anyB blk (v : Int) n) := by
      have hsz2 : W5.heap.size ≤ X2.heap.size := HZ2.out.size
      have hsub : ∀ b, (okOwn (w2.heap.size + 4) W5 (.slice (some ⟨g, 0, none⟩) f.blocks.length cap) b ∧ b ≠ gf) → (okOwn (w2.heap.size + 4) X2 (.slice (some ⟨g, 0, none⟩) f.blocks.length cap) b ∧ b ≠ gf) := fun b hb => ⟨⟨hb.1.1, Nat.lt_of_lt_of_le hb.1.2.1 hsz2, hb.1.2.2⟩, hb.2⟩
      refine ⟨_, rfl, SlR.of_own (css := [.int .i64 1, .int .i64 (v : Int), .int .i64 0, .int .i64 0, .int .i64 0, .int .i64 n, .string ⟨#[]⟩, .slice none 0 0] :: cssI) HOW2.out ?_ ?_ ?_ ?_ ?_⟩
      · show 1 + xs.length = (numIns (v : Int) n :: blk.ins).length
        rw [HXS.out, List.length_cons]; omega
      · show (_ :: cssI).length = (numIns (v : Int) n :: blk.ins).length
        rw [List.length_cons, List.length_cons, HI4.out, HXS.out]
      · intro cs hcs
        rcases List.mem_cons.1 hcs with rfl | hcs
        · rfl
        · exact HI2.out cs hcs
      · intro j h1 h2
        cases j with
        | zero => exact ⟨_, rfl, SlR.nil_ _ _ _ _⟩
        | succ j =>
          have h1' : j < cssI.length := by simpa using h1
          have h2' : j < xs.length := by rw [← HI4.out]; exact h1'
          have h3 := HI3.out j h1' h2'
          have e : (numIns (v : Int) n :: blk.ins)[j + 1]'h2 = xs[j] := by
            have := HXS.out
            subst this
            rfl
          show RIns X2 _ cssI[j] ((numIns (v : Int) n :: blk.ins)[j + 1]'h2)
          rw [e]
          exact h3.imp hsub (fun b hb => HZ2.out.block b hb.1.2.1)
      · intro g' e
        have e' : gp = g' := (by simpa [Value.ownBlock] using e)
        subst e'
        exact ⟨⟨by omega, hlt2, fun e2 => by
          have e3 : g = gp := (by simpa [Value.ownBlock] using e2)
          omega⟩, by omega⟩
    have hrow6 : OwnL W6 (w2.heap.size + 4) 48 5 (RBut gf) (.slice (some ⟨g, 0, none⟩) f.blocks.length cap) (f.blocks.set i (anyB blk (v : Int) n)) (css0.set i (.slice (some ⟨gp, 0, none⟩) (1 + xs.length) cp :: termCells blk.term)) := by
      rw [← hW6]
      exact (HROW.out.below (mono_but gf) HZ2.out).put0 (mono_but gf) hic5 HD5.out hnew
    have hO6 : OwnL W6 (w2.heap.size + 4) 35 4 RFlow (.slice (some ⟨gf, 0, none⟩) 3 cf) (fitFlows raw 3) css := HO.out.below mono_flow hB6
    have hlen3 : (fitFlows raw 3).length = 3 := by simp [fitFlows]
    have hkc : k < css.length := by rw [hO6.len, hlen3]; exact hk3
    have hel6 := hO6.elems k hkc (by rw [hlen3]; exact hk3)
    generalize (fitFlows raw 3)[k]'(by rw [hlen3]; exact hk3) = fk at hel6
    obtain ⟨vb6, hcs6, hbl6⟩ := hel6
    have q0 : W6.cell? ⟨gf, k * 4, none⟩ = some _ := hO6.cell (i := 0) hkc (by rw [hcs6]; rfl)
    have q1 : W6.cell? ⟨gf, k * 4 + 1, none⟩ = some _ := hO6.cell (i := 1) hkc (by rw [hcs6]; rfl)
    have q2 : W6.cell? ⟨gf, k * 4 + 2, none⟩ = some _ := hO6.cell (i := 2) hkc (by rw [hcs6]; rfl)
    have q3 : W6.cell? ⟨gf, k * 4 + 3, none⟩ = some vb6 := hO6.cell (i := 3) hkc (by rw [hcs6]; rfl)
    have y0 := hO6.frozen (k * 4)
    have y1 := hO6.frozen (k * 4 + 1)
    have y2 := hO6.frozen (k * 4 + 2)
    have y3 := hO6.frozen (k * 4 + 3)
    have hU6 := HU.out.below hB6 hul
    have u1 : W6.cell? ⟨w3.heap.size, 1, none⟩ = some (.slice (some ⟨gf, 0, none⟩) 3 cf) := hU6.cell 1
    have c0 : W6.cell? ⟨W.heap.size, 0, none⟩ = some (.string f.name) := hF6.cell 0
    have c1' : W6.cell? ⟨W.heap.size, 1, none⟩ = some (.int .i64 f.params) := hF6.cell 1
    have c2 : W6.cell? ⟨W.heap.size, 2, none⟩ = some (.int .i64 f.values) := hF6.cell 2
    have c3 : W6.cell? ⟨W.heap.size, 3, none⟩ = some (.slice (some ⟨g, 0, none⟩) f.blocks.length cap) := hF6.cell 3
    have HB6 := Lib.hid hB6
    have HK46 := Lib.hid hk46
    have HROW6 := Lib.hid hrow6
    have HO6 := Lib.hid hO6
    have HU6 := Lib.hid hU6
    have hg6 : g < W6.heap.size := (hrow6.lt g rfl).2
    have u0 : W6.cell? ⟨w3.heap.size, 0, none⟩ = some (.slice A1 (fitU raw).arrays.length c1) := hU6.cell 0
    clear hB6 hF6 hk46 hrow6 hO6 hU6 hW6 hK6 hnew hneg0 hkc hcs6 hbl6 hw5l hgl HF5 HROW HB5 HK5 HF4 HB4 hlen3 SO5 HIN5 HI1 HI2 HI3 HI4 HIL HOW2 HZ1 HN1 HZ0 zf yc hj0 hj1 hj2 hj3 hi2 hx6 hx01 HS0 HS1 HS2
    go_upto_region 17 with fail
    refine wp_world ?_
    intro W9 hW9
    have hsz9 : W6.heap.size ≤ W9.heap.size := by rw [← hW9]; simp [World.setCell]
    have hneg : ∀ (j b : Nat), b ≠ gf → b ≠ (⟨gf, j, none⟩ : Addr).block := fun _ _ h => h
    have hK69 : Keeps (fun b => b ≠ gf) W6 W9 := by
      rw [← hW9]; exact ((((Keeps.refl _ _).set (hneg _) _).set (hneg _) _).set (hneg _) _).set (hneg _) _
    have hflx : RFlow W6 (okOwn (w2.heap.size + 4) W6 (.slice (some ⟨gf, 0, none⟩) 3 cf)) [.string f.name, .int .i64 f.params, .int .i64 f.values, .slice (some ⟨g, 0, none⟩) f.blocks.length cap] (anyF f i blk (v : Int) n) := by
      refine ⟨_, rfl, ?_⟩
      have hlen' : (f.blocks.set i (anyB blk (v : Int) n)).length = f.blocks.length := List.length_set
      have hrow6 := HROW6.out
      rw [← hlen'] at hrow6 ⊢
      refine hrow6.slr_in (fun g' e => ?_) (fun cs x hx => hx.imp (fun b hb => ⟨hb.1.1, hb.1.2.1, fun e => hb.2 ?_⟩) (Keeps.refl _ _))
      · have e' : g = g' := (by simpa [Value.ownBlock] using e)
        subst e'
        exact ⟨by omega, hg6, fun e => by
          have e2 : gf = g := (by simpa [Value.ownBlock] using e)
          omega⟩
      · have e2 : gf = b := (by simpa [Value.ownBlock] using e)
        exact e2.symm
    have hl3 : (fitFlows raw 3).length = 3 := rfl
    have hO9 : OwnL W9 (w2.heap.size + 4) 35 4 RFlow (.slice (some ⟨gf, 0, none⟩) 3 cf) ((fitFlows raw 3).set k (anyF f i blk (v : Int) n)) (css.set k [.string f.name, .int .i64 f.params, .int .i64 f.values, .slice (some ⟨g, 0, none⟩) f.blocks.length cap]) := by
      rw [← hW9]
      have hO6 : OwnL W6 (w2.heap.size + 4) 35 4 RFlow (.slice (some ⟨gf, 0, none⟩) (fitFlows raw 3).length cf) (fitFlows raw 3) css := by
        rw [hl3]; exact HO6.out
      have h := hO6.put4 mono_flow (j := k) (x := anyF f i blk (v : Int) n) (by simp [fitFlows]; omega) (c0 := .string f.name) (c1 := .int .i64 f.params) (c2 := .int .i64 f.values) (c3 := .slice (some ⟨g, 0, none⟩) f.blocks.length cap) (by rw [hl3]; exact hflx)
      rw [hl3] at h
      exact h
    have hk49 : Keeps (fun b => b < W4.heap.size ∧ b ≠ W.heap.size ∧ b ≠ gf) W4 W9 := (HK46.out.mono fun b hb => ⟨hb.1, hb.2.1⟩).trans (hK69.mono fun b hb => hb.2.2)
    have hRA9 : ResAt W9 W2.heap.size w4.heap.size ma := HRA.out.keeps hw24 (hk49.mono fun b hb => ⟨hb.2, by omega, by omega⟩)
    have hkW9 : Keeps (fun b => b < W.heap.size ∧ b ≠ gf) W W9 := ((Keeps.of_below HB6.out).mono fun b hb => hb.1).trans (hK69.mono fun b hb => hb.2)
    have hA9 : SlR W9 (· < W9.heap.size) 2 RArr (.slice A1 (fitU raw).arrays.length c1) (fitU raw).arrays := HA4.out.imp (fun b hb => by have := HB6.out.size; omega) (hkW9.mono fun b hb => ⟨by have := hb; omega, by have := hb; omega⟩) (fun _ _ _ r => r)
    have hI9 : SlR W9 (· < W9.heap.size) 1 RInt (.slice Ai inp.length ci) inp := HIN.out.imp (fun b hb => by have h1 := HB6.out.size; have h2 := HB.out.size; omega) ((Keeps.of_below HB.out).trans (hkW9.mono fun b hb => ⟨by have := HB.out.size; omega, by omega⟩)) (fun _ _ _ r => r)
    have hU9 := HU6.out.keep (hK69 w3.heap.size (by omega))
    have hB9 : Below w.heap.size w W9 := by
      have hb6 := HB.out.trans (HB6.out.mono HB.out.size)
      have hgw : w.heap.size ≤ gf := by omega
      rw [← hW9]; exact (((hb6.setCell hgw _).setCell hgw _).setCell hgw _).setCell hgw _
    -- the run behind
    have hvl := HLV.out
    have hblk := HBLK.out
    rw [HF.out] at hvl hblk
    obtain ⟨u, hua, huf, huo, hur⟩ := HANY.out i hk3 blk hblk (v : Int) n (by omega) (by omega) hvl
    rw [← HF.out] at huf
    have hF9 : SlR W9 (· < W9.heap.size) 4 (RFlow W9 (· < W9.heap.size)) (.slice (some ⟨gf, 0, none⟩) 3 cf) u.flows := by
      rw [huf]
      have h := ownL_slr hO9
      exact h
    have hul3 : u.flows.length = 3 := by rw [huf, List.length_set]; rfl
    have hual : u.arrays.length = (fitU raw).arrays.length := by rw [hua]
    have hfo := hur inp m
    rw [← HMA.out] at hfo
    obtain ⟨mb, hmb⟩ : ∃ mb, mb = runU u inp (2 * m + 2) := ⟨_, rfl⟩
    rw [← hmb] at hfo
    have HR2 := Lib.hid (show Calls Tryz.prog 9 #[.agg #[.slice A1 (fitU raw).arrays.length c1, .slice (some ⟨gf, 0, none⟩) 3 cf], .slice Ai inp.length ci, .int .i64 (2 * (m : Int) + 2)] W9 fun e X' => ∃ A c, e = .returned (.agg #[.int .i64 mb.status, .int .i64 mb.code, .slice A mb.out.length c, .int .i64 mb.steps]) ∧ Below W9.heap.size W9 X' ∧ SlR X' (· < X'.heap.size) 1 RInt (.slice A mb.out.length c) mb.out from by
      have h := run_any u huo inp (2 * m + 2) (by omega) A1 (some ⟨gf, 0, none⟩) c1 cf (.slice Ai inp.length ci) W9 (by rw [hua]; exact hA9) (by rw [hul3]; exact hF9) hI9
      have e2 : ((2 * m + 2 : Nat) : Int) = 2 * (m : Int) + 2 := by omega
      rw [hul3, hual, e2, ← hmb] at h
      refine h.mono ?_
      rintro e X' ⟨vout, he, hb', ho⟩
      obtain ⟨A, c, hv⟩ := own_form ho
      subst hv
      exact ⟨A, c, he, hb', slr_of_own ho⟩)
    obtain ⟨Aa, ca, hRa, hoa⟩ := hRA9
    have hsA := slr_of_own hoa
    have HSA := Lib.hid hsA
    have HFO := Lib.hid hfo
    have HRa := Lib.hid hRa
    have hral9 := hRa.lt
    have HB9 := Lib.hid hB9
    have u90 : W9.cell? ⟨w3.heap.size, 0, none⟩ = some (.slice A1 (fitU raw).arrays.length c1) := hU9.cell 0
    have u91 : W9.cell? ⟨w3.heap.size, 1, none⟩ = some (.slice (some ⟨gf, 0, none⟩) 3 cf) := hU9.cell 1
    have e2m : IntKind.i64.wrap (2 * (m : Int)) = 2 * (m : Int) := by rw [IntKind.wrap_i64]; omega
    have e2m2 : IntKind.i64.wrap (2 * (m : Int) + 2) = 2 * (m : Int) + 2 := by rw [IntKind.wrap_i64]; omega
    clear hneg hK69 hsz9 hflx hO9 hk49 hkW9 hA9 hI9 hU9 hB9 hvl hblk hua huf huo hur hF9 hul3 hual hmb hfo hRa hoa hsA hW9 q0 q1 q2 q3 y0 y1 y2 y3 u0 u1 c0 c1' c2 c3
    go_upto_region 18 with (go_at_call 9; refine HR2.out.mono ?_; rintro e w10 ⟨Ab, cb, rfl, hb10, hsb10⟩)
    refine wp_world ?_
    intro W10 hW10
    have hB10 : Below W9.heap.size W9 W10 := by rw [← hW10]; exact hb10.alloc hb10.size _
    have hRb : Blk W10 w10.heap.size 32 #[.int .i64 mb.status, .int .i64 mb.code, .slice Ab mb.out.length cb, .int .i64 mb.steps] := by rw [← hW10]; exact Blk.new w10 _ _
    have hsB : SlR W10 (· < W10.heap.size) 1 RInt (.slice Ab mb.out.length cb) mb.out := by rw [← hW10]; exact hsb10.imp (fun b hb => by have h : b < w10.heap.size := hb; simp; omega) (fun b hb => Below.heap_alloc w10 _ b hb) (fun _ _ _ r => r)
    have hRa10 := HRa.out.below hB10 hral9
    have a0 : W10.cell? ⟨w4.heap.size, 0, none⟩ = some (.int .i64 ma.status) := hRa10.cell 0
    have a1 : W10.cell? ⟨w4.heap.size, 1, none⟩ = some (.int .i64 ma.code) := hRa10.cell 1
    have a2 : W10.cell? ⟨w4.heap.size, 2, none⟩ = some (.slice Aa ma.out.length ca) := hRa10.cell 2
    have a3 : W10.cell? ⟨w4.heap.size, 3, none⟩ = some (.int .i64 ma.steps) := hRa10.cell 3
    have b0 : W10.cell? ⟨w10.heap.size, 0, none⟩ = some (.int .i64 mb.status) := hRb.cell 0
    have b1 : W10.cell? ⟨w10.heap.size, 1, none⟩ = some (.int .i64 mb.code) := hRb.cell 1
    have b2 : W10.cell? ⟨w10.heap.size, 2, none⟩ = some (.slice Ab mb.out.length cb) := hRb.cell 2
    have b3 : W10.cell? ⟨w10.heap.size, 3, none⟩ = some (.int .i64 mb.steps) := hRb.cell 3
    have HFT := Lib.hid (follows_true ma mb HFO.out Aa Ab ca cb W10 (HSA.out.imp (fun _ h => Nat.lt_of_lt_of_le h hB10.size) (fun b h => hB10.block b h) (fun _ _ _ r => r)) hsB)
    have HB10 := Lib.hid (HB9.out.trans (hB10.mono HB9.out.size))
    clear hW10 hb10 hsb10 hB10 hRb hsB hRa10 u90 u91 HR2
    go_wp2_with (go_at_call 16; refine HFT.out.mono ?_; rintro e w11 ⟨rfl, hb11⟩)
    go_ret
    exact ⟨rfl, HB10.out.trans (hb11.mono HB10.out.size)⟩
end Go.Proofs.YtknccacfhknnaaaGreat

namespace Go.Proofs.YtknccacfhknnaaaGreat
open Go.ChangeShapes Go.WideShapes Go.ChangeAt Go.RowKit

/-! ### from the walk to the statement -/
theorem laidOutFlowAnything_ : laidOutB Tryz.prog = true := by kernel_rfl
theorem bytesIntFlowAnything_ : Tryz.checked.prog.bytesOf 3 = 8 := by kernel_rfl
set_option maxRecDepth 100000 in
theorem flowAnything_lifted (os : Os) (started : os.Started) (H : Type) (enc : TypeId × Value → H) :
    ReturnsInHanded {} Tryz.checked os 4 .any (Rows.flowAnythingSpec.pre6 enc Tryz.prog Tryz.f4 Rows.flowAnythingRow.domain false) (Rows.flowAnythingSpec.post enc Tryz.prog Tryz.f4 false true false false) := by
  refine returnsInHanded_of_change_sized (C := Tryz.checked) own_ started (by kernel_rfl) Tryz.func4
    (ChangeSpec.witness6 (enc := enc) (C := Tryz.checked) false ⟨#[], #[.slice none 0 0, .slice none 0 0, .int .i64 0, .int .i64 0, .int .i64 0, .int .i64 0], []⟩ 8 (by kernel_rfl) (by kernel_rfl) (by kernel_rfl) (by kernel_rfl)) ?_
  intro W base args ds gs before hval0 hW hcnd hsz _
  have hval : ∀ (j : Nat) t v, Tryz.f4.params[j]? = some t → args[j]? = some v → Value.okWide Tryz.prog W .any base t v := hval0
  have hW' := hW
  obtain ⟨p, q, hA0, hV, rfl, hfz, hnd⟩ := hW
  have hA : DataW.TrodAll enc Tryz.prog W 0 (fun _ => true) true Tryz.f4.params.toList args.toList ds p := hA0
  rw [Tryz.params4] at hA hval
  obtain ⟨v0, vs0, d0, ds0, p0, q0, hargs, rfl, rfl, h0, r0⟩ := trodAll_cons hA
  obtain ⟨v1, vs1, d1, ds1, p1, q1, rfl, rfl, rfl, h1, r1⟩ := trodAll_cons r0
  obtain ⟨v2, vs2, d2, ds2, p2, q2, rfl, rfl, rfl, h2, r2⟩ := trodAll_cons r1
  obtain ⟨v3, vs3, d3, ds3, p3, q3, rfl, rfl, rfl, h3, r3⟩ := trodAll_cons r2
  obtain ⟨v4, vs4, d4, ds4, p4, q4, rfl, rfl, rfl, h4, r4⟩ := trodAll_cons r3
  obtain ⟨v5, vs5, d5, ds5, p5, q5, rfl, rfl, rfl, h5, r5⟩ := trodAll_cons r4
  obtain ⟨rfl, rfl, rfl⟩ := trodAll_nil r5
  obtain rfl : args = #[v0, v1, v2, v3, v4, v5] := by cases args; simp_all
  obtain ⟨rfl, rfl⟩ := trodVars_none hV
  clear hA0 hval0 hargs
  obtain ⟨A0, n0, c0, rfl⟩ := okWide_slice Tryz.underlying22 (hval 0 22 v0 rfl rfl)
  obtain ⟨raw0, hI0, hsl0⟩ := open_blocks h0 ⟨_, _, _, rfl⟩
  obtain ⟨A1, n1, c1, rfl⟩ := okWide_slice Tryz.underlying23 (hval 1 23 v1 rfl rfl)
  obtain ⟨l1, hsl1, hd1⟩ := open_ints_sl h1 ⟨_, _, _, rfl⟩
  have hr1 : (l1.length + 0) * 8 ≤ 140737488355328 := by
    rcases hd1 with ⟨_, hnil⟩ | ⟨es, sp, hde, hel⟩
    · rw [hnil]; simp
    · subst hde
      have h := sized_slice hsz (j := 1) (t := 23) (by rw [Tryz.params4]; rfl) rfl Tryz.underlying23
      rw [bytesIntFlowAnything_] at h
      unfold reachBytes at h
      omega
  obtain ⟨a2, rfl, rfl, rfl, w2⟩ := open_int Tryz.underlying3 (hval 2 3 v2 rfl rfl) h2
  obtain ⟨a3, rfl, rfl, rfl, w3⟩ := open_int Tryz.underlying3 (hval 3 3 v3 rfl rfl) h3
  obtain ⟨a4, rfl, rfl, rfl, w4⟩ := open_int Tryz.underlying3 (hval 4 3 v4 rfl rfl) h4
  obtain ⟨a5, rfl, rfl, rfl, w5⟩ := open_int Tryz.underlying3 (hval 5 3 v5 rfl rfl) h5
  simp only [List.append_nil] at hW'
  refine (flowAnything_walk (.slice A0 n0 c0) (.slice A1 n1 c1) a2 a3 a4 a5 raw0 hI0 l1 hr1 W hsl0 hsl1 w2 w3 w4 w5).mono fun e W' ⟨he, hg⟩ => ?_
  subst he
  have ht := (trodAll_cons_mk (Below.trod laidOutFlowAnything_ (by kernel_rfl) (of_decide_eq_true (by kernel_rfl)) h0 hg (fun x hx => hW'.lt x (by simp [hx]))) (trodAll_cons_mk (Below.trod laidOutFlowAnything_ (by kernel_rfl) (of_decide_eq_true (by kernel_rfl)) h1 hg (fun x hx => hW'.lt x (by simp [hx]))) (trodAll_cons_mk (shut_int Tryz.underlying3 w2) (trodAll_cons_mk (shut_int Tryz.underlying3 w3) (trodAll_cons_mk (shut_int Tryz.underlying3 w4) (trodAll_cons_mk (shut_int Tryz.underlying3 w5) trodAll_mk0))))))
  simp only [List.append_nil] at ht
  exact ⟨_, rfl, post_law hW' (fun _ _ _ => (trodAll_cons_mk (shut_bool Tryz.underlying4 _) trodAll_mk0)) ht rfl hg⟩

theorem flowAnything_over : Rows.flowAnythingRow.holds Tryz.pinned (OpenSpec.ofChange Rows.flowAnythingSpec) :=
  OpenClaim.holds_of_wide 4 Tryz.f4 rfl rfl rfl rfl rfl rfl rfl ⟨rfl, rfl, rfl, rfl, rfl⟩ rfl rfl rfl rfl rfl (by kernel_rfl) Tryz.func4 (by kernel_rfl)
    (of_decide_eq_true (by kernel_rfl)) (by unfold Func.isWrapper; first | (rw [if_pos (by decide +kernel)]; kernel_rfl) | (rw [if_neg (by decide +kernel)]; exact ⟨rfl, rfl⟩))
    (fun os started H enc _ => flowAnything_lifted os started H enc)

/-- the statement -/
theorem flowAnything_holds : Rows.FlowAnythingSaid := flowAnything_over

end Go.Proofs.YtknccacfhknnaaaGreat
