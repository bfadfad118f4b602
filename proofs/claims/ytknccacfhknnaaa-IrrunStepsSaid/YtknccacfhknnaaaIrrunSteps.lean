/- Chapter 11's statement on steps: with more steps a run goes on as it did; what it has not read makes no difference. For all raw units and numbers. -/
import Derived.Test.YtknccacfhknnaaaMorePlain
import Derived.Test.YtknccacfhknnaaaFit
import Derived.Test.YtknccacfhknnaaaRegP
import Derived.Deep.CutRange
import Derived.Deep.DeepCutAuto
import Derived.Deep.Upon
import Derived.Lib.SlFresh
namespace Go.Proofs.Ytknccacfhknnaaa
open Go.RowKit
open Go.Deep

theorem ownL_slr {w : World} {base : Nat} {T : TypeId} {v : Value} {l : List LFlow} {css : List (List Value)} (h : OwnL w base T 4 RFlow v l css) : SlR w (· < w.heap.size) 4 (RFlow w (· < w.heap.size)) v l :=
  SlR.of_own h.row rfl h.len h.each (fun i h1 h2 => (h.elems i h1 h2).imp (fun _ hb => hb.2.1) (Keeps.refl _ _)) (fun g e => (h.lt g e).2)
/-- a run's result lies in block g -/
def ResAt (W : World) (base g : Nat) (m : MRun) : Prop := ∃ A c, Blk W g 48 #[.int .i64 m.status, .int .i64 m.code, .slice A m.out.length c, .int .i64 m.steps] ∧ W.ownsRow base 3 1 (.slice A m.out.length c) m.out.length (m.out.map (Value.int .i64))
theorem ResAt.keep {W W' : World} {base g : Nat} {m : MRun} (h : ResAt W base g m) (hb : Below W.heap.size W W') : ResAt W' base g m := by
  obtain ⟨A, c, h1, h2⟩ := h
  exact ⟨A, c, h1.below hb h1.lt, h2.kept (grown_below' (row := none) hb) (Classical.em _)⟩
theorem fit_run {raw : List LBlock} {W : World} {A1 A2 : Option Addr} {c1 c2 : Nat} (ha : SlR W (· < W.heap.size) 2 RArr (.slice A1 (fitU raw).arrays.length c1) (fitU raw).arrays) (hf : SlR W (· < W.heap.size) 4 (RFlow W (· < W.heap.size)) (.slice A2 (fitU raw).flows.length c2) (fitU raw).flows) (inp : List Int) (n : Nat) (hn : n ≤ 20000) (vin : Value) (X : World) (hb : Below W.heap.size W X) (hin : SlR X (· < X.heap.size) 1 RInt vin inp) :
    Calls Try.prog 20 #[.agg #[.slice A1 (fitU raw).arrays.length c1, .slice A2 (fitU raw).flows.length c2], vin, .int .i64 (n : Int)] X fun e X' => ∃ A c, e = .returned (.agg #[.int .i64 (runU (fitU raw) inp n).status, .int .i64 (runU (fitU raw) inp n).code, .slice A (runU (fitU raw) inp n).out.length c, .int .i64 (runU (fitU raw) inp n).steps]) ∧ Below X.heap.size X X' ∧ X'.ownsRow X.heap.size 3 1 (.slice A (runU (fitU raw) inp n).out.length c) (runU (fitU raw) inp n).out.length ((runU (fitU raw) inp n).out.map (Value.int .i64)) := by
  refine (run_any (fitU raw) (unit_fit raw) inp n hn A1 A2 c1 c2 vin X (ha.imp (fun _ h => Nat.lt_of_lt_of_le h hb.size) (fun b h => hb.block b h) (fun _ _ _ r => r)) (hf.imp (fun _ h => Nat.lt_of_lt_of_le h hb.size) (fun b h => hb.block b h) (fun _ _ _ r => r.imp (fun _ h => Nat.lt_of_lt_of_le h hb.size) (fun b h => hb.block b h))) hin).mono fun e X' ⟨vout, he, hb', ho⟩ => ?_
  obtain ⟨A, c, hv⟩ := own_form ho
  subst hv
  exact ⟨A, c, he, hb', ho⟩
set_option maxRecDepth 100000 in
set_option maxHeartbeats 16000000 in
theorem irrunSteps_walk (vr vin : Value) (steps more : Int) (raw : List LBlock) (hI : ∀ x ∈ raw, x.I) (inp : List Int) (hlen : (inp.length + 203) * 8 ≤ 140737488355328) (w : World) (hsl : SlR w (· < w.heap.size) 5 (RBlock w (· < w.heap.size)) vr raw) (hin : SlR w (· < w.heap.size) 1 RInt vin inp) (ws : (Lit.int .i64 steps).wf = true) (wm : (Lit.int .i64 more).wf = true) :
    Calls Try.prog 7 #[vr, vin, .int .i64 steps, .int .i64 more] w fun e w' => e = .returned (.bool true) ∧ Below w.heap.size w w' := by
  obtain ⟨Ai, ci, hvi, hil, hic⟩ := hin.val
  subst hvi
  obtain ⟨io, io'⟩ := i64_of_wf ws
  obtain ⟨jo, jo'⟩ := i64_of_wf wm
  have HAW := Lib.hid (awake11_any w)
  have HFIT := Lib.hid (fun (X : World) (hb : Below w.heap.size w X) => fit_any raw hI vr X (hsl.imp (fun _ h => Nat.lt_of_lt_of_le h hb.size) (fun b h => hb.block b h) (fun _ _ _ r => r.imp (fun _ h => Nat.lt_of_lt_of_le h hb.size) (fun b h => hb.block b h))))
  have HP1 := Lib.hid (fun w2 => pick11_any steps 201 io io' (by omega) w2)
  have HP2 := Lib.hid (fun w2 => pick11_any more 201 jo jo' (by omega) w2)
  have p0 := pk_lo steps 201 (by omega)
  have p1 := pk_hi steps 201 (by omega)
  have k0 := pk_lo more 201 (by omega)
  have k1 := pk_hi more 201 (by omega)
  generalize pk steps 201 = nn at *
  generalize pk more 201 = mm at *
  obtain ⟨n, rfl⟩ := Int.eq_ofNat_of_zero_le p0
  obtain ⟨m, rfl⟩ := Int.eq_ofNat_of_zero_le k0
  have hn : n ≤ 200 := by omega
  have hm : m ≤ 200 := by omega
  have HIN := Lib.hid hin
  clear p0 p1 k0 k1 hsl hin hI
  have tok : True := trivial
  go_enter Try.func7, Try.ntmps7
  go_upto_region 3 with (first | (go_at_call 18; refine HAW.out.mono ?_; rintro e w2 ⟨rfl, hb2⟩) | (go_at_call 12; refine (HFIT.out _ hb2).mono ?_; rintro e w3 ⟨va, vf, css, rfl, hb3, hsa, hof⟩; obtain ⟨A1, c1, hva, _, _⟩ := hsa.val; obtain ⟨A2, c2, hvf, _, _⟩ := (ownL_slr hof).val; subst hva hvf))
  refine wp_world ?_
  intro W hW
  have hB : Below w.heap.size w W := by
    have h := hb2.trans (hb3.mono hb2.size)
    rw [← hW]; exact h.alloc h.size _
  have hU : Blk W w3.heap.size 29 #[.slice A1 (fitU raw).arrays.length c1, .slice A2 (fitU raw).flows.length c2] := by rw [← hW]; exact Blk.new w3 _ _
  have hA : SlR W (· < W.heap.size) 2 RArr (.slice A1 (fitU raw).arrays.length c1) (fitU raw).arrays := by rw [← hW]; exact hsa.imp (fun b hb => by have hb' := hb.2; simp; omega) (fun b hb => Below.heap_alloc w3 _ b hb.2) (fun _ _ _ r => r)
  have hF : SlR W (· < W.heap.size) 4 (RFlow W (· < W.heap.size)) (.slice A2 (fitU raw).flows.length c2) (fitU raw).flows := by rw [← hW]; exact (ownL_slr hof).imp (fun b hb => by have hb' : b < w3.heap.size := hb; simp; omega) (fun b hb => Below.heap_alloc w3 _ b hb) (fun _ _ _ r => r.imp (fun b hb => by have hb' : b < w3.heap.size := hb; simp; omega) (fun b hb => Below.heap_alloc w3 _ b hb))
  have u0 : W.cell? ⟨w3.heap.size, 0, none⟩ = some (.slice A1 (fitU raw).arrays.length c1) := hU.cell 0
  have u1 : W.cell? ⟨w3.heap.size, 1, none⟩ = some (.slice A2 (fitU raw).flows.length c2) := hU.cell 1
  have HRUN := Lib.hid (fun inp n hn vin X hb hi => fit_run hA hF inp n hn vin X hb hi)
  have hI1 : SlR W (· < W.heap.size) 1 RInt (.slice Ai inp.length ci) inp := HIN.out.imp (fun b hb => Nat.lt_of_lt_of_le hb hB.size) (fun b hb => hB.block b hb) (fun _ _ _ r => r)
  have HR1 := Lib.hid (HRUN.out inp n (by omega) _ W (Below.refl _ _) hI1)
  have HB := Lib.hid hB
  have HU := Lib.hid hU
  have HI1 := Lib.hid hI1
  have hul := hU.lt
  clear hW hb2 hb3 hsa hof hB hU hA hF HAW HFIT HIN hI1
  go_upto_region 6 with (first | (go_at_call 19; have _t := tok; refine (HP1.out _).mono ?_; rintro e w4 ⟨rfl, rfl⟩; clear tok) | (go_at_call 19; refine (HP2.out _).mono ?_; rintro e w4 ⟨rfl, rfl⟩) | (go_at_call 20; refine HR1.out.mono ?_; rintro e w5 ⟨Aa, ca, rfl, hb5, ho5⟩))
  refine wp_world ?_
  intro W5 hW5
  have hB5 : Below W.heap.size W W5 := by rw [← hW5]; exact hb5.alloc hb5.size _
  have hRA : ResAt W5 W.heap.size w5.heap.size (runU (fitU raw) inp n) := by rw [← hW5]; exact ⟨Aa, ca, Blk.new w5 _ _, ho5.alloc _⟩
  have hral : w5.heap.size < W5.heap.size := by rw [← hW5]; simp
  have hI5 : SlR W5 (· < W5.heap.size) 1 RInt (.slice Ai inp.length ci) inp := HI1.out.imp (fun b hb => Nat.lt_of_lt_of_le hb hB5.size) (fun b hb => hB5.block b hb) (fun _ _ _ r => r)
  have enm : ((n + m : Nat) : Int) = (n : Int) + (m : Int) := by omega
  have hr2 := HRUN.out inp (n + m) (by omega) _ W5 hB5 hI5
  rw [enm] at hr2
  have HR2 := Lib.hid hr2
  have w1 : IntKind.i64.wrap ((n : Int) + (m : Int)) = (n : Int) + (m : Int) := by rw [IntKind.wrap_i64]; omega
  have u50 : W5.cell? ⟨w3.heap.size, 0, none⟩ = some (.slice A1 (fitU raw).arrays.length c1) := (HU.out.below hB5 hul).cell 0
  have u51 : W5.cell? ⟨w3.heap.size, 1, none⟩ = some (.slice A2 (fitU raw).flows.length c2) := (HU.out.below hB5 hul).cell 1
  have HB5 := Lib.hid hB5
  have HRA := Lib.hid hRA
  have HI5 := Lib.hid hI5
  clear hW5 hb5 ho5 hB5 hRA hI5 enm hr2 u0 u1 HR1 HI1
  go_upto_region 7 with (go_at_call 20; refine HR2.out.mono ?_; rintro e w6 ⟨Ab, cb, rfl, hb6, ho6⟩)
  refine wp_world ?_
  intro W6 hW6
  have hB6 : Below W5.heap.size W5 W6 := by rw [← hW6]; exact hb6.alloc hb6.size _
  have hRB : ResAt W6 W5.heap.size w6.heap.size (runU (fitU raw) inp (n + m)) := by rw [← hW6]; exact ⟨Ab, cb, Blk.new w6 _ _, ho6.alloc _⟩
  have hrbl : w6.heap.size < W6.heap.size := by rw [← hW6]; simp
  have HI6 := Lib.hid (HI5.out.imp (ok' := (· < W6.heap.size)) (R' := RInt) (fun b hb => Nat.lt_of_lt_of_le hb hB6.size) (fun b hb => hB6.block b hb) (fun _ _ _ r => r))
  have HRA6 := Lib.hid (HRA.out.keep hB6)
  have HRB6 := Lib.hid hRB
  have hBW6 := HB5.out.trans (hB6.mono HB5.out.size)
  have HBW6 := Lib.hid hBW6
  have hul6 : w3.heap.size < W6.heap.size := Nat.lt_of_lt_of_le hul hBW6.size
  have HU6 := Lib.hid (HU.out.below hBW6 hul)
  have hral6 : w5.heap.size < W6.heap.size := Nat.lt_of_lt_of_le hral hB6.size
  clear hW6 hb6 ho6 hB6 hRB hBW6 u50 u51 HR2 HRA w1
  obtain ⟨z0, hi0, hz0, hz1, hz2⟩ := info_parts info_int1
  go_cut [15] (fun s15 wx => Below W6.heap.size W6 wx ∧ wx.ownsRow W6.heap.size 3 1 s15 inp.length (inp.map (Value.int .i64)))
  case first =>
    by_cases hl : inp.length = 0
    · have hrun : ∀ X, (Builtin.append_ #[41, 41] 41 #[.slice none 0 0, .slice Ai inp.length ci]).run Try.prog X = .ok (.slice none 0 0) X := fun X => by
        rw [hl]
        exact run_append_nothing X 41 41 41 3 z0 Try.underlying41 hi0 none 0 0 (Nat.le_refl 0) _ (by cases Ai with
          | none => exact Src.ofNil (size := z0.size) X Try.underlying41 ci
          | some ad => exact Src.ofSlice (size := z0.size) X Try.underlying41 ad 0 ci [] (by simp) (by simp) (by simp))
      have HL := Lib.hid (List.eq_nil_of_length_eq_zero hl)
      clear hl
      go_wp2_with (at_builtin; refine Go.Lib.wpList_append_run_sl _ rfl _ _ 41 rfl _ _ rfl rfl (hrun _) ?_)
      go_meet
      exact ⟨Below.refl _ _, by rw [HL.out]; exact World.ownsRow_nil _ _ _ _⟩
    · obtain ⟨bb, off, c', hf', _, _, _, _⟩ := HI6.out.form (by omega)
      obtain rfl : Ai = some ⟨bb, off, none⟩ := by injection hf'
      have hnews := news_of_slr HI6.out (by omega)
      have h0 : 0 < inp.length := by omega
      clear hf' hl
      go_wp2_with (at_builtin; refine wpList_append_lies _ rfl _ _ _ rfl W6.heap.size 3 z0 _ 1 8 Try.underlying41 hi0 hz0 hz1 hz2 rfl (by decide) (.slice none 0 0) 0 [] rfl (World.ownsRow_nil _ _ _ _) ⟨bb, off, none⟩ inp.length ci (inp.map fun i => .int .i64 i) rfl (by simp) hnews (ints_one inp) (by omega) (by omega) (by omega) (Nat.le_refl _) W6.heap.size rfl ?_; intro g cap w1 hown1 hgrow hat hlt1)
      go_meet
      simp only [Nat.zero_add, List.nil_append] at hown1
      refine ⟨(Below.refl _ _).grown hgrow (Nat.le_refl _) (fun k e => by cases e), ?_⟩
      simpa using hown1
  case rest =>
    obtain ⟨hbc, hoc⟩ := hcut
    obtain ⟨Ap, cp, hvp⟩ := own_form hoc
    subst hvp
    have HBC := Lib.hid hbc
    have HOC := Lib.hid hoc
    clear hbc hoc HI6
    go_wp2_with fail
    go_loopw [15, 16] (fun v i wr => ∃ j : Nat, j ≤ 202 ∧ i = .int .i64 j ∧ Below W6.heap.size W6 wr ∧ wr.ownsRow W6.heap.size 3 1 v (inp.length + j) ((inp ++ List.replicate j (-1)).map (Value.int .i64))) (fun _ i _ => 202 - (intOf i).toNat)
    case atStart => exact ⟨0, by omega, rfl, HBC.out, by simpa using HOC.out⟩
    case round =>
      obtain ⟨j, hj, rfl, hbw, how⟩ := hrel
      obtain ⟨Av, cv, hv⟩ := own_form how
      subst hv
      have hsz := hbw.size
      by_cases hlt : j < 202
      · have e1 : decide ((j : Int) < 202) = true := decide_eq_true (by omega)
        have HBW := Lib.hid hbw
        have HTS : Hid (inp ++ List.replicate (j + 1) (-1) = (inp ++ List.replicate j (-1)) ++ [-1]) := Lib.hid (by rw [List.replicate_succ', List.append_assoc])
        generalize hxs : (inp ++ List.replicate j (-1)).map (Value.int .i64) = xs at *
        have HXS := Lib.hid hxs
        clear hbw hxs
        go_wp2_with (at_builtin; refine wpList_append_lies _ rfl (.tmp 41) (.tmp 42) _ rfl W6.heap.size 3 z0 _ 1 8 Try.underlying41 hi0 hz0 hz1 hz2 rfl (by decide) _ _ _ rfl (how.alloc _) ⟨wr.heap.size, 0, none⟩ 1 1 [.int .i64 (-1)] rfl rfl (World.news_of_block (cs := #[.int .i64 (-1)]) (t := 3) (fr := (0, 0)) (Blk.new_at _ _ _ (by simp))) (by simp [Value.oneCell']) (by decide) (by unfold maxLen; omega) (by omega) (by simp; omega) (wr.heap.size + 1) (by simp) ?_; intro g cap w1 hown1 hgrow hat hlt1)
        go_roundw
        case rel =>
          refine ⟨j + 1, by omega, by go_num, (HBW.out.alloc hsz _).grown hgrow (by simp; omega) (fun k e => (how.lt k e).1), ?_⟩
          rw [HTS.out, List.map_append, HXS.out]
          exact hown1
        case measure => simp [intOf]; omega
      · obtain rfl : j = 202 := by omega
        have e1 : decide (((202 : Nat) : Int) < 202) = false := decide_eq_false (by omega)
        have HBW := Lib.hid hbw
        have HOW := Lib.hid how
        have hUr := HU6.out.below hbw hul6
        have SO := Lib.hid (fun (X : World) (hb : Below W6.heap.size W6 X) => (⟨(HU6.out.below hb hul6).cell 0, (HU6.out.below hb hul6).cell 1⟩ : (fun w2 => w2.cell? ⟨w3.heap.size, 0, none⟩ = some (.slice A1 (fitU raw).arrays.length c1) ∧ w2.cell? ⟨w3.heap.size, 1, none⟩ = some (.slice A2 (fitU raw).flows.length c2)) X))
        obtain ⟨L5, hL5⟩ : ∃ L5, L5 = (inp ++ List.replicate 202 (-1)) ++ [5] := ⟨_, rfl⟩
        obtain ⟨md, hmd⟩ : ∃ md, md = runU (fitU raw) L5 n := ⟨_, rfl⟩
        have HRUN3 : Hid (∀ X, Below W6.heap.size W6 X → ∀ v, SlR X (· < X.heap.size) 1 RInt v L5 → Calls Try.prog 20 #[.agg #[.slice A1 (fitU raw).arrays.length c1, .slice A2 (fitU raw).flows.length c2], v, .int .i64 (n : Int)] X fun e X' => ∃ A c, e = .returned (.agg #[.int .i64 md.status, .int .i64 md.code, .slice A md.out.length c, .int .i64 md.steps]) ∧ Below X.heap.size X X' ∧ X'.ownsRow X.heap.size 3 1 (.slice A md.out.length c) md.out.length (md.out.map (Value.int .i64))) := Lib.hid (fun X hb v hi => by rw [hmd]; exact HRUN.out L5 n (by omega) v X (HBW6.out.trans (hb.mono HBW6.out.size)) hi)
        have HL5 := Lib.hid hL5
        have HMD := Lib.hid hmd
        clear hL5 hmd
        clear hbw how hUr
        go_upto_region 12 with fail
        go_cut [17] (fun s17 wx => ∃ rd, s17 = .pointer (some ⟨rd, 0, none⟩) ∧ W6.heap.size ≤ rd ∧ Below W6.heap.size W6 wx ∧ ResAt wx W6.heap.size rd md)
        case first =>
          have hx0 : Below W6.heap.size W6 wr.drew := HBW.out.drew
          have hv0 : wr.drew.ownsRow W6.heap.size 3 1 (.slice Av (inp.length + 202) cv) (inp.length + 202) ((inp ++ List.replicate 202 (-1)).map (Value.int .i64)) := HOW.out
          refine wp_region_L (by kernel_rfl) 7 (fun w2 => w2.cell? ⟨w3.heap.size, 0, none⟩ = some (.slice A1 (fitU raw).arrays.length c1) ∧ w2.cell? ⟨w3.heap.size, 1, none⟩ = some (.slice A2 (fitU raw).flows.length c2)) (SO.out _ hx0) (fun hHeld => ?_)
          have HS0 := Lib.hid hHeld
          clear hHeld
          change wpAnyL _ _ _ _ _ 7 8 (Array.replicate 8 false) _ _
          generalize wr.drew = X0 at *
          have HX0 := Lib.hid hx0
          have HV0 := Lib.hid hv0
          clear hx0 hv0
          refine takeL_S 0 44 (.agg #[.slice A1 (fitU raw).arrays.length c1, .slice A2 (fitU raw).flows.length c2]) [7] HS0.out rfl rfl (by kernel_rfl) (by kernel_rfl) (by kernel_rfl) (by decide) (by kernel_rfl) (fun _ _ _ h => h) (by kernel_rfl) ?_ ?_
          · intro w2 hSw; obtain ⟨g0, g1⟩ := hSw; go_simp
          simp only [List.setIfInBounds_toArray, List.set_cons_zero, List.set_cons_succ]
          refine takeL 1 45 (.slice Av (inp.length + 202) cv) HS0.out rfl rfl (by kernel_rfl) (by kernel_rfl) (by kernel_rfl) (by decide) (fun _ _ _ h => h) (by kernel_rfl) ?_ ?_
          · intro w2; go_simp
          simp only [List.setIfInBounds_toArray, List.set_cons_zero, List.set_cons_succ]
          refine takeL 4 48 (.int .i64 (n : Int)) HS0.out rfl rfl (by kernel_rfl) (by kernel_rfl) (by kernel_rfl) (by decide) (fun _ _ _ h => h) (by kernel_rfl) ?_ ?_
          · intro w2; go_simp
          simp only [List.setIfInBounds_toArray, List.set_cons_zero, List.set_cons_succ]
          refine wpAnyL_ready (rs := [2, 6]) (by kernel_rfl) (by simp) ?_
          refine AllReadyL.cons rfl (fun K hK => ?_) (AllReadyL.cons rfl (fun K hK => ?_) AllReadyL.nil)
          · go_simp
            refine hK.out _ _ (SO.out _ (HX0.out.alloc HX0.out.size _)) (fun hHeld => ?_)
            have HS1 := Lib.hid hHeld
            clear hK K hHeld
            try simp only [List.setIfInBounds_toArray, List.set_cons_zero, List.set_cons_succ]
            have hx1 := HX0.out.alloc HX0.out.size (.cells #[.int .i64 5] 3)
            have hn1 : Blk (X0.alloc (.cells #[.int .i64 5] 3)) X0.heap.size 3 #[.int .i64 5] := Blk.new X0 _ _
            have hv1 := HV0.out.alloc (.cells #[.int .i64 5] 3)
            generalize (X0.alloc (.cells #[.int .i64 5] 3)) = X1 at *
            have HX1 := Lib.hid hx1
            have HV1 := Lib.hid hv1
            have HN1 := Lib.hid hn1
            clear hx1 hn1 hv1
            refine wpAnyL_ready (rs := [3, 6]) (by kernel_rfl) (by simp) ?_
            refine AllReadyL.cons rfl (fun K hK => ?_) (AllReadyL.cons rfl (fun K hK => ?_) AllReadyL.nil)
            · have hsx := HX1.out.size
              refine step_append_lies _ (by rfl) _ _ _ (by rfl) W6.heap.size 3 z0 _ 1 8 Try.underlying41 hi0 hz0 hz1 hz2 rfl (by omega) (.slice Av (inp.length + 202) cv) (inp.length + 202) _ (by rfl) HV1.out ⟨X0.heap.size, 0, none⟩ 1 1 [.int .i64 5] (by rfl) (by rfl) (World.news_of_block HN1.out) (by simp [Value.oneCell']) (by omega) (by unfold maxLen; omega) (by omega) hsx X1.heap.size rfl ?_
              intro gp cp' X2 hown2 hgrow2 hat2 hlt2
              have HX2 := Lib.hid (HX1.out.grown hgrow2 hsx (fun k e => (HV1.out.lt k e).1))
              have HA2 := Lib.hid hown2
              clear hsx hown2 hgrow2 hat2 hlt2
              refine hK.out _ _ (SO.out _ HX2.out) (fun hHeld => ?_)
              have HS2 := Lib.hid hHeld
              clear hK K hHeld
              try simp only [List.setIfInBounds_toArray, List.set_cons_zero, List.set_cons_succ]
              refine wpAnyL_ready (rs := [5, 6]) (by kernel_rfl) (by simp) ?_
              refine AllReadyL.cons rfl (fun K hK => ?_) (AllReadyL.cons rfl (fun K hK => ?_) AllReadyL.nil)
              · have hi3 : SlR X2 (· < X2.heap.size) 1 RInt (.slice (some ⟨gp, 0, none⟩) (inp.length + 202 + 1) cp') L5 := slr_of_own (by have h := HA2.out; rw [← List.map_singleton (f := Value.int .i64), ← List.map_append, ← HL5.out] at h; exact h)
                go_simp
                refine (HRUN3.out X2 HX2.out _ hi3).mono ?_
                rintro e X3 ⟨Ad, cd, rfl, hbx3, hox3⟩
                have HX3 := Lib.hid (HX2.out.trans (hbx3.mono HX2.out.size))
                have HO3 := Lib.hid (own_base HX2.out.size hox3)
                clear hbx3 hox3 hi3
                refine hK.out _ _ (SO.out _ HX3.out) (fun hHeld => ?_)
                have HS3 := Lib.hid hHeld
                clear hK K hHeld
                try simp only [List.setIfInBounds_toArray, List.set_cons_zero, List.set_cons_succ]
                refine wpAnyL_ready (rs := [6]) (by kernel_rfl) (by simp) ?_
                refine AllReadyL.cons rfl (fun K hK => ?_) AllReadyL.nil
                go_simp
                refine hK.out _ _ (SO.out _ (HX3.out.alloc HX3.out.size _)) (fun hHeld => ?_)
                have HS4 := Lib.hid hHeld
                clear hK K hHeld
                try simp only [List.setIfInBounds_toArray, List.set_cons_zero, List.set_cons_succ]
                have hx4 := HX3.out.alloc HX3.out.size (.cells #[.int .i64 0, .int .i64 0, .slice none 0 0, .int .i64 0] 48)
                have hr4 : Blk (X3.alloc (.cells #[.int .i64 0, .int .i64 0, .slice none 0 0, .int .i64 0] 48)) X3.heap.size 48 #[.int .i64 0, .int .i64 0, .slice none 0 0, .int .i64 0] := Blk.new X3 _ _
                have ho4 := HO3.out.alloc (.cells #[.int .i64 0, .int .i64 0, .slice none 0 0, .int .i64 0] 48)
                have HRL := Lib.hid HX3.out.size
                generalize (X3.alloc (.cells #[.int .i64 0, .int .i64 0, .slice none 0 0, .int .i64 0] 48)) = X4 at *
                have HX4 := Lib.hid hx4
                have HR4 := Lib.hid hr4
                have HO4 := Lib.hid ho4
                clear hx4 hr4 ho4
                have y0 : X4.cell? ⟨X3.heap.size, 0, none⟩ = some (.int .i64 0) := HR4.out.cell 0
                have y1 : X4.cell? ⟨X3.heap.size, 1, none⟩ = some (.int .i64 0) := HR4.out.cell 1
                have y2 : X4.cell? ⟨X3.heap.size, 2, none⟩ = some (.slice none 0 0) := HR4.out.cell 2
                have y3 : X4.cell? ⟨X3.heap.size, 3, none⟩ = some (.int .i64 0) := HR4.out.cell 3
                have z0' := HR4.out.frozen 0
                have z1' := HR4.out.frozen 1
                have z2' := HR4.out.frozen 2
                have z3' := HR4.out.frozen 3
                refine wpAnyL_ready (rs := [7]) (by kernel_rfl) (by simp) ?_
                refine AllReadyL.last rfl (by kernel_rfl) (fun K hK => ?_)
                go_simp
                refine hK.out _ _ ?_
                clear hK K
                try simp only [List.setIfInBounds_toArray, List.set_cons_zero, List.set_cons_succ]
                refine wpAnyL_done (by kernel_rfl) ?_ _
                go_wp2_with fail
                go_meet
                have hrl := HRL.out
                have hne : ∀ g', (Value.slice Ad md.out.length cd).ownBlock = some g' → g' ≠ X3.heap.size := fun g' e e' => own_ne HO4.out HR4.out (by decide) (by rw [e, e'])
                refine ⟨X3.heap.size, rfl, hrl, (((HX4.out.setCell (p := ⟨X3.heap.size, 0, none⟩) hrl _).setCell (p := ⟨X3.heap.size, 1, none⟩) hrl _).setCell (p := ⟨X3.heap.size, 2, none⟩) hrl _).setCell (p := ⟨X3.heap.size, 3, none⟩) hrl _, Ad, cd, (((HR4.out.set_ 0 _).set_ 1 _).set_ 2 _).set_ 3 _, own_keep HO4.out (fun g' e => ?_)⟩
                rw [Below.heap_setCell _ _ _ g' (hne g' e), Below.heap_setCell _ _ _ g' (hne g' e), Below.heap_setCell _ _ _ g' (hne g' e), Below.heap_setCell _ _ _ g' (hne g' e)]
              · go_simp
                refine hK.out _ _ (SO.out _ (HX2.out.alloc HX2.out.size _)) (fun hHeld => ?_)
                have HS3 := Lib.hid hHeld
                clear hK K hHeld
                try simp only [List.setIfInBounds_toArray, List.set_cons_zero, List.set_cons_succ]
                have hx3 := HX2.out.alloc HX2.out.size (.cells #[.int .i64 0, .int .i64 0, .slice none 0 0, .int .i64 0] 48)
                have hr3 : Blk (X2.alloc (.cells #[.int .i64 0, .int .i64 0, .slice none 0 0, .int .i64 0] 48)) X2.heap.size 48 #[.int .i64 0, .int .i64 0, .slice none 0 0, .int .i64 0] := Blk.new X2 _ _
                have ha3 := HA2.out.alloc (.cells #[.int .i64 0, .int .i64 0, .slice none 0 0, .int .i64 0] 48)
                have HRL := Lib.hid HX2.out.size
                generalize (X2.alloc (.cells #[.int .i64 0, .int .i64 0, .slice none 0 0, .int .i64 0] 48)) = X3 at *
                have HX3 := Lib.hid hx3
                have HR3 := Lib.hid hr3
                have HA3 := Lib.hid ha3
                clear hx3 hr3 ha3
                refine wpAnyL_ready (rs := [5]) (by kernel_rfl) (by simp) ?_
                refine AllReadyL.cons rfl (fun K hK => ?_) AllReadyL.nil
                have hi4 : SlR X3 (· < X3.heap.size) 1 RInt (.slice (some ⟨gp, 0, none⟩) (inp.length + 202 + 1) cp') L5 := slr_of_own (by have h := HA3.out; rw [← List.map_singleton (f := Value.int .i64), ← List.map_append, ← HL5.out] at h; exact h)
                go_simp
                refine (HRUN3.out X3 HX3.out _ hi4).mono ?_
                rintro e X4 ⟨Ad, cd, rfl, hbx4, hox4⟩
                have HX4 := Lib.hid (HX3.out.trans (hbx4.mono HX3.out.size))
                have HO4 := Lib.hid (own_base HX3.out.size hox4)
                have HR4 := Lib.hid (HR3.out.below hbx4 HR3.out.lt)
                clear hbx4 hox4 hi4
                refine hK.out _ _ (SO.out _ HX4.out) (fun hHeld => ?_)
                have HS4 := Lib.hid hHeld
                clear hK K hHeld
                try simp only [List.setIfInBounds_toArray, List.set_cons_zero, List.set_cons_succ]
                have y0 : X4.cell? ⟨X2.heap.size, 0, none⟩ = some (.int .i64 0) := HR4.out.cell 0
                have y1 : X4.cell? ⟨X2.heap.size, 1, none⟩ = some (.int .i64 0) := HR4.out.cell 1
                have y2 : X4.cell? ⟨X2.heap.size, 2, none⟩ = some (.slice none 0 0) := HR4.out.cell 2
                have y3 : X4.cell? ⟨X2.heap.size, 3, none⟩ = some (.int .i64 0) := HR4.out.cell 3
                have z0' := HR4.out.frozen 0
                have z1' := HR4.out.frozen 1
                have z2' := HR4.out.frozen 2
                have z3' := HR4.out.frozen 3
                refine wpAnyL_ready (rs := [7]) (by kernel_rfl) (by simp) ?_
                refine AllReadyL.last rfl (by kernel_rfl) (fun K hK => ?_)
                go_simp
                refine hK.out _ _ ?_
                clear hK K
                try simp only [List.setIfInBounds_toArray, List.set_cons_zero, List.set_cons_succ]
                refine wpAnyL_done (by kernel_rfl) ?_ _
                go_wp2_with fail
                go_meet
                have hrl := HRL.out
                have hne : ∀ g', (Value.slice Ad md.out.length cd).ownBlock = some g' → g' ≠ X2.heap.size := fun g' e e' => own_ne HO4.out HR4.out (by decide) (by rw [e, e'])
                refine ⟨X2.heap.size, rfl, hrl, (((HX4.out.setCell (p := ⟨X2.heap.size, 0, none⟩) hrl _).setCell (p := ⟨X2.heap.size, 1, none⟩) hrl _).setCell (p := ⟨X2.heap.size, 2, none⟩) hrl _).setCell (p := ⟨X2.heap.size, 3, none⟩) hrl _, Ad, cd, (((HR4.out.set_ 0 _).set_ 1 _).set_ 2 _).set_ 3 _, own_keep HO4.out (fun g' e => ?_)⟩
                rw [Below.heap_setCell _ _ _ g' (hne g' e), Below.heap_setCell _ _ _ g' (hne g' e), Below.heap_setCell _ _ _ g' (hne g' e), Below.heap_setCell _ _ _ g' (hne g' e)]
            · go_simp
              refine hK.out _ _ (SO.out _ (HX1.out.alloc HX1.out.size _)) (fun hHeld => ?_)
              have HS2 := Lib.hid hHeld
              clear hK K hHeld
              try simp only [List.setIfInBounds_toArray, List.set_cons_zero, List.set_cons_succ]
              have hx2 := HX1.out.alloc HX1.out.size (.cells #[.int .i64 0, .int .i64 0, .slice none 0 0, .int .i64 0] 48)
              have hr2 : Blk (X1.alloc (.cells #[.int .i64 0, .int .i64 0, .slice none 0 0, .int .i64 0] 48)) X1.heap.size 48 #[.int .i64 0, .int .i64 0, .slice none 0 0, .int .i64 0] := Blk.new X1 _ _
              have hv2 := HV1.out.alloc (.cells #[.int .i64 0, .int .i64 0, .slice none 0 0, .int .i64 0] 48)
              have hn2 := HN1.out.alloc (.cells #[.int .i64 0, .int .i64 0, .slice none 0 0, .int .i64 0] 48)
              have HRL := Lib.hid HX1.out.size
              generalize (X1.alloc (.cells #[.int .i64 0, .int .i64 0, .slice none 0 0, .int .i64 0] 48)) = X2 at *
              have HX2 := Lib.hid hx2
              have HR2 := Lib.hid hr2
              have HV2 := Lib.hid hv2
              have HN2 := Lib.hid hn2
              clear hx2 hr2 hv2 hn2
              refine wpAnyL_ready (rs := [3]) (by kernel_rfl) (by simp) ?_
              refine AllReadyL.cons rfl (fun K hK => ?_) AllReadyL.nil
              have hsx := HX2.out.size
              refine step_append_lies _ (by rfl) _ _ _ (by rfl) W6.heap.size 3 z0 _ 1 8 Try.underlying41 hi0 hz0 hz1 hz2 rfl (by omega) (.slice Av (inp.length + 202) cv) (inp.length + 202) _ (by rfl) HV2.out ⟨X0.heap.size, 0, none⟩ 1 1 [.int .i64 5] (by rfl) (by rfl) (World.news_of_block HN2.out) (by simp [Value.oneCell']) (by omega) (by unfold maxLen; omega) (by omega) hsx X2.heap.size rfl ?_
              intro gp cp' X3 hown3 hgrow3 hat3 hlt3
              have HX3 := Lib.hid (HX2.out.grown hgrow3 hsx (fun k e => (HV2.out.lt k e).1))
              have HA3 := Lib.hid hown3
              have HR3 := Lib.hid (HR2.out.grown hgrow3 (own_ne HV2.out HR2.out (by decide)).symm)
              clear hsx hown3 hgrow3 hat3 hlt3
              refine hK.out _ _ (SO.out _ HX3.out) (fun hHeld => ?_)
              have HS3 := Lib.hid hHeld
              clear hK K hHeld
              try simp only [List.setIfInBounds_toArray, List.set_cons_zero, List.set_cons_succ]
              refine wpAnyL_ready (rs := [5]) (by kernel_rfl) (by simp) ?_
              refine AllReadyL.cons rfl (fun K hK => ?_) AllReadyL.nil
              have hi4 : SlR X3 (· < X3.heap.size) 1 RInt (.slice (some ⟨gp, 0, none⟩) (inp.length + 202 + 1) cp') L5 := slr_of_own (by have h := HA3.out; rw [← List.map_singleton (f := Value.int .i64), ← List.map_append, ← HL5.out] at h; exact h)
              go_simp
              refine (HRUN3.out X3 HX3.out _ hi4).mono ?_
              rintro e X4 ⟨Ad, cd, rfl, hbx4, hox4⟩
              have HX4 := Lib.hid (HX3.out.trans (hbx4.mono HX3.out.size))
              have HO4 := Lib.hid (own_base HX3.out.size hox4)
              have HR4 := Lib.hid (HR3.out.below hbx4 HR3.out.lt)
              clear hbx4 hox4 hi4
              refine hK.out _ _ (SO.out _ HX4.out) (fun hHeld => ?_)
              have HS4 := Lib.hid hHeld
              clear hK K hHeld
              try simp only [List.setIfInBounds_toArray, List.set_cons_zero, List.set_cons_succ]
              have y0 : X4.cell? ⟨X1.heap.size, 0, none⟩ = some (.int .i64 0) := HR4.out.cell 0
              have y1 : X4.cell? ⟨X1.heap.size, 1, none⟩ = some (.int .i64 0) := HR4.out.cell 1
              have y2 : X4.cell? ⟨X1.heap.size, 2, none⟩ = some (.slice none 0 0) := HR4.out.cell 2
              have y3 : X4.cell? ⟨X1.heap.size, 3, none⟩ = some (.int .i64 0) := HR4.out.cell 3
              have z0' := HR4.out.frozen 0
              have z1' := HR4.out.frozen 1
              have z2' := HR4.out.frozen 2
              have z3' := HR4.out.frozen 3
              refine wpAnyL_ready (rs := [7]) (by kernel_rfl) (by simp) ?_
              refine AllReadyL.last rfl (by kernel_rfl) (fun K hK => ?_)
              go_simp
              refine hK.out _ _ ?_
              clear hK K
              try simp only [List.setIfInBounds_toArray, List.set_cons_zero, List.set_cons_succ]
              refine wpAnyL_done (by kernel_rfl) ?_ _
              go_wp2_with fail
              go_meet
              have hrl := HRL.out
              have hne : ∀ g', (Value.slice Ad md.out.length cd).ownBlock = some g' → g' ≠ X1.heap.size := fun g' e e' => own_ne HO4.out HR4.out (by decide) (by rw [e, e'])
              refine ⟨X1.heap.size, rfl, hrl, (((HX4.out.setCell (p := ⟨X1.heap.size, 0, none⟩) hrl _).setCell (p := ⟨X1.heap.size, 1, none⟩) hrl _).setCell (p := ⟨X1.heap.size, 2, none⟩) hrl _).setCell (p := ⟨X1.heap.size, 3, none⟩) hrl _, Ad, cd, (((HR4.out.set_ 0 _).set_ 1 _).set_ 2 _).set_ 3 _, own_keep HO4.out (fun g' e => ?_)⟩
              rw [Below.heap_setCell _ _ _ g' (hne g' e), Below.heap_setCell _ _ _ g' (hne g' e), Below.heap_setCell _ _ _ g' (hne g' e), Below.heap_setCell _ _ _ g' (hne g' e)]
          · go_simp
            refine hK.out _ _ (SO.out _ (HX0.out.alloc HX0.out.size _)) (fun hHeld => ?_)
            have HS1 := Lib.hid hHeld
            clear hK K hHeld
            try simp only [List.setIfInBounds_toArray, List.set_cons_zero, List.set_cons_succ]
            have hx1 := HX0.out.alloc HX0.out.size (.cells #[.int .i64 0, .int .i64 0, .slice none 0 0, .int .i64 0] 48)
            have hr1 : Blk (X0.alloc (.cells #[.int .i64 0, .int .i64 0, .slice none 0 0, .int .i64 0] 48)) X0.heap.size 48 #[.int .i64 0, .int .i64 0, .slice none 0 0, .int .i64 0] := Blk.new X0 _ _
            have hv1 := HV0.out.alloc (.cells #[.int .i64 0, .int .i64 0, .slice none 0 0, .int .i64 0] 48)
            have HRL := Lib.hid HX0.out.size
            generalize (X0.alloc (.cells #[.int .i64 0, .int .i64 0, .slice none 0 0, .int .i64 0] 48)) = X1 at *
            have HX1 := Lib.hid hx1
            have HR1 := Lib.hid hr1
            have HV1 := Lib.hid hv1
            clear hx1 hr1 hv1
            refine wpAnyL_ready (rs := [2]) (by kernel_rfl) (by simp) ?_
            refine AllReadyL.cons rfl (fun K hK => ?_) AllReadyL.nil
            go_simp
            refine hK.out _ _ (SO.out _ (HX1.out.alloc HX1.out.size _)) (fun hHeld => ?_)
            have HS2 := Lib.hid hHeld
            clear hK K hHeld
            try simp only [List.setIfInBounds_toArray, List.set_cons_zero, List.set_cons_succ]
            have hx2 := HX1.out.alloc HX1.out.size (.cells #[.int .i64 5] 3)
            have hn2 : Blk (X1.alloc (.cells #[.int .i64 5] 3)) X1.heap.size 3 #[.int .i64 5] := Blk.new X1 _ _
            have hv2 := HV1.out.alloc (.cells #[.int .i64 5] 3)
            have hr2 := HR1.out.alloc (.cells #[.int .i64 5] 3)
            generalize (X1.alloc (.cells #[.int .i64 5] 3)) = X2 at *
            have HX2 := Lib.hid hx2
            have HV2 := Lib.hid hv2
            have HR2 := Lib.hid hr2
            have HN2 := Lib.hid hn2
            clear hx2 hn2 hv2 hr2
            refine wpAnyL_ready (rs := [3]) (by kernel_rfl) (by simp) ?_
            refine AllReadyL.cons rfl (fun K hK => ?_) AllReadyL.nil
            have hsx := HX2.out.size
            refine step_append_lies _ (by rfl) _ _ _ (by rfl) W6.heap.size 3 z0 _ 1 8 Try.underlying41 hi0 hz0 hz1 hz2 rfl (by omega) (.slice Av (inp.length + 202) cv) (inp.length + 202) _ (by rfl) HV2.out ⟨X1.heap.size, 0, none⟩ 1 1 [.int .i64 5] (by rfl) (by rfl) (World.news_of_block HN2.out) (by simp [Value.oneCell']) (by omega) (by unfold maxLen; omega) (by omega) hsx X2.heap.size rfl ?_
            intro gp cp' X3 hown3 hgrow3 hat3 hlt3
            have HX3 := Lib.hid (HX2.out.grown hgrow3 hsx (fun k e => (HV2.out.lt k e).1))
            have HA3 := Lib.hid hown3
            have HR3 := Lib.hid (HR2.out.grown hgrow3 (own_ne HV2.out HR2.out (by decide)).symm)
            clear hsx hown3 hgrow3 hat3 hlt3
            refine hK.out _ _ (SO.out _ HX3.out) (fun hHeld => ?_)
            have HS3 := Lib.hid hHeld
            clear hK K hHeld
            try simp only [List.setIfInBounds_toArray, List.set_cons_zero, List.set_cons_succ]
            refine wpAnyL_ready (rs := [5]) (by kernel_rfl) (by simp) ?_
            refine AllReadyL.cons rfl (fun K hK => ?_) AllReadyL.nil
            have hi4 : SlR X3 (· < X3.heap.size) 1 RInt (.slice (some ⟨gp, 0, none⟩) (inp.length + 202 + 1) cp') L5 := slr_of_own (by have h := HA3.out; rw [← List.map_singleton (f := Value.int .i64), ← List.map_append, ← HL5.out] at h; exact h)
            go_simp
            refine (HRUN3.out X3 HX3.out _ hi4).mono ?_
            rintro e X4 ⟨Ad, cd, rfl, hbx4, hox4⟩
            have HX4 := Lib.hid (HX3.out.trans (hbx4.mono HX3.out.size))
            have HO4 := Lib.hid (own_base HX3.out.size hox4)
            have HR4 := Lib.hid (HR3.out.below hbx4 HR3.out.lt)
            clear hbx4 hox4 hi4
            refine hK.out _ _ (SO.out _ HX4.out) (fun hHeld => ?_)
            have HS4 := Lib.hid hHeld
            clear hK K hHeld
            try simp only [List.setIfInBounds_toArray, List.set_cons_zero, List.set_cons_succ]
            have y0 : X4.cell? ⟨X0.heap.size, 0, none⟩ = some (.int .i64 0) := HR4.out.cell 0
            have y1 : X4.cell? ⟨X0.heap.size, 1, none⟩ = some (.int .i64 0) := HR4.out.cell 1
            have y2 : X4.cell? ⟨X0.heap.size, 2, none⟩ = some (.slice none 0 0) := HR4.out.cell 2
            have y3 : X4.cell? ⟨X0.heap.size, 3, none⟩ = some (.int .i64 0) := HR4.out.cell 3
            have z0' := HR4.out.frozen 0
            have z1' := HR4.out.frozen 1
            have z2' := HR4.out.frozen 2
            have z3' := HR4.out.frozen 3
            refine wpAnyL_ready (rs := [7]) (by kernel_rfl) (by simp) ?_
            refine AllReadyL.last rfl (by kernel_rfl) (fun K hK => ?_)
            go_simp
            refine hK.out _ _ ?_
            clear hK K
            try simp only [List.setIfInBounds_toArray, List.set_cons_zero, List.set_cons_succ]
            refine wpAnyL_done (by kernel_rfl) ?_ _
            go_wp2_with fail
            go_meet
            have hrl := HRL.out
            have hne : ∀ g', (Value.slice Ad md.out.length cd).ownBlock = some g' → g' ≠ X0.heap.size := fun g' e e' => own_ne HO4.out HR4.out (by decide) (by rw [e, e'])
            refine ⟨X0.heap.size, rfl, hrl, (((HX4.out.setCell (p := ⟨X0.heap.size, 0, none⟩) hrl _).setCell (p := ⟨X0.heap.size, 1, none⟩) hrl _).setCell (p := ⟨X0.heap.size, 2, none⟩) hrl _).setCell (p := ⟨X0.heap.size, 3, none⟩) hrl _, Ad, cd, (((HR4.out.set_ 0 _).set_ 1 _).set_ 2 _).set_ 3 _, own_keep HO4.out (fun g' e => ?_)⟩
            rw [Below.heap_setCell _ _ _ g' (hne g' e), Below.heap_setCell _ _ _ g' (hne g' e), Below.heap_setCell _ _ _ g' (hne g' e), Below.heap_setCell _ _ _ g' (hne g' e)]
        case rest =>
          obtain ⟨rd, rfl, hrd, hbx, hRD⟩ := hcut
          have hRA := HRA6.out.keep hbx
          have hRB := HRB6.out.keep hbx
          obtain ⟨y, hy⟩ := pad_run (unit_fit raw) inp [5] n 202 (by omega)
          have e5 : L5 = inp ++ (List.replicate 202 (-1) ++ [5]) := by rw [HL5.out, List.append_assoc]
          obtain ⟨tl, htl⟩ := more_out (fitU raw) inp n m
          have hms := more_steps (fitU raw) inp n m
          have hme := more_end (fitU raw) inp n m
          obtain ⟨hs1, hs2⟩ := runU_steps (unit_fit raw) inp n
          have hcd := run_code (unit_fit raw) inp n
          have hmd := HMD.out
          rw [e5, hy] at hmd
          generalize runU (fitU raw) inp n = ma at *
          generalize runU (fitU raw) inp (n + m) = mb at *
          obtain ⟨d1, d2, d3, d4⟩ : md.status = ma.status ∧ md.code = ma.code ∧ md.out = ma.out ∧ md.steps = ma.steps := by rw [hmd]; exact ⟨rfl, rfl, rfl, rfl⟩
          obtain ⟨Aa, ca, hRa, hoa⟩ := hRA
          obtain ⟨Ab, cb, hRb, hob⟩ := hRB
          obtain ⟨Ad, cd, hRd, hod⟩ := hRD
          rw [d1, d2, d3, d4] at hRd
          rw [d3] at hod
          have a0 : wc.cell? ⟨w5.heap.size, 0, none⟩ = some (.int .i64 ma.status) := hRa.cell 0
          have a1 : wc.cell? ⟨w5.heap.size, 1, none⟩ = some (.int .i64 ma.code) := hRa.cell 1
          have a2 : wc.cell? ⟨w5.heap.size, 2, none⟩ = some (.slice Aa ma.out.length ca) := hRa.cell 2
          have a3 : wc.cell? ⟨w5.heap.size, 3, none⟩ = some (.int .i64 ma.steps) := hRa.cell 3
          have b2 : wc.cell? ⟨w6.heap.size, 2, none⟩ = some (.slice Ab mb.out.length cb) := hRb.cell 2
          have b3 : wc.cell? ⟨w6.heap.size, 3, none⟩ = some (.int .i64 mb.steps) := hRb.cell 3
          have hsA := slr_of_own hoa
          have hsB := slr_of_own hob
          have hsD := slr_of_own hod
          have hsB' : SlR wc (· < wc.heap.size) 1 RInt (.slice Ab mb.out.length cb) (ma.out ++ tl) := by rw [← htl]; exact hsB
          have HBG := Lib.hid (begins_true ma.out tl _ _ _ _ wc hsA hsB')
          have HSM := Lib.hid (fun (X : World) (hb : Below wc.heap.size wc X) => same_true ma.status ma.code ma.steps ma.out (.slice Aa ma.out.length ca) (.slice Ad ma.out.length cd) X (hsA.imp (fun _ h => Nat.lt_of_lt_of_le h hb.size) (fun b h => hb.block b h) (fun _ _ _ r => r)) (hsD.imp (fun _ h => Nat.lt_of_lt_of_le h hb.size) (fun b h => hb.block b h) (fun _ _ _ r => r)))
          have HRa := Lib.hid hRa
          have HRb := Lib.hid hRb
          have HRd := Lib.hid hRd
          have hal := hRa.lt
          have hbl := hRb.lt
          have hdl := hRd.lt
          have HSA := Lib.hid hsA
          have HSB := Lib.hid hsB
          have HBX := Lib.hid hbx
          have e1 : decide (ma.steps > (n : Int)) = false := decide_eq_false (by omega)
          have e1' : decide ((n : Int) < ma.steps) = false := decide_eq_false (by omega)
          have e2 : decide (mb.steps < ma.steps) = false := decide_eq_false (by omega)
          have HFA := Lib.hid (fun (x1 : World) (hb1 : Below wc.heap.size wc x1) => (⟨(hRa.below hb1 hal).cell 0, (hRa.below hb1 hal).cell 1, (hRa.below hb1 hal).cell 2, (hRa.below hb1 hal).cell 3, (hRd.below hb1 hdl).cell 0, (hRd.below hb1 hdl).cell 1, (hRd.below hb1 hdl).cell 2, (hRd.below hb1 hdl).cell 3⟩ :
            x1.cell? ⟨w5.heap.size, 0, none⟩ = some (.int .i64 ma.status) ∧ x1.cell? ⟨w5.heap.size, 1, none⟩ = some (.int .i64 ma.code) ∧ x1.cell? ⟨w5.heap.size, 2, none⟩ = some (.slice Aa ma.out.length ca) ∧ x1.cell? ⟨w5.heap.size, 3, none⟩ = some (.int .i64 ma.steps) ∧ x1.cell? ⟨rd, 0, none⟩ = some (.int .i64 ma.status) ∧ x1.cell? ⟨rd, 1, none⟩ = some (.int .i64 ma.code) ∧ x1.cell? ⟨rd, 2, none⟩ = some (.slice Ad ma.out.length cd) ∧ x1.cell? ⟨rd, 3, none⟩ = some (.int .i64 ma.steps)))
          have HME := Lib.hid hme
          have HS2 := Lib.hid hs2
          have HCD := Lib.hid hcd
          clear hRa hRb hRd hoa hob hod hsA hsB hsB' hsD htl hms hme hs1 hs2 hcd hmd d1 d2 d3 d4 hy e5 hbx
          have hfin : ∀ x3, Below wc.heap.size wc x3 → Below w.heap.size w x3 := fun x3 h3 => by
            have k1 := HB.out.trans (HBW6.out.mono HB.out.size)
            have k2 := k1.trans (HBX.out.mono k1.size)
            exact k2.trans (h3.mono k2.size)
          have HFIN := Lib.hid hfin
          have tk1 : True := trivial
          clear hfin
          clear hlen hil hic io io' jo jo' hn hm hul hul6 hral hral6 hrbl hal hdl hrd HU HU6 HRUN HRUN3 HP2 HRA6 HRB6 HB5 HBC HOC HOW HL5 HMD HI5 SO HRa HRd hi0 hz0 hz1 hz2
          go_upto_region 13 with fail
          refine wp_region_lit ?_
          refine takeP 50 (.bool true) rfl (by kernel_rfl) (by go_simp) ?_
          simp only [List.setIfInBounds_toArray, List.set_cons_zero, List.set_cons_succ]
          refine takeP 51 (.bool false) rfl (by kernel_rfl) (by go_simp) ?_
          simp only [List.setIfInBounds_toArray, List.set_cons_zero, List.set_cons_succ]
          refine takeP 52 (.bool false) rfl (by kernel_rfl) (by go_simp) ?_
          simp only [List.setIfInBounds_toArray, List.set_cons_zero, List.set_cons_succ]
          refine takeP 53 (.pointer (some ⟨w5.heap.size, 3, none⟩)) rfl (by kernel_rfl) (by go_simp) ?_
          simp only [List.setIfInBounds_toArray, List.set_cons_zero, List.set_cons_succ]
          refine takeP 54 (.int .i64 ma.steps) rfl (by kernel_rfl) (by go_simp) ?_
          simp only [List.setIfInBounds_toArray, List.set_cons_zero, List.set_cons_succ]
          refine takeP 55 (.int .i64 (n : Int)) rfl (by kernel_rfl) (by go_simp) ?_
          simp only [List.setIfInBounds_toArray, List.set_cons_zero, List.set_cons_succ]
          refine takeP 56 (.bool false) rfl (by kernel_rfl) (by go_simp) ?_
          simp only [List.setIfInBounds_toArray, List.set_cons_zero, List.set_cons_succ]
          refine takeP 57 (.bool false) rfl (by kernel_rfl) (by go_simp) ?_
          simp only [List.setIfInBounds_toArray, List.set_cons_zero, List.set_cons_succ]
          refine takeP 58 (.bool false) rfl (by kernel_rfl) (by go_simp) ?_
          simp only [List.setIfInBounds_toArray, List.set_cons_zero, List.set_cons_succ]
          refine takeP 59 (.pointer (some ⟨w6.heap.size, 3, none⟩)) rfl (by kernel_rfl) (by go_simp) ?_
          simp only [List.setIfInBounds_toArray, List.set_cons_zero, List.set_cons_succ]
          refine takeP 60 (.int .i64 mb.steps) rfl (by kernel_rfl) (by go_simp) ?_
          simp only [List.setIfInBounds_toArray, List.set_cons_zero, List.set_cons_succ]
          refine takeP 61 (.pointer (some ⟨w5.heap.size, 3, none⟩)) rfl (by kernel_rfl) (by go_simp) ?_
          simp only [List.setIfInBounds_toArray, List.set_cons_zero, List.set_cons_succ]
          refine takeP 62 (.int .i64 ma.steps) rfl (by kernel_rfl) (by go_simp) ?_
          simp only [List.setIfInBounds_toArray, List.set_cons_zero, List.set_cons_succ]
          refine takeP 63 (.bool false) rfl (by kernel_rfl) (by go_simp) ?_
          simp only [List.setIfInBounds_toArray, List.set_cons_zero, List.set_cons_succ]
          refine takeP 64 (.bool false) rfl (by kernel_rfl) (by go_simp) ?_
          simp only [List.setIfInBounds_toArray, List.set_cons_zero, List.set_cons_succ]
          refine takeP 65 (.bool false) rfl (by kernel_rfl) (by go_simp) ?_
          simp only [List.setIfInBounds_toArray, List.set_cons_zero, List.set_cons_succ]
          refine takeP 66 (.pointer (some ⟨w5.heap.size, 2, none⟩)) rfl (by kernel_rfl) (by go_simp) ?_
          simp only [List.setIfInBounds_toArray, List.set_cons_zero, List.set_cons_succ]
          refine takeP 67 (.slice Aa ma.out.length ca) rfl (by kernel_rfl) (by go_simp) ?_
          simp only [List.setIfInBounds_toArray, List.set_cons_zero, List.set_cons_succ]
          refine takeP 68 (.pointer (some ⟨w6.heap.size, 2, none⟩)) rfl (by kernel_rfl) (by go_simp) ?_
          simp only [List.setIfInBounds_toArray, List.set_cons_zero, List.set_cons_succ]
          refine takeP 69 (.slice Ab mb.out.length cb) rfl (by kernel_rfl) (by go_simp) ?_
          simp only [List.setIfInBounds_toArray, List.set_cons_zero, List.set_cons_succ]
          refine stepP (by kernel_rfl) (fun K hK => ?_)
          go_simp
          refine HBG.out.mono ?_
          rintro e x1 ⟨rfl, hb1⟩
          obtain ⟨f0, f1, f2, f3, g0, g1, g2, g3⟩ := HFA.out x1 hb1
          refine hK.out _ _ ?_
          clear hK K
          try simp only [List.setIfInBounds_toArray, List.set_cons_zero, List.set_cons_succ]
          refine takeP 71 (.bool false) rfl (by kernel_rfl) (by go_simp) ?_
          simp only [List.setIfInBounds_toArray, List.set_cons_zero, List.set_cons_succ]
          refine takeP 72 (.bool false) rfl (by kernel_rfl) (by go_simp) ?_
          simp only [List.setIfInBounds_toArray, List.set_cons_zero, List.set_cons_succ]
          refine takeP 73 (.bool false) rfl (by kernel_rfl) (by go_simp) ?_
          simp only [List.setIfInBounds_toArray, List.set_cons_zero, List.set_cons_succ]
          refine takeP 74 (.agg #[.int .i64 ma.status, .int .i64 ma.code, .slice Aa ma.out.length ca, .int .i64 ma.steps]) rfl (by kernel_rfl) (by go_simp) ?_
          simp only [List.setIfInBounds_toArray, List.set_cons_zero, List.set_cons_succ]
          refine takeP 75 (.agg #[.int .i64 ma.status, .int .i64 ma.code, .slice Ad ma.out.length cd, .int .i64 ma.steps]) rfl (by kernel_rfl) (by go_simp) ?_
          simp only [List.setIfInBounds_toArray, List.set_cons_zero, List.set_cons_succ]
          refine stepP (by kernel_rfl) (fun K hK => ?_)
          go_simp
          refine (HSM.out _ hb1).mono ?_
          rintro e x2 ⟨rfl, hb2⟩
          clear f0 f1 f2 f3 g0 g1 g2 g3
          obtain ⟨f0, f1, f2, f3, _, _, _, _⟩ := HFA.out x2 (hb1.trans (hb2.mono hb1.size))
          refine hK.out _ _ ?_
          clear hK K
          try simp only [List.setIfInBounds_toArray, List.set_cons_zero, List.set_cons_succ]
          refine takeP 77 (.bool false) rfl (by kernel_rfl) (by go_simp) ?_
          simp only [List.setIfInBounds_toArray, List.set_cons_zero, List.set_cons_succ]
          refine takeP 78 (.bool false) rfl (by kernel_rfl) (by go_simp) ?_
          simp only [List.setIfInBounds_toArray, List.set_cons_zero, List.set_cons_succ]
          refine wpList_nil ?_
          have hb12 := hb1.trans (hb2.mono hb1.size)
          have HB12 := Lib.hid hb12
          clear hb1 hb2 hb12 tk1
          by_cases hs : ma.status = 0
          · have e3 : (ma.status != 0) = false := by simp [hs]
            have e4 : (ma.steps == (n : Int)) = true := by rw [beq_dec]; exact decide_eq_true (HS2.out hs)
            have e5 : (ma.code == 0) = true := by rw [beq_dec]; exact decide_eq_true (HCD.out hs)
            clear hs
            go_wp2
            go_ret
            exact ⟨rfl, HFIN.out _ HB12.out⟩
          · have e3 : (ma.status != 0) = true := by simp [hs]
            have hmm := HME.out hs
            have hRb := HRb.out.below HB12.out hbl
            have hsB2 := HSB.out
            rw [hmm] at hRb hsB2
            have q0 : x2.cell? ⟨w6.heap.size, 0, none⟩ = some (.int .i64 ma.status) := hRb.cell 0
            have q1 : x2.cell? ⟨w6.heap.size, 1, none⟩ = some (.int .i64 ma.code) := hRb.cell 1
            have q2 : x2.cell? ⟨w6.heap.size, 2, none⟩ = some (.slice Ab ma.out.length cb) := hRb.cell 2
            have q3 : x2.cell? ⟨w6.heap.size, 3, none⟩ = some (.int .i64 ma.steps) := hRb.cell 3
            have HS3 := Lib.hid (same_true ma.status ma.code ma.steps ma.out (.slice Aa ma.out.length ca) (.slice Ab ma.out.length cb) x2 (HSA.out.imp (fun _ h => Nat.lt_of_lt_of_le h HB12.out.size) (fun b h => HB12.out.block b h) (fun _ _ _ r => r)) (hsB2.imp (fun _ h => Nat.lt_of_lt_of_le h HB12.out.size) (fun b h => HB12.out.block b h) (fun _ _ _ r => r)))
            clear hmm hRb hsB2 hs
            go_wp2_with (go_at_call 22; refine HS3.out.mono ?_; rintro e x3 ⟨rfl, hb3⟩)
            go_ret
            exact ⟨rfl, HFIN.out _ (HB12.out.trans (hb3.mono HB12.out.size))⟩
end Go.Proofs.Ytknccacfhknnaaa
