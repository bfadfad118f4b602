/- What irrun's pop does. -/
import Derived.Test.YtknccacfhknnaaaRunSmall
import Derived.StillTailTactics
namespace Go.Proofs.Ytknccacfhknnaaa
open Go.RowKit

set_option maxRecDepth 100000 in
set_option maxHeartbeats 4000000 in
/-- the last call returns: the run ends -/
theorem pop_last (base rb cap g cb : Nat) (into : Int) (va vf vm vin vout : Value) (st co sp n : Int) (w : World) (h : RunBlk w rb va vf vm vin (.slice (some ⟨g, 0, none⟩) 1 cap) st co vout sp) (hcap : 1 ≤ cap) (hr : w.ownsRow base 113 1 (.slice (some ⟨g, 0, none⟩) 1 cap) 1 ([cb].reverse.map fun b => .pointer (some ⟨b, 0, none⟩))) (hm : cap ≤ maxLen)
    (hi : w.cell? ⟨cb, 7, none⟩ = some (.int .i64 into)) :
    Calls Try.prog 106 #[.pointer (some ⟨rb, 0, none⟩), .int .i64 n] w fun e w' => e = .returned (.tuple #[]) ∧ RunBlk w' rb va vf vm vin (.slice (some ⟨g, 0, none⟩) 0 cap) 1 n vout sp ∧ w.grownBy w' (some rb) := by
  have HT := Lib.hid (top_any base rb 1 cap g cb va vf vm vin vout st co sp [] w rfl h hr (by unfold maxLen; omega))
  have HH := Lib.hid h
  unfold maxLen at hm
  clear h hr
  go_enter Try.func106, Try.ntmps106
  go_upto_region 1 with (go_at_call 59; refine HT.out.mono ?_; rintro e w' ⟨rfl, k, rfl⟩)
  refine wp_world ?_
  intro W hW
  have hb : RunBlk W rb va vf vm vin (.slice (some ⟨g, 0, none⟩) 1 cap) st co vout sp := ⟨by rw [← hW]; exact HH.out.blk⟩
  have hg : w.grownBy W (some rb) := by rw [← hW]; exact (below_drewN (Below.refl w.heap.size w) _ |> fun b => ⟨b.os, b.tape, b.output, b.size, fun k hk _ => b.block k hk⟩)
  have c4 : W.cell? ⟨rb, 4, none⟩ = some (.slice (some ⟨g, 0, none⟩) 1 cap) := hb.blk.cell 4
  have z4 := hb.blk.frozen 4
  have HB := Lib.hid hb
  have HG := Lib.hid hg
  clear hW hb hg hi c4 z4
  obtain ⟨W2, hW2⟩ : ∃ W2, W2 = W.drew := ⟨_, rfl⟩
  have hb2 : RunBlk W2 rb va vf vm vin (.slice (some ⟨g, 0, none⟩) 1 cap) st co vout sp := ⟨by rw [hW2]; exact HB.out.blk⟩
  have hg2 : w.grownBy W2 (some rb) := by rw [hW2]; exact ⟨HG.out.os, HG.out.tape, HG.out.output, HG.out.size, HG.out.block⟩
  have c4 : W.cell? ⟨rb, 4, none⟩ = some (.slice (some ⟨g, 0, none⟩) 1 cap) := HB.out.blk.cell 4
  have p1 : (0 : Int) ≤ (cap : Int) := by omega

  have p3 : IntKind.i64.wrap 0 = 0 := by decide
  go_still_tail 14, (by kernel_rfl)
  change wpList _ _ _ _ _ W.drew
  rw [← hW2]
  have HB2 := Lib.hid hb2
  have HG2 := Lib.hid hg2
  have d4 : W2.cell? ⟨rb, 4, none⟩ = some (.slice (some ⟨g, 0, none⟩) 1 cap) := hb2.blk.cell 4
  have z4 := hb2.blk.frozen 4
  clear hW2 c4 hb2 hg2 HB HG
  have HE := Lib.hid (fun (w3 : World) (h : RunBlk w3 rb va vf vm vin (.slice (some ⟨g, 0, none⟩) 0 cap) st co vout sp) => end_any rb va vf vm vin (.slice (some ⟨g, 0, none⟩) 0 cap) vout st co sp 1 n w3 h)
  go_wp2_with (go_at_call 107; refine (HE.out _ ⟨HB2.out.blk.set_ 4 _⟩).mono ?_; rintro e w4 ⟨rfl, hb4, hg4⟩)
  refine bodyPost_ret (results_none rfl _ _ _) rfl ?_
  exact ⟨rfl, hb4, (HG2.out.trans (grown_set1 _ _ _)).trans hg4⟩


/-- a row without its last element -/
theorem row_cut {w : World} {base g cap k : Nat} {e : TypeId} {xs : List Value} {x : Value} (h : w.ownsRow base e 1 (.slice (some ⟨g, 0, none⟩) (k + 1) cap) (k + 1) (xs ++ [x])) (hk : xs.length = k) : w.ownsRow base e 1 (.slice (some ⟨g, 0, none⟩) k cap) k xs := by
  rcases h.2 with ⟨hn, _⟩ | ⟨g', cap', cur, hv, hb, hg, h1, h2, h3, h4⟩
  · cases hn
  · obtain ⟨rfl, rfl⟩ : g = g' ∧ cap = cap' := by injection hv with h5 _ h6; injection h5 with h5; injection h5 with h5; exact ⟨h5, h6⟩
    refine ⟨by simp [hk], .inr ⟨g, cap, cur, rfl, hb, hg, by omega, h2, h3, ?_⟩⟩
    have h5 := congrArg (List.take k) h4
    rw [Nat.mul_one, List.take_take, List.take_append_of_le_length (by omega)] at h5
    rw [Nat.mul_one]
    rw [show min k (k + 1) = k by omega] at h5
    rw [h5, List.take_of_length_le (by omega)]

set_option maxRecDepth 100000 in
set_option maxHeartbeats 4000000 in
/-- a call returns to its caller -/
theorem pop_more (base rb cap g cb cb2 vb m k : Nat) (into : Int) (va vf vm vin vout : Value) (st co sp n : Int) (bs : List Nat) (w : World) (h : RunBlk w rb va vf vm vin (.slice (some ⟨g, 0, none⟩) (k + 1) cap) st co vout sp) (hr : w.ownsRow base 113 1 (.slice (some ⟨g, 0, none⟩) (k + 1) cap) (k + 1) ((cb :: cb2 :: bs).reverse.map fun b => .pointer (some ⟨b, 0, none⟩))) (hk : k = bs.length + 1) (hcap : k + 1 ≤ cap) (hm : cap ≤ maxLen)
    (hi : w.cell? ⟨cb, 7, none⟩ = some (.int .i64 into)) (h0 : 0 ≤ into) (h1 : into < (m : Int)) (hv : w.cell? ⟨cb2, 4, none⟩ = some (.slice (some ⟨vb, 0, none⟩) m m)) (hx : ∃ x, w.cell? ⟨vb, into.toNat, none⟩ = some (.int .i64 x)) (hz : w.frozen? ⟨vb, into.toNat, none⟩ = false) (hne : cb2 ≠ rb) (hne2 : vb ≠ rb) (hng : g ≠ rb) :
    Calls Try.prog 106 #[.pointer (some ⟨rb, 0, none⟩), .int .i64 n] w fun e w' => e = .returned (.tuple #[]) ∧ ∃ w1, RunBlk w1 rb va vf vm vin (.slice (some ⟨g, 0, none⟩) k cap) st co vout sp ∧ w.grownBy w1 (some rb) ∧ w' = w1.setCell ⟨vb, into.toNat, none⟩ (.int .i64 n) := by
  have HT := Lib.hid (top_any base rb (k + 1) cap g cb va vf vm vin vout st co sp (cb2 :: bs) w (by simp [hk]) h hr (by omega))
  have HH := Lib.hid h
  obtain ⟨x, hx⟩ := hx
  have hrow := row_cut (xs := (cb2 :: bs).reverse.map fun b => .pointer (some ⟨b, 0, none⟩)) (x := .pointer (some ⟨cb, 0, none⟩)) (k := k) (by simpa using hr) (by simp [hk])
  have HROW := Lib.hid hrow
  have HV := Lib.hid hv
  have HX := Lib.hid hx
  have HZ := Lib.hid hz
  have hcb2 : cb2 < w.heap.size := World.block_lt_of_cell? w _ hv
  have hvb : vb < w.heap.size := World.block_lt_of_cell? w _ hx
  unfold maxLen at hm
  clear h hr hrow hv hx hz
  go_enter Try.func106, Try.ntmps106
  go_upto_region 1 with (go_at_call 59; refine HT.out.mono ?_; rintro e w' ⟨rfl, kk, rfl⟩)
  refine wp_world ?_
  intro W hW
  have hW2 : W.drew.heap = w.heap := by rw [← hW]; rfl
  have hb : RunBlk W rb va vf vm vin (.slice (some ⟨g, 0, none⟩) (k + 1) cap) st co vout sp := ⟨by rw [← hW]; exact HH.out.blk⟩
  have hg2 : w.grownBy W.drew (some rb) := by rw [← hW]; exact ⟨rfl, rfl, rfl, Nat.le_refl _, fun _ _ _ => rfl⟩
  have hc2 : W.cell? ⟨rb, 4, none⟩ = some (.slice (some ⟨g, 0, none⟩) (k + 1) cap) := hb.blk.cell 4
  have HB := Lib.hid hb
  clear hW hb hi HT
  have p1 : (0 : Int) ≤ (cap : Int) := by omega
  have p3 : IntKind.i64.wrap (k : Int) = (k : Int) := by rw [IntKind.wrap_i64]; omega
  have p5 : (k : Int) ≤ (cap : Int) := by omega
  have HKB := Lib.hid hk
  clear hk
  go_still_tail 14, (by kernel_rfl)
  change wpList _ _ _ _ _ W.drew
  have hb2 : RunBlk W.drew rb va vf vm vin (.slice (some ⟨g, 0, none⟩) (k + 1) cap) st co vout sp := ⟨HB.out.blk⟩
  generalize W.drew = W2 at *
  have d4 : W2.cell? ⟨rb, 4, none⟩ = some (.slice (some ⟨g, 0, none⟩) (k + 1) cap) := hb2.blk.cell 4
  have z4 := hb2.blk.frozen 4
  have HB2 := Lib.hid hb2
  have HG2 := Lib.hid hg2
  clear hb2 hg2 hc2 hW2 HB HH p3
  go_upto_region 2 with fail
  refine wp_world ?_
  intro W3 hW3
  have hb3 : RunBlk W3 rb va vf vm vin (.slice (some ⟨g, 0, none⟩) k cap) st co vout sp := ⟨by rw [← hW3]; exact HB2.out.blk.set_ 4 _⟩
  have hg3 : w.grownBy W3 (some rb) := by rw [← hW3]; exact HG2.out.trans (grown_set1 _ _ _)
  clear hW3 d4 z4 HB2 HG2
  have far : ∀ b i, b < w.heap.size → b ≠ rb → W3.cell? ⟨b, i, none⟩ = w.cell? ⟨b, i, none⟩ := fun b i h hn => World.cell?_of_block (w := w) (w' := W3) (a := ⟨b, i, none⟩) (hg3.block b h (fun e => by injection e with e; exact hn e))
  have hr3 : W3.ownsRow base 113 1 (.slice (some ⟨g, 0, none⟩) k cap) k ((cb2 :: bs).reverse.map fun b => .pointer (some ⟨b, 0, none⟩)) := HROW.out.kept hg3 (.inr (fun e => hng (by injection e)))
  have HT3 := Lib.hid (top_any base rb k cap g cb2 va vf vm vin vout st co sp bs W3 HKB.out hb3 hr3 (by unfold maxLen; omega))
  have v4 : W3.cell? ⟨cb2, 4, none⟩ = some (.slice (some ⟨vb, 0, none⟩) m m) := (far cb2 4 hcb2 hne).trans HV.out
  have vx : W3.cell? ⟨vb, into.toNat, none⟩ = some (.int .i64 x) := (far vb _ hvb hne2).trans HX.out
  have vz : W3.frozen? ⟨vb, into.toNat, none⟩ = false := by
    have h := hg3.block vb hvb (fun e => by injection e with e; exact hne2 e)
    have hz := HZ.out
    simp only [World.frozen?] at hz ⊢
    rw [h]; exact hz
  have c4 : W3.cell? ⟨rb, 4, none⟩ = some (.slice (some ⟨g, 0, none⟩) k cap) := hb3.blk.cell 4
  have e0 : ((k : Int) == 0) = false := by have := HKB.out; rw [beq_dec]; exact decide_eq_false (by omega)
  have HB3 := Lib.hid hb3
  have HG3 := Lib.hid hg3
  clear hb3 hg3 far hr3 HROW HV HX HZ
  go_wp2_with (go_at_call 59; refine HT3.out.mono ?_; rintro e w' ⟨rfl, kk, rfl⟩)
  go_end0
  refine ⟨rfl, W3.drewN kk, ⟨HB3.out.blk⟩, ⟨HG3.out.os, HG3.out.tape, HG3.out.output, HG3.out.size, HG3.out.block⟩, rfl⟩
end Go.Proofs.Ytknccacfhknnaaa
