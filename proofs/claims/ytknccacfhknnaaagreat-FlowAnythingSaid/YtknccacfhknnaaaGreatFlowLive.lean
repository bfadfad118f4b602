/- What flow.Live does: what is wanted at each block's beginning, rising. -/
import Derived.Test.YtknccacfhknnaaaGreatFlowWanted
namespace Go.Proofs.YtknccacfhknnaaaGreat
open Go.RowKit Go.Maps

def RInts (w : World) (ok : Nat → Prop) (cs : List Value) (l : List Int) : Prop := ∃ v, cs = [v] ∧ SlR w ok 1 RInt v l
theorem mono_ints : MonoR RInts := fun _ _ _ _ _ _ ⟨v, e, h⟩ a b => ⟨v, e, h.imp a b fun _ _ _ r => r⟩
/-- a call hands back rows of numbers of its own -/
def RowsPost (ls : List (List Int)) (w : World) (e : Ending) (w' : World) : Prop :=
  ∃ v, e = .returned v ∧ Below w.heap.size w w' ∧ SlR w' (fun b => w.heap.size ≤ b ∧ b < w'.heap.size) 1 (RInts w' fun b => w.heap.size ≤ b ∧ b < w'.heap.size) v ls

theorem info_ints : (Tryz.prog.info? 23).map (fun i => (i.zero, i.size, i.bytes)) = some (some (.slice none 0 0), 1, 24) := by kernel_rfl

/-- the first of n slices are made -/
def liveRow (n : Nat) (vs : List Value) : Array Value := (vs ++ List.replicate (n - vs.length) (Value.slice none 0 0)).toArray
theorem liveRow_at {n : Nat} (vs : List Value) (h : vs.length < n) : (liveRow n vs)[vs.length]? = some (.slice none 0 0) := by
  unfold liveRow
  rw [List.getElem?_toArray, List.getElem?_append_right (by omega), Nat.sub_self]
  exact List.getElem?_replicate_of_lt (by omega)
theorem liveRow_set {n : Nat} (vs : List Value) (v : Value) (h : vs.length < n) : (liveRow n vs).setIfInBounds vs.length v = liveRow n (vs ++ [v]) := by
  unfold liveRow
  rw [List.setIfInBounds_toArray]
  congr 1
  rw [List.set_append_right _ _ (by simp)]
  obtain ⟨k, hk⟩ : ∃ k, n - vs.length = k + 1 := ⟨n - vs.length - 1, by omega⟩
  have hk2 : n - (vs ++ [v]).length = k := by simp; omega
  rw [hk, hk2]
  simp [List.replicate_succ]
theorem liveRow_get {n : Nat} (vs : List Value) (i : Nat) (h : i < vs.length) : (liveRow n vs)[i]? = some vs[i] := by
  unfold liveRow
  rw [List.getElem?_toArray, List.getElem?_append_left h]
  simp

/-- in the loop of 'Live' -/
structure LV (f : LFlow) (w w1 : World) (g i : Nat) (bs : List Nat) (wr : World) : Prop where
  below : Below w.heap.size w wr
  grown : w1.grownBy wr (some g)
  row : ∃ vs : List Value, vs.length = i ∧ Blk wr g 23 (liveRow f.blocks.length vs) ∧ ∀ (j : Nat) (h : j < vs.length), SlR wr (fun b => w.heap.size ≤ b ∧ b < wr.heap.size ∧ b ≠ g) 1 RInt vs[j] (riseL (liveS f j))

set_option maxRecDepth 100000 in
set_option maxHeartbeats 4000000 in
theorem live_any (f : LFlow) (hg : GoodF f) (hf8 : f.blocks.length ≤ 1000) (vb : Value) (w : World) (hv : SlR w (· < w.heap.size) 5 (RBlock w (· < w.heap.size)) vb f.blocks) :
    Calls Tryz.prog 14 #[.agg #[.string f.name, .int .i64 f.params, .int .i64 f.values, vb]] w (RowsPost ((List.range f.blocks.length).map fun i => riseL (liveS f i)) w) := by
  obtain ⟨A, c, hvr, hlc, hcm⟩ := hv.val
  have HV := Lib.hid hv
  have HG := Lib.hid hg
  clear hv hg
  subst hvr
  have hmk := run_make_row' (P := Tryz.prog) 39 23 (.slice none 0 0) 24 Tryz.underlying39 info_ints rfl .i64 .i64 f.blocks.length (by omega) (by omega)
  go_enter Tryz.func14, Tryz.ntmps14
  go_upto_region 1 with fail
  refine wp_world ?_
  intro W hW
  have hB : Below w.heap.size w W := by rw [← hW]; exact below1 _ _
  have hF : Blk W w.heap.size 35 #[.string f.name, .int .i64 f.params, .int .i64 f.values, .slice A f.blocks.length c] := by rw [← hW]; exact Blk.new_at _ _ _ rfl
  clear hW
  have c0 : W.cell? ⟨w.heap.size, 0, none⟩ = some (.string f.name) := hF.cell 0
  have c1 : W.cell? ⟨w.heap.size, 1, none⟩ = some (.int .i64 f.params) := hF.cell 1
  have c2 : W.cell? ⟨w.heap.size, 2, none⟩ = some (.int .i64 f.values) := hF.cell 2
  have c3 : W.cell? ⟨w.heap.size, 3, none⟩ = some (.slice A f.blocks.length c) := hF.cell 3
  have HM := Lib.hid (may_any f HG.out (.slice A f.blocks.length c) W (HV.out.imp (fun _ h => Nat.lt_of_lt_of_le h hB.size) (fun b h => hB.block b h) (fun _ _ _ r => r.imp (fun _ h => Nat.lt_of_lt_of_le h hB.size) (fun b h => hB.block b h))))
  go_upto_region 3 with (go_at_call 26; refine HM.out.mono ?_; rintro e w1 ⟨rfl, hb1⟩; have d3 : w1.cell? ⟨w.heap.size, 3, none⟩ = some (.slice A f.blocks.length c) := (hF.below hb1 hF.lt).cell 3)
  go_upto_region 4 with fail
  refine wp_world ?_
  intro W2 hW2
  have hb2 : Below w1.heap.size w1 W2 := by rw [← hW2]; exact below1 _ _
  have hR : Blk W2 w1.heap.size 23 (liveRow f.blocks.length []) := by
    rw [← hW2]
    have e : liveRow f.blocks.length [] = madeCells #[.slice none 0 0] f.blocks.length := by rw [made_one]; simp [liveRow]
    rw [e]
    exact Blk.new_at _ _ _ rfl
  clear hW2 hmk c0 c1 c2 c3 d3 HM
  have hF1 := hF.below hb1 hF.lt
  have hF2 := hF1.below hb2 hF1.lt
  have hws : w.heap.size < w1.heap.size := hF1.lt
  have hB1 := hB.trans (hb1.mono hB.size)
  have hB2 := hB1.trans (hb2.mono hB1.size)
  have c0 : W2.cell? ⟨w.heap.size, 0, none⟩ = some (.string f.name) := hF2.cell 0
  have c1 : W2.cell? ⟨w.heap.size, 1, none⟩ = some (.int .i64 f.params) := hF2.cell 1
  have c2 : W2.cell? ⟨w.heap.size, 2, none⟩ = some (.int .i64 f.values) := hF2.cell 2
  have c3 : W2.cell? ⟨w.heap.size, 3, none⟩ = some (.slice A f.blocks.length c) := hF2.cell 3
  have HWA := Lib.hid (wanted_any f HG.out hf8 A c W2 (HV.out.imp (fun _ h => Nat.lt_of_lt_of_le h hB2.size) (fun b h => hB2.block b h) (fun _ _ _ r => r.imp (fun _ h => Nat.lt_of_lt_of_le h hB2.size) (fun b h => hB2.block b h))))
  go_upto_region 5 with (go_at_call 27; refine HWA.out.mono ?_; rintro e w3 ⟨vl, bs, rfl, hb3, hbl, hbge, hsets⟩; obtain ⟨Al, cl, hvl, hll, hlm⟩ := hsets.row.val; rw [hbl] at hvl; subst hvl)
  have hB3 := hB2.trans (hb3.mono hB2.size)
  have hg2 : w1.heap.size < W2.heap.size := hR.lt
  have hg3 := hb3.size
  have hLV0 : LV f w w3 w1.heap.size 0 bs w3 := ⟨hB3, World.grownBy.refl _ _, [], rfl, hR.below hb3 hR.lt, fun j h => by simp at h⟩
  have HS := Lib.hid hsets
  have HBL := Lib.hid hbl
  have HBG := Lib.hid hbge
  clear hsets hbl hbge hR hF hF1 hF2 hB hB1 hB2 hB3 hb1 hb2 hb3 c0 c1 c2 c3 HWA
  go_loopw [16] (fun s wr => ∃ i : Nat, i ≤ f.blocks.length ∧ s = .int .i64 i ∧ LV f w w3 w1.heap.size i bs wr) (fun s _ => f.blocks.length - (RowKit.intOf s).toNat)
  case atStart => exact ⟨0, by omega, rfl, hLV0⟩
  case round =>
    obtain ⟨i, hi, rfl, hLV⟩ := hrel
    clear hLV0
    by_cases hlt : i < f.blocks.length
    · have d0 : decide ((i : Int) < (f.blocks.length : Int)) = true := decide_eq_true (by omega)
      have hbi : i < bs.length := by rw [HBL.out]; exact hlt
      obtain ⟨b, off, c', hform, _, _, hbb, hel⟩ := HS.out.row.form (by omega)
      obtain ⟨cs, hcl, hcs, hcell⟩ := hel i hbi
      subst hcs
      obtain ⟨rfl, rfl⟩ : Al = some ⟨b, off, none⟩ ∧ cl = c' := by injection hform with h1 _ h2; exact ⟨h1, h2⟩
      obtain ⟨bi, hbie⟩ : ∃ bi, bi = bs[i] := ⟨_, rfl⟩
      rw [← hbie] at hcell
      have hgb : w1.heap.size ≠ b := by omega
      have i0 : wr.cell? ⟨b, off + i, none⟩ = some (.map (some bi)) := by
        have h := (hcell.keep (hLV.grown.block b hbb.2 (by intro e; injection e with e; omega))).at_ (j := 0) rfl
        simpa using h
      have hge := HBG.out bs[i] (List.getElem_mem _)
      rw [← hbie] at hge
      have hmi : MSet wr bi (liveS f i) := by rw [hbie]; exact (HS.out.each i hbi).kept hLV.grown (by intro e; injection e with e; rw [← hbie] at e; omega)
      obtain ⟨vs, hvl, hrow, hvs⟩ := hLV.row
      have HR1 := Lib.hid (rising_any bi (liveS f i) wr hmi)
      have HLV := Lib.hid hLV
      have HRW := Lib.hid hrow
      have HVL := Lib.hid hvl
      have HVS := Lib.hid hvs
      have hgl := hrow.lt
      have hlr := liveRow_at (n := f.blocks.length) vs (by rw [hvl]; exact hlt)
      rw [hvl] at hlr
      have HLR := Lib.hid hlr
      clear hlr
      clear hcell hel hform hcl hbie hmi hrow hvl hvs hLV
      go_wp2_with (go_at_call 28; refine HR1.out.mono ?_; rintro e w5 ⟨v5, rfl, hb5, hs5⟩; obtain ⟨A5, c5, hv5, _, _⟩ := hs5.val; subst hv5; have hr5 := HRW.out.below hb5 hgl; have r0 : w5.cell? ⟨w1.heap.size, i, none⟩ = some (.slice none 0 0) := (hr5.cell i).trans HLR.out; have z0 : w5.frozen? ⟨w1.heap.size, i, none⟩ = false := hr5.frozen i)
      go_roundw
      case rel =>
        have hg5 : wr.grownBy (w5.setCell ⟨w1.heap.size, i, none⟩ (.slice A5 (riseL (liveS f i)).length c5)) (some w1.heap.size) := (grown_of_below hb5).trans (grown_set w5 ⟨w1.heap.size, i, none⟩ _)
        have hg6 := grown_set w5 ⟨w1.heap.size, i, none⟩ (.slice A5 (riseL (liveS f i)).length c5)
        have hwr := HLV.out.below.size
        refine ⟨i + 1, by omega, by go_num, HLV.out.below.grown hg5 HLV.out.below.size (fun k e => by injection e with e; omega), HLV.out.grown.trans hg5, vs ++ [.slice A5 (riseL (liveS f i)).length c5], by simp [HVL.out], ?_, ?_⟩
        · rw [← liveRow_set _ _ (by rw [HVL.out]; exact hlt), HVL.out]
          exact hr5.set_ i _
        · intro j hj
          by_cases hj' : j < vs.length
          · rw [List.getElem_append_left hj']
            exact (HVS.out j hj').imp (fun b hb => ⟨hb.1, Nat.lt_of_lt_of_le hb.2.1 hg5.size, hb.2.2⟩) (fun b hb => hg5.block b hb.2.1 (fun e => by injection e with e; exact hb.2.2 e)) (fun _ _ _ h => h)
          · have : j = vs.length := by simp at hj; omega
            subst this
            rw [List.getElem_append_right (by omega)]
            simp only [Nat.sub_self, List.getElem_singleton]
            rw [HVL.out]
            exact hs5.imp (fun b hb => ⟨by omega, Nat.lt_of_lt_of_le hb.2 hg6.size, by omega⟩) (fun b hb => hg6.block b hb.2 (fun e => by injection e with e; have e' : b = w1.heap.size := e; omega)) (fun _ _ _ h => h)
      case measure => simp [RowKit.intOf]; omega
    · have d0 : decide ((i : Int) < (f.blocks.length : Int)) = false := decide_eq_false (by omega)
      obtain rfl : i = f.blocks.length := by omega
      have HLV := Lib.hid hLV
      clear hLV
      go_wp2
      go_ret
      obtain ⟨vs, hvl, hrow, hvs⟩ := HLV.out.row
      have hgl := hrow.lt
      refine ⟨_, rfl, HLV.out.below, ?_⟩
      refine ⟨_, _, by simp; rfl, by simp, by unfold maxLen; omega, .inr ⟨w1.heap.size, 0, rfl, ⟨by omega, hgl⟩, fun j hj => ?_⟩⟩
      have hj' : j < vs.length := by simpa [hvl] using hj
      refine ⟨[vs[j]], rfl, ⟨vs[j], rfl, ?_⟩, ?_⟩
      · have h := (hvs j hj').imp (ok' := fun b => w.heap.size ≤ b ∧ b < wr.heap.size) (fun b hb => ⟨hb.1, hb.2.1⟩) (Keeps.refl _ _) (fun _ _ _ h => h)
        simpa using h
      · intro q hq
        have hq' : q < 1 := hq
        obtain rfl : q = 0 := by omega
        rw [hrow.cell]
        simpa using liveRow_get vs j hj'
end Go.Proofs.YtknccacfhknnaaaGreat
