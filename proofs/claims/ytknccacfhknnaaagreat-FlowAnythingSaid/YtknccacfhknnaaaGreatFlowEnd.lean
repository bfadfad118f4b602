/- What maps.Copy and flow.end do at sets: the union, and what is wanted ahead of a block's end. -/
import Derived.Test.YtknccacfhknnaaaGreatLivePlain
import Derived.Lib.SlMapMerge
import Derived.Maps.RangeWalk
import Derived.Laws.IdiomRangeMap
namespace Go.Proofs.YtknccacfhknnaaaGreat
open Go.RowKit Go.Maps

set_option maxRecDepth 100000 in
set_option maxHeartbeats 4000000 in
theorem copy_any (bd bs : Nat) (S T : Int → Bool) (w : World) (hd : MSet w bd S) (hs : MSet w bs T) (hne : bd ≠ bs) :
    Calls Tryz.prog 84 #[.map (some bd), .map (some bs)] w fun e w' => e = .returned (.tuple #[]) ∧ MSet w' bd (fun v => S v || T v) ∧ w.grownBy w' (some bd) := by
  have HD := Lib.hid hd
  obtain ⟨ns, Ds, hs0, _, _, hhs, hps⟩ := hs
  have HH := Lib.hid hhs
  have hbd := hd.lt
  have hbs := hs0.lt
  clear hhs hd
  go_enter Tryz.func84, Tryz.ntmps84
  go_wp2_with (at_range; refine wpList_range_own _ rfl _ 74 rfl 3 111 keyI Tryz.underlying74 unitElem bs ns _ rfl hs0 ?_; intro w0 hrg0 hg0 hs0')
  clear hs0 hs0'
  go_frame
  go_loopw [8] (fun _ wr => ∃ (left : Lit → Bool) (cnt : Nat), wr.ranges Tryz.prog 3 unitElem bs w.heap.size ns Ds left cnt ∧
      MSet wr bd (fun v => S v || (T v && !left (.int .i64 v))) ∧ w.grownBy wr (some bd))
    (fun _ wr => wr.rangeLeft bs w.heap.size)
  case atStart =>
    refine ⟨_, _, hrg0, ?_, hg0.but _⟩
    have e : (fun v => S v || (T v && !Maps.has Ds (.int .i64 v))) = S := by funext v; rw [HH.out v]; cases S v <;> cases T v <;> rfl
    rw [e]
    exact HD.out.kept hg0 (by simp)
  case round =>
    obtain ⟨left, cnt0, hrg, hout, hgw⟩ := hrel
    go_wp2_with (at_next; refine wpList_next_ranges _ rfl _ rfl 3 keyI unitElem encZ (fun _ : Unit => Value.agg #[]) (fun key kl h => by obtain ⟨x, hx, _⟩ := Maps.keyOf_i64 Tryz.underlying3 h; exact ⟨x, hx⟩) (fun v y h => ⟨(), (unitElem_inv h).1⟩) bs w.heap.size ns _ _ _ rfl hrg ?_ ?_)
    · intro hc0 hl0
      go_wp2
      refine bodyPost_end (results_none rfl _ _ _) rfl ⟨rfl, ?_, hgw⟩
      have e : (fun v => S v || (T v && !left (.int .i64 v))) = fun v => S v || T v := by funext v; rw [hl0]; simp
      rw [← e]
      exact hout
    · intro x kl yd yp w1 cnt1 hkey hlx hv hat hrg1 hlt hg1 hs1 hen
      obtain ⟨x', ex, rfl, hwf⟩ := Maps.keyOf_i64 Tryz.underlying3 hkey
      obtain rfl : x = x' := encZ_inj ex
      have hv' := unitElem_inv hv
      obtain ⟨rfl, rfl⟩ : yd = .agg [] ∧ yp = [] := by have := hv'.2; injection this with a b; exact ⟨a, b⟩
      have hT : T x = true := by rw [← HH.out x]; exact has_true_of_atKey hat
      have hpx := hps x hT
      have hout1 := hout.kept hg1 (by intro e; injection e with e; omega)
      obtain ⟨n, D, hown, hn, hsz, hh, hp⟩ := hout1
      have hszw : w1.heap.size = wr.heap.size := hs1
      have HSZ := Lib.hid hszw
      have HT := Lib.hid hT
      have HLX := Lib.hid hlx
      have HA := Lib.hid hat
      have HHH := Lib.hid hh
      have HP := Lib.hid hp
      have hge : w.heap.size < w1.heap.size := by have := hgw.size; have := hrg.lt; omega
      clear hs1 hszw hT hlx hat hh hp hsz hv hv' ex
      go_wp2_with (at_mapUpdate; (refine wpList_mapUpdate_own _ rfl _ _ _ 74 rfl 3 _ keyI Tryz.underlying74 _ bd n D rfl (hown.alloc _) (by unfold maxLen; omega) _ _ _ rfl rfl hkey (.agg []) [] unitElem_mk ?_); intro w2 hown2 hg2)
      have hg12 : w1.grownBy w2 (some bd) := (World.grownBy_alloc w1 _ (some bd)).trans hg2
      have hrg2 := hrg1.kept hg12 (fun e => hne (Option.some.inj e).symm) (fun e => by have := Option.some.inj e; omega)
      go_roundw
      case rel =>
        refine ⟨_, ⟨_, hrg2⟩, ?_, (hgw.andThen hg1 (fun j hj => .inl (by cases hj; exact Nat.le_refl _))).andThen hg12 (fun j hj => .inr hj)⟩
        have e : (fun v => S v || (T v && !(left (.int .i64 v) && !(Lit.int .i64 v).sameKey (.int .i64 x)))) = put1 (fun v => S v || (T v && !left (.int .i64 v))) x := by
          funext v
          unfold put1
          by_cases e : v = x
          · subst e
            rw [HT.out, HLX.out]
            simp [Lit.sameKey]
          · simp [Lit.sameKey, e]
        rw [e]
        exact MSet.put hown HHH.out HP.out hpx hown2
      case measure => rw [hrg2.left_eq, hrg.left_eq]; exact hlt

def RMap (cs : List Value) (b : Nat) : Prop := cs = [.map (some b)]
/-- a row of sets: each a block of its own -/
structure Sets_ (w : World) (ok : Nat → Prop) (vl : Value) (bs : List Nat) (L : Nat → Int → Bool) : Prop where
  row : SlR w ok 1 RMap vl bs
  each : ∀ (i : Nat) (h : i < bs.length), MSet w bs[i] (L i)

theorem any_take_snoc {l : List Int} {i : Nat} (h : i < l.length) (p : Int → Bool) : (l.take (i + 1)).any p = ((l.take i).any p || p l[i]) := by
  rw [List.take_succ_eq_append_getElem h, List.any_append]
  simp

set_option maxRecDepth 100000 in
set_option maxHeartbeats 4000000 in
theorem end_any (t : LTerm) (A : Option Addr) (n c : Nat) (vl : Value) (bs : List Nat) (L : Nat → Int → Bool) (w : World) (hN : ∀ k ∈ nextL t, 0 ≤ k ∧ k < bs.length) (hW : ∀ k ∈ wantsL t, placeP k = true) (hL : Sets_ w (· < w.heap.size) vl bs L) :
    Calls Tryz.prog 51 #[.agg #[.slice A n c, .int .i64 t.kind, .int .i64 t.a, .int .i64 t.to, .int .i64 t.els], vl] w fun e w' => ∃ g, e = .returned (.map (some g)) ∧ w.heap.size ≤ g ∧ MSet w' g (endS t L) ∧ Below w.heap.size w w' := by
  obtain ⟨Al, cl, hvl, hll, hlm⟩ := hL.row.val
  have HL := Lib.hid hL
  have HN := Lib.hid hN
  have HW := Lib.hid hW
  clear hL hN hW
  subst hvl
  have hlen := Nat.le_trans hll hlm
  unfold maxLen at hlen
  have hmm := @run_makeMap Tryz.prog
  go_enter Tryz.func51, Tryz.ntmps51
  go_upto_region 2 with fail
  refine wp_world ?_
  intro W hW
  have hB : Below w.heap.size w W := by rw [← hW]; exact ((Below.refl _ _).alloc (Nat.le_refl _) _).alloc (by simp) _
  have hK : Blk W w.heap.size 48 #[.slice A n c, .int .i64 t.kind, .int .i64 t.a, .int .i64 t.to, .int .i64 t.els] := by rw [← hW]; exact (Blk.new_at _ _ _ rfl).alloc _
  have hM : MSet W (w.heap.size + 1) (fun _ => false) := by
    rw [← hW]
    have h := MSet.made (w.alloc (.cells #[.slice A n c, .int .i64 t.kind, .int .i64 t.a, .int .i64 t.to, .int .i64 t.els] 48))
    rw [World.size_alloc] at h
    exact h
  clear hW hmm
  have hgW := hM.lt
  have c1 : W.cell? ⟨w.heap.size, 1, none⟩ = some (.int .i64 t.kind) := hK.cell 1
  have c2 : W.cell? ⟨w.heap.size, 2, none⟩ = some (.int .i64 t.a) := hK.cell 2
  have c3 : W.cell? ⟨w.heap.size, 3, none⟩ = some (.int .i64 t.to) := hK.cell 3
  have c4 : W.cell? ⟨w.heap.size, 4, none⟩ = some (.int .i64 t.els) := hK.cell 4
  go_wp2_with (go_at_call 31; refine (next_any t _).mono ?_; rintro e w1 ⟨v1, rfl, hb1, hs1⟩; obtain ⟨A1, c1', hv1, hl1, hm1⟩ := hs1.val; subst hv1)
  have hB1 : Below w.heap.size w w1 := hB.trans (hb1.mono hB.size)
  have hM1 : MSet w1 (w.heap.size + 1) (fun _ => false) := hM.kept (grown_of_below (row := none) hb1) (by simp)
  have hK1 := hK.below hb1 hK.lt
  have HS1 := Lib.hid hs1
  have hln : (nextL t).length ≤ 9223372036854775807 := by have := Nat.le_trans hl1 hm1; unfold maxLen at this; omega
  clear hs1 hM hK c1 c2 c3 c4 hB
  generalize hl : nextL t = l at *
  have HLL := Lib.hid hl
  clear hl
  go_loopw [13] (fun s wr => ∃ i : Nat, i ≤ l.length ∧ s = .int .i64 i ∧ Below w.heap.size w wr ∧ w1.grownBy wr (some (w.heap.size + 1)) ∧ MSet wr (w.heap.size + 1) (fun v => (l.take i).any fun k => L k.toNat v)) (fun s _ => l.length - (RowKit.intOf s).toNat)
  case atStart => exact ⟨0, by omega, rfl, hB1, World.grownBy.refl _ _, by simpa using hM1⟩
  case round =>
    obtain ⟨i, hi, rfl, hB, hg, hm⟩ := hrel
    by_cases hlt : i < l.length
    · have d0 : decide ((i : Int) < (l.length : Int)) = true := decide_eq_true (by omega)
      obtain ⟨b2, off, c', hform, _, _, hbl, hel⟩ := HS1.out.form (by omega)
      obtain ⟨cs, hcl, hcs, hcell⟩ := hel i hlt
      subst hcs
      obtain ⟨rfl, rfl⟩ : A1 = some ⟨b2, off, none⟩ ∧ c1' = c' := by injection hform with h1 _ h2; exact ⟨h1, h2⟩
      obtain ⟨g0, g1⟩ := HN.out l[i] (List.getElem_mem _)
      obtain ⟨s, hs⟩ : ∃ s : Nat, l[i] = (s : Int) := ⟨l[i].toNat, by omega⟩
      have hsl : s < bs.length := by omega
      have i0 : wr.cell? ⟨b2, off + i, none⟩ = some (.int .i64 (s : Int)) := by
        have h := (hcell.keep (hg.block b2 hbl.2 (by intro e; injection e with e; have := hbl.1; omega))).at_ (j := 0) rfl
        rw [hs] at h
        simpa using h
      obtain ⟨b3, off3, c3', hform3, _, _, hbl3, hel3⟩ := HL.out.row.form (by omega)
      obtain ⟨cs3, hcl3, hcs3, hcell3⟩ := hel3 s hsl
      subst hcs3
      obtain ⟨rfl, rfl⟩ : Al = some ⟨b3, off3, none⟩ ∧ cl = c3' := by injection hform3 with h1 _ h2; exact ⟨h1, h2⟩
      obtain ⟨bk, hbk⟩ : ∃ bk, bk = bs[s] := ⟨_, rfl⟩
      rw [← hbk] at hcell3
      have j0 : wr.cell? ⟨b3, off3 + s, none⟩ = some (.map (some bk)) := by
        have h := (hcell3.keep (hB.block b3 hbl3)).at_ (j := 0) rfl
        simpa using h
      have hmk : MSet wr bk (L s) := by rw [hbk]; exact (HL.out.each s hsl).kept (grown_of_below (row := none) hB) (by simp)
      have hbkw : bk < w.heap.size := by rw [hbk]; exact (HL.out.each s hsl).lt
      have HC := Lib.hid (copy_any (w.heap.size + 1) bk _ _ wr hm hmk (by omega))
      have HE : Hid ((fun v => ((l.take i).any fun k => L k.toNat v) || L s v) = fun v => (l.take (i + 1)).any fun k => L k.toNat v) := Lib.hid (by funext v; rw [any_take_snoc hlt, hs, Int.toNat_natCast])
      clear hcell hel hform hcl hcell3 hel3 hform3 hcl3 hbk hs hmk
      go_wp2_with (go_at_call 84; refine HC.out.mono ?_; rintro e w2 ⟨rfl, hm2, hg2⟩)
      go_roundw
      case rel => exact ⟨i + 1, by omega, by go_num, hB.grown hg2 hB.size (fun k e => by injection e with e; omega), hg.trans hg2, by rw [← HE.out]; exact hm2⟩
      case measure => simp [RowKit.intOf]; omega
    · have d0 : decide ((i : Int) < (l.length : Int)) = false := decide_eq_false (by omega)
      obtain rfl : i = l.length := by omega
      rw [List.take_length] at hm
      have hK2 := hK1.grown hg (by intro e; injection e with e; omega)
      have c1 : wr.cell? ⟨w.heap.size, 1, none⟩ = some (.int .i64 t.kind) := hK2.cell 1
      have c2 : wr.cell? ⟨w.heap.size, 2, none⟩ = some (.int .i64 t.a) := hK2.cell 2
      have c3 : wr.cell? ⟨w.heap.size, 3, none⟩ = some (.int .i64 t.to) := hK2.cell 3
      have c4 : wr.cell? ⟨w.heap.size, 4, none⟩ = some (.int .i64 t.els) := hK2.cell 4
      go_wp2_with (first | (go_at_call 47; refine (wants_any t _).mono ?_; rintro e w3 ⟨v3, rfl, hb3, hs3⟩; have hm3 := hm.kept (grown_of_below (row := none) hb3) (by simp); have hgl := hm.lt; have HA := Lib.hid (add_any (w.heap.size + 1) _ (wantsL t) HW.out v3 w3 hm3 (hs3.imp (fun b3 h => ⟨h.2, by omega⟩) (Keeps.refl _ _) (fun _ _ _ r => r)))) | (go_at_call 54; refine HA.out.mono ?_; rintro e w4 ⟨rfl, hg4, hm4⟩))
      go_ret
      have hB3 := hB.trans (hb3.mono hB.size)
      refine ⟨_, rfl, by omega, ?_, hB3.grown hg4 hB3.size (fun k e => by injection e with e; omega)⟩
      unfold endS
      rw [HLL.out]
      exact hm4
end Go.Proofs.YtknccacfhknnaaaGreat
