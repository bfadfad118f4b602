/- What maps.Copy and flow.end do at sets: the union, and what is wanted ahead of a block's end. What (flow.set).rising does: a set's numbers, rising, in a slice of its own. What slices.Backward hands over, at rows of blocks and of instructions. Printed by wip/gen_back.py. -/
import Derived.Test.YtkpigkopjfkepaaGreatDoorPrSetsA
import Derived.Lib.SlMapMerge
import Derived.Maps.RangeWalk
import Derived.Laws.IdiomRangeMap
import Derived.Test.YtkpigkopjfkepaaGreatDoorPrIrNameL
import Derived.Shelf.SlIterI.Nil
import Derived.Shelf.SortM.Plain
import Derived.Shelf.SortM.SortNone
import Derived.RangeFuncNested
import Derived.RangeFuncBound
import Derived.RangeFuncCalls
import Derived.RangeFuncLeaves
import Derived.RangeFuncBox
import Derived.Shelf.Abstract
import Derived.Shelf.RegionOpen
import Derived.WalkKit
import Derived.OwnWalkIn
import Derived.TacticsInMore
import Derived.LoopNIn
import Derived.LoopIn
namespace Go.Proofs.YtkpigkopjfkepaaGreatDoor
open Go.RowKit Go.Maps
set_option maxRecDepth 100000 in
set_option maxHeartbeats 4000000 in
theorem copy_any (bd bs : Nat) (S T : Int → Bool) (w : World) (hd : MSet w bd S) (hs : MSet w bs T) (hne : bd ≠ bs) :
  Calls Tryz.prog 160 #[.map (some bd), .map (some bs)] w fun e w' => e = .returned (.tuple #[]) ∧ MSet w' bd (fun v => S v || T v) ∧ w.grownBy w' (some bd) := by
 have HD := Lib.hid hd
 obtain ⟨ns, Ds, hs0, _, _, hhs, hps⟩ := hs
 have HH := Lib.hid hhs
 have hbd := hd.lt
 have hbs := hs0.lt
 clear hhs hd
 go_enter Tryz.func160, Tryz.ntmps160
 go_wp2_with (at_range; refine wpList_range_own _ rfl _ 165 rfl 3 196 keyI Tryz.underlying165 unitElem bs ns _ rfl hs0 ?_; intro w0 hrg0 hg0 hs0')
 clear hs0 hs0'
 go_frame
 go_loopw [8] (fun _ wr => ∃ (left : Lit → Bool) (cnt : Nat), wr.ranges Tryz.prog 3 unitElem bs w.heap.size ns Ds left cnt ∧
   MSet wr bd (fun v => S v || (T v && !left (.int .i64 v))) ∧ w.grownBy wr (some bd))
  (fun _ wr => wr.rangeLeft bs w.heap.size)
 case atStart =>
  refine ⟨_, _, hrg0, ?_, hg0.but _⟩
  have e : (fun v => S v || (T v && !Maps.has Ds (.int .i64 v))) = S := by funext v; rw [HH.out v]; cases S v <;> cases T v <;> rfl
  rw [e]
  exact HD.out.kept hg0 (by simp)
 case round =>
  obtain ⟨left, cnt0, hrg, hout, hgw⟩ := hrel
  go_wp2_with (at_next; refine wpList_next_ranges _ rfl _ rfl 3 keyI unitElem encZ (fun _ : Unit => Value.agg #[]) (fun key kl h => by obtain ⟨x, hx, _⟩ := Maps.keyOf_i64 Tryz.underlying3 h; exact ⟨x, hx⟩) (fun v y h => ⟨(), (unitElem_inv h).1⟩) bs w.heap.size ns _ _ _ rfl hrg ?_ ?_)
  ·intro hc0 hl0
   go_wp2
   refine bodyPost_end (results_none rfl _ _ _) rfl ⟨rfl, ?_, hgw⟩
   have e : (fun v => S v || (T v && !left (.int .i64 v))) = fun v => S v || T v := by funext v; rw [hl0]; simp
   rw [← e]
   exact hout
  ·intro x kl yd yp w1 cnt1 hkey hlx hv hat hrg1 hlt hg1 hs1 hen
   obtain ⟨x', ex, rfl, hwf⟩ := Maps.keyOf_i64 Tryz.underlying3 hkey
   obtain rfl : x = x' := encZ_inj ex
   have hv' := unitElem_inv hv
   obtain ⟨rfl, rfl⟩ : yd = .agg [] ∧ yp = [] := by have := hv'.2; injection this with a b; exact ⟨a, b⟩
   have hT : T x = true := by rw [← HH.out x]; exact has_true_of_atKey hat
   have hpx := hps x hT
   have hout1 := hout.kept hg1 (by intro e; injection e with e; omega)
   obtain ⟨n, D, hown, hn, hsz, hh, hp⟩ := hout1
   have hszw : w1.heap.size = wr.heap.size := hs1
   have HSZ := Lib.hid hszw
   have HT := Lib.hid hT
   have HLX := Lib.hid hlx
   have HA := Lib.hid hat
   have HHH := Lib.hid hh
   have HP := Lib.hid hp
   have hge : w.heap.size < w1.heap.size := by have := hgw.size; have := hrg.lt; omega
   clear hs1 hszw hT hlx hat hh hp hsz hv hv' ex
   go_wp2_with (at_mapUpdate; (refine wpList_mapUpdate_own _ rfl _ _ _ 165 rfl 3 _ keyI Tryz.underlying165 _ bd n D rfl (hown.alloc _) (by unfold maxLen; omega) _ _ _ rfl rfl hkey (.agg []) [] unitElem_mk ?_); intro w2 hown2 hg2)
   have hg12 : w1.grownBy w2 (some bd) := (World.grownBy_alloc w1 _ (some bd)).trans hg2
   have hrg2 := hrg1.kept hg12 (fun e => hne (Option.some.inj e).symm) (fun e => by have := Option.some.inj e; omega)
   go_roundw
   case rel =>
    refine ⟨_, ⟨_, hrg2⟩, ?_, (hgw.andThen hg1 (fun j hj => .inl (by cases hj; exact Nat.le_refl _))).andThen hg12 (fun j hj => .inr hj)⟩
    have e : (fun v => S v || (T v && !(left (.int .i64 v) && !(Lit.int .i64 v).sameKey (.int .i64 x)))) = put1 (fun v => S v || (T v && !left (.int .i64 v))) x := by
     funext v
     unfold put1
     by_cases e : v = x
     ·subst e
      rw [HT.out, HLX.out]
      simp [Lit.sameKey]
     ·simp [Lit.sameKey, e]
    rw [e]
    exact MSet.put hown HHH.out HP.out hpx hown2
   case measure => rw [hrg2.left_eq, hrg.left_eq]; exact hlt
def RMap (cs : List Value) (b : Nat) : Prop := cs = [.map (some b)]
structure Sets_ (w : World) (ok : Nat → Prop) (vl : Value) (bs : List Nat) (L : Nat → Int → Bool) : Prop where
 row : SlR w ok 1 RMap vl bs
 each : ∀ (i : Nat) (h : i < bs.length), MSet w bs[i] (L i)
theorem any_take_snoc {l : List Int} {i : Nat} (h : i < l.length) (p : Int → Bool) : (l.take (i + 1)).any p = ((l.take i).any p || p l[i]) := by
 rw [List.take_succ_eq_append_getElem h, List.any_append]
 simp
set_option maxRecDepth 100000 in
set_option maxHeartbeats 4000000 in
theorem end_any (t : LTerm) (A : Option Addr) (n c : Nat) (vl : Value) (bs : List Nat) (L : Nat → Int → Bool) (w : World) (hN : ∀ k ∈ nextL t, 0 ≤ k ∧ k < bs.length) (hW : ∀ k ∈ wantsL t, placeP k = true) (hL : Sets_ w (· < w.heap.size) vl bs L) :
  Calls Tryz.prog 113 #[.agg #[.slice A n c, .int .i64 t.kind, .int .i64 t.a, .int .i64 t.to, .int .i64 t.els], vl] w fun e w' => ∃ g, e = .returned (.map (some g)) ∧ w.heap.size ≤ g ∧ MSet w' g (endS t L) ∧ Below w.heap.size w w' := by
 obtain ⟨Al, cl, hvl, hll, hlm⟩ := hL.row.val
 have HL := Lib.hid hL
 have HN := Lib.hid hN
 have HW := Lib.hid hW
 clear hL hN hW
 subst hvl
 have hlen := Nat.le_trans hll hlm
 unfold maxLen at hlen
 have hmm := @run_makeMap Tryz.prog
 go_enter Tryz.func113, Tryz.ntmps113
 go_upto_region 2 with fail
 refine wp_world ?_
 intro W hW
 have hB : Below w.heap.size w W := by rw [← hW]; exact ((Below.refl _ _).alloc (Nat.le_refl _) _).alloc (by simp) _
 have hK : Blk W w.heap.size 48 #[.slice A n c, .int .i64 t.kind, .int .i64 t.a, .int .i64 t.to, .int .i64 t.els] := by rw [← hW]; exact (Blk.new_at _ _ _ rfl).alloc _
 have hM : MSet W (w.heap.size + 1) (fun _ => false) := by
  rw [← hW]
  have h := MSet.made (w.alloc (.cells #[.slice A n c, .int .i64 t.kind, .int .i64 t.a, .int .i64 t.to, .int .i64 t.els] 48))
  rw [World.size_alloc] at h
  exact h
 clear hW hmm
 have hgW := hM.lt
 have c1 : W.cell? ⟨w.heap.size, 1, none⟩ = some (.int .i64 t.kind) := hK.cell 1
 have c2 : W.cell? ⟨w.heap.size, 2, none⟩ = some (.int .i64 t.a) := hK.cell 2
 have c3 : W.cell? ⟨w.heap.size, 3, none⟩ = some (.int .i64 t.to) := hK.cell 3
 have c4 : W.cell? ⟨w.heap.size, 4, none⟩ = some (.int .i64 t.els) := hK.cell 4
 go_wp2_with (go_at_call 34; refine (next_any t _).mono ?_; rintro e w1 ⟨v1, rfl, hb1, hs1⟩; obtain ⟨A1, c1', hv1, hl1, hm1⟩ := hs1.val; subst hv1)
 have hB1 : Below w.heap.size w w1 := hB.trans (hb1.mono hB.size)
 have hM1 : MSet w1 (w.heap.size + 1) (fun _ => false) := hM.kept (grown_of_below (row := none) hb1) (by simp)
 have hK1 := hK.below hb1 hK.lt
 have HS1 := Lib.hid hs1
 have hln : (nextL t).length ≤ 9223372036854775807 := by have := Nat.le_trans hl1 hm1; unfold maxLen at this; omega
 clear hs1 hM hK c1 c2 c3 c4 hB
 generalize hl : nextL t = l at *
 have HLL := Lib.hid hl
 clear hl
 go_loopw [13] (fun s wr => ∃ i : Nat, i ≤ l.length ∧ s = .int .i64 i ∧ Below w.heap.size w wr ∧ w1.grownBy wr (some (w.heap.size + 1)) ∧ MSet wr (w.heap.size + 1) (fun v => (l.take i).any fun k => L k.toNat v)) (fun s _ => l.length - (RowKit.intOf s).toNat)
 case atStart => exact ⟨0, by omega, rfl, hB1, World.grownBy.refl _ _, by simpa using hM1⟩
 case round =>
  obtain ⟨i, hi, rfl, hB, hg, hm⟩ := hrel
  by_cases hlt : i < l.length
  ·have d0 : decide ((i : Int) < (l.length : Int)) = true := decide_eq_true (by omega)
   obtain ⟨b2, off, c', hform, _, _, hbl, hel⟩ := HS1.out.form (by omega)
   obtain ⟨cs, hcl, hcs, hcell⟩ := hel i hlt
   subst hcs
   obtain ⟨rfl, rfl⟩ : A1 = some ⟨b2, off, none⟩ ∧ c1' = c' := by injection hform with h1 _ h2; exact ⟨h1, h2⟩
   obtain ⟨g0, g1⟩ := HN.out l[i] (List.getElem_mem _)
   obtain ⟨s, hs⟩ : ∃ s : Nat, l[i] = (s : Int) := ⟨l[i].toNat, by omega⟩
   have hsl : s < bs.length := by omega
   have i0 : wr.cell? ⟨b2, off + i, none⟩ = some (.int .i64 (s : Int)) := by
    have h := (hcell.keep (hg.block b2 hbl.2 (by intro e; injection e with e; have := hbl.1; omega))).at_ (j := 0) rfl
    rw [hs] at h
    simpa using h
   obtain ⟨b3, off3, c3', hform3, _, _, hbl3, hel3⟩ := HL.out.row.form (by omega)
   obtain ⟨cs3, hcl3, hcs3, hcell3⟩ := hel3 s hsl
   subst hcs3
   obtain ⟨rfl, rfl⟩ : Al = some ⟨b3, off3, none⟩ ∧ cl = c3' := by injection hform3 with h1 _ h2; exact ⟨h1, h2⟩
   obtain ⟨bk, hbk⟩ : ∃ bk, bk = bs[s] := ⟨_, rfl⟩
   rw [← hbk] at hcell3
   have j0 : wr.cell? ⟨b3, off3 + s, none⟩ = some (.map (some bk)) := by
    have h := (hcell3.keep (hB.block b3 hbl3)).at_ (j := 0) rfl
    simpa using h
   have hmk : MSet wr bk (L s) := by rw [hbk]; exact (HL.out.each s hsl).kept (grown_of_below (row := none) hB) (by simp)
   have hbkw : bk < w.heap.size := by rw [hbk]; exact (HL.out.each s hsl).lt
   have HC := Lib.hid (copy_any (w.heap.size + 1) bk _ _ wr hm hmk (by omega))
   have HE : Hid ((fun v => ((l.take i).any fun k => L k.toNat v) || L s v) = fun v => (l.take (i + 1)).any fun k => L k.toNat v) := Lib.hid (by funext v; rw [any_take_snoc hlt, hs, Int.toNat_natCast])
   clear hcell hel hform hcl hcell3 hel3 hform3 hcl3 hbk hs hmk
   go_wp2_with (go_at_call 160; refine HC.out.mono ?_; rintro e w2 ⟨rfl, hm2, hg2⟩)
   go_roundw
   case rel => exact ⟨i + 1, by omega, by go_num, hB.grown hg2 hB.size (fun k e => by injection e with e; omega), hg.trans hg2, by rw [← HE.out]; exact hm2⟩
   case measure => simp [RowKit.intOf]; omega
  ·have d0 : decide ((i : Int) < (l.length : Int)) = false := decide_eq_false (by omega)
   obtain rfl : i = l.length := by omega
   rw [List.take_length] at hm
   have hK2 := hK1.grown hg (by intro e; injection e with e; omega)
   have c1 : wr.cell? ⟨w.heap.size, 1, none⟩ = some (.int .i64 t.kind) := hK2.cell 1
   have c2 : wr.cell? ⟨w.heap.size, 2, none⟩ = some (.int .i64 t.a) := hK2.cell 2
   have c3 : wr.cell? ⟨w.heap.size, 3, none⟩ = some (.int .i64 t.to) := hK2.cell 3
   have c4 : wr.cell? ⟨w.heap.size, 4, none⟩ = some (.int .i64 t.els) := hK2.cell 4
   go_wp2_with (first | (go_at_call 72; refine (wants_any t _).mono ?_; rintro e w3 ⟨v3, rfl, hb3, hs3⟩; have hm3 := hm.kept (grown_of_below (row := none) hb3) (by simp); have hgl := hm.lt; have HA := Lib.hid (add_any (w.heap.size + 1) _ (wantsL t) HW.out v3 w3 hm3 (hs3.imp (fun b3 h => ⟨h.2, by omega⟩) (Keeps.refl _ _) (fun _ _ _ r => r)))) | (go_at_call 116; refine HA.out.mono ?_; rintro e w4 ⟨rfl, hg4, hm4⟩))
   go_ret
   have hB3 := hB.trans (hb3.mono hB.size)
   refine ⟨_, rfl, by omega, ?_, hB3.grown hg4 hB3.size (fun k e => by injection e with e; omega)⟩
   unfold endS
   rw [HLL.out]
   exact hm4
end Go.Proofs.YtkpigkopjfkepaaGreatDoor
namespace Go.Proofs.YtkpigkopjfkepaaGreatDoor
open Go.RowKit Go.Maps Go.Sort Go.Shelf
theorem Tryz.sortsK (m : Nat) : AnyZI.SortsIn Tryz.prog Tryz.sortedL_ren Fence.wide m :=
 ⟨fun blk off cap ss W hH hblk hsz => callsIn_wide.2 (AnyM.slices_Sort_int Tryz.sortL blk off cap ss W hH hblk hsz),
  fun p cap W => callsIn_wide.2 (AnyM.slices_Sort_int_none Tryz.sortL p cap W)⟩
set_option maxHeartbeats 1000000 in
theorem rising_keys (b nn : Nat) (D0 : DU) (w : World) (hown : w.ownsMap Tryz.prog 3 unitElem b nn D0) (hmax : Maps.size D0 ≤ maxLen) (hbytes : Maps.size D0 * 8 ≤ 140737488355328) :
  Calls Tryz.prog 117 #[.map (some b)] w fun e w' => ∃ (v : Value) (ss : List Int), e = .returned v ∧ ss.Perm (intKeys D0) ∧
   w'.ownsRow w.heap.size 3 1 v ss.length ((ss.mergeSort (fun x y => decide (x ≤ y))).map encZ) ∧ (v = .slice none 0 0 ↔ ss = []) ∧ Below w.heap.size w w' := by
 refine (callsIn_wide (n := 6)).1 ?_
 have hbl := hown.lt
 have hseq : SeqGives Fence.wide 2 Tryz.prog 177 #[.pointer (some ⟨w.heap.size, 0, none⟩)] encZ (fun ss => ss.Perm (intKeys D0)) (Maps.size D0) (w.alloc (.cells #[.map (some b)] 165)) :=
  AnyZI.keys_gives (ρ := Tryz.keysL_ren) { Tryz.keysL with } Fence.wide _ trivial rfl (by omega) w.heap.size b nn D0 _ (by simp) (by simp) (by
   obtain ⟨es, clock, hb, Ft, hs, hD⟩ := hown
   exact ⟨es, clock, (Below.heap_alloc _ _ b hbl).trans hb, Ft, hs, hD⟩)
 have cK : ∀ mb W, CallsIn Fence.wide 5 Tryz.prog 163 #[.map mb] W fun e w' => e = .returned (.func (.func 177) #[] #[.pointer (some ⟨W.heap.size, 0, none⟩)]) ∧ w' = W.alloc (.cells #[.map mb] 165) := fun mb W => AnyZI.keys_in Tryz.keysL Fence.wide 5 trivial rfl mb W
 have cS := AnyZI.sorted_in Tryz.sortedL Fence.wide 5 trivial trivial trivial trivial rfl (by omega) (Tryz.sortsK _) (enters_of Tryz.func176 (by kernel_rfl) rfl) 177 #[.pointer (some ⟨w.heap.size, 0, none⟩)] trivial (enters_of Tryz.func177 (by kernel_rfl) rfl) _ _ hmax hbytes _ hseq
 change CallsIn _ _ Tryz.prog 162 _ _ _ at cS
 have hfK : Fence.wide.fn 163 := trivial
 have hfS : Fence.wide.fn 162 := trivial
 refine callsIn_of_wp Tryz.func117 rfl trivial ?_ rfl
 simp only [Tryz.ntmps117, List.size_toArray, List.length_cons, List.length_nil, Nat.reduceAdd, Nat.reduceSub, Array.replicate_succ, Array.replicate_zero, List.push_toArray, List.append_toArray, List.nil_append, List.cons_append]
 gi_wp2_with (first | (gi_at_call 163; refine (cK _ _).mono ?_; rintro e w' ⟨rfl, rfl⟩) | (gi_at_call 162; refine cS.mono ?_; rintro e w' ⟨v, ss, rfl, hS, hrow, hnil, hb⟩))
 go_ret
 exact ⟨v, ss, rfl, hS, ownsRow_base_a hrow (by simp), hnil, ((Below.refl _ w).alloc (Nat.le_refl _) _).trans (hb.mono (by simp))⟩
theorem rise_sorted (S : Int → Bool) : (riseL S).Pairwise (fun a b => (fun x y : Int => decide (x ≤ y)) a b = true) := by
 refine List.Pairwise.filter _ ?_
 unfold allPlaces
 rw [List.pairwise_map]
 refine List.pairwise_lt_range.imp fun h => ?_
 simp only [Int.ofNat_eq_natCast, decide_eq_true_eq]
 omega
theorem rise_merge {S : Int → Bool} {ss : List Int} (h : (riseL S).Perm ss) : ss.mergeSort (fun x y => decide (x ≤ y)) = riseL S := by
 have h1 := mergeSort_of_perm_i h
 rw [← h1]
 exact List.mergeSort_of_pairwise (rise_sorted S)
theorem rising_any (b : Nat) (S : Int → Bool) (w : World) (hS : MSet w b S) : Calls Tryz.prog 117 #[.map (some b)] w (IntsPost (riseL S) w) := by
 obtain ⟨n, D, hown, hn, hsz, hh, hp⟩ := hS
 have hc := cnt_le S
 refine (rising_keys b n D w hown (by rw [hsz]; unfold maxLen; omega) (by rw [hsz]; omega)).mono ?_
 rintro e w' ⟨v, ss, rfl, hperm, hrow, _, hb⟩
 have hk := rise_keys hown hh hp
 have h1 : (riseL S).Perm ss := hk.trans hperm.symm
 rw [rise_merge h1, ← h1.length_eq] at hrow
 exact ⟨v, rfl, hb, ints_of_own hrow (fun g hg => hrow.lt g hg)⟩
end Go.Proofs.YtkpigkopjfkepaaGreatDoor
namespace Go.Proofs.YtkpigkopjfkepaaGreatDoor
open Go.RowKit Go.Shelf
attribute [local go_sem] Oper.semAt_some
def backs (n k : Nat) : List (Fin n) := ((List.finRange n).drop k).reverse
theorem backs_end (n : Nat) : backs n n = [] := by unfold backs; rw [List.drop_of_length_le (by simp)]; rfl
theorem backs_length (n k : Nat) : (backs n k).length = n - k := by simp [backs]
theorem backs_step {n k : Nat} (h : k < n) : backs n k = backs n (k + 1) ++ [⟨k, h⟩] := by
 unfold backs
 rw [List.drop_eq_getElem_cons (by simpa using h), List.reverse_cons]
 simp
theorem backs_all (n : Nat) (x : Fin n) : x ∈ backs n 0 := by simp [backs]
def encB (l : List LBlock) (vs : Nat → Value) (k : Fin l.length) : Array Value := #[.int .i64 (k.1 : Int), .agg #[vs k.1, .int .i64 l[k.1].term.kind, .int .i64 l[k.1].term.a, .int .i64 l[k.1].term.to, .int .i64 l[k.1].term.els]]
def RowB (W : World) (ok : Nat → Prop) (A : Option Addr) (l : List LBlock) (vs : Nat → Value) : Prop :=
 l = [] ∨ ∃ b off, A = some ⟨b, off, none⟩ ∧ ok b ∧ ∀ (i : Nat) (h : i < l.length), Cells W b (off + i * 5) [vs i, .int .i64 l[i].term.kind, .int .i64 l[i].term.a, .int .i64 l[i].term.to, .int .i64 l[i].term.els]
theorem RowB.keep {W W' : World} {ok : Nat → Prop} {A : Option Addr} {l : List LBlock} {vs : Nat → Value} (h : RowB W ok A l vs) (hk : Keeps ok W W') : RowB W' ok A l vs := by
 rcases h with h | ⟨b, off, hA, hb, hc⟩
 ·exact .inl h
 ·exact .inr ⟨b, off, hA, hb, fun i hi => (hc i hi).keep (hk b hb)⟩
set_option maxRecDepth 100000 in
set_option maxHeartbeats 2000000 in
theorem backB1_in (F : Fence) (n : Nat) (hf : F.fn 159) (hro : F.round = none) (hn : 1 ≤ n) (lp Bs : Nat) (ok : Nat → Prop) (l : List LBlock) (vs : Nat → Value) (A : Option Addr) (c : Nat) (hlen : l.length ≤ maxLen) (J Jx : List (Fin l.length) → World → Prop)
  (hY : ∀ pre x W, J pre W → pre.length < l.length → YieldAt F (n - 1) Tryz.prog lp (encB l vs x) W fun e W' =>
   (e = .returned (.bool true) ∧ J (pre ++ [x]) W' ∧ Keeps ok W W') ∨ (e = .returned (.bool false) ∧ Jx (pre ++ [x]) W'))
  (W : World) (hok : ok Bs) (hBs : W.cell? ⟨Bs, 0, none⟩ = some (.slice A l.length c)) (hR : RowB W ok A l vs) (h0 : J [] W) :
  CallsIn F n Tryz.prog 159 #[.func (.yield lp) #[] #[], .pointer (some ⟨Bs, 0, none⟩)] W fun e W' => (∃ v, e = .returned v) ∧
   ((∃ ys, ys = backs l.length 0 ∧ J ys W') ∨ (∃ pre, True ∧ Jx pre W')) := by
 unfold maxLen at hlen
 have HY := Lib.hid hY
 have HR := Lib.hid hR
 have hJ0 : J (backs l.length l.length) W := by rw [backs_end]; exact h0
 clear hY hR h0
 obtain ⟨N, hN⟩ : ∃ N, N = l.length := ⟨_, rfl⟩
 have HN := Lib.hid hN
 rw [← hN] at hBs hlen
 have hJ0' : J (backs l.length N) W := by rw [hN]; exact hJ0
 clear hJ0 hN
 refine callsIn_of_wp Tryz.func159 rfl hf ?_ hro
 simp only [Tryz.ntmps159, List.size_toArray, List.length_cons, List.length_nil, Nat.reduceAdd, Nat.reduceSub, Array.replicate_succ, Array.replicate_zero, List.push_toArray, List.append_toArray, List.nil_append, List.cons_append]
 gi_wp2
 gi_loopw [3] (fun i wr => ∃ k : Nat, k ≤ N ∧ i = .int .i64 ((k : Int) - 1) ∧ J (backs l.length k) wr ∧ Keeps ok W wr)
  (fun i _ => (RowKit.intOf i + 1).toNat)
 case atStart => exact ⟨N, Nat.le_refl _, rfl, hJ0', Keeps.refl _ _⟩
 case round =>
  obtain ⟨k, hk, hi, hJs, hke⟩ := hrel
  have hb0 : wr.cell? ⟨Bs, 0, none⟩ = some (.slice A N c) := (World.cell?_of_block (w := W) (w' := wr) (a := ⟨Bs, 0, none⟩) (hke Bs hok)).trans hBs
  cases k with
  | zero =>
   have hi2 := hi.trans (show Value.int .i64 (((0 : Nat) : Int) - 1) = .int .i64 (-1) from rfl)
   clear hi
   subst hi2
   gi_wp2
   refine bodyPost_end (results_none rfl _ _ _) rfl ?_
   exact ⟨⟨_, rfl⟩, .inl ⟨_, rfl, hJs⟩⟩
  | succ m =>
   have hi2 := hi.trans (show Value.int .i64 (((m + 1 : Nat) : Int) - 1) = .int .i64 (m : Int) by congr 1; omega)
   clear hi
   subst hi2
   have hm : m < l.length := by rw [← HN.out]; omega
   rcases (HR.out.keep hke) with hnil | ⟨b, off, hA, hb, hc⟩
   ·subst hnil; simp at hm
   have hcw := hc m hm
   obtain ⟨x, hx⟩ : ∃ x, x = l[m] := ⟨_, rfl⟩
   obtain ⟨v, hv⟩ : ∃ v, v = vs m := ⟨_, rfl⟩
   rw [← hx, ← hv] at hcw
   subst hA
   have i0 : wr.cell? ⟨b, off + m * 5, none⟩ = some (v) := hcw.at_ (j := 0) rfl
   have i1 : wr.cell? ⟨b, off + m * 5 + 1, none⟩ = some (.int .i64 x.term.kind) := hcw.at_ (j := 1) rfl
   have i2 : wr.cell? ⟨b, off + m * 5 + 2, none⟩ = some (.int .i64 x.term.a) := hcw.at_ (j := 2) rfl
   have i3 : wr.cell? ⟨b, off + m * 5 + 3, none⟩ = some (.int .i64 x.term.to) := hcw.at_ (j := 3) rfl
   have i4 : wr.cell? ⟨b, off + m * 5 + 4, none⟩ = some (.int .i64 x.term.els) := hcw.at_ (j := 4) rfl
   have hy0 := HY.out _ ⟨m, hm⟩ wr hJs (by rw [backs_length]; omega)
   unfold encB at hy0
   dsimp only at hy0
   rw [← hx, ← hv] at hy0
   obtain ⟨fn, tmps, assign, body, hy, hRd⟩ := hy0
   have d0 : decide ((0 : Int) ≤ (m : Int)) = true := decide_eq_true (by omega)
   clear hcw hc hx hv
   gi_wp2
   refine hRd.mono ?_
   rintro e W3 (⟨rfl, hJ3, hk3⟩ | ⟨rfl, hJx3⟩)
   ·gi_wp2
    go_roundw
    case rel => exact ⟨m, by omega, rfl, by rw [backs_step hm]; exact hJ3, hke.trans hk3⟩
    case measure => simp [RowKit.intOf]
   ·gi_wp2
    refine bodyPost_ret (results_none rfl _ _ _) rfl ?_
    exact ⟨⟨_, rfl⟩, .inr ⟨_, trivial, hJx3⟩⟩
set_option maxHeartbeats 1000000 in
theorem backB_in (F : Fence) (n : Nat) (hf : F.fn 112) (hro : F.round = none) (A : Option Addr) (m c : Nat) (w : World) :
  CallsIn F n Tryz.prog 112 #[.slice A m c] w fun e w' => e = .returned (.func (.func 159) #[] #[.pointer (some ⟨w.heap.size, 0, none⟩)]) ∧ w' = w.alloc (.cells #[.slice A m c] 22) := by
 refine callsIn_of_wp Tryz.func112 rfl hf ?_ hro
 simp only [Tryz.ntmps112, List.size_toArray, List.length_cons, List.length_nil, Nat.reduceAdd, Nat.reduceSub, Array.replicate_succ, Array.replicate_zero, List.push_toArray, List.append_toArray, List.nil_append, List.cons_append]
 gi_wp2
 go_ret
 exact ⟨rfl, rfl⟩
theorem backB_stops (F : Fence) (n : Nat) (hf : F.fn 159) (hro : F.round = none) (hn : 1 ≤ n) (Bs : Nat) (ok : Nat → Prop) (l : List LBlock) (vs : Nat → Value) (A : Option Addr) (c : Nat) (hlen : l.length ≤ maxLen) (w : World) (hle : ∀ b, ok b → b < w.heap.size) (hok : ok Bs)
  (hBs : w.cell? ⟨Bs, 0, none⟩ = some (.slice A l.length c)) (hR : RowB w ok A l vs) :
  SeqStopsK F n Tryz.prog 159 #[.pointer (some ⟨Bs, 0, none⟩)] (encB l vs) (Keeps ok) (fun ys => ys = backs l.length 0) (fun _ => True) l.length w := fun lp J Jx W hW _ _ hY h0 => by
 have hk : Keeps ok w W := fun b hb => hW.block b (hle b hb)
 exact backB1_in F n hf hro hn lp Bs ok l vs A c hlen J Jx hY W hok ((World.cell?_of_block (w := w) (w' := W) (a := ⟨Bs, 0, none⟩) (hk Bs hok)).trans hBs) (hR.keep hk) h0
def encI (l : List LIns) (vs : Nat → Value) (k : Fin l.length) : Array Value := #[.int .i64 (k.1 : Int), .agg #[.int .i64 l[k.1].kind, .int .i64 l[k.1].d, .int .i64 l[k.1].a, .int .i64 l[k.1].b, .int .i64 l[k.1].op, .int .i64 l[k.1].n, .string l[k.1].name, vs k.1]]
def RowI (W : World) (ok : Nat → Prop) (A : Option Addr) (l : List LIns) (vs : Nat → Value) : Prop :=
 l = [] ∨ ∃ b off, A = some ⟨b, off, none⟩ ∧ ok b ∧ ∀ (i : Nat) (h : i < l.length), Cells W b (off + i * 8) [.int .i64 l[i].kind, .int .i64 l[i].d, .int .i64 l[i].a, .int .i64 l[i].b, .int .i64 l[i].op, .int .i64 l[i].n, .string l[i].name, vs i]
theorem RowI.keep {W W' : World} {ok : Nat → Prop} {A : Option Addr} {l : List LIns} {vs : Nat → Value} (h : RowI W ok A l vs) (hk : Keeps ok W W') : RowI W' ok A l vs := by
 rcases h with h | ⟨b, off, hA, hb, hc⟩
 ·exact .inl h
 ·exact .inr ⟨b, off, hA, hb, fun i hi => (hc i hi).keep (hk b hb)⟩
set_option maxRecDepth 100000 in
set_option maxHeartbeats 2000000 in
theorem backI1_in (F : Fence) (n : Nat) (hf : F.fn 161) (hro : F.round = none) (hn : 1 ≤ n) (lp Bs : Nat) (ok : Nat → Prop) (l : List LIns) (vs : Nat → Value) (A : Option Addr) (c : Nat) (hlen : l.length ≤ maxLen) (J Jx : List (Fin l.length) → World → Prop)
  (hY : ∀ pre x W, J pre W → pre.length < l.length → YieldAt F (n - 1) Tryz.prog lp (encI l vs x) W fun e W' =>
   (e = .returned (.bool true) ∧ J (pre ++ [x]) W' ∧ Keeps ok W W') ∨ (e = .returned (.bool false) ∧ Jx (pre ++ [x]) W'))
  (W : World) (hok : ok Bs) (hBs : W.cell? ⟨Bs, 0, none⟩ = some (.slice A l.length c)) (hR : RowI W ok A l vs) (h0 : J [] W) :
  CallsIn F n Tryz.prog 161 #[.func (.yield lp) #[] #[], .pointer (some ⟨Bs, 0, none⟩)] W fun e W' => (∃ v, e = .returned v) ∧
   ((∃ ys, ys = backs l.length 0 ∧ J ys W') ∨ (∃ pre, True ∧ Jx pre W')) := by
 unfold maxLen at hlen
 have HY := Lib.hid hY
 have HR := Lib.hid hR
 have hJ0 : J (backs l.length l.length) W := by rw [backs_end]; exact h0
 clear hY hR h0
 obtain ⟨N, hN⟩ : ∃ N, N = l.length := ⟨_, rfl⟩
 have HN := Lib.hid hN
 rw [← hN] at hBs hlen
 have hJ0' : J (backs l.length N) W := by rw [hN]; exact hJ0
 clear hJ0 hN
 refine callsIn_of_wp Tryz.func161 rfl hf ?_ hro
 simp only [Tryz.ntmps161, List.size_toArray, List.length_cons, List.length_nil, Nat.reduceAdd, Nat.reduceSub, Array.replicate_succ, Array.replicate_zero, List.push_toArray, List.append_toArray, List.nil_append, List.cons_append]
 gi_wp2
 gi_loopw [3] (fun i wr => ∃ k : Nat, k ≤ N ∧ i = .int .i64 ((k : Int) - 1) ∧ J (backs l.length k) wr ∧ Keeps ok W wr)
  (fun i _ => (RowKit.intOf i + 1).toNat)
 case atStart => exact ⟨N, Nat.le_refl _, rfl, hJ0', Keeps.refl _ _⟩
 case round =>
  obtain ⟨k, hk, hi, hJs, hke⟩ := hrel
  have hb0 : wr.cell? ⟨Bs, 0, none⟩ = some (.slice A N c) := (World.cell?_of_block (w := W) (w' := wr) (a := ⟨Bs, 0, none⟩) (hke Bs hok)).trans hBs
  cases k with
  | zero =>
   have hi2 := hi.trans (show Value.int .i64 (((0 : Nat) : Int) - 1) = .int .i64 (-1) from rfl)
   clear hi
   subst hi2
   gi_wp2
   refine bodyPost_end (results_none rfl _ _ _) rfl ?_
   exact ⟨⟨_, rfl⟩, .inl ⟨_, rfl, hJs⟩⟩
  | succ m =>
   have hi2 := hi.trans (show Value.int .i64 (((m + 1 : Nat) : Int) - 1) = .int .i64 (m : Int) by congr 1; omega)
   clear hi
   subst hi2
   have hm : m < l.length := by rw [← HN.out]; omega
   rcases (HR.out.keep hke) with hnil | ⟨b, off, hA, hb, hc⟩
   ·subst hnil; simp at hm
   have hcw := hc m hm
   obtain ⟨x, hx⟩ : ∃ x, x = l[m] := ⟨_, rfl⟩
   obtain ⟨v, hv⟩ : ∃ v, v = vs m := ⟨_, rfl⟩
   rw [← hx, ← hv] at hcw
   subst hA
   have i0 : wr.cell? ⟨b, off + m * 8, none⟩ = some (.int .i64 x.kind) := hcw.at_ (j := 0) rfl
   have i1 : wr.cell? ⟨b, off + m * 8 + 1, none⟩ = some (.int .i64 x.d) := hcw.at_ (j := 1) rfl
   have i2 : wr.cell? ⟨b, off + m * 8 + 2, none⟩ = some (.int .i64 x.a) := hcw.at_ (j := 2) rfl
   have i3 : wr.cell? ⟨b, off + m * 8 + 3, none⟩ = some (.int .i64 x.b) := hcw.at_ (j := 3) rfl
   have i4 : wr.cell? ⟨b, off + m * 8 + 4, none⟩ = some (.int .i64 x.op) := hcw.at_ (j := 4) rfl
   have i5 : wr.cell? ⟨b, off + m * 8 + 5, none⟩ = some (.int .i64 x.n) := hcw.at_ (j := 5) rfl
   have i6 : wr.cell? ⟨b, off + m * 8 + 6, none⟩ = some (.string x.name) := hcw.at_ (j := 6) rfl
   have i7 : wr.cell? ⟨b, off + m * 8 + 7, none⟩ = some (v) := hcw.at_ (j := 7) rfl
   have hy0 := HY.out _ ⟨m, hm⟩ wr hJs (by rw [backs_length]; omega)
   unfold encI at hy0
   dsimp only at hy0
   rw [← hx, ← hv] at hy0
   obtain ⟨fn, tmps, assign, body, hy, hRd⟩ := hy0
   have d0 : decide ((0 : Int) ≤ (m : Int)) = true := decide_eq_true (by omega)
   clear hcw hc hx hv
   gi_wp2
   refine hRd.mono ?_
   rintro e W3 (⟨rfl, hJ3, hk3⟩ | ⟨rfl, hJx3⟩)
   ·gi_wp2
    go_roundw
    case rel => exact ⟨m, by omega, rfl, by rw [backs_step hm]; exact hJ3, hke.trans hk3⟩
    case measure => simp [RowKit.intOf]
   ·gi_wp2
    refine bodyPost_ret (results_none rfl _ _ _) rfl ?_
    exact ⟨⟨_, rfl⟩, .inr ⟨_, trivial, hJx3⟩⟩
set_option maxHeartbeats 1000000 in
theorem backI_in (F : Fence) (n : Nat) (hf : F.fn 114) (hro : F.round = none) (A : Option Addr) (m c : Nat) (w : World) :
  CallsIn F n Tryz.prog 114 #[.slice A m c] w fun e w' => e = .returned (.func (.func 161) #[] #[.pointer (some ⟨w.heap.size, 0, none⟩)]) ∧ w' = w.alloc (.cells #[.slice A m c] 42) := by
 refine callsIn_of_wp Tryz.func114 rfl hf ?_ hro
 simp only [Tryz.ntmps114, List.size_toArray, List.length_cons, List.length_nil, Nat.reduceAdd, Nat.reduceSub, Array.replicate_succ, Array.replicate_zero, List.push_toArray, List.append_toArray, List.nil_append, List.cons_append]
 gi_wp2
 go_ret
 exact ⟨rfl, rfl⟩
theorem backI_stops (F : Fence) (n : Nat) (hf : F.fn 161) (hro : F.round = none) (hn : 1 ≤ n) (Bs : Nat) (ok : Nat → Prop) (l : List LIns) (vs : Nat → Value) (A : Option Addr) (c : Nat) (hlen : l.length ≤ maxLen) (w : World) (hle : ∀ b, ok b → b < w.heap.size) (hok : ok Bs)
  (hBs : w.cell? ⟨Bs, 0, none⟩ = some (.slice A l.length c)) (hR : RowI w ok A l vs) :
  SeqStopsK F n Tryz.prog 161 #[.pointer (some ⟨Bs, 0, none⟩)] (encI l vs) (Keeps ok) (fun ys => ys = backs l.length 0) (fun _ => True) l.length w := fun lp J Jx W hW _ _ hY h0 => by
 have hk : Keeps ok w W := fun b hb => hW.block b (hle b hb)
 exact backI1_in F n hf hro hn lp Bs ok l vs A c hlen J Jx hY W hok ((World.cell?_of_block (w := w) (w' := W) (a := ⟨Bs, 0, none⟩) (hk Bs hok)).trans hBs) (hR.keep hk) h0
end Go.Proofs.YtkpigkopjfkepaaGreatDoor
