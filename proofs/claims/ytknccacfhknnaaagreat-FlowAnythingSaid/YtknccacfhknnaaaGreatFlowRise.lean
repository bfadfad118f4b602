/- What (flow.set).rising does: a set's numbers, rising, in a slice of its own. -/
import Derived.Test.YtknccacfhknnaaaGreatFlowEnd
import Derived.Test.YtknccacfhknnaaaGreatLays
import Derived.Shelf.SlIterI.Nil
import Derived.Shelf.SortM.Plain
import Derived.Shelf.SortM.SortNone
namespace Go.Proofs.YtknccacfhknnaaaGreat
open Go.RowKit Go.Maps Go.Sort Go.Shelf

theorem Tryz.sortsK (m : Nat) : AnyZI.SortsIn Tryz.prog Tryz.sortedL_ren Fence.wide m :=
  ⟨fun blk off cap ss W hH hblk hsz => callsIn_wide.2 (AnyM.slices_Sort_int Tryz.sortL blk off cap ss W hH hblk hsz),
   fun p cap W => callsIn_wide.2 (AnyM.slices_Sort_int_none Tryz.sortL p cap W)⟩

set_option maxHeartbeats 1000000 in
theorem rising_keys (b nn : Nat) (D0 : DU) (w : World) (hown : w.ownsMap Tryz.prog 3 unitElem b nn D0) (hmax : Maps.size D0 ≤ maxLen) (hbytes : Maps.size D0 * 8 ≤ 140737488355328) :
    Calls Tryz.prog 28 #[.map (some b)] w fun e w' => ∃ (v : Value) (ss : List Int), e = .returned v ∧ ss.Perm (intKeys D0) ∧
      w'.ownsRow w.heap.size 3 1 v ss.length ((ss.mergeSort (fun x y => decide (x ≤ y))).map encZ) ∧ (v = .slice none 0 0 ↔ ss = []) ∧ Below w.heap.size w w' := by
  refine (callsIn_wide (n := 6)).1 ?_
  have hbl := hown.lt
  have hseq : SeqGives Fence.wide 2 Tryz.prog 88 #[.pointer (some ⟨w.heap.size, 0, none⟩)] encZ (fun ss => ss.Perm (intKeys D0)) (Maps.size D0) (w.alloc (.cells #[.map (some b)] 74)) :=
    AnyZI.keys_gives (ρ := Tryz.keysL_ren) { Tryz.keysL with } Fence.wide _ trivial rfl (by omega) w.heap.size b nn D0 _ (by simp) (by simp) (by
      obtain ⟨es, clock, hb, Ft, hs, hD⟩ := hown
      exact ⟨es, clock, (Below.heap_alloc _ _ b hbl).trans hb, Ft, hs, hD⟩)
  have cK : ∀ mb W, CallsIn Fence.wide 5 Tryz.prog 56 #[.map mb] W fun e w' => e = .returned (.func (.func 88) #[] #[.pointer (some ⟨W.heap.size, 0, none⟩)]) ∧ w' = W.alloc (.cells #[.map mb] 74) := fun mb W => AnyZI.keys_in Tryz.keysL Fence.wide 5 trivial rfl mb W
  have cS := AnyZI.sorted_in Tryz.sortedL Fence.wide 5 trivial trivial trivial trivial rfl (by omega) (Tryz.sortsK _) (enters_of Tryz.func87 (by kernel_rfl) rfl) 88 #[.pointer (some ⟨w.heap.size, 0, none⟩)] trivial (enters_of Tryz.func88 (by kernel_rfl) rfl) _ _ hmax hbytes _ hseq
  change CallsIn _ _ Tryz.prog 55 _ _ _ at cS
  have hfK : Fence.wide.fn 56 := trivial
  have hfS : Fence.wide.fn 55 := trivial
  refine callsIn_of_wp Tryz.func28 rfl trivial ?_ rfl
  simp only [Tryz.ntmps28, List.size_toArray, List.length_cons, List.length_nil, Nat.reduceAdd, Nat.reduceSub, Array.replicate_succ, Array.replicate_zero, List.push_toArray, List.append_toArray, List.nil_append, List.cons_append]
  gi_wp2_with (first | (gi_at_call 56; refine (cK _ _).mono ?_; rintro e w' ⟨rfl, rfl⟩) | (gi_at_call 55; refine cS.mono ?_; rintro e w' ⟨v, ss, rfl, hS, hrow, hnil, hb⟩))
  go_ret
  exact ⟨v, ss, rfl, hS, ownsRow_base_a hrow (by simp), hnil, ((Below.refl _ w).alloc (Nat.le_refl _) _).trans (hb.mono (by simp))⟩

theorem rise_sorted (S : Int → Bool) : (riseL S).Pairwise (fun a b => (fun x y : Int => decide (x ≤ y)) a b = true) := by
  refine List.Pairwise.filter _ ?_
  unfold allPlaces
  rw [List.pairwise_map]
  refine List.pairwise_lt_range.imp fun h => ?_
  simp only [Int.ofNat_eq_natCast, decide_eq_true_eq]
  omega
theorem rise_merge {S : Int → Bool} {ss : List Int} (h : (riseL S).Perm ss) : ss.mergeSort (fun x y => decide (x ≤ y)) = riseL S := by
  have h1 := mergeSort_of_perm_i h
  rw [← h1]
  exact List.mergeSort_of_pairwise (rise_sorted S)

theorem rising_any (b : Nat) (S : Int → Bool) (w : World) (hS : MSet w b S) : Calls Tryz.prog 28 #[.map (some b)] w (IntsPost (riseL S) w) := by
  obtain ⟨n, D, hown, hn, hsz, hh, hp⟩ := hS
  have hc := cnt_le S
  refine (rising_keys b n D w hown (by rw [hsz]; unfold maxLen; omega) (by rw [hsz]; omega)).mono ?_
  rintro e w' ⟨v, ss, rfl, hperm, hrow, _, hb⟩
  have hk := rise_keys hown hh hp
  have h1 : (riseL S).Perm ss := hk.trans hperm.symm
  rw [rise_merge h1, ← h1.length_eq] at hrow
  exact ⟨v, rfl, hb, ints_of_own hrow (fun g hg => hrow.lt g hg)⟩
end Go.Proofs.YtknccacfhknnaaaGreat
