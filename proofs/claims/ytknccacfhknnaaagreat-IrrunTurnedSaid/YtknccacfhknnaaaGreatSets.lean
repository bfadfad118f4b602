/- Sets of numbers (map[int]struct{}), as predicates: what a world holds, and what a store and a delete make of it. -/
import Derived.Test.YtknccacfhknnaaaGreatFlowVisit
import Derived.Maps.Own
import Derived.Maps.OwnSet
import Derived.Maps.Ext
import Derived.Lib.SlKeysI
namespace Go.Proofs.YtknccacfhknnaaaGreat
open Go.RowKit Go.Maps

def allPlaces : List Int := (List.range 50000).map Int.ofNat
theorem mem_allPlaces (n : Int) : n ∈ allPlaces ↔ placeP n = true := by
  unfold allPlaces placeP
  simp only [List.mem_map, List.mem_range, decide_eq_true_eq]
  constructor
  · rintro ⟨i, hi, rfl⟩
    simp only [Int.ofNat_eq_natCast]
    omega
  · rintro ⟨h0, h1⟩; exact ⟨n.toNat, by omega, by simp only [Int.ofNat_eq_natCast]; omega⟩
theorem nodup_allPlaces : allPlaces.Nodup := by
  unfold allPlaces
  rw [List.nodup_iff_pairwise_ne, List.pairwise_map]
  exact List.nodup_range.imp fun h e => h (by simp only [Int.ofNat_eq_natCast] at e; omega)
/-- how many numbers a set has -/
def cnt (S : Int → Bool) : Nat := (allPlaces.filter S).length
theorem cnt_le (S : Int → Bool) : cnt S ≤ 50000 := by
  unfold cnt
  exact Nat.le_trans (List.length_filter_le _ _) (by simp [allPlaces])
def put1 (S : Int → Bool) (k : Int) (x : Int) : Bool := x == k || S x
def del1 (S : Int → Bool) (k : Int) (x : Int) : Bool := !(x == k) && S x
theorem filter_one {k : Int} {S T : Int → Bool} : ∀ (l : List Int), l.Nodup → k ∈ l → (∀ x, x ≠ k → T x = S x) → T k = true → S k = false → (l.filter T).length = (l.filter S).length + 1
  | [], _, h, _, _, _ => by simp at h
  | a :: r, hn, h, he, ht, hs => by
    obtain ⟨hna, hnr⟩ := List.nodup_cons.1 hn
    by_cases e : a = k
    · subst e
      have : r.filter T = r.filter S := List.filter_congr fun x hx => he x (fun e => hna (e ▸ hx))
      simp [ht, hs, this]
    · have hk : k ∈ r := by
        rcases List.mem_cons.1 h with h | h
        · exact absurd h.symm e
        · exact h
      have ih := filter_one r hnr hk he ht hs
      rw [List.filter_cons, List.filter_cons, he a e]
      cases S a <;> simp [ih]
theorem cnt_put {S : Int → Bool} {k : Int} (hk : placeP k = true) : cnt (put1 S k) = if S k = true then cnt S else cnt S + 1 := by
  by_cases h : S k = true
  · rw [if_pos h]
    have : put1 S k = S := by
      funext x
      unfold put1
      by_cases e : x = k
      · subst e; simp [h]
      · simp [e]
    rw [this]
  · rw [if_neg h]
    exact filter_one allPlaces nodup_allPlaces ((mem_allPlaces k).2 hk) (fun x hx => by unfold put1; simp [hx]) (by simp [put1]) (by simpa using h)
theorem cnt_del {S : Int → Bool} {k : Int} (hk : placeP k = true) : cnt (del1 S k) + (if S k = true then 1 else 0) = cnt S := by
  by_cases h : S k = true
  · rw [if_pos h]
    exact (filter_one allPlaces nodup_allPlaces ((mem_allPlaces k).2 hk) (fun x hx => by unfold del1; simp [hx]) h (by simp [del1])).symm
  · rw [if_neg h]
    have : del1 S k = S := by
      funext x
      unfold del1
      by_cases e : x = k
      · subst e; simp at h; simp [h]
      · simp [e]
    rw [this, Nat.add_zero]

theorem keyI : Keyed Tryz.prog 3 := int_keyed Tryz.underlying3
abbrev DU := DataW Unit
/-- block b of w is the set S -/
def MSet (w : World) (b : Nat) (S : Int → Bool) : Prop :=
  ∃ (n : Nat) (D : DU), w.ownsMap Tryz.prog 3 unitElem b n D ∧ n ≤ 50000 ∧ Maps.size D = cnt S ∧ (∀ k, Maps.has D (.int .i64 k) = S k) ∧ (∀ k, S k = true → placeP k = true)

theorem owns_shrink {w : World} {b n : Nat} {D : DU} {R : Value → Option (DU × List MemPlace)} (h : w.ownsMap Tryz.prog 3 R b n D) : w.ownsMap Tryz.prog 3 R b (Maps.size D) D := by
  obtain ⟨es, clock, h1, h2, _, rfl⟩ := h
  refine ⟨es, clock, h1, h2, ?_, rfl⟩
  rw [Maps.size_eq, length_sorted]
  simp
theorem lit_ne {x k : Int} (h : x ≠ k) : (Lit.int .i64 x) ≠ Lit.int .i64 k := fun e => h (by injection e)
/-- the numbers of a set, rising -/
def riseL (S : Int → Bool) : List Int := allPlaces.filter S
theorem mem_riseL {S : Int → Bool} {k : Int} : k ∈ riseL S ↔ placeP k = true ∧ S k = true := by
  unfold riseL
  rw [List.mem_filter, mem_allPlaces]
theorem nodup_riseL (S : Int → Bool) : (riseL S).Nodup := List.Pairwise.filter _ nodup_allPlaces
theorem rise_keys {w : World} {b n : Nat} {D : DU} {S : Int → Bool} {R : Value → Option (DU × List MemPlace)} (h : w.ownsMap Tryz.prog 3 R b n D) (hh : ∀ k, Maps.has D (.int .i64 k) = S k) (hp : ∀ k, S k = true → placeP k = true) :
    (riseL S).Perm (intKeys D) :=
  CollectedI.perm (left := fun _ => false) ⟨nodup_riseL S, fun x => by rw [mem_riseL, hh x]; exact ⟨fun h => ⟨h.2, rfl⟩, fun h => ⟨hp x h.1, h.1⟩⟩⟩ h keyI Tryz.underlying3 (fun _ => rfl)
theorem size_keys (D : DU) : Maps.size D = (intKeys D).length := by
  unfold Maps.size intKeys
  split <;> simp
/-- a map whose keys are just the numbers of S -/
theorem MSet.of {w : World} {b n : Nat} {D : DU} {S : Int → Bool} (h : w.ownsMap Tryz.prog 3 unitElem b n D) (hh : ∀ k, Maps.has D (.int .i64 k) = S k) (hp : ∀ k, S k = true → placeP k = true) : MSet w b S := by
  have hs : Maps.size D = cnt S := by rw [size_keys, ← (rise_keys h hh hp).length_eq]; rfl
  exact ⟨_, D, owns_shrink h, by rw [hs]; exact cnt_le _, hs, hh, hp⟩
section
variable {w w' : World} {b : Nat} {S : Int → Bool}
theorem MSet.lt (h : MSet w b S) : b < w.heap.size := by
  obtain ⟨_, _, h, _⟩ := h
  exact h.lt
theorem MSet.place (h : MSet w b S) {k : Int} (hk : S k = true) : placeP k = true := by
  obtain ⟨_, _, _, _, _, _, h⟩ := h
  exact h k hk
theorem MSet.kept {row : Option Nat} (h : MSet w b S) (hg : w.grownBy w' row) (hne : some b ≠ row) : MSet w' b S := by
  obtain ⟨n, D, h1, h2⟩ := h
  exact ⟨n, D, h1.kept hg hne, h2⟩
theorem MSet.made (w : World) : MSet (w.alloc (.map #[] 0)) w.heap.size (fun _ => false) :=
  MSet.of (World.ownsMap_made _ _ _ _) (fun _ => rfl) (fun _ h => by cases h)
theorem MSet.put {n : Nat} {D : DU} {k : Int} (h0 : w.ownsMap Tryz.prog 3 unitElem b n D) (hh : ∀ k, Maps.has D (.int .i64 k) = S k) (hp : ∀ k, S k = true → placeP k = true)
    (hk : placeP k = true) (h1 : w'.ownsMap Tryz.prog 3 unitElem b (n + 1) (D.put (.int .i64 k) (.agg []))) : MSet w' b (put1 S k) := by
  refine MSet.of h1 (fun x => ?_) (fun x hx => ?_)
  · unfold put1
    by_cases e : x = k
    · subst e
      rw [Maps.has_put_same h0.isMap (by first | trivial | exact rfl | simp [WideAt.IsKeyLit])]
      simp
    · rw [Maps.has_put_other (lit_ne e), hh x]
      simp [e]
  · unfold put1 at hx
    by_cases e : x = k
    · subst e; exact hk
    · exact hp x (by simpa [e] using hx)
theorem MSet.del {n : Nat} {D : DU} {k : Int} (hh : ∀ k, Maps.has D (.int .i64 k) = S k) (hp : ∀ k, S k = true → placeP k = true)
    (h1 : w'.ownsMap Tryz.prog 3 unitElem b n (D.del (.int .i64 k))) : MSet w' b (del1 S k) := by
  refine MSet.of h1 (fun x => ?_) (fun x hx => ?_)
  · unfold del1
    by_cases e : x = k
    · subst e
      rw [Maps.has_del_same]
      simp
    · rw [Maps.has_del_other (lit_ne e), hh x]
      simp [e]
  · unfold del1 at hx
    by_cases e : x = k
    · subst e; simp at hx
    · exact hp x (by simpa [e] using hx)
end
end Go.Proofs.YtknccacfhknnaaaGreat
