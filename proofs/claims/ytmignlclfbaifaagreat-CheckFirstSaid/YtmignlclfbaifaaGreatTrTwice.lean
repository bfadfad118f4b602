/- What check.twice tells: whether one of some texts is there twice. -/
import Derived.Test.YtmignlclfbaifaaGreatTrSeq
import Derived.Test.YtmignlclfbaifaaGreatTrPlain
namespace Go.Proofs.YtmignlclfbaifaaGreat
open Go.RowKit Go.Sort Go.Shelf

theorem encs_eq (l : List ByteArray) : l.map encT = (l.map (·.data.toList)).map encStr := by simp [encT, Function.comp_def]
theorem strs_of_own {w : World} {base : Nat} {e : TypeId} {v : Value} {n : Nat} {l : List ByteArray} {ok : Nat → Prop} (h : w.ownsRow base e 1 v n (l.map encT)) (hok : ∀ g, v.ownBlock = some g → ok g) : SlR w ok 1 RStr v l := by
  have hf : ((l.map encT).map fun x => [x]).flatten = l.map encT := flatten_single _
  have hn : n = l.length := by have := h.1; simp at this; omega
  refine SlR.of_own (css := (l.map encT).map fun x => [x]) (by rw [hf]; exact h) hn (by simp) ?_ ?_ hok
  · intro cs hcs
    obtain ⟨_, _, rfl⟩ := List.mem_map.1 hcs
    rfl
  · intro i h1 h2
    simp [RStr, encT]
theorem sort_names (base g cap : Nat) (l : List ByteArray) (w : World) (hrow : w.ownsRow base 9 1 (.slice (some ⟨g, 0, none⟩) l.length cap) l.length (l.map encT)) (hl : l.length ≤ 1000) :
    Calls Tryz.prog 67 #[.slice (some ⟨g, 0, none⟩) l.length cap] w fun e w' => e = .returned (.tuple #[]) ∧ ∃ l' : List ByteArray, l'.Perm l ∧ (l'.map (·.data.toList)).Pairwise (fun a b => a ≤ b) ∧ w'.ownsRow base 9 1 (.slice (some ⟨g, 0, none⟩) l.length cap) l.length (l'.map encT) ∧ w.grownBy w' (some g) := by
  rcases hrow.2 with ⟨hnil, _⟩ | ⟨g', cap', cur, hv, hbase, hb, h1, h2, h3, h4⟩
  · cases hnil
  · obtain ⟨rfl, rfl⟩ : g = g' ∧ cap = cap' := by injection hv with h5 _ h6; injection h5 with h5; injection h5 with h5; exact ⟨h5, h6⟩
    have hH : Holds encStr w g 0 (l.map (·.data.toList)).toArray := holds_of_block hb (by rw [encs_eq] at h4; simpa using h4)
    have hc := AnyM.slices_Sort_string Tryz.sortS g 0 cap (l.map (·.data.toList)) w hH (Array.getElem?_eq_some_iff.1 hb).1 (by simp; omega)
    rw [List.length_map] at hc
    refine hc.mono ?_
    rintro e w' ⟨he, n, os, rfl⟩
    have hp := List.mergeSort_perm (l.map (·.data.toList)) (fun x y => decide (x ≤ y))
    have hlen := hp.length_eq
    have hsrt : ((l.map (·.data.toList)).mergeSort (fun x y => decide (x ≤ y))).Pairwise (fun a b => a ≤ b) := by
      refine (List.pairwise_mergeSort (le := fun x y : List UInt8 => decide (x ≤ y)) (fun a b c h1 h2 => ?_) (fun a b => ?_) _).imp fun h => of_decide_eq_true h
      · exact decide_eq_true (List.le_trans (of_decide_eq_true h1) (of_decide_eq_true h2))
      · rw [Bool.or_eq_true, decide_eq_true_eq, decide_eq_true_eq]; exact List.le_total a b
    generalize hss : (l.map (·.data.toList)).mergeSort (fun x y => decide (x ≤ y)) = ss at *
    refine ⟨he, ss.map (fun x => ⟨x.toArray⟩), ?_, by simpa [Function.comp_def] using hsrt, ?_, grownBy_sorted _⟩
    · have := hp.map (fun x : List UInt8 => (⟨x.toArray⟩ : ByteArray))
      simpa [Function.comp_def] using this
    · have h := ownsRow_sorted (n := n) (os := os) (ss := l.map (·.data.toList)) (ts := ss) hlen hbase hb (by simpa using h1) h2 h3
      rw [List.length_map] at h
      have e2 : (ss.map (fun x => (⟨x.toArray⟩ : ByteArray))).map encT = ss.map encStr := by simp [encT, Function.comp_def]
      rw [e2]; exact h
theorem sizeOf_string (w : World) : (Go.sizeOf 9).run Tryz.prog w = .ok 1 w := by kernel_rfl
theorem zero_string (w : World) : (zeroValue 9).run Tryz.prog w = .ok (.string ⟨#[]⟩) w := by kernel_rfl
theorem clone_names (base g cap : Nat) (l : List ByteArray) (w : World) (hrow : w.ownsRow base 9 1 (.slice (some ⟨g, 0, none⟩) l.length cap) l.length (l.map encT)) (hl : l.length ≤ 1000) :
    Calls Tryz.prog 48 #[.slice (some ⟨g, 0, none⟩) l.length cap] w fun e w' => ∃ g4 c4, e = .returned (.slice (some ⟨g4, 0, none⟩) l.length c4) ∧ w'.ownsRow w.heap.size 9 1 (.slice (some ⟨g4, 0, none⟩) l.length c4) l.length (l.map encT) ∧ Below w.heap.size w w' := by
  obtain ⟨z0, hi0, hz0, hz1, hz2⟩ := info_parts info_string
  have hc := Cells.of_own hrow rfl
  refine (AnyE.slices_Clone Tryz.cloneS z0 _ 1 16 hi0 hz0 hz1 hz2 rfl (by decide) sizeOf_string g 0 l.length cap (l.map encT) w (by simp) (by unfold maxLen; omega) (by omega) (fun j u hu => by
    obtain ⟨hj, rfl⟩ := List.getElem?_eq_some_iff.1 hu
    exact hc j hj) (fun u hu => by
    obtain ⟨s, _, rfl⟩ := List.mem_map.1 hu
    rfl)).mono ?_
  rintro e w' ⟨v', rfl, hr, hne, hb⟩
  replace hr : w'.ownsRow w.heap.size 9 1 v' l.length (l.map encT) := hr
  rcases hr.2 with ⟨hn4, _⟩ | ⟨g4, c4, _, hv4, _⟩
  · exact absurd hn4 hne
  · subst hv4
    exact ⟨g4, c4, rfl, hr, hb⟩
theorem keeps_nodup {l : List (List UInt8)} (h : l.Nodup) : Lib.compactUpTo l.toArray l.toArray.size = l := by
  rw [Lib.compactUpTo_all]
  · rw [Lib.range_map_get]
  · intro j hj
    have hj' : j < l.length := by simpa using hj
    unfold Lib.keeps
    refine decide_eq_true ?_
    by_cases h0 : j = 0
    · exact .inl h0
    · refine .inr ?_
      have h1 : j - 1 < l.length := by omega
      simp only [List.getElem!_toArray]
      rw [getElem!_pos l j hj', getElem!_pos l (j - 1) h1]
      exact fun e => (List.pairwise_iff_getElem.1 h (j - 1) j h1 hj' (by omega)) e.symm
theorem compact_texts (base g cap : Nat) (l : List ByteArray) (w : World) (hrow : w.ownsRow base 9 1 (.slice (some ⟨g, 0, none⟩) l.length cap) l.length (l.map encT)) (hl : l.length ≤ 1000) :
    Calls Tryz.prog 47 #[.slice (some ⟨g, 0, none⟩) l.length cap] w fun e w' => e = .returned (.slice (some ⟨g, 0, none⟩) (Lib.compactUpTo (l.map fun s : ByteArray => s.data.toList).toArray (l.map fun s : ByteArray => s.data.toList).toArray.size).length cap) ∧ w.grownBy w' (some g) := by
  rcases hrow.2 with ⟨hnil, _⟩ | ⟨g', cap', cur, hv, hbase, hb, h1, h2, h3, h4⟩
  · cases hnil
  · obtain ⟨rfl, rfl⟩ : g = g' ∧ cap = cap' := by injection hv with h5 _ h6; injection h5 with h5; injection h5 with h5; exact ⟨h5, h6⟩
    have hH : Holds encStr w g 0 (l.map (·.data.toList)).toArray := holds_of_block hb (by rw [encs_eq] at h4; simpa using h4)
    have hgd : GuardAt Tryz.prog 9 encStr := fun op a b x y w => GuardAt.string Tryz.prog 9 op a b ⟨x.toArray⟩ ⟨y.toArray⟩ w
    have hbd : ∀ x y : List UInt8, ((⟨x.toArray⟩ : ByteArray).toList == (⟨y.toArray⟩ : ByteArray).toList) = decide (x = y) := fun x y => by rw [Bool.eq_iff_iff]; simp [ByteArray.toList_eq]
    have heq : EqlAt Tryz.prog 9 encStr (fun x y => decide (x = y)) := ⟨fun x y w => by show _ = Result.ok (Value.bool (decide (x = y))) w; rw [← hbd]; exact (EqlAt.string Tryz.prog 9).1 ⟨x.toArray⟩ ⟨y.toArray⟩ w, hgd⟩
    have hne : NeqAt Tryz.prog 9 encStr (fun x y => decide (x = y)) := ⟨fun x y w => by show _ = Result.ok (Value.bool (!decide (x = y))) w; rw [← hbd]; exact (NeqAt.string Tryz.prog 9).1 ⟨x.toArray⟩ ⟨y.toArray⟩ w, hgd⟩
    have hc := AnyE.slices_Compact Tryz.compactS encStr (fun _ => rfl) heq hne [] zero_string g 0 cap (l.map (·.data.toList)).toArray w hH (by simp; omega) (by simpa using h1)
    simp only [List.size_toArray, List.length_map] at hc ⊢
    refine hc.mono ?_
    rintro e w' ⟨he, q, rfl⟩
    refine ⟨he, ?_⟩
    have h := grownBy_sorted (w := w) (g := g) (n := q) (os := #[]) ((Lib.compactUpTo (l.map fun s : ByteArray => s.data.toList).toArray l.length) ++ List.replicate (l.length - (Lib.compactUpTo (l.map fun s : ByteArray => s.data.toList).toArray l.length).length) []).toArray
    rw [grow_empty] at h
    exact h

/-! ### a sorted row that has no twins keeps its length in Compact, and only that -/
theorem compact_len_lt {l : List (List UInt8)} (hs : l.Pairwise fun a b => a ≤ b) (h : ¬ l.Nodup) : (Lib.compactUpTo l.toArray l.toArray.size).length < l.length := by
  have hex : ∃ (j : Nat) (h1 : j + 1 < l.length), l[j] = l[j + 1] := by
    by_cases hc : ∃ (j : Nat) (h1 : j + 1 < l.length), l[j] = l[j + 1]
    · exact hc
    · refine absurd ?_ h
      have hne : ∀ (j : Nat) (h1 : j + 1 < l.length), l[j] ≠ l[j + 1] := fun j h1 e => hc ⟨j, h1, e⟩
      refine List.pairwise_iff_getElem.2 fun i j hi hj hij => ?_
      intro e
      have h1 := List.pairwise_iff_getElem.1 hs i (i + 1) hi (by omega) (by omega)
      have h2 : l[i + 1]'(by omega) ≤ l[j] := by
        by_cases e2 : i + 1 = j
        · subst e2; exact List.le_refl _
        · exact List.pairwise_iff_getElem.1 hs (i + 1) j (by omega) hj (by omega)
      rw [← e] at h2
      exact hne i (by omega) (List.le_antisymm h1 h2)
  obtain ⟨j, h1, e⟩ := hex
  unfold Lib.compactUpTo
  rw [List.length_map]
  have hlt : ((List.range l.toArray.size).filter (Lib.keeps l.toArray)).length < (List.range l.toArray.size).length := by
    refine List.length_filter_lt_length_iff_exists.2 ⟨j + 1, by simp; omega, ?_⟩
    unfold Lib.keeps
    simp only [decide_eq_true_eq, not_or, Nat.add_sub_cancel, List.getElem!_toArray]
    refine ⟨by omega, ?_⟩
    rw [getElem!_pos l (j + 1) h1, getElem!_pos l j (by omega)]
    exact fun h => h e.symm
  simpa using hlt

theorem values_any (a : Option Addr) (len cap : Nat) (w : World) : Calls Tryz.prog 46 #[.slice a len cap] w fun e w' => e = .returned (.func (.func 68) #[] #[.pointer (some ⟨w.heap.size, 0, none⟩)]) ∧ w' = w.alloc (.cells #[.slice a len cap] 47) :=
  (callsIn_wide (n := 3)).1 (vals_in Fence.wide 3 trivial rfl a len cap w)
theorem append_seq (Bs : Nat) (A : Option Addr) (cap : Nat) (l : List ByteArray) (hl : l.length ≤ 1000) (w : World) (hBs : Bs < w.heap.size)
    (hc : w.cell? ⟨Bs, 0, none⟩ = some (.slice A l.length cap)) (hS : SlR w (· < w.heap.size) 1 RStr (.slice A l.length cap) l) :
    Calls Tryz.prog 91 #[.slice none 0 0, .func (.func 68) #[] #[.pointer (some ⟨Bs, 0, none⟩)]] w fun e W' => ∃ v, e = .returned v ∧ W'.ownsRow w.heap.size 9 1 v l.length (l.map encT) ∧ (v = .slice none 0 0 ↔ l = []) ∧ Below w.heap.size w W' :=
  (callsIn_wide (n := 5)).1 (collect_in Fence.wide 5 trivial trivial rfl (by omega) Bs A cap l hl w hBs hc hS)
theorem collect_any (Bs : Nat) (A : Option Addr) (cap : Nat) (l : List ByteArray) (hl : l.length ≤ 1000) (w : World) (hBs : Bs < w.heap.size)
    (hc : w.cell? ⟨Bs, 0, none⟩ = some (.slice A l.length cap)) (hS : SlR w (· < w.heap.size) 1 RStr (.slice A l.length cap) l) :
    Calls Tryz.prog 66 #[.func (.func 68) #[] #[.pointer (some ⟨Bs, 0, none⟩)]] w fun e W' => ∃ v, e = .returned v ∧ W'.ownsRow w.heap.size 9 1 v l.length (l.map encT) ∧ (v = .slice none 0 0 ↔ l = []) ∧ Below w.heap.size w W' := by
  have HC := Lib.hid (append_seq Bs A cap l hl w hBs hc hS)
  clear hc hS hBs hl
  go_enter Tryz.func66, Tryz.ntmps66
  go_wp2_with (go_at_call 91; refine HC.out.mono ?_; rintro e w' ⟨v, rfl, h1, h2, h3⟩)
  go_ret
  exact ⟨v, rfl, h1, h2, h3⟩
theorem sorted_texts (Bs : Nat) (A : Option Addr) (cap : Nat) (l : List ByteArray) (hl : l.length ≤ 1000) (w : World) (hBs : Bs < w.heap.size)
    (hc : w.cell? ⟨Bs, 0, none⟩ = some (.slice A l.length cap)) (hS : SlR w (· < w.heap.size) 1 RStr (.slice A l.length cap) l) :
    Calls Tryz.prog 45 #[.func (.func 68) #[] #[.pointer (some ⟨Bs, 0, none⟩)]] w fun e W' => ∃ (v : Value) (l' : List ByteArray), e = .returned v ∧ l'.Perm l ∧ (l'.map (·.data.toList)).Pairwise (fun a b => a ≤ b) ∧ W'.ownsRow w.heap.size 9 1 v l.length (l'.map encT) ∧ (l = [] → v = .slice none 0 0) ∧ Below w.heap.size w W' := by
  have HC := Lib.hid (collect_any Bs A cap l hl w hBs hc hS)
  have HL := Lib.hid hl
  clear hc hS hBs hl
  go_enter Tryz.func45, Tryz.ntmps45
  go_upto_region 2 with (go_at_call 66; refine HC.out.mono ?_; rintro e W ⟨v, rfl, h1, h2, h3⟩)
  rcases h1.2 with ⟨rfl, hz⟩ | ⟨g, c4, _, rfl, _⟩
  · have hn : l = [] := List.eq_nil_of_length_eq_zero hz
    have HN := Lib.hid hn
    have H1 := Lib.hid h1
    have H3 := Lib.hid h3
    have HS : Hid (Calls Tryz.prog 67 #[.slice none 0 0] W fun e w' => e = .returned (.tuple #[]) ∧ w' = W) := Lib.hid (AnyM.slices_Sort_string_none Tryz.sortS none 0 W)
    clear h1 h2 h3 hz hn
    go_wp2_with (go_at_call 67; refine HS.out.mono ?_; rintro e w' ⟨rfl, rfl⟩)
    go_ret
    exact ⟨_, [], rfl, by rw [HN.out], .nil, by have := H1.out; rw [HN.out] at this ⊢; exact this, fun _ => rfl, H3.out⟩
  · have hne : l ≠ [] := fun e => by have := h2.2 e; cases this
    have HN := Lib.hid hne
    have H3 := Lib.hid h3
    have HS := Lib.hid (sort_names w.heap.size g c4 l W h1 HL.out)
    clear h1 h2 h3 hne
    go_wp2_with (go_at_call 67; refine HS.out.mono ?_; rintro e w' ⟨rfl, l', hp, hs, hown, hg⟩)
    go_ret
    refine ⟨_, l', rfl, hp, hs, hown, fun h => absurd h HN.out, ?_⟩
    refine H3.out.grown hg H3.out.size (fun k e => ?_)
    have e' : g = k := (by simpa using e)
    rcases hown.2 with ⟨e2, _⟩ | ⟨g', _, _, e2, hb, _⟩
    · cases e2
    · have : g = g' := by injection e2 with e2 _ _; injection e2 with e2; injection e2
      omega
/-- slices.Clone, slices.Compact at nothing -/
theorem clone_none (w : World) : Calls Tryz.prog 48 #[.slice none 0 0] w fun e w' => e = .returned (.slice none 0 0) ∧ w = w' := by
  have heq : ∀ W, (binOp .eql 47 (.slice none 0 0) (.slice none 0 0)).run Tryz.prog W = .ok (.bool true) W := fun W => Lib.run_eql_slice_nil W 47 9 none 0 0 0 0 Tryz.underlying47
  go_enter Tryz.func48, Tryz.ntmps48
  go_wp2
  go_ret
  exact ⟨rfl, rfl⟩
theorem compact_none (w : World) : Calls Tryz.prog 47 #[.slice none 0 0] w fun e w' => e = .returned (.slice none 0 0) ∧ w = w' := by
  go_enter Tryz.func47, Tryz.ntmps47
  go_wp2
  go_ret
  exact ⟨rfl, rfl⟩
theorem perm_nodup_iff {l l' : List ByteArray} (h : l'.Perm l) : (l'.map fun s : ByteArray => s.data.toList).Nodup ↔ l.Nodup := by
  rw [← h.nodup_iff]
  constructor
  · exact fun h => List.Pairwise.imp (fun hne e => hne (by rw [e])) (List.pairwise_map.1 h)
  · exact fun h => List.pairwise_map.2 (h.imp fun hne e => hne (ByteArray.ext (Array.ext' e)))
theorem twice_any (A : Option Addr) (cap : Nat) (l : List ByteArray) (hl : l.length ≤ 1000) (w : World) (hS : SlR w (· < w.heap.size) 1 RStr (.slice A l.length cap) l) :
    Calls Tryz.prog 28 #[.slice A l.length cap] w fun e w' => e = .returned (.bool (twiceB l)) ∧ Below w.heap.size w w' := by
  have hb0 : Below w.heap.size w (w.alloc (.cells #[.slice A l.length cap] 47)) := below1 _ _
  have HSO := Lib.hid (sorted_texts w.heap.size A cap l hl (w.alloc (.cells #[.slice A l.length cap] 47)) (by simp) ((Blk.new _ _ _).cell 0) (hS.imp (fun b h => by simp; omega) (fun b h => hb0.block b h) fun _ _ _ r => r))
  have HL := Lib.hid hl
  have HB0 := Lib.hid hb0
  clear hS hl hb0
  go_enter Tryz.func28, Tryz.ntmps28
  go_upto_region 2 with (first
    | (go_at_call 46; refine (values_any _ _ _ _).mono ?_; rintro e w' ⟨rfl, rfl⟩)
    | (go_at_call 45; refine HSO.out.mono ?_; rintro e W ⟨v, l', rfl, hp, hs, hown, hnil, hb⟩))
  have hlen := hp.length_eq
  rcases hown.2 with ⟨rfl, hz⟩ | ⟨g, c4, _, rfl, hgb, _⟩
  · have hn : l = [] := List.eq_nil_of_length_eq_zero hz
    have HR : Hid (twiceB l = false) := Lib.hid (by rw [hn]; rfl)
    have HB := Lib.hid (HB0.out.trans (hb.mono HB0.out.size))
    clear hp hs hown hnil hb hlen hz hn
    go_wp2_with (first
      | (go_at_call 48; refine (clone_none _).mono ?_; rintro e w' ⟨rfl, rfl⟩)
      | (go_at_call 47; refine (compact_none _).mono ?_; rintro e w' ⟨rfl, rfl⟩))
    go_ret
    exact ⟨by rw [HR.out]; rfl, HB.out⟩
  · have hrow : W.ownsRow (w.alloc (.cells #[.slice A l.length cap] 47)).heap.size 9 1 (.slice (some ⟨g, 0, none⟩) l'.length c4) l'.length (l'.map encT) := by rw [hlen]; exact hown
    have hcl := clone_names _ g c4 l' W hrow (by rw [hlen]; exact HL.out)
    rw [hlen] at hcl
    have HCL := Lib.hid hcl
    have hcp : ∀ (X : World) (g4 c4 : Nat), X.ownsRow W.heap.size 9 1 (.slice (some ⟨g4, 0, none⟩) l.length c4) l.length (l'.map encT) → Calls Tryz.prog 47 #[.slice (some ⟨g4, 0, none⟩) l.length c4] X fun e w' => (∃ n', e = .returned (.slice (some ⟨g4, 0, none⟩) n' c4) ∧ decide (n' < l.length) = twiceB l) ∧ X.grownBy w' (some g4) := fun X g4 c4 h => by
      rw [← hlen] at h ⊢
      refine (compact_texts _ g4 c4 l' X h (by rw [hlen]; exact HL.out)).mono ?_
      rintro e w' ⟨rfl, hg⟩
      refine ⟨⟨_, rfl, ?_⟩, hg⟩
      unfold twiceB
      by_cases hnd : l.Nodup
      · rw [decide_eq_true hnd, keeps_nodup ((perm_nodup_iff hp).2 hnd), List.length_map]
        simp
      · rw [decide_eq_false hnd]
        have := compact_len_lt hs (fun h => hnd ((perm_nodup_iff hp).1 h))
        rw [List.length_map] at this
        exact decide_eq_true (by omega)
    have HCP := Lib.hid hcp
    have HB := Lib.hid (HB0.out.trans (hb.mono HB0.out.size))
    clear hp hs hown hnil hb hlen hrow hcl hcp hgb
    go_wp2_with (first
      | (go_at_call 48; refine HCL.out.mono ?_; rintro e W2 ⟨g4, c5, rfl, hr2, hb2⟩; have HC2 := Lib.hid (HCP.out W2 g4 c5 hr2); have HG4 : Hid (W.heap.size ≤ g4) := Lib.hid (by rcases hr2.2 with ⟨e2, _⟩ | ⟨g', _, _, e2, hb, _⟩; (cases e2); (have : g4 = g' := (by injection e2 with e2 _ _; injection e2 with e2; injection e2); omega)); have HB2 := Lib.hid hb2; clear hr2 hb2)
      | (go_at_call 47; refine HC2.out.mono ?_; rintro e W3 ⟨⟨n', rfl, hd⟩, hg⟩; have HD := Lib.hid hd; have HG := Lib.hid hg; clear hd hg))
    go_ret
    refine ⟨by rw [← HD.out]; rfl, HB.out.trans ?_⟩
    have h2 : Below W.heap.size W W3 := HB2.out.grown HG.out HB2.out.size (fun k e => by have e' : g4 = k := (by simpa using e); have := HG4.out; omega)
    exact h2.mono HB.out.size
end Go.Proofs.YtmignlclfbaifaaGreat
