/- What ir.names does at a unit whose names may be, each there once: it tells that they may be, together. Printed by wip/gen_irnames.py. -/
import Derived.Test.YtnpnhdmfdhnmfaaGreatDoorIrName
import Derived.Test.YtnpnhdmfdhnmfaaGreatDoorIrNamed
import Derived.Test.YtnpnhdmfdhnmfaaGreatDoorLaysE
import Derived.Deep.AppendLies
import Derived.Shelf.SortM.Plain
import Derived.Shelf.SortM.SortNone
import Derived.Sort.OwnSorted
import Derived.Shelf.SlicesE.Clone
import Derived.Shelf.SlicesE.Compact
namespace Go.Proofs.YtnpnhdmfdhnmfaaGreatDoor
open Go.RowKit Go.Sort Go.Shelf

def allNames (u : LUnit) : List ByteArray := u.arrays.map (·.1) ++ u.flows.map (·.name)
def encT (s : ByteArray) : Value := .string s
theorem info_string : (Tryz.prog.info? 9).map (fun i => (i.zero, i.size, i.bytes)) = some (some (.string ⟨#[]⟩), 1, 16) := by kernel_rfl

theorem grown_below' {w w' : World} {row : Option Nat} (h : Below w.heap.size w w') : w.grownBy w' row := ⟨h.os, h.tape, h.output, h.size, fun k hk _ => h.block k hk⟩
/-- what a loop of ir.names has collected -/
structure NamesAt (W wr : World) (v : Value) (l : List ByteArray) : Prop where
  row : wr.ownsRow W.heap.size 9 1 v l.length (l.map encT)
  below : Below W.heap.size W wr
theorem namesAt_next {W wr w1 : World} {v : Value} {l : List ByteArray} {s : ByteArray} {n g cap : Nat} {xs : List Value} {o1 o2 : Obj} (h : NamesAt W wr v l) (hn : n = l.length) (hx : xs = l.map encT) (hown : w1.ownsRow W.heap.size 9 1 (.slice (some ⟨g, 0, none⟩) (n + 1) cap) (n + 1) (xs ++ [.string s]))
    (hg : ((wr.alloc o1).alloc o2).grownBy w1 v.ownBlock) : NamesAt W w1 (.slice (some ⟨g, 0, none⟩) (n + 1) cap) (l ++ [s]) := by
  subst hn
  subst hx
  have hs := h.below.size
  refine ⟨by simpa [encT] using hown, ?_⟩
  refine ((h.below.alloc hs o1).alloc (by simp; omega) o2).grown hg (by simp; omega) (fun k e => ?_)
  have := h.row.lt k e
  omega
theorem take_map_succ {α : Type} (f : α → ByteArray) (l : List α) (k : Nat) (h : k < l.length) : (l.map f).take (k + 1) = (l.map f).take k ++ [f l[k]] := by
  rw [List.take_succ_eq_append_getElem (by simpa using h)]; simp
theorem take_map_len {α : Type} (f : α → ByteArray) (l : List α) (k : Nat) (h : k ≤ l.length) : ((l.map f).take k).length = k := by simp; omega

theorem encs_eq (l : List ByteArray) : l.map encT = (l.map (·.data.toList)).map encStr := by simp [encT, Function.comp_def]
theorem strs_of_own {w : World} {base : Nat} {e : TypeId} {v : Value} {n : Nat} {l : List ByteArray} {ok : Nat → Prop} (h : w.ownsRow base e 1 v n (l.map encT)) (hok : ∀ g, v.ownBlock = some g → ok g) : SlR w ok 1 RStr v l := by
  have hf : ((l.map encT).map fun x => [x]).flatten = l.map encT := flatten_single _
  have hn : n = l.length := by have := h.1; simp at this; omega
  refine SlR.of_own (css := (l.map encT).map fun x => [x]) (by rw [hf]; exact h) hn (by simp) ?_ ?_ hok
  · intro cs hcs
    obtain ⟨_, _, rfl⟩ := List.mem_map.1 hcs
    rfl
  · intro i h1 h2
    simp [RStr, encT]
theorem sort_names (base g cap : Nat) (l : List ByteArray) (w : World) (hrow : w.ownsRow base 9 1 (.slice (some ⟨g, 0, none⟩) l.length cap) l.length (l.map encT)) (hl : l.length ≤ 1000) :
    Calls Tryz.prog 57 #[.slice (some ⟨g, 0, none⟩) l.length cap] w fun e w' => e = .returned (.tuple #[]) ∧ ∃ l' : List ByteArray, l'.Perm l ∧ w'.ownsRow base 9 1 (.slice (some ⟨g, 0, none⟩) l.length cap) l.length (l'.map encT) ∧ w.grownBy w' (some g) := by
  rcases hrow.2 with ⟨hnil, _⟩ | ⟨g', cap', cur, hv, hbase, hb, h1, h2, h3, h4⟩
  · cases hnil
  · obtain ⟨rfl, rfl⟩ : g = g' ∧ cap = cap' := by injection hv with h5 _ h6; injection h5 with h5; injection h5 with h5; exact ⟨h5, h6⟩
    have hH : Holds encStr w g 0 (l.map (·.data.toList)).toArray := holds_of_block hb (by rw [encs_eq] at h4; simpa using h4)
    have hc := AnyM.slices_Sort_string Tryz.sortS g 0 cap (l.map (·.data.toList)) w hH (Array.getElem?_eq_some_iff.1 hb).1 (by simp; omega)
    rw [List.length_map] at hc
    refine hc.mono ?_
    rintro e w' ⟨he, n, os, rfl⟩
    have hp := List.mergeSort_perm (l.map (·.data.toList)) (fun x y => decide (x ≤ y))
    have hlen := hp.length_eq
    generalize hss : (l.map (·.data.toList)).mergeSort (fun x y => decide (x ≤ y)) = ss at *
    refine ⟨he, ss.map (fun x => ⟨x.toArray⟩), ?_, ?_, grownBy_sorted _⟩
    · have := hp.map (fun x : List UInt8 => (⟨x.toArray⟩ : ByteArray))
      simpa [Function.comp_def] using this
    · have h := ownsRow_sorted (n := n) (os := os) (ss := l.map (·.data.toList)) (ts := ss) hlen hbase hb (by simpa using h1) h2 h3
      rw [List.length_map] at h
      have e2 : (ss.map (fun x => (⟨x.toArray⟩ : ByteArray))).map encT = ss.map encStr := by simp [encT, Function.comp_def]
      rw [e2]; exact h
theorem sizeOf_string (w : World) : (Go.sizeOf 9).run Tryz.prog w = .ok 1 w := by kernel_rfl
theorem zero_string (w : World) : (zeroValue 9).run Tryz.prog w = .ok (.string ⟨#[]⟩) w := by kernel_rfl
theorem clone_names (base g cap : Nat) (l : List ByteArray) (w : World) (hrow : w.ownsRow base 9 1 (.slice (some ⟨g, 0, none⟩) l.length cap) l.length (l.map encT)) (hl : l.length ≤ 1000) :
    Calls Tryz.prog 62 #[.slice (some ⟨g, 0, none⟩) l.length cap] w fun e w' => ∃ g4 c4, e = .returned (.slice (some ⟨g4, 0, none⟩) l.length c4) ∧ w'.ownsRow w.heap.size 9 1 (.slice (some ⟨g4, 0, none⟩) l.length c4) l.length (l.map encT) ∧ Below w.heap.size w w' := by
  obtain ⟨z0, hi0, hz0, hz1, hz2⟩ := info_parts info_string
  have hc := Cells.of_own hrow rfl
  refine (AnyE.slices_Clone Tryz.cloneS z0 _ 1 16 hi0 hz0 hz1 hz2 rfl (by decide) sizeOf_string g 0 l.length cap (l.map encT) w (by simp) (by unfold maxLen; omega) (by omega) (fun j u hu => by
    obtain ⟨hj, rfl⟩ := List.getElem?_eq_some_iff.1 hu
    exact hc j hj) (fun u hu => by
    obtain ⟨s, _, rfl⟩ := List.mem_map.1 hu
    rfl)).mono ?_
  rintro e w' ⟨v', rfl, hr, hne, hb⟩
  replace hr : w'.ownsRow w.heap.size 9 1 v' l.length (l.map encT) := hr
  rcases hr.2 with ⟨hn4, _⟩ | ⟨g4, c4, _, hv4, _⟩
  · exact absurd hn4 hne
  · subst hv4
    exact ⟨g4, c4, rfl, hr, hb⟩
theorem keeps_nodup {l : List (List UInt8)} (h : l.Nodup) : Lib.compactUpTo l.toArray l.toArray.size = l := by
  rw [Lib.compactUpTo_all]
  · rw [Lib.range_map_get]
  · intro j hj
    have hj' : j < l.length := by simpa using hj
    unfold Lib.keeps
    refine decide_eq_true ?_
    by_cases h0 : j = 0
    · exact .inl h0
    · refine .inr ?_
      have h1 : j - 1 < l.length := by omega
      simp only [List.getElem!_toArray]
      rw [getElem!_pos l j hj', getElem!_pos l (j - 1) h1]
      exact fun e => (List.pairwise_iff_getElem.1 h (j - 1) j h1 hj' (by omega)) e.symm
theorem compact_names (base g cap : Nat) (l : List ByteArray) (w : World) (hrow : w.ownsRow base 9 1 (.slice (some ⟨g, 0, none⟩) l.length cap) l.length (l.map encT)) (hl : l.length ≤ 1000) (hn : l.Nodup) :
    Calls Tryz.prog 61 #[.slice (some ⟨g, 0, none⟩) l.length cap] w fun e w' => e = .returned (.slice (some ⟨g, 0, none⟩) l.length cap) ∧ w.grownBy w' (some g) := by
  rcases hrow.2 with ⟨hnil, _⟩ | ⟨g', cap', cur, hv, hbase, hb, h1, h2, h3, h4⟩
  · cases hnil
  · obtain ⟨rfl, rfl⟩ : g = g' ∧ cap = cap' := by injection hv with h5 _ h6; injection h5 with h5; injection h5 with h5; exact ⟨h5, h6⟩
    have hH : Holds encStr w g 0 (l.map (·.data.toList)).toArray := holds_of_block hb (by rw [encs_eq] at h4; simpa using h4)
    have hnd : (l.map (·.data.toList)).Nodup := by
      refine List.pairwise_map.2 (hn.imp fun hne e => hne ?_)
      exact ByteArray.ext (Array.ext' e)
    have hgd : GuardAt Tryz.prog 9 encStr := fun op a b x y w => GuardAt.string Tryz.prog 9 op a b ⟨x.toArray⟩ ⟨y.toArray⟩ w
    have hbd : ∀ x y : List UInt8, ((⟨x.toArray⟩ : ByteArray).toList == (⟨y.toArray⟩ : ByteArray).toList) = decide (x = y) := fun x y => by rw [Bool.eq_iff_iff]; simp [ByteArray.toList_eq]
    have heq : EqlAt Tryz.prog 9 encStr (fun x y => decide (x = y)) := ⟨fun x y w => by show _ = Result.ok (Value.bool (decide (x = y))) w; rw [← hbd]; exact (EqlAt.string Tryz.prog 9).1 ⟨x.toArray⟩ ⟨y.toArray⟩ w, hgd⟩
    have hne : NeqAt Tryz.prog 9 encStr (fun x y => decide (x = y)) := ⟨fun x y w => by show _ = Result.ok (Value.bool (!decide (x = y))) w; rw [← hbd]; exact (NeqAt.string Tryz.prog 9).1 ⟨x.toArray⟩ ⟨y.toArray⟩ w, hgd⟩
    have hc := AnyE.slices_Compact Tryz.compactS encStr (fun _ => rfl) heq hne [] zero_string g 0 cap (l.map (·.data.toList)).toArray w hH (by simp; omega) (by simpa using h1)
    rw [keeps_nodup hnd] at hc
    simp only [List.size_toArray, List.length_map, Nat.sub_self, List.replicate_zero, List.append_nil] at hc
    refine hc.mono ?_
    rintro e w' ⟨he, q, rfl⟩
    refine ⟨he, ?_⟩
    have h := grownBy_sorted (w := w) (g := g) (n := q) (os := #[]) (l.map (·.data.toList)).toArray
    rw [grow_empty] at h
    exact h

section
set_option maxRecDepth 100000
set_option maxHeartbeats 4000000
theorem names_any (u : LUnit) (A1 A2 : Option Addr) (c1 c2 : Nat) (w : World) (ha : SlR w (· < w.heap.size) 2 RArr (.slice A1 u.arrays.length c1) u.arrays) (hf : SlR w (· < w.heap.size) 4 (RFlow w (· < w.heap.size)) (.slice A2 u.flows.length c2) u.flows) (hl1 : u.arrays.length ≤ 500) (hl2 : u.flows.length ≤ 500)
    (hg : ∀ s ∈ allNames u, NameG s) (hn : (allNames u).Nodup) (hpos : 0 < (allNames u).length) :
    Calls Tryz.prog 43 #[.agg #[.slice A1 u.arrays.length c1, .slice A2 u.flows.length c2]] w fun e w' => e = .returned (.bool true) ∧ Below w.heap.size w w' := by
  obtain ⟨z0, hi0, hz0, hz1, hz2⟩ := info_parts info_string
  have HG := Lib.hid hg
  have HND := Lib.hid hn
  have HPOS := Lib.hid hpos
  have HAA := Lib.hid ha
  have HFF := Lib.hid hf
  clear hg hn ha hf hpos
  go_enter Tryz.func43, Tryz.ntmps43
  go_upto_region 1 with fail
  refine wp_world ?_
  intro W hW
  have hB : Below w.heap.size w W := by rw [← hW]; exact below1 _ _
  have hU : Blk W w.heap.size 27 #[.slice A1 u.arrays.length c1, .slice A2 u.flows.length c2] := by rw [← hW]; exact Blk.new_at _ _ _ rfl
  clear hW
  have up : ∀ b, b < w.heap.size → b < W.heap.size := fun b h => Nat.lt_of_lt_of_le h hB.size
  have kp : Keeps (· < w.heap.size) w W := fun b h => hB.block b h
  have HA := Lib.hid (HAA.out.imp (ok' := (· < W.heap.size)) (R' := RArr) up kp (fun _ _ _ r => r))
  have HF := Lib.hid (HFF.out.imp (ok' := (· < W.heap.size)) (R' := RFlow W (· < W.heap.size)) up kp (fun _ _ _ r => r.imp up kp))
  have u0 : W.cell? ⟨w.heap.size, 0, none⟩ = some (.slice A1 u.arrays.length c1) := hU.cell 0
  have HU := Lib.hid hU
  have HB := Lib.hid hB
  clear up kp hU hB HAA HFF
  go_wp2
  clear u0
  go_loopw [3, 11] (fun v i wr => ∃ k : Nat, k ≤ u.arrays.length ∧ i = .int .i64 k ∧ NamesAt W wr v ((u.arrays.map (·.1)).take k)) (fun _ i _ => u.arrays.length - (RowKit.intOf i).toNat)
  case atStart => exact ⟨0, by omega, rfl, World.ownsRow_nil _ _ _ _, Below.refl _ _⟩
  case round =>
    obtain ⟨k, hk, rfl, hna⟩ := hrel
    obtain ⟨Av, cv, hv⟩ := own_form hna.row
    have htl := take_map_len (·.1) u.arrays k hk
    rw [htl] at hv
    subst hv
    have hbr := hna.below
    have hsz := hbr.size
    by_cases hlt : k < u.arrays.length
    · have d1 : decide ((k : Int) < (u.arrays.length : Int)) = true := decide_eq_true (by omega)
      obtain ⟨b3, o3, c3, f3, _, _, hb3, q3⟩ := HA.out.form (by omega)
      obtain rfl : A1 = some ⟨b3, o3, none⟩ := by injection f3
      obtain ⟨cs, _, hcs, hcell⟩ := q3 k hlt
      obtain ⟨x, hx⟩ : ∃ x, x = u.arrays[k] := ⟨_, rfl⟩
      rw [← hx] at hcs
      obtain ⟨nm, sz⟩ := x
      subst hcs
      have hcw := hcell.keep (hbr.block b3 hb3)
      have i0 : wr.cell? ⟨b3, o3 + k * 2, none⟩ = some (.string nm) := by have h := hcw.at_ (j := 0) rfl; simpa using h
      have i1 : wr.cell? ⟨b3, o3 + k * 2 + 1, none⟩ = some (.int .i64 sz) := hcw.at_ (j := 1) rfl
      have hts := take_map_succ (·.1) u.arrays k hlt
      rw [← hx] at hts
      have HTS := Lib.hid hts
      have hown : wr.ownsRow W.heap.size 9 1 (.slice Av k cv) k (((u.arrays.map (·.1)).take k).map encT) := by have h := hna.row; rw [htl] at h; exact h
      have HNA := Lib.hid hna
      have HTL := Lib.hid htl
      clear f3 q3 hcell hcw hx hts htl hna hb3
      generalize hxs : ((u.arrays.map (·.1)).take k).map encT = xs at *
      have HXS := Lib.hid hxs
      clear hxs
      go_wp2_with (at_builtin; refine wpList_append_lies _ rfl (.tmp 15) (.tmp 18) _ rfl W.heap.size 9 z0 _ 1 16 Tryz.underlying38 hi0 hz0 hz1 hz2 rfl (by decide) _ _ _ rfl ((hown.alloc _).alloc _) ⟨wr.heap.size + 1, 0, none⟩ 1 1 [.string nm] rfl rfl (World.news_of_block (cs := #[.string nm]) (t := 9) (fr := (0, 0)) (Blk.new_at _ _ _ (by simp))) (by simp [Value.oneCell']) (by decide) (by unfold maxLen; omega) (by omega) (by simp; omega) (wr.heap.size + 1 + 1) (by simp) ?_; intro g cap w1 hown1 hgrow hat hlt1)
      go_roundw
      case rel =>
        refine ⟨k + 1, by omega, by go_num, ?_⟩
        rw [HTS.out]
        exact namesAt_next HNA.out HTL.out.symm HXS.out.symm hown1 hgrow
      case measure => simp [RowKit.intOf]; omega
    · obtain rfl : k = u.arrays.length := by omega
      have htk : (u.arrays.map (·.1)).take u.arrays.length = u.arrays.map (·.1) := List.take_of_length_le (by simp)
      rw [htk] at hna
      have u1 : wr.cell? ⟨w.heap.size, 1, none⟩ = some (.slice A2 u.flows.length c2) := (HU.out.below hbr HU.out.lt).cell 1
      have HNA := Lib.hid hna
      clear htk hna hbr hsz htl
      obtain ⟨wo, hwo⟩ : ∃ wo, wo = wr := ⟨_, rfl⟩
      subst hwo
      go_wp2
      clear u1 hlt
      go_loopw [3, 24] (fun v i wr => ∃ k : Nat, k ≤ u.flows.length ∧ i = .int .i64 k ∧ NamesAt W wr v (u.arrays.map (·.1) ++ (u.flows.map (·.name)).take k)) (fun _ i _ => u.flows.length - (RowKit.intOf i).toNat)
      case atStart =>
        refine ⟨0, by omega, rfl, ?_⟩
        rw [List.take_zero, List.append_nil]
        exact HNA.out
      case round =>
        obtain ⟨k2, hk2, rfl, hna⟩ := hrel
        obtain ⟨Av2, cv2, hv⟩ := own_form hna.row
        have htl : (u.arrays.map (·.1) ++ (u.flows.map (·.name)).take k2).length = u.arrays.length + k2 := by rw [List.length_append, take_map_len (·.name) u.flows k2 hk2, List.length_map]
        rw [htl] at hv
        subst hv
        have hbr := hna.below
        have hsz := hbr.size
        by_cases hlt : k2 < u.flows.length
        · have d1 : decide ((k2 : Int) < (u.flows.length : Int)) = true := decide_eq_true (by omega)
          obtain ⟨b3, o3, c3, f3, _, _, hb3, q3⟩ := HF.out.form (by omega)
          obtain rfl : A2 = some ⟨b3, o3, none⟩ := by injection f3
          obtain ⟨cs, _, ⟨vbx, hcs, hsx⟩, hcell⟩ := q3 k2 hlt
          obtain ⟨x, hx⟩ : ∃ x, x = u.flows[k2] := ⟨_, rfl⟩
          rw [← hx] at hcs hsx
          obtain ⟨Ax, cx, hvx, _, _⟩ := hsx.val
          subst hvx
          obtain ⟨nm, pr, vl, bs⟩ := x
          subst hcs
          have hcw := hcell.keep (hbr.block b3 hb3)
          have i0 : wr.cell? ⟨b3, o3 + k2 * 4, none⟩ = some (.string nm) := by have h := hcw.at_ (j := 0) rfl; simpa using h
          have i1 : wr.cell? ⟨b3, o3 + k2 * 4 + 1, none⟩ = some (.int .i64 pr) := hcw.at_ (j := 1) rfl
          have i2 : wr.cell? ⟨b3, o3 + k2 * 4 + 2, none⟩ = some (.int .i64 vl) := hcw.at_ (j := 2) rfl
          have i3 : wr.cell? ⟨b3, o3 + k2 * 4 + 3, none⟩ = some (.slice Ax bs.length cx) := hcw.at_ (j := 3) rfl
          have hts := take_map_succ (·.name) u.flows k2 hlt
          rw [← hx] at hts
          have HTS := Lib.hid hts
          have hown : wr.ownsRow W.heap.size 9 1 (.slice Av2 (u.arrays.length + k2) cv2) (u.arrays.length + k2) ((u.arrays.map (·.1) ++ (u.flows.map (·.name)).take k2).map encT) := by have h := hna.row; rw [htl] at h; exact h
          have HNA2 := Lib.hid hna
          have HTL := Lib.hid htl
          clear f3 q3 hcell hcw hx hts htl hna hb3 hsx
          generalize hxs : (u.arrays.map (·.1) ++ (u.flows.map (·.name)).take k2).map encT = xs at *
          have HXS := Lib.hid hxs
          clear hxs
          go_wp2_with (at_builtin; refine wpList_append_lies _ rfl (.tmp 28) (.tmp 31) _ rfl W.heap.size 9 z0 _ 1 16 Tryz.underlying38 hi0 hz0 hz1 hz2 rfl (by decide) _ _ _ rfl ((hown.alloc _).alloc _) ⟨wr.heap.size + 1, 0, none⟩ 1 1 [.string nm] rfl rfl (World.news_of_block (cs := #[.string nm]) (t := 9) (fr := (0, 0)) (Blk.new_at _ _ _ (by simp))) (by simp [Value.oneCell']) (by decide) (by unfold maxLen; omega) (by omega) (by simp; omega) (wr.heap.size + 1 + 1) (by simp) ?_; intro g cap w1 hown1 hgrow hat hlt1)
          go_roundw
          case rel =>
            refine ⟨k2 + 1, by omega, by go_num, ?_⟩
            rw [HTS.out, ← List.append_assoc]
            exact namesAt_next HNA2.out HTL.out.symm HXS.out.symm hown1 hgrow
          case measure => simp [RowKit.intOf]; omega
        · have d1 : decide ((k2 : Int) < (u.flows.length : Int)) = false := decide_eq_false (by omega)
          have htk : u.arrays.map (·.1) ++ (u.flows.map (·.name)).take k2 = allNames u := by rw [List.take_of_length_le (by simp; omega)]; rfl
          rw [htk] at hna
          have hlA : u.arrays.length + k2 = (allNames u).length := by rw [← htl, htk]
          have hN : (allNames u).length ≤ 1000 := by unfold allNames; simp; omega
          rw [hlA] at hna
          rw [hlA]
          generalize allNames u = L at *
          have hpos := HPOS.out
          rcases hna.row.2 with ⟨hnil, _⟩ | ⟨g, cap, cur, hv2, hbase, hb, h1, h2, h3, h4⟩
          · injection hnil with _ hz _
            omega
          obtain ⟨rfl, rfl⟩ : Av2 = some ⟨g, 0, none⟩ ∧ cv2 = cap := by injection hv2 with h5 _ h6; exact ⟨h5, h6⟩
          have hrow := hna.row
          have HNA3 := Lib.hid hna
          have HS := Lib.hid (sort_names W.heap.size g cv2 L wr hrow hN)
          have hwl := hna.below.size
          have hgl := hrow.lt g rfl
          have HWL := Lib.hid hwl
          have HGL := Lib.hid hgl
          clear hv2 hbase hb h1 h2 h3 h4 hrow hna htk hlA hbr hsz hwl hgl htl
          go_upto_region 13 with (go_at_call 57; refine HS.out.mono ?_; rintro e w2 ⟨rfl, l2, hperm, hrow2, hg2⟩)
          have hl2 : l2.length = L.length := hperm.length_eq
          have hnd2 : l2.Nodup := hperm.nodup_iff.2 HND.out
          have hb2 : Below W.heap.size W w2 := HNA3.out.below.grown hg2 HWL.out (fun k e => by injection e with e; have := HGL.out; omega)
          have hsl : SlR w2 (· < w2.heap.size) 1 RStr (.slice (some ⟨g, 0, none⟩) L.length cv2) l2 := strs_of_own hrow2 (fun k e => (hrow2.lt k e).2)
          have HM := Lib.hid (con_name l2 (.slice (some ⟨g, 0, none⟩) L.length cv2) (fun _ => false) w2 hsl (names1_pred l2 w2 (fun s hs => HG.out s (hperm.mem_iff.1 hs))))
          have hany : (l2.any fun _ => false) = false := by simp
          rw [hany] at HM
          have HR2 := Lib.hid hrow2
          have HB2 := Lib.hid hb2
          have HL2 := Lib.hid hl2
          have HD2 := Lib.hid hnd2
          clear hany hsl hrow2 hb2 hl2 hnd2 hperm hg2
          go_wp2_with (first | (go_at_call 58; refine HM.out.mono ?_; rintro e w3 ⟨rfl, hb3⟩; have hr3 : w3.ownsRow W.heap.size 9 1 (.slice (some ⟨g, 0, none⟩) l2.length cv2) l2.length (l2.map encT) := (by rw [HL2.out]; exact HR2.out.kept (grown_below' (row := none) hb3) (Classical.em _)); have HCL := Lib.hid (clone_names W.heap.size g cv2 l2 w3 hr3 (by rw [HL2.out]; exact hN)); rw [HL2.out] at HCL; have HB3 := Lib.hid (HB2.out.trans (hb3.mono HB2.out.size)); clear hr3 hb3) | (go_at_call 62; refine HCL.out.mono ?_; rintro e w4 ⟨g4, c4, rfl, hr4, hb4⟩; have HCO := Lib.hid (compact_names w3.heap.size g4 c4 l2 w4 (by rw [HL2.out]; exact hr4) (by rw [HL2.out]; exact hN) HD2.out); rw [HL2.out] at HCO; have HG4 := Lib.hid (hr4.lt g4 rfl); have HB4 := Lib.hid hb4; clear hr4 hb4) | (go_at_call 61; refine HCO.out.mono ?_; rintro e w5 ⟨rfl, hg5⟩))
          go_ret
          have e1 := HB.out.trans (HB3.out.mono HB.out.size)
          have e2 : Below w3.heap.size w3 w5 := HB4.out.grown hg5 HB4.out.size (fun k e => by injection e with e; have := HG4.out; omega)
          exact ⟨by first | rfl | simp, e1.trans (e2.mono e1.size)⟩
end
end Go.Proofs.YtnpnhdmfdhnmfaaGreatDoor
