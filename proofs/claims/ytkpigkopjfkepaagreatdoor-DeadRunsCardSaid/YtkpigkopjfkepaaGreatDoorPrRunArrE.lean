/- The arrays of a run of irrun: a map from names to slices, each over a block of its own. What irrun's element does: where a number of an array stands. -/
import Derived.Test.YtkpigkopjfkepaaGreatDoorPrRunSm
import Derived.Maps.OwnSet
import Derived.Maps.Views
namespace Go.Proofs.YtkpigkopjfkepaaGreatDoor
open Go.RowKit Go.Maps
def heldElem (v : Value) : Option (DataW Value × List MemPlace) := some (.held v, [])
def keyLit (s : ByteArray) : Lit := .string s.data.toList
theorem keyLit_inj {s t : ByteArray} (h : keyLit s = keyLit t) : s = t := by
 unfold keyLit at h
 injection h with h
 obtain ⟨⟨s⟩⟩ := s
 obtain ⟨⟨t⟩⟩ := t
 simp at h
 rw [h]
def nilHeld : DataW Value := .held (.slice none 0 0)
structure ArrsAt (w : World) (base mb n : Nat) (D : DataW Value) (gs : List Nat) (arrays : List (ByteArray × List Int)) : Prop where
 map : w.ownsMap Tryz.prog 9 heldElem mb n D
 len : gs.length = arrays.length
 each : ∀ (i : Nat) (h : i < arrays.length) (h1 : i < gs.length), base ≤ gs[i] ∧ Blk w gs[i] 3 (arrays[i].2.map (Value.int .i64)).toArray ∧
  D.atKey (keyLit arrays[i].1) nilHeld = .held (.slice (some ⟨gs[i], 0, none⟩) arrays[i].2.length arrays[i].2.length)
 nd : gs.Nodup
 names : (arrays.map (·.1)).Nodup
 mge : base ≤ mb
theorem ArrsAt.keep {w w' : World} {base mb n : Nat} {D : DataW Value} {gs : List Nat} {arrays : List (ByteArray × List Int)} {row : Option Nat} (h : ArrsAt w base mb n D gs arrays) (hg : w.grownBy w' row) (h1 : row ≠ some mb) (h2 : ∀ g ∈ gs, row ≠ some g) : ArrsAt w' base mb n D gs arrays :=
 ⟨h.map.kept hg (Ne.symm h1), h.len, fun i hi hi1 => by
  obtain ⟨a, b, c⟩ := h.each i hi hi1
  exact ⟨a, b.grown hg (h2 _ (List.getElem_mem _)), c⟩, h.nd, h.names, h.mge⟩
theorem ArrsAt.mem_blk {w : World} {base mb n : Nat} {D : DataW Value} {gs : List Nat} {arrays : List (ByteArray × List Int)} (h : ArrsAt w base mb n D gs arrays) {g : Nat} (hg : g ∈ gs) : base ≤ g ∧ ∃ cs, Blk w g 3 cs := by
 obtain ⟨i, hi, rfl⟩ := List.getElem_of_mem hg
 obtain ⟨a, b, _⟩ := h.each i (by have := h.len; omega) hi
 exact ⟨a, _, b⟩
theorem map_blk {w : World} {P : Program} {k : TypeId} {R : Value → Option (DataW Value × List MemPlace)} {b n g : Nat} {D : DataW Value} {t : TypeId} {cs : Array Value} (h : w.ownsMap P k R b n D) (hg : Blk w g t cs) : g ≠ b := fun e => by
 obtain ⟨es, clock, hb, _⟩ := h
 subst e
 rw [Blk, hb] at hg
 cases hg
theorem arr_find {α : Type} {l : List (ByteArray × α)} (hn : (l.map (·.1)).Nodup) {i : Nat} (h : i < l.length) : l.find? (fun a => decide (a.1 = l[i].1)) = some l[i] := by
 induction l generalizing i with
 | nil => simp at h
 | cons a r ih =>
  cases i with
  | zero => simp
  | succ i =>
   have hi : i < r.length := by simpa using h
   rw [List.map_cons, List.nodup_cons] at hn
   have hne : ¬ a.1 = (a :: r)[i + 1].1 := fun e => hn.1 (by rw [e]; exact List.mem_map.2 ⟨r[i], List.getElem_mem hi, rfl⟩)
   rw [List.find?_cons_of_neg (by simpa using hne)]
   simpa using ih hn.2 hi
theorem MRun.arr_at {m : MRun} (hn : (m.arrays.map (·.1)).Nodup) {i : Nat} (h : i < m.arrays.length) : m.arr m.arrays[i].1 = m.arrays[i].2 := by
 unfold MRun.arr
 rw [arr_find hn h]
 rfl
theorem setArr_len (l : List (ByteArray × List Int)) (s : ByteArray) (k : Nat) (v : Int) : (setArr l s k v).length = l.length := by simp [setArr]
theorem setArr_names (l : List (ByteArray × List Int)) (s : ByteArray) (k : Nat) (v : Int) : (setArr l s k v).map (·.1) = l.map (·.1) := by
 unfold setArr
 rw [List.map_map]
 apply List.map_congr_left
 intro a _
 simp only [Function.comp]
 split <;> rfl
theorem setArr_at {l : List (ByteArray × List Int)} (hn : (l.map (·.1)).Nodup) {i : Nat} (h : i < l.length) (k : Nat) (v : Int) {j : Nat} (hj : j < (setArr l l[i].1 k v).length) (hj' : j < l.length) : (setArr l l[i].1 k v)[j] = if j = i then (l[i].1, l[i].2.set k v) else l[j] := by
 have e0 : (setArr l l[i].1 k v)[j] = if l[j].1 = l[i].1 then (l[j].1, l[j].2.set k v) else l[j] := by simp [setArr]
 rw [e0]
 by_cases e : j = i
 ·subst e; simp
 ·rw [if_neg e]
  have hne : ¬ l[j].1 = l[i].1 := fun e' => by
   have h1 : (l.map (·.1))[j]'(by simpa using hj') = (l.map (·.1))[i]'(by simpa using h) := by simpa using e'
   exact e ((List.getElem_inj hn).1 h1)
  rw [if_neg hne]
theorem map_set_ints (l : List Int) (k : Nat) (v : Int) : ((l.map (Value.int .i64)).toArray).setIfInBounds k (.int .i64 v) = ((l.set k v).map (Value.int .i64)).toArray := by
 rw [List.setIfInBounds_toArray, List.map_set]
theorem ArrsAt.store {w : World} {base mb n : Nat} {D : DataW Value} {gs : List Nat} {arrays : List (ByteArray × List Int)} (h : ArrsAt w base mb n D gs arrays) {i : Nat} (hi : i < arrays.length) (hi1 : i < gs.length) (k : Nat) (v : Int) :
  ArrsAt (w.setCell ⟨gs[i], k, none⟩ (.int .i64 v)) base mb n D gs (setArr arrays arrays[i].1 k v) := by
 have hne : ∀ g ∈ gs, g ≠ mb := fun g hg => by obtain ⟨_, cs, hb⟩ := h.mem_blk hg; exact map_blk h.map hb
 refine ⟨h.map.setCell (a := ⟨gs[i], k, none⟩) (Ne.symm (hne _ (List.getElem_mem _))) _, by rw [setArr_len, h.len], fun j hj hj1 => ?_, h.nd, by rw [setArr_names]; exact h.names, h.mge⟩
 have hj' : j < arrays.length := by simpa [setArr_len] using hj
 rw [setArr_at h.names hi k v hj hj']
 obtain ⟨a, b, c⟩ := h.each j hj' hj1
 by_cases e : j = i
 ·subst e
  rw [if_pos rfl]
  refine ⟨a, ?_, by simpa using c⟩
  have := b.set_ k (.int .i64 v)
  rw [map_set_ints] at this
  exact this
 ·rw [if_neg e]
  refine ⟨a, b.far (p := ⟨gs[i], k, none⟩) (fun e' => e ((List.getElem_inj h.nd).1 e')) _, c⟩
theorem ArrsAt.start {w : World} {base mb : Nat} (h : w.ownsMap Tryz.prog 9 heldElem mb 0 (.map [])) (hb : base ≤ mb) : ArrsAt w base mb 0 (.map []) [] [] :=
 ⟨h, rfl, fun i h => absurd h (by simp), by simp, by simp, hb⟩
theorem ArrsAt.put {w w' : World} {base mb n : Nat} {D : DataW Value} {gs : List Nat} {arrays : List (ByteArray × List Int)} (h : ArrsAt w base mb n D gs arrays) {s : ByteArray} {l : List Int} {g : Nat} (hg : Blk w g 3 (l.map (Value.int .i64)).toArray) (hb : base ≤ g) (hn : g ∉ gs) (hs : s ∉ arrays.map (·.1))
  (hm : w'.ownsMap Tryz.prog 9 heldElem mb (n + 1) (D.put (keyLit s) (.held (.slice (some ⟨g, 0, none⟩) l.length l.length)))) (hgr : w.grownBy w' (some mb)) : ArrsAt w' base mb (n + 1) (D.put (keyLit s) (.held (.slice (some ⟨g, 0, none⟩) l.length l.length))) (gs ++ [g]) (arrays ++ [(s, l)]) := by
 have hne : ∀ g ∈ gs, g ≠ mb := fun g hg => by obtain ⟨_, cs, hb⟩ := h.mem_blk hg; exact map_blk h.map hb
 have hgm : g ≠ mb := map_blk h.map hg
 have hl := h.len
 refine ⟨hm, by simp [hl], fun i hi hi1 => ?_, ?_, ?_, h.mge⟩
 ·by_cases e : i < arrays.length
  ·obtain ⟨a, b, c⟩ := h.each i e (by omega)
   rw [List.getElem_append_left (h := by omega), List.getElem_append_left (h := e)]
   refine ⟨a, b.grown hgr (fun e' => hne _ (List.getElem_mem _) (by injection e' with e'; exact e'.symm)), ?_⟩
   rw [atKey_put_other (fun e' => hs (by rw [← keyLit_inj e']; exact List.mem_map.2 ⟨_, List.getElem_mem e, rfl⟩))]
   exact c
  ·have e1 : i = arrays.length := by simp at hi; omega
   subst e1
   have x1 : (arrays ++ [(s, l)])[arrays.length] = (s, l) := by simp
   have x2 : (gs ++ [g])[arrays.length] = g := by simp [← hl]
   rw [x1, x2]
   exact ⟨hb, hg.grown hgr (fun e' => hgm (by injection e' with e'; exact e'.symm)), atKey_put_same h.map.isMap (by unfold keyLit WideAt.IsKeyLit; trivial) _ _⟩
 ·rw [List.nodup_append]
  exact ⟨h.nd, by simp, fun a ha b hb => by simp at hb; subst hb; exact fun e => hn (e ▸ ha)⟩
 ·rw [List.map_append, List.nodup_append]
  exact ⟨h.names, by simp, fun a ha b hb => by simp at hb; subst hb; exact fun e => hs (e ▸ ha)⟩
theorem ArrsAt.look {w : World} {base mb n : Nat} {D : DataW Value} {gs : List Nat} {arrays : List (ByteArray × List Int)} (h : ArrsAt w base mb n D gs arrays) {i : Nat} (hi : i < arrays.length) (hi1 : i < gs.length) (hs : arrays[i].1.size ≤ maxLen) :
  (Instr.lookup 84 (.map (some mb)) (.string arrays[i].1) false).run Tryz.prog w = .ok (.slice (some ⟨gs[i], 0, none⟩) arrays[i].2.length arrays[i].2.length) w := by
 obtain ⟨_, _, hat⟩ := h.each i hi hi1
 obtain ⟨v, ps, hrun, hv⟩ := h.map.lookup (t := 84) (e := 38) (z := .slice none 0 0) (string_keyed Tryz.underlying9) Tryz.underlying84 (by kernel_rfl) (zd := nilHeld) (zp := []) rfl (WideMaps.keyOf_string_mk Tryz.underlying9 hs)
 rw [show (Lit.string arrays[i].1.data.toList) = keyLit arrays[i].1 from rfl, hat] at hv
 unfold heldElem at hv
 simp only [Option.some.injEq, Prod.mk.injEq, DataW.held.injEq] at hv
 rw [hrun, hv.1]
end Go.Proofs.YtkpigkopjfkepaaGreatDoor
namespace Go.Proofs.YtkpigkopjfkepaaGreatDoor
open Go.RowKit
set_option maxRecDepth 100000 in
set_option maxHeartbeats 4000000 in
theorem element_in (rb mb g n : Nat) (va vf vin vcalls vout : Value) (st co sp k : Int) (s : ByteArray) (w : World) (h : RunBlk w rb va vf (.map (some mb)) vin vcalls st co vout sp)
  (hl : (Instr.lookup 84 (.map (some mb)) (.string s) false).run Tryz.prog w = .ok (.slice (some ⟨g, 0, none⟩) n n) w) (h0 : 0 ≤ k) (h1 : k < (n : Int)) :
  Calls Tryz.prog 105 #[.pointer (some ⟨rb, 0, none⟩), .string s, .int .i64 k] w fun e w' => e = .returned (.pointer (some ⟨g, k.toNat, none⟩)) ∧ w' = w := by
 have c2 : w.cell? ⟨rb, 2, none⟩ = some (.map (some mb)) := h.blk.cell 2
 have d1 : decide (k < 0) = false := decide_eq_false (by omega)
 have d2 : decide (k ≥ (n : Int)) = false := decide_eq_false (by omega)
 have d3 : decide ((n : Int) ≤ k) = false := decide_eq_false (by omega)
 clear h
 go_enter Tryz.func105, Tryz.ntmps105
 go_wp2
 go_ret
 exact ⟨by simp, rfl⟩
set_option maxRecDepth 100000 in
set_option maxHeartbeats 4000000 in
theorem element_out (rb mb g n : Nat) (va vf vin vcalls vout : Value) (st co sp k : Int) (s : ByteArray) (w : World) (h : RunBlk w rb va vf (.map (some mb)) vin vcalls st co vout sp)
  (hl : (Instr.lookup 84 (.map (some mb)) (.string s) false).run Tryz.prog w = .ok (.slice (some ⟨g, 0, none⟩) n n) w) (h0 : k < 0 ∨ (n : Int) ≤ k) :
  Calls Tryz.prog 105 #[.pointer (some ⟨rb, 0, none⟩), .string s, .int .i64 k] w fun e w' => e = .returned (.pointer none) ∧ RunBlk w' rb va vf (.map (some mb)) vin vcalls 3 0 vout sp ∧ w.grownBy w' (some rb) := by
 have c2 : w.cell? ⟨rb, 2, none⟩ = some (.map (some mb)) := h.blk.cell 2
 have HE := Lib.hid (rend_any rb va vf (.map (some mb)) vin vcalls vout st co sp 3 0 w h)
 clear h
 by_cases hk : k < 0
 ·have d1 : decide (k < 0) = true := decide_eq_true hk
  clear h0
  go_enter Tryz.func105, Tryz.ntmps105
  go_wp2_with (go_at_call 102; refine HE.out.mono ?_; rintro e w4 ⟨rfl, hb4, hg4⟩)
  go_ret
  exact ⟨rfl, hb4, hg4⟩
 ·have d1 : decide (k < 0) = false := decide_eq_false hk
  have d2 : decide (k ≥ (n : Int)) = true := decide_eq_true (by omega)
  have d3 : decide ((n : Int) ≤ k) = true := decide_eq_true (by omega)
  clear h0
  go_enter Tryz.func105, Tryz.ntmps105
  go_wp2_with (go_at_call 102; refine HE.out.mono ?_; rintro e w4 ⟨rfl, hb4, hg4⟩)
  go_ret
  exact ⟨rfl, hb4, hg4⟩
end Go.Proofs.YtkpigkopjfkepaaGreatDoor
