/- dead.trim: a function without the blocks that are not come to. Printed by wip/gen_deadtrim.py. -/
import Derived.Test.YtkpigkopjfkepaaGreatDoorPrDeadMU
import Derived.BigQuiet
namespace Go.Proofs.YtkpigkopjfkepaaGreatDoor
open List (setIfInBounds_toArray set_cons_zero set_cons_succ)
open Go.RowKit
open Go.Deep
theorem made_oneT (z : Value) (n : Nat) : madeCells #[z] n = (List.replicate n z).toArray := by
 apply Array.ext
 ·simp [madeCells]
 ·intro i h1 h2
  simp [madeCells, Nat.mod_one]
theorem come_marks {f : LFlow} {M : List Bool} (h : Visited (succF f) 0 (List.replicate f.blocks.length false) M) {k : Nat} (hk : k < M.length) : M[k] = comeB f k := by
 have h1 := come_visited h k
 rw [List.getElem?_eq_getElem hk] at h1
 cases e : comeB f k with
 | true => have := h1.2 e; simpa using this
 | false =>
  cases e2 : M[k] with
  | false => rfl
  | true => rw [h1.1 (by rw [e2])] at e; cases e
noncomputable def placeRow (f : LFlow) (i : Nat) : List Value := (List.range f.blocks.length).map fun j => if j < i then .int .i64 (placeN f j : Int) else .int .i64 0
theorem placeRow_len (f : LFlow) (i : Nat) : (placeRow f i).length = f.blocks.length := by simp [placeRow]
theorem placeRow_zero (f : LFlow) : placeRow f 0 = List.replicate f.blocks.length (.int .i64 0) := by
 refine List.ext_getElem (by simp [placeRow]) fun i h1 h2 => ?_
 simp [placeRow]
theorem placeRow_set {f : LFlow} {i : Nat} (_ : i < f.blocks.length) : (placeRow f i).set i (.int .i64 (placeN f i : Int)) = placeRow f (i + 1) := by
 refine List.ext_getElem (by simp [placeRow]) fun j h1 h2 => ?_
 by_cases e : i = j
 ·subst e
  rw [List.getElem_set_self]
  simp [placeRow]
 ·rw [List.getElem_set_ne e]
  simp only [placeRow, List.getElem_map, List.getElem_range]
  by_cases hj : j < i
  ·rw [if_pos hj, if_pos (by omega)]
  ·rw [if_neg hj, if_neg (by omega)]
theorem placeRow_at {f : LFlow} {i : Nat} (h : i < f.blocks.length) (j : Nat) : ∃ n : Int, (placeRow f j)[i]? = some (.int .i64 n) := by
 rw [List.getElem?_eq_getElem (by rw [placeRow_len]; exact h)]
 simp only [placeRow, List.getElem_map, List.getElem_range]
 by_cases hj : i < j
 ·exact ⟨_, by rw [if_pos hj]⟩
 ·exact ⟨_, by rw [if_neg hj]⟩
theorem placeRow_end {f : LFlow} {i : Nat} (h : i < f.blocks.length) : (placeRow f f.blocks.length)[i]? = some (.int .i64 (placeN f i : Int)) := by
 rw [List.getElem?_eq_getElem (by rw [placeRow_len]; exact h)]
 simp [placeRow, h]
structure T1 (f : LFlow) (ok0 : Nat → Prop) (w w1 : World) (i : Nat) (v : Value) (css : List (List Value)) (wr : World) : Prop where
 below : Below w1.heap.size w1 wr
 place : Blk wr w1.heap.size 3 (placeRow f i).toArray
 row : wr.ownsRow (w1.heap.size + 1) 48 5 v (placeN f i) css.flatten
 len : css.length = placeN f i
 each : ∀ cs ∈ css, cs.length = 5
 elems : ∀ (j : Nat) (h1 : j < css.length) (h2 : j < (comeTo f i).length), RBlock w ok0 css[j] (comeTo f i)[j]
section
variable {f : LFlow} {ok0 : Nat → Prop} {w w1 wr : World} {i : Nat} {v : Value} {css : List (List Value)}
theorem T1.put (h : T1 f ok0 w w1 i v css wr) (hi : i < f.blocks.length) : Below w1.heap.size w1 (wr.setCell ⟨w1.heap.size, i, none⟩ (.int .i64 (placeN f i : Int))) ∧ Blk (wr.setCell ⟨w1.heap.size, i, none⟩ (.int .i64 (placeN f i : Int))) w1.heap.size 3 (placeRow f (i + 1)).toArray ∧
  (wr.setCell ⟨w1.heap.size, i, none⟩ (.int .i64 (placeN f i : Int))).ownsRow (w1.heap.size + 1) 48 5 v (placeN f i) css.flatten := by
 refine ⟨h.below.setCell (Nat.le_refl _) _, ?_, h.row.kept (grown_set wr ⟨w1.heap.size, i, none⟩ _) (.inr (fun e => by have := (h.row.lt w1.heap.size e).1; omega))⟩
 rw [← placeRow_set hi, ← List.setIfInBounds_toArray]
 exact h.place.set_ i _
theorem T1.skip (h : T1 f ok0 w w1 i v css wr) (hi : i < f.blocks.length) (hc : comeB f i = false) : T1 f ok0 w w1 (i + 1) v css (wr.setCell ⟨w1.heap.size, i, none⟩ (.int .i64 (placeN f i : Int))) := by
 obtain ⟨h1, h2, h3⟩ := h.put hi
 have hp : placeN f (i + 1) = placeN f i := by rw [place_succ, hc]; rfl
 have he : comeTo f (i + 1) = comeTo f i := by rw [comeTo_succ hi, hc]; rfl
 exact ⟨h1, h2, by rw [hp]; exact h3, by rw [hp]; exact h.len, h.each, by rw [he]; exact h.elems⟩
theorem T1.take (h : T1 f ok0 w w1 i v css wr) (hi : i < f.blocks.length) (hc : comeB f i = true) {cs : List Value} (hcs : cs.length = 5) (hR : RBlock w ok0 cs f.blocks[i]) {o : Obj} {X : World} {v' : Value} (hown : X.ownsRow (w1.heap.size + 1) 48 5 v' (placeN f i + 1) (css.flatten ++ cs))
  (hg : ((wr.setCell ⟨w1.heap.size, i, none⟩ (.int .i64 (placeN f i : Int))).alloc o).grownBy X v.ownBlock) : T1 f ok0 w w1 (i + 1) v' (css ++ [cs]) X := by
 obtain ⟨h1, h2, _⟩ := h.put hi
 have hp : placeN f (i + 1) = placeN f i + 1 := by rw [place_succ, hc]; rfl
 have he : comeTo f (i + 1) = comeTo f i ++ [f.blocks[i]] := by rw [comeTo_succ hi, hc]; rfl
 have hcl : (comeTo f i).length = placeN f i := comeTo_len f (by omega)
 have hb := h.row.lt
 have hz := h1.size
 refine ⟨(h1.alloc hz _).grown hg (by have := h.below.size; simp [World.setCell]; omega) (fun k e => by have := (hb k e).1; omega), (h2.alloc o).grown hg (fun e => by have := (hb _ e).1; omega), ?_, ?_, ?_, ?_⟩
 ·rw [hp, List.flatten_append]; simpa using hown
 ·rw [hp, List.length_append, h.len]; rfl
 ·intro c hc
  rcases List.mem_append.1 hc with h' | h'
  ·exact h.each c h'
  ·obtain rfl := List.mem_singleton.1 h'; exact hcs
 ·rw [he]
  intro j a b
  by_cases e : j < css.length
  ·have e2 : j < (comeTo f i).length := by rw [hcl, ← h.len]; exact e
   rw [List.getElem_append_left e, List.getElem_append_left e2]
   exact h.elems j e e2
  ·have e1 : j = css.length := by simp at a; omega
   subst e1
   have hl := h.len
   rw [List.getElem_append_right (Nat.le_refl _), List.getElem_append_right (by omega)]
   simpa [hl, hcl] using hR
end
structure T2 (f : LFlow) (ok0 : Nat → Prop) (w w1 X1 : World) (g cp j : Nat) (css : List (List Value)) (wr : World) : Prop where
 grown : X1.grownBy wr (some g)
 row : wr.ownsRow (w1.heap.size + 1) 48 5 (.slice (some ⟨g, 0, none⟩) (comeL f).length cp) (comeL f).length css.flatten
 len : css.length = (comeL f).length
 each : ∀ cs ∈ css, cs.length = 5
 elems : ∀ (k : Nat) (h1 : k < css.length) (h2 : k < (renTo f j).length), RBlock w ok0 css[k] (renTo f j)[k]
section
variable {f : LFlow} {ok0 : Nat → Prop} {w w1 X1 wr : World} {g cp j : Nat} {css : List (List Value)}
theorem T2.at_ (h : T2 f ok0 w w1 X1 g cp j css wr) (hj : j < (comeL f).length) : ∃ vi, css[j]'(by rw [h.len]; exact hj) = vi :: termCells (comeL f)[j].term ∧ SlR w ok0 8 (RIns w ok0) vi (comeL f)[j].ins ∧ ∀ k (hk : k < 5), wr.cell? ⟨g, j * 5 + k, none⟩ = some ((vi :: termCells (comeL f)[j].term)[k]'hk) := by
 have hr := h.elems j (by rw [h.len]; exact hj) (by rw [renTo_len f (by omega)]; exact hj)
 rw [renTo_get hj] at hr
 obtain ⟨vi, e, hs⟩ := hr
 refine ⟨vi, e, hs, fun k hk => ?_⟩
 have h5 : ((comeL f).length) * 5 ≥ (j + 1) * 5 := Nat.mul_le_mul_right _ (by omega)
 have hg := flatten_get css h.each j k (by rw [h.len]; exact hj) (by rw [e]; exact hk)
 rw [h.row.cellAt (j * 5 + k) (by omega)]
 simp only [e] at hg
 exact hg
theorem T2.next (h : T2 f ok0 w w1 X1 g cp j css wr) (hj : j < (comeL f).length) {t : LTerm} (ht : renTerm (trimR f) (comeL f)[j].term = t) {vi : Value} (hs : SlR w ok0 8 (RIns w ok0) vi (comeL f)[j].ins) {wr' : World} {cs' : List Value} (hcs : cs' = vi :: termCells t)
  (hrow : wr'.ownsRow (w1.heap.size + 1) 48 5 (.slice (some ⟨g, 0, none⟩) (comeL f).length cp) (comeL f).length (css.set j cs').flatten) (hg : wr.grownBy wr' (some g)) : T2 f ok0 w w1 X1 g cp (j + 1) (css.set j cs') wr' := by
 refine ⟨h.grown.trans hg, hrow, by rw [List.length_set]; exact h.len, fun c hc => ?_, fun k h1 h2 => ?_⟩
 ·rcases List.mem_or_eq_of_mem_set hc with h' | h'
  ·exact h.each c h'
  ·rw [h', hcs]; rfl
 ·have hk1 : k < css.length := by simpa using h1
  have hk : k < (renTo f j).length := by rw [renTo_len f (by omega), ← h.len]; exact hk1
  have hset := renTo_set hj
  rw [ren_mk _ ht] at hset
  simp only [← hset]
  by_cases e : j = k
  ·subst e
   rw [List.getElem_set_self, List.getElem_set_self, hcs]
   exact ⟨vi, rfl, hs⟩
  ·rw [List.getElem_set_ne e, List.getElem_set_ne e]
   exact h.elems k hk1 hk
theorem T2.likes (h : T2 f ok0 w w1 X1 g cp j css wr) {Y : World} (hg : ∀ row, wr.grownBy Y row) : T2 f ok0 w w1 X1 g cp j css Y :=
 ⟨h.grown.trans (hg _), h.row.kept (hg none) (Classical.em _), h.len, h.each, h.elems⟩
theorem T2.same (h : T2 f ok0 w w1 X1 g cp j css wr) (hj : j < (comeL f).length) (ht : renTerm (trimR f) (comeL f)[j].term = (comeL f)[j].term) : T2 f ok0 w w1 X1 g cp (j + 1) css wr := by
 obtain ⟨vi, e, hs, _⟩ := h.at_ hj
 have hx := h.next hj ht hs rfl (wr' := wr) (by rw [← e, List.set_getElem_self]; exact h.row) (World.grownBy.refl _ _)
 rw [← e, List.set_getElem_self] at hx
 exact hx
end
set_option maxRecDepth 100000 in
set_option maxHeartbeats 16000000 in
theorem trim_any (f : LFlow) (S0 xb fb : Nat) (hS : S0 ≤ fb) (hg : GoodF f) (hn : NextOk f) (hf8 : f.blocks.length ≤ 1000) (A : Option Addr) (c : Nat) (w : World) (h : FlowAt S0 xb fb w f A c) :
  Calls Tryz.prog 25 #[.pointer (some ⟨fb, 0, none⟩)] w fun e w' => e = .returned (.tuple #[]) ∧ Below fb w w' ∧ ∃ A' c', FlowAt S0 xb fb w' (trimF f) A' c' := by
 have hfl := h.lt
 obtain ⟨i0, i1, i2, i3⟩ := h.cells
 have HH := Lib.hid h
 have HN := Lib.hid hn
 have hpos := hn.1
 have HRE := Lib.hid (reach_any f hg hpos hf8 (.slice A f.blocks.length c) w h.all)
 clear h hg hn
 go_enter Tryz.func25, Tryz.ntmps25
 go_upto_region 1 with (go_at_call 15; refine HRE.out.mono ?_; rintro e w1 ⟨v, M, rfl, hb1, hsM, hML, hvis⟩; obtain ⟨gM, oM, cM, hvM, _, _, hgM, hqM⟩ := hsM.form (by omega); rw [hML] at hvM; subst hvM)
 refine wp_world ?_
 intro W1 hW1
 obtain rfl : w1 = W1 := hW1
 have hcom : ∀ k (hk : k < f.blocks.length), w1.cell? ⟨gM, oM + k, none⟩ = some (.bool (comeB f k)) := fun k hk => by
  have hkM : k < M.length := by omega
  obtain ⟨cs, hcl, hcs, hcell⟩ := hqM k hkM
  have hcs' : cs = [.bool M[k]] := hcs
  subst hcs'
  have h := hcell.at_ (j := 0) rfl
  rw [come_marks (hvis hpos) hkM] at h
  simpa using h
 have HCOM := Lib.hid hcom
 have HB1 := Lib.hid hb1
 have hws := hb1.size
 have hmk := run_make_row' (P := Tryz.prog) 38 3 (.int .i64 0) 8 Tryz.underlying38 info_int rfl .i64 .i64 f.blocks.length (by omega) (by omega)
 clear hcom hqM hsM hvis hb1 HRE i0 i1 i2 i3
 go_upto_region 3 with fail
 refine wp_world ?_
 intro W2 hW2
 have hst : T1 f (okF S0 xb fb w) w w1 0 (.slice none 0 0) [] W2 := by
  refine ⟨by rw [← hW2]; exact below1 _ _, ?_, ?_, rfl, fun _ h => (by cases h), fun j h => (by cases h)⟩
  ·rw [placeRow_zero, ← hW2, ← made_oneT]; exact Blk.new w1 _ _
  ·rw [place_zero]; exact World.ownsRow_nil _ _ _ _
 have hp0 := place_zero f
 have HST := Lib.hid hst
 clear hW2 hst hmk
 go_wp2_with fail
 go_loopw [4, 18] (fun s4 s wr => ∃ i : Nat, i ≤ f.blocks.length ∧ s = .int .i64 i ∧ ∃ Av cv css, s4 = .slice Av (placeN f i) cv ∧ T1 f (okF S0 xb fb w) w w1 i (.slice Av (placeN f i) cv) css wr) (fun _ s _ => f.blocks.length - (intOf s).toNat)
 case atStart => exact ⟨0, by omega, rfl, none, 0, [], by rw [hp0], by rw [hp0]; exact HST.out⟩
 case round =>
  obtain ⟨i, hi, rfl, Av, cv, css, rfl, hst⟩ := hrel
  clear HST hp0
  have hpl := place_le f i
  have hw1r := hst.below.size
  by_cases hlt : i < f.blocks.length
  ·have d0 : decide ((i : Int) < (f.blocks.length : Int)) = true := decide_eq_true (by omega)
   have hi3 : (i : Int) < (f.blocks.length : Int) := by omega
   have q0 : wr.cell? ⟨gM, oM + i, none⟩ = some (.bool (comeB f i)) := (hst.below.cell (p := ⟨gM, oM + i, none⟩) hgM.2).trans (HCOM.out i hlt)
   obtain ⟨n0, hn0⟩ := placeRow_at hlt i
   have p0 : wr.cell? ⟨w1.heap.size, i, none⟩ = some (.int .i64 n0) := by have h := hst.place.cell i; rw [h]; simpa using hn0
   have pz := hst.place.frozen i
   have hFw := HH.out.below (HB1.out.trans (hst.below.mono HB1.out.size))
   have f3 : wr.cell? ⟨fb, 3, none⟩ = some (.slice A f.blocks.length c) := hFw.cells.2.2.2
   cases hc : comeB f i with
   | false =>
    rw [hc] at q0
    have HST := Lib.hid (hst.skip hlt hc)
    have hps : placeN f (i + 1) = placeN f i := by rw [place_succ, hc]; rfl
    have HPS := Lib.hid hps
    clear hst hFw hps
    go_wp2_with fail
    go_roundw
    case rel =>
     refine ⟨i + 1, by omega, by go_num, Av, cv, css, ?_, ?_⟩
     ·rw [HPS.out]
     ·have h := HST.out
      rw [HPS.out]
      exact h
    case measure => simp [intOf]; omega
   | true =>
    rw [hc] at q0
    obtain ⟨ga, oa, ca, hform, _, _, hga, hq⟩ := HH.out.row.form (by omega)
    obtain ⟨rfl, rfl⟩ : A = some ⟨ga, oa, none⟩ ∧ c = ca := by injection hform with h1 _ h2; exact ⟨h1, h2⟩
    obtain ⟨cs, _, ⟨vi, hcs, hsi⟩, hcell⟩ := hq i hlt
    subst hcs
    obtain ⟨bk, hbe⟩ : ∃ bk, bk = f.blocks[i] := ⟨_, rfl⟩
    have hRB : RBlock w (okF S0 xb fb w) (vi :: termCells bk.term) bk := by rw [hbe]; exact ⟨vi, rfl, hsi⟩
    rw [← hbe] at hcell hsi
    obtain ⟨Ai, ci, hvi, _, _⟩ := hsi.val
    subst hvi
    have hcw := hcell.keep ((hst.below.block ga (by have := hga.2; omega)).trans (HB1.out.block ga hga.2))
    have j0 : wr.cell? ⟨ga, oa + i * 5, none⟩ = some (.slice Ai bk.ins.length ci) := by have h := hcw.at_ (j := 0) rfl; simpa using h
    have j1 : wr.cell? ⟨ga, oa + i * 5 + 1, none⟩ = some (.int .i64 bk.term.kind) := hcw.at_ (j := 1) rfl
    have j2 : wr.cell? ⟨ga, oa + i * 5 + 2, none⟩ = some (.int .i64 bk.term.a) := hcw.at_ (j := 2) rfl
    have j3 : wr.cell? ⟨ga, oa + i * 5 + 3, none⟩ = some (.int .i64 bk.term.to) := hcw.at_ (j := 3) rfl
    have j4 : wr.cell? ⟨ga, oa + i * 5 + 4, none⟩ = some (.int .i64 bk.term.els) := hcw.at_ (j := 4) rfl
    have hown0 := (hst.put hlt).2.2
    have hgw : ga < w1.heap.size := by have := hga.2; omega
    have HST := Lib.hid hst
    have HRB := Lib.hid hRB
    have HBE := Lib.hid hbe
    have hps : placeN f (i + 1) = placeN f i + 1 := by rw [place_succ, hc]; rfl
    have HPS := Lib.hid hps
    obtain ⟨z0, hb0, hb1, hb2, hb3⟩ := info_parts info_block
    clear hst hFw hcw hcell hsi hq hform hRB hbe hps
    go_wp2_with (first | (at_builtin; refine wpList_append_lies _ rfl _ _ _ rfl (w1.heap.size + 1) 48 z0 _ 5 56 Tryz.underlying22 hb0 hb1 hb2 hb3 rfl (by decide) (.slice Av (placeN f i) cv) (placeN f i) css.flatten rfl (hown0.alloc _) ⟨wr.heap.size, 0, none⟩ 1 1 [.slice Ai bk.ins.length ci, .int .i64 bk.term.kind, .int .i64 bk.term.a, .int .i64 bk.term.to, .int .i64 bk.term.els] rfl rfl (World.news_of_block (cs := #[.slice Ai bk.ins.length ci, .int .i64 bk.term.kind, .int .i64 bk.term.a, .int .i64 bk.term.to, .int .i64 bk.term.els]) (t := 48) (fr := (0, 0)) (Blk.new_at (wr.setCell ⟨w1.heap.size, i, none⟩ (.int .i64 (placeN f i : Int))) _ _ (by simp [World.setCell]))) (by simp [Value.oneCell']) (by decide) (by unfold maxLen; omega) (by omega) (by simp [World.setCell]; omega) (wr.heap.size + 1) (by simp [World.setCell]) ?_; intro g2 cap2 X4 hown4 hgrow4 hat4 hlt4))
    go_roundw
    case rel =>
     have hT := HST.out.take hlt hc (cs := [.slice Ai bk.ins.length ci, .int .i64 bk.term.kind, .int .i64 bk.term.a, .int .i64 bk.term.to, .int .i64 bk.term.els]) rfl (by rw [← HBE.out]; exact HRB.out) hown4 hgrow4
     refine ⟨i + 1, by omega, by go_num, some ⟨g2, 0, none⟩, cap2, css ++ [[.slice Ai bk.ins.length ci, .int .i64 bk.term.kind, .int .i64 bk.term.a, .int .i64 bk.term.to, .int .i64 bk.term.els]], ?_, ?_⟩
     ·rw [HPS.out]
     ·have e := HPS.out
      rw [← e] at hT
      exact hT
    case measure => simp [intOf]; omega
  ·have d0 : decide ((i : Int) < (f.blocks.length : Int)) = false := decide_eq_false (by omega)
   obtain rfl : i = f.blocks.length := by omega
   have hpe : placeN f f.blocks.length = (comeL f).length := (comeL_len f).symm
   have hpp := place_pos HN.out
   rw [hpe] at hst hpp
   have hrow0 := hst.row
   rw [hpe] at hrow0
   obtain ⟨g, cp, hv, hg1, hg2, _⟩ := own_some hrow0 hpp
   obtain ⟨rfl, rfl⟩ : Av = some ⟨g, 0, none⟩ ∧ cv = cp := by injection hv with h1 _ h2; exact ⟨h1, h2⟩
   have ht2 : T2 f (okF S0 xb fb w) w w1 wr g cv 0 css wr := by
    refine ⟨World.grownBy.refl _ _, hrow0, by rw [hst.len, hpe], hst.each, ?_⟩
    rw [renTo_zero]
    exact hst.elems
   have hlc : (comeL f).length ≤ 1000 := by rw [← hpe]; omega
   have hB2 : Below w.heap.size w wr := HB1.out.trans (hst.below.mono HB1.out.size)
   have hplc := hst.place
   obtain ⟨X1, hX1⟩ : ∃ X1, X1 = wr := ⟨_, rfl⟩
   have HT2 := Lib.hid ht2
   have HB2 := Lib.hid hB2
   have HPLC := Lib.hid hplc
   have hpl1 := hplc.lt
   have HPE := Lib.hid hpe
   rw [hpe]
   rw [← hX1] at HT2 HB2 HPLC hpl1 hw1r hg2 ⊢
   clear hst ht2 hB2 hplc hv hX1 hpe hrow0
   go_wp2_with fail
   go_loopw [42] (fun s wr => ∃ j : Nat, j ≤ (comeL f).length ∧ s = .int .i64 j ∧ ∃ css, T2 f (okF S0 xb fb w) w w1 X1 g cv j css wr) (fun s _ => (comeL f).length - (intOf s).toNat)
   case atStart => exact ⟨0, by omega, rfl, _, HT2.out⟩
   case round =>
    obtain ⟨j, hj, rfl, css, hst⟩ := hrel
    clear HT2
    by_cases hjl : j < (comeL f).length
    ·have d1 : decide ((j : Int) < ((comeL f).length : Int)) = true := decide_eq_true (by omega)
     have hj3 : (j : Int) < ((comeL f).length : Int) := by omega
     obtain ⟨vi, hcs, hsi, hcell⟩ := hst.at_ hjl
     have hcome : ∀ s ∈ nextL (comeL f)[j].term, ∃ sn : Nat, s = (sn : Int) ∧ sn < f.blocks.length := fun s hs => by
      obtain ⟨k, hk, hck, e⟩ := comeL_mem (List.getElem_mem hjl)
      rw [e] at hs
      obtain ⟨h0, h1⟩ := next_come HN.out hk hck s hs
      exact ⟨s.toNat, by omega, come_lt HN.out h1⟩
     have hput : ∀ (W : World) (css : List (List Value)) (v : Value) (k : Nat) (_ : k < 5) (hl : j < css.length) (_ : ∀ cs ∈ css, cs.length = 5) (_ : W.ownsRow (w1.heap.size + 1) 48 5 (.slice (some ⟨g, 0, none⟩) (comeL f).length cv) (comeL f).length css.flatten), (W.setCell ⟨g, j * 5 + k, none⟩ v).ownsRow (w1.heap.size + 1) 48 5 (.slice (some ⟨g, 0, none⟩) (comeL f).length cv) (comeL f).length (css.set j ((css[j]).set k v)).flatten := fun W css v k hk hl he hr => OwnL.put1 hr he hl hk v (0 : Nat)
     obtain ⟨t, hte⟩ : ∃ t, t = (comeL f)[j].term := ⟨_, rfl⟩
     rw [← hte] at hcs hcome
     have k1 : wr.cell? ⟨g, j * 5 + 1, none⟩ = some (.int .i64 t.kind) := by rw [hcell 1 (by omega), hte]; rfl
     have hfz := fun n => hst.row.frozenAt n
     have hcl : css.length = (comeL f).length := hst.len
     have hgX : g < wr.heap.size := (hst.row.lt g rfl).2
     have hplw : Blk wr w1.heap.size 3 (placeRow f f.blocks.length).toArray := HPLC.out.grown hst.grown (fun e => by injection e with e; omega)
     have hpcell : ∀ sn, sn < f.blocks.length → wr.cell? ⟨w1.heap.size, sn, none⟩ = some (.int .i64 (placeN f sn : Int)) := fun sn hsn => by
      have h := hplw.cell sn
      rw [h]
      simpa using placeRow_end hsn
     have HST := Lib.hid hst
     have HTE := Lib.hid hte
     have HSI := Lib.hid hsi
     have HCS := Lib.hid hcs
     have HPUT := Lib.hid hput
     by_cases h2 : t.kind = 2
     ·have b2 : (t.kind == 2) = true := by simp [h2]
      obtain ⟨tn, htn, htl⟩ := hcome t.to (by unfold nextL; by_cases e : t.to = t.els <;> simp [h2, e])
      obtain ⟨en, hen, hel⟩ := hcome t.els (by unfold nextL; by_cases e : t.to = t.els <;> simp [h2, e])
      have k3 : wr.cell? ⟨g, j * 5 + 1 + 2, none⟩ = some (.int .i64 (tn : Int)) := by rw [show j * 5 + 1 + 2 = j * 5 + 3 from rfl, hcell 3 (by omega), ← htn, hte]; rfl
      have k4 : wr.cell? ⟨g, j * 5 + 1 + 3, none⟩ = some (.int .i64 (en : Int)) := by rw [show j * 5 + 1 + 3 = j * 5 + 4 from rfl, hcell 4 (by omega), ← hen, hte]; rfl
      have z3 := hfz (j * 5 + 1 + 2)
      have z4 := hfz (j * 5 + 1 + 3)
      have y3 := hpcell tn htl
      have y4 := hpcell en hel
      have htn3 : (tn : Int) < (f.blocks.length : Int) := by omega
      have hen3 : (en : Int) < (f.blocks.length : Int) := by omega
      have HTN := Lib.hid htn
      have HEN := Lib.hid hen
      have H2 := Lib.hid h2
      have hst2 : ∃ css', T2 f (okF S0 xb fb w) w w1 X1 g cv (j + 1) css' ((wr.setCell ⟨g, j * 5 + 1 + 2, none⟩ (.int .i64 (placeN f tn : Int))).setCell ⟨g, j * 5 + 1 + 3, none⟩ (.int .i64 (placeN f en : Int))) := by
       have r1 := HPUT.out wr css (.int .i64 (placeN f tn : Int)) 3 (by omega) (by omega) HST.out.each HST.out.row
       have r2 := HPUT.out _ (css.set j ((css[j]'(by omega)).set 3 (.int .i64 (placeN f tn : Int)))) (.int .i64 (placeN f en : Int)) 4 (by omega) (by rw [List.length_set]; omega) (fun cs hcs => by
        rcases List.mem_or_eq_of_mem_set hcs with h' | h'
        ·exact HST.out.each cs h'
        ·rw [h', List.length_set]; exact HST.out.each _ (List.getElem_mem _)) r1
       rw [List.getElem_set_self, List.set_set] at r2
       refine ⟨_, HST.out.next hjl (t := ⟨t.kind, t.a, (placeN f tn : Int), (placeN f en : Int)⟩) ?_ HSI.out (cs' := ((css[j]'(by omega)).set 3 (.int .i64 (placeN f tn : Int))).set 4 (.int .i64 (placeN f en : Int))) ?_ r2 ((grown_set wr ⟨g, j * 5 + 1 + 2, none⟩ _).trans (grown_set _ ⟨g, j * 5 + 1 + 3, none⟩ _))⟩
       ·rw [← HTE.out]
        unfold renTerm trimR
        have e1 := HTN.out; have e2 := HEN.out; have e3 := H2.out
        simp [e1, e2, e3]
       ·have e := HCS.out
        simp only [e]
        rfl
      have HST2 := Lib.hid hst2
      clear hcell hcs hsi hte hcome hput htn hen h2 hplw hpcell hfz hst2 HPUT HSI HCS HTE HTN HEN H2 HST hst
      go_upto_region 16 with fail
      have SO : Hid (∀ X : World, wr.heap = X.heap → (fun w2 => w2.cell? ⟨g, j * 5 + 1 + 2, none⟩ = some (.int .i64 (tn : Int)) ∧ w2.cell? ⟨g, j * 5 + 1 + 3, none⟩ = some (.int .i64 (en : Int)) ∧ w2.cell? ⟨w1.heap.size, tn, none⟩ = some (.int .i64 (placeN f tn : Int)) ∧ w2.cell? ⟨w1.heap.size, en, none⟩ = some (.int .i64 (placeN f en : Int))) X) := Lib.hid (fun X hb => by
       have e : ∀ a : Addr, X.cell? a = wr.cell? a := fun a => World.cell?_of_block (by rw [hb])
       exact ⟨(e _).trans k3, (e _).trans k4, (e _).trans y3, (e _).trans y4⟩)
      have D3 : wr.drew.cell? ⟨g, j * 5 + 1 + 2, none⟩ = some (.int .i64 (tn : Int)) := k3
      have D4 : wr.drew.cell? ⟨g, j * 5 + 1 + 3, none⟩ = some (.int .i64 (en : Int)) := k4
      have E3 : wr.drew.frozen? ⟨g, j * 5 + 1 + 2, none⟩ = false := z3
      have E4 : wr.drew.frozen? ⟨g, j * 5 + 1 + 3, none⟩ = false := z4
      refine wp_region_L (by kernel_rfl) 18 (fun w2 => w2.cell? ⟨g, j * 5 + 1 + 2, none⟩ = some (.int .i64 (tn : Int)) ∧ w2.cell? ⟨g, j * 5 + 1 + 3, none⟩ = some (.int .i64 (en : Int)) ∧ w2.cell? ⟨w1.heap.size, tn, none⟩ = some (.int .i64 (placeN f tn : Int)) ∧ w2.cell? ⟨w1.heap.size, en, none⟩ = some (.int .i64 (placeN f en : Int))) (SO.out _ rfl) (fun hHeld => ?_)
      have HS0 := Lib.hid hHeld
      clear hHeld
      change wpAnyL _ _ _ _ _ 18 22 (Array.replicate 22 false) _ _
      refine tL 0 55 (.pointer (some ⟨g, j * 5 + 1, none⟩)) HS0.out rfl rfl ?_ ?_
      ·intro w2; go_simp
      try simp only [setIfInBounds_toArray, set_cons_zero, set_cons_succ]
      refine tL 1 56 (.pointer (some ⟨g, j * 5 + 1, none⟩)) HS0.out rfl rfl ?_ ?_
      ·intro w2; go_simp
      try simp only [setIfInBounds_toArray, set_cons_zero, set_cons_succ]
      refine tL 2 57 (.slice (some ⟨w1.heap.size, 0, none⟩) f.blocks.length f.blocks.length) HS0.out rfl rfl ?_ ?_
      ·intro w2; go_simp
      try simp only [setIfInBounds_toArray, set_cons_zero, set_cons_succ]
      refine tL 3 58 (.pointer (some ⟨g, j * 5 + 1, none⟩)) HS0.out rfl rfl ?_ ?_
      ·intro w2; go_simp
      try simp only [setIfInBounds_toArray, set_cons_zero, set_cons_succ]
      refine tL 4 59 (.pointer (some ⟨g, j * 5 + 1, none⟩)) HS0.out rfl rfl ?_ ?_
      ·intro w2; go_simp
      try simp only [setIfInBounds_toArray, set_cons_zero, set_cons_succ]
      refine tL 5 60 (.pointer (some ⟨g, j * 5 + 1 + 2, none⟩)) HS0.out rfl rfl ?_ ?_
      ·intro w2; go_simp
      try simp only [setIfInBounds_toArray, set_cons_zero, set_cons_succ]
      refine tS 6 61 (.int .i64 (tn : Int)) [18] HS0.out rfl rfl ?_ ?_
      ·intro w2 hSw; obtain ⟨g0, g1, g2, g3⟩ := hSw; go_simp
      try simp only [setIfInBounds_toArray, set_cons_zero, set_cons_succ]
      refine tL 7 62 (.pointer (some ⟨w1.heap.size, tn, none⟩)) HS0.out rfl rfl ?_ ?_
      ·intro w2; go_simp
      try simp only [setIfInBounds_toArray, set_cons_zero, set_cons_succ]
      refine tS 8 63 (.int .i64 (placeN f tn : Int)) [18] HS0.out rfl rfl ?_ ?_
      ·intro w2 hSw; obtain ⟨g0, g1, g2, g3⟩ := hSw; go_simp
      try simp only [setIfInBounds_toArray, set_cons_zero, set_cons_succ]
      refine tL 9 64 (.slice (some ⟨w1.heap.size, 0, none⟩) f.blocks.length f.blocks.length) HS0.out rfl rfl ?_ ?_
      ·intro w2; go_simp
      try simp only [setIfInBounds_toArray, set_cons_zero, set_cons_succ]
      refine tL 10 65 (.pointer (some ⟨g, j * 5 + 1, none⟩)) HS0.out rfl rfl ?_ ?_
      ·intro w2; go_simp
      try simp only [setIfInBounds_toArray, set_cons_zero, set_cons_succ]
      refine tL 11 66 (.pointer (some ⟨g, j * 5 + 1, none⟩)) HS0.out rfl rfl ?_ ?_
      ·intro w2; go_simp
      try simp only [setIfInBounds_toArray, set_cons_zero, set_cons_succ]
      refine tL 12 67 (.pointer (some ⟨g, j * 5 + 1 + 3, none⟩)) HS0.out rfl rfl ?_ ?_
      ·intro w2; go_simp
      try simp only [setIfInBounds_toArray, set_cons_zero, set_cons_succ]
      refine tS 13 68 (.int .i64 (en : Int)) [18] HS0.out rfl rfl ?_ ?_
      ·intro w2 hSw; obtain ⟨g0, g1, g2, g3⟩ := hSw; go_simp
      try simp only [setIfInBounds_toArray, set_cons_zero, set_cons_succ]
      refine tL 14 69 (.pointer (some ⟨w1.heap.size, en, none⟩)) HS0.out rfl rfl ?_ ?_
      ·intro w2; go_simp
      try simp only [setIfInBounds_toArray, set_cons_zero, set_cons_succ]
      refine tS 15 70 (.int .i64 (placeN f en : Int)) [18] HS0.out rfl rfl ?_ ?_
      ·intro w2 hSw; obtain ⟨g0, g1, g2, g3⟩ := hSw; go_simp
      try simp only [setIfInBounds_toArray, set_cons_zero, set_cons_succ]
      refine tL 16 71 (.pointer (some ⟨g, j * 5 + 1, none⟩)) HS0.out rfl rfl ?_ ?_
      ·intro w2; go_simp
      try simp only [setIfInBounds_toArray, set_cons_zero, set_cons_succ]
      refine tL 17 72 (.pointer (some ⟨g, j * 5 + 1 + 2, none⟩)) HS0.out rfl rfl ?_ ?_
      ·intro w2; go_simp
      try simp only [setIfInBounds_toArray, set_cons_zero, set_cons_succ]
      refine wpAnyL_ready (rs := [18]) (by kernel_rfl) (by simp) ?_
      refine AllReadyL.last rfl (by kernel_rfl) (fun K hK => ?_)
      go_simp
      refine hK.out _ _ ?_
      clear hK K
      try simp only [setIfInBounds_toArray, set_cons_zero, set_cons_succ]
      have D5 : (wr.drew.setCell ⟨g, j * 5 + 1 + 2, none⟩ (.int .i64 (placeN f tn : Int))).cell? ⟨g, j * 5 + 1 + 3, none⟩ = some (.int .i64 (en : Int)) := (World.cell?_setCell_other _ _ _ _ (by simp)).trans D4
      have E5 : (wr.drew.setCell ⟨g, j * 5 + 1 + 2, none⟩ (.int .i64 (placeN f tn : Int))).frozen? ⟨g, j * 5 + 1 + 3, none⟩ = false := by rw [World.frozen?_setCell]; exact E4
      refine wpAnyL_ready (rs := [19]) (by kernel_rfl) (by simp) ?_
      refine AllReadyL.past rfl (by kernel_rfl) (fun K hK => ?_)
      go_simp
      refine hK.out _ _ ?_
      clear hK K
      try simp only [setIfInBounds_toArray, set_cons_zero, set_cons_succ]
      refine wpAnyL_ready (rs := [20]) (by kernel_rfl) (by simp) ?_
      refine AllReadyL.past rfl (by kernel_rfl) (fun K hK => ?_)
      go_simp
      refine hK.out _ _ ?_
      clear hK K
      try simp only [setIfInBounds_toArray, set_cons_zero, set_cons_succ]
      refine wpAnyL_ready (rs := [21]) (by kernel_rfl) (by simp) ?_
      refine AllReadyL.past rfl (by kernel_rfl) (fun K hK => ?_)
      go_simp
      refine hK.out _ _ ?_
      clear hK K
      try simp only [setIfInBounds_toArray, set_cons_zero, set_cons_succ]
      refine wpAnyL_done (by kernel_rfl) ?_ _
      go_wp2
      go_roundw
      case rel =>
       obtain ⟨css', hc'⟩ := HST2.out
       exact ⟨j + 1, by omega, by go_num, css', hc'.likes (fun _ => ⟨rfl, rfl, rfl, Nat.le_refl _, fun _ _ _ => rfl⟩)⟩
      case measure => simp [intOf]; omega
     ·have b2 : (t.kind == 2) = false := by simp [h2]
      by_cases h1 : t.kind = 1
      ·have b1 : (t.kind == 1) = true := by simp [h1]
       obtain ⟨tn, htn, htl⟩ := hcome t.to (by unfold nextL; simp [h1])
       have k3 : wr.cell? ⟨g, j * 5 + 1 + 2, none⟩ = some (.int .i64 (tn : Int)) := by rw [show j * 5 + 1 + 2 = j * 5 + 3 from rfl, hcell 3 (by omega), ← htn, hte]; rfl
       have z3 := hfz (j * 5 + 1 + 2)
       have y3 := hpcell tn htl
       have htn3 : (tn : Int) < (f.blocks.length : Int) := by omega
       have hst2 : ∃ css', T2 f (okF S0 xb fb w) w w1 X1 g cv (j + 1) css' (wr.setCell ⟨g, j * 5 + 1 + 2, none⟩ (.int .i64 (placeN f tn : Int))) := by
        have r1 := hput wr css (.int .i64 (placeN f tn : Int)) 3 (by omega) (by omega) hst.each hst.row
        refine ⟨_, hst.next hjl (t := ⟨t.kind, t.a, (placeN f tn : Int), t.els⟩) ?_ hsi (cs' := (css[j]'(by omega)).set 3 (.int .i64 (placeN f tn : Int))) ?_ r1 (grown_set wr ⟨g, j * 5 + 1 + 2, none⟩ _)⟩
        ·rw [← hte]
         unfold renTerm trimR
         simp [htn, h1]
        ·simp only [hcs]
         rfl
       have HST2 := Lib.hid hst2
       clear HPUT HSI HCS HTE HST hcell hcs hsi hte hcome hput htn h1 h2 hplw hpcell hfz hst2 hst
       go_wp2_with fail
       go_roundw
       case rel => exact ⟨j + 1, by omega, by go_num, HST2.out⟩
       case measure => simp [intOf]; omega
      ·have b1 : (t.kind == 1) = false := by simp [h1]
       have HST2 := Lib.hid (hst.same hjl (by rw [← hte]; unfold renTerm trimR; simp [h1, h2]))
       clear HPUT HSI HCS HTE HST hcell hcs hsi hte hcome hput h1 h2 hplw hpcell hfz hst
       go_wp2_with fail
       go_roundw
       case rel => exact ⟨j + 1, by omega, by go_num, _, HST2.out⟩
       case measure => simp [intOf]; omega
    ·have d1 : decide ((j : Int) < ((comeL f).length : Int)) = false := decide_eq_false (by omega)
     obtain rfl : j = (comeL f).length := by omega
     have htl : (trimF f).blocks.length = (comeL f).length := by rw [trim_len, comeL_len]
     have hX1w := hst.grown.size
     have hBs := HB2.out.size
     have hfr : wr.heap[fb]? = w.heap[fb]? := (hst.grown.block fb (by omega) (fun e => by injection e with e; omega)).trans (HB2.out.block fb hfl)
     have hkw : Keeps (okF S0 xb fb w) w wr := fun b hb => (hst.grown.block b (by have := hb.2; omega) (fun e => by injection e with e; have := hb.2; omega)).trans (HB2.out.block b hb.2)
     have hrw : SlR wr (okF S0 xb fb wr) 5 (RBlock wr (okF S0 xb fb wr)) (.slice (some ⟨g, 0, none⟩) (trimF f).blocks.length cv) (trimF f).blocks := by
      have he := hst.elems
      rw [renTo_end] at he
      rw [htl]
      exact SlR.of_own hst.row htl.symm (hst.len.trans htl.symm) hst.each (fun k h1 h2 => mono_block _ _ _ _ _ _ (he k h1 h2) (okF_up (by omega)) hkw) (fun b e => by have e' : g = b := (by simpa [Value.ownBlock] using e); have := (hst.row.lt g rfl); exact ⟨.inr (by omega), by omega⟩)
     have hfin := HH.out.store (Y := wr) hfr hrw hS
     rw [htl] at hfin
     have hB : Below fb w wr := (HB2.out.mono (by omega)).grown hst.grown (by omega) (fun b e => by injection e with e; omega)
     have b3 : wr.cell? ⟨fb, 3, none⟩ = some (.slice A f.blocks.length c) := ((HH.out.blk).keep hfr).cell 3
     have z3 : wr.frozen? ⟨fb, 3, none⟩ = false := ((HH.out.blk).keep hfr).frozen 3
     have HFIN := Lib.hid hfin
     have HBB := Lib.hid hB
     clear hst hfr hrw hfin hB hkw
     go_wp2
     refine bodyPost_end (results_none rfl _ _ _) rfl ?_
     exact ⟨rfl, HBB.out.setCell (Nat.le_refl _) _, some ⟨g, 0, none⟩, cv, HFIN.out⟩
end Go.Proofs.YtkpigkopjfkepaaGreatDoor
