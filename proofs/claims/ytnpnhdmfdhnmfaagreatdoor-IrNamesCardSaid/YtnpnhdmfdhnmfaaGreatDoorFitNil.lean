/- Fit at no raw blocks: three functions of one block each; the blocks' rows lie apart, and the blocks have no instructions' row. -/
import Derived.Test.YtnpnhdmfdhnmfaaGreatDoorFit
import Derived.Test.YtnpnhdmfdhnmfaaGreatDoorRegion
import Derived.Test.YtnpnhdmfdhnmfaaGreatDoorAw10
import Derived.Deep.DeepCutAuto
namespace Go.Proofs.YtnpnhdmfdhnmfaaGreatDoor
open Go.RowKit
open Go.Deep

set_option maxRecDepth 100000 in
set_option maxHeartbeats 4000000 in
theorem blk0_any (bn : Nat) (w : World) : Calls Tryz.prog 31 #[.agg #[.slice none 0 0, .int .i64 0, .int .i64 0, .int .i64 0, .int .i64 0], .int .i64 1, .slice (some ⟨bn, 0, none⟩) 3 3] w fun e w' => e = .returned (.agg #[.slice none 0 0, .int .i64 1, .int .i64 0, .int .i64 0, .int .i64 0]) ∧ Below w.heap.size w w' := by
  have HP4 := Lib.hid (fun w2 => pick10_any 0 4 (by omega) (by omega) (by omega) w2)
  have HP1 := Lib.hid (fun w2 => pick10_any 0 1 (by omega) (by omega) (by omega) w2)
  rw [show pk 0 4 = 0 by decide] at HP4
  rw [show pk 0 1 = 0 by decide] at HP1
  go_enter Tryz.func31, Tryz.ntmps31
  go_upto_region 3 with fail
  refine wp_world ?_
  intro W hW
  have hA : Blk W w.heap.size 43 #[.slice none 0 0, .int .i64 0, .int .i64 0, .int .i64 0, .int .i64 0] := by rw [← hW]; exact ((Blk.new w _ _).alloc _).alloc _
  have hR : Blk W (w.heap.size + 1) 43 #[.slice none 0 0, .int .i64 0, .int .i64 0, .int .i64 0, .int .i64 0] := by rw [← hW]; exact (Blk.new_at _ _ _ (by simp)).alloc _
  have hO : Blk W (w.heap.size + 1 + 1) 43 #[.slice none 0 0, .int .i64 0, .int .i64 0, .int .i64 0, .int .i64 0] := by rw [← hW]; exact Blk.new_at _ _ _ (by simp)
  have hB : Below w.heap.size w W := by rw [← hW]; exact (((Below.refl _ _).alloc (Nat.le_refl _) _).alloc (by simp) _).alloc (by simp <;> omega) _
  clear hW
  go_loopw [8] (fun s wr => s = .int .i64 0 ∧ wr = W) (fun _ _ => 0)
  case atStart => exact ⟨rfl, rfl⟩
  case round =>
    obtain ⟨rfl, rfl⟩ := hrel
    have c0 : wr.cell? ⟨w.heap.size, 0, none⟩ = some (.slice none 0 0) := hA.cell 0
    have c1 : wr.cell? ⟨w.heap.size, 1, none⟩ = some (.int .i64 0) := hA.cell 1
    have c2 : wr.cell? ⟨w.heap.size, 2, none⟩ = some (.int .i64 0) := hA.cell 2
    have c3 : wr.cell? ⟨w.heap.size, 3, none⟩ = some (.int .i64 0) := hA.cell 3
    have c4 : wr.cell? ⟨w.heap.size, 4, none⟩ = some (.int .i64 0) := hA.cell 4
    go_upto_region 7 with fail
    refine wp_world ?_
    intro W7 hW7
    have h7 : Below wr.heap.size wr W7 := by rw [← hW7]; exact below1 _ _
    have hT : Blk W7 wr.heap.size 41 #[.int .i64 0, .int .i64 0, .int .i64 0, .int .i64 0] := by rw [← hW7]; exact Blk.new wr _ _
    have hR7 := hR.below h7 hR.lt
    have hO7 := hO.below h7 hO.lt
    have hOl := hO.lt
    have hTl := hT.lt
    have t0 : W7.cell? ⟨wr.heap.size, 0, none⟩ = some (.int .i64 0) := hT.cell 0
    have o1 : W7.cell? ⟨w.heap.size + 1 + 1, 1, none⟩ = some (.int .i64 0) := hO7.cell 1
    have o2 : W7.cell? ⟨w.heap.size + 1 + 1, 2, none⟩ = some (.int .i64 0) := hO7.cell 2
    have o3 : W7.cell? ⟨w.heap.size + 1 + 1, 3, none⟩ = some (.int .i64 0) := hO7.cell 3
    have o4 : W7.cell? ⟨w.heap.size + 1 + 1, 4, none⟩ = some (.int .i64 0) := hO7.cell 4
    have f1 := hO7.frozen 1
    have f2 := hO7.frozen 2
    have f3 := hO7.frozen 3
    have f4 := hO7.frozen 4
    have HB7 := Lib.hid (hB.trans (h7.mono hB.size))
    clear hW7 h7 hA hR hO c0 c1 c2 c3 c4 hB
    go_upto_region 8 with (go_at_call 21; refine (HP4.out _).mono ?_; rintro e w' ⟨rfl, rfl⟩)
    refine wp_world ?_
    intro W8 hW8
    have hO8 : Blk W8 (w.heap.size + 1 + 1) 43 #[.slice none 0 0, .int .i64 1, .int .i64 0, .int .i64 0, .int .i64 0] := by rw [← hW8]; exact (((hO7.set_ 1 _).set_ 2 _).set_ 3 _).set_ 4 _
    have hne : ∀ (q b : Nat), b ≠ w.heap.size + 1 + 1 → b ≠ (⟨w.heap.size + 1 + 1, q, none⟩ : Addr).block := fun _ _ h => h
    have hk8 : Keeps (fun b => b ≠ w.heap.size + 1 + 1) W7 W8 := by
      rw [← hW8]
      exact ((((Keeps.refl _ _).set (hne 1) _).set (hne 2) _).set (hne 3) _).set (hne 4) _
    have hT8 := hT.keep (hk8 wr.heap.size (by omega))
    have hR8 := hR7.keep (hk8 (w.heap.size + 1) (by omega))
    have hB8 : Below w.heap.size w W8 := by
      rw [← hW8]
      exact ((((HB7.out).setCell (by show w.heap.size ≤ w.heap.size + 1 + 1; omega) _).setCell (by show w.heap.size ≤ w.heap.size + 1 + 1; omega) _).setCell (by show w.heap.size ≤ w.heap.size + 1 + 1; omega) _).setCell (by show w.heap.size ≤ w.heap.size + 1 + 1; omega) _
    have p0 : W8.cell? ⟨w.heap.size + 1 + 1, 0, none⟩ = some (.slice none 0 0) := hO8.cell 0
    have p1 : W8.cell? ⟨w.heap.size + 1 + 1, 1, none⟩ = some (.int .i64 1) := hO8.cell 1
    have p2 : W8.cell? ⟨w.heap.size + 1 + 1, 2, none⟩ = some (.int .i64 0) := hO8.cell 2
    have p3 : W8.cell? ⟨w.heap.size + 1 + 1, 3, none⟩ = some (.int .i64 0) := hO8.cell 3
    have p4 : W8.cell? ⟨w.heap.size + 1 + 1, 4, none⟩ = some (.int .i64 0) := hO8.cell 4
    have g3 := hO8.frozen 3
    have t2 : W8.cell? ⟨wr.heap.size, 2, none⟩ = some (.int .i64 0) := hT8.cell 2
    clear hW8 hne hk8 hT hR7 hO7 t0 o1 o2 o3 o4 f1 f2 f3 f4
    go_upto_region 12 with (go_at_call 21; refine (HP1.out _).mono ?_; rintro e w' ⟨rfl, rfl⟩)
    refine wp_world ?_
    intro W9 hW9
    have hO9 : Blk W9 (w.heap.size + 1 + 1) 43 #[.slice none 0 0, .int .i64 1, .int .i64 0, .int .i64 0, .int .i64 0] := by rw [← hW9]; exact hO8.set_ 3 _
    have hR9 : Blk W9 (w.heap.size + 1) 43 #[.slice none 0 0, .int .i64 0, .int .i64 0, .int .i64 0, .int .i64 0] := by rw [← hW9]; exact hR8.far (by show w.heap.size + 1 ≠ w.heap.size + 1 + 1; omega) _
    have hB9 : Below w.heap.size w W9 := by rw [← hW9]; exact hB8.setCell (by show w.heap.size ≤ w.heap.size + 1 + 1; omega) _
    have p0 : W9.cell? ⟨w.heap.size + 1 + 1, 0, none⟩ = some (.slice none 0 0) := hO9.cell 0
    have p1 : W9.cell? ⟨w.heap.size + 1 + 1, 1, none⟩ = some (.int .i64 1) := hO9.cell 1
    have p2 : W9.cell? ⟨w.heap.size + 1 + 1, 2, none⟩ = some (.int .i64 0) := hO9.cell 2
    have p3 : W9.cell? ⟨w.heap.size + 1 + 1, 3, none⟩ = some (.int .i64 0) := hO9.cell 3
    have p4 : W9.cell? ⟨w.heap.size + 1 + 1, 4, none⟩ = some (.int .i64 0) := hO9.cell 4
    have q0 : W9.cell? ⟨w.heap.size + 1, 0, none⟩ = some (.slice none 0 0) := hR9.cell 0
    have q1 : W9.cell? ⟨w.heap.size + 1, 1, none⟩ = some (.int .i64 0) := hR9.cell 1
    have q2 : W9.cell? ⟨w.heap.size + 1, 2, none⟩ = some (.int .i64 0) := hR9.cell 2
    have q3 : W9.cell? ⟨w.heap.size + 1, 3, none⟩ = some (.int .i64 0) := hR9.cell 3
    have q4 : W9.cell? ⟨w.heap.size + 1, 4, none⟩ = some (.int .i64 0) := hR9.cell 4
    have z0 := hR9.frozen 0
    have z1 := hR9.frozen 1
    have z2 := hR9.frozen 2
    have z3 := hR9.frozen 3
    have z4 := hR9.frozen 4
    clear hW9 hO8 hR8 hB8 hT8 t2 g3
    go_wp2
    have hfin : Blk (((((W9.setCell ⟨w.heap.size + 1, 0, none⟩ (.slice none 0 0)).setCell ⟨w.heap.size + 1, 1, none⟩ (.int .i64 1)).setCell ⟨w.heap.size + 1, 2, none⟩ (.int .i64 0)).setCell ⟨w.heap.size + 1, 3, none⟩ (.int .i64 0)).setCell ⟨w.heap.size + 1, 4, none⟩ (.int .i64 0)) (w.heap.size + 1) 43 #[.slice none 0 0, .int .i64 1, .int .i64 0, .int .i64 0, .int .i64 0] := ((((hR9.set_ 0 _).set_ 1 _).set_ 2 _).set_ 3 _).set_ 4 _
    refine bodyPost_ret (v := .agg #[.slice none 0 0, .int .i64 1, .int .i64 0, .int .i64 0, .int .i64 0]) (results_cell_row (p := 6) (ty := 43) (by kernel_rfl) _ _ (w.heap.size + 1) 43 _ (0, 0) _ rfl hfin Tryz.underlying43 rfl (by kernel_rfl)) rfl ?_
    exact ⟨rfl, ((((hB9.setCell (Nat.le_succ _) _).setCell (Nat.le_succ _) _).setCell (Nat.le_succ _) _).setCell (Nat.le_succ _) _).setCell (Nat.le_succ _) _⟩

/-! ### the whole of Fit -/
def zB : List Value := [.slice none 0 0, .int .i64 0, .int .i64 0, .int .i64 0, .int .i64 0]
def mB : List Value := [.slice none 0 0, .int .i64 1, .int .i64 0, .int .i64 0, .int .i64 0]
/-- a row of blocks whose first one's cells are xs -/
def RowB (w : World) (g : Nat) (xs : List Value) : Prop := ∃ cur : Array Value, Blk w g 43 cur ∧ 5 ≤ cur.size ∧ ∀ j, j < 5 → cur[j]? = xs[j]?
theorem RowB.keep {w w' : World} {g : Nat} {xs : List Value} (h : RowB w g xs) (hk : w'.heap[g]? = w.heap[g]?) : RowB w' g xs := by
  obtain ⟨cur, h1, h2⟩ := h
  exact ⟨cur, h1.keep hk, h2⟩
theorem RowB.lt {w : World} {g : Nat} {xs : List Value} (h : RowB w g xs) : g < w.heap.size := by
  obtain ⟨_, h1, _⟩ := h; exact h1.lt
theorem RowB.cell {w : World} {g : Nat} {xs : List Value} (h : RowB w g xs) (j : Nat) (hj : j < 5) {u : Value} (hu : xs[j]? = some u) : w.cell? ⟨g, j, none⟩ = some u := by
  obtain ⟨cur, h1, h2, h3⟩ := h
  rw [h1.cell j, h3 j hj, hu]
theorem RowB.frozen {w : World} {g : Nat} {xs : List Value} (h : RowB w g xs) (j : Nat) : w.frozen? ⟨g, j, none⟩ = false := by
  obtain ⟨_, h1, _⟩ := h; exact h1.frozen j
theorem RowB.set_ {w : World} {g : Nat} {xs : List Value} (h : RowB w g xs) (hx : xs.length = 5) (i : Nat) (hi : i < 5) (u : Value) : RowB (w.setCell ⟨g, i, none⟩ u) g (xs.set i u) := by
  obtain ⟨cur, h1, h2, h3⟩ := h
  refine ⟨_, h1.set_ i u, by simpa using h2, fun j hj => ?_⟩
  show (cur.setIfInBounds i u)[j]? = _
  by_cases e : i = j
  · subst e
    rw [Array.getElem?_setIfInBounds_self_of_lt (by omega), List.getElem?_set_self (by omega)]
  · rw [Array.getElem?_setIfInBounds_ne e, List.getElem?_set_ne e]
    exact h3 j hj
theorem RowB.of_own {w : World} {base g cap : Nat} {xs : List Value} (h : w.ownsRow base 43 5 (.slice (some ⟨g, 0, none⟩) 1 cap) 1 xs) : RowB w g xs ∧ base ≤ g ∧ 1 ≤ cap ∧ cap ≤ maxLen := by
  rcases h.2 with ⟨_, h0⟩ | ⟨g', cap', cur, hv, hb, hg, h1, h2, h3, h4⟩
  · omega
  · obtain ⟨rfl, rfl⟩ : g = g' ∧ cap = cap' := by injection hv with e1 _ e2; injection e1 with e1; injection e1 with e1; exact ⟨e1, e2⟩
    refine ⟨⟨cur, hg, by omega, fun j hj => ?_⟩, hb, h1, h2⟩
    rw [← h4]
    rw [List.getElem?_take_of_lt (by omega)]
    simp
/-- function k's cells; its blocks' row lies in block g -/
def RFlowG (w : World) (ok : Nat → Prop) (cs : List Value) (p : Nat × Nat) : Prop :=
  ∃ cap, cs = [.string (fnName p.1), .int .i64 p.1, .int .i64 10, .slice (some ⟨p.2, 0, none⟩) 1 cap] ∧ 1 ≤ cap ∧ cap ≤ maxLen ∧ ok p.2 ∧ RowB w p.2 mB
theorem mono_flowG : MonoR RFlowG := fun _ _ _ _ _ _ h a b => by
  obtain ⟨cap, h1, h2, h3, h4, h5⟩ := h
  exact ⟨cap, h1, h2, h3, a _ h4, h5.keep (b _ h4)⟩
/-- the world in the loop over the functions -/
structure FNLoop (w : World) (k : Nat) (v : Value) (l : List (Nat × Nat)) (css : List (List Value)) (wr : World) : Prop where
  below : Below w.heap.size w wr
  res : Blk wr w.heap.size 27 #[.slice none 0 0, .slice none 0 0]
  arr : Blk wr (w.heap.size + 1) 70 #[.string sA, .int .i64 4, .string sB, .int .i64 10]
  unit : Blk wr (w.heap.size + 1 + 1) 27 #[.slice (some ⟨w.heap.size + 1, 0, none⟩) 2 2, v]
  names : Blk wr (w.heap.size + 1 + 1 + 1) 9 #[.string sMain, .string sF, .string sG]
  own : OwnL wr (w.heap.size + 4) 45 4 RFlowG v l css
  fst : l.map Prod.fst = List.range k
  asc : l.Pairwise fun p q => p.2 < q.2
  low : ∀ p ∈ l, p.2 < wr.heap.size
theorem FNLoop.next {w : World} {k : Nat} {v : Value} {l : List (Nat × Nat)} {css : List (List Value)} {wo wi wa w1 : World} {g cap gb capb : Nat} (hl : FNLoop w k v l css wo) (hb : Below wo.heap.size wo wi) (hba : Below wi.heap.size wi wa)
    (hrow : RowB wi gb mB) (hgb : wo.heap.size + 1 ≤ gb) (hc1 : 1 ≤ capb) (hc2 : capb ≤ maxLen)
    (hown : w1.ownsRow (w.heap.size + 4) 45 4 (.slice (some ⟨g, 0, none⟩) (k + 1) cap) (k + 1) (css.flatten ++ [.string (fnName k), .int .i64 k, .int .i64 10, .slice (some ⟨gb, 0, none⟩) 1 capb])) (hg : wa.grownBy w1 v.ownBlock) (hat : v.ownBlock = some g ∨ g = wa.heap.size) :
    FNLoop w (k + 1) (.slice (some ⟨g, 0, none⟩) (k + 1) cap) (l ++ [(k, gb)]) (css ++ [[.string (fnName k), .int .i64 k, .int .i64 10, .slice (some ⟨gb, 0, none⟩) 1 capb]]) (w1.setCell ⟨w.heap.size + 1 + 1, 1, none⟩ (.slice (some ⟨g, 0, none⟩) (k + 1) cap)) := by
  have hbase : ∀ b, v.ownBlock = some b → w.heap.size + 4 ≤ b ∧ b < wo.heap.size := hl.own.lt
  have h0 : w.heap.size + 1 + 1 + 1 < wo.heap.size := hl.names.lt
  have h1 := hb.size
  have h2 := hba.size
  have hgl : gb < wi.heap.size := hrow.lt
  have hba' : Below wo.heap.size wo wa := hb.trans (hba.mono h1)
  have hne : ∀ b, b < w.heap.size + 4 → v.ownBlock ≠ some b := fun b hb e => by have := (hbase b e).1; omega
  have hB : Below w.heap.size w w1 := (hl.below.trans (hba'.mono hl.below.size)).grown hg (by omega) (fun b e => by have := (hbase b e).1; omega)
  have hkl : l.length = k := by have := congrArg List.length hl.fst; simpa using this
  have hk : Keeps (fun b => w.heap.size + 4 ≤ b ∧ b < wo.heap.size) wo wa := fun b hb' => hba'.block b hb'.2
  have hsn := OwnL.snoc (x := (k, gb)) (cs := [.string (fnName k), .int .i64 k, .int .i64 10, .slice (some ⟨gb, 0, none⟩) 1 capb]) mono_flowG hl.own hk (by omega) rfl (by rw [hkl]; exact hown) hg (hat.imp id fun h => by omega)
    ⟨capb, rfl, hc1, hc2, ⟨by show w.heap.size + 4 ≤ gb; omega, by show gb < wa.heap.size; omega, fun h => by have := (hbase gb h).2; omega⟩, hrow.keep (hba.block gb hgl)⟩
  have far : ∀ {x : Nat} {t : TypeId} {cs : Array Value}, Blk wo x t cs → x < w.heap.size + 4 → Blk w1 x t cs := fun h hx => (h.below hba' h.lt).grown hg (hne _ hx)
  have hsz1 : wa.heap.size ≤ w1.heap.size := hg.size
  refine ⟨hB.setCell (by simp; omega) _, (far hl.res (by omega)).far (by show w.heap.size ≠ w.heap.size + 1 + 1; omega) _, (far hl.arr (by omega)).far (by simp) _, (far hl.unit (by omega)).set_ 1 _, (far hl.names (by omega)).far (by simp) _, ?_, ?_, ?_, ?_⟩
  · rw [hkl] at hsn
    exact hsn.keep mono_flowG (snoc_put (by show w.heap.size + 1 + 1 < w.heap.size + 4; omega) _) (by simp [World.setCell])
  · rw [List.map_append, hl.fst, List.range_succ]; rfl
  · rw [List.pairwise_append]
    refine ⟨hl.asc, List.pairwise_singleton _ _, fun p hp q hq => ?_⟩
    obtain rfl := List.mem_singleton.1 hq
    have := hl.low p hp
    show p.2 < gb; omega
  · intro p hp
    have hs : (w1.setCell ⟨w.heap.size + 1 + 1, 1, none⟩ (.slice (some ⟨g, 0, none⟩) (k + 1) cap)).heap.size = w1.heap.size := by simp [World.setCell]
    rw [hs]
    rcases List.mem_append.1 hp with hp | hp
    · have := hl.low p hp; omega
    · obtain rfl := List.mem_singleton.1 hp
      show gb < w1.heap.size; omega
/-- a round's row of blocks: j of its one block are made -/
structure NB (wo : World) (k g cap j : Nat) (wi : World) : Prop where
  below : Below wo.heap.size wo wi
  flow : Blk wi wo.heap.size 45 #[.string (fnName k), .int .i64 k, .int .i64 10, .slice (some ⟨g, 0, none⟩) 1 cap]
  row : RowB wi g (if j = 0 then zB else mB)
  gb : wo.heap.size + 1 ≤ g
theorem NB.next {wo : World} {k g cap : Nat} {wi w' : World} (h : NB wo k g cap 0 wi) (hb : Below wi.heap.size wi w') :
    NB wo k g cap 1 (((((w'.setCell ⟨g, 0, none⟩ (.slice none 0 0)).setCell ⟨g, 1, none⟩ (.int .i64 1)).setCell ⟨g, 2, none⟩ (.int .i64 0)).setCell ⟨g, 3, none⟩ (.int .i64 0)).setCell ⟨g, 4, none⟩ (.int .i64 0)) := by
  have hgl : g < wi.heap.size := h.row.lt
  have hgb := h.gb
  have h1 := h.below.size
  have hB : Below wo.heap.size wo w' := h.below.trans (hb.mono h1)
  have hne : ∀ i : Nat, wo.heap.size ≠ (⟨g, i, none⟩ : Addr).block := fun i => by show wo.heap.size ≠ g; omega
  have hr : RowB w' g zB := RowB.keep (xs := zB) h.row (hb.block g hgl)
  refine ⟨((((hB.setCell (by show wo.heap.size ≤ g; omega) _).setCell (by show wo.heap.size ≤ g; omega) _).setCell (by show wo.heap.size ≤ g; omega) _).setCell (by show wo.heap.size ≤ g; omega) _).setCell (by show wo.heap.size ≤ g; omega) _, ?_, ?_, hgb⟩
  · exact (((((h.flow.below hb h.flow.lt).far (hne 0) _).far (hne 1) _).far (hne 2) _).far (hne 3) _).far (hne 4) _
  · show RowB _ g mB
    exact (((((hr.set_ rfl 0 (by omega) _).set_ rfl 1 (by omega) _).set_ rfl 2 (by omega) _).set_ rfl 3 (by omega) _).set_ rfl 4 (by omega) _)
def FitNilPost (w : World) (e : Ending) (w' : World) : Prop :=
  ∃ gf cf g0 g1 g2 css, e = .returned (.agg #[.slice (some ⟨w.heap.size + 1, 0, none⟩) 2 2, .slice (some ⟨gf, 0, none⟩) 3 cf]) ∧ Below w.heap.size w w' ∧ Blk w' (w.heap.size + 1) 70 #[.string sA, .int .i64 4, .string sB, .int .i64 10] ∧
    OwnL w' (w.heap.size + 4) 45 4 RFlowG (.slice (some ⟨gf, 0, none⟩) 3 cf) [(0, g0), (1, g1), (2, g2)] css ∧ g0 < g1 ∧ g1 < g2
set_option maxRecDepth 100000 in
set_option maxHeartbeats 8000000 in
theorem fitnil_any (w : World) : Calls Tryz.prog 14 #[.slice none 0 0] w (FitNilPost w) := by
  go_enter Tryz.func14, Tryz.ntmps14
  go_wp2_with fail
  refine wp_world ?_
  intro W hW
  have hst : FNLoop w 0 (.slice none 0 0) [] [] W := by
    rw [← hW]
    exact ⟨below4 _ _ _ _ _, ((((Blk.new _ _ _).alloc _).alloc _).alloc _), ((Blk.new_at _ _ _ (by simp)).alloc _).alloc _, (Blk.new_at _ _ _ (by simp)).alloc _, Blk.new_at _ _ _ (by simp), OwnL.nil_ _ _ _ _ _, rfl, List.Pairwise.nil, fun p hp => by cases hp⟩
  clear hW
  go_loopw [5] (fun i wr => ∃ k : Nat, k ≤ 3 ∧ i = .int .i64 k ∧ ∃ v l css, FNLoop w k v l css wr) (fun i _ => 3 - (intOf i).toNat)
  case atStart => exact ⟨0, by omega, rfl, _, _, _, hst⟩
  case round =>
    clear hst
    obtain ⟨k, hk, rfl, v, l, css, hl⟩ := hrel
    have HL := Lib.hid hl
    have hkl : l.length = k := by have := congrArg List.length hl.fst; simpa using this
    by_cases hlt : k < 3
    · have d0 : decide ((k : Int) < 3) = true := decide_eq_true (by omega)
      have n0 : wr.cell? ⟨w.heap.size + 1 + 1 + 1, k, none⟩ = some (.string (fnName k)) := by
        rcases (by omega : k = 0 ∨ k = 1 ∨ k = 2) with rfl | rfl | rfl
        · exact hl.names.cell 0
        · exact hl.names.cell 1
        · exact hl.names.cell 2
      have hsz := hl.below.size
      clear hl
      obtain ⟨wo, hwo⟩ : ∃ wo, wo = wr := ⟨_, rfl⟩
      subst hwo
      go_upto_region 7 with fail
      refine wp_world ?_
      intro W1 hW1
      have h1 : Below wo.heap.size wo W1 := by rw [← hW1]; exact below1 _ _
      have hF : Blk W1 wo.heap.size 45 #[.string (fnName k), .int .i64 k, .int .i64 10, .slice none 0 0] := by rw [← hW1]; exact Blk.new wo _ _
      have hFl := hF.lt
      clear hW1 n0
      go_wp2_with fail
      go_loopw [7] (fun s wi => s = .int .i64 k ∧ wi = W1) (fun _ _ => 0)
      case atStart => exact ⟨rfl, rfl⟩
      case round =>
        obtain ⟨rfl, hwi⟩ := hrel
        subst hwi
        have e0 : ¬ (k : Int) < 0 := by omega
        have p3 : wr.cell? ⟨wo.heap.size, 3, none⟩ = some (.slice none 0 0) := hF.cell 3
        have f3 : wr.frozen? ⟨wo.heap.size, 3, none⟩ = false := hF.frozen 3
        obtain ⟨z0, hi0, hz0, hz1, hz2⟩ := info_parts info_block
        have HF := Lib.hid hF
        have H1 := Lib.hid h1
        clear hF h1
        go_upto_region 13 with (at_builtin; refine wpList_append_lies _ rfl _ _ _ rfl (wo.heap.size + 1) 43 z0 _ 5 56 Tryz.underlying22 hi0 hz0 hz1 hz2 rfl (by decide) (.slice none 0 0) 0 [] rfl (World.ownsRow_nil _ _ _ _) ⟨wr.heap.size, 0, none⟩ 1 1 [.slice none 0 0, .int .i64 0, .int .i64 0, .int .i64 0, .int .i64 0] rfl rfl (World.news_of_block (cs := #[.slice none 0 0, .int .i64 0, .int .i64 0, .int .i64 0, .int .i64 0]) (t := 43) (fr := (0, 0)) (heap_alloc_new wr _)) (by simp [Value.oneCell']) (by decide) (by unfold maxLen; omega) (by omega) (by simp; omega) (wr.heap.size + 1) (by simp) ?_; intro g cap w1 hown1 hgrow hat hlt1; have hF1 := (HF.out.alloc (.cells #[.slice none 0 0, .int .i64 0, .int .i64 0, .int .i64 0, .int .i64 0] 43)).grown hgrow (by simp [Value.ownBlock]); have o2 : w1.cell? ⟨wo.heap.size, 3, none⟩ = some (.slice none 0 0) := hF1.cell 3; have f2 := hF1.frozen 3)
        refine wp_world ?_
        intro W13 hW13
        obtain ⟨hrow, hgb, hc1, hc2⟩ := RowB.of_own hown1
        have hgg : g = wr.heap.size + 1 := hat.resolve_left (by simp [Value.ownBlock])
        have hst : NB wo k g cap 0 W13 := by
          rw [← hW13]
          refine ⟨?_, hF1.set_ 3 _, ?_, hgb⟩
          · exact ((H1.out.trans ((below1 wr _).mono H1.out.size)).grown hgrow (by have := H1.out.size; simp; omega) (fun b e => by simp [Value.ownBlock] at e)).setCell (Nat.le_refl _) _
          · exact hrow.keep (Below.heap_setCell _ _ _ g (by show g ≠ wo.heap.size; omega))
        have q3 : W13.cell? ⟨wo.heap.size, 3, none⟩ = some (.slice (some ⟨g, 0, none⟩) 1 cap) := hst.flow.cell 3
        have HST := Lib.hid hst
        clear hW13 hown1 hgrow hat hlt1 hF1 o2 f2 hrow hgg hst p3 f3 e0 H1 HF
        go_wp2_with fail
        go_loopw [9] (fun i wi => ∃ j : Nat, j ≤ 1 ∧ i = .int .i64 j ∧ NB wo k g cap j wi) (fun i _ => 1 - (intOf i).toNat)
        case atStart => exact ⟨0, by omega, rfl, HST.out⟩
        case round =>
          clear q3
          obtain ⟨j, hj, rfl, hb⟩ := hrel
          have p3 : wr.cell? ⟨wo.heap.size, 3, none⟩ = some (.slice (some ⟨g, 0, none⟩) 1 cap) := hb.flow.cell 3
          have hs3 : wo.heap.size < wr.heap.size := hb.flow.lt
          have HB := Lib.hid hb
          by_cases hlt3 : j < 1
          · obtain rfl : j = 0 := by omega
            have hr : RowB wr g zB := hb.row
            have i0 : wr.cell? ⟨g, 0, none⟩ = some (.slice none 0 0) := hr.cell 0 (by omega) rfl
            have i1 : wr.cell? ⟨g, 1, none⟩ = some (.int .i64 0) := hr.cell 1 (by omega) rfl
            have i2 : wr.cell? ⟨g, 2, none⟩ = some (.int .i64 0) := hr.cell 2 (by omega) rfl
            have i3 : wr.cell? ⟨g, 3, none⟩ = some (.int .i64 0) := hr.cell 3 (by omega) rfl
            have i4 : wr.cell? ⟨g, 4, none⟩ = some (.int .i64 0) := hr.cell 4 (by omega) rfl
            have z0 := hr.frozen 0
            have z1 := hr.frozen 1
            have z2 := hr.frozen 2
            have z3 := hr.frozen 3
            have z4 := hr.frozen 4
            have hgw : g < wr.heap.size := hr.lt
            have HC := Lib.hid (blk0_any (w.heap.size + 1 + 1 + 1) wr.drew)
            have HR := Lib.hid hr
            clear hb hr
            go_wp2_with fail
            go_region_law (go_simp; go_at_call 31; refine HC.out.mono ?_; rintro e w' ⟨rfl, hbw0⟩; have hbw : Below wr.heap.size wr w' := below_undrew (B := wr.heap.size) hbw0; have o3 : w'.cell? ⟨wo.heap.size, 3, none⟩ = some (.slice (some ⟨g, 0, none⟩) 1 cap) := (hbw.cell (p := ⟨wo.heap.size, 3, none⟩) hs3).trans p3; have y0 : w'.cell? ⟨g, 0, none⟩ = some (.slice none 0 0) := (hbw.cell (p := ⟨g, 0, none⟩) hgw).trans i0; have y1 := (hbw.cell (p := ⟨g, 1, none⟩) hgw).trans i1; have y2 := (hbw.cell (p := ⟨g, 2, none⟩) hgw).trans i2; have y3 := (hbw.cell (p := ⟨g, 3, none⟩) hgw).trans i3; have y4 := (hbw.cell (p := ⟨g, 4, none⟩) hgw).trans i4; have x0 := (hbw.frozen (p := ⟨g, 0, none⟩) hgw).trans z0; have x1 := (hbw.frozen (p := ⟨g, 1, none⟩) hgw).trans z1; have x2 := (hbw.frozen (p := ⟨g, 2, none⟩) hgw).trans z2; have x3 := (hbw.frozen (p := ⟨g, 3, none⟩) hgw).trans z3; have x4 := (hbw.frozen (p := ⟨g, 4, none⟩) hgw).trans z4)
            all_goals
              go_wp2
              go_roundw
              case rel => exact ⟨1, by omega, by go_num, HB.out.next hbw⟩
              case measure => simp [intOf]
          · obtain rfl : j = 1 := by omega
            have hr : RowB wr g mB := hb.row
            obtain ⟨A0, c0, hv0⟩ := own_form HL.out.own.row
            rw [hkl] at hv0
            subst hv0
            have hown : wr.ownsRow (w.heap.size + 4) 45 4 (.slice A0 k c0) k css.flatten := by
              have h := (HL.out.own.below mono_flowG hb.below).row
              rw [hkl] at h
              exact h
            have hne : (Value.slice A0 k c0).ownBlock ≠ some (w.heap.size + 1 + 1) := fun e => by have := (HL.out.own.lt _ e).1; omega
            have b0 : wr.cell? ⟨wo.heap.size, 0, none⟩ = some (.string (fnName k)) := hb.flow.cell 0
            have b1 : wr.cell? ⟨wo.heap.size, 1, none⟩ = some (.int .i64 k) := hb.flow.cell 1
            have b2 : wr.cell? ⟨wo.heap.size, 2, none⟩ = some (.int .i64 10) := hb.flow.cell 2
            have hU := HL.out.unit.below hb.below HL.out.unit.lt
            have u1 : wr.cell? ⟨w.heap.size + 1 + 1, 1, none⟩ = some (.slice A0 k c0) := hU.cell 1
            have u2 : wr.frozen? ⟨w.heap.size + 1 + 1, 1, none⟩ = false := hU.frozen 1
            have hul : w.heap.size + 1 + 1 < wr.heap.size := hU.lt
            have hul3 : w.heap.size + 4 ≤ wr.heap.size := by have := HL.out.names.lt; have := hb.below.size; omega
            obtain ⟨z0, hi0, hz0, hz1, hz2⟩ := info_parts info_flow
            have HR := Lib.hid hr
            have HBB := Lib.hid hb.below
            clear hb hr HB hU
            go_wp2_with (first | (at_builtin; refine wpList_append_lies _ rfl _ _ _ rfl (w.heap.size + 4) 45 z0 _ 4 56 Tryz.underlying25 hi0 hz0 hz1 hz2 rfl (by decide) (.slice A0 k c0) k css.flatten rfl (hown.alloc _) ⟨wr.heap.size, 0, none⟩ 1 1 [.string (fnName k), .int .i64 k, .int .i64 10, .slice (some ⟨g, 0, none⟩) 1 cap] rfl rfl (World.news_of_block (cs := #[.string (fnName k), .int .i64 k, .int .i64 10, .slice (some ⟨g, 0, none⟩) 1 cap]) (t := 45) (fr := (0, 0)) (heap_alloc_new wr _)) (by simp [Value.oneCell']) (by decide) (by unfold maxLen; omega) (by omega) (by simp; omega) (wr.heap.size + 1) (by simp) ?_; intro g2 cap2 w1 hown1 hgrow hat hlt1; have o2 : w1.cell? ⟨w.heap.size + 1 + 1, 1, none⟩ = some (.slice A0 k c0) := (hgrow.cell_far _ (by simp; omega) (Ne.symm hne)).trans ((World.cell?_alloc_lt wr _ _ (by simp; omega)).trans u1); have f2 : w1.frozen? ⟨w.heap.size + 1 + 1, 1, none⟩ = false := (hgrow.frozen_far _ (by simp; omega) (Ne.symm hne)).trans ((World.frozen?_alloc_old wr _ _ (Nat.ne_of_lt (by simp; omega))).trans u2)))
            go_roundw
            case rel => exact ⟨k + 1, by omega, by go_num, _, _, _, HL.out.next HBB.out (Below.alloc (Below.refl _ _) (Nat.le_refl _) _) HR.out hgb hc1 hc2 hown1 hgrow (hat.imp id fun h => by simp [h])⟩
            case measure => simp [intOf]; omega
    · have d0 : decide ((k : Int) < 3) = false := decide_eq_false (by omega)
      have hk3 : k = 3 := by omega
      subst hk3
      obtain ⟨gf, cf, hv⟩ : ∃ gf cf, v = .slice (some ⟨gf, 0, none⟩) 3 cf := by
        rcases hl.own.row.2 with ⟨_, h0⟩ | ⟨g, cap, _, h, _⟩
        · omega
        · exact ⟨g, cap, by rw [hkl] at h; exact h⟩
      subst hv
      have u0 : wr.cell? ⟨w.heap.size + 1 + 1, 0, none⟩ = some (.slice (some ⟨w.heap.size + 1, 0, none⟩) 2 2) := hl.unit.cell 0
      have u1 : wr.cell? ⟨w.heap.size + 1 + 1, 1, none⟩ = some (.slice (some ⟨gf, 0, none⟩) 3 cf) := hl.unit.cell 1
      have q0 : wr.cell? ⟨w.heap.size, 0, none⟩ = some (.slice none 0 0) := hl.res.cell 0
      have q1 : wr.cell? ⟨w.heap.size, 1, none⟩ = some (.slice none 0 0) := hl.res.cell 1
      have z0 := hl.res.frozen 0
      have z1 := hl.res.frozen 1
      clear hl
      go_wp2
      have hl := HL.out
      have hfin : Blk ((wr.setCell ⟨w.heap.size, 0, none⟩ (.slice (some ⟨w.heap.size + 1, 0, none⟩) 2 2)).setCell ⟨w.heap.size, 1, none⟩ (.slice (some ⟨gf, 0, none⟩) 3 cf)) w.heap.size 27 #[.slice (some ⟨w.heap.size + 1, 0, none⟩) 2 2, .slice (some ⟨gf, 0, none⟩) 3 cf] := (hl.res.set_ 0 _).set_ 1 _
      refine bodyPost_ret (v := .agg #[.slice (some ⟨w.heap.size + 1, 0, none⟩) 2 2, .slice (some ⟨gf, 0, none⟩) 3 cf]) (results_cell_row (p := 2) (ty := 27) (by kernel_rfl) _ _ w.heap.size 27 _ (0, 0) _ rfl hfin Tryz.underlying27 rfl (by kernel_rfl)) rfl ?_
      have hne : ∀ i : Nat, ∀ b, (w.heap.size + 1 ≤ b ∧ b < wr.heap.size) → b ≠ (⟨w.heap.size, i, none⟩ : Addr).block := fun i b hb => by show b ≠ w.heap.size; omega
      have hkk : Keeps (fun b => w.heap.size + 1 ≤ b ∧ b < wr.heap.size) wr ((wr.setCell ⟨w.heap.size, 0, none⟩ (.slice (some ⟨w.heap.size + 1, 0, none⟩) 2 2)).setCell ⟨w.heap.size, 1, none⟩ (.slice (some ⟨gf, 0, none⟩) 3 cf)) := ((Keeps.refl _ _).set (hne 0) _).set (hne 1) _
      obtain ⟨⟨k0, g0⟩, ⟨k1, g1⟩, ⟨k2, g2⟩, hl3⟩ : ∃ p0 p1 p2, l = [p0, p1, p2] := by
        match l, hkl with
        | [a, b, c], _ => exact ⟨a, b, c, rfl⟩
      have hf := hl.fst
      have ha := hl.asc
      rw [hl3] at hf ha
      have hf' : [k0, k1, k2] = [0, 1, 2] := hf
      obtain ⟨rfl, rfl, rfl⟩ : k0 = 0 ∧ k1 = 1 ∧ k2 = 2 := by simpa using hf'
      have hown := hl.own
      rw [hl3] at hown
      have h := hown.keep mono_flowG (hkk.mono fun b hb => ⟨by omega, hb.2⟩) (by simp [World.setCell])
      refine ⟨gf, cf, g0, g1, g2, css, rfl, (hl.below.setCell (Nat.le_refl _) _).setCell (Nat.le_refl _) _, hl.arr.keep (hkk _ ⟨by omega, hl.arr.lt⟩), h, ?_, ?_⟩
      · exact (List.pairwise_cons.1 ha).1 (1, g1) (by simp)
      · exact (List.pairwise_cons.1 (List.pairwise_cons.1 ha).2).1 (2, g2) (by simp)
end Go.Proofs.YtnpnhdmfdhnmfaaGreatDoor
