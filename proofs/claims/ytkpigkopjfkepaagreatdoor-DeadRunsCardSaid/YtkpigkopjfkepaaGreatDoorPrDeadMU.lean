/- The tail of a round of FlowSteps' innermost loop: what is wanted ahead of an instruction. Printed by wip/gen_stepst.py. Rows of the call's own whose elements lead to blocks of a given kind. Between Dead in plain words and what its code calls. -/
import Derived.Test.YtkpigkopjfkepaaGreatDoorPrUMem
import Derived.Test.YtkpigkopjfkepaaGreatDoorPrFit
import Derived.Test.YtkpigkopjfkepaaGreatDoorPrSameA
import Derived.Test.YtkpigkopjfkepaaGreatDoorPrMore
import Derived.Test.YtkpigkopjfkepaaGreatDoorPrFlowAfter
import Derived.Deep.QuietTactic
import Derived.BigQuiet
import Derived.Deep.Upon
import Derived.Lib.SlFresh
import Derived.Deep.AppendLies
import Derived.Test.YtkpigkopjfkepaaGreatDoorPrFlowSm
import Derived.Test.YtkpigkopjfkepaaGreatDoorPrClones
import Derived.Test.YtkpigkopjfkepaaGreatDoorPrDelFn2
namespace Go.Proofs.YtkpigkopjfkepaaGreatDoor
open Go.ChangeShapes Go.WideShapes Go.ChangeAt Go.RowKit Go.Maps
theorem afterL_len (l : List LIns) (S : Int → Bool) : (afterL l S).length = l.length + 1 := by simp [afterL]
theorem afterL_get (l : List LIns) (S : Int → Bool) {j : Nat} (h : j < (afterL l S).length) : (afterL l S)[j] = riseL (stepsS (l.drop (j + 1)) S) := by simp [afterL]
end Go.Proofs.YtkpigkopjfkepaaGreatDoor
namespace Go.Proofs.YtkpigkopjfkepaaGreatDoor
open Go.RowKit
structure OwnX {α : Type} (w : World) (ok : Nat → Prop) (base : Nat) (T : TypeId) (sz : Nat) (R : World → (Nat → Prop) → List Value → α → Prop) (v : Value) (l : List α) (css : List (List Value)) : Prop where
 len : css.length = l.length
 each : ∀ cs ∈ css, cs.length = sz
 row : w.ownsRow base T sz v l.length css.flatten
 elems : ∀ (i : Nat) (h1 : i < css.length) (h2 : i < l.length), R w ok css[i] l[i]
 free : ∀ g, v.ownBlock = some g → ¬ ok g
section
variable {α : Type} {w w' : World} {ok ok' : Nat → Prop} {base : Nat} {T : TypeId} {sz : Nat} {R : World → (Nat → Prop) → List Value → α → Prop} {v : Value} {l : List α} {css : List (List Value)}
theorem OwnX.keep (hm : MonoR R) (h : OwnX w ok base T sz R v l css) (hrow : w'.ownsRow base T sz v l.length css.flatten) (hok : ∀ b, ok b → ok' b) (hk : Keeps ok w w') (hf : ∀ g, v.ownBlock = some g → ¬ ok' g) : OwnX w' ok' base T sz R v l css :=
 ⟨h.len, h.each, hrow, fun i h1 h2 => hm _ _ _ _ _ _ (h.elems i h1 h2) hok hk, hf⟩
theorem OwnX.grown (hm : MonoR R) (h : OwnX w ok base T sz R v l css) {row : Option Nat} (hg : w.grownBy w' row) (hne : ∀ g, v.ownBlock = some g → row ≠ some g) (hlt : ∀ b, ok b → b < w.heap.size) (hrow : ∀ b, ok b → row ≠ some b) (hok : ∀ b, ok b → ok' b) (hf : ∀ g, v.ownBlock = some g → ¬ ok' g) : OwnX w' ok' base T sz R v l css :=
 h.keep hm (h.row.kept hg (by
  cases e : v.ownBlock with
  | none => exact .inl rfl
  | some g => exact .inr (fun e2 => hne g e e2.symm))) hok (fun b hb => hg.block b (hlt b hb) (fun e => hrow b hb e.symm)) hf
theorem OwnX.below (hm : MonoR R) (h : OwnX w ok base T sz R v l css) (hb : Below w.heap.size w w') (hlt : ∀ b, ok b → b < w.heap.size) (hok : ∀ b, ok b → ok' b) (hf : ∀ g, v.ownBlock = some g → ¬ ok' g) : OwnX w' ok' base T sz R v l css :=
 h.grown hm (row := none) ⟨hb.os, hb.tape, hb.output, hb.size, fun k hk _ => hb.block k hk⟩ (fun _ _ e => by cases e) hlt (fun _ _ e => by cases e) hok hf
theorem OwnX.slr (hm : MonoR R) (h : OwnX w ok base T sz R v l css) (hok : ∀ b, ok b → ok' b) (hg : ∀ g, v.ownBlock = some g → ok' g) : SlR w ok' sz (R w ok') v l :=
 SlR.of_own h.row rfl h.len h.each (fun i h1 h2 => hm _ _ _ _ _ _ (h.elems i h1 h2) hok (Keeps.refl _ _)) hg
theorem OwnX.cell {g n cap i j : Nat} (h : OwnX w ok base T sz R (.slice (some ⟨g, 0, none⟩) n cap) l css) (hn : n = l.length) (hj : j < css.length) (hi : i < css[j].length) : w.cell? ⟨g, j * sz + i, none⟩ = some css[j][i] := by
 subst hn
 have hs : css[j].length = sz := h.each _ (List.getElem_mem _)
 have hl := h.len
 rw [h.row.cellAt (j * sz + i) (by
  have : (j + 1) * sz ≤ l.length * sz := Nat.mul_le_mul_right _ (by omega)
  rw [Nat.succ_mul] at this; omega)]
 exact flatten_get css h.each j i hj hi
theorem OwnX.cloned {w0 : World} {ok0 : Nat → Prop} (hm : MonoR R) (hrow : w'.ownsRow base T sz v l.length css.flatten) (hl : css.length = l.length) (hs : ∀ cs ∈ css, cs.length = sz) (hR : ∀ (i : Nat) (h1 : i < css.length) (h2 : i < l.length), R w0 ok0 css[i] l[i])
  (hk : Keeps ok0 w0 w') (hok : ∀ b, ok0 b → ok' b) (hf : ∀ g, v.ownBlock = some g → ¬ ok' g) : OwnX w' ok' base T sz R v l css :=
 ⟨hl, hs, hrow, fun i h1 h2 => hm _ _ _ _ _ _ (hR i h1 h2) hok hk, hf⟩
theorem OwnX.put_to {g n cap i j : Nat} {c : Value} {x : α} (hm : MonoR R) (h : OwnX w ok base T sz R (.slice (some ⟨g, 0, none⟩) n cap) l css) (hn : n = l.length) (hj : j < css.length) (hrow : w'.ownsRow base T sz (.slice (some ⟨g, 0, none⟩) n cap) n (css.set j (css[j].set i c)).flatten)
  (hk : Keeps ok w w') (hok : ∀ b, ok b → ok' b) (hg : ¬ ok' g) (hx : R w' ok' (css[j].set i c) x) :
  OwnX w' ok' base T sz R (.slice (some ⟨g, 0, none⟩) n cap) (l.set j x) (css.set j (css[j].set i c)) := by
 subst hn
 refine ⟨by simp [h.len], fun cs hcs => ?_, by rw [List.length_set]; exact hrow, fun a h1 h2 => ?_, fun b e => by have e' : g = b := (by simpa [Value.ownBlock] using e); rw [← e']; exact hg⟩
 ·rcases List.mem_or_eq_of_mem_set hcs with h1 | h1
  ·exact h.each cs h1
  ·rw [h1, List.length_set]; exact h.each _ (List.getElem_mem _)
 ·by_cases e : j = a
  ·subst e
   rw [List.getElem_set_self, List.getElem_set_self]
   exact hx
  ·rw [List.getElem_set_ne e, List.getElem_set_ne e]
   exact hm _ _ _ _ _ _ (h.elems a (by simpa using h1) (by simpa using h2)) hok hk
theorem OwnX.snoc {x : α} {cs : List Value} {v' : Value} (hm : MonoR R) (h : OwnX w ok base T sz R v l css) (hs : cs.length = sz) (hrow : w'.ownsRow base T sz v' (l.length + 1) (css.flatten ++ cs)) (hk : Keeps ok w w') (hok : ∀ b, ok b → ok' b) (hf : ∀ g, v'.ownBlock = some g → ¬ ok' g) (hx : R w' ok' cs x) :
  OwnX w' ok' base T sz R v' (l ++ [x]) (css ++ [cs]) := by
 refine ⟨by simp [h.len], fun c hc => ?_, by rw [List.length_append]; simpa using hrow, fun a h1 h2 => ?_, hf⟩
 ·rcases List.mem_append.1 hc with h1 | h1
  ·exact h.each c h1
  ·obtain rfl := List.mem_singleton.1 h1; exact hs
 ·by_cases e : a < css.length
  ·have e2 : a < l.length := by rw [← h.len]; exact e
   rw [List.getElem_append_left e, List.getElem_append_left e2]
   exact hm _ _ _ _ _ _ (h.elems a e e2) hok hk
  ·have e1 : a = css.length := by simp at h1; omega
   subst e1
   have hl := h.len
   rw [List.getElem_append_right (Nat.le_refl _), List.getElem_append_right (by omega)]
   simpa [hl] using hx
theorem OwnX.nil_ (w : World) (ok : Nat → Prop) (base : Nat) (T : TypeId) (sz : Nat) (R : World → (Nat → Prop) → List Value → α → Prop) : OwnX w ok base T sz R (.slice none 0 0) [] [] :=
 ⟨rfl, fun _ h => (by cases h), World.ownsRow_nil _ _ _ _, fun i h => (by cases h), fun g e => (by cases e)⟩
theorem own_some {w : World} {base : Nat} {T : TypeId} {sz n : Nat} {v : Value} {xs : List Value} (h : w.ownsRow base T sz v n xs) (hn : 0 < n) : ∃ g c, v = .slice (some ⟨g, 0, none⟩) n c ∧ base ≤ g ∧ g < w.heap.size ∧ n ≤ c := by
 rcases h.2 with ⟨_, h0⟩ | ⟨g, cap, cur, hv, hb, hg, hc, _⟩
 ·omega
 ·exact ⟨g, cap, hv, hb, (Array.getElem?_eq_some_iff.1 hg).1, hc⟩
end
theorem own_low {w : World} {base base' : Nat} {e : TypeId} {size : Nat} {v : Value} {n : Nat} {xs : List Value} (h : w.ownsRow base e size v n xs) (hb : base' ≤ base) : w.ownsRow base' e size v n xs := by
 refine ⟨h.1, ?_⟩
 rcases h.2 with h2 | ⟨g, cap, cur, h1, h2, h3⟩
 ·exact .inl h2
 ·exact .inr ⟨g, cap, cur, h1, by omega, h3⟩
theorem own_cell {w : World} {base g n cap sz : Nat} {T : TypeId} {xs : List Value} (h : w.ownsRow base T sz (.slice (some ⟨g, 0, none⟩) n cap) n xs) (j : Nat) (hj : j < n * sz) : ∃ u, w.cell? ⟨g, j, none⟩ = some u :=
 ⟨xs[j]'(by rw [h.1]; exact hj), by rw [h.cellAt j hj]; exact List.getElem?_eq_getElem _⟩
def okF (S0 xb fb : Nat) (X : World) (b : Nat) : Prop := (b < S0 ∧ b ≠ xb ∨ fb < b) ∧ b < X.heap.size
theorem okF_up {S0 xb fb : Nat} {X Y : World} (h : X.heap.size ≤ Y.heap.size) (b : Nat) (hb : okF S0 xb fb X b) : okF S0 xb fb Y b := ⟨hb.1, by have := hb.2; omega⟩
structure FlowAt (S0 xb fb : Nat) (X : World) (f : LFlow) (A : Option Addr) (c : Nat) : Prop where
 blk : Blk X fb 41 #[.string f.name, .int .i64 f.params, .int .i64 f.values, .slice A f.blocks.length c]
 row : SlR X (okF S0 xb fb X) 5 (RBlock X (okF S0 xb fb X)) (.slice A f.blocks.length c) f.blocks
section
variable {S0 xb fb : Nat} {X Y : World} {f : LFlow} {A : Option Addr} {c : Nat}
theorem FlowAt.lt (h : FlowAt S0 xb fb X f A c) : fb < X.heap.size := h.blk.lt
theorem FlowAt.below (h : FlowAt S0 xb fb X f A c) (hb : Below X.heap.size X Y) : FlowAt S0 xb fb Y f A c :=
 ⟨h.blk.below hb h.lt, h.row.imp (okF_up hb.size) (fun b h => hb.block b h.2) (fun _ _ _ r => r.imp (okF_up hb.size) (fun b h => hb.block b h.2))⟩
theorem FlowAt.all (h : FlowAt S0 xb fb X f A c) : SlR X (· < X.heap.size) 5 (RBlock X (· < X.heap.size)) (.slice A f.blocks.length c) f.blocks :=
 h.row.imp (fun _ h => h.2) (Keeps.refl _ _) (fun _ _ _ r => r.imp (fun _ h => h.2) (Keeps.refl _ _))
theorem FlowAt.cells (h : FlowAt S0 xb fb X f A c) : X.cell? ⟨fb, 0, none⟩ = some (.string f.name) ∧ X.cell? ⟨fb, 1, none⟩ = some (.int .i64 f.params) ∧ X.cell? ⟨fb, 2, none⟩ = some (.int .i64 f.values) ∧ X.cell? ⟨fb, 3, none⟩ = some (.slice A f.blocks.length c) :=
 ⟨h.blk.cell 0, h.blk.cell 1, h.blk.cell 2, h.blk.cell 3⟩
theorem FlowAt.store {bs : List LBlock} {A' : Option Addr} {c' : Nat} (h : FlowAt S0 xb fb X f A c) (hb : Y.heap[fb]? = X.heap[fb]?) (hs : SlR Y (okF S0 xb fb Y) 5 (RBlock Y (okF S0 xb fb Y)) (.slice A' bs.length c') bs) (hne : S0 ≤ fb) : FlowAt S0 xb fb (Y.setCell ⟨fb, 3, none⟩ (.slice A' bs.length c')) { f with blocks := bs } A' c' := by
 have hk : Keeps (okF S0 xb fb Y) Y (Y.setCell ⟨fb, 3, none⟩ (.slice A' bs.length c')) := (Keeps.refl _ _).set (fun b hb e => by have e' : b = fb := e; have := hb.1; omega) _
 have hz : (Y.setCell ⟨fb, 3, none⟩ (.slice A' bs.length c')).heap.size = Y.heap.size := by simp [World.setCell]
 exact ⟨(h.blk.keep hb).set_ 3 _, hs.imp (okF_up (by omega)) hk (fun _ _ _ r => r.imp (okF_up (by omega)) hk)⟩
end
end Go.Proofs.YtkpigkopjfkepaaGreatDoor
namespace Go.Proofs.YtkpigkopjfkepaaGreatDoor
open Go.RowKit
theorem args_ok {u : LUnit} (hu : UnitOk u) {vals : Int} {x : LIns} (h : insOk u vals x = true) : x.args.length ≤ 1000 := by
 by_cases h9 : x.kind = 9
 ·obtain ⟨g, hg, hl, _⟩ := (insK_of h).call h9
  have := flow_ok hu (List.mem_of_find?_eq_some hg)
  omega
 ·unfold insOk at h
  simp only [Bool.and_eq_true] at h
  have h := h.2
  unfold namedOk at h
  rw [if_neg h9] at h
  have h0 : x.args.length = 0 := by
   split at h
   ·simp only [Bool.and_eq_true, decide_eq_true_eq] at h; exact h.1
   ·simp only [Bool.and_eq_true, decide_eq_true_eq] at h; exact h.2
  omega
theorem good_unit {u : LUnit} (hu : UnitOk u) {f : LFlow} (hf : f ∈ u.flows) : GoodF f := fun b hb => by
 have h1 := block_ok hu hf hb
 have h2 := flow_ok hu hf
 refine ⟨(next_unit hu hf).2 b hb, fun k hk => ?_, fun x hx => ⟨fun n hn => ?_, fun n hn => ?_, args_ok hu (h1.2 x hx)⟩⟩
 ·have ht := termK_of h1.1
  unfold wantsL at hk
  split at hk
  ·rename_i h
   obtain rfl := List.mem_singleton.1 hk
   have := ht.a (by omega)
   exact decide_eq_true ⟨by omega, by omega⟩
  ·cases hk
 ·have hk := insK_of (h1.2 x hx)
  unfold usesL at hn
  simp only [List.mem_append] at hn
  rcases hn with (hn | hn) | hn
  ·split at hn
   ·rename_i h
    obtain rfl := List.mem_singleton.1 hn
    have := hk.a h
    exact decide_eq_true ⟨by omega, by omega⟩
   ·cases hn
  ·split at hn
   ·rename_i h
    obtain rfl := List.mem_singleton.1 hn
    have := hk.b h
    exact decide_eq_true ⟨by omega, by omega⟩
   ·cases hn
  ·split at hn
   ·rename_i h
    obtain ⟨_, _, _, hg⟩ := hk.call h
    have := hg n hn
    exact decide_eq_true ⟨by omega, by omega⟩
   ·cases hn
 ·have hk := insK_of (h1.2 x hx)
  unfold setsL at hn
  split at hn
  ·cases hn
  ·rename_i h
   obtain rfl := List.mem_singleton.1 hn
   have := hk.kind
   have := hk.d (by unfold hasD; exact decide_eq_true (by omega))
   exact decide_eq_true ⟨by omega, by omega⟩
theorem keep_sweep {S : Int → Bool} {q : Nat → Bool} : ∀ (l : List LIns) (i : Nat), (∀ j (h : j < l.length), q (i + j) = idleB (stepsS (l.drop (j + 1)) S) l[j]) → keepN q i l = sweepI S l
 | [], _, _ => rfl
 | x :: l, i, h => by
  have h0 := h 0 (by simp)
  have ih := keep_sweep (S := S) (q := q) l (i + 1) fun j hj => by
   have := h (j + 1) (by simpa using hj)
   rw [show i + 1 + j = i + (j + 1) by omega, this]
   simp
  have h0 : q i = idleB (stepsS l S) x := by simpa using h0
  show (if q i = true then _ else _) = if idleB (stepsS l S) x = true then _ else _
  rw [h0, ih]
theorem idle_same {S : Int → Bool} {x : LIns} (h : GoodIns x) : idleN (riseL S) x = idleB S x := by
 unfold idleN idleB
 by_cases hh : harmB x = true
 ·have hk : x.kind = 1 ∨ x.kind = 2 ∨ x.kind = 3 ∨ (x.kind = 4 ∧ x.op ≠ 4 ∧ x.op ≠ 5) := of_decide_eq_true hh
  have hp : placeP x.d = true := h.sets x.d (by unfold setsL; rw [if_neg (by omega)]; exact List.mem_singleton.2 rfl)
  have e : ((riseL S).any fun y => decide (y = x.d)) = S x.d := by
   rw [Bool.eq_iff_iff, List.any_eq_true]
   constructor
   ·rintro ⟨y, hy, hd⟩
    rw [← of_decide_eq_true hd]
    exact (mem_riseL.1 hy).2
   ·intro hs
    exact ⟨x.d, mem_riseL.2 ⟨hp, hs⟩, by simp⟩
  rw [e]
 ·have hf : harmB x = false := by simpa using hh
  rw [hf, Bool.false_and, Bool.false_and]
theorem keep_block {f : LFlow} {i : Nat} (hi : i < f.blocks.length) (hg : GoodF f) (hi2 : i < (allL f).length) : keepN (fun k => idleN ((allL f)[i].getD k []) (f.blocks[i].ins.getD k ⟨0, 0, 0, 0, 0, 0, ⟨#[]⟩, []⟩)) 0 f.blocks[i].ins = (sweepB (liveS f) f.blocks[i]).ins := by
 refine keep_sweep _ 0 fun j hj => ?_
 have e : (allL f)[i] = afterL f.blocks[i].ins (endS f.blocks[i].term (liveS f)) := by simp [allL]
 have hj2 : j < (afterL f.blocks[i].ins (endS f.blocks[i].term (liveS f))).length := by rw [afterL_len]; omega
 rw [Nat.zero_add, e]
 simp only [List.getD, List.getElem?_eq_getElem hj, List.getElem?_eq_getElem hj2, Option.getD_some, afterL_get]
 exact idle_same ((hg _ (List.getElem_mem hi)).ins _ (List.getElem_mem hj))
noncomputable def mixB (f : LFlow) (i : Nat) : List LBlock := (f.blocks.take i).map (sweepB (liveS f)) ++ f.blocks.drop i
theorem mixF_len (f : LFlow) {i : Nat} (h : i ≤ f.blocks.length) : (mixB f i).length = f.blocks.length := by
 unfold mixB; rw [List.length_append, List.length_map, List.length_take, List.length_drop]; omega
theorem mixF_zero (f : LFlow) : mixB f 0 = f.blocks := by simp [mixB]
theorem mixF_end (f : LFlow) : mixB f f.blocks.length = (sweepF f).blocks := by simp [mixB, sweepF]
theorem mixF_set {f : LFlow} {i : Nat} (h : i < f.blocks.length) : (mixB f i).set i (sweepB (liveS f) f.blocks[i]) = mixB f (i + 1) := by
 unfold mixB
 have hl : ((f.blocks.take i).map (sweepB (liveS f))).length = i := by rw [List.length_map, List.length_take]; omega
 rw [List.set_append_right _ _ (by omega), hl, Nat.sub_self, List.drop_eq_getElem_cons h, List.set_cons_zero, List.take_succ_eq_append_getElem h, List.map_append, List.append_assoc]
 rfl
theorem mixF_get {f : LFlow} {i : Nat} (h : i < f.blocks.length) : (mixB f i)[i]'(by rw [mixF_len f (by omega)]; exact h) = f.blocks[i] := by
 have hl : ((f.blocks.take i).map (sweepB (liveS f))).length = i := by rw [List.length_map, List.length_take]; omega
 unfold mixB
 rw [List.getElem_append_right (by omega)]
 simp only [hl, Nat.sub_self, List.getElem_drop, Nat.add_zero]
noncomputable def hadB (f : LFlow) (i : Nat) : Bool := decide (insCount ((f.blocks.take i).map (sweepB (liveS f))) < insCount (f.blocks.take i))
theorem had_zero (f : LFlow) : hadB f 0 = false := by simp [hadB, insCount]
theorem insCount_snoc (l : List LBlock) (b : LBlock) : insCount (l ++ [b]) = insCount l + b.ins.length := by simp [insCount]
theorem had_succ {f : LFlow} {i : Nat} (h : i < f.blocks.length) : hadB f (i + 1) = (hadB f i || decide ((sweepB (liveS f) f.blocks[i]).ins.length < f.blocks[i].ins.length)) := by
 have h1 := insCount_sweep (liveS f) (f.blocks.take i)
 have h2 : (sweepB (liveS f) f.blocks[i]).ins.length ≤ f.blocks[i].ins.length := sweepI_le _ _
 unfold hadB
 rw [List.take_succ_eq_append_getElem h, List.map_append, List.map_singleton, insCount_snoc, insCount_snoc]
 rw [Bool.eq_iff_iff]
 simp only [decide_eq_true_eq, Bool.or_eq_true]
 omega
theorem had_end (f : LFlow) : hadB f f.blocks.length = decide (insCount (sweepF f).blocks < insCount f.blocks) := by unfold hadB sweepF; rw [List.take_length]
noncomputable def comeTo (f : LFlow) (i : Nat) : List LBlock := ((List.range i).filter (comeB f)).filterMap fun k => f.blocks[k]?
theorem comeTo_zero (f : LFlow) : comeTo f 0 = [] := rfl
theorem comeTo_succ {f : LFlow} {i : Nat} (h : i < f.blocks.length) : comeTo f (i + 1) = if comeB f i = true then comeTo f i ++ [f.blocks[i]] else comeTo f i := by
 unfold comeTo
 rw [List.range_succ, List.filter_append, List.filterMap_append]
 by_cases hc : comeB f i = true
 ·rw [if_pos hc]; simp [List.filter, hc, List.getElem?_eq_getElem h]
 ·rw [if_neg hc]; simp [List.filter, hc]
theorem comeTo_len (f : LFlow) : ∀ {i : Nat}, i ≤ f.blocks.length → (comeTo f i).length = placeN f i
 | 0, _ => by rw [comeTo_zero, place_zero]; rfl
 | i + 1, h => by
  rw [comeTo_succ (by omega), place_succ]
  have ih := comeTo_len f (i := i) (by omega)
  by_cases hc : comeB f i = true
  ·rw [if_pos hc, if_pos hc, List.length_append, ih]; rfl
  ·rw [if_neg hc, if_neg hc, ih]; rfl
noncomputable def renTo (f : LFlow) (j : Nat) : List LBlock := ((comeL f).take j).map (renBlock (trimR f)) ++ (comeL f).drop j
theorem renTo_zero (f : LFlow) : renTo f 0 = comeL f := by simp [renTo]
theorem renTo_end (f : LFlow) : renTo f (comeL f).length = (trimF f).blocks := by simp [renTo, trimF]
theorem renTo_len (f : LFlow) {j : Nat} (h : j ≤ (comeL f).length) : (renTo f j).length = (comeL f).length := by
 unfold renTo; rw [List.length_append, List.length_map, List.length_take, List.length_drop]; omega
theorem renTo_set {f : LFlow} {j : Nat} (h : j < (comeL f).length) : (renTo f j).set j (renBlock (trimR f) (comeL f)[j]) = renTo f (j + 1) := by
 unfold renTo
 have hl : (((comeL f).take j).map (renBlock (trimR f))).length = j := by rw [List.length_map, List.length_take]; omega
 rw [List.set_append_right _ _ (by omega), hl, Nat.sub_self, List.drop_eq_getElem_cons h, List.set_cons_zero, List.take_succ_eq_append_getElem h, List.map_append, List.append_assoc]
 rfl
theorem renTo_get {f : LFlow} {j : Nat} (h : j < (comeL f).length) : (renTo f j)[j]'(by rw [renTo_len f (by omega)]; exact h) = (comeL f)[j] := by
 have hl : (((comeL f).take j).map (renBlock (trimR f))).length = j := by rw [List.length_map, List.length_take]; omega
 unfold renTo
 rw [List.getElem_append_right (by omega)]
 simp only [hl, Nat.sub_self, List.getElem_drop, Nat.add_zero]
theorem ren_mk {f : LFlow} (b : LBlock) {t : LTerm} (h : renTerm (trimR f) b.term = t) : renBlock (trimR f) b = ⟨b.ins, t⟩ := by
 have h1 := renB_ins (f := f) b
 have h2 : (renBlock (trimR f) b).term = t := h
 cases hr : renBlock (trimR f) b with
 | mk i2 t2 => rw [hr] at h1 h2; simp only at h1 h2; rw [h1, h2]
end Go.Proofs.YtkpigkopjfkepaaGreatDoor
