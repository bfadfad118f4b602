/- Words for Fit: the blocks that a function takes; rows of raw blocks, of blocks half of which are made; a store of a whole element into an own row. Literals in memory. -/
import Derived.Test.YtkpigkopjfkepaaGreatDoorPrFitBlock
namespace Go.Proofs.YtkpigkopjfkepaaGreatDoor
open Go.RowKit
def picks (raw : List LBlock) (k m : Nat) : List LBlock := (List.range m).filterMap fun t => raw[k + 3 * t]?
def orOne (l : List LBlock) : List LBlock := if l = [] then [noBlock] else l
def fitFl (raw : List LBlock) (k : Nat) : LFlow :=
 {name := fnName k, params := k, values := 10, blocks := (orOne (picks raw k 8)).map fun b => fitBlock b (orOne (picks raw k 8)).length }
def fitFlows (raw : List LBlock) (k : Nat) : List LFlow := (List.range k).map (fitFl raw)
def fitArrays : List (ByteArray × Int) := [(sA, 4), (sB, 10)]
def fitU (raw : List LBlock) : LUnit := { arrays := fitArrays, flows := fitFlows raw 3 }
theorem picks_succ {raw : List LBlock} {k m : Nat} (h : k + 3 * m < raw.length) : picks raw k (m + 1) = picks raw k m ++ [raw[k + 3 * m]] := by
 unfold picks
 rw [List.range_succ, List.filterMap_append]
 simp [List.getElem?_eq_getElem h]
theorem picks_len {raw : List LBlock} {k : Nat} : ∀ {m : Nat}, (m = 0 ∨ k + 3 * (m - 1) < raw.length) → (picks raw k m).length = m
 | 0, _ => rfl
 | m + 1, h => by
  have h1 : k + 3 * m < raw.length := by rcases h with h | h; · omega
                                         ·exact h
  rw [picks_succ h1, List.length_append, picks_len (m := m) (by omega)]; rfl
theorem picks_end {raw : List LBlock} {k m : Nat} (h : raw.length ≤ k + 3 * m) : ∀ n, picks raw k (m + n) = picks raw k m
 | 0 => rfl
 | n + 1 => by
  have : picks raw k (m + n + 1) = picks raw k (m + n) := by
   unfold picks
   rw [List.range_succ, List.filterMap_append]
   have : raw[k + 3 * (m + n)]? = none := List.getElem?_eq_none (by omega)
   simp [this]
  rw [← Nat.add_assoc, this, picks_end h n]
theorem picks_le (raw : List LBlock) (k m : Nat) : (picks raw k m).length ≤ m := by
 unfold picks
 exact Nat.le_trans (List.length_filterMap_le _ _) (by simp)
theorem picks_mem {raw : List LBlock} {k m : Nat} {x : LBlock} (h : x ∈ picks raw k m) : x ∈ raw := by
 unfold picks at h
 obtain ⟨t, _, ht⟩ := List.mem_filterMap.1 h
 exact List.mem_of_getElem? ht
def RRaw (w0 : World) : World → (Nat → Prop) → List Value → LBlock → Prop := fun _ _ cs x => RBlock w0 (· < w0.heap.size) cs x
theorem mono_raw (w0 : World) : MonoR (RRaw w0) := fun _ _ _ _ _ _ h _ _ => h
def RMix (w0 : World) : World → (Nat → Prop) → List Value → Bool × LBlock → Prop := fun w ok cs x => if x.1 = true then RBlock w ok cs x.2 else RBlock w0 (· < w0.heap.size) cs x.2
theorem mono_mix (w0 : World) : MonoR (RMix w0) := fun _ _ _ _ _ _ h a b => by
 unfold RMix at *
 split
 ·rename_i e; rw [if_pos e] at h; exact h.imp a b
 ·rename_i e; rw [if_neg e] at h; exact h
theorem set_flatten {sz : Nat} {c : Value} {i : Nat} : ∀ {css : List (List Value)}, (∀ cs ∈ css, cs.length = sz) → ∀ {j : Nat} (hj : j < css.length), i < sz → css.flatten.set (j * sz + i) c = (css.set j (css[j].set i c)).flatten
 | [], _, j, hj, _ => by simp at hj
 | a :: r, hall, 0, _, hi => by
  have ha : a.length = sz := hall a (by simp)
  simp only [List.flatten_cons, List.set_cons_zero, List.getElem_cons_zero, Nat.zero_mul, Nat.zero_add]
  rw [List.set_append_left _ _ (by omega)]
 | a :: r, hall, j + 1, hj, hi => by
  have ha : a.length = sz := hall a (by simp)
  have e : (j + 1) * sz + i = a.length + (j * sz + i) := by rw [ha, Nat.succ_mul]; omega
  simp only [List.flatten_cons, List.set_cons_succ, List.getElem_cons_succ]
  rw [e, List.set_append_right _ _ (by omega), Nat.add_sub_cancel_left, set_flatten (fun cs h => hall cs (by simp [h])) (by simpa using hj) hi]
theorem OwnL.put1 {α : Type} {w : World} {base : Nat} {T : TypeId} {sz n g cap : Nat} {css : List (List Value)} (hrow : w.ownsRow base T sz (.slice (some ⟨g, 0, none⟩) n cap) n css.flatten)
  (hall : ∀ cs ∈ css, cs.length = sz) {j i : Nat} (hj : j < css.length) (hi : i < sz) (c : Value) (_ : α) :
  (w.setCell ⟨g, j * sz + i, none⟩ c).ownsRow base T sz (.slice (some ⟨g, 0, none⟩) n cap) n (css.set j (css[j].set i c)).flatten := by
 have h := (hrow.stored (j * sz + i) c).1
 rw [set_flatten hall hj hi] at h
 exact h
theorem OwnL.put5 {α : Type} {w : World} {base : Nat} {T : TypeId} {R : World → (Nat → Prop) → List Value → α → Prop} {l : List α} {css : List (List Value)} {g cap : Nat} {x : α} {c0 c1 c2 c3 c4 : Value} {j : Nat} (hm : MonoR R)
  (h : OwnL w base T 5 R (.slice (some ⟨g, 0, none⟩) l.length cap) l css) (hj : j < l.length) (hx : R w (okOwn base w (.slice (some ⟨g, 0, none⟩) l.length cap)) [c0, c1, c2, c3, c4] x) :
  OwnL (((((w.setCell ⟨g, j * 5, none⟩ c0).setCell ⟨g, j * 5 + 1, none⟩ c1).setCell ⟨g, j * 5 + 2, none⟩ c2).setCell ⟨g, j * 5 + 3, none⟩ c3).setCell ⟨g, j * 5 + 4, none⟩ c4)
   base T 5 R (.slice (some ⟨g, 0, none⟩) l.length cap) (l.set j x) (css.set j [c0, c1, c2, c3, c4]) := by
 have hjc : j < css.length := by rw [h.len]; exact hj
 have hl5 : css[j].length = 5 := h.each _ (List.getElem_mem _)
 have e1 : ∀ (css : List (List Value)), (∀ cs ∈ css, cs.length = 5) → ∀ j (hj : j < css.length) (cs : List Value), cs.length = 5 → ∀ c ∈ css.set j cs, c.length = 5 := by
  intro css hall j hj cs hcs c hc
  rcases List.mem_or_eq_of_mem_set hc with hc | hc
  ·exact hall c hc
  ·rw [hc]; exact hcs
 have step : ∀ (w : World) (css : List (List Value)) (hall : ∀ cs ∈ css, cs.length = 5) (hrow : w.ownsRow base T 5 (.slice (some ⟨g, 0, none⟩) l.length cap) l.length css.flatten) (hj : j < css.length) (i : Nat) (hi : i < 5) (c : Value),
   (w.setCell ⟨g, j * 5 + i, none⟩ c).ownsRow base T 5 (.slice (some ⟨g, 0, none⟩) l.length cap) l.length (css.set j (css[j].set i c)).flatten :=
  fun w css hall hrow hj i hi c => OwnL.put1 hrow hall hj hi c x
 obtain ⟨d0, d1, d2, d3, d4, hd⟩ : ∃ d0 d1 d2 d3 d4, css[j] = [d0, d1, d2, d3, d4] := by
  match css[j], hl5 with
  | [d0, d1, d2, d3, d4], _ => exact ⟨_, _, _, _, _, rfl⟩
 have s0 := step w css h.each h.row hjc 0 (by decide) c0
 simp only [hd, List.set_cons_zero, Nat.add_zero] at s0
 have s1 := step _ _ (e1 css h.each j hjc _ rfl) s0 (by simpa using hjc) 1 (by decide) c1
 simp only [List.getElem_set_self, List.set_set, List.set_cons_succ, List.set_cons_zero] at s1
 have s2 := step _ _ (e1 css h.each j hjc _ rfl) s1 (by simpa using hjc) 2 (by decide) c2
 simp only [List.getElem_set_self, List.set_set, List.set_cons_succ, List.set_cons_zero] at s2
 have s3 := step _ _ (e1 css h.each j hjc _ rfl) s2 (by simpa using hjc) 3 (by decide) c3
 simp only [List.getElem_set_self, List.set_set, List.set_cons_succ, List.set_cons_zero] at s3
 have s4 := step _ _ (e1 css h.each j hjc _ rfl) s3 (by simpa using hjc) 4 (by decide) c4
 simp only [List.getElem_set_self, List.set_set, List.set_cons_succ, List.set_cons_zero] at s4
 have hg : ∀ i b, b ≠ g → b ≠ (⟨g, i, none⟩ : Addr).block := fun _ _ h => h
 have hk : Keeps (fun b => b ≠ g) w (((((w.setCell ⟨g, j * 5, none⟩ c0).setCell ⟨g, j * 5 + 1, none⟩ c1).setCell ⟨g, j * 5 + 2, none⟩ c2).setCell ⟨g, j * 5 + 3, none⟩ c3).setCell ⟨g, j * 5 + 4, none⟩ c4) :=
  (((((Keeps.refl _ _).set (hg (j * 5)) _).set (hg (j * 5 + 1)) _).set (hg (j * 5 + 2)) _).set (hg (j * 5 + 3)) _).set (hg (j * 5 + 4)) _
 have hok : ∀ b, okOwn base w (.slice (some ⟨g, 0, none⟩) l.length cap) b → okOwn base (((((w.setCell ⟨g, j * 5, none⟩ c0).setCell ⟨g, j * 5 + 1, none⟩ c1).setCell ⟨g, j * 5 + 2, none⟩ c2).setCell ⟨g, j * 5 + 3, none⟩ c3).setCell ⟨g, j * 5 + 4, none⟩ c4) (.slice (some ⟨g, 0, none⟩) l.length cap) b :=
  fun b hb => ⟨hb.1, by simp only [World.setCell, Array.size_modify]; exact hb.2.1, hb.2.2⟩
 have hk' : Keeps (okOwn base w (.slice (some ⟨g, 0, none⟩) l.length cap)) w (((((w.setCell ⟨g, j * 5, none⟩ c0).setCell ⟨g, j * 5 + 1, none⟩ c1).setCell ⟨g, j * 5 + 2, none⟩ c2).setCell ⟨g, j * 5 + 3, none⟩ c3).setCell ⟨g, j * 5 + 4, none⟩ c4) :=
  hk.mono fun b hb e => hb.2.2 (by rw [e]; rfl)
 refine ⟨by simp [h.len], e1 css h.each j hjc _ rfl, by rw [List.length_set]; exact s4, ?_⟩
 intro i h1 h2
 by_cases hij : j = i
 ·subst hij
  rw [List.getElem_set_self, List.getElem_set_self]
  exact hm _ _ _ _ _ _ hx hok hk'
 ·rw [List.getElem_set_ne hij, List.getElem_set_ne hij]
  exact hm _ _ _ _ _ _ (h.elems i (by simpa using h1) (by simpa using h2)) hok hk'
theorem OwnL.change {α β : Type} {w : World} {base : Nat} {T : TypeId} {sz : Nat} {R : World → (Nat → Prop) → List Value → α → Prop} {S : World → (Nat → Prop) → List Value → β → Prop} {v : Value} {l : List α} {m : List β} {css : List (List Value)}
  (h : OwnL w base T sz R v l css) (hl : l.length = m.length) (hx : ∀ (i : Nat) (h1 : i < l.length) (h2 : i < m.length) (cs : List Value), R w (okOwn base w v) cs l[i] → S w (okOwn base w v) cs m[i]) : OwnL w base T sz S v m css :=
 ⟨h.len.trans hl, h.each, by rw [← hl]; exact h.row, fun i h1 h2 => hx i (by omega) h2 _ (h.elems i h1 (by omega))⟩
end Go.Proofs.YtkpigkopjfkepaaGreatDoor
namespace Go.Proofs.YtkpigkopjfkepaaGreatDoor
open Go.RowKit
def AllR {α : Type} (sz : Nat) (R : List Value → α → Prop) : List (List Value) → List α → Prop
 | [], [] => True
 | c :: cs, x :: xs => (c.length = sz ∧ R c x) ∧ AllR sz R cs xs
 | _, _ => False
theorem AllR.at_ {α : Type} {sz : Nat} {R : List Value → α → Prop} : ∀ {css : List (List Value)} {l : List α}, AllR sz R css l → css.length = l.length ∧ ∀ (i : Nat) (h1 : i < css.length) (h2 : i < l.length), css[i].length = sz ∧ R css[i] l[i]
 | [], [], _ => ⟨rfl, fun i h => absurd h (by simp)⟩
 | c :: cs, x :: xs, h => by
  obtain ⟨h1, h2⟩ := AllR.at_ h.2
  refine ⟨by simp [h1], fun i hi hi2 => ?_⟩
  cases i with
  | zero => exact h.1
  | succ i => exact h2 i (by simpa using hi) (by simpa using hi2)
 | [], _ :: _, h => h.elim
 | _ :: _, [], h => h.elim
theorem flat_at {sz : Nat} : ∀ (css : List (List Value)), (∀ cs ∈ css, cs.length = sz) → ∀ (i j : Nat) (hi : i < css.length) (hj : j < (css[i]).length), css.flatten[i * sz + j]? = some (css[i])[j] := by
 intro css
 induction css with
 | nil => intro _ i j hi; simp at hi
 | cons c r ih =>
  intro hall i j hi hj
  have hc : c.length = sz := hall c (by simp)
  rw [List.flatten_cons]
  match i, hi, hj with
  | 0, _, hj =>
   have hj' : j < c.length := hj
   rw [Nat.zero_mul, Nat.zero_add, List.getElem?_append_left hj']
   exact List.getElem?_eq_getElem hj'
  | i + 1, hi, hj =>
   have e1 : (i + 1) * sz + j = c.length + (i * sz + j) := by rw [hc, Nat.succ_mul]; omega
   rw [e1, List.getElem?_append_right (by omega), Nat.add_sub_cancel_left]
   exact ih (fun cs hcs => hall cs (by simp [hcs])) i j (by simpa using hi) hj
theorem SlR.lit {α : Type} {W : World} {ok : Nat → Prop} {g : Nat} {t : TypeId} {cs : Array Value} {sz : Nat} {R : List Value → α → Prop} {l : List α} (css : List (List Value)) {n : Nat} (h : Blk W g t cs) (hcs : cs = css.flatten.toArray) (ha : AllR sz R css l) (hn : n = l.length) (hok : ok g) (hl : n ≤ 1000) :
  SlR W ok sz R (.slice (some ⟨g, 0, none⟩) n n) l := by
 obtain ⟨h1, h2⟩ := ha.at_
 subst hn hcs
 refine ⟨_, _, rfl, Nat.le_refl _, by unfold maxLen; omega, .inr ⟨g, 0, rfl, hok, fun i hi => ?_⟩⟩
 have hi' : i < css.length := by omega
 obtain ⟨h3, h4⟩ := h2 i hi' hi
 refine ⟨css[i], h3, h4, fun j hj => ?_⟩
 have hall : ∀ cs ∈ css, cs.length = sz := fun c hc => by
  obtain ⟨q, hq, rfl⟩ := List.getElem_of_mem hc
  exact (h2 q hq (by omega)).1
 rw [Nat.zero_add, h.cell, List.getElem?_toArray]
 exact flat_at css hall i j hi' hj
end Go.Proofs.YtkpigkopjfkepaaGreatDoor
