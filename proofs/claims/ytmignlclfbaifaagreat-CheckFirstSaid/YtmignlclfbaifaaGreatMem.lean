/- How the program's data lie in memory: rows of cells, slices that read as lists, the structures of a unit. No walk in sight. -/
import Derived.WalkKit
import Derived.WalkSpells
namespace Go.Proofs.YtmignlclfbaifaaGreat
open Go.RowKit

/-- from off on, block b holds the values vs -/
def Cells (w : World) (b off : Nat) (vs : List Value) : Prop := ∀ (j : Nat) (h : j < vs.length), w.cell? ⟨b, off + j, none⟩ = some vs[j]

/-- what lies in the blocks that 'ok' lets is as it was -/
def Keeps (ok : Nat → Prop) (w w' : World) : Prop := ∀ b, ok b → w'.heap[b]? = w.heap[b]?

theorem Keeps.refl (ok : Nat → Prop) (w : World) : Keeps ok w w := fun _ _ => rfl
theorem Keeps.trans {ok : Nat → Prop} {a b c : World} (h : Keeps ok a b) (k : Keeps ok b c) : Keeps ok a c := fun i hi => (k i hi).trans (h i hi)
theorem Keeps.mono {ok ok' : Nat → Prop} {w w' : World} (h : Keeps ok w w') (hs : ∀ b, ok' b → ok b) : Keeps ok' w w' := fun b hb => h b (hs b hb)
theorem Keeps.set {ok : Nat → Prop} {w w' : World} (h : Keeps ok w w') {p : Addr} (hne : ∀ b, ok b → b ≠ p.block) (u : Value) : Keeps ok w (w'.setCell p u) := fun b hb => (Below.heap_setCell w' p u b (hne b hb)).trans (h b hb)
theorem Keeps.of_below {B : Nat} {w w' : World} (h : Below B w w') : Keeps (· < B) w w' := fun b hb => h.block b hb

theorem Cells.keep {w w' : World} {b off : Nat} {vs : List Value} (h : Cells w b off vs) (hk : w'.heap[b]? = w.heap[b]?) : Cells w' b off vs := fun j hj => by
  rw [World.cell?_of_block (w := w) (w' := w') (a := ⟨b, off + j, none⟩) hk]; exact h j hj
theorem Cells.lt {w : World} {b off : Nat} {vs : List Value} (h : Cells w b off vs) (hv : 0 < vs.length) : b < w.heap.size := World.block_lt_of_cell? w _ (h 0 hv)
theorem Cells.at_ {w : World} {b off : Nat} {vs : List Value} (h : Cells w b off vs) {j : Nat} {v : Value} (hj : vs[j]? = some v) : w.cell? ⟨b, off + j, none⟩ = some v := by
  obtain ⟨h1, h2⟩ := List.getElem?_eq_some_iff.1 hj
  rw [h j h1, h2]

/-- A slice's value that reads as a list: each element lies in 'sz' cells that R lets stand for it; its block is one that 'ok' lets. -/
def SlR {α : Type} (w : World) (ok : Nat → Prop) (sz : Nat) (R : List Value → α → Prop) (v : Value) (l : List α) : Prop :=
  ∃ A c, v = .slice A l.length c ∧ l.length ≤ c ∧ c ≤ maxLen ∧
    (l = [] ∨ ∃ b off, A = some ⟨b, off, none⟩ ∧ ok b ∧ ∀ (i : Nat) (h : i < l.length), ∃ cs, cs.length = sz ∧ R cs l[i] ∧ Cells w b (off + i * sz) cs)

section
variable {α : Type} {w w' : World} {ok ok' : Nat → Prop} {sz : Nat} {R R' : List Value → α → Prop} {v : Value} {l : List α}

theorem SlR.imp (h : SlR w ok sz R v l) (hok : ∀ b, ok b → ok' b) (hk : Keeps ok w w') (hR : ∀ cs x, x ∈ l → R cs x → R' cs x) : SlR w' ok' sz R' v l := by
  obtain ⟨A, c, hv, h1, h2, h3⟩ := h
  refine ⟨A, c, hv, h1, h2, ?_⟩
  rcases h3 with h3 | ⟨b, off, hA, hb, hi⟩
  · exact .inl h3
  · refine .inr ⟨b, off, hA, hok b hb, fun i hl => ?_⟩
    obtain ⟨cs, hl', hr, hc⟩ := hi i hl
    exact ⟨cs, hl', hR _ _ (List.getElem_mem _) hr, hc.keep (hk b hb)⟩

theorem SlR.nil_ (w : World) (ok : Nat → Prop) (sz : Nat) (R : List Value → α → Prop) : SlR w ok sz R (.slice none 0 0) [] :=
  ⟨none, 0, rfl, Nat.le_refl _, by simp, .inl rfl⟩

theorem SlR.len_le (h : SlR w ok sz R v l) : l.length ≤ maxLen := by
  obtain ⟨_, c, _, h1, h2, _⟩ := h; omega

/-- the value written out, where there is an element -/
theorem SlR.form (h : SlR w ok sz R v l) (hl : 0 < l.length) : ∃ b off c, v = .slice (some ⟨b, off, none⟩) l.length c ∧ l.length ≤ c ∧ c ≤ maxLen ∧ ok b ∧
    ∀ (i : Nat) (h : i < l.length), ∃ cs, cs.length = sz ∧ R cs l[i] ∧ Cells w b (off + i * sz) cs := by
  obtain ⟨A, c, hv, h1, h2, h3⟩ := h
  rcases h3 with rfl | ⟨b, off, rfl, hb, hi⟩
  · simp at hl
  · exact ⟨b, off, c, hv, h1, h2, hb, hi⟩

/-- the value written out, whatever it is -/
theorem SlR.val (h : SlR w ok sz R v l) : ∃ A c, v = .slice A l.length c ∧ l.length ≤ c ∧ c ≤ maxLen := by
  obtain ⟨A, c, hv, h1, h2, _⟩ := h
  exact ⟨A, c, hv, h1, h2⟩
end

/-! ### what stands for what -/
def RInt (cs : List Value) (n : Int) : Prop := cs = [.int .i64 n]
def RStr (cs : List Value) (s : ByteArray) : Prop := cs = [.string s]

/-- an instruction, an end, a block, a function, a unit -/
structure LIns where
  kind : Int
  d : Int
  a : Int
  b : Int
  op : Int
  n : Int
  name : ByteArray
  args : List Int
structure LTerm where
  kind : Int
  a : Int
  to : Int
  els : Int
structure LBlock where
  ins : List LIns
  term : LTerm
structure LFlow where
  name : ByteArray
  params : Int
  values : Int
  blocks : List LBlock
structure LUnit where
  arrays : List (ByteArray × Int)
  flows : List LFlow

def insCells (x : LIns) (va : Value) : List Value := [.int .i64 x.kind, .int .i64 x.d, .int .i64 x.a, .int .i64 x.b, .int .i64 x.op, .int .i64 x.n, .string x.name, va]
def termCells (t : LTerm) : List Value := [.int .i64 t.kind, .int .i64 t.a, .int .i64 t.to, .int .i64 t.els]
def RIns (w : World) (ok : Nat → Prop) (cs : List Value) (x : LIns) : Prop := ∃ va, cs = insCells x va ∧ SlR w ok 1 RInt va x.args
def RBlock (w : World) (ok : Nat → Prop) (cs : List Value) (x : LBlock) : Prop := ∃ vi, cs = vi :: termCells x.term ∧ SlR w ok 8 (RIns w ok) vi x.ins
def RFlow (w : World) (ok : Nat → Prop) (cs : List Value) (f : LFlow) : Prop :=
  ∃ vb, cs = [.string f.name, .int .i64 f.params, .int .i64 f.values, vb] ∧ SlR w ok 5 (RBlock w ok) vb f.blocks
def RArr (cs : List Value) (a : ByteArray × Int) : Prop := cs = [.string a.1, .int .i64 a.2]
def RUnit (w : World) (ok : Nat → Prop) (cs : List Value) (u : LUnit) : Prop :=
  ∃ va vf, cs = [va, vf] ∧ SlR w ok 2 RArr va u.arrays ∧ SlR w ok 4 (RFlow w ok) vf u.flows

section
variable {w w' : World} {ok ok' : Nat → Prop} {cs : List Value}
theorem RIns.imp {x : LIns} (h : RIns w ok cs x) (hok : ∀ b, ok b → ok' b) (hk : Keeps ok w w') : RIns w' ok' cs x := by
  obtain ⟨va, e, h1⟩ := h
  exact ⟨va, e, h1.imp hok hk fun _ _ _ r => r⟩
theorem RBlock.imp {x : LBlock} (h : RBlock w ok cs x) (hok : ∀ b, ok b → ok' b) (hk : Keeps ok w w') : RBlock w' ok' cs x := by
  obtain ⟨vi, e, h1⟩ := h
  exact ⟨vi, e, h1.imp hok hk fun _ _ _ r => r.imp hok hk⟩
theorem RFlow.imp {x : LFlow} (h : RFlow w ok cs x) (hok : ∀ b, ok b → ok' b) (hk : Keeps ok w w') : RFlow w' ok' cs x := by
  obtain ⟨vb, e, h1⟩ := h
  exact ⟨vb, e, h1.imp hok hk fun _ _ _ r => r.imp hok hk⟩
theorem RUnit.imp {x : LUnit} (h : RUnit w ok cs x) (hok : ∀ b, ok b → ok' b) (hk : Keeps ok w w') : RUnit w' ok' cs x := by
  obtain ⟨va, vf, e, h1, h2⟩ := h
  exact ⟨va, vf, e, h1.imp hok hk fun _ _ _ r => r, h2.imp hok hk fun _ _ _ r => r.imp hok hk⟩
end

/-! ### blocks that are known whole -/
/-- block g is just these cells, none of them frozen -/
def Blk (w : World) (g : Nat) (t : TypeId) (cs : Array Value) : Prop := w.heap[g]? = some (.cells cs t (0, 0))
section
variable {w w' : World} {g : Nat} {t : TypeId} {cs : Array Value}
theorem Blk.lt (h : Blk w g t cs) : g < w.heap.size := by
  by_cases hlt : g < w.heap.size
  · exact hlt
  · unfold Blk at h; rw [Array.getElem?_eq_none (by omega)] at h; cases h
theorem Blk.cell (h : Blk w g t cs) (i : Nat) : w.cell? ⟨g, i, none⟩ = cs[i]? := cell_of_row w g i cs t (0, 0) h
theorem Blk.frozen (h : Blk w g t cs) (i : Nat) : w.frozen? ⟨g, i, none⟩ = false := by
  unfold Blk at h
  simp [World.frozen?, h]
theorem Blk.new (w : World) (t : TypeId) (cs : Array Value) : Blk (w.alloc (.cells cs t)) w.heap.size t cs := heap_alloc_new w _
theorem Blk.new_at (w : World) (t : TypeId) (cs : Array Value) {n : Nat} (hn : n = w.heap.size) : Blk (w.alloc (.cells cs t)) n t cs := by subst hn; exact Blk.new w t cs
theorem Blk.drew (h : Blk w g t cs) : Blk w.drew g t cs := h
theorem Blk.alloc (h : Blk w g t cs) (o : Obj) : Blk (w.alloc o) g t cs := (Below.heap_alloc w o g h.lt).trans h
theorem Blk.set_ (h : Blk w g t cs) (i : Nat) (u : Value) : Blk (w.setCell ⟨g, i, none⟩ u) g t (cs.setIfInBounds i u) := by
  unfold Blk at h ⊢
  simp [World.setCell, Array.getElem?_modify, h]
theorem Blk.far (h : Blk w g t cs) {p : Addr} (hp : g ≠ p.block) (u : Value) : Blk (w.setCell p u) g t cs := (Below.heap_setCell w p u g hp).trans h
theorem Blk.below {B : Nat} (h : Blk w g t cs) (hb : Below B w w') (hg : g < B) : Blk w' g t cs := (hb.block g hg).trans h
theorem Blk.grown {row : Option Nat} (h : Blk w g t cs) (hb : w.grownBy w' row) (hg : row ≠ some g) : Blk w' g t cs := (hb.block g h.lt (fun e => hg e.symm)).trans h
theorem Blk.keep (h : Blk w g t cs) (hk : w'.heap[g]? = w.heap[g]?) : Blk w' g t cs := hk.trans h
end

theorem own_form {w : World} {base : Nat} {e : TypeId} {size : Nat} {v : Value} {n : Nat} {xs : List Value} (h : w.ownsRow base e size v n xs) : ∃ A c, v = .slice A n c := by
  rcases h.2 with ⟨rfl, rfl⟩ | ⟨g, cap, cur, rfl, _⟩
  · exact ⟨_, _, rfl⟩
  · exact ⟨_, _, rfl⟩
theorem grown_undrew {w w' : World} {row : Option Nat} (h : w.drew.grownBy w' row) : w.grownBy w' row := ⟨h.os, h.tape, h.output, h.size, h.block⟩

/-- An owned row reads as the list of its cells. -/
theorem Cells.of_own {w : World} {base : Nat} {e : TypeId} {size : Nat} {v : Value} {n : Nat} {xs : List Value} (h : w.ownsRow base e size v n xs) {g c : Nat} (hv : v = .slice (some ⟨g, 0, none⟩) n c) : Cells w g 0 xs := by
  subst hv
  intro j hj
  have hadd : (⟨g, 0, none⟩ : Addr).add j = ⟨g, 0 + j, none⟩ := by unfold Addr.add; split <;> simp_all
  have := h.cells (g := g) rfl j xs[j] (List.getElem?_eq_getElem hj)
  rw [hadd] at this
  exact this

/-- An owned row of elements of sz cells each, as a slice that reads as a list. -/
theorem SlR.of_own {α : Type} {w : World} {base : Nat} {e : TypeId} {sz : Nat} {v : Value} {n : Nat} {l : List α} {css : List (List Value)} {ok : Nat → Prop} {R : List Value → α → Prop}
    (h : w.ownsRow base e sz v n css.flatten) (hn : n = l.length) (hl : css.length = l.length) (hsz : ∀ cs ∈ css, cs.length = sz)
    (hR : ∀ (i : Nat) (h1 : i < css.length) (h2 : i < l.length), R css[i] l[i]) (hok : ∀ g, v.ownBlock = some g → ok g) : SlR w ok sz R v l := by
  subst hn
  rcases h.2 with ⟨rfl, h0⟩ | ⟨g, cap, cur, rfl, hb, hg, hnc, hcm, hcs, htake⟩
  · obtain rfl : l = [] := List.eq_nil_of_length_eq_zero h0
    exact SlR.nil_ _ _ _ _
  · refine ⟨some ⟨g, 0, none⟩, cap, rfl, hnc, hcm, .inr ⟨g, 0, rfl, hok g rfl, fun i hi => ?_⟩⟩
    have hi' : i < css.length := by omega
    refine ⟨css[i], hsz _ (List.getElem_mem _), hR i hi' hi, ?_⟩
    have hC := Cells.of_own h (g := g) (c := cap) rfl
    intro j hj
    have hs : css[i].length = sz := hsz _ (List.getElem_mem _)
    have key : ∀ (css : List (List Value)), (∀ cs ∈ css, cs.length = sz) → ∀ (i j : Nat) (hi : i < css.length) (hj : j < (css[i]).length), css.flatten[i * sz + j]? = some (css[i])[j] := by
      intro css
      induction css with
      | nil => intro _ i j hi; simp at hi
      | cons c r ih =>
        intro hall i j hi hj
        have hc : c.length = sz := hall c (by simp)
        rw [List.flatten_cons]
        match i, hi, hj with
        | 0, _, hj =>
          have hj' : j < c.length := hj
          rw [Nat.zero_mul, Nat.zero_add, List.getElem?_append_left hj']
          exact List.getElem?_eq_getElem hj'
        | i + 1, hi, hj =>
          have e1 : (i + 1) * sz + j = c.length + (i * sz + j) := by rw [hc, Nat.succ_mul]; omega
          rw [e1, List.getElem?_append_right (by omega), Nat.add_sub_cancel_left]
          exact ih (fun cs hcs => hall cs (by simp [hcs])) i j (by simpa using hi) hj
    have hk := key css hsz i j hi' hj
    have := hC.at_ hk
    rw [Nat.zero_add] at this ⊢
    exact this

theorem flatten_single {α : Type} (l : List α) : (l.map fun x => [x]).flatten = l := by
  induction l with
  | nil => rfl
  | cons a r ih => simp only [List.map_cons, List.flatten_cons, List.singleton_append, ih]
/-- an owned row of numbers reads as the list of them -/
theorem ints_of_own {w : World} {base : Nat} {e : TypeId} {v : Value} {n : Nat} {l : List Int} {ok : Nat → Prop} (h : w.ownsRow base e 1 v n (l.map fun i => .int .i64 i)) (hok : ∀ g, v.ownBlock = some g → ok g) : SlR w ok 1 RInt v l := by
  have hf : ((l.map fun i => Value.int .i64 i).map fun x => [x]).flatten = l.map fun i => Value.int .i64 i := flatten_single _
  have hn : n = l.length := by have := h.1; simp at this; omega
  refine SlR.of_own (css := (l.map fun i => Value.int .i64 i).map fun x => [x]) (by rw [hf]; exact h) hn (by simp) ?_ ?_ hok
  · intro cs hcs
    obtain ⟨_, _, rfl⟩ := List.mem_map.1 hcs
    rfl
  · intro i h1 h2
    simp [RInt]

/-! ### a slice of the call's own, of structures -/
/-- what stands for an x goes on standing for it, where its blocks are as they were -/
def MonoR {α : Type} (R : World → (Nat → Prop) → List Value → α → Prop) : Prop :=
  ∀ (w w' : World) (ok ok' : Nat → Prop) (cs : List Value) (x : α), R w ok cs x → (∀ b, ok b → ok' b) → Keeps ok w w' → R w' ok' cs x

/-- the blocks from base on, but the row of v -/
def okOwn (base : Nat) (w : World) (v : Value) (b : Nat) : Prop := base ≤ b ∧ b < w.heap.size ∧ v.ownBlock ≠ some b

/-- v is a slice of the call's own (its row, and all that its elements lead to, lies from base on) that reads as l -/
structure OwnL {α : Type} (w : World) (base : Nat) (T : TypeId) (sz : Nat) (R : World → (Nat → Prop) → List Value → α → Prop) (v : Value) (l : List α) (css : List (List Value)) : Prop where
  len : css.length = l.length
  each : ∀ cs ∈ css, cs.length = sz
  row : w.ownsRow base T sz v l.length css.flatten
  elems : ∀ (i : Nat) (h1 : i < css.length) (h2 : i < l.length), R w (okOwn base w v) css[i] l[i]

section
variable {α : Type} {w w' : World} {base : Nat} {T : TypeId} {sz : Nat} {R : World → (Nat → Prop) → List Value → α → Prop} {v : Value} {l : List α} {css : List (List Value)}

theorem OwnL.nil_ (w : World) (base : Nat) (T : TypeId) (sz : Nat) (R : World → (Nat → Prop) → List Value → α → Prop) : OwnL w base T sz R (.slice none 0 0) [] [] :=
  ⟨rfl, by simp, World.ownsRow_nil _ _ _ _, fun i h => by simp at h⟩

theorem OwnL.lt (h : OwnL w base T sz R v l css) : ∀ k, v.ownBlock = some k → base ≤ k ∧ k < w.heap.size := h.row.lt

theorem OwnL.keep (hm : MonoR R) (h : OwnL w base T sz R v l css) (hk : Keeps (fun b => base ≤ b ∧ b < w.heap.size) w w') (hs : w.heap.size ≤ w'.heap.size) : OwnL w' base T sz R v l css := by
  refine ⟨h.len, h.each, ?_, fun i h1 h2 => hm _ _ _ _ _ _ (h.elems i h1 h2) (fun b hb => ⟨hb.1, Nat.lt_of_lt_of_le hb.2.1 hs, hb.2.2⟩) (hk.mono fun b hb => ⟨hb.1, hb.2.1⟩)⟩
  refine ⟨h.row.1, ?_⟩
  rcases h.row.2 with hn | ⟨g, cap, cur, hv, hb, hg, rest⟩
  · exact .inl hn
  · refine .inr ⟨g, cap, cur, hv, hb, ?_, rest⟩
    rw [hk g ⟨hb, (Array.getElem?_eq_some_iff.1 hg).1⟩]
    exact hg

theorem OwnL.below (hm : MonoR R) (h : OwnL w base T sz R v l css) (hb : Below w.heap.size w w') : OwnL w' base T sz R v l css :=
  h.keep hm (fun b hb' => hb.block b hb'.2) hb.size

/-- behind an append of one element more -/
theorem OwnL.snoc {wa : World} {x : α} {cs : List Value} {g cap : Nat} (hm : MonoR R) (h : OwnL w base T sz R v l css) (hb : Keeps (fun b => base ≤ b ∧ b < w.heap.size) w wa) (hsz : w.heap.size ≤ wa.heap.size)
    (hcs : cs.length = sz) (hown : w'.ownsRow base T sz (.slice (some ⟨g, 0, none⟩) (l.length + 1) cap) (l.length + 1) (css.flatten ++ cs)) (hg : wa.grownBy w' v.ownBlock)
    (hat : v.ownBlock = some g ∨ wa.heap.size ≤ g) (hx : R wa (fun b => base ≤ b ∧ b < wa.heap.size ∧ v.ownBlock ≠ some b) cs x) :
    OwnL w' base T sz R (.slice (some ⟨g, 0, none⟩) (l.length + 1) cap) (l ++ [x]) (css ++ [cs]) := by
  have hsub : ∀ b, (base ≤ b ∧ b < wa.heap.size ∧ v.ownBlock ≠ some b) → okOwn base w' (.slice (some ⟨g, 0, none⟩) (l.length + 1) cap) b := by
    intro b hb'
    refine ⟨hb'.1, Nat.lt_of_lt_of_le hb'.2.1 hg.size, ?_⟩
    intro e
    have e' : g = b := by simpa [Value.ownBlock] using e
    rcases hat with hat | hat
    · exact hb'.2.2 (by rw [hat, e'])
    · have := hb'.2.1; omega
  have hkeep : Keeps (fun b => base ≤ b ∧ b < wa.heap.size ∧ v.ownBlock ≠ some b) wa w' := fun b hb' => hg.block b hb'.2.1 (fun e => hb'.2.2 e.symm)
  refine ⟨by simp [h.len], ?_, ?_, ?_⟩
  · intro c hc
    rcases List.mem_append.1 hc with hc | hc
    · exact h.each c hc
    · rw [List.mem_singleton.1 hc]; exact hcs
  · rw [List.length_append, List.length_singleton, List.flatten_append, List.flatten_singleton]
    exact hown
  · intro i h1 h2
    by_cases hi : i < css.length
    · have hi' : i < l.length := by rw [← h.len]; exact hi
      rw [List.getElem_append_left hi, List.getElem_append_left hi']
      have h3 := hm _ _ _ (fun b => base ≤ b ∧ b < wa.heap.size ∧ v.ownBlock ≠ some b) _ _ (h.elems i hi hi') (fun b hb' => ⟨hb'.1, Nat.lt_of_lt_of_le hb'.2.1 hsz, hb'.2.2⟩) (hb.mono fun b hb' => ⟨hb'.1, hb'.2.1⟩)
      exact hm _ _ _ _ _ _ h3 hsub hkeep
    · have hi2 : i = css.length := by simp at h1; omega
      subst hi2
      rw [List.getElem_append_right (by omega), List.getElem_append_right (by rw [h.len]; omega)]
      simp only [Nat.sub_self, h.len, List.getElem_singleton]
      exact hm _ _ _ _ _ _ hx hsub hkeep

theorem OwnL.slr (hm : MonoR R) (h : OwnL w base T sz R v l css) : SlR w (fun b => base ≤ b ∧ b < w.heap.size) sz (R w (fun b => base ≤ b ∧ b < w.heap.size)) v l :=
  SlR.of_own h.row rfl h.len h.each (fun i h1 h2 => hm _ _ _ _ _ _ (h.elems i h1 h2) (fun _ hb => ⟨hb.1, hb.2.1⟩) (Keeps.refl _ _)) (fun g hg => h.lt g hg)
end

theorem mono_ins : MonoR RIns := fun _ _ _ _ _ _ h a b => h.imp a b
theorem mono_block : MonoR RBlock := fun _ _ _ _ _ _ h a b => h.imp a b
theorem mono_flow : MonoR RFlow := fun _ _ _ _ _ _ h a b => h.imp a b
end Go.Proofs.YtmignlclfbaifaaGreat
