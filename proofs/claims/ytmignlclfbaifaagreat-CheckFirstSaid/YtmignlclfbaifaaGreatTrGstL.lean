/- The generator's statements: what is handed back, and the states in the midst of it. Plain laws, no walk. -/
import Derived.Test.YtmignlclfbaifaaGreatTrArgs
namespace Go.Proofs.YtmignlclfbaifaaGreat
open Go.RowKit

/-- in the midst of it: the box at g, the row v of statements from base on -/
structure BoxT (w : World) (sb : Nat) (X : World) (base g : Nat) (T : TypeId) (cs : Array Value) (M : Nat) (P : LStmt → Prop) (v : Value) (l : List LStmt) : Prop where
  gr : w.grownBy X (some sb)
  src : SrcAt X sb
  blk : Blk X g T cs
  lo : w.heap.size ≤ g
  gb : g < base
  bs : base ≤ X.heap.size
  own : ∃ css, OwnL X base 45 5 (fun Y ok => RStmt M Y ok) v l css
  made : ∀ x ∈ l, P x
  sb : sb < w.heap.size
section
variable {w X Y X1 X2 X3 : World} {sb base g M : Nat} {T : TypeId} {cs : Array Value} {P : LStmt → Prop} {v : Value} {l : List LStmt}
theorem BoxT.step (h : BoxT w sb X base g T cs M P v l) (hg : X.grownBy Y (some sb)) (hs : SrcAt Y sb) : BoxT w sb Y base g T cs M P v l := by
  have h1 := h.sb
  have h2 := h.lo
  have h3 := h.gb
  obtain ⟨css, hc⟩ := h.own
  exact ⟨h.gr.trans hg, hs, h.blk.grown hg (fun e => by have := Option.some.inj e; omega), h.lo, h.gb, Nat.le_trans h.bs hg.size, ⟨css, hc.keep (mono_stmt M) (fun b hb => hg.block b hb.2 (fun e => by have h4 := Option.some.inj e; have h5 := hb.1; omega)) hg.size⟩, h.made, h.sb⟩
theorem BoxT.below (h : BoxT w sb X base g T cs M P v l) (hb : Below X.heap.size X Y) : BoxT w sb Y base g T cs M P v l := h.step (grown_below' hb) (h.src.below hb)
theorem BoxT.drew (h : BoxT w sb X base g T cs M P v l) : BoxT w sb X.drew base g T cs M P v l := h.below (Below.refl _ _).drew
/-- behind an append of what was made -/
theorem BoxT.app (h : BoxT w sb X base g T cs M P v l) (hg : X.grownBy X1 (some sb)) (hs : SrcAt X1 sb) (h12 : Below X1.heap.size X1 X2) {n : Nat} (hn : n = l.length) {css : List (List Value)} (how : OwnL X base 45 5 (fun Y ok => RStmt M Y ok) v l css)
    {x : LStmt} {cx : List Value} (hx : RStmt M X1 (fresh X X1) cx x) (hcx : cx.length = 5) (hP : P x) {gg cap : Nat} (hrow : X3.ownsRow base 45 5 (.slice (some ⟨gg, 0, none⟩) (n + 1) cap) (n + 1) (css.flatten ++ cx))
    (hgr : X2.grownBy X3 v.ownBlock) (hat : v.ownBlock = some gg ∨ gg = X2.heap.size) : BoxT w sb X3 base g T cs M P (.slice (some ⟨gg, 0, none⟩) (n + 1) cap) (l ++ [x]) := by
  subst hn
  have h2 : BoxT w sb X2 base g T cs M P v l := (h.step hg hs).below h12
  have hvb : ∀ k, v.ownBlock = some k → base ≤ k ∧ k < X.heap.size := how.lt
  have hlo := h.lo
  have hgb := h.gb
  have hsb := h.sb
  have hne : ∀ b, b < base → some b ≠ v.ownBlock := fun b hb e => by have := hvb b e.symm; omega
  have hok : ∀ b, fresh X X1 b → base ≤ b ∧ b < X2.heap.size ∧ v.ownBlock ≠ some b := fun b hb => ⟨Nat.le_trans h.bs hb.1, Nat.lt_of_lt_of_le hb.2 h12.size, fun e => by have h5 := (hvb b e).2; have h6 := hb.1; omega⟩
  have hx2 := (hx.imp (fun _ h => h) (fun b hb => h12.block b hb.2) M : RStmt M X2 (fresh X X1) cx x).imp hok (fun _ _ => rfl) M
  have kp : Keeps (fun b => base ≤ b ∧ b < X.heap.size) X X2 := fun b hb => (h12.block b (Nat.lt_of_lt_of_le hb.2 hg.size)).trans (hg.block b hb.2 (fun e => by have h4 := Option.some.inj e; have h5 := hb.1; omega))
  refine ⟨?_, ?_, h2.blk.grown hgr (fun e => hne g hgb e.symm), hlo, hgb, Nat.le_trans h2.bs hgr.size, ⟨_, OwnL.snoc (mono_stmt M) how kp (Nat.le_trans hg.size h12.size) hcx hrow hgr (hat.imp id (fun e => Nat.le_of_eq e.symm)) hx2⟩, ?_, hsb⟩
  · exact ⟨hgr.os.trans h2.gr.os, hgr.tape.trans h2.gr.tape, hgr.output.trans h2.gr.output, Nat.le_trans h2.gr.size hgr.size, fun k hk hne2 => (hgr.block k (Nat.lt_of_lt_of_le hk h2.gr.size) (hne k (by omega))).trans (h2.gr.block k hk hne2)⟩
  · exact h2.src.grown hgr (fun k e => by have := hvb k e; omega)
  · intro y hy
    rcases List.mem_append.1 hy with hy | hy
    · exact h.made y hy
    · obtain rfl := List.mem_singleton.1 hy; exact hP
theorem BoxT.row2 (h : BoxT w sb X base g T cs M P v l) (hg : X.grownBy X1 (some sb)) (h12 : Below X1.heap.size X1 X2) {n : Nat} (hn : n = l.length) {css : List (List Value)} (how : OwnL X base 45 5 (fun Y ok => RStmt M Y ok) v l css) : X2.ownsRow base 45 5 v n css.flatten := by
  subst hn
  have hlo := h.lo
  have hgb := h.gb
  have hsb := h.sb
  exact (how.keep (mono_stmt M) (fun b hb => (h12.block b (Nat.lt_of_lt_of_le hb.2 hg.size)).trans (hg.block b hb.2 (fun e => by have h4 := Option.some.inj e; have h5 := hb.1; omega))) (Nat.le_trans hg.size h12.size)).row
theorem BoxT.set (h : BoxT w sb X base g T cs M P v l) (i : Nat) (u : Value) : BoxT w sb (X.setCell ⟨g, i, none⟩ u) base g T (cs.setIfInBounds i u) M P v l := by
  have h2 := h.lo
  have h3 := h.gb
  have h4 := h.sb
  obtain ⟨css, hc⟩ := h.own
  exact ⟨grown_own h.gr g h2 i u, h.src.keep (fun b hb => Below.heap_setCell X ⟨g, i, none⟩ u b (by show b ≠ g; omega)), h.blk.set_ i u, h2, h3, by simpa [World.setCell] using h.bs, ⟨css, hc.keep (mono_stmt M) (fun b hb => Below.heap_setCell X ⟨g, i, none⟩ u b (by show b ≠ g; have := hb.1; omega)) (by simp [World.setCell])⟩, h.made, h4⟩
end

/-- how many arguments a statement has -/
def manyZ (k : Int) : Nat := if k = 2 then 2 else if k = 5 ∨ k = 6 then 0 else 1
/-- rows of up to four statements -/
def thinS : Nat → LStmt → Prop
  | 0, _ => False
  | d + 1, s => s.thn.length ≤ 4 ∧ s.els.length ≤ 4 ∧ (∀ x ∈ s.thn, thinS d x) ∧ ∀ x ∈ s.els, thinS d x
def GoodS (c : Scp) (d : Nat) (loop : Bool) (s : LStmt) : Prop := madeS c d loop s ∧ thinS d s
/-- a statement, some of whose arguments there are -/
structure HalfS (c : Scp) (d : Nat) (loop : Bool) (k : Int) (nm : ByteArray) (l : List LExpr) (thn els : List LStmt) : Prop where
  fill : ∀ ys : List LExpr, (∀ y ∈ ys, madeE c 4 y) → l.length + ys.length = manyZ k → GoodS c d loop ⟨k, nm, l ++ ys, thn, els⟩
  few : l.length ≤ manyZ k
section
variable {c : Scp} {d : Nat} {loop : Bool} {k : Int} {nm : ByteArray} {l : List LExpr} {thn els : List LStmt}
theorem HalfS.more (h : HalfS c d loop k nm l thn els) {y : LExpr} (hy : madeE c 4 y) (hl : l.length < manyZ k) : HalfS c d loop k nm (l ++ [y]) thn els :=
  ⟨fun ys hys hn => by
    have e := h.fill (y :: ys) (fun z hz => by rcases List.mem_cons.1 hz with rfl | hz; exact hy; exact hys z hz) (by simp at hn ⊢; omega)
    rw [List.append_assoc]
    exact e, by simp; omega⟩
theorem HalfS.full (h : HalfS c d loop k nm l thn els) (hl : l.length = manyZ k) : GoodS c d loop ⟨k, nm, l, thn, els⟩ := by
  have e := h.fill [] (fun _ h => by cases h) (by simpa using hl)
  rw [List.append_nil] at e
  exact e
theorem made_up {c : Scp} {a b : Nat} (h : a ≤ b) {x : LExpr} (hx : madeE c a x) : madeE c b x := made_sub ⟨fun _ h => h, fun _ h => h, fun _ h => h⟩ h hx
/-- the laws of a statement, one by one -/
theorem good_of (hd : 1 ≤ d) {s : LStmt} (hb : bareS s = true) (h5 : s.kind = 5 ∨ s.kind = 6 → loop = true) (h1 : s.kind = 1 → s.name ∈ c.vars) (h2 : s.kind = 2 → s.name ∈ c.arrs) (ha : ∀ e ∈ s.args, madeE c 4 e) (ht : ∀ x ∈ s.thn, GoodS c (d - 1) (loop || decide (s.kind = 4)) x) (he : ∀ x ∈ s.els, GoodS c (d - 1) loop x) (lt : s.thn.length ≤ 4) (le : s.els.length ≤ 4) : GoodS c d loop s := by
  obtain ⟨d, rfl⟩ : ∃ q, d = q + 1 := ⟨d - 1, by omega⟩
  exact ⟨⟨hb, h5, h1, h2, ha, fun x hx => (ht x hx).1, fun x hx => (he x hx).1⟩, lt, le, fun x hx => (ht x hx).2, fun x hx => (he x hx).2⟩
theorem one_of {ys : List LExpr} (h : (0 : Nat) + ys.length = 1) : ∃ y, ys = [y] := List.length_eq_one_iff.1 (by omega)
theorem half_set (hd : 1 ≤ d) (hk : ScOk c) (hn : nm ∈ c.vars) : HalfS c d loop 1 nm [] [] [] :=
  ⟨fun ys hys hl => by
    obtain ⟨y, rfl⟩ := one_of hl
    refine good_of hd ?_ (fun h => ?_) (fun _ => hn) (fun h => absurd (show (1 : Int) = 2 from h) (by decide)) hys (fun _ h => by cases h) (fun _ h => by cases h) (Nat.zero_le _) (Nat.zero_le _)
    · show (nameB nm && decide (((1 : Nat) : Int) = 1) && decide (0 = 0) && decide (0 = 0)) = true
      rw [hk.vars nm hn]; rfl
    · rcases h with h | h
      · exact absurd (show (1 : Int) = 5 from h) (by decide)
      · exact absurd (show (1 : Int) = 6 from h) (by decide), by decide⟩
theorem half_store (hd : 1 ≤ d) (hk : ScOk c) (hn : nm ∈ c.arrs) {x : LExpr} (hx : madeE c 4 x) : HalfS c d loop 2 nm [x] [] [] :=
  ⟨fun ys hys hl => by
    obtain ⟨y, rfl⟩ := one_of (show 0 + ys.length = 1 by have h : 1 + ys.length = 2 := hl; omega)
    refine good_of hd ?_ (fun h => ?_) (fun h => absurd (show (2 : Int) = 1 from h) (by decide)) (fun _ => hn) (fun e he => ?_) (fun _ h => by cases h) (fun _ h => by cases h) (Nat.zero_le _) (Nat.zero_le _)
    · show (nameB nm && decide (((2 : Nat) : Int) = 2) && decide (0 = 0) && decide (0 = 0)) = true
      rw [hk.arrs nm hn]; rfl
    · rcases h with h | h
      · exact absurd (show (2 : Int) = 5 from h) (by decide)
      · exact absurd (show (2 : Int) = 6 from h) (by decide)
    · rcases List.mem_cons.1 he with rfl | he
      · exact hx
      · exact hys e he, by show 1 ≤ 2; decide⟩
/-- no name, one argument, no rows, and no law but of the argument -/
theorem half_one (hd : 1 ≤ d) (hk : k = 7 ∨ k = 8 ∨ k = 9) : HalfS c d loop k ⟨#[]⟩ [] [] [] := by
  have hm : manyZ k = 1 := by rcases hk with rfl | rfl | rfl <;> rfl
  refine ⟨fun ys hys hl => ?_, by rw [hm]; exact Nat.zero_le _⟩
  rw [hm] at hl
  obtain ⟨y, rfl⟩ := one_of hl
  refine good_of hd (by rcases hk with rfl | rfl | rfl <;> rfl) (fun h => ?_) (fun h => ?_) (fun h => ?_) hys (fun _ h => by cases h) (fun _ h => by cases h) (Nat.zero_le _) (Nat.zero_le _)
  · have h : k = 5 ∨ k = 6 := h; omega
  · have h : k = 1 := h; omega
  · have h : k = 2 := h; omega
theorem half_call (hd : 1 ≤ d) {x : LExpr} (hx : madeE c 4 x) (h5 : x.kind = 5) : HalfS c d loop 10 ⟨#[]⟩ [x] [] [] :=
  ⟨fun ys hys hl => by
    obtain rfl : ys = [] := List.eq_nil_of_length_eq_zero (by have h : 1 + ys.length = 1 := hl; omega)
    refine good_of hd ?_ (fun h => ?_) (fun h => absurd (show (10 : Int) = 1 from h) (by decide)) (fun h => absurd (show (10 : Int) = 2 from h) (by decide)) (fun e he => ?_) (fun _ h => by cases h) (fun _ h => by cases h) (Nat.zero_le _) (Nat.zero_le _)
    · show ((decide ((⟨#[]⟩ : ByteArray) = ⟨#[]⟩) && decide (1 = 1) && decide (0 = 0) && decide (0 = 0)) && (decide (x.kind = 5) && true)) = true
      rw [decide_eq_true h5]; rfl
    · rcases h with h | h
      · exact absurd (show (10 : Int) = 5 from h) (by decide)
      · exact absurd (show (10 : Int) = 6 from h) (by decide)
    · obtain rfl := List.mem_singleton.1 he; exact hx, by show 1 ≤ 1; decide⟩
theorem half_if (hd : 1 ≤ d) {x : LExpr} (hx : madeE c 4 x) (ht : ∀ s ∈ thn, GoodS c (d - 1) loop s) (he : ∀ s ∈ els, GoodS c (d - 1) loop s) (lt : thn.length ≤ 4) (le : els.length ≤ 4) : HalfS c d loop 3 ⟨#[]⟩ [x] thn els :=
  ⟨fun ys hys hl => by
    obtain rfl : ys = [] := List.eq_nil_of_length_eq_zero (by have h : 1 + ys.length = 1 := hl; omega)
    refine good_of hd rfl (fun h => ?_) (fun h => absurd (show (3 : Int) = 1 from h) (by decide)) (fun h => absurd (show (3 : Int) = 2 from h) (by decide)) (fun e he => ?_) (fun s hs => ?_) he lt le
    · rcases h with h | h
      · exact absurd (show (3 : Int) = 5 from h) (by decide)
      · exact absurd (show (3 : Int) = 6 from h) (by decide)
    · obtain rfl := List.mem_singleton.1 he; exact hx
    · have e : (loop || decide ((⟨3, ⟨#[]⟩, [x] ++ [], thn, els⟩ : LStmt).kind = 4)) = loop := by cases loop <;> rfl
      rw [e]; exact ht s hs, by show 1 ≤ 1; decide⟩
theorem half_while (hd : 1 ≤ d) {x : LExpr} (hx : madeE c 4 x) (ht : ∀ s ∈ thn, GoodS c (d - 1) true s) (lt : thn.length ≤ 4) : HalfS c d loop 4 ⟨#[]⟩ [x] thn [] :=
  ⟨fun ys hys hl => by
    obtain rfl : ys = [] := List.eq_nil_of_length_eq_zero (by have h : 1 + ys.length = 1 := hl; omega)
    refine good_of hd rfl (fun h => ?_) (fun h => absurd (show (4 : Int) = 1 from h) (by decide)) (fun h => absurd (show (4 : Int) = 2 from h) (by decide)) (fun e he => ?_) (fun s hs => ?_) (fun _ h => by cases h) lt (Nat.zero_le _)
    · rcases h with h | h
      · exact absurd (show (4 : Int) = 5 from h) (by decide)
      · exact absurd (show (4 : Int) = 6 from h) (by decide)
    · obtain rfl := List.mem_singleton.1 he; exact hx
    · have e : (loop || decide ((⟨4, ⟨#[]⟩, [x] ++ [], thn, []⟩ : LStmt).kind = 4)) = true := by cases loop <;> rfl
      rw [e]; exact ht s hs, by show 1 ≤ 1; decide⟩
theorem half_loop (hd : 1 ≤ d) (hk : k = 5 ∨ k = 6) (hl : loop = true) : HalfS c d loop k ⟨#[]⟩ [] [] [] := by
  have hm : manyZ k = 0 := by rcases hk with rfl | rfl <;> rfl
  refine ⟨fun ys hys hn => ?_, by rw [hm]; exact Nat.le_refl _⟩
  rw [hm] at hn
  obtain rfl : ys = [] := List.eq_nil_of_length_eq_zero (by simpa using hn)
  refine good_of hd (by rcases hk with rfl | rfl <;> rfl) (fun _ => hl) (fun h => ?_) (fun h => ?_) (fun _ h => by cases h) (fun _ h => by cases h) (fun _ h => by cases h) (Nat.zero_le _) (Nat.zero_le _)
  · have h : k = 1 := h; omega
  · have h : k = 2 := h; omega
end
/-- what the generator hands back: up to four statements, made of what there is, in blocks of their own -/
def StmtsPost (w : World) (sb : Nat) (c : Scp) (d : Nat) (loop : Bool) : Ending → World → Prop := fun e w' =>
  (∃ (l : List LStmt) (A : Option Addr) (cap : Nat), e = .returned (.slice A l.length cap) ∧ (∀ s ∈ l, GoodS c d loop s) ∧ l.length ≤ 4 ∧ SlR w' (fresh w w') 5 (RStmt (d + 4) w' (fresh w w')) (.slice A l.length cap) l) ∧ SrcAt w' sb ∧ w.grownBy w' (some sb)
def StmtsAt (d : Nat) : Prop := ∀ (w : World) (sb : Nat) (c : Scp) (Av Aa Af : Option Addr) (cv ca cf : Nat) (loop : Bool), SrcAt w sb → ScAt w sb c Av Aa Af cv ca cf → ScFull c →
  Calls Tryz.prog 26 #[.agg #[.slice Av c.vars.length cv, .slice Aa c.arrs.length ca, .slice Af c.funs.length cf, .bool false, .bool loop], .pointer (some ⟨sb, 0, none⟩), .int .i64 (d : Int)] w (StmtsPost w sb c d loop)
/-- blocks behind the box at g -/
def behind (g : Nat) (X : World) : Nat → Prop := fun b => g < b ∧ b < X.heap.size
/-- a row of statements d deep behind the box at g -/
def RowT (g : Nat) (X : World) (d : Nat) (v : Value) (l : List LStmt) : Prop := SlR X (behind g X) 5 (RStmt d X (behind g X)) v l
section
variable {w X Y : World} {g sb d d' : Nat} {v : Value} {l : List LStmt}
theorem RowT.keep (h : RowT g X d v l) (hk : ∀ b, g < b → b < X.heap.size → Y.heap[b]? = X.heap[b]?) (hs : X.heap.size ≤ Y.heap.size) : RowT g Y d v l :=
  SlR.imp h (fun _ hb => ⟨hb.1, Nat.lt_of_lt_of_le hb.2 hs⟩) (fun b hb => hk b hb.1 hb.2) fun _ _ _ r => r.imp (fun _ hb => ⟨hb.1, Nat.lt_of_lt_of_le hb.2 hs⟩) (fun b hb => hk b hb.1 hb.2)
theorem RowT.grown (h : RowT g X d v l) (hg : X.grownBy Y (some sb)) (hb : sb < g) : RowT g Y d v l :=
  h.keep (fun b h1 h2 => hg.block b h2 (fun e => by have := Option.some.inj e; omega)) hg.size
theorem RowT.set (h : RowT g X d v l) (i : Nat) (u : Value) : RowT g (X.setCell ⟨g, i, none⟩ u) d v l :=
  h.keep (fun b h1 _ => Below.heap_setCell X ⟨g, i, none⟩ u b (by show b ≠ g; omega)) (by simp [World.setCell])
theorem RowT.nil_ (g : Nat) (X : World) (d : Nat) : RowT g X d (.slice none 0 0) [] := SlR.nil_ _ _ _ _
theorem RowT.val (h : RowT g X d v l) : ∃ A c, v = .slice A l.length c := by
  obtain ⟨A, c, hv, _, _⟩ := SlR.val h
  exact ⟨A, c, hv⟩
/-- what was handed back, behind the box -/
theorem StmtsPost.open {c : Scp} {loop : Bool} {e : Ending} (h : StmtsPost X sb c d loop e Y) (hg : g < X.heap.size) :
    ∃ (l : List LStmt) (A : Option Addr) (cap : Nat), e = .returned (.slice A l.length cap) ∧ (∀ s ∈ l, GoodS c d loop s) ∧ l.length ≤ 4 ∧ RowT g Y (d + 4) (.slice A l.length cap) l ∧ SrcAt Y sb ∧ X.grownBy Y (some sb) := by
  obtain ⟨⟨l, A, cap, he, hm, hl, hr⟩, hs, hgr⟩ := h
  have up : ∀ b, fresh X Y b → behind g Y b := fun b hb => ⟨Nat.lt_of_lt_of_le hg hb.1, hb.2⟩
  exact ⟨l, A, cap, he, hm, hl, SlR.imp hr up (fun _ _ => rfl) fun _ _ _ r => r.imp up (fun _ _ => rfl), hs, hgr⟩
end
/-- the rows of a statement: none, or they are there and so are all arguments -/
def RestS (g : Nat) (X : World) (d : Nat) (full : Prop) (vt ve : Value) (thn els : List LStmt) : Prop :=
  (vt = .slice none 0 0 ∧ ve = .slice none 0 0 ∧ thn = [] ∧ els = []) ∨ (full ∧ RowT g X d vt thn ∧ RowT g X d ve els)
theorem RestS.rows {g : Nat} {X : World} {d : Nat} {full : Prop} {vt ve : Value} {thn els : List LStmt} (h : RestS g X d full vt ve thn els) : RowT g X d vt thn ∧ RowT g X d ve els := by
  rcases h with ⟨rfl, rfl, rfl, rfl⟩ | ⟨_, h1, h2⟩
  · exact ⟨RowT.nil_ _ _ _, RowT.nil_ _ _ _⟩
  · exact ⟨h1, h2⟩
/-- behind the forms: a statement some of whose arguments there are -/
def MidS (w : World) (sb : Nat) (X : World) (g : Nat) (c : Scp) (d : Nat) (loop : Bool) : Prop :=
  ∃ (k : Int) (nm : ByteArray) (v vt ve : Value) (l : List LExpr) (thn els : List LStmt),
    BoxS w sb X (g + 1) g 45 #[.int .i64 k, .string nm, v, vt, ve] (d + 4) (madeE c 4) v l ∧ HalfS c d loop k nm l thn els ∧ RestS g X (d + 3) (l.length = manyZ k) vt ve thn els
/-- a whole statement in its box -/
def DoneS (w : World) (sb : Nat) (X : World) (g : Nat) (c : Scp) (d : Nat) (loop : Bool) : Prop :=
  ∃ (s : LStmt) (Av At Ae : Option Addr) (cv ct ce : Nat),
    w.grownBy X (some sb) ∧ SrcAt X sb ∧ Blk X g 45 #[.int .i64 s.kind, .string s.name, .slice Av s.args.length cv, .slice At s.thn.length ct, .slice Ae s.els.length ce] ∧
    RStmt (d + 4) X (behind g X) (stmtCells s (.slice Av s.args.length cv) (.slice At s.thn.length ct) (.slice Ae s.els.length ce)) s ∧ GoodS c d loop s
theorem done_of {w : World} {sb : Nat} {X : World} {g : Nat} {c : Scp} {d : Nat} {loop : Bool} {k : Int} {nm : ByteArray} {v vt ve : Value} {l : List LExpr} {thn els : List LStmt}
    (hb : BoxS w sb X (g + 1) g 45 #[.int .i64 k, .string nm, v, vt, ve] (d + 4) (madeE c 4) v l) (hh : HalfS c d loop k nm l thn els) (hr : RestS g X (d + 3) (l.length = manyZ k) vt ve thn els) (hl : l.length = manyZ k) : DoneS w sb X g c d loop := by
  obtain ⟨ht, he⟩ := hr.rows
  obtain ⟨At, ct, rfl⟩ := ht.val
  obtain ⟨Ae, ce, rfl⟩ := he.val
  obtain ⟨css, hc⟩ := hb.own
  obtain ⟨Av, cv, rfl⟩ := own_form hc.row
  have hs := hc.slr (mono_expr (d + 4))
  have up : ∀ b, (g + 1 ≤ b ∧ b < X.heap.size) → behind g X b := fun b hb => ⟨hb.1, hb.2⟩
  exact ⟨⟨k, nm, l, thn, els⟩, Av, At, Ae, cv, ct, ce, hb.gr, hb.src, hb.blk, ⟨_, _, _, rfl, SlR.imp hs up (fun _ _ => rfl) fun _ _ _ r => r.imp up (fun _ _ => rfl) _, ht, he⟩, hh.full hl⟩
theorem BoxS.sc {w X : World} {sb base g M b : Nat} {T T' : TypeId} {cs cs' : Array Value} {P : LExpr → Prop} {v : Value} {l : List LExpr} (h : BoxS w sb X base g T cs M P v l) (hb : Blk w b T' cs') (hne : sb ≠ b) : Blk X b T' cs' := hb.grown h.gr (fun e => by have := Option.some.inj e; omega)
theorem BoxT.sc {w X : World} {sb base g M b : Nat} {T T' : TypeId} {cs cs' : Array Value} {P : LStmt → Prop} {v : Value} {l : List LStmt} (h : BoxT w sb X base g T cs M P v l) (hb : Blk w b T' cs') (hne : sb ≠ b) : Blk X b T' cs' := hb.grown h.gr (fun e => by have := Option.some.inj e; omega)
/-- a row as an opaque one -/
theorem BoxS.dim {w X : World} {sb base g M : Nat} {T : TypeId} {k vt ve : Value} {nm : Value} {P : LExpr → Prop} (h : BoxS w sb X base g T #[k, nm, .slice none 0 0, vt, ve] M P (.slice none 0 0) []) :
    ∃ (A : Option Addr) (n c : Nat) (l : List LExpr), BoxS w sb X base g T #[k, nm, .slice A n c, vt, ve] M P (.slice A n c) l ∧ n = l.length ∧ l = [] ∧ A = none := ⟨none, 0, 0, [], h, rfl, rfl, rfl⟩
/-- two numbers in a block of one's own -/
theorem pair_cell {X : World} {g : Nat} {T : TypeId} {a b : Int} {r : Nat} (h : Blk X g T #[.int .i64 a, .int .i64 b]) (hr : r < 2) : ∃ v : Int, (v = a ∨ v = b) ∧ X.cell? ⟨g, r, none⟩ = some (.int .i64 v) := by
  rcases (by omega : r = 0 ∨ r = 1) with rfl | rfl
  · exact ⟨a, .inl rfl, h.cell 0⟩
  · exact ⟨b, .inr rfl, h.cell 1⟩
/-- a statement more in the row of those that there are -/
theorem BoxT.next {w W X X2 X3 : World} {sb base g gs : Nat} {T : TypeId} {cs : Array Value} {c : Scp} {d : Nat} {loop : Bool} {v : Value} {lo : List LStmt} {s : LStmt} {va vt ve : Value}
    (h : BoxT w sb W base g T cs (d + 4) (GoodS c d loop) v lo) (hg : W.grownBy X (some sb)) (hs : SrcAt X sb) (hgs : W.heap.size ≤ gs) (hx : RStmt (d + 4) X (behind gs X) (stmtCells s va vt ve) s) (hP : GoodS c d loop s)
    (h12 : Below X.heap.size X X2) {n : Nat} (hn : n = lo.length) {css : List (List Value)} (how : OwnL W base 45 5 (fun Y ok => RStmt (d + 4) Y ok) v lo css)
    {gg cap : Nat} (hrow : X3.ownsRow base 45 5 (.slice (some ⟨gg, 0, none⟩) (n + 1) cap) (n + 1) (css.flatten ++ stmtCells s va vt ve))
    (hgr : X2.grownBy X3 v.ownBlock) (hat : v.ownBlock = some gg ∨ gg = X2.heap.size) : BoxT w sb X3 base g T cs (d + 4) (GoodS c d loop) (.slice (some ⟨gg, 0, none⟩) (n + 1) cap) (lo ++ [s]) :=
  h.app hg hs h12 hn how (hx.imp (fun _ hb => ⟨Nat.le_of_lt (Nat.lt_of_le_of_lt hgs hb.1), hb.2⟩) (fun _ _ => rfl)) rfl hP hrow hgr hat
end Go.Proofs.YtmignlclfbaifaaGreat
