/- The generator: a row of expressions that grows in a box of the call's own. -/
import Derived.Test.YtmignlclfbaifaaGreatTrExprL
namespace Go.Proofs.YtmignlclfbaifaaGreat
open Go.RowKit

theorem mono_expr (M : Nat) : MonoR fun Y ok => RExpr M Y ok := fun _ _ _ _ _ _ h a b => h.imp a b M
theorem mono_stmt (M : Nat) : MonoR fun Y ok => RStmt M Y ok := fun _ _ _ _ _ _ h a b => h.imp a b M
theorem info_expr : (Tryz.prog.info? 42).map (fun i => (i.zero, i.size, i.bytes)) = some (some (.agg #[.int .i64 0, .int .i64 0, .int .i64 0, .string ⟨#[]⟩, .slice none 0 0]), 5, 64) := by kernel_rfl
theorem info_stmt : (Tryz.prog.info? 45).map (fun i => (i.zero, i.size, i.bytes)) = some (some (.agg #[.int .i64 0, .string ⟨#[]⟩, .slice none 0 0, .slice none 0 0, .slice none 0 0]), 5, 96) := by kernel_rfl
/-- what was handed back, as a row's element -/
theorem ExprPost.new {X Y : World} {sb m : Nat} {c : Scp} {e : Ending} (h : ExprPost X sb c m e Y) :
    ∃ (x : LExpr) (A : Option Addr) (cx : Nat), e = .returned (.agg #[.int .i64 x.kind, .int .i64 x.op, .int .i64 x.n, .string x.name, .slice A x.args.length cx]) ∧ madeE c m x ∧ RExpr (m + 1) Y (fresh X Y) (exprCells x (.slice A x.args.length cx)) x ∧ SrcAt Y sb ∧ X.grownBy Y (some sb) := by
  obtain ⟨⟨x, va, he, hm, hr⟩, hs, hg⟩ := h
  obtain ⟨A, cx, hv, _, _⟩ := hr.val
  rw [hv] at he hr
  exact ⟨x, A, cx, he, hm, ⟨_, rfl, hr⟩, hs, hg⟩
/-- in the midst of it: the box at g, the row v of expressions from base on -/
structure BoxS (w : World) (sb : Nat) (X : World) (base g : Nat) (T : TypeId) (cs : Array Value) (M : Nat) (P : LExpr → Prop) (v : Value) (l : List LExpr) : Prop where
  gr : w.grownBy X (some sb)
  src : SrcAt X sb
  blk : Blk X g T cs
  lo : w.heap.size ≤ g
  gb : g < base
  bs : base ≤ X.heap.size
  own : ∃ css, OwnL X base 42 5 (fun Y ok => RExpr M Y ok) v l css
  made : ∀ x ∈ l, P x
  sb : sb < w.heap.size
section
variable {w X Y X1 X2 X3 : World} {sb base g M : Nat} {T : TypeId} {cs : Array Value} {P : LExpr → Prop} {v : Value} {l : List LExpr}
theorem BoxS.step (h : BoxS w sb X base g T cs M P v l) (hg : X.grownBy Y (some sb)) (hs : SrcAt Y sb) : BoxS w sb Y base g T cs M P v l := by
  have h1 := h.sb
  have h2 := h.lo
  have h3 := h.gb
  obtain ⟨css, hc⟩ := h.own
  exact ⟨h.gr.trans hg, hs, h.blk.grown hg (fun e => by have := Option.some.inj e; omega), h.lo, h.gb, Nat.le_trans h.bs hg.size, ⟨css, hc.keep (mono_expr M) (fun b hb => hg.block b hb.2 (fun e => by have h4 := Option.some.inj e; have h5 := hb.1; omega)) hg.size⟩, h.made, h.sb⟩
theorem BoxS.below (h : BoxS w sb X base g T cs M P v l) (hb : Below X.heap.size X Y) : BoxS w sb Y base g T cs M P v l := h.step (grown_below' hb) (h.src.below hb)
theorem BoxS.drew (h : BoxS w sb X base g T cs M P v l) : BoxS w sb X.drew base g T cs M P v l := h.below (Below.refl _ _).drew
/-- behind an append of what was made -/
theorem BoxS.app (h : BoxS w sb X base g T cs M P v l) (hg : X.grownBy X1 (some sb)) (hs : SrcAt X1 sb) (h12 : Below X1.heap.size X1 X2) {n : Nat} (hn : n = l.length) {css : List (List Value)} (how : OwnL X base 42 5 (fun Y ok => RExpr M Y ok) v l css)
    {x : LExpr} {cx : List Value} (hx : RExpr M X1 (fresh X X1) cx x) (hcx : cx.length = 5) (hP : P x) {gg cap : Nat} (hrow : X3.ownsRow base 42 5 (.slice (some ⟨gg, 0, none⟩) (n + 1) cap) (n + 1) (css.flatten ++ cx))
    (hgr : X2.grownBy X3 v.ownBlock) (hat : v.ownBlock = some gg ∨ gg = X2.heap.size) : BoxS w sb X3 base g T cs M P (.slice (some ⟨gg, 0, none⟩) (n + 1) cap) (l ++ [x]) := by
  subst hn
  have h2 : BoxS w sb X2 base g T cs M P v l := (h.step hg hs).below h12
  have hvb : ∀ k, v.ownBlock = some k → base ≤ k ∧ k < X.heap.size := how.lt
  have hlo := h.lo
  have hgb := h.gb
  have hsb := h.sb
  have hne : ∀ b, b < base → some b ≠ v.ownBlock := fun b hb e => by have := hvb b e.symm; omega
  have hok : ∀ b, fresh X X1 b → base ≤ b ∧ b < X2.heap.size ∧ v.ownBlock ≠ some b := fun b hb => ⟨Nat.le_trans h.bs hb.1, Nat.lt_of_lt_of_le hb.2 h12.size, fun e => by have h5 := (hvb b e).2; have h6 := hb.1; omega⟩
  have hx2 := (hx.imp (fun _ h => h) (fun b hb => h12.block b hb.2) M : RExpr M X2 (fresh X X1) cx x).imp hok (fun _ _ => rfl) M
  have kp : Keeps (fun b => base ≤ b ∧ b < X.heap.size) X X2 := fun b hb => (h12.block b (Nat.lt_of_lt_of_le hb.2 hg.size)).trans (hg.block b hb.2 (fun e => by have h4 := Option.some.inj e; have h5 := hb.1; omega))
  refine ⟨?_, ?_, h2.blk.grown hgr (fun e => hne g hgb e.symm), hlo, hgb, Nat.le_trans h2.bs hgr.size, ⟨_, OwnL.snoc (mono_expr M) how kp (Nat.le_trans hg.size h12.size) hcx hrow hgr (hat.imp id (fun e => Nat.le_of_eq e.symm)) hx2⟩, ?_, hsb⟩
  · exact ⟨hgr.os.trans h2.gr.os, hgr.tape.trans h2.gr.tape, hgr.output.trans h2.gr.output, Nat.le_trans h2.gr.size hgr.size, fun k hk hne2 => (hgr.block k (Nat.lt_of_lt_of_le hk h2.gr.size) (hne k (by omega))).trans (h2.gr.block k hk hne2)⟩
  · exact h2.src.grown hgr (fun k e => by have := hvb k e; omega)
  · intro y hy
    rcases List.mem_append.1 hy with hy | hy
    · exact h.made y hy
    · obtain rfl := List.mem_singleton.1 hy; exact hP
theorem BoxS.row2 (h : BoxS w sb X base g T cs M P v l) (hg : X.grownBy X1 (some sb)) (h12 : Below X1.heap.size X1 X2) {n : Nat} (hn : n = l.length) {css : List (List Value)} (how : OwnL X base 42 5 (fun Y ok => RExpr M Y ok) v l css) : X2.ownsRow base 42 5 v n css.flatten := by
  subst hn
  have hlo := h.lo
  have hgb := h.gb
  have hsb := h.sb
  exact (how.keep (mono_expr M) (fun b hb => (h12.block b (Nat.lt_of_lt_of_le hb.2 hg.size)).trans (hg.block b hb.2 (fun e => by have h4 := Option.some.inj e; have h5 := hb.1; omega))) (Nat.le_trans hg.size h12.size)).row
theorem BoxS.set (h : BoxS w sb X base g T cs M P v l) (i : Nat) (u : Value) : BoxS w sb (X.setCell ⟨g, i, none⟩ u) base g T (cs.setIfInBounds i u) M P v l := by
  have h2 := h.lo
  have h3 := h.gb
  have h4 := h.sb
  obtain ⟨css, hc⟩ := h.own
  exact ⟨grown_own h.gr g h2 i u, h.src.keep (fun b hb => Below.heap_setCell X ⟨g, i, none⟩ u b (by show b ≠ g; omega)), h.blk.set_ i u, h2, h3, by simpa [World.setCell] using h.bs, ⟨css, hc.keep (mono_expr M) (fun b hb => Below.heap_setCell X ⟨g, i, none⟩ u b (by show b ≠ g; have := hb.1; omega)) (by simp [World.setCell])⟩, h.made, h4⟩
end
end Go.Proofs.YtmignlclfbaifaaGreat
