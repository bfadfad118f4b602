/- Functions in another order, for the law CheckMade. Plain laws. -/
import Derived.Test.YtmignlclfbaifaaGreatTrLRows
import Derived.Test.YtmignlclfbaifaaGreatTrWrong2
namespace Go.Proofs.YtmignlclfbaifaaGreat
open Go.RowKit

theorem SlR.drop {α : Type} {w : World} {ok : Nat → Prop} {sz n c k b off : Nat} {R : List Value → α → Prop} {l : List α} (h : SlR w ok sz R (.slice (some ⟨b, off, none⟩) n c) l) (hk : k ≤ n) : SlR w ok sz R (.slice (some ⟨b, off + k * sz, none⟩) (n - k) (c - k)) (l.drop k) := by
  obtain ⟨A', c', hv, h1, h2, h3⟩ := h
  injection hv with e1 e2 e3
  subst e2 e3
  have hl : (l.drop k).length = l.length - k := List.length_drop
  refine ⟨some ⟨b, off + k * sz, none⟩, c - k, by rw [hl], by omega, by omega, ?_⟩
  rcases h3 with rfl | ⟨b', off', hA, hb, hi⟩
  · exact .inl (by simp)
  · rw [← e1] at hA
    injection hA with hA
    injection hA with hb' ho'
    subst hb' ho'
    refine .inr ⟨b, off + k * sz, rfl, hb, fun i hi2 => ?_⟩
    obtain ⟨cs, q1, q2, q3⟩ := hi (k + i) (by omega)
    refine ⟨cs, q1, by rw [List.getElem_drop]; exact q2, ?_⟩
    rw [Nat.add_assoc, ← Nat.add_mul]
    exact q3
/-- functions in another order -/
theorem turn_few {D : Nat} {p : LProg} (h : GenP p) (k : Nat) : FewP D { p with funcs := p.funcs.drop k ++ p.funcs.take k } := by
  refine few_of (by have := h.few.2; show p.arrays.length ≤ 400; omega) (by have := h.few.1; show (p.funcs.drop k ++ p.funcs.take k).length ≤ 400; rw [List.length_append, List.length_drop, List.length_take]; omega) fun f hf => ?_
  have hf2 : f ∈ p.funcs := by
    rcases List.mem_append.1 (show f ∈ p.funcs.drop k ++ p.funcs.take k from hf) with h1 | h1
    · exact List.mem_of_mem_drop h1
    · exact List.mem_of_mem_take h1
  have := h.func D hf2
  omega
theorem turn_check {p : LProg} (h : GenP p) (k : Nat) : checkE 8 { p with funcs := p.funcs.drop k ++ p.funcs.take k } = (0, 0, 0) :=
  ok_check (ok_turn (l := p.funcs.take k) (r := p.funcs.drop k) (List.take_append_drop k p.funcs).symm h.made.ok) (by decide)
/-- what the functions in another order leave -/
theorem made_rel {p : LProg} {k na c1 nn cv n1 n2 base gq : Nat} {A1 Av A3 A4 : Option Addr} {W X0 X : World} {css dss : List (List Value)}
    (hX : Below W.heap.size W X) (h0 : W.heap.size ≤ X0.heap.size) (hZ : Below X0.heap.size X0 X) (hrow : X.ownsRow base 49 4 (.slice Av nn cv) nn ([] ++ css.flatten ++ dss.flatten)) (hne : ∀ q, (.slice Av nn cv : Value).ownBlock = some q → q ≠ gq) (hq : Blk X gq 27 #[.slice none 0 0, .slice none 0 0])
    (q1 : css.length = (p.funcs.drop k).length ∧ (∀ cs ∈ css, cs.length = 4) ∧ (∀ (i : Nat) (h1 : i < css.length) (h2 : i < (p.funcs.drop k).length), RFunc 8 X0 (· < X0.heap.size) css[i] (p.funcs.drop k)[i]) ∧ css.flatten.length = n1 * 4 ∧ (n1 = 0 ∨ ∃ ad, A3 = some ad ∧ ∀ j u, css.flatten[j]? = some u → X0.cell? (ad.add j) = some u) ∧ ∀ u ∈ css.flatten, u.oneCell' = true)
    (q2 : dss.length = (p.funcs.take k).length ∧ (∀ cs ∈ dss, cs.length = 4) ∧ (∀ (i : Nat) (h1 : i < dss.length) (h2 : i < (p.funcs.take k).length), RFunc 8 X0 (· < X0.heap.size) dss[i] (p.funcs.take k)[i]) ∧ dss.flatten.length = n2 * 4 ∧ (n2 = 0 ∨ ∃ ad, A4 = some ad ∧ ∀ j u, dss.flatten[j]? = some u → X0.cell? (ad.add j) = some u) ∧ ∀ u ∈ dss.flatten, u.oneCell' = true)
    (hgq : X0.heap.size ≤ gq) (hnn : nn = (p.funcs.drop k).length + (p.funcs.take k).length) :
    Below W.heap.size W ((X.setCell ⟨gq, 0, none⟩ (.slice A1 na c1)).setCell ⟨gq, 1, none⟩ (.slice Av nn cv)) ∧ Blk ((X.setCell ⟨gq, 0, none⟩ (.slice A1 na c1)).setCell ⟨gq, 1, none⟩ (.slice Av nn cv)) gq 27 #[.slice A1 na c1, .slice Av nn cv] ∧
      SlR ((X.setCell ⟨gq, 0, none⟩ (.slice A1 na c1)).setCell ⟨gq, 1, none⟩ (.slice Av nn cv)) (· < ((X.setCell ⟨gq, 0, none⟩ (.slice A1 na c1)).setCell ⟨gq, 1, none⟩ (.slice Av nn cv)).heap.size) 4 (RFunc 8 ((X.setCell ⟨gq, 0, none⟩ (.slice A1 na c1)).setCell ⟨gq, 1, none⟩ (.slice Av nn cv)) (· < ((X.setCell ⟨gq, 0, none⟩ (.slice A1 na c1)).setCell ⟨gq, 1, none⟩ (.slice Av nn cv)).heap.size)) (.slice Av nn cv) (p.funcs.drop k ++ p.funcs.take k) := by
  have hg : X.grownBy ((X.setCell ⟨gq, 0, none⟩ (.slice A1 na c1)).setCell ⟨gq, 1, none⟩ (.slice Av nn cv)) (some gq) := (grown_set X ⟨gq, 0, none⟩ _).trans (grown_set _ ⟨gq, 1, none⟩ _)
  refine ⟨(hX.setCell (p := ⟨gq, 0, none⟩) (Nat.le_trans h0 hgq) _).setCell (p := ⟨gq, 1, none⟩) (Nat.le_trans h0 hgq) _, (hq.set_ 0 _).set_ 1 _, ?_⟩
  generalize ((X.setCell ⟨gq, 0, none⟩ (.slice A1 na c1)).setCell ⟨gq, 1, none⟩ (.slice Av nn cv)) = Y at *
  have hr2 := hrow.kept hg (by
    cases e : (.slice Av nn cv : Value).ownBlock with
    | none => exact .inl rfl
    | some q => exact .inr (fun e2 => hne q e (Option.some.inj e2)))
  rw [List.nil_append] at hr2
  rw [hnn] at hr2
  have h := slr_joined (ok := (· < X0.heap.size)) (ok' := (· < Y.heap.size)) (mono_func 8) hr2 rfl rfl q1.1 q2.1 q1.2.1 q2.2.1 q1.2.2.1 q2.2.2.1 (fun b hb => Nat.lt_of_lt_of_le hb (Nat.le_trans hZ.size hg.size)) (fun b hb => (hg.block b (Nat.lt_of_lt_of_le hb hZ.size) (fun e => by have h1 := Option.some.inj e; have h2 : b < X0.heap.size := hb; omega)).trans (hZ.block b hb)) (fun g e => (hr2.lt g (by rw [← hnn]; rw [← hnn] at e; exact e)).2)
  rw [← hnn] at h
  exact h
end Go.Proofs.YtmignlclfbaifaaGreat
