/- A function of a program put in another one's place: the store into the row. Plain laws. -/
import Derived.Test.YtmignlclfbaifaaGreatTrLRows
namespace Go.Proofs.YtmignlclfbaifaaGreat
open Go.RowKit

theorem OwnX.put4 {α : Type} {w : World} {ok : Nat → Prop} {base : Nat} {T : TypeId} {R : World → (Nat → Prop) → List Value → α → Prop} {l : List α} {css : List (List Value)} {g n cap j : Nat} {c0 c1 c2 c3 : Value} {x : α} (hm : MonoR R)
    (h : OwnX w ok base T 4 R (.slice (some ⟨g, 0, none⟩) n cap) l css) (hn : n = l.length) (hj : j < css.length) (hx : R w ok [c0, c1, c2, c3] x) :
    OwnX ((((w.setCell ⟨g, j * 4, none⟩ c0).setCell ⟨g, j * 4 + 1, none⟩ c1).setCell ⟨g, j * 4 + 2, none⟩ c2).setCell ⟨g, j * 4 + 3, none⟩ c3) ok base T 4 R (.slice (some ⟨g, 0, none⟩) n cap) (l.set j x) (css.set j [c0, c1, c2, c3]) := by
  subst hn
  have r0 := OwnL.put1 h.row h.each hj (show 0 < 4 by decide) c0 x
  have hl : css[j].length = 4 := h.each _ (List.getElem_mem _)
  obtain ⟨a0, a1, a2, a3, he⟩ : ∃ a0 a1 a2 a3, css[j] = [a0, a1, a2, a3] := by
    match css[j], hl with
    | [a0, a1, a2, a3], _ => exact ⟨a0, a1, a2, a3, rfl⟩
  rw [he] at r0
  have e0 : ∀ cs ∈ css.set j ([a0, a1, a2, a3].set 0 c0), cs.length = 4 := fun cs hcs => by
    rcases List.mem_or_eq_of_mem_set hcs with h1 | h1
    · exact h.each cs h1
    · rw [h1]; rfl
  have hj0 : j < (css.set j ([a0, a1, a2, a3].set 0 c0)).length := by simpa using hj
  have r1 := OwnL.put1 r0 e0 hj0 (show 1 < 4 by decide) c1 x
  rw [List.getElem_set_self, List.set_set] at r1
  have e1 : ∀ cs ∈ css.set j (([a0, a1, a2, a3].set 0 c0).set 1 c1), cs.length = 4 := fun cs hcs => by
    rcases List.mem_or_eq_of_mem_set hcs with h1 | h1
    · exact h.each cs h1
    · rw [h1]; rfl
  have hj1 : j < (css.set j (([a0, a1, a2, a3].set 0 c0).set 1 c1)).length := by simpa using hj
  have r2 := OwnL.put1 r1 e1 hj1 (show 2 < 4 by decide) c2 x
  rw [List.getElem_set_self, List.set_set] at r2
  have e2 : ∀ cs ∈ css.set j ((([a0, a1, a2, a3].set 0 c0).set 1 c1).set 2 c2), cs.length = 4 := fun cs hcs => by
    rcases List.mem_or_eq_of_mem_set hcs with h1 | h1
    · exact h.each cs h1
    · rw [h1]; rfl
  have hj2 : j < (css.set j ((([a0, a1, a2, a3].set 0 c0).set 1 c1).set 2 c2)).length := by simpa using hj
  have r3 := OwnL.put1 r2 e2 hj2 (show 3 < 4 by decide) c3 x
  rw [List.getElem_set_self, List.set_set] at r3
  have hrow : ((((w.setCell ⟨g, j * 4, none⟩ c0).setCell ⟨g, j * 4 + 1, none⟩ c1).setCell ⟨g, j * 4 + 2, none⟩ c2).setCell ⟨g, j * 4 + 3, none⟩ c3).ownsRow base T 4 (.slice (some ⟨g, 0, none⟩) l.length cap) l.length (css.set j [c0, c1, c2, c3]).flatten := r3
  have hne : ∀ b, ok b → b ≠ g := fun b hb e => h.free g rfl (e ▸ hb)
  have hk : Keeps ok w ((((w.setCell ⟨g, j * 4, none⟩ c0).setCell ⟨g, j * 4 + 1, none⟩ c1).setCell ⟨g, j * 4 + 2, none⟩ c2).setCell ⟨g, j * 4 + 3, none⟩ c3) := fun b hb =>
    (Below.heap_setCell _ ⟨g, j * 4 + 3, none⟩ c3 b (hne b hb)).trans ((Below.heap_setCell _ ⟨g, j * 4 + 2, none⟩ c2 b (hne b hb)).trans ((Below.heap_setCell _ ⟨g, j * 4 + 1, none⟩ c1 b (hne b hb)).trans (Below.heap_setCell _ ⟨g, j * 4, none⟩ c0 b (hne b hb))))
  refine ⟨by simp [h.len], fun cs hcs => ?_, by rw [List.length_set]; exact hrow, fun a h1 h2 => ?_, h.free⟩
  · rcases List.mem_or_eq_of_mem_set hcs with h1 | h1
    · exact h.each cs h1
    · rw [h1]; rfl
  · by_cases e : j = a
    · subst e
      rw [List.getElem_set_self, List.getElem_set_self]
      exact hm _ _ _ _ _ _ hx (fun _ h => h) hk
    · rw [List.getElem_set_ne e, List.getElem_set_ne e]
      exact hm _ _ _ _ _ _ (h.elems a (by simpa using h1) (by simpa using h2)) (fun _ h => h) hk
theorem OwnL.slr_lo {w : World} {base lo : Nat} {T : TypeId} {v : Value} {l : List (ByteArray × Int)} {css : List (List Value)} (h : OwnL w base T 2 RArrM v l css) (hlt : ∀ k, v.ownBlock = some k → k < lo) : SlR w (· < lo) 2 RArr v l :=
  SlR.of_own h.row rfl h.len h.each (fun i h1 h2 => h.elems i h1 h2) hlt
/-- what was made, as it lies, with the rows one's own -/
structure ProgIn (w : World) (p : LProg) (A1 : Option Addr) (c1 g c2 B3 lo : Nat) (css : List (List Value)) : Prop where
  gen : GenP p
  arrs : SlR w (· < lo) 2 RArr (.slice A1 p.arrays.length c1) p.arrays
  low : lo ≤ B3
  row : OwnX w (okX lo w (.slice (some ⟨g, 0, none⟩) p.funcs.length c2)) B3 49 4 (RFuncM 8) (.slice (some ⟨g, 0, none⟩) p.funcs.length c2) p.funcs css
theorem ProgPost.inn {w w' : World} {e : Ending} (h : ProgPost w e w') : ∃ (p : LProg) (A1 : Option Addr) (c1 g c2 B3 lo : Nat) (css : List (List Value)), e = .returned (.agg #[.slice A1 p.arrays.length c1, .slice (some ⟨g, 0, none⟩) p.funcs.length c2]) ∧ Below w.heap.size w w' ∧ w.heap.size ≤ lo ∧ ProgIn w' p A1 c1 g c2 B3 lo css := by
  obtain ⟨p, A1, A2, c1, c2, B1, lo, B3, css1, css2, he, hg, hb, h1, h2, h3, hA, hlt, hF⟩ := h
  obtain ⟨g, c', hv, _, _, _⟩ := own_some hF.row hg.pos
  injection hv with e1 _ e3
  subst e1 e3
  exact ⟨p, A1, c1, g, c2, B3, lo, css2, he, hb, Nat.le_trans h1 h2, hg, hA.slr_lo hlt, h3, hF⟩
end Go.Proofs.YtmignlclfbaifaaGreat
