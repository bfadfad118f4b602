/- Parts of rows of functions and of statements, as they are appended to rows of one's own. Plain laws, no walk. -/
import Derived.Test.YtmignlclfbaifaaGreatTrGenL
namespace Go.Proofs.YtmignlclfbaifaaGreat
open Go.RowKit

/-- a row's cells, as an append takes them -/
theorem news_rows {α : Type} {w : World} {ok : Nat → Prop} {sz n c : Nat} {A : Option Addr} {R : List Value → α → Prop} {l : List α} (h : SlR w ok sz R (.slice A n c) l) (hn : n = l.length) (h1 : ∀ cs x, R cs x → ∀ u ∈ cs, u.oneCell' = true) :
    ∃ css : List (List Value), css.length = l.length ∧ (∀ cs ∈ css, cs.length = sz) ∧ (∀ (i : Nat) (h1 : i < css.length) (h2 : i < l.length), R css[i] l[i]) ∧ css.flatten.length = n * sz ∧ (n = 0 ∨ ∃ ad, A = some ad ∧ ∀ j u, css.flatten[j]? = some u → w.cell? (ad.add j) = some u) ∧ ∀ u ∈ css.flatten, u.oneCell' = true := by
  obtain ⟨css, q1, q2, q3, q4⟩ := h.rows_any
  refine ⟨css, q1, q2, q3, by rw [flatten_len q2, q1, hn], ?_, flatten_ones fun cs hcs u hu => ?_⟩
  · rcases q4 with q4 | ⟨b, o, hA, _, hc⟩
    · exact .inl (by omega)
    · exact .inr ⟨⟨b, o, none⟩, hA, hc.news⟩
  · obtain ⟨i, hi, rfl⟩ := List.getElem_of_mem hcs
    exact h1 _ _ (q3 i hi (by omega)) u hu
theorem ones_func {d : Nat} {w : World} {ok : Nat → Prop} {cs : List Value} {x : LFunc} (h : RFunc d w ok cs x) : ∀ u ∈ cs, u.oneCell' = true := by
  obtain ⟨vp, vl, vb, rfl, h1, h2, h3⟩ := h
  obtain ⟨_, _, rfl, _⟩ := h1.val
  obtain ⟨_, _, rfl, _⟩ := h2.val
  obtain ⟨_, _, rfl, _⟩ := h3.val
  simp [Value.oneCell']
theorem ones_stmt {d : Nat} {w : World} {ok : Nat → Prop} {cs : List Value} {x : LStmt} (h : RStmt d w ok cs x) : ∀ u ∈ cs, u.oneCell' = true := by
  cases d with
  | zero => exact h.elim
  | succ d =>
    obtain ⟨va, vt, ve, rfl, h1, h2, h3⟩ := h
    obtain ⟨_, _, rfl, _⟩ := h1.val
    obtain ⟨_, _, rfl, _⟩ := h2.val
    obtain ⟨_, _, rfl, _⟩ := h3.val
    simp [Value.oneCell', stmtCells]
/-- two rows that were put together into one of one's own -/
theorem slr_joined {α : Type} {w w' : World} {base sz n m : Nat} {T : TypeId} {R : World → (Nat → Prop) → List Value → α → Prop} {v : Value} {l r : List α} {css dss : List (List Value)} {ok ok' : Nat → Prop} (hm : MonoR R)
    (hrow : w'.ownsRow base T sz v (n + m) (css.flatten ++ dss.flatten)) (hn : n = l.length) (hm2 : m = r.length) (h1 : css.length = l.length) (h2 : dss.length = r.length) (e1 : ∀ cs ∈ css, cs.length = sz) (e2 : ∀ cs ∈ dss, cs.length = sz)
    (r1 : ∀ (i : Nat) (a : i < css.length) (b : i < l.length), R w ok css[i] l[i]) (r2 : ∀ (i : Nat) (a : i < dss.length) (b : i < r.length), R w ok dss[i] r[i]) (hok : ∀ b, ok b → ok' b) (hk : Keeps ok w w') (hown : ∀ g, v.ownBlock = some g → ok' g) : SlR w' ok' sz (R w' ok') v (l ++ r) := by
  refine SlR.of_own (css := css ++ dss) (n := n + m) (by rw [List.flatten_append]; exact hrow) (by rw [List.length_append]; omega) (by simp [h1, h2]) (fun cs hcs => ?_) (fun i a b => ?_) hown
  · rcases List.mem_append.1 hcs with h | h
    · exact e1 cs h
    · exact e2 cs h
  · by_cases h : i < css.length
    · rw [List.getElem_append_left h, List.getElem_append_left (by omega)]
      exact hm _ _ _ _ _ _ (r1 i h (by omega)) hok hk
    · rw [List.getElem_append_right (by omega), List.getElem_append_right (by omega)]
      have hi : i - css.length < dss.length := by simp at a; omega
      have h3 := r2 (i - css.length) hi (by omega)
      have e : i - l.length = i - css.length := by omega
      simp only [e]
      exact hm _ _ _ _ _ _ h3 hok hk
theorem cell_keep {w w' : World} {B : Nat} {a : Addr} {v : Value} (hb : Below B w w') (hB : B = w.heap.size) (h : w.cell? a = some v) : w'.cell? a = some v := by
  subst hB
  rw [hb.cell (World.block_lt_of_cell? w _ h)]; exact h
end Go.Proofs.YtmignlclfbaifaaGreat
