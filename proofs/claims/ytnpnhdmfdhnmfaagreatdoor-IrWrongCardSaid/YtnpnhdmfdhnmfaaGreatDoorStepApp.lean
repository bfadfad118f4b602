/- An append onto a row of the call's own that may be empty. -/
import Derived.Test.YtnpnhdmfdhnmfaaGreatDoorUnitMem
import Derived.Deep.AppendSrc
namespace Go.Proofs.YtnpnhdmfdhnmfaaGreatDoor
open Go.RowKit

/-- an append of a slice that lies, onto a row of the call's own that may be empty -/
theorem step_append_any {P : Program} {ops : Array Oper} {o : Oper} {a : Act} {K : Act → World → Prop} {Q : Exit → Act → World → Prop} {E : Prop} (w : World) (hgd : o.guard = none) (s x : Operand) (t : TypeId)
    (ho : o.op = .call { callee := .builtin .append, args := #[s, x], argTypes := #[t, t] })
    (base : Nat) (e : TypeId) (i : TypeInfo) (z : Value) (size bytes : Nat) (ht : P.underlying t = some (.slice e)) (hi : P.info? e = some i) (hz : i.zero = some z)
    (hsize : i.size = size) (hby : i.bytes = bytes) (hzs : z.cells.size = size) (hsz : 0 < size)
    (v : Value) (n : Nat) (xs : List Value) (hs : a.eval s = v) (hown : w.ownsRow base e size v n xs)
    (A : Option Addr) (m c : Nat) (news : List Value) (hx : a.eval x = .slice A m c) (hl : news.length = m * size) (hnews : m = 0 ∨ ∃ ad, A = some ad ∧ ∀ j u, news[j]? = some u → w.cell? (ad.add j) = some u) (h1 : ∀ u ∈ news, u.oneCell' = true)
    (h63 : n + m ≤ maxLen) (hbytes : (n + m) * bytes ≤ 140737488355328) (hbase : base ≤ w.heap.size) (H : Nat) (hH : w.heap.size = H)
    (h : ∀ v' w', w'.ownsRow base e size v' (n + m) (xs ++ news) → w.grownBy w' v.ownBlock → (∀ g, v'.ownBlock = some g → (v.ownBlock = some g ∨ g = H) ∧ g < w'.heap.size) → K (a.put o.dst v') w') :
    if Region.wanted o (yielded ops a.tmps) = true then Oper.wp P o a w K Q else E := by
  by_cases hn : 0 < n
  · refine step_append_row w hgd s x t ho base e i z size bytes ht hi hz hsize hby hzs hsz v n xs hs hown hn A m c news hx hl hnews h1 h63 hbytes hbase H hH ?_
    intro g cap w' a1 a2 a3 a4
    exact h _ _ a1 a2 (fun g' e => by
      have e' : g = g' := (by simpa [Value.ownBlock] using e)
      subst e'
      exact ⟨a3, a4⟩)
  · have hw : Region.wanted o (yielded ops a.tmps) = true := by simp [Region.wanted, hgd]
    rw [if_pos hw]
    have hn0 : n = 0 := by omega
    subst hn0
    by_cases h0 : m = 0
    · subst h0
      have hnil : news = [] := List.eq_nil_of_length_eq_zero (by rw [hl]; simp)
      subst hnil
      have hxs : xs = [] := List.eq_nil_of_length_eq_zero (by have := hown.1; simpa using this)
      subst hxs
      rcases hown.2 with ⟨hv, _⟩ | ⟨g, cap, cur, hv, hb, hg, hcap, hmax, hcs, htake⟩
      · subst hv
        refine Go.Lib.wp_append_run_sl w s x t ho _ _ hs hx (run_append_nothing (P := P) w t t o.type e i ht hi none 0 0 (Nat.le_refl _) (.slice A 0 c) ?_) ?_
        · cases A with
          | none => exact Src.ofNil (size := i.size) w ht c
          | some ad => exact Src.ofSlice (size := i.size) w ht ad 0 c [] (by simp) (by simp) (by simp)
        · exact h _ w (World.ownsRow_nil _ _ _ _) ⟨rfl, rfl, rfl, Nat.le_refl _, fun _ _ _ => rfl⟩ (fun g e => by cases e)
      · subst hv
        have hgl : g < w.heap.size := (Array.getElem?_eq_some_iff.1 hg).1
        refine Go.Lib.wp_append_run_sl w s x t ho _ _ hs hx (run_append_nothing (P := P) w t t o.type e i ht hi (some ⟨g, 0, none⟩) 0 cap hcap (.slice A 0 c) ?_) ?_
        · cases A with
          | none => exact Src.ofNil (size := i.size) w ht c
          | some ad => exact Src.ofSlice (size := i.size) w ht ad 0 c [] (by simp) (by simp) (by simp)
        · exact h _ w (by simpa using hown) ⟨rfl, rfl, rfl, Nat.le_refl _, fun _ _ _ => rfl⟩ (fun g' e => by
            have e' : g = g' := (by simpa [Value.ownBlock] using e)
            subst e'
            exact ⟨.inl rfl, hgl⟩)
    · obtain ⟨ad, rfl, hnw⟩ : ∃ ad, A = some ad ∧ ∀ j u, news[j]? = some u → w.cell? (ad.add j) = some u := by
        rcases hnews with h2 | h2
        · exact absurd h2 h0
        · exact h2
      refine wp_append_lies w s x t ho base e i z size bytes ht hi hz hsize hby hzs hsz v 0 xs hs hown ad m c news hx hl hnw h1 (by omega) h63 hbytes hbase H hH ?_
      intro g cap w' a1 a2 a3 a4
      exact h _ _ a1 a2 (fun g' e => by
        have e' : g = g' := (by simpa [Value.ownBlock] using e)
        subst e'
        exact ⟨a3, a4⟩)
end Go.Proofs.YtnpnhdmfdhnmfaaGreatDoor
