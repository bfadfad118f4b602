/- A walk through a graph, as plain facts: what a visit marks, what it marks is closed, and led to. -/
import Derived.WalkKit
namespace Go.Proofs.YtkpigkopjfkepaaGreatDoor

/-- a visit of n made marks M' out of marks M -/
structure Visited (succ : Nat → List Int) (n : Nat) (M M' : List Bool) : Prop where
  len : M'.length = M.length
  mono : ∀ k : Nat, M[k]? = some true → M'[k]? = some true
  at_ : M'[n]? = some true
  closed : ∀ k : Nat, M'[k]? = some true → M[k]? ≠ some true → ∀ s ∈ succ k, M'[s.toNat]? = some true
  led : ∀ k : Nat, M'[k]? = some true → M[k]? ≠ some true → k = n ∨ ∃ p : Nat, M'[p]? = some true ∧ (k : Int) ∈ succ p
  least : ∀ C : Nat → Prop, (∀ p, C p → ∀ s ∈ succ p, C s.toNat) → C n → (∀ k : Nat, M[k]? = some true → C k) → ∀ k : Nat, M'[k]? = some true → C k
theorem Visited.there {succ : Nat → List Int} {n : Nat} {M : List Bool} (h : M[n]? = some true) : Visited succ n M M :=
  ⟨rfl, fun _ h => h, h, fun _ h1 h2 => absurd h1 h2, fun _ h1 h2 => absurd h1 h2, fun _ _ _ h => h⟩

/-- in the midst of a visit of n: the first i of those that n leads to are visited -/
structure Visiting (succ : Nat → List Int) (n : Nat) (M : List Bool) (i : Nat) (Mi : List Bool) : Prop where
  len : Mi.length = M.length
  mono : ∀ k : Nat, M[k]? = some true → Mi[k]? = some true
  at_ : Mi[n]? = some true
  done : ∀ j (h : j < (succ n).length), j < i → Mi[(succ n)[j].toNat]? = some true
  closed : ∀ k : Nat, k ≠ n → Mi[k]? = some true → M[k]? ≠ some true → ∀ s ∈ succ k, Mi[s.toNat]? = some true
  led : ∀ k : Nat, k ≠ n → Mi[k]? = some true → M[k]? ≠ some true → ∃ p : Nat, Mi[p]? = some true ∧ (k : Int) ∈ succ p
  least : ∀ C : Nat → Prop, (∀ p, C p → ∀ s ∈ succ p, C s.toNat) → C n → (∀ k : Nat, M[k]? = some true → C k) → ∀ k : Nat, Mi[k]? = some true → C k
theorem Visiting.start {succ : Nat → List Int} {n : Nat} {M : List Bool} (h : n < M.length) : Visiting succ n M 0 (M.set n true) := by
  have hne : ∀ k : Nat, k ≠ n → (M.set n true)[k]? = M[k]? := fun k hk => List.getElem?_set_ne (fun e => hk e.symm)
  refine ⟨by simp, fun k hk => ?_, by simp [h], fun j _ hj => by omega, fun k hk h1 h2 => ?_, fun k hk h1 h2 => ?_, fun C _ hn hM k hk => ?_⟩
  · by_cases e : k = n
    · subst e; simp [h]
    · rw [hne k e]; exact hk
  · rw [hne k hk] at h1; exact absurd h1 h2
  · rw [hne k hk] at h1; exact absurd h1 h2
  · by_cases e : k = n
    · subst e; exact hn
    · rw [hne k e] at hk; exact hM k hk
theorem Visiting.next {succ : Nat → List Int} {n : Nat} {M Mi M' : List Bool} {i : Nat} (h : Visiting succ n M i Mi) (hi : i < (succ n).length) (h0 : 0 ≤ (succ n)[i]) (hv : Visited succ (succ n)[i].toNat Mi M') : Visiting succ n M (i + 1) M' := by
  refine ⟨hv.len.trans h.len, fun k hk => hv.mono k (h.mono k hk), hv.mono n h.at_, fun j hj hji => ?_, fun k hk h1 h2 s hs => ?_, fun k hk h1 h2 => ?_, fun C hc hn hM => hv.least C hc (hc n hn _ (List.getElem_mem _)) (h.least C hc hn hM)⟩
  · by_cases e : j = i
    · subst e; exact hv.at_
    · exact hv.mono _ (h.done j hj (by omega))
  · by_cases e : Mi[k]? = some true
    · exact hv.mono _ (h.closed k hk e h2 s hs)
    · exact hv.closed k h1 e s hs
  · by_cases e : Mi[k]? = some true
    · obtain ⟨p, hp, hs⟩ := h.led k hk e h2
      exact ⟨p, hv.mono _ hp, hs⟩
    · rcases hv.led k h1 e with h3 | h3
      · refine ⟨n, hv.mono _ h.at_, ?_⟩
        have : (k : Int) = (succ n)[i] := by omega
        rw [this]
        exact List.getElem_mem _
      · exact h3
theorem Visiting.finish {succ : Nat → List Int} {n : Nat} {M Mi : List Bool} (h : Visiting succ n M (succ n).length Mi) : Visited succ n M Mi := by
  refine ⟨h.len, h.mono, h.at_, fun k h1 h2 s hs => ?_, fun k h1 h2 => ?_, h.least⟩
  · by_cases e : k = n
    · subst e
      obtain ⟨j, hj, rfl⟩ := List.getElem_of_mem hs
      exact h.done j hj hj
    · exact h.closed k e h1 h2 s hs
  · by_cases e : k = n
    · exact .inl e
    · exact .inr (h.led k e h1 h2)

theorem count_le : ∀ (M M' : List Bool), M'.length = M.length → (∀ k : Nat, M[k]? = some true → M'[k]? = some true) → M'.count false ≤ M.count false
  | [], [], _, _ => Nat.le_refl _
  | [], _ :: _, h, _ => by simp at h
  | _ :: _, [], h, _ => by simp at h
  | a :: r, b :: r', hl, hm => by
    have ih := count_le r r' (by simpa using hl) (fun k hk => by simpa using hm (k + 1) (by simpa using hk))
    have h0 := hm 0
    simp only [List.getElem?_cons_zero, Option.some.injEq] at h0
    cases a <;> cases b <;> simp_all <;> omega
theorem count_set : ∀ (M : List Bool) (n : Nat), M[n]? = some false → (M.set n true).count false + 1 = M.count false
  | [], _, h => by simp at h
  | a :: r, 0, h => by
    simp only [List.getElem?_cons_zero, Option.some.injEq] at h
    subst h
    simp
  | a :: r, n + 1, h => by
    have ih := count_set r n (by simpa using h)
    simp only [List.set_cons_succ, List.count_cons]
    omega
theorem Visiting.less {succ : Nat → List Int} {n : Nat} {M Mi : List Bool} {i : Nat} (h : Visiting succ n M i Mi) (hn : M[n]? = some false) : Mi.count false < M.count false := by
  have h1 := count_set M n hn
  have hlt : n < M.length := (List.getElem?_eq_some_iff.1 hn).1
  have h2 := count_le (M.set n true) Mi (by simp [h.len]) (fun k hk => by
    by_cases e : k = n
    · subst e; exact h.at_
    · rw [List.getElem?_set_ne (fun e' => e e'.symm)] at hk
      exact h.mono k hk)
  omega
end Go.Proofs.YtkpigkopjfkepaaGreatDoor
