/- Literals in memory. -/
import Derived.Test.YtnpnhdmfdhnmfaaGreatDoorFitMem
namespace Go.Proofs.YtnpnhdmfdhnmfaaGreatDoor
open Go.RowKit

/-- each row stands for its element -/
def AllR {α : Type} (sz : Nat) (R : List Value → α → Prop) : List (List Value) → List α → Prop
  | [], [] => True
  | c :: cs, x :: xs => (c.length = sz ∧ R c x) ∧ AllR sz R cs xs
  | _, _ => False
theorem AllR.at_ {α : Type} {sz : Nat} {R : List Value → α → Prop} : ∀ {css : List (List Value)} {l : List α}, AllR sz R css l → css.length = l.length ∧ ∀ (i : Nat) (h1 : i < css.length) (h2 : i < l.length), css[i].length = sz ∧ R css[i] l[i]
  | [], [], _ => ⟨rfl, fun i h => absurd h (by simp)⟩
  | c :: cs, x :: xs, h => by
    obtain ⟨h1, h2⟩ := AllR.at_ h.2
    refine ⟨by simp [h1], fun i hi hi2 => ?_⟩
    cases i with
    | zero => exact h.1
    | succ i => exact h2 i (by simpa using hi) (by simpa using hi2)
  | [], _ :: _, h => h.elim
  | _ :: _, [], h => h.elim
theorem flat_at {sz : Nat} : ∀ (css : List (List Value)), (∀ cs ∈ css, cs.length = sz) → ∀ (i j : Nat) (hi : i < css.length) (hj : j < (css[i]).length), css.flatten[i * sz + j]? = some (css[i])[j] := by
  intro css
  induction css with
  | nil => intro _ i j hi; simp at hi
  | cons c r ih =>
    intro hall i j hi hj
    have hc : c.length = sz := hall c (by simp)
    rw [List.flatten_cons]
    match i, hi, hj with
    | 0, _, hj =>
      have hj' : j < c.length := hj
      rw [Nat.zero_mul, Nat.zero_add, List.getElem?_append_left hj']
      exact List.getElem?_eq_getElem hj'
    | i + 1, hi, hj =>
      have e1 : (i + 1) * sz + j = c.length + (i * sz + j) := by rw [hc, Nat.succ_mul]; omega
      rw [e1, List.getElem?_append_right (by omega), Nat.add_sub_cancel_left]
      exact ih (fun cs hcs => hall cs (by simp [hcs])) i j (by simpa using hi) hj
theorem SlR.lit {α : Type} {W : World} {ok : Nat → Prop} {g : Nat} {t : TypeId} {cs : Array Value} {sz : Nat} {R : List Value → α → Prop} {l : List α} (css : List (List Value)) {n : Nat} (h : Blk W g t cs) (hcs : cs = css.flatten.toArray) (ha : AllR sz R css l) (hn : n = l.length) (hok : ok g) (hl : n ≤ 1000) :
    SlR W ok sz R (.slice (some ⟨g, 0, none⟩) n n) l := by
  obtain ⟨h1, h2⟩ := ha.at_
  subst hn hcs
  refine ⟨_, _, rfl, Nat.le_refl _, by unfold maxLen; omega, .inr ⟨g, 0, rfl, hok, fun i hi => ?_⟩⟩
  have hi' : i < css.length := by omega
  obtain ⟨h3, h4⟩ := h2 i hi' hi
  refine ⟨css[i], h3, h4, fun j hj => ?_⟩
  have hall : ∀ cs ∈ css, cs.length = sz := fun c hc => by
    obtain ⟨q, hq, rfl⟩ := List.getElem_of_mem hc
    exact (h2 q hq (by omega)).1
  rw [Nat.zero_add, h.cell, List.getElem?_toArray]
  exact flat_at css hall i j hi' hj
theorem SlR.ints {W : World} {ok : Nat → Prop} {g : Nat} {t : TypeId} {cs : Array Value} (l : List Int) {n : Nat} (h : Blk W g t cs) (hcs : cs = (l.map (Value.int .i64)).toArray) (hn : n = l.length) (hok : ok g) (hl : n ≤ 1000) : SlR W ok 1 RInt (.slice (some ⟨g, 0, none⟩) n n) l := by
  have ha : ∀ l : List Int, AllR 1 RInt (l.map fun x => [Value.int .i64 x]) l := by
    intro l
    induction l with
    | nil => trivial
    | cons a r ih => exact ⟨⟨rfl, rfl⟩, ih⟩
  refine SlR.lit (l.map fun x => [Value.int .i64 x]) h ?_ (ha l) hn hok hl
  rw [hcs]
  congr 1
  have h2 := flatten_single (l.map (Value.int .i64))
  rw [List.map_map] at h2
  exact h2.symm
end Go.Proofs.YtnpnhdmfdhnmfaaGreatDoor
