/- What is wanted where, as plain facts: the least sets that follow from what the blocks use and set. -/
import Derived.Test.YtknccacfhknnaaaGreatSetStep
namespace Go.Proofs.YtknccacfhknnaaaGreat
open Go.RowKit

theorem addS_eq (l : List Int) : ∀ (S : Int → Bool) (k : Int), addS S l k = (decide (k ∈ l) || S k) := by
  induction l with
  | nil => intro S k; simp [addS]
  | cons a r ih =>
    intro S k
    show addS (put1 S a) r k = _
    rw [ih]
    unfold put1
    by_cases h : k = a
    · subst h; simp
    · have e : (k == a) = false := by simpa using h
      simp [h, e]
theorem delS_eq (l : List Int) : ∀ (S : Int → Bool) (k : Int), delS S l k = (!decide (k ∈ l) && S k) := by
  induction l with
  | nil => intro S k; simp [delS]
  | cons a r ih =>
    intro S k
    show delS (del1 S a) r k = _
    rw [ih]
    unfold del1
    by_cases h : k = a
    · subst h; simp
    · have e : (k == a) = false := by simpa using h
      simp [h, e]
theorem stepS_eq (S : Int → Bool) (x : LIns) (k : Int) : stepS S x k = (decide (k ∈ usesL x) || (!decide (k ∈ setsL x) && S k)) := by
  unfold stepS
  rw [addS_eq, delS_eq]
theorem addS_iff {S : Int → Bool} {l : List Int} {k : Int} : addS S l k = true ↔ k ∈ l ∨ S k = true := by rw [addS_eq]; simp
theorem stepS_iff {S : Int → Bool} {x : LIns} {k : Int} : stepS S x k = true ↔ k ∈ usesL x ∨ (k ∉ setsL x ∧ S k = true) := by rw [stepS_eq]; simp

/-- ahead of a row of instructions, behind which S is wanted -/
def stepsS (l : List LIns) (S : Int → Bool) : Int → Bool := l.foldr (fun x S => stepS S x) S
/-- ahead of a block's end -/
def endS (t : LTerm) (L : Nat → Int → Bool) : Int → Bool := addS (fun v => (nextL t).any fun k => L k.toNat v) (wantsL t)
/-- ahead of a block -/
def transS (b : LBlock) (L : Nat → Int → Bool) : Int → Bool := stepsS b.ins (endS b.term L)

theorem stepsS_cons (x : LIns) (l : List LIns) (S : Int → Bool) : stepsS (x :: l) S = stepS (stepsS l S) x := rfl
theorem endS_iff {t : LTerm} {L : Nat → Int → Bool} {v : Int} : endS t L v = true ↔ v ∈ wantsL t ∨ ∃ k ∈ nextL t, L k.toNat v = true := by
  unfold endS
  rw [addS_iff, List.any_eq_true]

theorem stepS_mono {S T : Int → Bool} (h : ∀ v, S v = true → T v = true) (x : LIns) : ∀ v, stepS S x v = true → stepS T x v = true := fun v hv => by
  rw [stepS_iff] at hv ⊢
  exact hv.imp id fun ⟨a, b⟩ => ⟨a, h v b⟩
theorem stepsS_mono {S T : Int → Bool} (h : ∀ v, S v = true → T v = true) : ∀ (l : List LIns) (v : Int), stepsS l S v = true → stepsS l T v = true
  | [] => h
  | x :: l => stepS_mono (stepsS_mono h l) x
theorem endS_mono {L M : Nat → Int → Bool} (h : ∀ i v, L i v = true → M i v = true) (t : LTerm) : ∀ v, endS t L v = true → endS t M v = true := fun v hv => by
  rw [endS_iff] at hv ⊢
  exact hv.imp id fun ⟨k, a, b⟩ => ⟨k, a, h _ v b⟩
theorem transS_mono {L M : Nat → Int → Bool} (h : ∀ i v, L i v = true → M i v = true) (b : LBlock) : ∀ v, transS b L v = true → transS b M v = true :=
  stepsS_mono (endS_mono h b.term) b.ins

/-- sets that hold what follows from them -/
def Pre (f : LFlow) (L : Nat → Int → Bool) : Prop := ∀ (i : Nat) (h : i < f.blocks.length) (v : Int), transS f.blocks[i] L v = true → L i v = true
open Classical in
/-- what is wanted at block i's beginning: the least such sets -/
noncomputable def liveS (f : LFlow) (i : Nat) (v : Int) : Bool := decide (∀ L, Pre f L → L i v = true)
theorem liveS_le {f : LFlow} {L : Nat → Int → Bool} (h : Pre f L) (i : Nat) (v : Int) (hv : liveS f i v = true) : L i v = true := by
  classical
  unfold liveS at hv
  exact of_decide_eq_true hv L h
theorem liveS_mk {f : LFlow} {i : Nat} {v : Int} (h : ∀ L, Pre f L → L i v = true) : liveS f i v = true := by
  classical
  unfold liveS
  exact decide_eq_true h
theorem liveS_pre (f : LFlow) : Pre f (liveS f) := fun i h v hv => liveS_mk fun _ hL => hL i h v (transS_mono (liveS_le hL) _ v hv)
/-- .. which are no more than what follows from them -/
theorem liveS_eq (f : LFlow) (i : Nat) (h : i < f.blocks.length) : liveS f i = transS f.blocks[i] (liveS f) := by
  funext v
  rw [Bool.eq_iff_iff]
  refine ⟨fun hv => ?_, liveS_pre f i h v⟩
  have hp : Pre f (fun j v => if hj : j < f.blocks.length then transS f.blocks[j] (liveS f) v else false) := fun j hj v hv => by
    show (if hj : j < f.blocks.length then transS f.blocks[j] (liveS f) v else false) = true
    rw [dif_pos hj]
    refine transS_mono (fun k u hu => ?_) _ v hv
    change (if hj : k < f.blocks.length then transS f.blocks[k] (liveS f) u else false) = true at hu
    by_cases hk : k < f.blocks.length
    · rw [dif_pos hk] at hu
      exact liveS_pre f k hk u hu
    · rw [dif_neg hk] at hu; cases hu
  have := liveS_le hp i v hv
  change (if hj : i < f.blocks.length then transS f.blocks[i] (liveS f) v else false) = true at this
  rw [dif_pos h] at this
  exact this
/-- sets that hold what follows from them, and are no more than any such: they are the wanted ones -/
theorem liveS_of {f : LFlow} {L : Nat → Int → Bool} (h : Pre f L) (hl : ∀ i v, L i v = true → liveS f i v = true) : L = liveS f := by
  funext i v
  rw [Bool.eq_iff_iff]
  exact ⟨hl i v, liveS_le h i v⟩
/-- one round more -/
theorem liveS_round {f : LFlow} {L : Nat → Int → Bool} (hl : ∀ i v, L i v = true → liveS f i v = true) (i : Nat) (h : i < f.blocks.length) (v : Int) (hv : transS f.blocks[i] L v = true) : liveS f i v = true :=
  liveS_pre f i h v (transS_mono hl _ v hv)
/-- behind instruction j .. ahead of the end -/
noncomputable def afterS (f : LFlow) (b : LBlock) (j : Nat) : Int → Bool := stepsS (b.ins.drop j) (endS b.term (liveS f))

theorem place_uses {x : LIns} (h : GoodIns x) {S : Int → Bool} (hS : ∀ v, S v = true → placeP v = true) : ∀ v, stepS S x v = true → placeP v = true := fun v hv => by
  rw [stepS_iff] at hv
  exact hv.elim (h.uses v) fun h => hS v h.2
theorem place_steps {l : List LIns} (h : ∀ x ∈ l, GoodIns x) {S : Int → Bool} (hS : ∀ v, S v = true → placeP v = true) : ∀ v, stepsS l S v = true → placeP v = true := by
  induction l with
  | nil => exact hS
  | cons x l ih => exact place_uses (h x (by simp)) (ih fun y hy => h y (by simp [hy]))
end Go.Proofs.YtknccacfhknnaaaGreat
