/- What the run of chapter 11's statement on operators is. -/
import Derived.Test.YtknccacfhknnaaaAwake11
namespace Go.Proofs.Ytknccacfhknnaaa

def opsF (x : LIns) (a : Int) : LFlow := ⟨⟨#[109, 97, 105, 110]⟩, 0, 3, [⟨[⟨1, 0, 0, 0, 0, a, ⟨#[]⟩, []⟩, ⟨7, 1, 0, 0, 0, 0, ⟨#[]⟩, []⟩, x, ⟨8, 0, 2, 0, 0, 0, ⟨#[]⟩, []⟩], ⟨4, 2, 0, 0⟩⟩]⟩
def opsU (x : LIns) (a : Int) : LUnit := ⟨[], [opsF x a]⟩
def opsTwo (k : Int) : LIns := ⟨4, 2, 0, 1, k, 0, ⟨#[]⟩, []⟩
def opsOne (k : Int) : LIns := ⟨3, 2, 0, 0, k, 0, ⟨#[]⟩, []⟩
theorem ops_unit (x : LIns) (a : Int) (hx : ∀ u, insOk u 3 x = true) : UnitOk (opsU x a) where
  sizes := fun a ha => by cases ha
  arrs := Nat.zero_le _
  fls := by show 1 ≤ 500; omega
  good := fun s hs => by
    have h : s = (⟨#[109, 97, 105, 110]⟩ : ByteArray) := by simpa [allNames, opsU, opsF] using hs
    exact .inl h
  nodup := by simp [allNames, opsU]
  main := ⟨0, by show 0 < 1; omega, rfl, Int.le_refl _⟩
  nums := fun f hf => by
    obtain rfl : f = opsF x a := List.mem_singleton.1 hf
    rfl
  lens := fun f hf b hb => by
    obtain rfl : f = opsF x a := List.mem_singleton.1 hf
    obtain rfl : b = _ := List.mem_singleton.1 hb
    show 4 ≤ 1000
    omega
  blocks := fun f hf => by
    obtain rfl : f = opsF x a := List.mem_singleton.1 hf
    have h := hx (opsU x a)
    show (opsF x a).blocks.any (blockBad (opsU x a) (opsF x a)) = false
    have e1 : insOk (opsU x a) 3 ⟨1, 0, 0, 0, 0, a, ⟨#[]⟩, []⟩ = true := by unfold insOk opOk namedOk; simp [placeIf, hasD, hasA, hasB]
    have e2 : insOk (opsU x a) 3 ⟨7, 1, 0, 0, 0, 0, ⟨#[]⟩, []⟩ = true := by unfold insOk opOk namedOk; simp [placeIf, hasD, hasA, hasB]
    have e3 : insOk (opsU x a) 3 ⟨8, 0, 2, 0, 0, 0, ⟨#[]⟩, []⟩ = true := by unfold insOk opOk namedOk; simp [placeIf, hasD, hasA, hasB]
    have e4 : termOk (1 : Int) 3 ⟨4, 2, 0, 0⟩ = true := by decide
    have e5 : ((opsF x a).blocks.length : Int) = (1 : Nat) := rfl
    have e6 : (opsF x a).values = 3 := rfl
    rw [List.any_eq_false]
    intro b hb
    obtain rfl : b = ⟨[⟨1, 0, 0, 0, 0, a, ⟨#[]⟩, []⟩, ⟨7, 1, 0, 0, 0, 0, ⟨#[]⟩, []⟩, x, ⟨8, 0, 2, 0, 0, 0, ⟨#[]⟩, []⟩], ⟨4, 2, 0, 0⟩⟩ := List.mem_singleton.1 hb
    unfold blockBad
    rw [e5, e6]
    simp [e1, e2, e3, e4, h]
theorem two_ok {k : Int} (h1 : 1 ≤ k) (h2 : k ≤ 16) (u : LUnit) : insOk u 3 (opsTwo k) = true := by
  have e : insOk u 3 (opsTwo k) = decide (1 ≤ k ∧ k ≤ 16) := by
    unfold insOk opsTwo opOk namedOk
    simp [placeIf, hasD, hasA, hasB]
  rw [e]; exact decide_eq_true ⟨h1, h2⟩
theorem one_ok {k : Int} (h1 : 17 ≤ k) (h2 : k ≤ 19) (u : LUnit) : insOk u 3 (opsOne k) = true := by
  have e : insOk u 3 (opsOne k) = decide (k = 17 ∨ k = 18 ∨ k = 19) := by
    unfold insOk opsOne opOk namedOk
    simp [placeIf, hasD, hasA, hasB]
  rw [e]; exact decide_eq_true (by omega)
def opsM (x : LIns) (a b : Int) : MRun := ⟨[], [], [⟨opsF x a, [a, b, 0], 0, 3, 0⟩], 0, 0, [], 3⟩
def opsC (x : LIns) (a b : Int) : MCall := ⟨opsF x a, [a, b, 0], 0, 3, 0⟩
theorem ops_run (x : LIns) (a b : Int) : runU (opsU x a) [b] 9 = runM (opsU x a) 6 (insM (opsU x a) (opsM x a b) (opsC x a b) x) := by
  have s0 : startRun (opsU x a) [b] = ⟨[], [b], [⟨opsF x a, [0, 0, 0], 0, 0, 0⟩], 0, 0, [], 0⟩ := rfl
  have s1 : stepM (opsU x a) ⟨[], [b], [⟨opsF x a, [0, 0, 0], 0, 0, 0⟩], 0, 0, [], 1⟩ = ⟨[], [b], [⟨opsF x a, [a, 0, 0], 0, 1, 0⟩], 0, 0, [], 1⟩ := rfl
  have s2 : stepM (opsU x a) ⟨[], [b], [⟨opsF x a, [a, 0, 0], 0, 1, 0⟩], 0, 0, [], 2⟩ = ⟨[], [], [⟨opsF x a, [a, b, 0], 0, 2, 0⟩], 0, 0, [], 2⟩ := rfl
  have s3 : stepM (opsU x a) ⟨[], [], [⟨opsF x a, [a, b, 0], 0, 2, 0⟩], 0, 0, [], 3⟩ = insM (opsU x a) (opsM x a b) (opsC x a b) x := rfl
  unfold runU
  rw [s0, runM_succ, if_pos rfl]
  show runM _ 8 (stepM (opsU x a) ⟨[], [b], [⟨opsF x a, [0, 0, 0], 0, 0, 0⟩], 0, 0, [], 1⟩) = _
  rw [s1, runM_succ, if_pos rfl]
  show runM _ 7 (stepM (opsU x a) ⟨[], [b], [⟨opsF x a, [a, 0, 0], 0, 1, 0⟩], 0, 0, [], 2⟩) = _
  rw [s2, runM_succ, if_pos rfl]
  show runM _ 6 (stepM (opsU x a) ⟨[], [], [⟨opsF x a, [a, b, 0], 0, 2, 0⟩], 0, 0, [], 3⟩) = _
  rw [s3]
/-- the run tells 'want', or stops -/
structure OpsX (x : LIns) (a b want : Int) (is : Bool) : Prop where
  unit : UnitOk (opsU x a)
  status : (runU (opsU x a) [b] 9).status = if is then 5 else 2
  code : (runU (opsU x a) [b] 9).code = if is then want else 0
  steps : (runU (opsU x a) [b] 9).steps = if is then 5 else 3
  out : (runU (opsU x a) [b] 9).out = if is then [want] else []
theorem ops_put (x : LIns) (a b want : Int) : runM (opsU x a) 6 ((opsM x a b).top ((opsC x a b).put 2 want)) = ⟨[], [], [⟨opsF x a, [a, b, want], 0, 0, 0⟩], 5, want, [want], 5⟩ := rfl
theorem ops_two {k a b : Int} (h1 : 1 ≤ k) (h2 : k ≤ 16) : OpsX (opsTwo k) a b (Ar.two k a b) (Ar.twoOk k b) := by
  have e : runU (opsU (opsTwo k) a) [b] 9 = if Ar.twoOk k b then ⟨[], [], [⟨opsF (opsTwo k) a, [a, b, Ar.two k a b], 0, 0, 0⟩], 5, Ar.two k a b, [Ar.two k a b], 5⟩ else (opsM (opsTwo k) a b).stop 2 0 := by
    rw [ops_run, insM_4 rfl]
    show runM _ 6 (if Ar.twoOk k b = true then (opsM (opsTwo k) a b).top ((opsC (opsTwo k) a b).put 2 (Ar.two k a b)) else (opsM (opsTwo k) a b).stop 2 0) = _
    cases Ar.twoOk k b
    · rfl
    · rw [if_pos rfl, if_pos rfl]; exact ops_put _ _ _ _
  refine ⟨ops_unit _ _ (two_ok h1 h2), ?_, ?_, ?_, ?_⟩ <;> rw [e] <;> cases Ar.twoOk k b <;> rfl
theorem ops_one {k a b : Int} (h1 : 17 ≤ k) (h2 : k ≤ 19) : OpsX (opsOne k) a b (Ar.one k a) (Ar.oneOk k) := by
  have hok : Ar.oneOk k = true := by unfold Ar.oneOk; exact decide_eq_true ⟨h1, h2⟩
  have e : runU (opsU (opsOne k) a) [b] 9 = ⟨[], [], [⟨opsF (opsOne k) a, [a, b, Ar.one k a], 0, 0, 0⟩], 5, Ar.one k a, [Ar.one k a], 5⟩ := by
    rw [ops_run, insM_3 rfl]
    exact ops_put _ _ _ _
  refine ⟨ops_unit _ _ (one_ok h1 h2), ?_, ?_, ?_, ?_⟩ <;> rw [e, hok] <;> rfl
end Go.Proofs.Ytknccacfhknnaaa
