/- What a run has to do with one of more steps, and with one that has more to read. -/
import Derived.Test.YtknccacfhknnaaaAwake11
import Derived.Test.YtknccacfhknnaaaIrFit
namespace Go.Proofs.Ytknccacfhknnaaa

theorem runU_add (u : LUnit) (inp : List Int) (n m : Nat) : runU u inp (n + m) = runM u m (runU u inp n) := by unfold runU; rw [runM_add]
theorem more_out (u : LUnit) (inp : List Int) (n m : Nat) : ∃ t, (runU u inp (n + m)).out = (runU u inp n).out ++ t := by
  rw [runU_add]
  obtain ⟨t, ht⟩ := runM_out u m (runU u inp n)
  exact ⟨t, ht.symm⟩
theorem more_steps (u : LUnit) (inp : List Int) (n m : Nat) : (runU u inp n).steps ≤ (runU u inp (n + m)).steps := by
  rw [runU_add]
  exact (runM_steps u m _).1
theorem more_end (u : LUnit) (inp : List Int) (n m : Nat) (h : (runU u inp n).status ≠ 0) : runU u inp (n + m) = runU u inp n := by
  rw [runU_add, runM_end h]
theorem start_inp {u : LUnit} (hu : UnitOk u) (x y : List Int) : startRun u y = (startRun u x).inpd y ∧ (startRun u x).inp = x := by
  obtain ⟨f, hf, _⟩ := main_find hu
  rw [startRun_eq hf, startRun_eq hf]
  exact ⟨rfl, rfl⟩
/-- a run that is padded, by what is read where there is nothing, is as it was -/
theorem pad_run {u : LUnit} (hu : UnitOk u) (inp e : List Int) (n j : Nat) (h : n ≤ j) : ∃ y, runU u (inp ++ (List.replicate j (-1) ++ e)) n = (runU u inp n).inpd y := by
  unfold runU
  obtain ⟨h1, h2⟩ := start_inp hu inp (inp ++ (List.replicate j (-1) ++ e))
  rw [h1]
  have h3 := runM_pad u e n j (startRun u inp) h
  rw [h2] at h3
  exact h3
/-! ### a run that goes on has no code -/
theorem ite_code {p : Prop} [Decidable p] {a b : MRun} (ha : a.status = 0 → a.code = 0) (hb : b.status = 0 → b.code = 0) : (if p then a else b).status = 0 → (if p then a else b).code = 0 := by split <;> assumption
theorem push_code (u : LUnit) (m : MRun) (s : ByteArray) (args : List Int) (into : Int) (h : m.code = 0) : (m.push u s args into).code = 0 := by
  unfold MRun.push; cases u.flows.find? (fun f => decide (f.name = s)) <;> exact h
theorem pop_code (m : MRun) (into n : Int) (h : m.code = 0) : (m.pop into n).status = 0 → (m.pop into n).code = 0 := by
  unfold MRun.pop
  cases m.calls.tail with
  | nil => intro e; exact absurd (show (1 : Int) = 0 from e) (by decide)
  | cons a r => intro _; exact h
theorem stop_code (m : MRun) (s c : Int) (hs : s ≠ 0) : (m.stop s c).status = 0 → (m.stop s c).code = 0 := fun e => absurd e hs
theorem insM_code (u : LUnit) (m : MRun) (c : MCall) (x : LIns) (h : m.code = 0) : (insM u m c x).status = 0 → (insM u m c x).code = 0 := by
  unfold insM
  repeat' apply ite_code
  all_goals first | exact fun _ => h | exact stop_code _ _ _ (by decide) | exact fun _ => push_code _ _ _ _ _ h
theorem termM_code (m : MRun) (c : MCall) (t : LTerm) (h : m.code = 0) : (termM m c t).status = 0 → (termM m c t).code = 0 := by
  unfold termM
  repeat' apply ite_code
  all_goals first | exact fun _ => h | exact pop_code _ _ _ h | exact stop_code _ _ _ (by decide)
theorem stepM_code (u : LUnit) (m : MRun) (h : m.code = 0) : (stepM u m).status = 0 → (stepM u m).code = 0 := by
  unfold stepM
  cases m.calls with
  | nil => exact fun _ => h
  | cons c r =>
    simp only []
    cases c.flow.blocks[c.block.toNat]? with
    | none => exact fun _ => h
    | some b =>
      simp only []
      split
      · exact termM_code _ _ _ h
      · cases b.ins[c.at_.toNat]? with
        | none => exact fun _ => h
        | some x => exact insM_code u _ _ _ h
theorem runM_code (u : LUnit) : ∀ (k : Nat) (m : MRun), (m.status = 0 → m.code = 0) → (runM u k m).status = 0 → (runM u k m).code = 0
  | 0, m, h => h
  | k + 1, m, h => by
    rw [runM_succ]
    by_cases h0 : m.status = 0
    · rw [if_pos h0]
      exact runM_code u k _ (stepM_code u _ (h h0))
    · rw [if_neg h0]
      exact h
theorem run_code {u : LUnit} (hu : UnitOk u) (inp : List Int) (n : Nat) (h : (runU u inp n).status = 0) : (runU u inp n).code = 0 := by
  obtain ⟨f, hf, _⟩ := main_find hu
  refine runM_code u n _ (fun _ => ?_) h
  rw [startRun_eq hf]; rfl
end Go.Proofs.Ytknccacfhknnaaa
