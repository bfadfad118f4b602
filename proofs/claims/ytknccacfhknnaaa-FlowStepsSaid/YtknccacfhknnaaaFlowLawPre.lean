/- What the statements of chapter 13 begin with: a function that Fit makes, as it lies in memory. -/
import Derived.Test.YtknccacfhknnaaaAwake13
import Derived.Test.YtknccacfhknnaaaFit
import Derived.Test.YtknccacfhknnaaaFitGood
import Derived.Test.YtknccacfhknnaaaArgs
namespace Go.Proofs.Ytknccacfhknnaaa
open Go.RowKit Go.Maps

/-- the three functions of a unit that Fit makes, in memory -/
def FitFlows (raw : List LBlock) (b off : Nat) (w : World) : Prop :=
  ∀ k, k < 3 → ∃ A c, w.cell? ⟨b, off + k * 4, none⟩ = some (.string (fitFl raw k).name) ∧ w.cell? ⟨b, off + k * 4 + 1, none⟩ = some (.int .i64 (fitFl raw k).params) ∧ w.cell? ⟨b, off + k * 4 + 2, none⟩ = some (.int .i64 (fitFl raw k).values) ∧ w.cell? ⟨b, off + k * 4 + 3, none⟩ = some (.slice A (fitFl raw k).blocks.length c) ∧
    SlR w (· < w.heap.size) 5 (RBlock w (· < w.heap.size)) (.slice A (fitFl raw k).blocks.length c) (fitFl raw k).blocks
theorem fit_flows (raw : List LBlock) (hI : ∀ x ∈ raw, x.I) (vr : Value) (w : World) (hv : SlR w (· < w.heap.size) 5 (RBlock w (· < w.heap.size)) vr raw) :
    Calls Try.prog 12 #[vr] w fun e w' => ∃ Aa ca b off c, e = .returned (.agg #[.slice Aa 2 ca, .slice (some ⟨b, off, none⟩) 3 c]) ∧ Below w.heap.size w w' ∧ b < w'.heap.size ∧ FitFlows raw b off w' := by
  refine (fit_any raw hI vr w hv).mono ?_
  rintro e w' ⟨va, vf, css, rfl, hb, hva, ho⟩
  obtain ⟨Aa, ca, e0, _, _⟩ := hva.val
  subst e0
  have hs := ho.slr mono_flow
  have hl : (fitFlows raw 3).length = 3 := by simp [fitFlows]
  obtain ⟨b, off, c, hf, _, _, hok, hel⟩ := hs.form (by omega)
  rw [hl] at hf
  subst hf
  refine ⟨Aa, ca, b, off, c, rfl, hb, hok.2, fun k hk => ?_⟩
  have e : ∀ h : k < (fitFlows raw 3).length, (fitFlows raw 3)[k]'h = fitFl raw k := fun h => by simp [fitFlows]
  obtain ⟨cs, _, hR, hc⟩ := hel k (by omega)
  rw [e] at hR
  obtain ⟨vb, hcs, hbl⟩ := hR
  obtain ⟨A, cc, hvb, _, _⟩ := hbl.val
  subst hvb
  subst hcs
  exact ⟨A, cc, hc.at_ (j := 0) rfl, hc.at_ (j := 1) rfl, hc.at_ (j := 2) rfl, hc.at_ (j := 3) rfl, hbl.imp (fun _ h => h.2) (Keeps.refl _ _) (fun _ _ _ r => r.imp (fun _ h => h.2) (Keeps.refl _ _))⟩
theorem field_flows (Aa : Option Addr) (ca b off c : Nat) (w : World) : Sem.run Try.prog (Instr.field 29 (.agg #[.slice Aa 2 ca, .slice (some ⟨b, off, none⟩) 3 c]) 1) w = .ok (.slice (some ⟨b, off, none⟩) 3 c) w := by kernel_rfl
theorem pick3 (a : Int) (ha : I64 a) : ∃ k : Nat, k < 3 ∧ ∀ w, Calls Try.prog 13 #[.int .i64 a, .int .i64 3] w fun e w' => e = .returned (.int .i64 (k : Int)) ∧ w = w' := by
  have h0 := pk_lo a 3 (by omega)
  have h1 := pk_hi a 3 (by omega)
  refine ⟨(pk a 3).toNat, by omega, fun w => (pick13_any a 3 ha.1 ha.2 (by omega) w).mono ?_⟩
  rintro e w' ⟨he, hw⟩
  refine ⟨?_, hw⟩
  rw [he]
  congr 2
  omega
/-- leads an end to block i -/
def leadsB (t : LTerm) (i : Nat) : Bool := (decide (t.kind ≤ 2) && decide (t.to = i)) || (decide (t.kind = 2) && decide (t.els = i))
theorem leads_next {t : LTerm} (h1 : 1 ≤ t.kind) (i : Nat) : leadsB t i = true ↔ (i : Int) ∈ nextL t := by
  unfold leadsB nextL
  by_cases h2 : t.kind = 2
  · by_cases hte : t.to = t.els
    · simp [h2, hte]
      exact eq_comm
    · simp [h2, hte]
      constructor
      · rintro (h | h)
        · exact .inl h.symm
        · exact .inr h.symm
      · rintro (h | h)
        · exact .inl h.symm
        · exact .inr h.symm
  · by_cases h3 : t.kind = 1
    · simp [h3]
      exact eq_comm
    · have : ¬ t.kind ≤ 2 := by omega
      simp [h2, h3, this]
end Go.Proofs.Ytknccacfhknnaaa
