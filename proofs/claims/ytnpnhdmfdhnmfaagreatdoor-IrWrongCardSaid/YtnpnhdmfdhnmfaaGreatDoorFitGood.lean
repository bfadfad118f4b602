/- The functions that Fit makes may be, for flow. -/
import Derived.Test.YtnpnhdmfdhnmfaaGreatDoorFlowMay
namespace Go.Proofs.YtnpnhdmfdhnmfaaGreatDoor
open Go.RowKit

theorem ite_small {p : Prop} [Decidable p] {a b : Int} (ha : 0 ≤ a ∧ a < 10) (hb : 0 ≤ b ∧ b < 10) : 0 ≤ (if p then a else b) ∧ (if p then a else b) < 10 := by
  by_cases h : p
  · rw [if_pos h]; exact ha
  · rw [if_neg h]; exact hb
theorem pk_small (a : Int) : 0 ≤ pk a 10 ∧ pk a 10 < 10 := ⟨pk_lo a 10 (by omega), pk_hi a 10 (by omega)⟩
theorem fitIns_d (x : LIns) : 0 ≤ (fitIns x).d ∧ (fitIns x).d < 10 := ite_small ⟨by omega, by omega⟩ (pk_small _)
theorem fitIns_a (x : LIns) : 0 ≤ (fitIns x).a ∧ (fitIns x).a < 10 := ite_small ⟨by omega, by omega⟩ (pk_small _)
theorem fitIns_b (x : LIns) : 0 ≤ (fitIns x).b ∧ (fitIns x).b < 10 := ite_small (pk_small _) ⟨by omega, by omega⟩
theorem fitIns_args (x : LIns) : (∀ n ∈ (fitIns x).args, 0 ≤ n ∧ n < 10) ∧ (fitIns x).args.length ≤ 2 := by
  unfold fitIns
  simp only
  split
  · refine ⟨fun n hn => ?_, ?_⟩
    · obtain ⟨i, _, rfl⟩ := List.mem_map.1 hn
      exact pk_small _
    · have h1 := pk_hi x.n 3 (by omega)
      have h0 := pk_lo x.n 3 (by omega)
      simp
      omega
  · exact ⟨fun n hn => by simp at hn, by simp⟩
theorem fitIns_kind (x : LIns) : 1 ≤ (fitIns x).kind ∧ (fitIns x).kind ≤ 9 := by
  have h0 := pk_lo x.kind 9 (by omega)
  have h1 := pk_hi x.kind 9 (by omega)
  show 1 ≤ 1 + pk x.kind 9 ∧ 1 + pk x.kind 9 ≤ 9
  omega
theorem fitTerm_kind (t : LTerm) (n : Int) : 1 ≤ (fitTerm t n).kind ∧ (fitTerm t n).kind ≤ 4 := by
  have h0 := pk_lo t.kind 4 (by omega)
  have h1 := pk_hi t.kind 4 (by omega)
  show 1 ≤ 1 + pk t.kind 4 ∧ 1 + pk t.kind 4 ≤ 4
  omega
theorem fitTerm_a (t : LTerm) (n : Int) : 0 ≤ (fitTerm t n).a ∧ (fitTerm t n).a < 10 := ite_small ⟨by omega, by omega⟩ (pk_small _)
theorem fitTerm_to (t : LTerm) (n : Int) (hn : 0 < n) : 0 ≤ (fitTerm t n).to ∧ (fitTerm t n).to < n := by
  show 0 ≤ (if 1 + pk t.kind 4 ≤ 2 then pk t.to n else 0) ∧ (if 1 + pk t.kind 4 ≤ 2 then pk t.to n else 0) < n
  split
  · exact ⟨pk_lo _ _ hn, pk_hi _ _ hn⟩
  · omega
theorem fitTerm_els (t : LTerm) (n : Int) (hn : 0 < n) : 0 ≤ (fitTerm t n).els ∧ (fitTerm t n).els < n := by
  show 0 ≤ (if 1 + pk t.kind 4 = 2 then pk t.els n else 0) ∧ (if 1 + pk t.kind 4 = 2 then pk t.els n else 0) < n
  split
  · exact ⟨pk_lo _ _ hn, pk_hi _ _ hn⟩
  · omega
theorem place_of_small {n : Int} (h : 0 ≤ n ∧ n < 10) : placeP n = true := by unfold placeP; exact decide_eq_true (by omega)
theorem mem_next {t : LTerm} {k : Int} (h : k ∈ nextL t) : k = t.to ∨ k = t.els := by
  unfold nextL at h
  split at h
  · simpa using h
  · split at h
    · simp at h; exact .inl h
    · simp at h
theorem good_fitIns (x : LIns) : GoodIns (fitIns x) := by
  refine ⟨fun n hn => ?_, fun n hn => ?_, by have := (fitIns_args x).2; omega⟩
  · unfold usesL at hn
    rw [List.mem_append, List.mem_append] at hn
    rcases hn with (hn | hn) | hn
    · split at hn
      · rw [List.mem_singleton.1 hn]; exact place_of_small (fitIns_a x)
      · simp at hn
    · split at hn
      · rw [List.mem_singleton.1 hn]; exact place_of_small (fitIns_b x)
      · simp at hn
    · split at hn
      · exact place_of_small ((fitIns_args x).1 n hn)
      · simp at hn
  · unfold setsL at hn
    split at hn
    · simp at hn
    · rw [List.mem_singleton.1 hn]; exact place_of_small (fitIns_d x)
theorem good_fitBlock (b : LBlock) (n : Nat) (hn : 0 < n) : GoodB n (fitBlock b n) := by
  refine ⟨fun k hk => ?_, fun k hk => ?_, fun x hx => ?_⟩
  · rcases mem_next hk with rfl | rfl
    · exact fitTerm_to b.term n (by omega)
    · exact fitTerm_els b.term n (by omega)
  · unfold wantsL at hk
    split at hk
    · rw [List.mem_singleton.1 hk]; exact place_of_small (fitTerm_a b.term n)
    · simp at hk
  · obtain ⟨y, _, rfl⟩ := List.mem_map.1 hx
    exact good_fitIns y
theorem fit_len (raw : List LBlock) (k : Nat) : (fitFl raw k).blocks.length = (orOne (picks raw k 8)).length := by simp [fitFl]
theorem orOne_pos (l : List LBlock) : 0 < (orOne l).length := by
  unfold orOne
  split
  · simp
  · rename_i h; exact List.length_pos_iff.2 h
theorem orOne_le (l : List LBlock) (n : Nat) (h : l.length ≤ n) (hn : 1 ≤ n) : (orOne l).length ≤ n := by
  unfold orOne
  split
  · simpa using hn
  · exact h
theorem fit_pos (raw : List LBlock) (k : Nat) : 0 < (fitFl raw k).blocks.length := by rw [fit_len]; exact orOne_pos _
theorem fit_le (raw : List LBlock) (k : Nat) : (fitFl raw k).blocks.length ≤ 8 := by rw [fit_len]; exact orOne_le _ _ (picks_le raw k 8) (by omega)
theorem good_fit (raw : List LBlock) (k : Nat) : GoodF (fitFl raw k) := fun b hb => by
  rw [fit_len]
  obtain ⟨y, _, rfl⟩ := List.mem_map.1 hb
  exact good_fitBlock y _ (orOne_pos _)
theorem fit_ins (raw : List LBlock) (k : Nat) : ∀ b ∈ (fitFl raw k).blocks, b.ins.length ≤ 6 := fun b hb => by
  obtain ⟨y, _, rfl⟩ := List.mem_map.1 hb
  simp [fitBlock]
  omega
end Go.Proofs.YtnpnhdmfdhnmfaaGreatDoor
