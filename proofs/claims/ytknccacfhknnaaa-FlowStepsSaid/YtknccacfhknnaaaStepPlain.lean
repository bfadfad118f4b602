/- The statements' own words for what an instruction uses and sets, against stepS. -/
import Derived.Test.YtknccacfhknnaaaFlowLawPre
namespace Go.Proofs.Ytknccacfhknnaaa
open Go.RowKit

structure LawIns (x : LIns) : Prop where
  lo : 1 ≤ x.kind
  hi : x.kind ≤ 9
  args : x.kind ≠ 9 → x.args = []
theorem law_fitIns (x : LIns) : LawIns (fitIns x) := by
  refine ⟨(fitIns_kind x).1, (fitIns_kind x).2, fun h => ?_⟩
  unfold fitIns at h ⊢
  simp only at h ⊢
  rw [if_neg h]
theorem law_fit (raw : List LBlock) (k : Nat) : ∀ b ∈ (fitFl raw k).blocks, ∀ x ∈ b.ins, LawIns x := fun b hb x hx => by
  obtain ⟨y, _, rfl⟩ := List.mem_map.1 hb
  simp only [fitBlock, List.mem_map] at hx
  obtain ⟨z, _, rfl⟩ := hx
  exact law_fitIns z
theorem kinds9 {k : Int} (h1 : 1 ≤ k) (h2 : k ≤ 9) : k = 1 ∨ k = 2 ∨ k = 3 ∨ k = 4 ∨ k = 5 ∨ k = 6 ∨ k = 7 ∨ k = 8 ∨ k = 9 := by omega
theorem rise_bool {S : Int → Bool} {v : Int} (h : placeP v = true) : decide (v ∈ riseL S) = S v := by
  rw [Bool.eq_iff_iff, decide_eq_true_iff, mem_riseL]
  exact ⟨fun x => x.2, fun x => ⟨h, x⟩⟩
theorem steps_drop {l : List LIns} {m : Nat} (h : m < l.length) (S : Int → Bool) : stepsS (l.drop m) S = stepS (stepsS (l.drop (m + 1)) S) l[m] := by
  rw [List.drop_eq_getElem_cons h]
  rfl
/-- the end of a block that hands back a -/
theorem end_ret (a : Int) (L : Nat → Int → Bool) (v : Int) : endS ⟨3, a, 0, 0⟩ L v = decide (a = v) := by
  rw [Bool.eq_iff_iff, endS_iff]
  simp [wantsL, nextL]
  exact eq_comm
def retF (f : LFlow) (l : List LIns) (a : Int) : LFlow := ⟨f.name, f.params, f.values, [⟨l, ⟨3, a, 0, 0⟩⟩]⟩
theorem retF_good (f : LFlow) (l : List LIns) (a : Int) (hl : ∀ x ∈ l, GoodIns x) (ha : placeP a = true) : GoodF (retF f l a) := fun b hb => by
  obtain rfl : b = ⟨l, ⟨3, a, 0, 0⟩⟩ := by simpa [retF] using hb
  refine ⟨fun k hk => ?_, fun k hk => ?_, hl⟩
  · simp [nextL] at hk
  · have : k = a := by simpa [wantsL] using hk
    rw [this]; exact ha
theorem retF_live (f : LFlow) (l : List LIns) (a : Int) : liveS (retF f l a) 0 = stepsS l (endS ⟨3, a, 0, 0⟩ (liveS (retF f l a))) := liveS_eq (retF f l a) 0 (by simp [retF])
theorem slr_one_blk {w : World} {g : Nat} {T : TypeId} {ok : Nat → Prop} {vi : Value} {l : List LIns} {k a tt els : Int} (h : Blk w g T #[vi, .int .i64 k, .int .i64 a, .int .i64 tt, .int .i64 els]) (hg : ok g) (hi : SlR w ok 8 (RIns w ok) vi l) :
    SlR w ok 5 (RBlock w ok) (.slice (some ⟨g, 0, none⟩) 1 1) [⟨l, ⟨k, a, tt, els⟩⟩] := by
  refine ⟨_, 1, rfl, Nat.le_refl 1, by unfold maxLen; omega, .inr ⟨g, 0, rfl, hg, ?_⟩⟩
  intro i hi'
  have hi1 : i < 1 := hi'
  obtain rfl : i = 0 := by omega
  refine ⟨vi :: termCells ⟨k, a, tt, els⟩, rfl, ⟨vi, rfl, hi⟩, fun j hj => ?_⟩
  have h5 : j < 5 := hj
  rcases (by omega : j = 0 ∨ j = 1 ∨ j = 2 ∨ j = 3 ∨ j = 4) with rfl | rfl | rfl | rfl | rfl
  · exact h.cell 0
  · exact h.cell 1
  · exact h.cell 2
  · exact h.cell 3
  · exact h.cell 4
end Go.Proofs.Ytknccacfhknnaaa
