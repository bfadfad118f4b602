/- Chapter 13's example, as plain facts. -/
import Derived.Test.YtknccacfhknnaaaFlowAfter
namespace Go.Proofs.Ytknccacfhknnaaa
open Go.RowKit

def awI : LIns := ⟨2, 1, 0, 0, 0, 0, sNone, []⟩
def awB0 : LBlock := ⟨[awI], ⟨3, 1, 0, 0⟩⟩
def awB1 : LBlock := ⟨[], ⟨1, 0, 1, 0⟩⟩
def awF : LFlow := ⟨sF, 1, 2, [awB0, awB1]⟩

theorem rise_eq {S : Int → Bool} {l : List Int} (h : ∀ v, S v = true ↔ v ∈ l) (hl : l.Pairwise (· < ·)) (hp : ∀ v ∈ l, placeP v = true) : riseL S = l := by
  have h1 : (riseL S).Perm l := (List.perm_ext_iff_of_nodup (nodup_riseL S) (hl.imp fun h e => by omega)).2 fun v => by
    rw [mem_riseL]
    exact ⟨fun h2 => (h v).1 h2.2, fun h2 => ⟨hp v h2, (h v).2 h2⟩⟩
  exact List.Perm.eq_of_pairwise (le := fun a b : Int => a ≤ b) (fun a b _ _ h1 h2 => by omega) ((rise_sorted S).imp fun h => of_decide_eq_true h) (hl.imp fun h => by omega) h1
theorem aw_next0 : nextL awB0.term = [] := by decide
theorem aw_next1 : nextL awB1.term = [1] := by decide
theorem aw_wants0 : wantsL awB0.term = [1] := by decide
theorem aw_wants1 : wantsL awB1.term = [] := by decide
theorem aw_uses : usesL awI = [0] := by decide
theorem aw_sets : setsL awI = [1] := by decide
theorem aw_end (L : Nat → Int → Bool) (v : Int) : endS awB0.term L v = true ↔ v ∈ [(1 : Int)] := by
  rw [endS_iff, aw_wants0, aw_next0]
  simp
theorem aw_trans0 (L : Nat → Int → Bool) (v : Int) : transS awB0 L v = true ↔ v ∈ [(0 : Int)] := by
  show stepS (endS awB0.term L) awI v = true ↔ _
  rw [stepS_iff, aw_uses, aw_sets, aw_end]
  constructor
  · rintro (h | ⟨h1, h2⟩)
    · exact h
    · exact absurd h2 h1
  · exact .inl
theorem aw_pre : Pre awF (fun i v => decide (i = 0 ∧ v = 0)) := fun i h v hv => by
  have hi : i < 2 := h
  rcases (by omega : i = 0 ∨ i = 1) with rfl | rfl
  · have h1 := (aw_trans0 _ v).1 hv
    simp at h1
    simp [h1]
  · have h1 : endS awB1.term (fun i v => decide (i = 0 ∧ v = 0)) v = true := hv
    rw [endS_iff, aw_wants1, aw_next1] at h1
    simp at h1
theorem aw_live0 (v : Int) : liveS awF 0 v = true ↔ v ∈ [(0 : Int)] := by
  rw [liveS_eq awF 0 (by decide)]
  exact aw_trans0 _ v
theorem aw_live1 (v : Int) : liveS awF 1 v = true ↔ v ∈ ([] : List Int) := by
  constructor
  · intro h
    have := liveS_le aw_pre 1 v h
    simp at this
  · intro h; simp at h
theorem aw_lives : (List.range awF.blocks.length).map (fun i => riseL (liveS awF i)) = [[0], []] := by
  show [riseL (liveS awF 0), riseL (liveS awF 1)] = _
  rw [rise_eq aw_live0 (by simp) (by decide), rise_eq aw_live1 (by simp) (by decide)]
theorem aw_afters : afterL awB0.ins (endS awB0.term (liveS awF)) = [[1], [1]] := by
  show [riseL (endS awB0.term (liveS awF)), riseL (endS awB0.term (liveS awF))] = _
  rw [rise_eq (aw_end _) (by simp) (by decide)]
theorem aw_good : GoodF awF := fun b hb => by
  have hb' : b = awB0 ∨ b = awB1 := by simpa [awF] using hb
  rcases hb' with rfl | rfl
  · refine ⟨fun k hk => ?_, fun k hk => ?_, fun x hx => ?_⟩
    · rw [aw_next0] at hk; simp at hk
    · rw [aw_wants0] at hk; simp at hk; subst hk; decide
    · have : x = awI := by simpa [awB0] using hx
      subst this
      refine ⟨fun n hn => ?_, fun n hn => ?_, by decide⟩
      · rw [aw_uses] at hn; simp at hn; subst hn; decide
      · rw [aw_sets] at hn; simp at hn; subst hn; decide
  · refine ⟨fun k hk => ?_, fun k hk => ?_, fun x hx => ?_⟩
    · rw [aw_next1] at hk; simp at hk; subst hk; decide
    · rw [aw_wants1] at hk; simp at hk
    · simp [awB1] at hx
theorem aw_reach {M : List Bool} (hl : M.length = awF.blocks.length) (hv : Visited (succF awF) 0 (List.replicate awF.blocks.length false) M) : M = [true, false] := by
  have hl2 : M.length = 2 := hl
  have h0 := hv.at_
  have h1 : M[1]? ≠ some true := fun h => by
    have h2 := hv.least (fun k => k = 0) (fun p hp s hs => by
      subst hp
      have : succF awF 0 = [] := by decide
      rw [this] at hs
      simp at hs) rfl (fun k hk => by
        rw [List.getElem?_replicate] at hk
        split at hk <;> simp at hk) 1 h
    omega
  match M, hl2 with
  | [a, b], _ =>
    simp at h0 h1
    subst h0
    subst h1
    rfl
end Go.Proofs.Ytknccacfhknnaaa
