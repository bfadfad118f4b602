/- The generator's programs are made of what there is: plain laws. -/
import Derived.Test.YtmignlclfbaifaaGreatTrProg
import Derived.Test.YtmignlclfbaifaaGreatTrCheck
import Derived.Test.YtmignlclfbaifaaGreatTrWrong
import Derived.Test.YtmignlclfbaifaaGreatTrPlaces
import Derived.Test.YtmignlclfbaifaaGreatTrAw
import Derived.Test.YtmignlclfbaifaaGreatTrRow
namespace Go.Proofs.YtmignlclfbaifaaGreat

/-- how many statements there are at most in rows of up to four, d deep -/
def thinN : Nat → Nat
  | 0 => 0
  | d + 1 => 1 + 8 * thinN d
theorem thin_len : ∀ (d D : Nat) (l : List LStmt) (loop : Bool), (∀ s ∈ l, thinS d s) → (allL D l loop).length ≤ l.length * thinN d
  | _, 0, _, _, _ => Nat.zero_le _
  | 0, D + 1, l, _, h => by
    cases l with
    | nil => exact Nat.zero_le _
    | cons s r => exact (h s (by simp)).elim
  | d + 1, D + 1, l, loop, h => by
    induction l with
    | nil => exact Nat.zero_le _
    | cons s r ih =>
      obtain ⟨h1, h2, h3, h4⟩ := h s (by simp)
      have e1 := thin_len d D s.thn (loop || decide (s.kind = 4)) h3
      have e2 := thin_len d D s.els loop h4
      have e3 := ih fun x hx => h x (by simp [hx])
      have m1 : s.thn.length * thinN d ≤ 4 * thinN d := Nat.mul_le_mul_right _ h1
      have m2 : s.els.length * thinN d ≤ 4 * thinN d := Nat.mul_le_mul_right _ h2
      show ((s :: r).flatMap fun s => (s, loop) :: (allL D s.thn (loop || decide (s.kind = 4)) ++ allL D s.els loop)).length ≤ _
      rw [List.flatMap_cons, List.length_append, List.length_cons, List.length_append, List.length_cons, Nat.succ_mul]
      have e4 : (r.flatMap fun s => (s, loop) :: (allL D s.thn (loop || decide (s.kind = 4)) ++ allL D s.els loop)).length ≤ r.length * thinN (d + 1) := e3
      have e5 : thinN (d + 1) = 1 + 8 * thinN d := rfl
      omega
theorem gbody_len (D : Nat) {c : Scp} {l : List LStmt} (h : ∀ s ∈ l, GoodS c 4 false s) (hl : l.length ≤ 4) : (allL D l false).length ≤ 10000 := by
  have e := thin_len 4 D l false fun s hs => (h s hs).2
  have m : l.length * thinN 4 ≤ 4 * thinN 4 := Nat.mul_le_mul_right _ hl
  have v : thinN 4 = 585 := rfl
  omega
variable {p : LProg}
theorem GenP.globals (h : GenP p) : ∃ k0 k1, k0 ≤ 2 ∧ k1 ≤ 2 ∧ globalsL p = downTo nmA k0 0 ++ (mainN :: downTo nmF k1 0) := by
  obtain ⟨k0, h0, e0⟩ := h.arrs
  obtain ⟨k1, h1, e1⟩ := h.funs
  exact ⟨k0, k1, h0, h1, by unfold globalsL; rw [e0, e1]⟩
theorem gl_nodup {k0 k1 : Nat} (h0 : k0 ≤ 2) (h1 : k1 ≤ 2) : (downTo nmA k0 0 ++ (mainN :: downTo nmF k1 0)).Nodup := by
  rcases (by omega : k0 = 0 ∨ k0 = 1 ∨ k0 = 2) with rfl | rfl | rfl <;> rcases (by omega : k1 = 0 ∨ k1 = 1 ∨ k1 = 2) with rfl | rfl | rfl <;> decide +kernel
theorem gl_smallB {k0 k1 : Nat} (h0 : k0 ≤ 2) (h1 : k1 ≤ 2) : ∀ s ∈ downTo nmA k0 0 ++ (mainN :: downTo nmF k1 0), (nameB s && decide (s.size ≤ 4) && !hasS (paramsL ++ localsL) s) = true := by
  rcases (by omega : k0 = 0 ∨ k0 = 1 ∨ k0 = 2) with rfl | rfl | rfl <;> rcases (by omega : k1 = 0 ∨ k1 = 1 ∨ k1 = 2) with rfl | rfl | rfl <;> decide +kernel
theorem gl_small {k0 k1 : Nat} (h0 : k0 ≤ 2) (h1 : k1 ≤ 2) : ∀ s ∈ downTo nmA k0 0 ++ (mainN :: downTo nmF k1 0), nameB s = true ∧ s.size ≤ 4 ∧ s ∉ paramsL ++ localsL := fun s hs => by
  have h := gl_smallB h0 h1 s hs
  simp only [Bool.and_eq_true, decide_eq_true_eq, Bool.not_eq_true'] at h
  exact ⟨h.1.1, h.1.2, fun hm => by rw [hasS_iff.2 hm] at h; exact absurd h.2 (by decide)⟩
theorem vars_smallB : ∀ s ∈ paramsL ++ localsL, (nameB s && decide (s.size ≤ 4)) = true := by decide +kernel
theorem vars_small : ∀ s ∈ paramsL ++ localsL, nameB s = true ∧ s.size ≤ 4 := fun s hs => by
  have h := vars_smallB s hs
  simp only [Bool.and_eq_true, decide_eq_true_eq] at h
  exact h
theorem vars_nodup : (paramsL ++ localsL).Nodup := by decide +kernel
theorem take_nodup {k m : Nat} : (paramsL.take k ++ localsL.take m).Nodup := by
  have h := List.nodup_append.1 vars_nodup
  refine List.nodup_append.2 ⟨List.Sublist.nodup (List.take_sublist _ _) h.1, List.Sublist.nodup (List.take_sublist _ _) h.2.1, fun a ha b hb => h.2.2 a (List.mem_of_mem_take ha) b (List.mem_of_mem_take hb)⟩
theorem GenP.vars (h : GenP p) {f : LFunc} (hf : f ∈ p.funcs) : ∀ s ∈ f.params ++ f.locals, s ∈ paramsL ++ localsL := by
  obtain ⟨k, _, e1⟩ := h.params f hf
  obtain ⟨m, _, e2⟩ := h.locs f hf
  intro s hs
  rw [e1, e2] at hs
  rcases List.mem_append.1 hs with h1 | h1
  · exact List.mem_append.2 (.inl (List.mem_of_mem_take h1))
  · exact List.mem_append.2 (.inr (List.mem_of_mem_take h1))
theorem GenP.few (h : GenP p) : p.funcs.length ≤ 3 ∧ p.arrays.length ≤ 2 := by
  obtain ⟨k0, h0, e0⟩ := h.arrs
  obtain ⟨k1, h1, e1⟩ := h.funs
  have q0 := congrArg List.length e0
  have q1 := congrArg List.length e1
  rw [List.length_map] at q0 q1
  constructor
  · rw [q1]; unfold downTo; simp; omega
  · rw [q0]; unfold downTo; simp; omega
theorem GenP.pos (h : GenP p) : 0 < p.funcs.length := by
  obtain ⟨f, r, e, _⟩ := h.main
  rw [e]; simp
theorem GenP.made (h : GenP p) : MadeP p := by
  obtain ⟨k0, k1, h0, h1, eg⟩ := h.globals
  refine ⟨⟨by rw [eg]; exact gl_nodup h0 h1, fun s hs => (gl_small h0 h1 s (eg ▸ hs)).1, fun a ha => ?_, ?_, fun f hf => ?_⟩, fun s hs => (gl_small h0 h1 s (eg ▸ hs)).2.1, fun f hf s hs => (vars_small s (h.vars hf s hs)).2, h.few.1, h.few.2⟩
  · rcases h.sizes a ha with e | e | e | e <;> rw [e] <;> decide
  · obtain ⟨f, r, e, hp⟩ := h.main
    obtain ⟨k1, _, e1⟩ := h.funs
    rw [e, List.map_cons] at e1
    injection e1 with e1 _
    exact ⟨f, by rw [e]; simp, e1, hp⟩
  · obtain ⟨k, hk, e1⟩ := h.params f hf
    obtain ⟨m, hm, e2⟩ := h.locs f hf
    refine ⟨by rw [e1, e2]; exact take_nodup, fun s hs => ⟨(vars_small s (h.vars hf s hs)).1, fun hg => (gl_small h0 h1 s (eg ▸ hg)).2.2 (h.vars hf s hs)⟩, by rw [e1, List.length_take]; omega, fun s hs => ((h.body f hf).1 s hs).1⟩
/-- bounds of a program's rows, with room for what the laws put in -/
theorem few_of {D : Nat} (ha : p.arrays.length ≤ 400) (hf : p.funcs.length ≤ 400) (hp : ∀ f ∈ p.funcs, f.params.length ≤ 400 ∧ f.locals.length ≤ 400 ∧ (allL D f.body false).length ≤ 20000) : FewP D p :=
  ⟨ha, hf, fun f h => (hp f h).1, fun f h => (hp f h).2.1, fun f h => Nat.le_trans (hp f h).2.2 (by decide)⟩
theorem GenP.func (h : GenP p) (D : Nat) {f : LFunc} (hf : f ∈ p.funcs) : f.params.length ≤ 6 ∧ f.locals.length ≤ 5 ∧ f.body.length ≤ 4 ∧ (allL D f.body false).length ≤ 10000 := by
  obtain ⟨k, hk, e1⟩ := h.params f hf
  obtain ⟨m, hm, e2⟩ := h.locs f hf
  obtain ⟨h3, h4⟩ := h.body f hf
  exact ⟨by rw [e1, List.length_take]; omega, by rw [e2, List.length_take]; omega, h4, gbody_len D h3 h4⟩
theorem GenP.fewP (h : GenP p) (D : Nat) : FewP D p :=
  few_of (by have := h.few.2; omega) (by have := h.few.1; omega) fun f hf => by have := h.func D hf; omega
open Go.RowKit
/-- what was made, as it lies -/
theorem ProgPost.rows {w w' : World} {e : Ending} (h : ProgPost w e w') : ∃ (p : LProg) (A1 A2 : Option Addr) (c1 c2 : Nat), e = .returned (.agg #[.slice A1 p.arrays.length c1, .slice A2 p.funcs.length c2]) ∧ GenP p ∧ Below w.heap.size w w' ∧
    SlR w' (· < w'.heap.size) 2 RArr (.slice A1 p.arrays.length c1) p.arrays ∧ SlR w' (· < w'.heap.size) 4 (RFunc 8 w' (· < w'.heap.size)) (.slice A2 p.funcs.length c2) p.funcs := by
  obtain ⟨p, A1, A2, c1, c2, B1, lo, B3, css1, css2, he, hg, hb, h1, h2, h3, hA, hlt, hF⟩ := h
  exact ⟨p, A1, A2, c1, c2, he, hg, hb, (hA.slr mono_arr).imp (fun _ h => h.2) (fun _ _ => rfl) fun _ _ _ r => r, hF.slr (mono_func 8) (fun _ h => h.2.1) fun g e => (hF.row.lt g e).2⟩
end Go.Proofs.YtmignlclfbaifaaGreat
