/- The statement 'IrrunStepsSaid', out of its walk. -/
import Derived.Test.YtknccacfhknnaaaIrrunSteps
import Derived.Test.YtknccacfhknnaaaArgInts
import Derived.Carry
import Derived.SizedLaws
namespace Go.Proofs.Ytknccacfhknnaaa
open Go.ChangeShapes Go.WideShapes Go.ChangeAt Go.RowKit

/-! ### from the walk to the statement -/
theorem laidOutIrrunSteps_ : laidOutB Try.prog = true := by kernel_rfl
theorem bytesIntIrrunSteps_ : Try.checked.prog.bytesOf 3 = 8 := by kernel_rfl
set_option maxRecDepth 100000 in
theorem irrunSteps_lifted (os : Os) (started : os.Started) (H : Type) (enc : TypeId × Value → H) :
    ReturnsInHanded {} Try.checked os 7 .any (Rows.irrunStepsSpec.pre6 enc Try.prog Try.f7 Rows.irrunStepsRow.domain false) (Rows.irrunStepsSpec.post enc Try.prog Try.f7 false true false false) := by
  refine returnsInHanded_of_change_sized (C := Try.checked) own_ started (by kernel_rfl) Try.func7
    (ChangeSpec.witness6 (enc := enc) (C := Try.checked) false ⟨#[], #[.slice none 0 0, .slice none 0 0, .int .i64 0, .int .i64 0], []⟩ 8 (by kernel_rfl) (by kernel_rfl) (by kernel_rfl) (by kernel_rfl)) ?_
  intro W base args ds gs before hval0 hW hcnd hsz _
  have hval : ∀ (j : Nat) t v, Try.f7.params[j]? = some t → args[j]? = some v → Value.okWide Try.prog W .any base t v := hval0
  have hW' := hW
  obtain ⟨p, q, hA0, hV, rfl, hfz, hnd⟩ := hW
  have hA : DataW.TrodAll enc Try.prog W 0 (fun _ => true) true Try.f7.params.toList args.toList ds p := hA0
  rw [Try.params7] at hA hval
  obtain ⟨v0, vs0, d0, ds0, p0, q0, hargs, rfl, rfl, h0, r0⟩ := trodAll_cons hA
  obtain ⟨v1, vs1, d1, ds1, p1, q1, rfl, rfl, rfl, h1, r1⟩ := trodAll_cons r0
  obtain ⟨v2, vs2, d2, ds2, p2, q2, rfl, rfl, rfl, h2, r2⟩ := trodAll_cons r1
  obtain ⟨v3, vs3, d3, ds3, p3, q3, rfl, rfl, rfl, h3, r3⟩ := trodAll_cons r2
  obtain ⟨rfl, rfl, rfl⟩ := trodAll_nil r3
  obtain rfl : args = #[v0, v1, v2, v3] := by cases args; simp_all
  obtain ⟨rfl, rfl⟩ := trodVars_none hV
  clear hA0 hval0 hargs
  obtain ⟨A0, n0, c0, rfl⟩ := okWide_slice Try.underlying22 (hval 0 22 v0 rfl rfl)
  obtain ⟨raw0, hI0, hsl0⟩ := open_blocks h0 ⟨_, _, _, rfl⟩
  obtain ⟨A1, n1, c1, rfl⟩ := okWide_slice Try.underlying41 (hval 1 41 v1 rfl rfl)
  obtain ⟨l1, hsl1, hd1⟩ := open_ints_sl h1 ⟨_, _, _, rfl⟩
  have hr1 : (l1.length + 203) * 8 ≤ 140737488355328 := by
    rcases hd1 with ⟨_, hnil⟩ | ⟨es, sp, hde, hel⟩
    · rw [hnil]; simp
    · subst hde
      have h := sized_slice hsz (j := 1) (t := 41) (by rw [Try.params7]; rfl) rfl Try.underlying41
      rw [bytesIntIrrunSteps_] at h
      unfold reachBytes at h
      omega
  obtain ⟨a2, rfl, rfl, rfl, w2⟩ := open_int Try.underlying3 (hval 2 3 v2 rfl rfl) h2
  obtain ⟨a3, rfl, rfl, rfl, w3⟩ := open_int Try.underlying3 (hval 3 3 v3 rfl rfl) h3
  simp only [List.append_nil] at hW'
  refine (irrunSteps_walk (.slice A0 n0 c0) (.slice A1 n1 c1) a2 a3 raw0 hI0 l1 hr1 W hsl0 hsl1 w2 w3).mono fun e W' ⟨he, hg⟩ => ?_
  subst he
  have ht := (trodAll_cons_mk (Below.trod laidOutIrrunSteps_ (by kernel_rfl) (of_decide_eq_true (by kernel_rfl)) h0 hg (fun x hx => hW'.lt x (by simp [hx]))) (trodAll_cons_mk (Below.trod laidOutIrrunSteps_ (by kernel_rfl) (of_decide_eq_true (by kernel_rfl)) h1 hg (fun x hx => hW'.lt x (by simp [hx]))) (trodAll_cons_mk (shut_int Try.underlying3 w2) (trodAll_cons_mk (shut_int Try.underlying3 w3) trodAll_mk0))))
  simp only [List.append_nil] at ht
  exact ⟨_, rfl, post_law hW' (fun _ _ _ => (trodAll_cons_mk (shut_bool Try.underlying4 _) trodAll_mk0)) ht rfl hg⟩

theorem irrunSteps_over : Rows.irrunStepsRow.holds Try.pinned (OpenSpec.ofChange Rows.irrunStepsSpec) :=
  OpenClaim.holds_of_wide 7 Try.f7 rfl rfl rfl rfl rfl rfl rfl ⟨rfl, rfl, rfl, rfl, rfl⟩ rfl rfl rfl rfl rfl (by kernel_rfl) Try.func7 (by kernel_rfl)
    (of_decide_eq_true (by kernel_rfl)) (by unfold Func.isWrapper; first | (rw [if_pos (by decide +kernel)]; kernel_rfl) | (rw [if_neg (by decide +kernel)]; exact ⟨rfl, rfl⟩))
    (fun os started H enc _ => irrunSteps_lifted os started H enc)

/-- the statement -/
theorem irrunSteps_holds : Rows.IrrunStepsSaid := irrunSteps_over

end Go.Proofs.Ytknccacfhknnaaa
