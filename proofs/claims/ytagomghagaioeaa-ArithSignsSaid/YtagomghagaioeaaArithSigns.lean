/- unlike operators of two numbers have unlike signs: the proof of 'ArithSignsSaid', with no condition. -/
import Derived.Test.YtagomghagaioeaaArBase
import Derived.Test.YtagomghagaioeaaArLaws
import Derived.Test.YtagomghagaioeaaRow
namespace Go.Proofs.Ytagomghagaioeaa
open Go.ChangeShapes Go.WideShapes Go.ChangeAt Go.RowKit


set_option maxHeartbeats 1000000 in
theorem arithSigns_walk (a b : Int) (wa : (Lit.int .i64 a).wf = true) (wb : (Lit.int .i64 b).wf = true) (w : World) :
    Calls Try.prog 7 #[.int .i64 a, .int .i64 b] w fun e w' => e = .returned (.bool true) ∧ Below w.heap.size w w' := by
  have hb := Below.refl w.heap.size w
  have la := lo64 wa
  have ua := hi64 wa
  have lb := lo64 wb
  have ub := hi64 wb
  have m0 := pk_lo a 16 (by decide)
  have m1 := pk_hi a 16 (by decide)
  have n0 := pk_lo b 16 (by decide)
  have n1 := pk_hi b 16 (by decide)
  have k1 : sgnOk (1 + pk a 16) = true := by simp only [sgnOk, decide_eq_true_eq]; omega
  have k2 : sgnOk (1 + pk b 16) = true := by simp only [sgnOk, decide_eq_true_eq]; omega
  have k3 : oneOk (1 + pk a 16) = false := by simp only [oneOk, decide_eq_false_iff_not]; omega
  have k4 : twoOk (1 + pk a 16) 1 = true := by simp [twoOk]; omega
  have k5 := L.lvl_lo (a := 1 + pk a 16) (by omega) (by omega)
  have k6 := L.lvl_hi (1 + pk a 16)
  have k7 := L.lvl_up (a := 1 + pk a 16 + 16) (by omega)
  by_cases he : 1 + pk a 16 = 1 + pk b 16
  · have h1 : (1 + pk a 16 == 1 + pk b 16) = true := by rw [beq_iff_eq]; exact he
    have h2 : (sgn (1 + pk a 16)).toList = (sgn (1 + pk b 16)).toList := by rw [he]
    clear wa wb he
    go_enter Try.func7, Try.ntmps7
    go_wp2_with (first | (go_at_call 13; refine (Calls_acc hb (awake_any _)).mono ?_; rintro e w' ⟨rfl, hb⟩) | (go_at_call 14; refine (pick_any _ _ (by assumption) (by assumption) (by decide) _).mono ?_; rintro e w' ⟨rfl, rfl⟩) | (go_at_call 25; refine (Calls_acc hb (sign_any _ _)).mono ?_; rintro e w' ⟨rfl, hb⟩) | (go_at_call 23; refine (Calls_acc hb (one_any _ _ _)).mono ?_; rintro e w' ⟨rfl, hb⟩) | (go_at_call 15; refine (Calls_acc hb (two_any _ _ _ _)).mono ?_; rintro e w' ⟨rfl, hb⟩) | (go_at_call 27; refine (Calls_acc hb (level_any _ _)).mono ?_; rintro e w' ⟨rfl, hb⟩))
    go_ret
    exact ⟨rfl, hb⟩
  · have h1 : (1 + pk a 16 == 1 + pk b 16) = false := by rw [beq_eq_false_iff_ne]; exact he
    have h2 : ¬ (sgn (1 + pk a 16)).toList = (sgn (1 + pk b 16)).toList := L.sgn_inj (by omega) (by omega) (by omega) (by omega) he
    have h3 : ((sgn (1 + pk a 16)).toList == (sgn (1 + pk b 16)).toList) = false := by rw [beq_eq_false_iff_ne]; exact h2
    clear wa wb he
    go_enter Try.func7, Try.ntmps7
    go_wp2_with (first | (go_at_call 13; refine (Calls_acc hb (awake_any _)).mono ?_; rintro e w' ⟨rfl, hb⟩) | (go_at_call 14; refine (pick_any _ _ (by assumption) (by assumption) (by decide) _).mono ?_; rintro e w' ⟨rfl, rfl⟩) | (go_at_call 25; refine (Calls_acc hb (sign_any _ _)).mono ?_; rintro e w' ⟨rfl, hb⟩) | (go_at_call 23; refine (Calls_acc hb (one_any _ _ _)).mono ?_; rintro e w' ⟨rfl, hb⟩) | (go_at_call 15; refine (Calls_acc hb (two_any _ _ _ _)).mono ?_; rintro e w' ⟨rfl, hb⟩) | (go_at_call 27; refine (Calls_acc hb (level_any _ _)).mono ?_; rintro e w' ⟨rfl, hb⟩))
    go_ret
    exact ⟨rfl, hb⟩

/-! ### from the walk to the statement -/
set_option maxRecDepth 100000 in
theorem arithSigns_lifted (os : Os) (started : os.Started) (H : Type) (enc : TypeId × Value → H) :
    ReturnsInHanded {} Try.checked os 7 .any (Rows.arithSignsSpec.pre6 enc Try.prog Try.f7 Rows.arithSignsRow.domain false) (Rows.arithSignsSpec.post enc Try.prog Try.f7 false true false false) := by
  refine returnsInHanded_of_change (C := Try.checked) own_ started (by kernel_rfl) Try.func7
    (ChangeSpec.witness6 (enc := enc) (C := Try.checked) false ⟨#[], #[.int .i64 0, .int .i64 0], []⟩ 8 (by kernel_rfl) (by kernel_rfl) (by kernel_rfl) (by kernel_rfl)) ?_
  intro W base args ds gs before hval0 hW hcnd _
  have hval : ∀ (j : Nat) t v, Try.f7.params[j]? = some t → args[j]? = some v → Value.okWide Try.prog W .any base t v := hval0
  have hW' := hW
  obtain ⟨p, q, hA0, hV, rfl, hfz, hnd⟩ := hW
  have hA : DataW.TrodAll enc Try.prog W 0 (fun _ => true) true Try.f7.params.toList args.toList ds p := hA0
  rw [Try.params7] at hA hval
  obtain ⟨v0, vs0, d0, ds0, p0, q0, hargs, rfl, rfl, h0, r0⟩ := trodAll_cons hA
  obtain ⟨v1, vs1, d1, ds1, p1, q1, rfl, rfl, rfl, h1, r1⟩ := trodAll_cons r0
  obtain ⟨rfl, rfl, rfl⟩ := trodAll_nil r1
  obtain rfl : args = #[v0, v1] := by cases args; simp_all
  obtain ⟨rfl, rfl⟩ := trodVars_none hV
  clear hA0 hval0 hargs
  obtain ⟨a0, rfl, rfl, rfl, w0⟩ := open_int Try.underlying3 (hval 0 3 v0 rfl rfl) h0
  obtain ⟨a1, rfl, rfl, rfl, w1⟩ := open_int Try.underlying3 (hval 1 3 v1 rfl rfl) h1
  simp only [List.append_nil] at hW'
  refine (arithSigns_walk a0 a1 w0 w1 W).mono fun e W' ⟨he, hg⟩ => ?_
  subst he
  exact ⟨_, rfl, post_law hW' (fun _ _ _ => (trodAll_cons_mk (shut_bool Try.underlying4 _) trodAll_mk0)) (trodAll_cons_mk (shut_int Try.underlying3 w0) (trodAll_cons_mk (shut_int Try.underlying3 w1) trodAll_mk0)) rfl hg⟩

theorem arithSigns_over : Rows.arithSignsRow.holds Try.pinned (OpenSpec.ofChange Rows.arithSignsSpec) :=
  OpenClaim.holds_of_wide 7 Try.f7 rfl rfl rfl rfl rfl rfl rfl ⟨rfl, rfl, rfl, rfl, rfl⟩ rfl rfl rfl rfl rfl (by kernel_rfl) Try.func7 (by kernel_rfl)
    (of_decide_eq_true (by kernel_rfl)) (by unfold Func.isWrapper; first | (rw [if_pos (by decide +kernel)]; kernel_rfl) | (rw [if_neg (by decide +kernel)]; exact ⟨rfl, rfl⟩))
    (fun os started H enc _ => arithSigns_lifted os started H enc)

/-- the statement -/
theorem arithSigns_holds : Rows.ArithSignsSaid := arithSigns_over

end Go.Proofs.Ytagomghagaioeaa
