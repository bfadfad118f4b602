/- the quotient times the divisor, and the rest, are the number: the proof of 'ArithDividesSaid', with no condition. -/
import Derived.Test.YtagomghagaioeaaArBase
import Derived.Test.YtagomghagaioeaaArLaws
import Derived.Test.YtagomghagaioeaaRow
namespace Go.Proofs.Ytagomghagaioeaa
open Go.ChangeShapes Go.WideShapes Go.ChangeAt Go.RowKit


set_option maxHeartbeats 1000000 in
theorem arithDivides_walk (a b : Int) (wa : (Lit.int .i64 a).wf = true) (wb : (Lit.int .i64 b).wf = true) (w : World) :
    Calls Try.prog 4 #[.int .i64 a, .int .i64 b] w fun e w' => e = .returned (.bool true) ∧ Below w.heap.size w w' := by
  have hb := Below.refl w.heap.size w
  have la := lo64 wa
  have ua := hi64 wa
  have lb := lo64 wb
  have ub := hi64 wb
  by_cases hz : b = 0
  · subst hz
    have e1 : divq a 0 = -1 := rfl
    have e2 : remr a 0 = a := rfl
    clear wa wb la ua lb ub
    go_enter Try.func4, Try.ntmps4
    go_wp2_with (first | (go_at_call 13; refine (Calls_acc hb (awake_any _)).mono ?_; rintro e w' ⟨rfl, hb⟩) | (go_at_call 17; refine (div_any _ _ _).mono ?_; rintro e w' ⟨rfl, rfl⟩) | (go_at_call 19; refine (rem_any _ _ _).mono ?_; rintro e w' ⟨rfl, rfl⟩))
    go_ret
    exact ⟨rfl, hb⟩
  · have e1 := L.two4 (a := a) hz
    have e2 := L.two5 (a := a) hz
    have e3 := L.div_sum (b := b) ⟨la, ua⟩ hz
    have e4 := @L.rem_neg a b hz
    have e5 := @L.rem_pos a b hz
    have e6 := @L.rem_near a b hz
    have hz' : (b == 0) = false := by rw [beq_eq_false_iff_ne]; exact hz
    have k4 : twoOk 4 b = true := by simp [twoOk, hz]
    have k5 : twoOk 5 b = true := by simp [twoOk, hz]
    have hr : -9223372036854775808 < remr a b := by omega
    have hr' : remr a b ≤ 9223372036854775807 := by omega
    by_cases r0 : remr a b = 0
    · have r0' : (remr a b == 0) = true := by rw [beq_iff_eq]; exact r0
      have r1 : 0 ≤ remr a b := by omega
      have r2 : remr a b ≤ 0 := by omega
      clear e4 e5 e6 wa wb hz r0
      go_enter Try.func4, Try.ntmps4
      go_wp2_with (first | (go_at_call 13; refine (Calls_acc hb (awake_any _)).mono ?_; rintro e w' ⟨rfl, hb⟩) | (go_at_call 17; refine (div_any _ _ _).mono ?_; rintro e w' ⟨rfl, rfl⟩) | (go_at_call 19; refine (rem_any _ _ _).mono ?_; rintro e w' ⟨rfl, rfl⟩) | (go_at_call 15; refine (Calls_acc hb (two_any _ _ _ _)).mono ?_; rintro e w' ⟨rfl, hb⟩))
      go_ret
      exact ⟨rfl, hb⟩
    · have r0' : (remr a b == 0) = false := by rw [beq_eq_false_iff_ne]; exact r0
      by_cases rn : remr a b < 0
      · have an : a < 0 := e4 rn
        by_cases bp : 0 < b
        · have n1 : remr a b < b := by omega
          have n2 : -remr a b < b := by omega
          clear e4 e5 e6 wa wb hz
          go_enter Try.func4, Try.ntmps4
          go_wp2_with (first | (go_at_call 13; refine (Calls_acc hb (awake_any _)).mono ?_; rintro e w' ⟨rfl, hb⟩) | (go_at_call 17; refine (div_any _ _ _).mono ?_; rintro e w' ⟨rfl, rfl⟩) | (go_at_call 19; refine (rem_any _ _ _).mono ?_; rintro e w' ⟨rfl, rfl⟩) | (go_at_call 15; refine (Calls_acc hb (two_any _ _ _ _)).mono ?_; rintro e w' ⟨rfl, hb⟩))
          go_ret
          exact ⟨rfl, hb⟩
        · have bn : b < 0 := by omega
          have n1 : b < remr a b := by omega
          have n2 : b < -remr a b := by omega
          clear e4 e5 e6 wa wb hz
          go_enter Try.func4, Try.ntmps4
          go_wp2_with (first | (go_at_call 13; refine (Calls_acc hb (awake_any _)).mono ?_; rintro e w' ⟨rfl, hb⟩) | (go_at_call 17; refine (div_any _ _ _).mono ?_; rintro e w' ⟨rfl, rfl⟩) | (go_at_call 19; refine (rem_any _ _ _).mono ?_; rintro e w' ⟨rfl, rfl⟩) | (go_at_call 15; refine (Calls_acc hb (two_any _ _ _ _)).mono ?_; rintro e w' ⟨rfl, hb⟩))
          go_ret
          exact ⟨rfl, hb⟩
      · have rp : 0 < remr a b := by omega
        have ap : 0 < a := e5 rp
        by_cases bp : 0 < b
        · have n1 : remr a b < b := by omega
          have n2 : -remr a b < b := by omega
          clear e4 e5 e6 wa wb hz
          go_enter Try.func4, Try.ntmps4
          go_wp2_with (first | (go_at_call 13; refine (Calls_acc hb (awake_any _)).mono ?_; rintro e w' ⟨rfl, hb⟩) | (go_at_call 17; refine (div_any _ _ _).mono ?_; rintro e w' ⟨rfl, rfl⟩) | (go_at_call 19; refine (rem_any _ _ _).mono ?_; rintro e w' ⟨rfl, rfl⟩) | (go_at_call 15; refine (Calls_acc hb (two_any _ _ _ _)).mono ?_; rintro e w' ⟨rfl, hb⟩))
          go_ret
          exact ⟨rfl, hb⟩
        · have bn : b < 0 := by omega
          have n1 : b < remr a b := by omega
          have n2 : b < -remr a b := by omega
          clear e4 e5 e6 wa wb hz
          go_enter Try.func4, Try.ntmps4
          go_wp2_with (first | (go_at_call 13; refine (Calls_acc hb (awake_any _)).mono ?_; rintro e w' ⟨rfl, hb⟩) | (go_at_call 17; refine (div_any _ _ _).mono ?_; rintro e w' ⟨rfl, rfl⟩) | (go_at_call 19; refine (rem_any _ _ _).mono ?_; rintro e w' ⟨rfl, rfl⟩) | (go_at_call 15; refine (Calls_acc hb (two_any _ _ _ _)).mono ?_; rintro e w' ⟨rfl, hb⟩))
          go_ret
          exact ⟨rfl, hb⟩

/-! ### from the walk to the statement -/
set_option maxRecDepth 100000 in
theorem arithDivides_lifted (os : Os) (started : os.Started) (H : Type) (enc : TypeId × Value → H) :
    ReturnsInHanded {} Try.checked os 4 .any (Rows.arithDividesSpec.pre6 enc Try.prog Try.f4 Rows.arithDividesRow.domain false) (Rows.arithDividesSpec.post enc Try.prog Try.f4 false true false false) := by
  refine returnsInHanded_of_change (C := Try.checked) own_ started (by kernel_rfl) Try.func4
    (ChangeSpec.witness6 (enc := enc) (C := Try.checked) false ⟨#[], #[.int .i64 0, .int .i64 0], []⟩ 8 (by kernel_rfl) (by kernel_rfl) (by kernel_rfl) (by kernel_rfl)) ?_
  intro W base args ds gs before hval0 hW hcnd _
  have hval : ∀ (j : Nat) t v, Try.f4.params[j]? = some t → args[j]? = some v → Value.okWide Try.prog W .any base t v := hval0
  have hW' := hW
  obtain ⟨p, q, hA0, hV, rfl, hfz, hnd⟩ := hW
  have hA : DataW.TrodAll enc Try.prog W 0 (fun _ => true) true Try.f4.params.toList args.toList ds p := hA0
  rw [Try.params4] at hA hval
  obtain ⟨v0, vs0, d0, ds0, p0, q0, hargs, rfl, rfl, h0, r0⟩ := trodAll_cons hA
  obtain ⟨v1, vs1, d1, ds1, p1, q1, rfl, rfl, rfl, h1, r1⟩ := trodAll_cons r0
  obtain ⟨rfl, rfl, rfl⟩ := trodAll_nil r1
  obtain rfl : args = #[v0, v1] := by cases args; simp_all
  obtain ⟨rfl, rfl⟩ := trodVars_none hV
  clear hA0 hval0 hargs
  obtain ⟨a0, rfl, rfl, rfl, w0⟩ := open_int Try.underlying3 (hval 0 3 v0 rfl rfl) h0
  obtain ⟨a1, rfl, rfl, rfl, w1⟩ := open_int Try.underlying3 (hval 1 3 v1 rfl rfl) h1
  simp only [List.append_nil] at hW'
  refine (arithDivides_walk a0 a1 w0 w1 W).mono fun e W' ⟨he, hg⟩ => ?_
  subst he
  exact ⟨_, rfl, post_law hW' (fun _ _ _ => (trodAll_cons_mk (shut_bool Try.underlying4 _) trodAll_mk0)) (trodAll_cons_mk (shut_int Try.underlying3 w0) (trodAll_cons_mk (shut_int Try.underlying3 w1) trodAll_mk0)) rfl hg⟩

theorem arithDivides_over : Rows.arithDividesRow.holds Try.pinned (OpenSpec.ofChange Rows.arithDividesSpec) :=
  OpenClaim.holds_of_wide 4 Try.f4 rfl rfl rfl rfl rfl rfl rfl ⟨rfl, rfl, rfl, rfl, rfl⟩ rfl rfl rfl rfl rfl (by kernel_rfl) Try.func4 (by kernel_rfl)
    (of_decide_eq_true (by kernel_rfl)) (by unfold Func.isWrapper; first | (rw [if_pos (by decide +kernel)]; kernel_rfl) | (rw [if_neg (by decide +kernel)]; exact ⟨rfl, rfl⟩))
    (fun os started H enc _ => arithDivides_lifted os started H enc)

/-- the statement -/
theorem arithDivides_holds : Rows.ArithDividesSaid := arithDivides_over

end Go.Proofs.Ytagomghagaioeaa
