/- just one of less, same and greater is so, of numbers without a sign, too: the proof of 'ArithUnsignedSaid', with no condition. -/
import Derived.Test.YtagomghagaioeaaArBase
import Derived.Test.YtagomghagaioeaaArLaws
import Derived.Test.YtagomghagaioeaaRow
namespace Go.Proofs.Ytagomghagaioeaa
open Go.ChangeShapes Go.WideShapes Go.ChangeAt Go.RowKit


set_option maxHeartbeats 1000000 in
theorem arithUnsigned_walk (a b : Int) (wa : (Lit.int .i64 a).wf = true) (wb : (Lit.int .i64 b).wf = true) (w : World) :
    Calls Try.prog 10 #[.int .i64 a, .int .i64 b] w fun e w' => e = .returned (.bool true) ∧ Below w.heap.size w w' := by
  have hb := Below.refl w.heap.size w
  have la := lo64 wa
  have ua := hi64 wa
  have lb := lo64 wb
  have ub := hi64 wb
  by_cases he : a = b
  · subst he
    have e1 := L.ltu_self a
    clear wa wb
    go_enter Try.func10, Try.ntmps10
    go_wp2_with (first | (go_at_call 13; refine (Calls_acc hb (awake_any _)).mono ?_; rintro e w' ⟨rfl, hb⟩) | (go_at_call 21; refine (less_any _ _ _).mono ?_; rintro e w' ⟨rfl, rfl⟩))
    go_ret
    exact ⟨rfl, hb⟩
  · have he' : (a == b) = false := by rw [beq_eq_false_iff_ne]; exact he
    by_cases h1 : a < 0
    · by_cases h2 : b < 0
      · have e1 := L.ltu_same (a := a) (b := b) ⟨la, ua⟩ ⟨lb, ub⟩ ⟨fun _ => h2, fun _ => h1⟩
        have e2 := L.ltu_same (a := b) (b := a) ⟨lb, ub⟩ ⟨la, ua⟩ ⟨fun _ => h1, fun _ => h2⟩
        clear wa wb
        by_cases h3 : a < b
        · have h4 : ¬ b < a := by omega
          simp only [h3, h4, decide_true, decide_false] at e1 e2
          go_enter Try.func10, Try.ntmps10
          go_wp2_with (first | (go_at_call 13; refine (Calls_acc hb (awake_any _)).mono ?_; rintro e w' ⟨rfl, hb⟩) | (go_at_call 21; refine (less_any _ _ _).mono ?_; rintro e w' ⟨rfl, rfl⟩))
          go_ret
          exact ⟨rfl, hb⟩
        · have h4 : b < a := by omega
          have d2 : decide (a < b) = false := decide_eq_false h3
          simp only [h3, h4, decide_true, decide_false] at e1 e2
          go_enter Try.func10, Try.ntmps10
          go_wp2_with (first | (go_at_call 13; refine (Calls_acc hb (awake_any _)).mono ?_; rintro e w' ⟨rfl, hb⟩) | (go_at_call 21; refine (less_any _ _ _).mono ?_; rintro e w' ⟨rfl, rfl⟩))
          go_ret
          exact ⟨rfl, hb⟩
      · have e1 := L.ltu_other (a := a) (b := b) ⟨la, ua⟩ ⟨lb, ub⟩ (fun h => h2 (h.1 h1))
        have e2 := L.ltu_other (a := b) (b := a) ⟨lb, ub⟩ ⟨la, ua⟩ (fun h => h2 (h.2 h1))
        simp only [h1, h2, decide_true, decide_false] at e1 e2
        have d1 : decide (b < 0) = false := decide_eq_false h2
        clear wa wb
        go_enter Try.func10, Try.ntmps10
        go_wp2_with (first | (go_at_call 13; refine (Calls_acc hb (awake_any _)).mono ?_; rintro e w' ⟨rfl, hb⟩) | (go_at_call 21; refine (less_any _ _ _).mono ?_; rintro e w' ⟨rfl, rfl⟩))
        go_ret
        exact ⟨rfl, hb⟩
    · have d0 : decide (a < 0) = false := decide_eq_false h1
      by_cases h2 : b < 0
      · have e1 := L.ltu_other (a := a) (b := b) ⟨la, ua⟩ ⟨lb, ub⟩ (fun h => h1 (h.2 h2))
        have e2 := L.ltu_other (a := b) (b := a) ⟨lb, ub⟩ ⟨la, ua⟩ (fun h => h1 (h.1 h2))
        simp only [h1, h2, decide_true, decide_false] at e1 e2
        clear wa wb
        go_enter Try.func10, Try.ntmps10
        go_wp2_with (first | (go_at_call 13; refine (Calls_acc hb (awake_any _)).mono ?_; rintro e w' ⟨rfl, hb⟩) | (go_at_call 21; refine (less_any _ _ _).mono ?_; rintro e w' ⟨rfl, rfl⟩))
        go_ret
        exact ⟨rfl, hb⟩
      · have e1 := L.ltu_same (a := a) (b := b) ⟨la, ua⟩ ⟨lb, ub⟩ ⟨fun h => absurd h h1, fun h => absurd h h2⟩
        have e2 := L.ltu_same (a := b) (b := a) ⟨lb, ub⟩ ⟨la, ua⟩ ⟨fun h => absurd h h2, fun h => absurd h h1⟩
        have d1 : decide (b < 0) = false := decide_eq_false h2
        clear wa wb
        by_cases h3 : a < b
        · have h4 : ¬ b < a := by omega
          simp only [h3, h4, decide_true, decide_false] at e1 e2
          go_enter Try.func10, Try.ntmps10
          go_wp2_with (first | (go_at_call 13; refine (Calls_acc hb (awake_any _)).mono ?_; rintro e w' ⟨rfl, hb⟩) | (go_at_call 21; refine (less_any _ _ _).mono ?_; rintro e w' ⟨rfl, rfl⟩))
          go_ret
          exact ⟨rfl, hb⟩
        · have h4 : b < a := by omega
          have d2 : decide (a < b) = false := decide_eq_false h3
          simp only [h3, h4, decide_true, decide_false] at e1 e2
          go_enter Try.func10, Try.ntmps10
          go_wp2_with (first | (go_at_call 13; refine (Calls_acc hb (awake_any _)).mono ?_; rintro e w' ⟨rfl, hb⟩) | (go_at_call 21; refine (less_any _ _ _).mono ?_; rintro e w' ⟨rfl, rfl⟩))
          go_ret
          exact ⟨rfl, hb⟩

/-! ### from the walk to the statement -/
set_option maxRecDepth 100000 in
theorem arithUnsigned_lifted (os : Os) (started : os.Started) (H : Type) (enc : TypeId × Value → H) :
    ReturnsInHanded {} Try.checked os 10 .any (Rows.arithUnsignedSpec.pre6 enc Try.prog Try.f10 Rows.arithUnsignedRow.domain false) (Rows.arithUnsignedSpec.post enc Try.prog Try.f10 false true false false) := by
  refine returnsInHanded_of_change (C := Try.checked) own_ started (by kernel_rfl) Try.func10
    (ChangeSpec.witness6 (enc := enc) (C := Try.checked) false ⟨#[], #[.int .i64 0, .int .i64 0], []⟩ 8 (by kernel_rfl) (by kernel_rfl) (by kernel_rfl) (by kernel_rfl)) ?_
  intro W base args ds gs before hval0 hW hcnd _
  have hval : ∀ (j : Nat) t v, Try.f10.params[j]? = some t → args[j]? = some v → Value.okWide Try.prog W .any base t v := hval0
  have hW' := hW
  obtain ⟨p, q, hA0, hV, rfl, hfz, hnd⟩ := hW
  have hA : DataW.TrodAll enc Try.prog W 0 (fun _ => true) true Try.f10.params.toList args.toList ds p := hA0
  rw [Try.params10] at hA hval
  obtain ⟨v0, vs0, d0, ds0, p0, q0, hargs, rfl, rfl, h0, r0⟩ := trodAll_cons hA
  obtain ⟨v1, vs1, d1, ds1, p1, q1, rfl, rfl, rfl, h1, r1⟩ := trodAll_cons r0
  obtain ⟨rfl, rfl, rfl⟩ := trodAll_nil r1
  obtain rfl : args = #[v0, v1] := by cases args; simp_all
  obtain ⟨rfl, rfl⟩ := trodVars_none hV
  clear hA0 hval0 hargs
  obtain ⟨a0, rfl, rfl, rfl, w0⟩ := open_int Try.underlying3 (hval 0 3 v0 rfl rfl) h0
  obtain ⟨a1, rfl, rfl, rfl, w1⟩ := open_int Try.underlying3 (hval 1 3 v1 rfl rfl) h1
  simp only [List.append_nil] at hW'
  refine (arithUnsigned_walk a0 a1 w0 w1 W).mono fun e W' ⟨he, hg⟩ => ?_
  subst he
  exact ⟨_, rfl, post_law hW' (fun _ _ _ => (trodAll_cons_mk (shut_bool Try.underlying4 _) trodAll_mk0)) (trodAll_cons_mk (shut_int Try.underlying3 w0) (trodAll_cons_mk (shut_int Try.underlying3 w1) trodAll_mk0)) rfl hg⟩

theorem arithUnsigned_over : Rows.arithUnsignedRow.holds Try.pinned (OpenSpec.ofChange Rows.arithUnsignedSpec) :=
  OpenClaim.holds_of_wide 10 Try.f10 rfl rfl rfl rfl rfl rfl rfl ⟨rfl, rfl, rfl, rfl, rfl⟩ rfl rfl rfl rfl rfl (by kernel_rfl) Try.func10 (by kernel_rfl)
    (of_decide_eq_true (by kernel_rfl)) (by unfold Func.isWrapper; first | (rw [if_pos (by decide +kernel)]; kernel_rfl) | (rw [if_neg (by decide +kernel)]; exact ⟨rfl, rfl⟩))
    (fun os started H enc _ => arithUnsigned_lifted os started H enc)

/-- the statement -/
theorem arithUnsigned_holds : Rows.ArithUnsignedSaid := arithUnsigned_over

end Go.Proofs.Ytagomghagaioeaa
