/- what is turned twice is as it was: the proof of 'ArithTurnsSaid', with no condition. -/
import Derived.Test.YtagomghagaioeaaArBase
import Derived.Test.YtagomghagaioeaaArLaws
import Derived.Test.YtagomghagaioeaaRow
namespace Go.Proofs.Ytagomghagaioeaa
open Go.ChangeShapes Go.WideShapes Go.ChangeAt Go.RowKit


set_option maxHeartbeats 1000000 in
theorem arithTurns_walk (a : Int) (wa : (Lit.int .i64 a).wf = true) (w : World) :
    Calls Try.prog 11 #[.int .i64 a] w fun e w' => e = .returned (.bool true) ∧ Below w.heap.size w w' := by
  have hb := Below.refl w.heap.size w
  have la := lo64 wa
  have ua := hi64 wa
  have k1 : oneOk 17 = true := by decide
  have k2 : oneOk 18 = true := by decide
  have k3 : oneOk 19 = true := by decide
  have e1 : (one 19 (one 19 a) == a) = true := by
    rw [L.one19_in (a := one 19 a) (by rw [L.one19]; exact L.wrap_in _), L.one19_in ⟨la, ua⟩, beq_iff_eq]; omega
  have e2 : (one 17 (one 17 a) == a) = true := by
    rw [L.one17, L.one17, L.wrap_neg, show - -a = a by omega, L.wrap_self ⟨la, ua⟩]; simp
  have e3 : (one 19 a == wrap64 (one 17 a - 1)) = true := by
    rw [L.one19, L.one17, L.wrap_sub_l]; simp
  by_cases hz : a = 0
  · have hz' : (a == 0) = true := by rw [beq_iff_eq]; exact hz
    have e4 : one 18 a = 1 := by simp [one, bit, hz]
    have e5 : one 18 1 = 0 := by decide
    clear wa hz
    go_enter Try.func11, Try.ntmps11
    go_wp2_with (first | (go_at_call 13; refine (Calls_acc hb (awake_any _)).mono ?_; rintro e w' ⟨rfl, hb⟩) | (go_at_call 23; refine (Calls_acc hb (one_any _ _ _)).mono ?_; rintro e w' ⟨rfl, hb⟩))
    go_ret
    exact ⟨rfl, hb⟩
  · have hz' : (a == 0) = false := by rw [beq_eq_false_iff_ne]; exact hz
    have e4 : one 18 a = 0 := by simp [one, bit, hz]
    have e5 : one 18 0 = 1 := by decide
    clear wa hz
    go_enter Try.func11, Try.ntmps11
    go_wp2_with (first | (go_at_call 13; refine (Calls_acc hb (awake_any _)).mono ?_; rintro e w' ⟨rfl, hb⟩) | (go_at_call 23; refine (Calls_acc hb (one_any _ _ _)).mono ?_; rintro e w' ⟨rfl, hb⟩))
    go_ret
    exact ⟨rfl, hb⟩

/-! ### from the walk to the statement -/
set_option maxRecDepth 100000 in
theorem arithTurns_lifted (os : Os) (started : os.Started) (H : Type) (enc : TypeId × Value → H) :
    ReturnsInHanded {} Try.checked os 11 .any (Rows.arithTurnsSpec.pre6 enc Try.prog Try.f11 Rows.arithTurnsRow.domain false) (Rows.arithTurnsSpec.post enc Try.prog Try.f11 false true false false) := by
  refine returnsInHanded_of_change (C := Try.checked) own_ started (by kernel_rfl) Try.func11
    (ChangeSpec.witness6 (enc := enc) (C := Try.checked) false ⟨#[], #[.int .i64 0], []⟩ 8 (by kernel_rfl) (by kernel_rfl) (by kernel_rfl) (by kernel_rfl)) ?_
  intro W base args ds gs before hval0 hW hcnd _
  have hval : ∀ (j : Nat) t v, Try.f11.params[j]? = some t → args[j]? = some v → Value.okWide Try.prog W .any base t v := hval0
  have hW' := hW
  obtain ⟨p, q, hA0, hV, rfl, hfz, hnd⟩ := hW
  have hA : DataW.TrodAll enc Try.prog W 0 (fun _ => true) true Try.f11.params.toList args.toList ds p := hA0
  rw [Try.params11] at hA hval
  obtain ⟨v0, vs0, d0, ds0, p0, q0, hargs, rfl, rfl, h0, r0⟩ := trodAll_cons hA
  obtain ⟨rfl, rfl, rfl⟩ := trodAll_nil r0
  obtain rfl : args = #[v0] := by cases args; simp_all
  obtain ⟨rfl, rfl⟩ := trodVars_none hV
  clear hA0 hval0 hargs
  obtain ⟨a0, rfl, rfl, rfl, w0⟩ := open_int Try.underlying3 (hval 0 3 v0 rfl rfl) h0
  simp only [List.append_nil] at hW'
  refine (arithTurns_walk a0 w0 W).mono fun e W' ⟨he, hg⟩ => ?_
  subst he
  exact ⟨_, rfl, post_law hW' (fun _ _ _ => (trodAll_cons_mk (shut_bool Try.underlying4 _) trodAll_mk0)) (trodAll_cons_mk (shut_int Try.underlying3 w0) trodAll_mk0) rfl hg⟩

theorem arithTurns_over : Rows.arithTurnsRow.holds Try.pinned (OpenSpec.ofChange Rows.arithTurnsSpec) :=
  OpenClaim.holds_of_wide 11 Try.f11 rfl rfl rfl rfl rfl rfl rfl ⟨rfl, rfl, rfl, rfl, rfl⟩ rfl rfl rfl rfl rfl (by kernel_rfl) Try.func11 (by kernel_rfl)
    (of_decide_eq_true (by kernel_rfl)) (by unfold Func.isWrapper; first | (rw [if_pos (by decide +kernel)]; kernel_rfl) | (rw [if_neg (by decide +kernel)]; exact ⟨rfl, rfl⟩))
    (fun os started H enc _ => arithTurns_lifted os started H enc)

/-- the statement -/
theorem arithTurns_holds : Rows.ArithTurnsSaid := arithTurns_over

end Go.Proofs.Ytagomghagaioeaa
