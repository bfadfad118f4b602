/- bits are put together, and taken apart: the proof of 'ArithBitsSaid', with no condition. -/
import Derived.Test.YtagomghagaioeaaArBase
import Derived.Test.YtagomghagaioeaaArLaws
import Derived.Test.YtagomghagaioeaaRow
namespace Go.Proofs.Ytagomghagaioeaa
open Go.ChangeShapes Go.WideShapes Go.ChangeAt Go.RowKit


set_option maxRecDepth 100000 in
set_option maxHeartbeats 1000000 in
theorem arithBits_walk (a b c : Int) (wa : (Lit.int .i64 a).wf = true) (wb : (Lit.int .i64 b).wf = true) (wc : (Lit.int .i64 c).wf = true) (w : World) :
    Calls Try.prog 6 #[.int .i64 a, .int .i64 b, .int .i64 c] w fun e w' => e = .returned (.bool true) ∧ Below w.heap.size w w' := by
  have hb := Below.refl w.heap.size w
  have la := lo64 wa
  have ua := hi64 wa
  have lb := lo64 wb
  have ub := hi64 wb
  have lc := lo64 wc
  have uc := hi64 wc
  have n0 := pk_lo c 64 (by decide)
  have n1 := pk_hi c 64 (by decide)
  have s0 := pk_lo a 1048576 (by decide)
  have s1 := pk_hi a 1048576 (by decide)
  have e1 := L.bits1 a b
  have e2 := L.bits2 a b
  have e3 : (one 19 a == wrap64 (wrap64 (-a) - 1)) = true := by rw [L.one19, L.wrap_sub_l]; simp
  have e4 : (one 17 a == wrap64 (-a)) = true := by rw [L.one17]; simp
  have e5 : (two 9 a (pk c 64) == two 9 a (pk c 64 + 64)) = true := by rw [L.shl_64 a n0 n1]; simp
  by_cases hn : 42 < pk c 64
  · have hz : (0 : Int) < pk c 64 := by omega
    have e6 : (two 10 (two 9 (pk a 1048576) 42) 42 == pk a 1048576) = true := by rw [L.small_back s0 s1 (by decide) (by decide)]; simp
    have e7 : (two 9 (pk a 1048576) 42 == pk a 1048576 * 4398046511104) = true := by rw [L.small_shl s0 s1 (by decide) (by decide)]; simp
    clear wa wb wc
    go_enter Try.func6, Try.ntmps6
    go_wp2_with (first | (go_at_call 13; refine (Calls_acc hb (awake_any _)).mono ?_; rintro e w' ⟨rfl, hb⟩) | (go_at_call 14; refine (pick_any _ _ (by assumption) (by assumption) (by decide) _).mono ?_; rintro e w' ⟨rfl, rfl⟩) | (go_at_call 15; refine (Calls_acc hb (two_any _ _ _ _)).mono ?_; rintro e w' ⟨rfl, hb⟩) | (go_at_call 23; refine (Calls_acc hb (one_any _ _ _)).mono ?_; rintro e w' ⟨rfl, hb⟩))
    all_goals
      go_ret
      exact ⟨rfl, hb⟩
  · by_cases hz : pk c 64 = 0
    · have e0 : (two 10 (two 9 a (pk c 64)) (pk c 64) == a) = true := by rw [hz, L.shl_0 ⟨la, ua⟩]; simp
      have e6 : (two 10 (two 9 (pk a 1048576) (pk c 64)) (pk c 64) == pk a 1048576) = true := by rw [L.small_back s0 s1 n0 (by omega)]; simp
      have e7 : (two 9 (pk a 1048576) (pk c 64) == wrap64 (pk a 1048576 * wrap64 (2 ^ (pk c 64).toNat))) = true := by rw [L.small_mul n0 (by omega)]; simp
      clear hz
      clear wa wb wc
      go_enter Try.func6, Try.ntmps6
      go_wp2_with (first | (go_at_call 13; refine (Calls_acc hb (awake_any _)).mono ?_; rintro e w' ⟨rfl, hb⟩) | (go_at_call 14; refine (pick_any _ _ (by assumption) (by assumption) (by decide) _).mono ?_; rintro e w' ⟨rfl, rfl⟩) | (go_at_call 15; refine (Calls_acc hb (two_any _ _ _ _)).mono ?_; rintro e w' ⟨rfl, hb⟩) | (go_at_call 23; refine (Calls_acc hb (one_any _ _ _)).mono ?_; rintro e w' ⟨rfl, hb⟩))
      all_goals
        go_ret
        exact ⟨rfl, hb⟩
    · have hz' : (0 : Int) < pk c 64 := by omega
      have e6 : (two 10 (two 9 (pk a 1048576) (pk c 64)) (pk c 64) == pk a 1048576) = true := by rw [L.small_back s0 s1 n0 (by omega)]; simp
      have e7 : (two 9 (pk a 1048576) (pk c 64) == wrap64 (pk a 1048576 * wrap64 (2 ^ (pk c 64).toNat))) = true := by rw [L.small_mul n0 (by omega)]; simp
      clear hz
      clear wa wb wc
      go_enter Try.func6, Try.ntmps6
      go_wp2_with (first | (go_at_call 13; refine (Calls_acc hb (awake_any _)).mono ?_; rintro e w' ⟨rfl, hb⟩) | (go_at_call 14; refine (pick_any _ _ (by assumption) (by assumption) (by decide) _).mono ?_; rintro e w' ⟨rfl, rfl⟩) | (go_at_call 15; refine (Calls_acc hb (two_any _ _ _ _)).mono ?_; rintro e w' ⟨rfl, hb⟩) | (go_at_call 23; refine (Calls_acc hb (one_any _ _ _)).mono ?_; rintro e w' ⟨rfl, hb⟩))
      all_goals
        go_ret
        exact ⟨rfl, hb⟩

/-! ### from the walk to the statement -/
set_option maxRecDepth 100000 in
theorem arithBits_lifted (os : Os) (started : os.Started) (H : Type) (enc : TypeId × Value → H) :
    ReturnsInHanded {} Try.checked os 6 .any (Rows.arithBitsSpec.pre6 enc Try.prog Try.f6 Rows.arithBitsRow.domain false) (Rows.arithBitsSpec.post enc Try.prog Try.f6 false true false false) := by
  refine returnsInHanded_of_change (C := Try.checked) own_ started (by kernel_rfl) Try.func6
    (ChangeSpec.witness6 (enc := enc) (C := Try.checked) false ⟨#[], #[.int .i64 0, .int .i64 0, .int .i64 0], []⟩ 8 (by kernel_rfl) (by kernel_rfl) (by kernel_rfl) (by kernel_rfl)) ?_
  intro W base args ds gs before hval0 hW hcnd _
  have hval : ∀ (j : Nat) t v, Try.f6.params[j]? = some t → args[j]? = some v → Value.okWide Try.prog W .any base t v := hval0
  have hW' := hW
  obtain ⟨p, q, hA0, hV, rfl, hfz, hnd⟩ := hW
  have hA : DataW.TrodAll enc Try.prog W 0 (fun _ => true) true Try.f6.params.toList args.toList ds p := hA0
  rw [Try.params6] at hA hval
  obtain ⟨v0, vs0, d0, ds0, p0, q0, hargs, rfl, rfl, h0, r0⟩ := trodAll_cons hA
  obtain ⟨v1, vs1, d1, ds1, p1, q1, rfl, rfl, rfl, h1, r1⟩ := trodAll_cons r0
  obtain ⟨v2, vs2, d2, ds2, p2, q2, rfl, rfl, rfl, h2, r2⟩ := trodAll_cons r1
  obtain ⟨rfl, rfl, rfl⟩ := trodAll_nil r2
  obtain rfl : args = #[v0, v1, v2] := by cases args; simp_all
  obtain ⟨rfl, rfl⟩ := trodVars_none hV
  clear hA0 hval0 hargs
  obtain ⟨a0, rfl, rfl, rfl, w0⟩ := open_int Try.underlying3 (hval 0 3 v0 rfl rfl) h0
  obtain ⟨a1, rfl, rfl, rfl, w1⟩ := open_int Try.underlying3 (hval 1 3 v1 rfl rfl) h1
  obtain ⟨a2, rfl, rfl, rfl, w2⟩ := open_int Try.underlying3 (hval 2 3 v2 rfl rfl) h2
  simp only [List.append_nil] at hW'
  refine (arithBits_walk a0 a1 a2 w0 w1 w2 W).mono fun e W' ⟨he, hg⟩ => ?_
  subst he
  exact ⟨_, rfl, post_law hW' (fun _ _ _ => (trodAll_cons_mk (shut_bool Try.underlying4 _) trodAll_mk0)) (trodAll_cons_mk (shut_int Try.underlying3 w0) (trodAll_cons_mk (shut_int Try.underlying3 w1) (trodAll_cons_mk (shut_int Try.underlying3 w2) trodAll_mk0))) rfl hg⟩

theorem arithBits_over : Rows.arithBitsRow.holds Try.pinned (OpenSpec.ofChange Rows.arithBitsSpec) :=
  OpenClaim.holds_of_wide 6 Try.f6 rfl rfl rfl rfl rfl rfl rfl ⟨rfl, rfl, rfl, rfl, rfl⟩ rfl rfl rfl rfl rfl (by kernel_rfl) Try.func6 (by kernel_rfl)
    (of_decide_eq_true (by kernel_rfl)) (by unfold Func.isWrapper; first | (rw [if_pos (by decide +kernel)]; kernel_rfl) | (rw [if_neg (by decide +kernel)]; exact ⟨rfl, rfl⟩))
    (fun os started H enc _ => arithBits_lifted os started H enc)

/-- the statement -/
theorem arithBits_holds : Rows.ArithBitsSaid := arithBits_over

end Go.Proofs.Ytagomghagaioeaa
