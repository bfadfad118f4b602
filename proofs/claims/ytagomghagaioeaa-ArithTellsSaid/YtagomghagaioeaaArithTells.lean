/- operators do, and are written, as the document says: the proof of 'ArithTellsSaid', with no condition. -/
import Derived.Test.YtagomghagaioeaaArBase
import Derived.Test.YtagomghagaioeaaArLaws
import Derived.Test.YtagomghagaioeaaRow
namespace Go.Proofs.Ytagomghagaioeaa
open Go.ChangeShapes Go.WideShapes Go.ChangeAt Go.RowKit


set_option maxRecDepth 100000 in
set_option maxHeartbeats 1000000 in
theorem arithTells_walk (a b c : Int) (wa : (Lit.int .i64 a).wf = true) (_wb : (Lit.int .i64 b).wf = true) (_wc : (Lit.int .i64 c).wf = true) (w : World) :
    Calls Try.prog 3 #[.int .i64 a, .int .i64 b, .int .i64 c] w fun e w' => e = .returned (.bool true) ∧ Below w.heap.size w w' := by
  have hb := Below.refl w.heap.size w
  have la := lo64 wa
  have ua := hi64 wa
  clear wa
  go_enter Try.func3, Try.ntmps3
  go_wp2_with (first | (go_at_call 13; refine (Calls_acc hb (awake_any _)).mono ?_; rintro e w' ⟨rfl, hb⟩) | (go_at_call 14; refine (pick_any _ _ (by assumption) (by assumption) (by decide) _).mono ?_; rintro e w' ⟨rfl, rfl⟩))
  refine wp_world ?_
  intro W hW
  have hbW : Below w.heap.size w W := by rw [← hW]; exact hb.alloc hb.size _
  have hsz : w'.heap.size < W.heap.size := by rw [← hW]; simp
  have hc : ∀ k : Nat, k < 2 → ∃ o : Int, W.cell? ⟨w'.heap.size, k, none⟩ = some (.int .i64 o) := by
    intro k hk
    rw [← hW]
    match k, hk with
    | 0, _ => exact ⟨a, by simp [World.cell?_alloc_new]⟩
    | 1, _ => exact ⟨pk a 21, by simp [World.cell?_alloc_new]⟩
  have HC := Lib.hid hc
  clear hW hc hb
  generalize w'.heap.size = B1 at *
  go_loopw [30] (fun i wr => ∃ k : Nat, k ≤ 2 ∧ i = .int .i64 k ∧ Below W.heap.size W wr) (fun i _ => 2 - (intOf i).toNat)
  case atStart => exact ⟨0, by omega, rfl, Below.refl _ _⟩
  case round =>
    obtain ⟨k, hk, rfl, hb⟩ := hrel
    by_cases hlt : k < 2
    · obtain ⟨o, ho⟩ := HC.out k hlt
      have ho' : wr.cell? ⟨B1, k, none⟩ = some (.int .i64 o) := (hb.cell (p := ⟨B1, k, none⟩) hsz).trans ho
      clear ho
      have hd : decide ((k : Int) < 2) = true := decide_eq_true (by omega)
      go_wp2
      refine wp_world ?_
      intro V hV
      have hbV : Below W.heap.size W V := by rw [← hV]; exact hb.alloc hb.size _
      have hsv : wr.heap.size < V.heap.size := by rw [← hV]; simp
      have hcv : ∀ k : Nat, k < 6 → ∃ y : Int, V.cell? ⟨wr.heap.size, k, none⟩ = some (.int .i64 y) := by
        intro k hk
        rw [← hV]
        match k, hk with
        | 0, _ => exact ⟨c, by simp [World.cell?_alloc_new]⟩
        | 1, _ => exact ⟨b, by simp [World.cell?_alloc_new]⟩
        | 2, _ => exact ⟨0, by simp [World.cell?_alloc_new]⟩
        | 3, _ => exact ⟨1, by simp [World.cell?_alloc_new]⟩
        | 4, _ => exact ⟨-1, by simp [World.cell?_alloc_new]⟩
        | 5, _ => exact ⟨-9223372036854775808, by simp [World.cell?_alloc_new]⟩
      have HV := Lib.hid hcv
      clear hV hcv ho' hb
      generalize wr.heap.size = B2 at *
      go_loopw [38] (fun i wv => ∃ j : Nat, j ≤ 6 ∧ i = .int .i64 j ∧ Below V.heap.size V wv) (fun i _ => 6 - (intOf i).toNat)
      case atStart => exact ⟨0, by omega, rfl, Below.refl _ _⟩
      case round =>
        obtain ⟨j, hj, rfl, hb⟩ := hrel
        by_cases hjt : j < 6
        · obtain ⟨y, hy⟩ := HV.out j hjt
          have hy' : wr.cell? ⟨B2, j, none⟩ = some (.int .i64 y) := (hb.cell (p := ⟨B2, j, none⟩) hsv).trans hy
          clear hy
          go_wp2_with (first | (go_at_call 15; refine (Calls_acc hb (two_any _ _ _ _)).mono ?_; rintro e w' ⟨rfl, hb⟩) | (go_at_call 16; refine (rtwo_any _ _ _ _).mono ?_; rintro e w' ⟨rfl, rfl⟩) | (go_at_call 17; refine (div_any _ _ _).mono ?_; rintro e w' ⟨rfl, rfl⟩) | (go_at_call 18; refine (rdiv_any _ _ _).mono ?_; rintro e w' ⟨rfl, rfl⟩) | (go_at_call 19; refine (rem_any _ _ _).mono ?_; rintro e w' ⟨rfl, rfl⟩) | (go_at_call 20; refine (rrem_any _ _ _).mono ?_; rintro e w' ⟨rfl, rfl⟩) | (go_at_call 21; refine (less_any _ _ _).mono ?_; rintro e w' ⟨rfl, rfl⟩) | (go_at_call 22; refine (rless_any _ _ _).mono ?_; rintro e w' ⟨rfl, rfl⟩))
          go_roundw
          case rel => exact ⟨j + 1, by omega, by go_num, hb⟩
          case measure => simp [intOf]; omega
        · have hb2 := hbV.trans (hb.mono hbV.size)
          clear hb
          have hb := hb2
          clear hb2
          go_wp2_with (first | (go_at_call 23; refine (Calls_acc hb (one_any _ _ _)).mono ?_; rintro e w' ⟨rfl, hb⟩) | (go_at_call 24; refine (rone_any _ _ _).mono ?_; rintro e w' ⟨rfl, rfl⟩) | (go_at_call 25; refine (Calls_acc hb (sign_any _ _)).mono ?_; rintro e w' ⟨rfl, hb⟩) | (go_at_call 26; refine (Calls_acc hb (rsign_any _ _)).mono ?_; rintro e w' ⟨rfl, hb⟩) | (go_at_call 27; refine (Calls_acc hb (level_any _ _)).mono ?_; rintro e w' ⟨rfl, hb⟩) | (go_at_call 28; refine (Calls_acc hb (rlevel_any _ _)).mono ?_; rintro e w' ⟨rfl, hb⟩))
          go_roundw
          case rel => exact ⟨k + 1, by omega, by go_num, hb⟩
          case measure => simp [intOf]; omega
    · go_wp2
      go_ret
      exact ⟨rfl, hbW.trans (hb.mono hbW.size)⟩

/-! ### from the walk to the statement -/
set_option maxRecDepth 100000 in
theorem arithTells_lifted (os : Os) (started : os.Started) (H : Type) (enc : TypeId × Value → H) :
    ReturnsInHanded {} Try.checked os 3 .any (Rows.arithTellsSpec.pre6 enc Try.prog Try.f3 Rows.arithTellsRow.domain false) (Rows.arithTellsSpec.post enc Try.prog Try.f3 false true false false) := by
  refine returnsInHanded_of_change (C := Try.checked) own_ started (by kernel_rfl) Try.func3
    (ChangeSpec.witness6 (enc := enc) (C := Try.checked) false ⟨#[], #[.int .i64 0, .int .i64 0, .int .i64 0], []⟩ 8 (by kernel_rfl) (by kernel_rfl) (by kernel_rfl) (by kernel_rfl)) ?_
  intro W base args ds gs before hval0 hW hcnd _
  have hval : ∀ (j : Nat) t v, Try.f3.params[j]? = some t → args[j]? = some v → Value.okWide Try.prog W .any base t v := hval0
  have hW' := hW
  obtain ⟨p, q, hA0, hV, rfl, hfz, hnd⟩ := hW
  have hA : DataW.TrodAll enc Try.prog W 0 (fun _ => true) true Try.f3.params.toList args.toList ds p := hA0
  rw [Try.params3] at hA hval
  obtain ⟨v0, vs0, d0, ds0, p0, q0, hargs, rfl, rfl, h0, r0⟩ := trodAll_cons hA
  obtain ⟨v1, vs1, d1, ds1, p1, q1, rfl, rfl, rfl, h1, r1⟩ := trodAll_cons r0
  obtain ⟨v2, vs2, d2, ds2, p2, q2, rfl, rfl, rfl, h2, r2⟩ := trodAll_cons r1
  obtain ⟨rfl, rfl, rfl⟩ := trodAll_nil r2
  obtain rfl : args = #[v0, v1, v2] := by cases args; simp_all
  obtain ⟨rfl, rfl⟩ := trodVars_none hV
  clear hA0 hval0 hargs
  obtain ⟨a0, rfl, rfl, rfl, w0⟩ := open_int Try.underlying3 (hval 0 3 v0 rfl rfl) h0
  obtain ⟨a1, rfl, rfl, rfl, w1⟩ := open_int Try.underlying3 (hval 1 3 v1 rfl rfl) h1
  obtain ⟨a2, rfl, rfl, rfl, w2⟩ := open_int Try.underlying3 (hval 2 3 v2 rfl rfl) h2
  simp only [List.append_nil] at hW'
  refine (arithTells_walk a0 a1 a2 w0 w1 w2 W).mono fun e W' ⟨he, hg⟩ => ?_
  subst he
  exact ⟨_, rfl, post_law hW' (fun _ _ _ => (trodAll_cons_mk (shut_bool Try.underlying4 _) trodAll_mk0)) (trodAll_cons_mk (shut_int Try.underlying3 w0) (trodAll_cons_mk (shut_int Try.underlying3 w1) (trodAll_cons_mk (shut_int Try.underlying3 w2) trodAll_mk0))) rfl hg⟩

theorem arithTells_over : Rows.arithTellsRow.holds Try.pinned (OpenSpec.ofChange Rows.arithTellsSpec) :=
  OpenClaim.holds_of_wide 3 Try.f3 rfl rfl rfl rfl rfl rfl rfl ⟨rfl, rfl, rfl, rfl, rfl⟩ rfl rfl rfl rfl rfl (by kernel_rfl) Try.func3 (by kernel_rfl)
    (of_decide_eq_true (by kernel_rfl)) (by unfold Func.isWrapper; first | (rw [if_pos (by decide +kernel)]; kernel_rfl) | (rw [if_neg (by decide +kernel)]; exact ⟨rfl, rfl⟩))
    (fun os started H enc _ => arithTells_lifted os started H enc)

/-- the statement -/
theorem arithTells_holds : Rows.ArithTellsSaid := arithTells_over

end Go.Proofs.Ytagomghagaioeaa
