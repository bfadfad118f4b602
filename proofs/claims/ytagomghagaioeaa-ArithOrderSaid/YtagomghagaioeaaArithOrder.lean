/- just one of less, same and above is so: the proof of 'ArithOrderSaid', with no condition. -/
import Derived.Test.YtagomghagaioeaaArBase
import Derived.Test.YtagomghagaioeaaArLaws
import Derived.Test.YtagomghagaioeaaRow
namespace Go.Proofs.Ytagomghagaioeaa
open Go.ChangeShapes Go.WideShapes Go.ChangeAt Go.RowKit

/-- the array that the statement fills: behind the rounds below k -/
def arr (a b : Int) (k j : Nat) : Int := if 11 ≤ j ∧ j < k then two j a b else 0
theorem arr_start (a b : Int) (j : Nat) : arr a b 11 j = 0 := by unfold arr; rw [if_neg (by omega)]
theorem frozen_new (w : World) (c : Array Value) (t : TypeId) (i : Nat) : (w.alloc (.cells c t)).frozen? ⟨w.heap.size, i, none⟩ = false :=
  World.frozen?_alloc_new _ _ _ _
structure ArrIs (a b : Int) (B k : Nat) (w : World) : Prop where
  size : B < w.heap.size
  cells : ∀ j : Nat, j < 17 → w.cell? ⟨B, j, none⟩ = some (.int .i64 (arr a b k j))
  thaw : ∀ j : Nat, w.frozen? ⟨B, j, none⟩ = false
theorem ArrIs.cell {a b : Int} {B k : Nat} {w w2 : World} (h : ArrIs a b B k w) (hb : Below w.heap.size w w2) {j : Nat} (hj : j < 17) : w2.cell? ⟨B, j, none⟩ = some (.int .i64 (arr a b k j)) :=
  (hb.cell (p := ⟨B, j, none⟩) h.size).trans (h.cells j hj)
theorem ArrIs.frozen {a b : Int} {B k : Nat} {w w2 : World} (h : ArrIs a b B k w) (hb : Below w.heap.size w w2) (j : Nat) : w2.frozen? ⟨B, j, none⟩ = false :=
  (hb.frozen (p := ⟨B, j, none⟩) h.size).trans (h.thaw j)
theorem ArrIs.at_ {a b : Int} {B : Nat} {w w2 : World} (h : ArrIs a b B 17 w) (hb : Below w.heap.size w w2) {j : Nat} (h0 : 11 ≤ j) (h1 : j < 17) {v : Int} (hv : two (j : Int) a b = v) : w2.cell? ⟨B, j, none⟩ = some (.int .i64 v) := by
  rw [h.cell hb h1, ← hv]
  unfold arr
  rw [if_pos ⟨h0, h1⟩]
theorem ArrIs.lt {a b : Int} {B k : Nat} {w w2 : World} (h : ArrIs a b B k w) (hb : Below w.heap.size w w2) : B < w2.heap.size := Nat.lt_of_lt_of_le h.size hb.size
theorem arr_ok (b : Int) {k : Nat} (h0 : 11 ≤ k) (h1 : k < 17) : twoOk k b = true := by
  have h2 : ¬ (k : Int) = 4 := by omega
  have h3 : ¬ (k : Int) = 5 := by omega
  simp [twoOk, h2, h3]; omega
theorem bit_01 (p : Bool) : bit p = 0 ∨ bit p = 1 := by cases p <;> simp [bit]
theorem arr_bit (a b : Int) {k : Nat} (h0 : 11 ≤ k) (h1 : k < 17) : two k a b = 0 ∨ two k a b = 1 := by
  rcases (by omega : k = 11 ∨ k = 12 ∨ k = 13 ∨ k = 14 ∨ k = 15 ∨ k = 16) with rfl | rfl | rfl | rfl | rfl | rfl
  all_goals simp only [two]; exact bit_01 _
theorem ArrIs.next {a b : Int} {B k : Nat} {w w2 : World} (h : ArrIs a b B k w) (hb : Below w.heap.size w w2) (h0 : 11 ≤ k) (h1 : k < 17) {v : Int} (hv : v = two k a b) :
    ArrIs a b B (k + 1) (w2.setCell ⟨B, k, none⟩ (.int .i64 v)) where
  size := by simpa [World.setCell] using h.lt hb
  cells := by
    intro j hj
    by_cases e : j = k
    · subst e
      rw [World.cell?_setCell_same _ _ _ (h.cell hb hj), hv]
      unfold arr
      rw [if_pos (by omega)]
    · rw [World.cell?_setCell_other _ _ _ _ (by intro c; injection c; omega), h.cell hb hj]
      unfold arr
      by_cases e2 : 11 ≤ j ∧ j < k
      · rw [if_pos e2, if_pos (by omega)]
      · rw [if_neg e2, if_neg (by omega)]
  thaw := by intro j; rw [World.frozen?_setCell]; exact h.frozen hb j

set_option maxRecDepth 100000 in
set_option maxHeartbeats 1000000 in
theorem arithOrder_walk (a b : Int) (_wa : (Lit.int .i64 a).wf = true) (_wb : (Lit.int .i64 b).wf = true) (w : World) :
    Calls Try.prog 5 #[.int .i64 a, .int .i64 b] w fun e w' => e = .returned (.bool true) ∧ Below w.heap.size w w' := by
  have hb := Below.refl w.heap.size w
  go_enter Try.func5, Try.ntmps5
  go_wp2_with (first | (go_at_call 13; refine (Calls_acc hb (awake_any _)).mono ?_; rintro e w' ⟨rfl, hb⟩))
  refine wp_world ?_
  intro W hW
  have hbW : Below w.heap.size w W := by rw [← hW]; exact hb.alloc hb.size _
  have hbB : Below w'.heap.size w' W := by rw [← hW]; exact (Below.refl _ _).alloc (Nat.le_refl _) _
  have hsz : w'.heap.size < W.heap.size := by rw [← hW]; simp
  have hc : ∀ j : Nat, j < 17 → W.cell? ⟨w'.heap.size, j, none⟩ = some (.int .i64 (arr a b 11 j)) := by
    intro j hj
    rw [← hW, World.cell?_alloc_new]
    rw [arr_start]
    rcases (by omega : j = 0 ∨ j = 1 ∨ j = 2 ∨ j = 3 ∨ j = 4 ∨ j = 5 ∨ j = 6 ∨ j = 7 ∨ j = 8 ∨ j = 9 ∨ j = 10 ∨ j = 11 ∨ j = 12 ∨ j = 13 ∨ j = 14 ∨ j = 15 ∨ j = 16) with rfl | rfl | rfl | rfl | rfl | rfl | rfl | rfl | rfl | rfl | rfl | rfl | rfl | rfl | rfl | rfl | rfl
    all_goals rfl
  have hf : ∀ j : Nat, W.frozen? ⟨w'.heap.size, j, none⟩ = false := by
    intro j
    rw [← hW]
    exact frozen_new _ _ _ _
  clear hW
  have hb0 : Below w.heap.size w W := hb.trans (hbB.mono hb.size)
  have hB : w.heap.size ≤ w'.heap.size := hb.size
  clear hbW hbB hb
  generalize w'.heap.size = B at *
  have HC := Lib.hid hc
  have HF := Lib.hid hf
  clear hc hf
  go_loopw [7] (fun i wr => ∃ k : Nat, 11 ≤ k ∧ k ≤ 17 ∧ i = .int .i64 k ∧ ArrIs a b B k wr ∧ Below w.heap.size w wr ∧ w.heap.size ≤ B) (fun i _ => 17 - (intOf i).toNat)
  case atStart => exact ⟨11, by omega, by omega, rfl, ⟨hsz, HC.out, HF.out⟩, hb0, hB⟩
  case round =>
    obtain ⟨k, hk0, hk, rfl, harr, hb, hB⟩ := hrel
    by_cases hlt : k < 17
    · have e1 : twoOk k b = true := arr_ok b hk0 hlt
      have hd : decide ((k : Int) ≤ 16) = true := decide_eq_true (by omega)
      have HA := Lib.hid harr
      clear harr
      rcases arr_bit a b hk0 hlt with e2 | e2
      all_goals
        go_wp2_with fail
        refine (two_any _ _ _ _).mono ?_
        rintro e w2 ⟨rfl, hb2⟩
        have h1 := HA.out.cell hb2 hlt
        have h2 := HA.out.frozen hb2 k
        have h3 := HA.out.lt hb2
        go_wp2
        go_roundw
        case rel => exact ⟨k + 1, by omega, by omega, by go_num, by first | exact HA.out.next hb2 hk0 hlt e2.symm, (hb.trans (hb2.mono hb.size)).setCell hB _, hB⟩
        case measure => simp [intOf]; omega
    · obtain rfl : k = 17 := by omega
      have HB := Lib.hid hb
      clear hb
      rcases (by omega : a < b ∨ a = b ∨ b < a) with hh | hh | hh
      · have v11 : two 11 a b = 1 := by simp [two, bit]; omega
        have v12 : two 12 a b = 1 := by simp [two, bit]; omega
        have v13 : two 13 a b = 0 := by simp [two, bit]; omega
        have v14 : two 14 a b = 0 := by simp [two, bit]; omega
        have v15 : two 15 a b = 0 := by simp [two, bit]; omega
        have v16 : two 16 a b = 1 := by simp [two, bit]; omega
        have v20 : two 11 b a = 0 := by simp [two, bit]; omega
        have v21 : twoOk 11 a = true := by simp [twoOk]
        clear hh
        go_wp2_with fail
        refine (two_any _ _ _ _).mono ?_
        rintro e w2 ⟨rfl, hb2⟩
        have c11 := harr.at_ hb2 (j := 11) (by decide) (by decide) (by exact v11)
        have c12 := harr.at_ hb2 (j := 12) (by decide) (by decide) (by exact v12)
        have c13 := harr.at_ hb2 (j := 13) (by decide) (by decide) (by exact v13)
        have c14 := harr.at_ hb2 (j := 14) (by decide) (by decide) (by exact v14)
        have c15 := harr.at_ hb2 (j := 15) (by decide) (by decide) (by exact v15)
        have c16 := harr.at_ hb2 (j := 16) (by decide) (by decide) (by exact v16)
        have hz := harr.lt hb2
        clear harr
        go_wp2
        go_ret
        exact ⟨rfl, HB.out.trans (hb2.mono HB.out.size)⟩
      · have v11 : two 11 a b = 0 := by subst hh; simp [two, bit]
        have v12 : two 12 a b = 1 := by subst hh; simp [two, bit]
        have v13 : two 13 a b = 0 := by subst hh; simp [two, bit]
        have v14 : two 14 a b = 1 := by subst hh; simp [two, bit]
        have v15 : two 15 a b = 1 := by subst hh; simp [two, bit]
        have v16 : two 16 a b = 0 := by subst hh; simp [two, bit]
        have v20 : two 11 b a = 0 := by subst hh; simp [two, bit]
        have v21 : twoOk 11 a = true := by simp [twoOk]
        clear hh
        go_wp2_with fail
        refine (two_any _ _ _ _).mono ?_
        rintro e w2 ⟨rfl, hb2⟩
        have c11 := harr.at_ hb2 (j := 11) (by decide) (by decide) (by exact v11)
        have c12 := harr.at_ hb2 (j := 12) (by decide) (by decide) (by exact v12)
        have c13 := harr.at_ hb2 (j := 13) (by decide) (by decide) (by exact v13)
        have c14 := harr.at_ hb2 (j := 14) (by decide) (by decide) (by exact v14)
        have c15 := harr.at_ hb2 (j := 15) (by decide) (by decide) (by exact v15)
        have c16 := harr.at_ hb2 (j := 16) (by decide) (by decide) (by exact v16)
        have hz := harr.lt hb2
        clear harr
        go_wp2
        go_ret
        exact ⟨rfl, HB.out.trans (hb2.mono HB.out.size)⟩
      · have v11 : two 11 a b = 0 := by simp [two, bit]; omega
        have v12 : two 12 a b = 0 := by simp [two, bit]; omega
        have v13 : two 13 a b = 1 := by simp [two, bit]; omega
        have v14 : two 14 a b = 1 := by simp [two, bit]; omega
        have v15 : two 15 a b = 0 := by simp [two, bit]; omega
        have v16 : two 16 a b = 1 := by simp [two, bit]; omega
        have v20 : two 11 b a = 1 := by simp [two, bit]; omega
        have v21 : twoOk 11 a = true := by simp [twoOk]
        clear hh
        go_wp2_with fail
        refine (two_any _ _ _ _).mono ?_
        rintro e w2 ⟨rfl, hb2⟩
        have c11 := harr.at_ hb2 (j := 11) (by decide) (by decide) (by exact v11)
        have c12 := harr.at_ hb2 (j := 12) (by decide) (by decide) (by exact v12)
        have c13 := harr.at_ hb2 (j := 13) (by decide) (by decide) (by exact v13)
        have c14 := harr.at_ hb2 (j := 14) (by decide) (by decide) (by exact v14)
        have c15 := harr.at_ hb2 (j := 15) (by decide) (by decide) (by exact v15)
        have c16 := harr.at_ hb2 (j := 16) (by decide) (by decide) (by exact v16)
        have hz := harr.lt hb2
        clear harr
        go_wp2
        go_ret
        exact ⟨rfl, HB.out.trans (hb2.mono HB.out.size)⟩

/-! ### from the walk to the statement -/
set_option maxRecDepth 100000 in
theorem arithOrder_lifted (os : Os) (started : os.Started) (H : Type) (enc : TypeId × Value → H) :
    ReturnsInHanded {} Try.checked os 5 .any (Rows.arithOrderSpec.pre6 enc Try.prog Try.f5 Rows.arithOrderRow.domain false) (Rows.arithOrderSpec.post enc Try.prog Try.f5 false true false false) := by
  refine returnsInHanded_of_change (C := Try.checked) own_ started (by kernel_rfl) Try.func5
    (ChangeSpec.witness6 (enc := enc) (C := Try.checked) false ⟨#[], #[.int .i64 0, .int .i64 0], []⟩ 8 (by kernel_rfl) (by kernel_rfl) (by kernel_rfl) (by kernel_rfl)) ?_
  intro W base args ds gs before hval0 hW hcnd _
  have hval : ∀ (j : Nat) t v, Try.f5.params[j]? = some t → args[j]? = some v → Value.okWide Try.prog W .any base t v := hval0
  have hW' := hW
  obtain ⟨p, q, hA0, hV, rfl, hfz, hnd⟩ := hW
  have hA : DataW.TrodAll enc Try.prog W 0 (fun _ => true) true Try.f5.params.toList args.toList ds p := hA0
  rw [Try.params5] at hA hval
  obtain ⟨v0, vs0, d0, ds0, p0, q0, hargs, rfl, rfl, h0, r0⟩ := trodAll_cons hA
  obtain ⟨v1, vs1, d1, ds1, p1, q1, rfl, rfl, rfl, h1, r1⟩ := trodAll_cons r0
  obtain ⟨rfl, rfl, rfl⟩ := trodAll_nil r1
  obtain rfl : args = #[v0, v1] := by cases args; simp_all
  obtain ⟨rfl, rfl⟩ := trodVars_none hV
  clear hA0 hval0 hargs
  obtain ⟨a0, rfl, rfl, rfl, w0⟩ := open_int Try.underlying3 (hval 0 3 v0 rfl rfl) h0
  obtain ⟨a1, rfl, rfl, rfl, w1⟩ := open_int Try.underlying3 (hval 1 3 v1 rfl rfl) h1
  simp only [List.append_nil] at hW'
  refine (arithOrder_walk a0 a1 w0 w1 W).mono fun e W' ⟨he, hg⟩ => ?_
  subst he
  exact ⟨_, rfl, post_law hW' (fun _ _ _ => (trodAll_cons_mk (shut_bool Try.underlying4 _) trodAll_mk0)) (trodAll_cons_mk (shut_int Try.underlying3 w0) (trodAll_cons_mk (shut_int Try.underlying3 w1) trodAll_mk0)) rfl hg⟩

theorem arithOrder_over : Rows.arithOrderRow.holds Try.pinned (OpenSpec.ofChange Rows.arithOrderSpec) :=
  OpenClaim.holds_of_wide 5 Try.f5 rfl rfl rfl rfl rfl rfl rfl ⟨rfl, rfl, rfl, rfl, rfl⟩ rfl rfl rfl rfl rfl (by kernel_rfl) Try.func5 (by kernel_rfl)
    (of_decide_eq_true (by kernel_rfl)) (by unfold Func.isWrapper; first | (rw [if_pos (by decide +kernel)]; kernel_rfl) | (rw [if_neg (by decide +kernel)]; exact ⟨rfl, rfl⟩))
    (fun os started H enc _ => arithOrder_lifted os started H enc)

/-- the statement -/
theorem arithOrder_holds : Rows.ArithOrderSaid := arithOrder_over

end Go.Proofs.Ytagomghagaioeaa
