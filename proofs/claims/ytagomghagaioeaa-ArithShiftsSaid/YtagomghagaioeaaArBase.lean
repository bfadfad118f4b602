/- Layer 1's statements: what they share: pick, awake, and contracts that carry 'Below' on from the statement's beginning. -/
import Derived.Test.YtagomghagaioeaaArAny
namespace Go.Proofs.Ytagomghagaioeaa
open Go.RowKit

theorem Calls_acc {P : Program} {f : FuncId} {args : Array Value} {w0 w : World} {v : Value} (hb : Below w0.heap.size w0 w)
    (h : Calls P f args w fun e w' => e = .returned v ∧ Below w.heap.size w w') : Calls P f args w fun e w' => e = .returned v ∧ Below w0.heap.size w0 w' :=
  h.mono fun _ _ ⟨he, h'⟩ => ⟨he, hb.trans (h'.mono hb.size)⟩

theorem wp_world {P : Program} {c : Code} {Q : Exit → Act → World → Prop} {a : Act} {w : World} (h : ∀ W, w = W → c.wp P Q a W) : c.wp P Q a w := h w rfl

/-- of a raw number: which of n things -/
def pk (a n : Int) : Int := (if a < 0 then -(a + 1) else a) % n
theorem pk_lo (a n : Int) (hn : 0 < n) : 0 ≤ pk a n := Int.emod_nonneg _ (by omega)
theorem pk_hi (a n : Int) (hn : 0 < n) : pk a n < n := Int.emod_lt_of_pos _ hn
theorem lo64 {a : Int} (h : (Lit.int .i64 a).wf = true) : -9223372036854775808 ≤ a := by
  simp [Lit.wf, IntKind.min, IntKind.max, IntKind.signed, IntKind.bits] at h
  omega
theorem hi64 {a : Int} (h : (Lit.int .i64 a).wf = true) : a ≤ 9223372036854775807 := by
  simp [Lit.wf, IntKind.min, IntKind.max, IntKind.signed, IntKind.bits] at h
  omega

set_option maxHeartbeats 400000 in
theorem pick_any (a n : Int) (ha : -9223372036854775808 ≤ a) (ha' : a ≤ 9223372036854775807) (hn : 0 < n) (w : World) :
    Calls Try.prog 14 #[.int .i64 a, .int .i64 n] w fun e w' => e = .returned (.int .i64 (pk a n)) ∧ w = w' := by
  have h0 : 1 ≤ n := hn
  have h1 : (n == 0) = false := by rw [beq_eq_false_iff_ne]; omega
  by_cases h : a < 0
  · have h2 : 0 ≤ -(a + 1) := by omega
    have hp : Hid (pk a n = -(a + 1).tmod n) := by show pk a n = _; rw [pk, if_pos h, ← Int.tmod_eq_emod_of_nonneg h2, Int.neg_tmod]
    go_enter Try.func14, Try.ntmps14
    go_wp2
    go_ret
    exact ⟨ret_int hp.out.symm, rfl⟩
  · have hp : Hid (pk a n = a % n) := by show pk a n = _; rw [pk, if_neg h]
    have h2 : 0 ≤ a := by omega
    go_enter Try.func14, Try.ntmps14
    go_wp2
    go_ret
    exact ⟨ret_int hp.out.symm, rfl⟩

set_option maxHeartbeats 1000000 in
theorem awake_any (w : World) :
    Calls Try.prog 13 #[] w fun e w' => e = .returned (.bool true) ∧ Below w.heap.size w w' := by
  have hb := Below.refl w.heap.size w
  have e1 : two 5 (-7) 3 = -1 := by decide +kernel
  have e2 : twoOk 5 3 = true := by decide +kernel
  have e3 : twoOk 4 0 = false := by decide +kernel
  have e4 : divq 5 0 = -1 := by decide +kernel
  have e5 : sgn 9 = ⟨#[60, 60]⟩ := by simp [sgn]
  have e6 : sgnOk 9 = true := by decide +kernel
  have e7 : one 19 4 = -5 := by decide +kernel
  have e8 : oneOk 19 = true := by decide +kernel
  have e9 : lvl 3 = 8 := by decide +kernel
  have e10 : ltu 1 (-1) = true := by decide +kernel
  go_enter Try.func13, Try.ntmps13
  go_wp2_with (first | (go_at_call 15; refine (Calls_acc hb (two_any _ _ _ _)).mono ?_; rintro e w' ⟨rfl, hb⟩) | (go_at_call 23; refine (Calls_acc hb (one_any _ _ _)).mono ?_; rintro e w' ⟨rfl, hb⟩) | (go_at_call 25; refine (Calls_acc hb (sign_any _ _)).mono ?_; rintro e w' ⟨rfl, hb⟩) | (go_at_call 27; refine (Calls_acc hb (level_any _ _)).mono ?_; rintro e w' ⟨rfl, hb⟩) | (go_at_call 17; refine (div_any _ _ _).mono ?_; rintro e w' ⟨rfl, rfl⟩) | (go_at_call 21; refine (less_any _ _ _).mono ?_; rintro e w' ⟨rfl, rfl⟩))
  go_ret
  exact ⟨rfl, hb⟩
end Go.Proofs.Ytagomghagaioeaa
