/- What the functions of arith (layer 1) and of its reference do: one contract a function, at every argument. -/
import Derived.Test.YtnpnhdmfdhnmfaaGreatDoorRows
import Derived.Test.YtnpnhdmfdhnmfaaGreatDoorArP
import Derived.WalkKit
import Derived.WalkSpells
import Derived.WalkLawsBesides
import Derived.Laws.EntriesVeiled
import Derived.Lib.Hide
namespace Go.Proofs.YtnpnhdmfdhnmfaaGreatDoor.Ar
open Go.RowKit

theorem ret_int {k : IntKind} {a b : Int} (h : a = b) : Ending.returned (.int k a) = .returned (.int k b) := by rw [h]
theorem ret_bool {a b : Bool} (h : a = b) : Ending.returned (.bool a) = .returned (.bool b) := by rw [h]
theorem ret_ib {k : IntKind} {a b : Int} {p q : Bool} (h : a = b) (g : p = q) : Ending.returned (.tuple #[.int k a, .bool p]) = .returned (.tuple #[.int k b, .bool q]) := by rw [h, g]
theorem shn_lo (b : Int) : 0 ≤ bits .and .i64 b 63 := by
  show 0 ≤ IntKind.i64.wrap ((BitVec.ofInt 64 b &&& BitVec.ofInt 64 63).toNat : Int)
  have h : (BitVec.ofInt 64 b &&& BitVec.ofInt 64 63).toNat ≤ 63 := by
    rw [BitVec.toNat_and]; exact Nat.and_le_right
  rw [IntKind.wrap_i64]; omega
theorem shn_hi (b : Int) : bits .and .i64 b 63 ≤ 63 := by
  show IntKind.i64.wrap ((BitVec.ofInt 64 b &&& BitVec.ofInt 64 63).toNat : Int) ≤ 63
  have h : (BitVec.ofInt 64 b &&& BitVec.ofInt 64 63).toNat ≤ 63 := by
    rw [BitVec.toNat_and]; exact Nat.and_le_right
  rw [IntKind.wrap_i64]; omega

set_option maxHeartbeats 400000 in
theorem div_any (a b : Int) (w : World) :
    Calls Tryz.prog 110 #[.int .i64 a, .int .i64 b] w fun e w' => e = .returned (.int .i64 (divq a b)) ∧ w = w' := by
  by_cases h : b = 0
  · subst h
    go_enter Tryz.func110, Tryz.ntmps110
    go_wp2
    go_ret
    exact ⟨rfl, rfl⟩
  · go_enter Tryz.func110, Tryz.ntmps110
    go_wp2
    go_ret
    exact ⟨ret_int (by rw [divq, if_neg h]), rfl⟩

set_option maxHeartbeats 400000 in
theorem rem_any (a b : Int) (w : World) :
    Calls Tryz.prog 111 #[.int .i64 a, .int .i64 b] w fun e w' => e = .returned (.int .i64 (remr a b)) ∧ w = w' := by
  by_cases h : b = 0
  · subst h
    go_enter Tryz.func111, Tryz.ntmps111
    go_wp2
    go_ret
    exact ⟨rfl, rfl⟩
  · go_enter Tryz.func111, Tryz.ntmps111
    go_wp2
    go_ret
    exact ⟨ret_int (by rw [remr, if_neg h]), rfl⟩

theorem divq_m1 (a : Int) : divq a (-1) = wrap64 (-a) := by rw [divq, if_neg (by decide)]; simp [Int.tdiv_neg]
theorem remr_m1 (a : Int) : remr a (-1) = 0 := by rw [remr, if_neg (by decide)]; simp [Int.tmod_neg]

set_option maxHeartbeats 400000 in
theorem flag_any (p : Bool) (w : World) :
    Calls Tryz.prog 118 #[.bool p] w fun e w' => e = .returned (.int .i64 (bit p)) ∧ w = w' := by
  cases p
  all_goals
    go_enter Tryz.func118, Tryz.ntmps118
    go_wp2
    go_ret
    exact ⟨rfl, rfl⟩

/-- less, as numbers without a sign -/
def ltu (a b : Int) : Bool := decide (IntKind.u64.wrap a < IntKind.u64.wrap b)

theorem eq_func2 (fn : Fn) (w : World) : (binOp .eql 50 (.func fn #[] #[]) .nilFunc).run Tryz.prog w = .ok (.bool false) w := by kernel_rfl
theorem eq_nil2 (w : World) : (binOp .eql 50 .nilFunc .nilFunc).run Tryz.prog w = .ok (.bool true) w := by kernel_rfl
theorem eq_func1 (fn : Fn) (w : World) : (binOp .eql 132 (.func fn #[] #[]) .nilFunc).run Tryz.prog w = .ok (.bool false) w := by kernel_rfl
theorem eq_nil1 (w : World) : (binOp .eql 132 .nilFunc .nilFunc).run Tryz.prog w = .ok (.bool true) w := by kernel_rfl
attribute [local go_sem] eq_func1 eq_func2 eq_nil1 eq_nil2
theorem below2 (w : World) (o p : Obj) : Below w.heap.size w ((w.alloc o).alloc p) := ((Below.refl _ _).alloc (Nat.le_refl _) _).alloc (by simp) _
set_option maxHeartbeats 400000 in
theorem row1  (w : World) :
    Calls Tryz.prog 77 #[.int .i64 1] w fun e w' => e = .returned (.agg #[.string ⟨#[43]⟩, .int .i64 7, .func (.func 107) #[] #[], .nilFunc]) ∧ w.alloc (.cells #[.string ⟨#[43]⟩, .int .i64 7, .func (.func 107) #[] #[], .nilFunc] 134) = w' := by
  go_enter Tryz.func77, Tryz.ntmps77
  go_wp2
  exact bodyPost_ret (v := .agg #[.string ⟨#[43]⟩, .int .i64 7, .func (.func 107) #[] #[], .nilFunc]) (by simp [results, Tryz.results77, go_sem]) rfl ⟨rfl, rfl⟩

set_option maxHeartbeats 400000 in
theorem row2  (w : World) :
    Calls Tryz.prog 77 #[.int .i64 2] w fun e w' => e = .returned (.agg #[.string ⟨#[45]⟩, .int .i64 7, .func (.func 108) #[] #[], .nilFunc]) ∧ w.alloc (.cells #[.string ⟨#[45]⟩, .int .i64 7, .func (.func 108) #[] #[], .nilFunc] 134) = w' := by
  go_enter Tryz.func77, Tryz.ntmps77
  go_wp2
  exact bodyPost_ret (v := .agg #[.string ⟨#[45]⟩, .int .i64 7, .func (.func 108) #[] #[], .nilFunc]) (by simp [results, Tryz.results77, go_sem]) rfl ⟨rfl, rfl⟩

set_option maxHeartbeats 400000 in
theorem row3  (w : World) :
    Calls Tryz.prog 77 #[.int .i64 3] w fun e w' => e = .returned (.agg #[.string ⟨#[42]⟩, .int .i64 8, .func (.func 109) #[] #[], .nilFunc]) ∧ w.alloc (.cells #[.string ⟨#[42]⟩, .int .i64 8, .func (.func 109) #[] #[], .nilFunc] 134) = w' := by
  go_enter Tryz.func77, Tryz.ntmps77
  go_wp2
  exact bodyPost_ret (v := .agg #[.string ⟨#[42]⟩, .int .i64 8, .func (.func 109) #[] #[], .nilFunc]) (by simp [results, Tryz.results77, go_sem]) rfl ⟨rfl, rfl⟩

set_option maxHeartbeats 400000 in
theorem row4  (w : World) :
    Calls Tryz.prog 77 #[.int .i64 4] w fun e w' => e = .returned (.agg #[.string ⟨#[47]⟩, .int .i64 8, .func (.func 110) #[] #[], .nilFunc]) ∧ w.alloc (.cells #[.string ⟨#[47]⟩, .int .i64 8, .func (.func 110) #[] #[], .nilFunc] 134) = w' := by
  go_enter Tryz.func77, Tryz.ntmps77
  go_wp2
  exact bodyPost_ret (v := .agg #[.string ⟨#[47]⟩, .int .i64 8, .func (.func 110) #[] #[], .nilFunc]) (by simp [results, Tryz.results77, go_sem]) rfl ⟨rfl, rfl⟩

set_option maxHeartbeats 400000 in
theorem row5  (w : World) :
    Calls Tryz.prog 77 #[.int .i64 5] w fun e w' => e = .returned (.agg #[.string ⟨#[37]⟩, .int .i64 8, .func (.func 111) #[] #[], .nilFunc]) ∧ w.alloc (.cells #[.string ⟨#[37]⟩, .int .i64 8, .func (.func 111) #[] #[], .nilFunc] 134) = w' := by
  go_enter Tryz.func77, Tryz.ntmps77
  go_wp2
  exact bodyPost_ret (v := .agg #[.string ⟨#[37]⟩, .int .i64 8, .func (.func 111) #[] #[], .nilFunc]) (by simp [results, Tryz.results77, go_sem]) rfl ⟨rfl, rfl⟩

set_option maxHeartbeats 400000 in
theorem row6  (w : World) :
    Calls Tryz.prog 77 #[.int .i64 6] w fun e w' => e = .returned (.agg #[.string ⟨#[38]⟩, .int .i64 3, .func (.func 112) #[] #[], .nilFunc]) ∧ w.alloc (.cells #[.string ⟨#[38]⟩, .int .i64 3, .func (.func 112) #[] #[], .nilFunc] 134) = w' := by
  go_enter Tryz.func77, Tryz.ntmps77
  go_wp2
  exact bodyPost_ret (v := .agg #[.string ⟨#[38]⟩, .int .i64 3, .func (.func 112) #[] #[], .nilFunc]) (by simp [results, Tryz.results77, go_sem]) rfl ⟨rfl, rfl⟩

set_option maxHeartbeats 400000 in
theorem row7  (w : World) :
    Calls Tryz.prog 77 #[.int .i64 7] w fun e w' => e = .returned (.agg #[.string ⟨#[124]⟩, .int .i64 1, .func (.func 113) #[] #[], .nilFunc]) ∧ w.alloc (.cells #[.string ⟨#[124]⟩, .int .i64 1, .func (.func 113) #[] #[], .nilFunc] 134) = w' := by
  go_enter Tryz.func77, Tryz.ntmps77
  go_wp2
  exact bodyPost_ret (v := .agg #[.string ⟨#[124]⟩, .int .i64 1, .func (.func 113) #[] #[], .nilFunc]) (by simp [results, Tryz.results77, go_sem]) rfl ⟨rfl, rfl⟩

set_option maxHeartbeats 400000 in
theorem row8  (w : World) :
    Calls Tryz.prog 77 #[.int .i64 8] w fun e w' => e = .returned (.agg #[.string ⟨#[94]⟩, .int .i64 2, .func (.func 114) #[] #[], .nilFunc]) ∧ w.alloc (.cells #[.string ⟨#[94]⟩, .int .i64 2, .func (.func 114) #[] #[], .nilFunc] 134) = w' := by
  go_enter Tryz.func77, Tryz.ntmps77
  go_wp2
  exact bodyPost_ret (v := .agg #[.string ⟨#[94]⟩, .int .i64 2, .func (.func 114) #[] #[], .nilFunc]) (by simp [results, Tryz.results77, go_sem]) rfl ⟨rfl, rfl⟩

set_option maxHeartbeats 400000 in
theorem row9  (w : World) :
    Calls Tryz.prog 77 #[.int .i64 9] w fun e w' => e = .returned (.agg #[.string ⟨#[60, 60]⟩, .int .i64 6, .func (.func 115) #[] #[], .nilFunc]) ∧ w.alloc (.cells #[.string ⟨#[60, 60]⟩, .int .i64 6, .func (.func 115) #[] #[], .nilFunc] 134) = w' := by
  go_enter Tryz.func77, Tryz.ntmps77
  go_wp2
  exact bodyPost_ret (v := .agg #[.string ⟨#[60, 60]⟩, .int .i64 6, .func (.func 115) #[] #[], .nilFunc]) (by simp [results, Tryz.results77, go_sem]) rfl ⟨rfl, rfl⟩

set_option maxHeartbeats 400000 in
theorem row10  (w : World) :
    Calls Tryz.prog 77 #[.int .i64 10] w fun e w' => e = .returned (.agg #[.string ⟨#[62, 62]⟩, .int .i64 6, .func (.func 116) #[] #[], .nilFunc]) ∧ w.alloc (.cells #[.string ⟨#[62, 62]⟩, .int .i64 6, .func (.func 116) #[] #[], .nilFunc] 134) = w' := by
  go_enter Tryz.func77, Tryz.ntmps77
  go_wp2
  exact bodyPost_ret (v := .agg #[.string ⟨#[62, 62]⟩, .int .i64 6, .func (.func 116) #[] #[], .nilFunc]) (by simp [results, Tryz.results77, go_sem]) rfl ⟨rfl, rfl⟩

set_option maxHeartbeats 400000 in
theorem row11  (w : World) :
    Calls Tryz.prog 77 #[.int .i64 11] w fun e w' => e = .returned (.agg #[.string ⟨#[60]⟩, .int .i64 5, .func (.func 117) #[] #[], .nilFunc]) ∧ w.alloc (.cells #[.string ⟨#[60]⟩, .int .i64 5, .func (.func 117) #[] #[], .nilFunc] 134) = w' := by
  go_enter Tryz.func77, Tryz.ntmps77
  go_wp2
  exact bodyPost_ret (v := .agg #[.string ⟨#[60]⟩, .int .i64 5, .func (.func 117) #[] #[], .nilFunc]) (by simp [results, Tryz.results77, go_sem]) rfl ⟨rfl, rfl⟩

set_option maxHeartbeats 400000 in
theorem row12  (w : World) :
    Calls Tryz.prog 77 #[.int .i64 12] w fun e w' => e = .returned (.agg #[.string ⟨#[60, 61]⟩, .int .i64 5, .func (.func 119) #[] #[], .nilFunc]) ∧ w.alloc (.cells #[.string ⟨#[60, 61]⟩, .int .i64 5, .func (.func 119) #[] #[], .nilFunc] 134) = w' := by
  go_enter Tryz.func77, Tryz.ntmps77
  go_wp2
  exact bodyPost_ret (v := .agg #[.string ⟨#[60, 61]⟩, .int .i64 5, .func (.func 119) #[] #[], .nilFunc]) (by simp [results, Tryz.results77, go_sem]) rfl ⟨rfl, rfl⟩

set_option maxHeartbeats 400000 in
theorem row13  (w : World) :
    Calls Tryz.prog 77 #[.int .i64 13] w fun e w' => e = .returned (.agg #[.string ⟨#[62]⟩, .int .i64 5, .func (.func 120) #[] #[], .nilFunc]) ∧ w.alloc (.cells #[.string ⟨#[62]⟩, .int .i64 5, .func (.func 120) #[] #[], .nilFunc] 134) = w' := by
  go_enter Tryz.func77, Tryz.ntmps77
  go_wp2
  exact bodyPost_ret (v := .agg #[.string ⟨#[62]⟩, .int .i64 5, .func (.func 120) #[] #[], .nilFunc]) (by simp [results, Tryz.results77, go_sem]) rfl ⟨rfl, rfl⟩

set_option maxHeartbeats 400000 in
theorem row14  (w : World) :
    Calls Tryz.prog 77 #[.int .i64 14] w fun e w' => e = .returned (.agg #[.string ⟨#[62, 61]⟩, .int .i64 5, .func (.func 121) #[] #[], .nilFunc]) ∧ w.alloc (.cells #[.string ⟨#[62, 61]⟩, .int .i64 5, .func (.func 121) #[] #[], .nilFunc] 134) = w' := by
  go_enter Tryz.func77, Tryz.ntmps77
  go_wp2
  exact bodyPost_ret (v := .agg #[.string ⟨#[62, 61]⟩, .int .i64 5, .func (.func 121) #[] #[], .nilFunc]) (by simp [results, Tryz.results77, go_sem]) rfl ⟨rfl, rfl⟩

set_option maxHeartbeats 400000 in
theorem row15  (w : World) :
    Calls Tryz.prog 77 #[.int .i64 15] w fun e w' => e = .returned (.agg #[.string ⟨#[61, 61]⟩, .int .i64 4, .func (.func 122) #[] #[], .nilFunc]) ∧ w.alloc (.cells #[.string ⟨#[61, 61]⟩, .int .i64 4, .func (.func 122) #[] #[], .nilFunc] 134) = w' := by
  go_enter Tryz.func77, Tryz.ntmps77
  go_wp2
  exact bodyPost_ret (v := .agg #[.string ⟨#[61, 61]⟩, .int .i64 4, .func (.func 122) #[] #[], .nilFunc]) (by simp [results, Tryz.results77, go_sem]) rfl ⟨rfl, rfl⟩

set_option maxHeartbeats 400000 in
theorem row16  (w : World) :
    Calls Tryz.prog 77 #[.int .i64 16] w fun e w' => e = .returned (.agg #[.string ⟨#[33, 61]⟩, .int .i64 4, .func (.func 123) #[] #[], .nilFunc]) ∧ w.alloc (.cells #[.string ⟨#[33, 61]⟩, .int .i64 4, .func (.func 123) #[] #[], .nilFunc] 134) = w' := by
  go_enter Tryz.func77, Tryz.ntmps77
  go_wp2
  exact bodyPost_ret (v := .agg #[.string ⟨#[33, 61]⟩, .int .i64 4, .func (.func 123) #[] #[], .nilFunc]) (by simp [results, Tryz.results77, go_sem]) rfl ⟨rfl, rfl⟩

set_option maxHeartbeats 400000 in
theorem row17  (w : World) :
    Calls Tryz.prog 77 #[.int .i64 17] w fun e w' => e = .returned (.agg #[.string ⟨#[45]⟩, .int .i64 0, .nilFunc, .func (.func 124) #[] #[]]) ∧ w.alloc (.cells #[.string ⟨#[45]⟩, .int .i64 0, .nilFunc, .func (.func 124) #[] #[]] 134) = w' := by
  go_enter Tryz.func77, Tryz.ntmps77
  go_wp2
  exact bodyPost_ret (v := .agg #[.string ⟨#[45]⟩, .int .i64 0, .nilFunc, .func (.func 124) #[] #[]]) (by simp [results, Tryz.results77, go_sem]) rfl ⟨rfl, rfl⟩

set_option maxHeartbeats 400000 in
theorem row18  (w : World) :
    Calls Tryz.prog 77 #[.int .i64 18] w fun e w' => e = .returned (.agg #[.string ⟨#[33]⟩, .int .i64 0, .nilFunc, .func (.func 125) #[] #[]]) ∧ w.alloc (.cells #[.string ⟨#[33]⟩, .int .i64 0, .nilFunc, .func (.func 125) #[] #[]] 134) = w' := by
  go_enter Tryz.func77, Tryz.ntmps77
  go_wp2
  exact bodyPost_ret (v := .agg #[.string ⟨#[33]⟩, .int .i64 0, .nilFunc, .func (.func 125) #[] #[]]) (by simp [results, Tryz.results77, go_sem]) rfl ⟨rfl, rfl⟩

set_option maxHeartbeats 400000 in
theorem row19  (w : World) :
    Calls Tryz.prog 77 #[.int .i64 19] w fun e w' => e = .returned (.agg #[.string ⟨#[126]⟩, .int .i64 0, .nilFunc, .func (.func 126) #[] #[]]) ∧ w.alloc (.cells #[.string ⟨#[126]⟩, .int .i64 0, .nilFunc, .func (.func 126) #[] #[]] 134) = w' := by
  go_enter Tryz.func77, Tryz.ntmps77
  go_wp2
  exact bodyPost_ret (v := .agg #[.string ⟨#[126]⟩, .int .i64 0, .nilFunc, .func (.func 126) #[] #[]]) (by simp [results, Tryz.results77, go_sem]) rfl ⟨rfl, rfl⟩

/-- op is no operator -/
def NoOp (op : Int) : Prop := op < 1 ∨ 19 < op
set_option maxHeartbeats 400000 in
theorem row0 (op : Int) (h : NoOp op) (w : World) :
    Calls Tryz.prog 77 #[.int .i64 op] w fun e w' => e = .returned (.agg #[.string ⟨#[]⟩, .int .i64 0, .nilFunc, .nilFunc]) ∧ w.alloc (.cells #[.string ⟨#[]⟩, .int .i64 0, .nilFunc, .nilFunc] 134) = w' := by
  have h1 : (op == 1) = false := by unfold NoOp at h; rw [beq_eq_false_iff_ne]; omega
  have h2 : (op == 2) = false := by unfold NoOp at h; rw [beq_eq_false_iff_ne]; omega
  have h3 : (op == 3) = false := by unfold NoOp at h; rw [beq_eq_false_iff_ne]; omega
  have h4 : (op == 4) = false := by unfold NoOp at h; rw [beq_eq_false_iff_ne]; omega
  have h5 : (op == 5) = false := by unfold NoOp at h; rw [beq_eq_false_iff_ne]; omega
  have h6 : (op == 6) = false := by unfold NoOp at h; rw [beq_eq_false_iff_ne]; omega
  have h7 : (op == 7) = false := by unfold NoOp at h; rw [beq_eq_false_iff_ne]; omega
  have h8 : (op == 8) = false := by unfold NoOp at h; rw [beq_eq_false_iff_ne]; omega
  have h9 : (op == 9) = false := by unfold NoOp at h; rw [beq_eq_false_iff_ne]; omega
  have h10 : (op == 10) = false := by unfold NoOp at h; rw [beq_eq_false_iff_ne]; omega
  have h11 : (op == 11) = false := by unfold NoOp at h; rw [beq_eq_false_iff_ne]; omega
  have h12 : (op == 12) = false := by unfold NoOp at h; rw [beq_eq_false_iff_ne]; omega
  have h13 : (op == 13) = false := by unfold NoOp at h; rw [beq_eq_false_iff_ne]; omega
  have h14 : (op == 14) = false := by unfold NoOp at h; rw [beq_eq_false_iff_ne]; omega
  have h15 : (op == 15) = false := by unfold NoOp at h; rw [beq_eq_false_iff_ne]; omega
  have h16 : (op == 16) = false := by unfold NoOp at h; rw [beq_eq_false_iff_ne]; omega
  have h17 : (op == 17) = false := by unfold NoOp at h; rw [beq_eq_false_iff_ne]; omega
  have h18 : (op == 18) = false := by unfold NoOp at h; rw [beq_eq_false_iff_ne]; omega
  have h19 : (op == 19) = false := by unfold NoOp at h; rw [beq_eq_false_iff_ne]; omega
  clear h
  go_enter Tryz.func77, Tryz.ntmps77
  go_wp2
  exact bodyPost_ret (v := .agg #[.string ⟨#[]⟩, .int .i64 0, .nilFunc, .nilFunc]) (by simp [results, Tryz.results77, go_sem]) rfl ⟨rfl, rfl⟩

set_option maxHeartbeats 400000 in
theorem two1 (a b : Int) (w : World) :
    Calls Tryz.prog 99 #[.int .i64 1, .int .i64 a, .int .i64 b] w fun e w' => e = .returned (.tuple #[.int .i64 (two 1 a b), .bool (twoOk 1 b)]) ∧ Below w.heap.size w w' := by
  cases hb : (b == 0)
  all_goals
    go_enter Tryz.func99, Tryz.ntmps99
    go_wp2_with (first | (go_at_call 77; refine (row1 _).mono ?_; rintro e w' ⟨rfl, rfl⟩) | (go_at_call 118; refine (flag_any _ _).mono ?_; rintro e w' ⟨rfl, rfl⟩) | (go_at_call 110; refine (div_any _ _ _).mono ?_; rintro e w' ⟨rfl, rfl⟩) | (go_at_call 111; refine (rem_any _ _ _).mono ?_; rintro e w' ⟨rfl, rfl⟩) | go_in)
    go_ret2
    exact ⟨ret_ib (by simp [two]) (by simp [twoOk]), below2 _ _ _⟩

set_option maxHeartbeats 400000 in
theorem two2 (a b : Int) (w : World) :
    Calls Tryz.prog 99 #[.int .i64 2, .int .i64 a, .int .i64 b] w fun e w' => e = .returned (.tuple #[.int .i64 (two 2 a b), .bool (twoOk 2 b)]) ∧ Below w.heap.size w w' := by
  cases hb : (b == 0)
  all_goals
    go_enter Tryz.func99, Tryz.ntmps99
    go_wp2_with (first | (go_at_call 77; refine (row2 _).mono ?_; rintro e w' ⟨rfl, rfl⟩) | (go_at_call 118; refine (flag_any _ _).mono ?_; rintro e w' ⟨rfl, rfl⟩) | (go_at_call 110; refine (div_any _ _ _).mono ?_; rintro e w' ⟨rfl, rfl⟩) | (go_at_call 111; refine (rem_any _ _ _).mono ?_; rintro e w' ⟨rfl, rfl⟩) | go_in)
    go_ret2
    exact ⟨ret_ib (by simp [two]) (by simp [twoOk]), below2 _ _ _⟩

set_option maxHeartbeats 400000 in
theorem two3 (a b : Int) (w : World) :
    Calls Tryz.prog 99 #[.int .i64 3, .int .i64 a, .int .i64 b] w fun e w' => e = .returned (.tuple #[.int .i64 (two 3 a b), .bool (twoOk 3 b)]) ∧ Below w.heap.size w w' := by
  cases hb : (b == 0)
  all_goals
    go_enter Tryz.func99, Tryz.ntmps99
    go_wp2_with (first | (go_at_call 77; refine (row3 _).mono ?_; rintro e w' ⟨rfl, rfl⟩) | (go_at_call 118; refine (flag_any _ _).mono ?_; rintro e w' ⟨rfl, rfl⟩) | (go_at_call 110; refine (div_any _ _ _).mono ?_; rintro e w' ⟨rfl, rfl⟩) | (go_at_call 111; refine (rem_any _ _ _).mono ?_; rintro e w' ⟨rfl, rfl⟩) | go_in)
    go_ret2
    exact ⟨ret_ib (by simp [two]) (by simp [twoOk]), below2 _ _ _⟩

set_option maxHeartbeats 400000 in
theorem two4 (a b : Int) (w : World) :
    Calls Tryz.prog 99 #[.int .i64 4, .int .i64 a, .int .i64 b] w fun e w' => e = .returned (.tuple #[.int .i64 (two 4 a b), .bool (twoOk 4 b)]) ∧ Below w.heap.size w w' := by
  cases hb : (b == 0)
  rotate_left
  · have hb' : b = 0 := by simpa using hb
    have hh := Lib.hid hb'
    clear hb'
    go_enter Tryz.func99, Tryz.ntmps99
    go_wp2_with (first | (go_at_call 77; refine (row4 _).mono ?_; rintro e w' ⟨rfl, rfl⟩) | (go_at_call 118; refine (flag_any _ _).mono ?_; rintro e w' ⟨rfl, rfl⟩) | (go_at_call 110; refine (div_any _ _ _).mono ?_; rintro e w' ⟨rfl, rfl⟩) | (go_at_call 111; refine (rem_any _ _ _).mono ?_; rintro e w' ⟨rfl, rfl⟩) | go_in)
    go_ret2
    exact ⟨ret_ib (by have := hh.out; simp [two, this]) (by have := hh.out; simp [twoOk, this]), below2 _ _ _⟩
  · have hb' : ¬ b = 0 := by simpa using hb
    have hh := Lib.hid hb'
    clear hb'
    go_enter Tryz.func99, Tryz.ntmps99
    go_wp2_with (first | (go_at_call 77; refine (row4 _).mono ?_; rintro e w' ⟨rfl, rfl⟩) | (go_at_call 118; refine (flag_any _ _).mono ?_; rintro e w' ⟨rfl, rfl⟩) | (go_at_call 110; refine (div_any _ _ _).mono ?_; rintro e w' ⟨rfl, rfl⟩) | (go_at_call 111; refine (rem_any _ _ _).mono ?_; rintro e w' ⟨rfl, rfl⟩) | go_in)
    go_ret2
    exact ⟨ret_ib (by have := hh.out; simp [two, this]) (by have := hh.out; simp [twoOk, this]), below2 _ _ _⟩

set_option maxHeartbeats 400000 in
theorem two5 (a b : Int) (w : World) :
    Calls Tryz.prog 99 #[.int .i64 5, .int .i64 a, .int .i64 b] w fun e w' => e = .returned (.tuple #[.int .i64 (two 5 a b), .bool (twoOk 5 b)]) ∧ Below w.heap.size w w' := by
  cases hb : (b == 0)
  rotate_left
  · have hb' : b = 0 := by simpa using hb
    have hh := Lib.hid hb'
    clear hb'
    go_enter Tryz.func99, Tryz.ntmps99
    go_wp2_with (first | (go_at_call 77; refine (row5 _).mono ?_; rintro e w' ⟨rfl, rfl⟩) | (go_at_call 118; refine (flag_any _ _).mono ?_; rintro e w' ⟨rfl, rfl⟩) | (go_at_call 110; refine (div_any _ _ _).mono ?_; rintro e w' ⟨rfl, rfl⟩) | (go_at_call 111; refine (rem_any _ _ _).mono ?_; rintro e w' ⟨rfl, rfl⟩) | go_in)
    go_ret2
    exact ⟨ret_ib (by have := hh.out; simp [two, this]) (by have := hh.out; simp [twoOk, this]), below2 _ _ _⟩
  · have hb' : ¬ b = 0 := by simpa using hb
    have hh := Lib.hid hb'
    clear hb'
    go_enter Tryz.func99, Tryz.ntmps99
    go_wp2_with (first | (go_at_call 77; refine (row5 _).mono ?_; rintro e w' ⟨rfl, rfl⟩) | (go_at_call 118; refine (flag_any _ _).mono ?_; rintro e w' ⟨rfl, rfl⟩) | (go_at_call 110; refine (div_any _ _ _).mono ?_; rintro e w' ⟨rfl, rfl⟩) | (go_at_call 111; refine (rem_any _ _ _).mono ?_; rintro e w' ⟨rfl, rfl⟩) | go_in)
    go_ret2
    exact ⟨ret_ib (by have := hh.out; simp [two, this]) (by have := hh.out; simp [twoOk, this]), below2 _ _ _⟩

set_option maxHeartbeats 400000 in
theorem two6 (a b : Int) (w : World) :
    Calls Tryz.prog 99 #[.int .i64 6, .int .i64 a, .int .i64 b] w fun e w' => e = .returned (.tuple #[.int .i64 (two 6 a b), .bool (twoOk 6 b)]) ∧ Below w.heap.size w w' := by
  cases hb : (b == 0)
  all_goals
    go_enter Tryz.func99, Tryz.ntmps99
    go_wp2_with (first | (go_at_call 77; refine (row6 _).mono ?_; rintro e w' ⟨rfl, rfl⟩) | (go_at_call 118; refine (flag_any _ _).mono ?_; rintro e w' ⟨rfl, rfl⟩) | (go_at_call 110; refine (div_any _ _ _).mono ?_; rintro e w' ⟨rfl, rfl⟩) | (go_at_call 111; refine (rem_any _ _ _).mono ?_; rintro e w' ⟨rfl, rfl⟩) | go_in)
    go_ret2
    exact ⟨ret_ib (by simp [two]) (by simp [twoOk]), below2 _ _ _⟩

set_option maxHeartbeats 400000 in
theorem two7 (a b : Int) (w : World) :
    Calls Tryz.prog 99 #[.int .i64 7, .int .i64 a, .int .i64 b] w fun e w' => e = .returned (.tuple #[.int .i64 (two 7 a b), .bool (twoOk 7 b)]) ∧ Below w.heap.size w w' := by
  cases hb : (b == 0)
  all_goals
    go_enter Tryz.func99, Tryz.ntmps99
    go_wp2_with (first | (go_at_call 77; refine (row7 _).mono ?_; rintro e w' ⟨rfl, rfl⟩) | (go_at_call 118; refine (flag_any _ _).mono ?_; rintro e w' ⟨rfl, rfl⟩) | (go_at_call 110; refine (div_any _ _ _).mono ?_; rintro e w' ⟨rfl, rfl⟩) | (go_at_call 111; refine (rem_any _ _ _).mono ?_; rintro e w' ⟨rfl, rfl⟩) | go_in)
    go_ret2
    exact ⟨ret_ib (by simp [two]) (by simp [twoOk]), below2 _ _ _⟩

set_option maxHeartbeats 400000 in
theorem two8 (a b : Int) (w : World) :
    Calls Tryz.prog 99 #[.int .i64 8, .int .i64 a, .int .i64 b] w fun e w' => e = .returned (.tuple #[.int .i64 (two 8 a b), .bool (twoOk 8 b)]) ∧ Below w.heap.size w w' := by
  cases hb : (b == 0)
  all_goals
    go_enter Tryz.func99, Tryz.ntmps99
    go_wp2_with (first | (go_at_call 77; refine (row8 _).mono ?_; rintro e w' ⟨rfl, rfl⟩) | (go_at_call 118; refine (flag_any _ _).mono ?_; rintro e w' ⟨rfl, rfl⟩) | (go_at_call 110; refine (div_any _ _ _).mono ?_; rintro e w' ⟨rfl, rfl⟩) | (go_at_call 111; refine (rem_any _ _ _).mono ?_; rintro e w' ⟨rfl, rfl⟩) | go_in)
    go_ret2
    exact ⟨ret_ib (by simp [two]) (by simp [twoOk]), below2 _ _ _⟩

set_option maxHeartbeats 400000 in
theorem two9 (a b : Int) (w : World) :
    Calls Tryz.prog 99 #[.int .i64 9, .int .i64 a, .int .i64 b] w fun e w' => e = .returned (.tuple #[.int .i64 (two 9 a b), .bool (twoOk 9 b)]) ∧ Below w.heap.size w w' := by
  have s0 := shn_lo b
  have s1 : bits .and .i64 b 63 ≤ 64 := Int.le_trans (shn_hi b) (by decide)
  cases hb : (b == 0)
  all_goals
    go_enter Tryz.func99, Tryz.ntmps99
    go_wp2_with (first | (go_at_call 77; refine (row9 _).mono ?_; rintro e w' ⟨rfl, rfl⟩) | (go_at_call 118; refine (flag_any _ _).mono ?_; rintro e w' ⟨rfl, rfl⟩) | (go_at_call 110; refine (div_any _ _ _).mono ?_; rintro e w' ⟨rfl, rfl⟩) | (go_at_call 111; refine (rem_any _ _ _).mono ?_; rintro e w' ⟨rfl, rfl⟩) | go_in)
    go_ret2
    exact ⟨ret_ib (by simp [two, shn]) (by simp [twoOk]), below2 _ _ _⟩

set_option maxHeartbeats 400000 in
theorem two10 (a b : Int) (w : World) :
    Calls Tryz.prog 99 #[.int .i64 10, .int .i64 a, .int .i64 b] w fun e w' => e = .returned (.tuple #[.int .i64 (two 10 a b), .bool (twoOk 10 b)]) ∧ Below w.heap.size w w' := by
  have s0 := shn_lo b
  have s1 : bits .and .i64 b 63 ≤ 64 := Int.le_trans (shn_hi b) (by decide)
  cases hb : (b == 0)
  all_goals
    go_enter Tryz.func99, Tryz.ntmps99
    go_wp2_with (first | (go_at_call 77; refine (row10 _).mono ?_; rintro e w' ⟨rfl, rfl⟩) | (go_at_call 118; refine (flag_any _ _).mono ?_; rintro e w' ⟨rfl, rfl⟩) | (go_at_call 110; refine (div_any _ _ _).mono ?_; rintro e w' ⟨rfl, rfl⟩) | (go_at_call 111; refine (rem_any _ _ _).mono ?_; rintro e w' ⟨rfl, rfl⟩) | go_in)
    go_ret2
    exact ⟨ret_ib (by simp [two, shn]) (by simp [twoOk]), below2 _ _ _⟩

set_option maxHeartbeats 400000 in
theorem two11 (a b : Int) (w : World) :
    Calls Tryz.prog 99 #[.int .i64 11, .int .i64 a, .int .i64 b] w fun e w' => e = .returned (.tuple #[.int .i64 (two 11 a b), .bool (twoOk 11 b)]) ∧ Below w.heap.size w w' := by
  cases hb : (b == 0)
  all_goals
    go_enter Tryz.func99, Tryz.ntmps99
    go_wp2_with (first | (go_at_call 77; refine (row11 _).mono ?_; rintro e w' ⟨rfl, rfl⟩) | (go_at_call 118; refine (flag_any _ _).mono ?_; rintro e w' ⟨rfl, rfl⟩) | (go_at_call 110; refine (div_any _ _ _).mono ?_; rintro e w' ⟨rfl, rfl⟩) | (go_at_call 111; refine (rem_any _ _ _).mono ?_; rintro e w' ⟨rfl, rfl⟩) | go_in)
    go_ret2
    exact ⟨ret_ib (by simp [two]) (by simp [twoOk]), below2 _ _ _⟩

set_option maxHeartbeats 400000 in
theorem two12 (a b : Int) (w : World) :
    Calls Tryz.prog 99 #[.int .i64 12, .int .i64 a, .int .i64 b] w fun e w' => e = .returned (.tuple #[.int .i64 (two 12 a b), .bool (twoOk 12 b)]) ∧ Below w.heap.size w w' := by
  cases hb : (b == 0)
  all_goals
    go_enter Tryz.func99, Tryz.ntmps99
    go_wp2_with (first | (go_at_call 77; refine (row12 _).mono ?_; rintro e w' ⟨rfl, rfl⟩) | (go_at_call 118; refine (flag_any _ _).mono ?_; rintro e w' ⟨rfl, rfl⟩) | (go_at_call 110; refine (div_any _ _ _).mono ?_; rintro e w' ⟨rfl, rfl⟩) | (go_at_call 111; refine (rem_any _ _ _).mono ?_; rintro e w' ⟨rfl, rfl⟩) | go_in)
    go_ret2
    exact ⟨ret_ib (by simp [two]) (by simp [twoOk]), below2 _ _ _⟩

set_option maxHeartbeats 400000 in
theorem two13 (a b : Int) (w : World) :
    Calls Tryz.prog 99 #[.int .i64 13, .int .i64 a, .int .i64 b] w fun e w' => e = .returned (.tuple #[.int .i64 (two 13 a b), .bool (twoOk 13 b)]) ∧ Below w.heap.size w w' := by
  cases hb : (b == 0)
  all_goals
    go_enter Tryz.func99, Tryz.ntmps99
    go_wp2_with (first | (go_at_call 77; refine (row13 _).mono ?_; rintro e w' ⟨rfl, rfl⟩) | (go_at_call 118; refine (flag_any _ _).mono ?_; rintro e w' ⟨rfl, rfl⟩) | (go_at_call 110; refine (div_any _ _ _).mono ?_; rintro e w' ⟨rfl, rfl⟩) | (go_at_call 111; refine (rem_any _ _ _).mono ?_; rintro e w' ⟨rfl, rfl⟩) | go_in)
    go_ret2
    exact ⟨ret_ib (by simp [two]) (by simp [twoOk]), below2 _ _ _⟩

set_option maxHeartbeats 400000 in
theorem two14 (a b : Int) (w : World) :
    Calls Tryz.prog 99 #[.int .i64 14, .int .i64 a, .int .i64 b] w fun e w' => e = .returned (.tuple #[.int .i64 (two 14 a b), .bool (twoOk 14 b)]) ∧ Below w.heap.size w w' := by
  cases hb : (b == 0)
  all_goals
    go_enter Tryz.func99, Tryz.ntmps99
    go_wp2_with (first | (go_at_call 77; refine (row14 _).mono ?_; rintro e w' ⟨rfl, rfl⟩) | (go_at_call 118; refine (flag_any _ _).mono ?_; rintro e w' ⟨rfl, rfl⟩) | (go_at_call 110; refine (div_any _ _ _).mono ?_; rintro e w' ⟨rfl, rfl⟩) | (go_at_call 111; refine (rem_any _ _ _).mono ?_; rintro e w' ⟨rfl, rfl⟩) | go_in)
    go_ret2
    exact ⟨ret_ib (by simp [two]) (by simp [twoOk]), below2 _ _ _⟩

set_option maxHeartbeats 400000 in
theorem two15 (a b : Int) (w : World) :
    Calls Tryz.prog 99 #[.int .i64 15, .int .i64 a, .int .i64 b] w fun e w' => e = .returned (.tuple #[.int .i64 (two 15 a b), .bool (twoOk 15 b)]) ∧ Below w.heap.size w w' := by
  cases hb : (b == 0)
  all_goals
    go_enter Tryz.func99, Tryz.ntmps99
    go_wp2_with (first | (go_at_call 77; refine (row15 _).mono ?_; rintro e w' ⟨rfl, rfl⟩) | (go_at_call 118; refine (flag_any _ _).mono ?_; rintro e w' ⟨rfl, rfl⟩) | (go_at_call 110; refine (div_any _ _ _).mono ?_; rintro e w' ⟨rfl, rfl⟩) | (go_at_call 111; refine (rem_any _ _ _).mono ?_; rintro e w' ⟨rfl, rfl⟩) | go_in)
    go_ret2
    exact ⟨ret_ib (by simp [two]) (by simp [twoOk]), below2 _ _ _⟩

set_option maxHeartbeats 400000 in
theorem two16 (a b : Int) (w : World) :
    Calls Tryz.prog 99 #[.int .i64 16, .int .i64 a, .int .i64 b] w fun e w' => e = .returned (.tuple #[.int .i64 (two 16 a b), .bool (twoOk 16 b)]) ∧ Below w.heap.size w w' := by
  cases hb : (b == 0)
  all_goals
    go_enter Tryz.func99, Tryz.ntmps99
    go_wp2_with (first | (go_at_call 77; refine (row16 _).mono ?_; rintro e w' ⟨rfl, rfl⟩) | (go_at_call 118; refine (flag_any _ _).mono ?_; rintro e w' ⟨rfl, rfl⟩) | (go_at_call 110; refine (div_any _ _ _).mono ?_; rintro e w' ⟨rfl, rfl⟩) | (go_at_call 111; refine (rem_any _ _ _).mono ?_; rintro e w' ⟨rfl, rfl⟩) | go_in)
    go_ret2
    exact ⟨ret_ib (by simp [two]) (by simp [twoOk]), below2 _ _ _⟩

set_option maxHeartbeats 400000 in
theorem two17 (a b : Int) (w : World) :
    Calls Tryz.prog 99 #[.int .i64 17, .int .i64 a, .int .i64 b] w fun e w' => e = .returned (.tuple #[.int .i64 (two 17 a b), .bool (twoOk 17 b)]) ∧ Below w.heap.size w w' := by
  go_enter Tryz.func99, Tryz.ntmps99
  go_wp2_with (first | (go_at_call 77; refine (row17 _).mono ?_; rintro e w' ⟨rfl, rfl⟩) | (go_at_call 118; refine (flag_any _ _).mono ?_; rintro e w' ⟨rfl, rfl⟩) | (go_at_call 110; refine (div_any _ _ _).mono ?_; rintro e w' ⟨rfl, rfl⟩) | (go_at_call 111; refine (rem_any _ _ _).mono ?_; rintro e w' ⟨rfl, rfl⟩) | go_in)
  go_ret2
  exact ⟨ret_ib (by simp [two]) (by simp [twoOk]), below2 _ _ _⟩

set_option maxHeartbeats 400000 in
theorem two18 (a b : Int) (w : World) :
    Calls Tryz.prog 99 #[.int .i64 18, .int .i64 a, .int .i64 b] w fun e w' => e = .returned (.tuple #[.int .i64 (two 18 a b), .bool (twoOk 18 b)]) ∧ Below w.heap.size w w' := by
  go_enter Tryz.func99, Tryz.ntmps99
  go_wp2_with (first | (go_at_call 77; refine (row18 _).mono ?_; rintro e w' ⟨rfl, rfl⟩) | (go_at_call 118; refine (flag_any _ _).mono ?_; rintro e w' ⟨rfl, rfl⟩) | (go_at_call 110; refine (div_any _ _ _).mono ?_; rintro e w' ⟨rfl, rfl⟩) | (go_at_call 111; refine (rem_any _ _ _).mono ?_; rintro e w' ⟨rfl, rfl⟩) | go_in)
  go_ret2
  exact ⟨ret_ib (by simp [two]) (by simp [twoOk]), below2 _ _ _⟩

set_option maxHeartbeats 400000 in
theorem two19 (a b : Int) (w : World) :
    Calls Tryz.prog 99 #[.int .i64 19, .int .i64 a, .int .i64 b] w fun e w' => e = .returned (.tuple #[.int .i64 (two 19 a b), .bool (twoOk 19 b)]) ∧ Below w.heap.size w w' := by
  go_enter Tryz.func99, Tryz.ntmps99
  go_wp2_with (first | (go_at_call 77; refine (row19 _).mono ?_; rintro e w' ⟨rfl, rfl⟩) | (go_at_call 118; refine (flag_any _ _).mono ?_; rintro e w' ⟨rfl, rfl⟩) | (go_at_call 110; refine (div_any _ _ _).mono ?_; rintro e w' ⟨rfl, rfl⟩) | (go_at_call 111; refine (rem_any _ _ _).mono ?_; rintro e w' ⟨rfl, rfl⟩) | go_in)
  go_ret2
  exact ⟨ret_ib (by simp [two]) (by simp [twoOk]), below2 _ _ _⟩

set_option maxHeartbeats 400000 in
theorem one1 (a : Int) (w : World) :
    Calls Tryz.prog 98 #[.int .i64 1, .int .i64 a] w fun e w' => e = .returned (.tuple #[.int .i64 (one 1 a), .bool (oneOk 1)]) ∧ Below w.heap.size w w' := by
  go_enter Tryz.func98, Tryz.ntmps98
  go_wp2_with (first | (go_at_call 77; refine (row1 _).mono ?_; rintro e w' ⟨rfl, rfl⟩) | (go_at_call 118; refine (flag_any _ _).mono ?_; rintro e w' ⟨rfl, rfl⟩) | (go_at_call 110; refine (div_any _ _ _).mono ?_; rintro e w' ⟨rfl, rfl⟩) | (go_at_call 111; refine (rem_any _ _ _).mono ?_; rintro e w' ⟨rfl, rfl⟩) | go_in)
  go_ret2
  exact ⟨ret_ib (by simp [one]) (by simp [oneOk]), below2 _ _ _⟩

set_option maxHeartbeats 400000 in
theorem one2 (a : Int) (w : World) :
    Calls Tryz.prog 98 #[.int .i64 2, .int .i64 a] w fun e w' => e = .returned (.tuple #[.int .i64 (one 2 a), .bool (oneOk 2)]) ∧ Below w.heap.size w w' := by
  go_enter Tryz.func98, Tryz.ntmps98
  go_wp2_with (first | (go_at_call 77; refine (row2 _).mono ?_; rintro e w' ⟨rfl, rfl⟩) | (go_at_call 118; refine (flag_any _ _).mono ?_; rintro e w' ⟨rfl, rfl⟩) | (go_at_call 110; refine (div_any _ _ _).mono ?_; rintro e w' ⟨rfl, rfl⟩) | (go_at_call 111; refine (rem_any _ _ _).mono ?_; rintro e w' ⟨rfl, rfl⟩) | go_in)
  go_ret2
  exact ⟨ret_ib (by simp [one]) (by simp [oneOk]), below2 _ _ _⟩

set_option maxHeartbeats 400000 in
theorem one3 (a : Int) (w : World) :
    Calls Tryz.prog 98 #[.int .i64 3, .int .i64 a] w fun e w' => e = .returned (.tuple #[.int .i64 (one 3 a), .bool (oneOk 3)]) ∧ Below w.heap.size w w' := by
  go_enter Tryz.func98, Tryz.ntmps98
  go_wp2_with (first | (go_at_call 77; refine (row3 _).mono ?_; rintro e w' ⟨rfl, rfl⟩) | (go_at_call 118; refine (flag_any _ _).mono ?_; rintro e w' ⟨rfl, rfl⟩) | (go_at_call 110; refine (div_any _ _ _).mono ?_; rintro e w' ⟨rfl, rfl⟩) | (go_at_call 111; refine (rem_any _ _ _).mono ?_; rintro e w' ⟨rfl, rfl⟩) | go_in)
  go_ret2
  exact ⟨ret_ib (by simp [one]) (by simp [oneOk]), below2 _ _ _⟩

set_option maxHeartbeats 400000 in
theorem one4 (a : Int) (w : World) :
    Calls Tryz.prog 98 #[.int .i64 4, .int .i64 a] w fun e w' => e = .returned (.tuple #[.int .i64 (one 4 a), .bool (oneOk 4)]) ∧ Below w.heap.size w w' := by
  go_enter Tryz.func98, Tryz.ntmps98
  go_wp2_with (first | (go_at_call 77; refine (row4 _).mono ?_; rintro e w' ⟨rfl, rfl⟩) | (go_at_call 118; refine (flag_any _ _).mono ?_; rintro e w' ⟨rfl, rfl⟩) | (go_at_call 110; refine (div_any _ _ _).mono ?_; rintro e w' ⟨rfl, rfl⟩) | (go_at_call 111; refine (rem_any _ _ _).mono ?_; rintro e w' ⟨rfl, rfl⟩) | go_in)
  go_ret2
  exact ⟨ret_ib (by simp [one]) (by simp [oneOk]), below2 _ _ _⟩

set_option maxHeartbeats 400000 in
theorem one5 (a : Int) (w : World) :
    Calls Tryz.prog 98 #[.int .i64 5, .int .i64 a] w fun e w' => e = .returned (.tuple #[.int .i64 (one 5 a), .bool (oneOk 5)]) ∧ Below w.heap.size w w' := by
  go_enter Tryz.func98, Tryz.ntmps98
  go_wp2_with (first | (go_at_call 77; refine (row5 _).mono ?_; rintro e w' ⟨rfl, rfl⟩) | (go_at_call 118; refine (flag_any _ _).mono ?_; rintro e w' ⟨rfl, rfl⟩) | (go_at_call 110; refine (div_any _ _ _).mono ?_; rintro e w' ⟨rfl, rfl⟩) | (go_at_call 111; refine (rem_any _ _ _).mono ?_; rintro e w' ⟨rfl, rfl⟩) | go_in)
  go_ret2
  exact ⟨ret_ib (by simp [one]) (by simp [oneOk]), below2 _ _ _⟩

set_option maxHeartbeats 400000 in
theorem one6 (a : Int) (w : World) :
    Calls Tryz.prog 98 #[.int .i64 6, .int .i64 a] w fun e w' => e = .returned (.tuple #[.int .i64 (one 6 a), .bool (oneOk 6)]) ∧ Below w.heap.size w w' := by
  go_enter Tryz.func98, Tryz.ntmps98
  go_wp2_with (first | (go_at_call 77; refine (row6 _).mono ?_; rintro e w' ⟨rfl, rfl⟩) | (go_at_call 118; refine (flag_any _ _).mono ?_; rintro e w' ⟨rfl, rfl⟩) | (go_at_call 110; refine (div_any _ _ _).mono ?_; rintro e w' ⟨rfl, rfl⟩) | (go_at_call 111; refine (rem_any _ _ _).mono ?_; rintro e w' ⟨rfl, rfl⟩) | go_in)
  go_ret2
  exact ⟨ret_ib (by simp [one]) (by simp [oneOk]), below2 _ _ _⟩

set_option maxHeartbeats 400000 in
theorem one7 (a : Int) (w : World) :
    Calls Tryz.prog 98 #[.int .i64 7, .int .i64 a] w fun e w' => e = .returned (.tuple #[.int .i64 (one 7 a), .bool (oneOk 7)]) ∧ Below w.heap.size w w' := by
  go_enter Tryz.func98, Tryz.ntmps98
  go_wp2_with (first | (go_at_call 77; refine (row7 _).mono ?_; rintro e w' ⟨rfl, rfl⟩) | (go_at_call 118; refine (flag_any _ _).mono ?_; rintro e w' ⟨rfl, rfl⟩) | (go_at_call 110; refine (div_any _ _ _).mono ?_; rintro e w' ⟨rfl, rfl⟩) | (go_at_call 111; refine (rem_any _ _ _).mono ?_; rintro e w' ⟨rfl, rfl⟩) | go_in)
  go_ret2
  exact ⟨ret_ib (by simp [one]) (by simp [oneOk]), below2 _ _ _⟩

set_option maxHeartbeats 400000 in
theorem one8 (a : Int) (w : World) :
    Calls Tryz.prog 98 #[.int .i64 8, .int .i64 a] w fun e w' => e = .returned (.tuple #[.int .i64 (one 8 a), .bool (oneOk 8)]) ∧ Below w.heap.size w w' := by
  go_enter Tryz.func98, Tryz.ntmps98
  go_wp2_with (first | (go_at_call 77; refine (row8 _).mono ?_; rintro e w' ⟨rfl, rfl⟩) | (go_at_call 118; refine (flag_any _ _).mono ?_; rintro e w' ⟨rfl, rfl⟩) | (go_at_call 110; refine (div_any _ _ _).mono ?_; rintro e w' ⟨rfl, rfl⟩) | (go_at_call 111; refine (rem_any _ _ _).mono ?_; rintro e w' ⟨rfl, rfl⟩) | go_in)
  go_ret2
  exact ⟨ret_ib (by simp [one]) (by simp [oneOk]), below2 _ _ _⟩

set_option maxHeartbeats 400000 in
theorem one9 (a : Int) (w : World) :
    Calls Tryz.prog 98 #[.int .i64 9, .int .i64 a] w fun e w' => e = .returned (.tuple #[.int .i64 (one 9 a), .bool (oneOk 9)]) ∧ Below w.heap.size w w' := by
  go_enter Tryz.func98, Tryz.ntmps98
  go_wp2_with (first | (go_at_call 77; refine (row9 _).mono ?_; rintro e w' ⟨rfl, rfl⟩) | (go_at_call 118; refine (flag_any _ _).mono ?_; rintro e w' ⟨rfl, rfl⟩) | (go_at_call 110; refine (div_any _ _ _).mono ?_; rintro e w' ⟨rfl, rfl⟩) | (go_at_call 111; refine (rem_any _ _ _).mono ?_; rintro e w' ⟨rfl, rfl⟩) | go_in)
  go_ret2
  exact ⟨ret_ib (by simp [one]) (by simp [oneOk]), below2 _ _ _⟩

set_option maxHeartbeats 400000 in
theorem one10 (a : Int) (w : World) :
    Calls Tryz.prog 98 #[.int .i64 10, .int .i64 a] w fun e w' => e = .returned (.tuple #[.int .i64 (one 10 a), .bool (oneOk 10)]) ∧ Below w.heap.size w w' := by
  go_enter Tryz.func98, Tryz.ntmps98
  go_wp2_with (first | (go_at_call 77; refine (row10 _).mono ?_; rintro e w' ⟨rfl, rfl⟩) | (go_at_call 118; refine (flag_any _ _).mono ?_; rintro e w' ⟨rfl, rfl⟩) | (go_at_call 110; refine (div_any _ _ _).mono ?_; rintro e w' ⟨rfl, rfl⟩) | (go_at_call 111; refine (rem_any _ _ _).mono ?_; rintro e w' ⟨rfl, rfl⟩) | go_in)
  go_ret2
  exact ⟨ret_ib (by simp [one]) (by simp [oneOk]), below2 _ _ _⟩

set_option maxHeartbeats 400000 in
theorem one11 (a : Int) (w : World) :
    Calls Tryz.prog 98 #[.int .i64 11, .int .i64 a] w fun e w' => e = .returned (.tuple #[.int .i64 (one 11 a), .bool (oneOk 11)]) ∧ Below w.heap.size w w' := by
  go_enter Tryz.func98, Tryz.ntmps98
  go_wp2_with (first | (go_at_call 77; refine (row11 _).mono ?_; rintro e w' ⟨rfl, rfl⟩) | (go_at_call 118; refine (flag_any _ _).mono ?_; rintro e w' ⟨rfl, rfl⟩) | (go_at_call 110; refine (div_any _ _ _).mono ?_; rintro e w' ⟨rfl, rfl⟩) | (go_at_call 111; refine (rem_any _ _ _).mono ?_; rintro e w' ⟨rfl, rfl⟩) | go_in)
  go_ret2
  exact ⟨ret_ib (by simp [one]) (by simp [oneOk]), below2 _ _ _⟩

set_option maxHeartbeats 400000 in
theorem one12 (a : Int) (w : World) :
    Calls Tryz.prog 98 #[.int .i64 12, .int .i64 a] w fun e w' => e = .returned (.tuple #[.int .i64 (one 12 a), .bool (oneOk 12)]) ∧ Below w.heap.size w w' := by
  go_enter Tryz.func98, Tryz.ntmps98
  go_wp2_with (first | (go_at_call 77; refine (row12 _).mono ?_; rintro e w' ⟨rfl, rfl⟩) | (go_at_call 118; refine (flag_any _ _).mono ?_; rintro e w' ⟨rfl, rfl⟩) | (go_at_call 110; refine (div_any _ _ _).mono ?_; rintro e w' ⟨rfl, rfl⟩) | (go_at_call 111; refine (rem_any _ _ _).mono ?_; rintro e w' ⟨rfl, rfl⟩) | go_in)
  go_ret2
  exact ⟨ret_ib (by simp [one]) (by simp [oneOk]), below2 _ _ _⟩

set_option maxHeartbeats 400000 in
theorem one13 (a : Int) (w : World) :
    Calls Tryz.prog 98 #[.int .i64 13, .int .i64 a] w fun e w' => e = .returned (.tuple #[.int .i64 (one 13 a), .bool (oneOk 13)]) ∧ Below w.heap.size w w' := by
  go_enter Tryz.func98, Tryz.ntmps98
  go_wp2_with (first | (go_at_call 77; refine (row13 _).mono ?_; rintro e w' ⟨rfl, rfl⟩) | (go_at_call 118; refine (flag_any _ _).mono ?_; rintro e w' ⟨rfl, rfl⟩) | (go_at_call 110; refine (div_any _ _ _).mono ?_; rintro e w' ⟨rfl, rfl⟩) | (go_at_call 111; refine (rem_any _ _ _).mono ?_; rintro e w' ⟨rfl, rfl⟩) | go_in)
  go_ret2
  exact ⟨ret_ib (by simp [one]) (by simp [oneOk]), below2 _ _ _⟩

set_option maxHeartbeats 400000 in
theorem one14 (a : Int) (w : World) :
    Calls Tryz.prog 98 #[.int .i64 14, .int .i64 a] w fun e w' => e = .returned (.tuple #[.int .i64 (one 14 a), .bool (oneOk 14)]) ∧ Below w.heap.size w w' := by
  go_enter Tryz.func98, Tryz.ntmps98
  go_wp2_with (first | (go_at_call 77; refine (row14 _).mono ?_; rintro e w' ⟨rfl, rfl⟩) | (go_at_call 118; refine (flag_any _ _).mono ?_; rintro e w' ⟨rfl, rfl⟩) | (go_at_call 110; refine (div_any _ _ _).mono ?_; rintro e w' ⟨rfl, rfl⟩) | (go_at_call 111; refine (rem_any _ _ _).mono ?_; rintro e w' ⟨rfl, rfl⟩) | go_in)
  go_ret2
  exact ⟨ret_ib (by simp [one]) (by simp [oneOk]), below2 _ _ _⟩

set_option maxHeartbeats 400000 in
theorem one15 (a : Int) (w : World) :
    Calls Tryz.prog 98 #[.int .i64 15, .int .i64 a] w fun e w' => e = .returned (.tuple #[.int .i64 (one 15 a), .bool (oneOk 15)]) ∧ Below w.heap.size w w' := by
  go_enter Tryz.func98, Tryz.ntmps98
  go_wp2_with (first | (go_at_call 77; refine (row15 _).mono ?_; rintro e w' ⟨rfl, rfl⟩) | (go_at_call 118; refine (flag_any _ _).mono ?_; rintro e w' ⟨rfl, rfl⟩) | (go_at_call 110; refine (div_any _ _ _).mono ?_; rintro e w' ⟨rfl, rfl⟩) | (go_at_call 111; refine (rem_any _ _ _).mono ?_; rintro e w' ⟨rfl, rfl⟩) | go_in)
  go_ret2
  exact ⟨ret_ib (by simp [one]) (by simp [oneOk]), below2 _ _ _⟩

set_option maxHeartbeats 400000 in
theorem one16 (a : Int) (w : World) :
    Calls Tryz.prog 98 #[.int .i64 16, .int .i64 a] w fun e w' => e = .returned (.tuple #[.int .i64 (one 16 a), .bool (oneOk 16)]) ∧ Below w.heap.size w w' := by
  go_enter Tryz.func98, Tryz.ntmps98
  go_wp2_with (first | (go_at_call 77; refine (row16 _).mono ?_; rintro e w' ⟨rfl, rfl⟩) | (go_at_call 118; refine (flag_any _ _).mono ?_; rintro e w' ⟨rfl, rfl⟩) | (go_at_call 110; refine (div_any _ _ _).mono ?_; rintro e w' ⟨rfl, rfl⟩) | (go_at_call 111; refine (rem_any _ _ _).mono ?_; rintro e w' ⟨rfl, rfl⟩) | go_in)
  go_ret2
  exact ⟨ret_ib (by simp [one]) (by simp [oneOk]), below2 _ _ _⟩

set_option maxHeartbeats 400000 in
theorem one17 (a : Int) (w : World) :
    Calls Tryz.prog 98 #[.int .i64 17, .int .i64 a] w fun e w' => e = .returned (.tuple #[.int .i64 (one 17 a), .bool (oneOk 17)]) ∧ Below w.heap.size w w' := by
  go_enter Tryz.func98, Tryz.ntmps98
  go_wp2_with (first | (go_at_call 77; refine (row17 _).mono ?_; rintro e w' ⟨rfl, rfl⟩) | (go_at_call 118; refine (flag_any _ _).mono ?_; rintro e w' ⟨rfl, rfl⟩) | (go_at_call 110; refine (div_any _ _ _).mono ?_; rintro e w' ⟨rfl, rfl⟩) | (go_at_call 111; refine (rem_any _ _ _).mono ?_; rintro e w' ⟨rfl, rfl⟩) | go_in)
  go_ret2
  exact ⟨ret_ib (by simp [one]) (by simp [oneOk]), below2 _ _ _⟩

set_option maxHeartbeats 400000 in
theorem one18 (a : Int) (w : World) :
    Calls Tryz.prog 98 #[.int .i64 18, .int .i64 a] w fun e w' => e = .returned (.tuple #[.int .i64 (one 18 a), .bool (oneOk 18)]) ∧ Below w.heap.size w w' := by
  go_enter Tryz.func98, Tryz.ntmps98
  go_wp2_with (first | (go_at_call 77; refine (row18 _).mono ?_; rintro e w' ⟨rfl, rfl⟩) | (go_at_call 118; refine (flag_any _ _).mono ?_; rintro e w' ⟨rfl, rfl⟩) | (go_at_call 110; refine (div_any _ _ _).mono ?_; rintro e w' ⟨rfl, rfl⟩) | (go_at_call 111; refine (rem_any _ _ _).mono ?_; rintro e w' ⟨rfl, rfl⟩) | go_in)
  go_ret2
  exact ⟨ret_ib (by simp [one]) (by simp [oneOk]), below2 _ _ _⟩

set_option maxHeartbeats 400000 in
theorem one19 (a : Int) (w : World) :
    Calls Tryz.prog 98 #[.int .i64 19, .int .i64 a] w fun e w' => e = .returned (.tuple #[.int .i64 (one 19 a), .bool (oneOk 19)]) ∧ Below w.heap.size w w' := by
  go_enter Tryz.func98, Tryz.ntmps98
  go_wp2_with (first | (go_at_call 77; refine (row19 _).mono ?_; rintro e w' ⟨rfl, rfl⟩) | (go_at_call 118; refine (flag_any _ _).mono ?_; rintro e w' ⟨rfl, rfl⟩) | (go_at_call 110; refine (div_any _ _ _).mono ?_; rintro e w' ⟨rfl, rfl⟩) | (go_at_call 111; refine (rem_any _ _ _).mono ?_; rintro e w' ⟨rfl, rfl⟩) | go_in)
  go_ret2
  exact ⟨ret_ib (by simp [one]) (by simp [oneOk]), below2 _ _ _⟩

end Go.Proofs.YtnpnhdmfdhnmfaaGreatDoor.Ar
