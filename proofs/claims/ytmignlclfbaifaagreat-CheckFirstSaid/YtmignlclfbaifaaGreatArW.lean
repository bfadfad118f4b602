/- What the functions of arith (layer 1) and of its reference do: one contract a function, at every argument. -/
import Derived.Test.YtmignlclfbaifaaGreatRows
import Derived.Test.YtmignlclfbaifaaGreatArP
import Derived.WalkKit
import Derived.WalkSpells
import Derived.WalkLawsBesides
import Derived.Laws.EntriesVeiled
import Derived.Lib.Hide
namespace Go.Proofs.YtmignlclfbaifaaGreat.Ar
open Go.RowKit

theorem ret_int {k : IntKind} {a b : Int} (h : a = b) : Ending.returned (.int k a) = .returned (.int k b) := by rw [h]
theorem ret_bool {a b : Bool} (h : a = b) : Ending.returned (.bool a) = .returned (.bool b) := by rw [h]
theorem ret_ib {k : IntKind} {a b : Int} {p q : Bool} (h : a = b) (g : p = q) : Ending.returned (.tuple #[.int k a, .bool p]) = .returned (.tuple #[.int k b, .bool q]) := by rw [h, g]
theorem shn_lo (b : Int) : 0 ≤ bits .and .i64 b 63 := by
  show 0 ≤ IntKind.i64.wrap ((BitVec.ofInt 64 b &&& BitVec.ofInt 64 63).toNat : Int)
  have h : (BitVec.ofInt 64 b &&& BitVec.ofInt 64 63).toNat ≤ 63 := by
    rw [BitVec.toNat_and]; exact Nat.and_le_right
  rw [IntKind.wrap_i64]; omega
theorem shn_hi (b : Int) : bits .and .i64 b 63 ≤ 63 := by
  show IntKind.i64.wrap ((BitVec.ofInt 64 b &&& BitVec.ofInt 64 63).toNat : Int) ≤ 63
  have h : (BitVec.ofInt 64 b &&& BitVec.ofInt 64 63).toNat ≤ 63 := by
    rw [BitVec.toNat_and]; exact Nat.and_le_right
  rw [IntKind.wrap_i64]; omega

set_option maxHeartbeats 400000 in
theorem div_any (a b : Int) (w : World) :
    Calls Tryz.prog 127 #[.int .i64 a, .int .i64 b] w fun e w' => e = .returned (.int .i64 (divq a b)) ∧ w = w' := by
  by_cases h : b = 0
  · subst h
    go_enter Tryz.func127, Tryz.ntmps127
    go_wp2
    go_ret
    exact ⟨rfl, rfl⟩
  · go_enter Tryz.func127, Tryz.ntmps127
    go_wp2
    go_ret
    exact ⟨ret_int (by rw [divq, if_neg h]), rfl⟩

set_option maxHeartbeats 400000 in
theorem rem_any (a b : Int) (w : World) :
    Calls Tryz.prog 128 #[.int .i64 a, .int .i64 b] w fun e w' => e = .returned (.int .i64 (remr a b)) ∧ w = w' := by
  by_cases h : b = 0
  · subst h
    go_enter Tryz.func128, Tryz.ntmps128
    go_wp2
    go_ret
    exact ⟨rfl, rfl⟩
  · go_enter Tryz.func128, Tryz.ntmps128
    go_wp2
    go_ret
    exact ⟨ret_int (by rw [remr, if_neg h]), rfl⟩

theorem divq_m1 (a : Int) : divq a (-1) = wrap64 (-a) := by rw [divq, if_neg (by decide)]; simp [Int.tdiv_neg]
theorem remr_m1 (a : Int) : remr a (-1) = 0 := by rw [remr, if_neg (by decide)]; simp [Int.tmod_neg]

set_option maxHeartbeats 400000 in
theorem flag_any (p : Bool) (w : World) :
    Calls Tryz.prog 135 #[.bool p] w fun e w' => e = .returned (.int .i64 (bit p)) ∧ w = w' := by
  cases p
  all_goals
    go_enter Tryz.func135, Tryz.ntmps135
    go_wp2
    go_ret
    exact ⟨rfl, rfl⟩

/-- less, as numbers without a sign -/
def ltu (a b : Int) : Bool := decide (IntKind.u64.wrap a < IntKind.u64.wrap b)

theorem eq_func2 (fn : Fn) (w : World) : (binOp .eql 38 (.func fn #[] #[]) .nilFunc).run Tryz.prog w = .ok (.bool false) w := by kernel_rfl
theorem eq_nil2 (w : World) : (binOp .eql 38 .nilFunc .nilFunc).run Tryz.prog w = .ok (.bool true) w := by kernel_rfl
theorem eq_func1 (fn : Fn) (w : World) : (binOp .eql 59 (.func fn #[] #[]) .nilFunc).run Tryz.prog w = .ok (.bool false) w := by kernel_rfl
theorem eq_nil1 (w : World) : (binOp .eql 59 .nilFunc .nilFunc).run Tryz.prog w = .ok (.bool true) w := by kernel_rfl
attribute [local go_sem] eq_func1 eq_func2 eq_nil1 eq_nil2
theorem below2 (w : World) (o p : Obj) : Below w.heap.size w ((w.alloc o).alloc p) := ((Below.refl _ _).alloc (Nat.le_refl _) _).alloc (by simp) _
set_option maxHeartbeats 400000 in
theorem row1  (w : World) :
    Calls Tryz.prog 123 #[.int .i64 1] w fun e w' => e = .returned (.agg #[.string ⟨#[43]⟩, .int .i64 7, .func (.func 124) #[] #[], .nilFunc]) ∧ w.alloc (.cells #[.string ⟨#[43]⟩, .int .i64 7, .func (.func 124) #[] #[], .nilFunc] 157) = w' := by
  go_enter Tryz.func123, Tryz.ntmps123
  go_wp2
  exact bodyPost_ret (v := .agg #[.string ⟨#[43]⟩, .int .i64 7, .func (.func 124) #[] #[], .nilFunc]) (by simp [results, Tryz.results123, go_sem]) rfl ⟨rfl, rfl⟩

set_option maxHeartbeats 400000 in
theorem row2  (w : World) :
    Calls Tryz.prog 123 #[.int .i64 2] w fun e w' => e = .returned (.agg #[.string ⟨#[45]⟩, .int .i64 7, .func (.func 125) #[] #[], .nilFunc]) ∧ w.alloc (.cells #[.string ⟨#[45]⟩, .int .i64 7, .func (.func 125) #[] #[], .nilFunc] 157) = w' := by
  go_enter Tryz.func123, Tryz.ntmps123
  go_wp2
  exact bodyPost_ret (v := .agg #[.string ⟨#[45]⟩, .int .i64 7, .func (.func 125) #[] #[], .nilFunc]) (by simp [results, Tryz.results123, go_sem]) rfl ⟨rfl, rfl⟩

set_option maxHeartbeats 400000 in
theorem row3  (w : World) :
    Calls Tryz.prog 123 #[.int .i64 3] w fun e w' => e = .returned (.agg #[.string ⟨#[42]⟩, .int .i64 8, .func (.func 126) #[] #[], .nilFunc]) ∧ w.alloc (.cells #[.string ⟨#[42]⟩, .int .i64 8, .func (.func 126) #[] #[], .nilFunc] 157) = w' := by
  go_enter Tryz.func123, Tryz.ntmps123
  go_wp2
  exact bodyPost_ret (v := .agg #[.string ⟨#[42]⟩, .int .i64 8, .func (.func 126) #[] #[], .nilFunc]) (by simp [results, Tryz.results123, go_sem]) rfl ⟨rfl, rfl⟩

set_option maxHeartbeats 400000 in
theorem row4  (w : World) :
    Calls Tryz.prog 123 #[.int .i64 4] w fun e w' => e = .returned (.agg #[.string ⟨#[47]⟩, .int .i64 8, .func (.func 127) #[] #[], .nilFunc]) ∧ w.alloc (.cells #[.string ⟨#[47]⟩, .int .i64 8, .func (.func 127) #[] #[], .nilFunc] 157) = w' := by
  go_enter Tryz.func123, Tryz.ntmps123
  go_wp2
  exact bodyPost_ret (v := .agg #[.string ⟨#[47]⟩, .int .i64 8, .func (.func 127) #[] #[], .nilFunc]) (by simp [results, Tryz.results123, go_sem]) rfl ⟨rfl, rfl⟩

set_option maxHeartbeats 400000 in
theorem row5  (w : World) :
    Calls Tryz.prog 123 #[.int .i64 5] w fun e w' => e = .returned (.agg #[.string ⟨#[37]⟩, .int .i64 8, .func (.func 128) #[] #[], .nilFunc]) ∧ w.alloc (.cells #[.string ⟨#[37]⟩, .int .i64 8, .func (.func 128) #[] #[], .nilFunc] 157) = w' := by
  go_enter Tryz.func123, Tryz.ntmps123
  go_wp2
  exact bodyPost_ret (v := .agg #[.string ⟨#[37]⟩, .int .i64 8, .func (.func 128) #[] #[], .nilFunc]) (by simp [results, Tryz.results123, go_sem]) rfl ⟨rfl, rfl⟩

set_option maxHeartbeats 400000 in
theorem row6  (w : World) :
    Calls Tryz.prog 123 #[.int .i64 6] w fun e w' => e = .returned (.agg #[.string ⟨#[38]⟩, .int .i64 3, .func (.func 129) #[] #[], .nilFunc]) ∧ w.alloc (.cells #[.string ⟨#[38]⟩, .int .i64 3, .func (.func 129) #[] #[], .nilFunc] 157) = w' := by
  go_enter Tryz.func123, Tryz.ntmps123
  go_wp2
  exact bodyPost_ret (v := .agg #[.string ⟨#[38]⟩, .int .i64 3, .func (.func 129) #[] #[], .nilFunc]) (by simp [results, Tryz.results123, go_sem]) rfl ⟨rfl, rfl⟩

set_option maxHeartbeats 400000 in
theorem row7  (w : World) :
    Calls Tryz.prog 123 #[.int .i64 7] w fun e w' => e = .returned (.agg #[.string ⟨#[124]⟩, .int .i64 1, .func (.func 130) #[] #[], .nilFunc]) ∧ w.alloc (.cells #[.string ⟨#[124]⟩, .int .i64 1, .func (.func 130) #[] #[], .nilFunc] 157) = w' := by
  go_enter Tryz.func123, Tryz.ntmps123
  go_wp2
  exact bodyPost_ret (v := .agg #[.string ⟨#[124]⟩, .int .i64 1, .func (.func 130) #[] #[], .nilFunc]) (by simp [results, Tryz.results123, go_sem]) rfl ⟨rfl, rfl⟩

set_option maxHeartbeats 400000 in
theorem row8  (w : World) :
    Calls Tryz.prog 123 #[.int .i64 8] w fun e w' => e = .returned (.agg #[.string ⟨#[94]⟩, .int .i64 2, .func (.func 131) #[] #[], .nilFunc]) ∧ w.alloc (.cells #[.string ⟨#[94]⟩, .int .i64 2, .func (.func 131) #[] #[], .nilFunc] 157) = w' := by
  go_enter Tryz.func123, Tryz.ntmps123
  go_wp2
  exact bodyPost_ret (v := .agg #[.string ⟨#[94]⟩, .int .i64 2, .func (.func 131) #[] #[], .nilFunc]) (by simp [results, Tryz.results123, go_sem]) rfl ⟨rfl, rfl⟩

set_option maxHeartbeats 400000 in
theorem row9  (w : World) :
    Calls Tryz.prog 123 #[.int .i64 9] w fun e w' => e = .returned (.agg #[.string ⟨#[60, 60]⟩, .int .i64 6, .func (.func 132) #[] #[], .nilFunc]) ∧ w.alloc (.cells #[.string ⟨#[60, 60]⟩, .int .i64 6, .func (.func 132) #[] #[], .nilFunc] 157) = w' := by
  go_enter Tryz.func123, Tryz.ntmps123
  go_wp2
  exact bodyPost_ret (v := .agg #[.string ⟨#[60, 60]⟩, .int .i64 6, .func (.func 132) #[] #[], .nilFunc]) (by simp [results, Tryz.results123, go_sem]) rfl ⟨rfl, rfl⟩

set_option maxHeartbeats 400000 in
theorem row10  (w : World) :
    Calls Tryz.prog 123 #[.int .i64 10] w fun e w' => e = .returned (.agg #[.string ⟨#[62, 62]⟩, .int .i64 6, .func (.func 133) #[] #[], .nilFunc]) ∧ w.alloc (.cells #[.string ⟨#[62, 62]⟩, .int .i64 6, .func (.func 133) #[] #[], .nilFunc] 157) = w' := by
  go_enter Tryz.func123, Tryz.ntmps123
  go_wp2
  exact bodyPost_ret (v := .agg #[.string ⟨#[62, 62]⟩, .int .i64 6, .func (.func 133) #[] #[], .nilFunc]) (by simp [results, Tryz.results123, go_sem]) rfl ⟨rfl, rfl⟩

set_option maxHeartbeats 400000 in
theorem row11  (w : World) :
    Calls Tryz.prog 123 #[.int .i64 11] w fun e w' => e = .returned (.agg #[.string ⟨#[60]⟩, .int .i64 5, .func (.func 134) #[] #[], .nilFunc]) ∧ w.alloc (.cells #[.string ⟨#[60]⟩, .int .i64 5, .func (.func 134) #[] #[], .nilFunc] 157) = w' := by
  go_enter Tryz.func123, Tryz.ntmps123
  go_wp2
  exact bodyPost_ret (v := .agg #[.string ⟨#[60]⟩, .int .i64 5, .func (.func 134) #[] #[], .nilFunc]) (by simp [results, Tryz.results123, go_sem]) rfl ⟨rfl, rfl⟩

set_option maxHeartbeats 400000 in
theorem row12  (w : World) :
    Calls Tryz.prog 123 #[.int .i64 12] w fun e w' => e = .returned (.agg #[.string ⟨#[60, 61]⟩, .int .i64 5, .func (.func 136) #[] #[], .nilFunc]) ∧ w.alloc (.cells #[.string ⟨#[60, 61]⟩, .int .i64 5, .func (.func 136) #[] #[], .nilFunc] 157) = w' := by
  go_enter Tryz.func123, Tryz.ntmps123
  go_wp2
  exact bodyPost_ret (v := .agg #[.string ⟨#[60, 61]⟩, .int .i64 5, .func (.func 136) #[] #[], .nilFunc]) (by simp [results, Tryz.results123, go_sem]) rfl ⟨rfl, rfl⟩

set_option maxHeartbeats 400000 in
theorem row13  (w : World) :
    Calls Tryz.prog 123 #[.int .i64 13] w fun e w' => e = .returned (.agg #[.string ⟨#[62]⟩, .int .i64 5, .func (.func 137) #[] #[], .nilFunc]) ∧ w.alloc (.cells #[.string ⟨#[62]⟩, .int .i64 5, .func (.func 137) #[] #[], .nilFunc] 157) = w' := by
  go_enter Tryz.func123, Tryz.ntmps123
  go_wp2
  exact bodyPost_ret (v := .agg #[.string ⟨#[62]⟩, .int .i64 5, .func (.func 137) #[] #[], .nilFunc]) (by simp [results, Tryz.results123, go_sem]) rfl ⟨rfl, rfl⟩

set_option maxHeartbeats 400000 in
theorem row14  (w : World) :
    Calls Tryz.prog 123 #[.int .i64 14] w fun e w' => e = .returned (.agg #[.string ⟨#[62, 61]⟩, .int .i64 5, .func (.func 138) #[] #[], .nilFunc]) ∧ w.alloc (.cells #[.string ⟨#[62, 61]⟩, .int .i64 5, .func (.func 138) #[] #[], .nilFunc] 157) = w' := by
  go_enter Tryz.func123, Tryz.ntmps123
  go_wp2
  exact bodyPost_ret (v := .agg #[.string ⟨#[62, 61]⟩, .int .i64 5, .func (.func 138) #[] #[], .nilFunc]) (by simp [results, Tryz.results123, go_sem]) rfl ⟨rfl, rfl⟩

set_option maxHeartbeats 400000 in
theorem row15  (w : World) :
    Calls Tryz.prog 123 #[.int .i64 15] w fun e w' => e = .returned (.agg #[.string ⟨#[61, 61]⟩, .int .i64 4, .func (.func 139) #[] #[], .nilFunc]) ∧ w.alloc (.cells #[.string ⟨#[61, 61]⟩, .int .i64 4, .func (.func 139) #[] #[], .nilFunc] 157) = w' := by
  go_enter Tryz.func123, Tryz.ntmps123
  go_wp2
  exact bodyPost_ret (v := .agg #[.string ⟨#[61, 61]⟩, .int .i64 4, .func (.func 139) #[] #[], .nilFunc]) (by simp [results, Tryz.results123, go_sem]) rfl ⟨rfl, rfl⟩

set_option maxHeartbeats 400000 in
theorem row16  (w : World) :
    Calls Tryz.prog 123 #[.int .i64 16] w fun e w' => e = .returned (.agg #[.string ⟨#[33, 61]⟩, .int .i64 4, .func (.func 140) #[] #[], .nilFunc]) ∧ w.alloc (.cells #[.string ⟨#[33, 61]⟩, .int .i64 4, .func (.func 140) #[] #[], .nilFunc] 157) = w' := by
  go_enter Tryz.func123, Tryz.ntmps123
  go_wp2
  exact bodyPost_ret (v := .agg #[.string ⟨#[33, 61]⟩, .int .i64 4, .func (.func 140) #[] #[], .nilFunc]) (by simp [results, Tryz.results123, go_sem]) rfl ⟨rfl, rfl⟩

set_option maxHeartbeats 400000 in
theorem row17  (w : World) :
    Calls Tryz.prog 123 #[.int .i64 17] w fun e w' => e = .returned (.agg #[.string ⟨#[45]⟩, .int .i64 0, .nilFunc, .func (.func 141) #[] #[]]) ∧ w.alloc (.cells #[.string ⟨#[45]⟩, .int .i64 0, .nilFunc, .func (.func 141) #[] #[]] 157) = w' := by
  go_enter Tryz.func123, Tryz.ntmps123
  go_wp2
  exact bodyPost_ret (v := .agg #[.string ⟨#[45]⟩, .int .i64 0, .nilFunc, .func (.func 141) #[] #[]]) (by simp [results, Tryz.results123, go_sem]) rfl ⟨rfl, rfl⟩

set_option maxHeartbeats 400000 in
theorem row18  (w : World) :
    Calls Tryz.prog 123 #[.int .i64 18] w fun e w' => e = .returned (.agg #[.string ⟨#[33]⟩, .int .i64 0, .nilFunc, .func (.func 142) #[] #[]]) ∧ w.alloc (.cells #[.string ⟨#[33]⟩, .int .i64 0, .nilFunc, .func (.func 142) #[] #[]] 157) = w' := by
  go_enter Tryz.func123, Tryz.ntmps123
  go_wp2
  exact bodyPost_ret (v := .agg #[.string ⟨#[33]⟩, .int .i64 0, .nilFunc, .func (.func 142) #[] #[]]) (by simp [results, Tryz.results123, go_sem]) rfl ⟨rfl, rfl⟩

set_option maxHeartbeats 400000 in
theorem row19  (w : World) :
    Calls Tryz.prog 123 #[.int .i64 19] w fun e w' => e = .returned (.agg #[.string ⟨#[126]⟩, .int .i64 0, .nilFunc, .func (.func 143) #[] #[]]) ∧ w.alloc (.cells #[.string ⟨#[126]⟩, .int .i64 0, .nilFunc, .func (.func 143) #[] #[]] 157) = w' := by
  go_enter Tryz.func123, Tryz.ntmps123
  go_wp2
  exact bodyPost_ret (v := .agg #[.string ⟨#[126]⟩, .int .i64 0, .nilFunc, .func (.func 143) #[] #[]]) (by simp [results, Tryz.results123, go_sem]) rfl ⟨rfl, rfl⟩

/-- op is no operator -/
def NoOp (op : Int) : Prop := op < 1 ∨ 19 < op
set_option maxHeartbeats 400000 in
theorem row0 (op : Int) (h : NoOp op) (w : World) :
    Calls Tryz.prog 123 #[.int .i64 op] w fun e w' => e = .returned (.agg #[.string ⟨#[]⟩, .int .i64 0, .nilFunc, .nilFunc]) ∧ w.alloc (.cells #[.string ⟨#[]⟩, .int .i64 0, .nilFunc, .nilFunc] 157) = w' := by
  have h1 : (op == 1) = false := by unfold NoOp at h; rw [beq_eq_false_iff_ne]; omega
  have h2 : (op == 2) = false := by unfold NoOp at h; rw [beq_eq_false_iff_ne]; omega
  have h3 : (op == 3) = false := by unfold NoOp at h; rw [beq_eq_false_iff_ne]; omega
  have h4 : (op == 4) = false := by unfold NoOp at h; rw [beq_eq_false_iff_ne]; omega
  have h5 : (op == 5) = false := by unfold NoOp at h; rw [beq_eq_false_iff_ne]; omega
  have h6 : (op == 6) = false := by unfold NoOp at h; rw [beq_eq_false_iff_ne]; omega
  have h7 : (op == 7) = false := by unfold NoOp at h; rw [beq_eq_false_iff_ne]; omega
  have h8 : (op == 8) = false := by unfold NoOp at h; rw [beq_eq_false_iff_ne]; omega
  have h9 : (op == 9) = false := by unfold NoOp at h; rw [beq_eq_false_iff_ne]; omega
  have h10 : (op == 10) = false := by unfold NoOp at h; rw [beq_eq_false_iff_ne]; omega
  have h11 : (op == 11) = false := by unfold NoOp at h; rw [beq_eq_false_iff_ne]; omega
  have h12 : (op == 12) = false := by unfold NoOp at h; rw [beq_eq_false_iff_ne]; omega
  have h13 : (op == 13) = false := by unfold NoOp at h; rw [beq_eq_false_iff_ne]; omega
  have h14 : (op == 14) = false := by unfold NoOp at h; rw [beq_eq_false_iff_ne]; omega
  have h15 : (op == 15) = false := by unfold NoOp at h; rw [beq_eq_false_iff_ne]; omega
  have h16 : (op == 16) = false := by unfold NoOp at h; rw [beq_eq_false_iff_ne]; omega
  have h17 : (op == 17) = false := by unfold NoOp at h; rw [beq_eq_false_iff_ne]; omega
  have h18 : (op == 18) = false := by unfold NoOp at h; rw [beq_eq_false_iff_ne]; omega
  have h19 : (op == 19) = false := by unfold NoOp at h; rw [beq_eq_false_iff_ne]; omega
  clear h
  go_enter Tryz.func123, Tryz.ntmps123
  go_wp2
  exact bodyPost_ret (v := .agg #[.string ⟨#[]⟩, .int .i64 0, .nilFunc, .nilFunc]) (by simp [results, Tryz.results123, go_sem]) rfl ⟨rfl, rfl⟩

end Go.Proofs.YtmignlclfbaifaaGreat.Ar
