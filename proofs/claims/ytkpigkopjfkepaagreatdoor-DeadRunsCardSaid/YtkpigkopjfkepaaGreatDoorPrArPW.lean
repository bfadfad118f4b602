/- Plain arithmetic of layer 1: what an operator makes of two numbers or of one, in the walk's own spelling. No program in sight. What the functions of arith (layer 1) and of its reference do: one contract a function, at every argument. What the functions of arith (layer 1) and of its reference do, at any operator: one contract a function. -/
import Derived.WalkKit
import Derived.Test.YtkpigkopjfkepaaGreatDoorRows
import Derived.WalkSpells
import Derived.WalkLawsBesides
import Derived.Laws.EntriesVeiled
import Derived.Lib.Hide
namespace Go.Proofs.YtkpigkopjfkepaaGreatDoor.Ar
open Go.RowKit
def bit (p : Bool) : Int := if p then 1 else 0
def shn (b : Int) : Int := bits .and .i64 b 63
def divq (a b : Int) : Int := if b = 0 then -1 else wrap64 (a.tdiv b)
def remr (a b : Int) : Int := if b = 0 then a else a.tmod b
def two (op a b : Int) : Int :=
 if op = 1 then wrap64 (a + b) else if op = 2 then wrap64 (a - b) else if op = 3 then wrap64 (a * b)
 else if op = 4 then (if b = 0 then 0 else divq a b) else if op = 5 then (if b = 0 then 0 else remr a b)
 else if op = 6 then bits .and .i64 a b else if op = 7 then bits .or .i64 a b else if op = 8 then bits .xor .i64 a b
 else if op = 9 then wrap64 (a * 2 ^ (shn b).toNat) else if op = 10 then a / 2 ^ (shn b).toNat
 else if op = 11 then bit (a < b) else if op = 12 then bit (a ≤ b) else if op = 13 then bit (b < a) else if op = 14 then bit (b ≤ a)
 else if op = 15 then bit (a == b) else if op = 16 then bit (a != b) else 0
def twoOk (op b : Int) : Bool := decide (1 ≤ op ∧ op ≤ 16) && !((op == 4 || op == 5) && b == 0)
def one (op a : Int) : Int := if op = 17 then wrap64 (-a) else if op = 18 then bit (a == 0) else if op = 19 then bits .xor .i64 (-1) a else 0
def oneOk (op : Int) : Bool := decide (17 ≤ op ∧ op ≤ 19)
def lvl (op : Int) : Int :=
 if op < 1 ∨ 16 < op then 0 else if op ≤ 2 then 7 else if op ≤ 5 then 8 else if op = 6 then 3 else if op = 7 then 1 else if op = 8 then 2
 else if op ≤ 10 then 6 else if op ≤ 14 then 5 else 4
def sgn (op : Int) : ByteArray :=
 if op = 1 then ⟨#[43]⟩ else if op = 2 then ⟨#[45]⟩ else if op = 3 then ⟨#[42]⟩ else if op = 4 then ⟨#[47]⟩ else if op = 5 then ⟨#[37]⟩
 else if op = 6 then ⟨#[38]⟩ else if op = 7 then ⟨#[124]⟩ else if op = 8 then ⟨#[94]⟩ else if op = 9 then ⟨#[60, 60]⟩ else if op = 10 then ⟨#[62, 62]⟩
 else if op = 11 then ⟨#[60]⟩ else if op = 12 then ⟨#[60, 61]⟩ else if op = 13 then ⟨#[62]⟩ else if op = 14 then ⟨#[62, 61]⟩ else if op = 15 then ⟨#[61, 61]⟩
 else if op = 16 then ⟨#[33, 61]⟩ else if op = 17 then ⟨#[45]⟩ else if op = 18 then ⟨#[33]⟩ else if op = 19 then ⟨#[126]⟩ else ⟨#[]⟩
end Go.Proofs.YtkpigkopjfkepaaGreatDoor.Ar
namespace Go.Proofs.YtkpigkopjfkepaaGreatDoor.Ar
open Go.RowKit
theorem ret_int {k : IntKind} {a b : Int} (h : a = b) : Ending.returned (.int k a) = .returned (.int k b) := by rw [h]
theorem ret_ib {k : IntKind} {a b : Int} {p q : Bool} (h : a = b) (g : p = q) : Ending.returned (.tuple #[.int k a, .bool p]) = .returned (.tuple #[.int k b, .bool q]) := by rw [h, g]
theorem shn_lo (b : Int) : 0 ≤ bits .and .i64 b 63 := by
 show 0 ≤ IntKind.i64.wrap ((BitVec.ofInt 64 b &&& BitVec.ofInt 64 63).toNat : Int)
 have h : (BitVec.ofInt 64 b &&& BitVec.ofInt 64 63).toNat ≤ 63 := by
  rw [BitVec.toNat_and]; exact Nat.and_le_right
 rw [IntKind.wrap_i64]; omega
theorem shn_hi (b : Int) : bits .and .i64 b 63 ≤ 63 := by
 show IntKind.i64.wrap ((BitVec.ofInt 64 b &&& BitVec.ofInt 64 63).toNat : Int) ≤ 63
 have h : (BitVec.ofInt 64 b &&& BitVec.ofInt 64 63).toNat ≤ 63 := by
  rw [BitVec.toNat_and]; exact Nat.and_le_right
 rw [IntKind.wrap_i64]; omega
set_option maxHeartbeats 400000 in
theorem div_any (a b : Int) (w : World) :
  Calls Tryz.prog 141 #[.int .i64 a, .int .i64 b] w fun e w' => e = .returned (.int .i64 (divq a b)) ∧ w = w' := by
 by_cases h : b = 0
 ·subst h
  go_enter Tryz.func141, Tryz.ntmps141
  go_wp2
  go_ret
  exact ⟨rfl, rfl⟩
 ·go_enter Tryz.func141, Tryz.ntmps141
  go_wp2
  go_ret
  exact ⟨ret_int (by rw [divq, if_neg h]), rfl⟩
set_option maxHeartbeats 400000 in
theorem rem_any (a b : Int) (w : World) :
  Calls Tryz.prog 142 #[.int .i64 a, .int .i64 b] w fun e w' => e = .returned (.int .i64 (remr a b)) ∧ w = w' := by
 by_cases h : b = 0
 ·subst h
  go_enter Tryz.func142, Tryz.ntmps142
  go_wp2
  go_ret
  exact ⟨rfl, rfl⟩
 ·go_enter Tryz.func142, Tryz.ntmps142
  go_wp2
  go_ret
  exact ⟨ret_int (by rw [remr, if_neg h]), rfl⟩
set_option maxHeartbeats 400000 in
theorem flag_any (p : Bool) (w : World) :
  Calls Tryz.prog 149 #[.bool p] w fun e w' => e = .returned (.int .i64 (bit p)) ∧ w = w' := by
 cases p
 all_goals
  go_enter Tryz.func149, Tryz.ntmps149
  go_wp2
  go_ret
  exact ⟨rfl, rfl⟩
theorem eq_func2 (fn : Fn) (w : World) : (binOp .eql 39 (.func fn #[] #[]) .nilFunc).run Tryz.prog w = .ok (.bool false) w := by kernel_rfl
theorem eq_nil2 (w : World) : (binOp .eql 39 .nilFunc .nilFunc).run Tryz.prog w = .ok (.bool true) w := by kernel_rfl
theorem eq_func1 (fn : Fn) (w : World) : (binOp .eql 160 (.func fn #[] #[]) .nilFunc).run Tryz.prog w = .ok (.bool false) w := by kernel_rfl
theorem eq_nil1 (w : World) : (binOp .eql 160 .nilFunc .nilFunc).run Tryz.prog w = .ok (.bool true) w := by kernel_rfl
attribute [local go_sem] eq_func1 eq_func2 eq_nil1 eq_nil2
theorem below2 (w : World) (o p : Obj) : Below w.heap.size w ((w.alloc o).alloc p) := ((Below.refl _ _).alloc (Nat.le_refl _) _).alloc (by simp) _
set_option maxHeartbeats 400000 in
theorem row1  (w : World) :
  Calls Tryz.prog 110 #[.int .i64 1] w fun e w' => e = .returned (.agg #[.string ⟨#[43]⟩, .int .i64 7, .func (.func 138) #[] #[], .nilFunc]) ∧ w.alloc (.cells #[.string ⟨#[43]⟩, .int .i64 7, .func (.func 138) #[] #[], .nilFunc] 162) = w' := by
 go_enter Tryz.func110, Tryz.ntmps110
 go_wp2
 exact bodyPost_ret (v := .agg #[.string ⟨#[43]⟩, .int .i64 7, .func (.func 138) #[] #[], .nilFunc]) (by simp [results, Tryz.results110, go_sem]) rfl ⟨rfl, rfl⟩
set_option maxHeartbeats 400000 in
theorem row2  (w : World) :
  Calls Tryz.prog 110 #[.int .i64 2] w fun e w' => e = .returned (.agg #[.string ⟨#[45]⟩, .int .i64 7, .func (.func 139) #[] #[], .nilFunc]) ∧ w.alloc (.cells #[.string ⟨#[45]⟩, .int .i64 7, .func (.func 139) #[] #[], .nilFunc] 162) = w' := by
 go_enter Tryz.func110, Tryz.ntmps110
 go_wp2
 exact bodyPost_ret (v := .agg #[.string ⟨#[45]⟩, .int .i64 7, .func (.func 139) #[] #[], .nilFunc]) (by simp [results, Tryz.results110, go_sem]) rfl ⟨rfl, rfl⟩
set_option maxHeartbeats 400000 in
theorem row3  (w : World) :
  Calls Tryz.prog 110 #[.int .i64 3] w fun e w' => e = .returned (.agg #[.string ⟨#[42]⟩, .int .i64 8, .func (.func 140) #[] #[], .nilFunc]) ∧ w.alloc (.cells #[.string ⟨#[42]⟩, .int .i64 8, .func (.func 140) #[] #[], .nilFunc] 162) = w' := by
 go_enter Tryz.func110, Tryz.ntmps110
 go_wp2
 exact bodyPost_ret (v := .agg #[.string ⟨#[42]⟩, .int .i64 8, .func (.func 140) #[] #[], .nilFunc]) (by simp [results, Tryz.results110, go_sem]) rfl ⟨rfl, rfl⟩
set_option maxHeartbeats 400000 in
theorem row4  (w : World) :
  Calls Tryz.prog 110 #[.int .i64 4] w fun e w' => e = .returned (.agg #[.string ⟨#[47]⟩, .int .i64 8, .func (.func 141) #[] #[], .nilFunc]) ∧ w.alloc (.cells #[.string ⟨#[47]⟩, .int .i64 8, .func (.func 141) #[] #[], .nilFunc] 162) = w' := by
 go_enter Tryz.func110, Tryz.ntmps110
 go_wp2
 exact bodyPost_ret (v := .agg #[.string ⟨#[47]⟩, .int .i64 8, .func (.func 141) #[] #[], .nilFunc]) (by simp [results, Tryz.results110, go_sem]) rfl ⟨rfl, rfl⟩
set_option maxHeartbeats 400000 in
theorem row5  (w : World) :
  Calls Tryz.prog 110 #[.int .i64 5] w fun e w' => e = .returned (.agg #[.string ⟨#[37]⟩, .int .i64 8, .func (.func 142) #[] #[], .nilFunc]) ∧ w.alloc (.cells #[.string ⟨#[37]⟩, .int .i64 8, .func (.func 142) #[] #[], .nilFunc] 162) = w' := by
 go_enter Tryz.func110, Tryz.ntmps110
 go_wp2
 exact bodyPost_ret (v := .agg #[.string ⟨#[37]⟩, .int .i64 8, .func (.func 142) #[] #[], .nilFunc]) (by simp [results, Tryz.results110, go_sem]) rfl ⟨rfl, rfl⟩
set_option maxHeartbeats 400000 in
theorem row6  (w : World) :
  Calls Tryz.prog 110 #[.int .i64 6] w fun e w' => e = .returned (.agg #[.string ⟨#[38]⟩, .int .i64 3, .func (.func 143) #[] #[], .nilFunc]) ∧ w.alloc (.cells #[.string ⟨#[38]⟩, .int .i64 3, .func (.func 143) #[] #[], .nilFunc] 162) = w' := by
 go_enter Tryz.func110, Tryz.ntmps110
 go_wp2
 exact bodyPost_ret (v := .agg #[.string ⟨#[38]⟩, .int .i64 3, .func (.func 143) #[] #[], .nilFunc]) (by simp [results, Tryz.results110, go_sem]) rfl ⟨rfl, rfl⟩
set_option maxHeartbeats 400000 in
theorem row7  (w : World) :
  Calls Tryz.prog 110 #[.int .i64 7] w fun e w' => e = .returned (.agg #[.string ⟨#[124]⟩, .int .i64 1, .func (.func 144) #[] #[], .nilFunc]) ∧ w.alloc (.cells #[.string ⟨#[124]⟩, .int .i64 1, .func (.func 144) #[] #[], .nilFunc] 162) = w' := by
 go_enter Tryz.func110, Tryz.ntmps110
 go_wp2
 exact bodyPost_ret (v := .agg #[.string ⟨#[124]⟩, .int .i64 1, .func (.func 144) #[] #[], .nilFunc]) (by simp [results, Tryz.results110, go_sem]) rfl ⟨rfl, rfl⟩
set_option maxHeartbeats 400000 in
theorem row8  (w : World) :
  Calls Tryz.prog 110 #[.int .i64 8] w fun e w' => e = .returned (.agg #[.string ⟨#[94]⟩, .int .i64 2, .func (.func 145) #[] #[], .nilFunc]) ∧ w.alloc (.cells #[.string ⟨#[94]⟩, .int .i64 2, .func (.func 145) #[] #[], .nilFunc] 162) = w' := by
 go_enter Tryz.func110, Tryz.ntmps110
 go_wp2
 exact bodyPost_ret (v := .agg #[.string ⟨#[94]⟩, .int .i64 2, .func (.func 145) #[] #[], .nilFunc]) (by simp [results, Tryz.results110, go_sem]) rfl ⟨rfl, rfl⟩
set_option maxHeartbeats 400000 in
theorem row9  (w : World) :
  Calls Tryz.prog 110 #[.int .i64 9] w fun e w' => e = .returned (.agg #[.string ⟨#[60, 60]⟩, .int .i64 6, .func (.func 146) #[] #[], .nilFunc]) ∧ w.alloc (.cells #[.string ⟨#[60, 60]⟩, .int .i64 6, .func (.func 146) #[] #[], .nilFunc] 162) = w' := by
 go_enter Tryz.func110, Tryz.ntmps110
 go_wp2
 exact bodyPost_ret (v := .agg #[.string ⟨#[60, 60]⟩, .int .i64 6, .func (.func 146) #[] #[], .nilFunc]) (by simp [results, Tryz.results110, go_sem]) rfl ⟨rfl, rfl⟩
set_option maxHeartbeats 400000 in
theorem row10  (w : World) :
  Calls Tryz.prog 110 #[.int .i64 10] w fun e w' => e = .returned (.agg #[.string ⟨#[62, 62]⟩, .int .i64 6, .func (.func 147) #[] #[], .nilFunc]) ∧ w.alloc (.cells #[.string ⟨#[62, 62]⟩, .int .i64 6, .func (.func 147) #[] #[], .nilFunc] 162) = w' := by
 go_enter Tryz.func110, Tryz.ntmps110
 go_wp2
 exact bodyPost_ret (v := .agg #[.string ⟨#[62, 62]⟩, .int .i64 6, .func (.func 147) #[] #[], .nilFunc]) (by simp [results, Tryz.results110, go_sem]) rfl ⟨rfl, rfl⟩
set_option maxHeartbeats 400000 in
theorem row11  (w : World) :
  Calls Tryz.prog 110 #[.int .i64 11] w fun e w' => e = .returned (.agg #[.string ⟨#[60]⟩, .int .i64 5, .func (.func 148) #[] #[], .nilFunc]) ∧ w.alloc (.cells #[.string ⟨#[60]⟩, .int .i64 5, .func (.func 148) #[] #[], .nilFunc] 162) = w' := by
 go_enter Tryz.func110, Tryz.ntmps110
 go_wp2
 exact bodyPost_ret (v := .agg #[.string ⟨#[60]⟩, .int .i64 5, .func (.func 148) #[] #[], .nilFunc]) (by simp [results, Tryz.results110, go_sem]) rfl ⟨rfl, rfl⟩
set_option maxHeartbeats 400000 in
theorem row12  (w : World) :
  Calls Tryz.prog 110 #[.int .i64 12] w fun e w' => e = .returned (.agg #[.string ⟨#[60, 61]⟩, .int .i64 5, .func (.func 150) #[] #[], .nilFunc]) ∧ w.alloc (.cells #[.string ⟨#[60, 61]⟩, .int .i64 5, .func (.func 150) #[] #[], .nilFunc] 162) = w' := by
 go_enter Tryz.func110, Tryz.ntmps110
 go_wp2
 exact bodyPost_ret (v := .agg #[.string ⟨#[60, 61]⟩, .int .i64 5, .func (.func 150) #[] #[], .nilFunc]) (by simp [results, Tryz.results110, go_sem]) rfl ⟨rfl, rfl⟩
set_option maxHeartbeats 400000 in
theorem row13  (w : World) :
  Calls Tryz.prog 110 #[.int .i64 13] w fun e w' => e = .returned (.agg #[.string ⟨#[62]⟩, .int .i64 5, .func (.func 151) #[] #[], .nilFunc]) ∧ w.alloc (.cells #[.string ⟨#[62]⟩, .int .i64 5, .func (.func 151) #[] #[], .nilFunc] 162) = w' := by
 go_enter Tryz.func110, Tryz.ntmps110
 go_wp2
 exact bodyPost_ret (v := .agg #[.string ⟨#[62]⟩, .int .i64 5, .func (.func 151) #[] #[], .nilFunc]) (by simp [results, Tryz.results110, go_sem]) rfl ⟨rfl, rfl⟩
set_option maxHeartbeats 400000 in
theorem row14  (w : World) :
  Calls Tryz.prog 110 #[.int .i64 14] w fun e w' => e = .returned (.agg #[.string ⟨#[62, 61]⟩, .int .i64 5, .func (.func 152) #[] #[], .nilFunc]) ∧ w.alloc (.cells #[.string ⟨#[62, 61]⟩, .int .i64 5, .func (.func 152) #[] #[], .nilFunc] 162) = w' := by
 go_enter Tryz.func110, Tryz.ntmps110
 go_wp2
 exact bodyPost_ret (v := .agg #[.string ⟨#[62, 61]⟩, .int .i64 5, .func (.func 152) #[] #[], .nilFunc]) (by simp [results, Tryz.results110, go_sem]) rfl ⟨rfl, rfl⟩
set_option maxHeartbeats 400000 in
theorem row15  (w : World) :
  Calls Tryz.prog 110 #[.int .i64 15] w fun e w' => e = .returned (.agg #[.string ⟨#[61, 61]⟩, .int .i64 4, .func (.func 153) #[] #[], .nilFunc]) ∧ w.alloc (.cells #[.string ⟨#[61, 61]⟩, .int .i64 4, .func (.func 153) #[] #[], .nilFunc] 162) = w' := by
 go_enter Tryz.func110, Tryz.ntmps110
 go_wp2
 exact bodyPost_ret (v := .agg #[.string ⟨#[61, 61]⟩, .int .i64 4, .func (.func 153) #[] #[], .nilFunc]) (by simp [results, Tryz.results110, go_sem]) rfl ⟨rfl, rfl⟩
set_option maxHeartbeats 400000 in
theorem row16  (w : World) :
  Calls Tryz.prog 110 #[.int .i64 16] w fun e w' => e = .returned (.agg #[.string ⟨#[33, 61]⟩, .int .i64 4, .func (.func 154) #[] #[], .nilFunc]) ∧ w.alloc (.cells #[.string ⟨#[33, 61]⟩, .int .i64 4, .func (.func 154) #[] #[], .nilFunc] 162) = w' := by
 go_enter Tryz.func110, Tryz.ntmps110
 go_wp2
 exact bodyPost_ret (v := .agg #[.string ⟨#[33, 61]⟩, .int .i64 4, .func (.func 154) #[] #[], .nilFunc]) (by simp [results, Tryz.results110, go_sem]) rfl ⟨rfl, rfl⟩
set_option maxHeartbeats 400000 in
theorem row17  (w : World) :
  Calls Tryz.prog 110 #[.int .i64 17] w fun e w' => e = .returned (.agg #[.string ⟨#[45]⟩, .int .i64 0, .nilFunc, .func (.func 155) #[] #[]]) ∧ w.alloc (.cells #[.string ⟨#[45]⟩, .int .i64 0, .nilFunc, .func (.func 155) #[] #[]] 162) = w' := by
 go_enter Tryz.func110, Tryz.ntmps110
 go_wp2
 exact bodyPost_ret (v := .agg #[.string ⟨#[45]⟩, .int .i64 0, .nilFunc, .func (.func 155) #[] #[]]) (by simp [results, Tryz.results110, go_sem]) rfl ⟨rfl, rfl⟩
set_option maxHeartbeats 400000 in
theorem row18  (w : World) :
  Calls Tryz.prog 110 #[.int .i64 18] w fun e w' => e = .returned (.agg #[.string ⟨#[33]⟩, .int .i64 0, .nilFunc, .func (.func 156) #[] #[]]) ∧ w.alloc (.cells #[.string ⟨#[33]⟩, .int .i64 0, .nilFunc, .func (.func 156) #[] #[]] 162) = w' := by
 go_enter Tryz.func110, Tryz.ntmps110
 go_wp2
 exact bodyPost_ret (v := .agg #[.string ⟨#[33]⟩, .int .i64 0, .nilFunc, .func (.func 156) #[] #[]]) (by simp [results, Tryz.results110, go_sem]) rfl ⟨rfl, rfl⟩
set_option maxHeartbeats 400000 in
theorem row19  (w : World) :
  Calls Tryz.prog 110 #[.int .i64 19] w fun e w' => e = .returned (.agg #[.string ⟨#[126]⟩, .int .i64 0, .nilFunc, .func (.func 157) #[] #[]]) ∧ w.alloc (.cells #[.string ⟨#[126]⟩, .int .i64 0, .nilFunc, .func (.func 157) #[] #[]] 162) = w' := by
 go_enter Tryz.func110, Tryz.ntmps110
 go_wp2
 exact bodyPost_ret (v := .agg #[.string ⟨#[126]⟩, .int .i64 0, .nilFunc, .func (.func 157) #[] #[]]) (by simp [results, Tryz.results110, go_sem]) rfl ⟨rfl, rfl⟩
def NoOp (op : Int) : Prop := op < 1 ∨ 19 < op
set_option maxHeartbeats 400000 in
theorem row0 (op : Int) (h : NoOp op) (w : World) :
  Calls Tryz.prog 110 #[.int .i64 op] w fun e w' => e = .returned (.agg #[.string ⟨#[]⟩, .int .i64 0, .nilFunc, .nilFunc]) ∧ w.alloc (.cells #[.string ⟨#[]⟩, .int .i64 0, .nilFunc, .nilFunc] 162) = w' := by
 have h1 : (op == 1) = false := by unfold NoOp at h; rw [beq_eq_false_iff_ne]; omega
 have h2 : (op == 2) = false := by unfold NoOp at h; rw [beq_eq_false_iff_ne]; omega
 have h3 : (op == 3) = false := by unfold NoOp at h; rw [beq_eq_false_iff_ne]; omega
 have h4 : (op == 4) = false := by unfold NoOp at h; rw [beq_eq_false_iff_ne]; omega
 have h5 : (op == 5) = false := by unfold NoOp at h; rw [beq_eq_false_iff_ne]; omega
 have h6 : (op == 6) = false := by unfold NoOp at h; rw [beq_eq_false_iff_ne]; omega
 have h7 : (op == 7) = false := by unfold NoOp at h; rw [beq_eq_false_iff_ne]; omega
 have h8 : (op == 8) = false := by unfold NoOp at h; rw [beq_eq_false_iff_ne]; omega
 have h9 : (op == 9) = false := by unfold NoOp at h; rw [beq_eq_false_iff_ne]; omega
 have h10 : (op == 10) = false := by unfold NoOp at h; rw [beq_eq_false_iff_ne]; omega
 have h11 : (op == 11) = false := by unfold NoOp at h; rw [beq_eq_false_iff_ne]; omega
 have h12 : (op == 12) = false := by unfold NoOp at h; rw [beq_eq_false_iff_ne]; omega
 have h13 : (op == 13) = false := by unfold NoOp at h; rw [beq_eq_false_iff_ne]; omega
 have h14 : (op == 14) = false := by unfold NoOp at h; rw [beq_eq_false_iff_ne]; omega
 have h15 : (op == 15) = false := by unfold NoOp at h; rw [beq_eq_false_iff_ne]; omega
 have h16 : (op == 16) = false := by unfold NoOp at h; rw [beq_eq_false_iff_ne]; omega
 have h17 : (op == 17) = false := by unfold NoOp at h; rw [beq_eq_false_iff_ne]; omega
 have h18 : (op == 18) = false := by unfold NoOp at h; rw [beq_eq_false_iff_ne]; omega
 have h19 : (op == 19) = false := by unfold NoOp at h; rw [beq_eq_false_iff_ne]; omega
 clear h
 go_enter Tryz.func110, Tryz.ntmps110
 go_wp2
 exact bodyPost_ret (v := .agg #[.string ⟨#[]⟩, .int .i64 0, .nilFunc, .nilFunc]) (by simp [results, Tryz.results110, go_sem]) rfl ⟨rfl, rfl⟩
set_option maxHeartbeats 400000 in
theorem two1 (a b : Int) (w : World) :
  Calls Tryz.prog 104 #[.int .i64 1, .int .i64 a, .int .i64 b] w fun e w' => e = .returned (.tuple #[.int .i64 (two 1 a b), .bool (twoOk 1 b)]) ∧ Below w.heap.size w w' := by
 cases hb : (b == 0)
 all_goals
  go_enter Tryz.func104, Tryz.ntmps104
  go_wp2_with (first | (go_at_call 110; refine (row1 _).mono ?_; rintro e w' ⟨rfl, rfl⟩) | (go_at_call 149; refine (flag_any _ _).mono ?_; rintro e w' ⟨rfl, rfl⟩) | (go_at_call 141; refine (div_any _ _ _).mono ?_; rintro e w' ⟨rfl, rfl⟩) | (go_at_call 142; refine (rem_any _ _ _).mono ?_; rintro e w' ⟨rfl, rfl⟩) | go_in)
  go_ret2
  exact ⟨ret_ib (by simp [two]) (by simp [twoOk]), below2 _ _ _⟩
set_option maxHeartbeats 400000 in
theorem two2 (a b : Int) (w : World) :
  Calls Tryz.prog 104 #[.int .i64 2, .int .i64 a, .int .i64 b] w fun e w' => e = .returned (.tuple #[.int .i64 (two 2 a b), .bool (twoOk 2 b)]) ∧ Below w.heap.size w w' := by
 cases hb : (b == 0)
 all_goals
  go_enter Tryz.func104, Tryz.ntmps104
  go_wp2_with (first | (go_at_call 110; refine (row2 _).mono ?_; rintro e w' ⟨rfl, rfl⟩) | (go_at_call 149; refine (flag_any _ _).mono ?_; rintro e w' ⟨rfl, rfl⟩) | (go_at_call 141; refine (div_any _ _ _).mono ?_; rintro e w' ⟨rfl, rfl⟩) | (go_at_call 142; refine (rem_any _ _ _).mono ?_; rintro e w' ⟨rfl, rfl⟩) | go_in)
  go_ret2
  exact ⟨ret_ib (by simp [two]) (by simp [twoOk]), below2 _ _ _⟩
set_option maxHeartbeats 400000 in
theorem two3 (a b : Int) (w : World) :
  Calls Tryz.prog 104 #[.int .i64 3, .int .i64 a, .int .i64 b] w fun e w' => e = .returned (.tuple #[.int .i64 (two 3 a b), .bool (twoOk 3 b)]) ∧ Below w.heap.size w w' := by
 cases hb : (b == 0)
 all_goals
  go_enter Tryz.func104, Tryz.ntmps104
  go_wp2_with (first | (go_at_call 110; refine (row3 _).mono ?_; rintro e w' ⟨rfl, rfl⟩) | (go_at_call 149; refine (flag_any _ _).mono ?_; rintro e w' ⟨rfl, rfl⟩) | (go_at_call 141; refine (div_any _ _ _).mono ?_; rintro e w' ⟨rfl, rfl⟩) | (go_at_call 142; refine (rem_any _ _ _).mono ?_; rintro e w' ⟨rfl, rfl⟩) | go_in)
  go_ret2
  exact ⟨ret_ib (by simp [two]) (by simp [twoOk]), below2 _ _ _⟩
set_option maxHeartbeats 400000 in
theorem two4 (a b : Int) (w : World) :
  Calls Tryz.prog 104 #[.int .i64 4, .int .i64 a, .int .i64 b] w fun e w' => e = .returned (.tuple #[.int .i64 (two 4 a b), .bool (twoOk 4 b)]) ∧ Below w.heap.size w w' := by
 cases hb : (b == 0)
 rotate_left
 ·have hb' : b = 0 := by simpa using hb
  have hh := Lib.hid hb'
  clear hb'
  go_enter Tryz.func104, Tryz.ntmps104
  go_wp2_with (first | (go_at_call 110; refine (row4 _).mono ?_; rintro e w' ⟨rfl, rfl⟩) | (go_at_call 149; refine (flag_any _ _).mono ?_; rintro e w' ⟨rfl, rfl⟩) | (go_at_call 141; refine (div_any _ _ _).mono ?_; rintro e w' ⟨rfl, rfl⟩) | (go_at_call 142; refine (rem_any _ _ _).mono ?_; rintro e w' ⟨rfl, rfl⟩) | go_in)
  go_ret2
  exact ⟨ret_ib (by have := hh.out; simp [two, this]) (by have := hh.out; simp [twoOk, this]), below2 _ _ _⟩
 ·have hb' : ¬ b = 0 := by simpa using hb
  have hh := Lib.hid hb'
  clear hb'
  go_enter Tryz.func104, Tryz.ntmps104
  go_wp2_with (first | (go_at_call 110; refine (row4 _).mono ?_; rintro e w' ⟨rfl, rfl⟩) | (go_at_call 149; refine (flag_any _ _).mono ?_; rintro e w' ⟨rfl, rfl⟩) | (go_at_call 141; refine (div_any _ _ _).mono ?_; rintro e w' ⟨rfl, rfl⟩) | (go_at_call 142; refine (rem_any _ _ _).mono ?_; rintro e w' ⟨rfl, rfl⟩) | go_in)
  go_ret2
  exact ⟨ret_ib (by have := hh.out; simp [two, this]) (by have := hh.out; simp [twoOk, this]), below2 _ _ _⟩
set_option maxHeartbeats 400000 in
theorem two5 (a b : Int) (w : World) :
  Calls Tryz.prog 104 #[.int .i64 5, .int .i64 a, .int .i64 b] w fun e w' => e = .returned (.tuple #[.int .i64 (two 5 a b), .bool (twoOk 5 b)]) ∧ Below w.heap.size w w' := by
 cases hb : (b == 0)
 rotate_left
 ·have hb' : b = 0 := by simpa using hb
  have hh := Lib.hid hb'
  clear hb'
  go_enter Tryz.func104, Tryz.ntmps104
  go_wp2_with (first | (go_at_call 110; refine (row5 _).mono ?_; rintro e w' ⟨rfl, rfl⟩) | (go_at_call 149; refine (flag_any _ _).mono ?_; rintro e w' ⟨rfl, rfl⟩) | (go_at_call 141; refine (div_any _ _ _).mono ?_; rintro e w' ⟨rfl, rfl⟩) | (go_at_call 142; refine (rem_any _ _ _).mono ?_; rintro e w' ⟨rfl, rfl⟩) | go_in)
  go_ret2
  exact ⟨ret_ib (by have := hh.out; simp [two, this]) (by have := hh.out; simp [twoOk, this]), below2 _ _ _⟩
 ·have hb' : ¬ b = 0 := by simpa using hb
  have hh := Lib.hid hb'
  clear hb'
  go_enter Tryz.func104, Tryz.ntmps104
  go_wp2_with (first | (go_at_call 110; refine (row5 _).mono ?_; rintro e w' ⟨rfl, rfl⟩) | (go_at_call 149; refine (flag_any _ _).mono ?_; rintro e w' ⟨rfl, rfl⟩) | (go_at_call 141; refine (div_any _ _ _).mono ?_; rintro e w' ⟨rfl, rfl⟩) | (go_at_call 142; refine (rem_any _ _ _).mono ?_; rintro e w' ⟨rfl, rfl⟩) | go_in)
  go_ret2
  exact ⟨ret_ib (by have := hh.out; simp [two, this]) (by have := hh.out; simp [twoOk, this]), below2 _ _ _⟩
set_option maxHeartbeats 400000 in
theorem two6 (a b : Int) (w : World) :
  Calls Tryz.prog 104 #[.int .i64 6, .int .i64 a, .int .i64 b] w fun e w' => e = .returned (.tuple #[.int .i64 (two 6 a b), .bool (twoOk 6 b)]) ∧ Below w.heap.size w w' := by
 cases hb : (b == 0)
 all_goals
  go_enter Tryz.func104, Tryz.ntmps104
  go_wp2_with (first | (go_at_call 110; refine (row6 _).mono ?_; rintro e w' ⟨rfl, rfl⟩) | (go_at_call 149; refine (flag_any _ _).mono ?_; rintro e w' ⟨rfl, rfl⟩) | (go_at_call 141; refine (div_any _ _ _).mono ?_; rintro e w' ⟨rfl, rfl⟩) | (go_at_call 142; refine (rem_any _ _ _).mono ?_; rintro e w' ⟨rfl, rfl⟩) | go_in)
  go_ret2
  exact ⟨ret_ib (by simp [two]) (by simp [twoOk]), below2 _ _ _⟩
set_option maxHeartbeats 400000 in
theorem two7 (a b : Int) (w : World) :
  Calls Tryz.prog 104 #[.int .i64 7, .int .i64 a, .int .i64 b] w fun e w' => e = .returned (.tuple #[.int .i64 (two 7 a b), .bool (twoOk 7 b)]) ∧ Below w.heap.size w w' := by
 cases hb : (b == 0)
 all_goals
  go_enter Tryz.func104, Tryz.ntmps104
  go_wp2_with (first | (go_at_call 110; refine (row7 _).mono ?_; rintro e w' ⟨rfl, rfl⟩) | (go_at_call 149; refine (flag_any _ _).mono ?_; rintro e w' ⟨rfl, rfl⟩) | (go_at_call 141; refine (div_any _ _ _).mono ?_; rintro e w' ⟨rfl, rfl⟩) | (go_at_call 142; refine (rem_any _ _ _).mono ?_; rintro e w' ⟨rfl, rfl⟩) | go_in)
  go_ret2
  exact ⟨ret_ib (by simp [two]) (by simp [twoOk]), below2 _ _ _⟩
set_option maxHeartbeats 400000 in
theorem two8 (a b : Int) (w : World) :
  Calls Tryz.prog 104 #[.int .i64 8, .int .i64 a, .int .i64 b] w fun e w' => e = .returned (.tuple #[.int .i64 (two 8 a b), .bool (twoOk 8 b)]) ∧ Below w.heap.size w w' := by
 cases hb : (b == 0)
 all_goals
  go_enter Tryz.func104, Tryz.ntmps104
  go_wp2_with (first | (go_at_call 110; refine (row8 _).mono ?_; rintro e w' ⟨rfl, rfl⟩) | (go_at_call 149; refine (flag_any _ _).mono ?_; rintro e w' ⟨rfl, rfl⟩) | (go_at_call 141; refine (div_any _ _ _).mono ?_; rintro e w' ⟨rfl, rfl⟩) | (go_at_call 142; refine (rem_any _ _ _).mono ?_; rintro e w' ⟨rfl, rfl⟩) | go_in)
  go_ret2
  exact ⟨ret_ib (by simp [two]) (by simp [twoOk]), below2 _ _ _⟩
set_option maxHeartbeats 400000 in
theorem two9 (a b : Int) (w : World) :
  Calls Tryz.prog 104 #[.int .i64 9, .int .i64 a, .int .i64 b] w fun e w' => e = .returned (.tuple #[.int .i64 (two 9 a b), .bool (twoOk 9 b)]) ∧ Below w.heap.size w w' := by
 have s0 := shn_lo b
 have s1 : bits .and .i64 b 63 ≤ 64 := Int.le_trans (shn_hi b) (by decide)
 cases hb : (b == 0)
 all_goals
  go_enter Tryz.func104, Tryz.ntmps104
  go_wp2_with (first | (go_at_call 110; refine (row9 _).mono ?_; rintro e w' ⟨rfl, rfl⟩) | (go_at_call 149; refine (flag_any _ _).mono ?_; rintro e w' ⟨rfl, rfl⟩) | (go_at_call 141; refine (div_any _ _ _).mono ?_; rintro e w' ⟨rfl, rfl⟩) | (go_at_call 142; refine (rem_any _ _ _).mono ?_; rintro e w' ⟨rfl, rfl⟩) | go_in)
  go_ret2
  exact ⟨ret_ib (by simp [two, shn]) (by simp [twoOk]), below2 _ _ _⟩
set_option maxHeartbeats 400000 in
theorem two10 (a b : Int) (w : World) :
  Calls Tryz.prog 104 #[.int .i64 10, .int .i64 a, .int .i64 b] w fun e w' => e = .returned (.tuple #[.int .i64 (two 10 a b), .bool (twoOk 10 b)]) ∧ Below w.heap.size w w' := by
 have s0 := shn_lo b
 have s1 : bits .and .i64 b 63 ≤ 64 := Int.le_trans (shn_hi b) (by decide)
 cases hb : (b == 0)
 all_goals
  go_enter Tryz.func104, Tryz.ntmps104
  go_wp2_with (first | (go_at_call 110; refine (row10 _).mono ?_; rintro e w' ⟨rfl, rfl⟩) | (go_at_call 149; refine (flag_any _ _).mono ?_; rintro e w' ⟨rfl, rfl⟩) | (go_at_call 141; refine (div_any _ _ _).mono ?_; rintro e w' ⟨rfl, rfl⟩) | (go_at_call 142; refine (rem_any _ _ _).mono ?_; rintro e w' ⟨rfl, rfl⟩) | go_in)
  go_ret2
  exact ⟨ret_ib (by simp [two, shn]) (by simp [twoOk]), below2 _ _ _⟩
set_option maxHeartbeats 400000 in
theorem two11 (a b : Int) (w : World) :
  Calls Tryz.prog 104 #[.int .i64 11, .int .i64 a, .int .i64 b] w fun e w' => e = .returned (.tuple #[.int .i64 (two 11 a b), .bool (twoOk 11 b)]) ∧ Below w.heap.size w w' := by
 cases hb : (b == 0)
 all_goals
  go_enter Tryz.func104, Tryz.ntmps104
  go_wp2_with (first | (go_at_call 110; refine (row11 _).mono ?_; rintro e w' ⟨rfl, rfl⟩) | (go_at_call 149; refine (flag_any _ _).mono ?_; rintro e w' ⟨rfl, rfl⟩) | (go_at_call 141; refine (div_any _ _ _).mono ?_; rintro e w' ⟨rfl, rfl⟩) | (go_at_call 142; refine (rem_any _ _ _).mono ?_; rintro e w' ⟨rfl, rfl⟩) | go_in)
  go_ret2
  exact ⟨ret_ib (by simp [two]) (by simp [twoOk]), below2 _ _ _⟩
set_option maxHeartbeats 400000 in
theorem two12 (a b : Int) (w : World) :
  Calls Tryz.prog 104 #[.int .i64 12, .int .i64 a, .int .i64 b] w fun e w' => e = .returned (.tuple #[.int .i64 (two 12 a b), .bool (twoOk 12 b)]) ∧ Below w.heap.size w w' := by
 cases hb : (b == 0)
 all_goals
  go_enter Tryz.func104, Tryz.ntmps104
  go_wp2_with (first | (go_at_call 110; refine (row12 _).mono ?_; rintro e w' ⟨rfl, rfl⟩) | (go_at_call 149; refine (flag_any _ _).mono ?_; rintro e w' ⟨rfl, rfl⟩) | (go_at_call 141; refine (div_any _ _ _).mono ?_; rintro e w' ⟨rfl, rfl⟩) | (go_at_call 142; refine (rem_any _ _ _).mono ?_; rintro e w' ⟨rfl, rfl⟩) | go_in)
  go_ret2
  exact ⟨ret_ib (by simp [two]) (by simp [twoOk]), below2 _ _ _⟩
set_option maxHeartbeats 400000 in
theorem two13 (a b : Int) (w : World) :
  Calls Tryz.prog 104 #[.int .i64 13, .int .i64 a, .int .i64 b] w fun e w' => e = .returned (.tuple #[.int .i64 (two 13 a b), .bool (twoOk 13 b)]) ∧ Below w.heap.size w w' := by
 cases hb : (b == 0)
 all_goals
  go_enter Tryz.func104, Tryz.ntmps104
  go_wp2_with (first | (go_at_call 110; refine (row13 _).mono ?_; rintro e w' ⟨rfl, rfl⟩) | (go_at_call 149; refine (flag_any _ _).mono ?_; rintro e w' ⟨rfl, rfl⟩) | (go_at_call 141; refine (div_any _ _ _).mono ?_; rintro e w' ⟨rfl, rfl⟩) | (go_at_call 142; refine (rem_any _ _ _).mono ?_; rintro e w' ⟨rfl, rfl⟩) | go_in)
  go_ret2
  exact ⟨ret_ib (by simp [two]) (by simp [twoOk]), below2 _ _ _⟩
set_option maxHeartbeats 400000 in
theorem two14 (a b : Int) (w : World) :
  Calls Tryz.prog 104 #[.int .i64 14, .int .i64 a, .int .i64 b] w fun e w' => e = .returned (.tuple #[.int .i64 (two 14 a b), .bool (twoOk 14 b)]) ∧ Below w.heap.size w w' := by
 cases hb : (b == 0)
 all_goals
  go_enter Tryz.func104, Tryz.ntmps104
  go_wp2_with (first | (go_at_call 110; refine (row14 _).mono ?_; rintro e w' ⟨rfl, rfl⟩) | (go_at_call 149; refine (flag_any _ _).mono ?_; rintro e w' ⟨rfl, rfl⟩) | (go_at_call 141; refine (div_any _ _ _).mono ?_; rintro e w' ⟨rfl, rfl⟩) | (go_at_call 142; refine (rem_any _ _ _).mono ?_; rintro e w' ⟨rfl, rfl⟩) | go_in)
  go_ret2
  exact ⟨ret_ib (by simp [two]) (by simp [twoOk]), below2 _ _ _⟩
set_option maxHeartbeats 400000 in
theorem two15 (a b : Int) (w : World) :
  Calls Tryz.prog 104 #[.int .i64 15, .int .i64 a, .int .i64 b] w fun e w' => e = .returned (.tuple #[.int .i64 (two 15 a b), .bool (twoOk 15 b)]) ∧ Below w.heap.size w w' := by
 cases hb : (b == 0)
 all_goals
  go_enter Tryz.func104, Tryz.ntmps104
  go_wp2_with (first | (go_at_call 110; refine (row15 _).mono ?_; rintro e w' ⟨rfl, rfl⟩) | (go_at_call 149; refine (flag_any _ _).mono ?_; rintro e w' ⟨rfl, rfl⟩) | (go_at_call 141; refine (div_any _ _ _).mono ?_; rintro e w' ⟨rfl, rfl⟩) | (go_at_call 142; refine (rem_any _ _ _).mono ?_; rintro e w' ⟨rfl, rfl⟩) | go_in)
  go_ret2
  exact ⟨ret_ib (by simp [two]) (by simp [twoOk]), below2 _ _ _⟩
set_option maxHeartbeats 400000 in
theorem two16 (a b : Int) (w : World) :
  Calls Tryz.prog 104 #[.int .i64 16, .int .i64 a, .int .i64 b] w fun e w' => e = .returned (.tuple #[.int .i64 (two 16 a b), .bool (twoOk 16 b)]) ∧ Below w.heap.size w w' := by
 cases hb : (b == 0)
 all_goals
  go_enter Tryz.func104, Tryz.ntmps104
  go_wp2_with (first | (go_at_call 110; refine (row16 _).mono ?_; rintro e w' ⟨rfl, rfl⟩) | (go_at_call 149; refine (flag_any _ _).mono ?_; rintro e w' ⟨rfl, rfl⟩) | (go_at_call 141; refine (div_any _ _ _).mono ?_; rintro e w' ⟨rfl, rfl⟩) | (go_at_call 142; refine (rem_any _ _ _).mono ?_; rintro e w' ⟨rfl, rfl⟩) | go_in)
  go_ret2
  exact ⟨ret_ib (by simp [two]) (by simp [twoOk]), below2 _ _ _⟩
set_option maxHeartbeats 400000 in
theorem two17 (a b : Int) (w : World) :
  Calls Tryz.prog 104 #[.int .i64 17, .int .i64 a, .int .i64 b] w fun e w' => e = .returned (.tuple #[.int .i64 (two 17 a b), .bool (twoOk 17 b)]) ∧ Below w.heap.size w w' := by
 go_enter Tryz.func104, Tryz.ntmps104
 go_wp2_with (first | (go_at_call 110; refine (row17 _).mono ?_; rintro e w' ⟨rfl, rfl⟩) | (go_at_call 149; refine (flag_any _ _).mono ?_; rintro e w' ⟨rfl, rfl⟩) | (go_at_call 141; refine (div_any _ _ _).mono ?_; rintro e w' ⟨rfl, rfl⟩) | (go_at_call 142; refine (rem_any _ _ _).mono ?_; rintro e w' ⟨rfl, rfl⟩) | go_in)
 go_ret2
 exact ⟨ret_ib (by simp [two]) (by simp [twoOk]), below2 _ _ _⟩
set_option maxHeartbeats 400000 in
theorem two18 (a b : Int) (w : World) :
  Calls Tryz.prog 104 #[.int .i64 18, .int .i64 a, .int .i64 b] w fun e w' => e = .returned (.tuple #[.int .i64 (two 18 a b), .bool (twoOk 18 b)]) ∧ Below w.heap.size w w' := by
 go_enter Tryz.func104, Tryz.ntmps104
 go_wp2_with (first | (go_at_call 110; refine (row18 _).mono ?_; rintro e w' ⟨rfl, rfl⟩) | (go_at_call 149; refine (flag_any _ _).mono ?_; rintro e w' ⟨rfl, rfl⟩) | (go_at_call 141; refine (div_any _ _ _).mono ?_; rintro e w' ⟨rfl, rfl⟩) | (go_at_call 142; refine (rem_any _ _ _).mono ?_; rintro e w' ⟨rfl, rfl⟩) | go_in)
 go_ret2
 exact ⟨ret_ib (by simp [two]) (by simp [twoOk]), below2 _ _ _⟩
set_option maxHeartbeats 400000 in
theorem two19 (a b : Int) (w : World) :
  Calls Tryz.prog 104 #[.int .i64 19, .int .i64 a, .int .i64 b] w fun e w' => e = .returned (.tuple #[.int .i64 (two 19 a b), .bool (twoOk 19 b)]) ∧ Below w.heap.size w w' := by
 go_enter Tryz.func104, Tryz.ntmps104
 go_wp2_with (first | (go_at_call 110; refine (row19 _).mono ?_; rintro e w' ⟨rfl, rfl⟩) | (go_at_call 149; refine (flag_any _ _).mono ?_; rintro e w' ⟨rfl, rfl⟩) | (go_at_call 141; refine (div_any _ _ _).mono ?_; rintro e w' ⟨rfl, rfl⟩) | (go_at_call 142; refine (rem_any _ _ _).mono ?_; rintro e w' ⟨rfl, rfl⟩) | go_in)
 go_ret2
 exact ⟨ret_ib (by simp [two]) (by simp [twoOk]), below2 _ _ _⟩
set_option maxHeartbeats 400000 in
theorem one1 (a : Int) (w : World) :
  Calls Tryz.prog 103 #[.int .i64 1, .int .i64 a] w fun e w' => e = .returned (.tuple #[.int .i64 (one 1 a), .bool (oneOk 1)]) ∧ Below w.heap.size w w' := by
 go_enter Tryz.func103, Tryz.ntmps103
 go_wp2_with (first | (go_at_call 110; refine (row1 _).mono ?_; rintro e w' ⟨rfl, rfl⟩) | (go_at_call 149; refine (flag_any _ _).mono ?_; rintro e w' ⟨rfl, rfl⟩) | (go_at_call 141; refine (div_any _ _ _).mono ?_; rintro e w' ⟨rfl, rfl⟩) | (go_at_call 142; refine (rem_any _ _ _).mono ?_; rintro e w' ⟨rfl, rfl⟩) | go_in)
 go_ret2
 exact ⟨ret_ib (by simp [one]) (by simp [oneOk]), below2 _ _ _⟩
set_option maxHeartbeats 400000 in
theorem one2 (a : Int) (w : World) :
  Calls Tryz.prog 103 #[.int .i64 2, .int .i64 a] w fun e w' => e = .returned (.tuple #[.int .i64 (one 2 a), .bool (oneOk 2)]) ∧ Below w.heap.size w w' := by
 go_enter Tryz.func103, Tryz.ntmps103
 go_wp2_with (first | (go_at_call 110; refine (row2 _).mono ?_; rintro e w' ⟨rfl, rfl⟩) | (go_at_call 149; refine (flag_any _ _).mono ?_; rintro e w' ⟨rfl, rfl⟩) | (go_at_call 141; refine (div_any _ _ _).mono ?_; rintro e w' ⟨rfl, rfl⟩) | (go_at_call 142; refine (rem_any _ _ _).mono ?_; rintro e w' ⟨rfl, rfl⟩) | go_in)
 go_ret2
 exact ⟨ret_ib (by simp [one]) (by simp [oneOk]), below2 _ _ _⟩
set_option maxHeartbeats 400000 in
theorem one3 (a : Int) (w : World) :
  Calls Tryz.prog 103 #[.int .i64 3, .int .i64 a] w fun e w' => e = .returned (.tuple #[.int .i64 (one 3 a), .bool (oneOk 3)]) ∧ Below w.heap.size w w' := by
 go_enter Tryz.func103, Tryz.ntmps103
 go_wp2_with (first | (go_at_call 110; refine (row3 _).mono ?_; rintro e w' ⟨rfl, rfl⟩) | (go_at_call 149; refine (flag_any _ _).mono ?_; rintro e w' ⟨rfl, rfl⟩) | (go_at_call 141; refine (div_any _ _ _).mono ?_; rintro e w' ⟨rfl, rfl⟩) | (go_at_call 142; refine (rem_any _ _ _).mono ?_; rintro e w' ⟨rfl, rfl⟩) | go_in)
 go_ret2
 exact ⟨ret_ib (by simp [one]) (by simp [oneOk]), below2 _ _ _⟩
set_option maxHeartbeats 400000 in
theorem one4 (a : Int) (w : World) :
  Calls Tryz.prog 103 #[.int .i64 4, .int .i64 a] w fun e w' => e = .returned (.tuple #[.int .i64 (one 4 a), .bool (oneOk 4)]) ∧ Below w.heap.size w w' := by
 go_enter Tryz.func103, Tryz.ntmps103
 go_wp2_with (first | (go_at_call 110; refine (row4 _).mono ?_; rintro e w' ⟨rfl, rfl⟩) | (go_at_call 149; refine (flag_any _ _).mono ?_; rintro e w' ⟨rfl, rfl⟩) | (go_at_call 141; refine (div_any _ _ _).mono ?_; rintro e w' ⟨rfl, rfl⟩) | (go_at_call 142; refine (rem_any _ _ _).mono ?_; rintro e w' ⟨rfl, rfl⟩) | go_in)
 go_ret2
 exact ⟨ret_ib (by simp [one]) (by simp [oneOk]), below2 _ _ _⟩
set_option maxHeartbeats 400000 in
theorem one5 (a : Int) (w : World) :
  Calls Tryz.prog 103 #[.int .i64 5, .int .i64 a] w fun e w' => e = .returned (.tuple #[.int .i64 (one 5 a), .bool (oneOk 5)]) ∧ Below w.heap.size w w' := by
 go_enter Tryz.func103, Tryz.ntmps103
 go_wp2_with (first | (go_at_call 110; refine (row5 _).mono ?_; rintro e w' ⟨rfl, rfl⟩) | (go_at_call 149; refine (flag_any _ _).mono ?_; rintro e w' ⟨rfl, rfl⟩) | (go_at_call 141; refine (div_any _ _ _).mono ?_; rintro e w' ⟨rfl, rfl⟩) | (go_at_call 142; refine (rem_any _ _ _).mono ?_; rintro e w' ⟨rfl, rfl⟩) | go_in)
 go_ret2
 exact ⟨ret_ib (by simp [one]) (by simp [oneOk]), below2 _ _ _⟩
set_option maxHeartbeats 400000 in
theorem one6 (a : Int) (w : World) :
  Calls Tryz.prog 103 #[.int .i64 6, .int .i64 a] w fun e w' => e = .returned (.tuple #[.int .i64 (one 6 a), .bool (oneOk 6)]) ∧ Below w.heap.size w w' := by
 go_enter Tryz.func103, Tryz.ntmps103
 go_wp2_with (first | (go_at_call 110; refine (row6 _).mono ?_; rintro e w' ⟨rfl, rfl⟩) | (go_at_call 149; refine (flag_any _ _).mono ?_; rintro e w' ⟨rfl, rfl⟩) | (go_at_call 141; refine (div_any _ _ _).mono ?_; rintro e w' ⟨rfl, rfl⟩) | (go_at_call 142; refine (rem_any _ _ _).mono ?_; rintro e w' ⟨rfl, rfl⟩) | go_in)
 go_ret2
 exact ⟨ret_ib (by simp [one]) (by simp [oneOk]), below2 _ _ _⟩
set_option maxHeartbeats 400000 in
theorem one7 (a : Int) (w : World) :
  Calls Tryz.prog 103 #[.int .i64 7, .int .i64 a] w fun e w' => e = .returned (.tuple #[.int .i64 (one 7 a), .bool (oneOk 7)]) ∧ Below w.heap.size w w' := by
 go_enter Tryz.func103, Tryz.ntmps103
 go_wp2_with (first | (go_at_call 110; refine (row7 _).mono ?_; rintro e w' ⟨rfl, rfl⟩) | (go_at_call 149; refine (flag_any _ _).mono ?_; rintro e w' ⟨rfl, rfl⟩) | (go_at_call 141; refine (div_any _ _ _).mono ?_; rintro e w' ⟨rfl, rfl⟩) | (go_at_call 142; refine (rem_any _ _ _).mono ?_; rintro e w' ⟨rfl, rfl⟩) | go_in)
 go_ret2
 exact ⟨ret_ib (by simp [one]) (by simp [oneOk]), below2 _ _ _⟩
set_option maxHeartbeats 400000 in
theorem one8 (a : Int) (w : World) :
  Calls Tryz.prog 103 #[.int .i64 8, .int .i64 a] w fun e w' => e = .returned (.tuple #[.int .i64 (one 8 a), .bool (oneOk 8)]) ∧ Below w.heap.size w w' := by
 go_enter Tryz.func103, Tryz.ntmps103
 go_wp2_with (first | (go_at_call 110; refine (row8 _).mono ?_; rintro e w' ⟨rfl, rfl⟩) | (go_at_call 149; refine (flag_any _ _).mono ?_; rintro e w' ⟨rfl, rfl⟩) | (go_at_call 141; refine (div_any _ _ _).mono ?_; rintro e w' ⟨rfl, rfl⟩) | (go_at_call 142; refine (rem_any _ _ _).mono ?_; rintro e w' ⟨rfl, rfl⟩) | go_in)
 go_ret2
 exact ⟨ret_ib (by simp [one]) (by simp [oneOk]), below2 _ _ _⟩
set_option maxHeartbeats 400000 in
theorem one9 (a : Int) (w : World) :
  Calls Tryz.prog 103 #[.int .i64 9, .int .i64 a] w fun e w' => e = .returned (.tuple #[.int .i64 (one 9 a), .bool (oneOk 9)]) ∧ Below w.heap.size w w' := by
 go_enter Tryz.func103, Tryz.ntmps103
 go_wp2_with (first | (go_at_call 110; refine (row9 _).mono ?_; rintro e w' ⟨rfl, rfl⟩) | (go_at_call 149; refine (flag_any _ _).mono ?_; rintro e w' ⟨rfl, rfl⟩) | (go_at_call 141; refine (div_any _ _ _).mono ?_; rintro e w' ⟨rfl, rfl⟩) | (go_at_call 142; refine (rem_any _ _ _).mono ?_; rintro e w' ⟨rfl, rfl⟩) | go_in)
 go_ret2
 exact ⟨ret_ib (by simp [one]) (by simp [oneOk]), below2 _ _ _⟩
set_option maxHeartbeats 400000 in
theorem one10 (a : Int) (w : World) :
  Calls Tryz.prog 103 #[.int .i64 10, .int .i64 a] w fun e w' => e = .returned (.tuple #[.int .i64 (one 10 a), .bool (oneOk 10)]) ∧ Below w.heap.size w w' := by
 go_enter Tryz.func103, Tryz.ntmps103
 go_wp2_with (first | (go_at_call 110; refine (row10 _).mono ?_; rintro e w' ⟨rfl, rfl⟩) | (go_at_call 149; refine (flag_any _ _).mono ?_; rintro e w' ⟨rfl, rfl⟩) | (go_at_call 141; refine (div_any _ _ _).mono ?_; rintro e w' ⟨rfl, rfl⟩) | (go_at_call 142; refine (rem_any _ _ _).mono ?_; rintro e w' ⟨rfl, rfl⟩) | go_in)
 go_ret2
 exact ⟨ret_ib (by simp [one]) (by simp [oneOk]), below2 _ _ _⟩
set_option maxHeartbeats 400000 in
theorem one11 (a : Int) (w : World) :
  Calls Tryz.prog 103 #[.int .i64 11, .int .i64 a] w fun e w' => e = .returned (.tuple #[.int .i64 (one 11 a), .bool (oneOk 11)]) ∧ Below w.heap.size w w' := by
 go_enter Tryz.func103, Tryz.ntmps103
 go_wp2_with (first | (go_at_call 110; refine (row11 _).mono ?_; rintro e w' ⟨rfl, rfl⟩) | (go_at_call 149; refine (flag_any _ _).mono ?_; rintro e w' ⟨rfl, rfl⟩) | (go_at_call 141; refine (div_any _ _ _).mono ?_; rintro e w' ⟨rfl, rfl⟩) | (go_at_call 142; refine (rem_any _ _ _).mono ?_; rintro e w' ⟨rfl, rfl⟩) | go_in)
 go_ret2
 exact ⟨ret_ib (by simp [one]) (by simp [oneOk]), below2 _ _ _⟩
set_option maxHeartbeats 400000 in
theorem one12 (a : Int) (w : World) :
  Calls Tryz.prog 103 #[.int .i64 12, .int .i64 a] w fun e w' => e = .returned (.tuple #[.int .i64 (one 12 a), .bool (oneOk 12)]) ∧ Below w.heap.size w w' := by
 go_enter Tryz.func103, Tryz.ntmps103
 go_wp2_with (first | (go_at_call 110; refine (row12 _).mono ?_; rintro e w' ⟨rfl, rfl⟩) | (go_at_call 149; refine (flag_any _ _).mono ?_; rintro e w' ⟨rfl, rfl⟩) | (go_at_call 141; refine (div_any _ _ _).mono ?_; rintro e w' ⟨rfl, rfl⟩) | (go_at_call 142; refine (rem_any _ _ _).mono ?_; rintro e w' ⟨rfl, rfl⟩) | go_in)
 go_ret2
 exact ⟨ret_ib (by simp [one]) (by simp [oneOk]), below2 _ _ _⟩
set_option maxHeartbeats 400000 in
theorem one13 (a : Int) (w : World) :
  Calls Tryz.prog 103 #[.int .i64 13, .int .i64 a] w fun e w' => e = .returned (.tuple #[.int .i64 (one 13 a), .bool (oneOk 13)]) ∧ Below w.heap.size w w' := by
 go_enter Tryz.func103, Tryz.ntmps103
 go_wp2_with (first | (go_at_call 110; refine (row13 _).mono ?_; rintro e w' ⟨rfl, rfl⟩) | (go_at_call 149; refine (flag_any _ _).mono ?_; rintro e w' ⟨rfl, rfl⟩) | (go_at_call 141; refine (div_any _ _ _).mono ?_; rintro e w' ⟨rfl, rfl⟩) | (go_at_call 142; refine (rem_any _ _ _).mono ?_; rintro e w' ⟨rfl, rfl⟩) | go_in)
 go_ret2
 exact ⟨ret_ib (by simp [one]) (by simp [oneOk]), below2 _ _ _⟩
set_option maxHeartbeats 400000 in
theorem one14 (a : Int) (w : World) :
  Calls Tryz.prog 103 #[.int .i64 14, .int .i64 a] w fun e w' => e = .returned (.tuple #[.int .i64 (one 14 a), .bool (oneOk 14)]) ∧ Below w.heap.size w w' := by
 go_enter Tryz.func103, Tryz.ntmps103
 go_wp2_with (first | (go_at_call 110; refine (row14 _).mono ?_; rintro e w' ⟨rfl, rfl⟩) | (go_at_call 149; refine (flag_any _ _).mono ?_; rintro e w' ⟨rfl, rfl⟩) | (go_at_call 141; refine (div_any _ _ _).mono ?_; rintro e w' ⟨rfl, rfl⟩) | (go_at_call 142; refine (rem_any _ _ _).mono ?_; rintro e w' ⟨rfl, rfl⟩) | go_in)
 go_ret2
 exact ⟨ret_ib (by simp [one]) (by simp [oneOk]), below2 _ _ _⟩
set_option maxHeartbeats 400000 in
theorem one15 (a : Int) (w : World) :
  Calls Tryz.prog 103 #[.int .i64 15, .int .i64 a] w fun e w' => e = .returned (.tuple #[.int .i64 (one 15 a), .bool (oneOk 15)]) ∧ Below w.heap.size w w' := by
 go_enter Tryz.func103, Tryz.ntmps103
 go_wp2_with (first | (go_at_call 110; refine (row15 _).mono ?_; rintro e w' ⟨rfl, rfl⟩) | (go_at_call 149; refine (flag_any _ _).mono ?_; rintro e w' ⟨rfl, rfl⟩) | (go_at_call 141; refine (div_any _ _ _).mono ?_; rintro e w' ⟨rfl, rfl⟩) | (go_at_call 142; refine (rem_any _ _ _).mono ?_; rintro e w' ⟨rfl, rfl⟩) | go_in)
 go_ret2
 exact ⟨ret_ib (by simp [one]) (by simp [oneOk]), below2 _ _ _⟩
set_option maxHeartbeats 400000 in
theorem one16 (a : Int) (w : World) :
  Calls Tryz.prog 103 #[.int .i64 16, .int .i64 a] w fun e w' => e = .returned (.tuple #[.int .i64 (one 16 a), .bool (oneOk 16)]) ∧ Below w.heap.size w w' := by
 go_enter Tryz.func103, Tryz.ntmps103
 go_wp2_with (first | (go_at_call 110; refine (row16 _).mono ?_; rintro e w' ⟨rfl, rfl⟩) | (go_at_call 149; refine (flag_any _ _).mono ?_; rintro e w' ⟨rfl, rfl⟩) | (go_at_call 141; refine (div_any _ _ _).mono ?_; rintro e w' ⟨rfl, rfl⟩) | (go_at_call 142; refine (rem_any _ _ _).mono ?_; rintro e w' ⟨rfl, rfl⟩) | go_in)
 go_ret2
 exact ⟨ret_ib (by simp [one]) (by simp [oneOk]), below2 _ _ _⟩
set_option maxHeartbeats 400000 in
theorem one17 (a : Int) (w : World) :
  Calls Tryz.prog 103 #[.int .i64 17, .int .i64 a] w fun e w' => e = .returned (.tuple #[.int .i64 (one 17 a), .bool (oneOk 17)]) ∧ Below w.heap.size w w' := by
 go_enter Tryz.func103, Tryz.ntmps103
 go_wp2_with (first | (go_at_call 110; refine (row17 _).mono ?_; rintro e w' ⟨rfl, rfl⟩) | (go_at_call 149; refine (flag_any _ _).mono ?_; rintro e w' ⟨rfl, rfl⟩) | (go_at_call 141; refine (div_any _ _ _).mono ?_; rintro e w' ⟨rfl, rfl⟩) | (go_at_call 142; refine (rem_any _ _ _).mono ?_; rintro e w' ⟨rfl, rfl⟩) | go_in)
 go_ret2
 exact ⟨ret_ib (by simp [one]) (by simp [oneOk]), below2 _ _ _⟩
set_option maxHeartbeats 400000 in
theorem one18 (a : Int) (w : World) :
  Calls Tryz.prog 103 #[.int .i64 18, .int .i64 a] w fun e w' => e = .returned (.tuple #[.int .i64 (one 18 a), .bool (oneOk 18)]) ∧ Below w.heap.size w w' := by
 go_enter Tryz.func103, Tryz.ntmps103
 go_wp2_with (first | (go_at_call 110; refine (row18 _).mono ?_; rintro e w' ⟨rfl, rfl⟩) | (go_at_call 149; refine (flag_any _ _).mono ?_; rintro e w' ⟨rfl, rfl⟩) | (go_at_call 141; refine (div_any _ _ _).mono ?_; rintro e w' ⟨rfl, rfl⟩) | (go_at_call 142; refine (rem_any _ _ _).mono ?_; rintro e w' ⟨rfl, rfl⟩) | go_in)
 go_ret2
 exact ⟨ret_ib (by simp [one]) (by simp [oneOk]), below2 _ _ _⟩
set_option maxHeartbeats 400000 in
theorem one19 (a : Int) (w : World) :
  Calls Tryz.prog 103 #[.int .i64 19, .int .i64 a] w fun e w' => e = .returned (.tuple #[.int .i64 (one 19 a), .bool (oneOk 19)]) ∧ Below w.heap.size w w' := by
 go_enter Tryz.func103, Tryz.ntmps103
 go_wp2_with (first | (go_at_call 110; refine (row19 _).mono ?_; rintro e w' ⟨rfl, rfl⟩) | (go_at_call 149; refine (flag_any _ _).mono ?_; rintro e w' ⟨rfl, rfl⟩) | (go_at_call 141; refine (div_any _ _ _).mono ?_; rintro e w' ⟨rfl, rfl⟩) | (go_at_call 142; refine (rem_any _ _ _).mono ?_; rintro e w' ⟨rfl, rfl⟩) | go_in)
 go_ret2
 exact ⟨ret_ib (by simp [one]) (by simp [oneOk]), below2 _ _ _⟩
end Go.Proofs.YtkpigkopjfkepaaGreatDoor.Ar
namespace Go.Proofs.YtkpigkopjfkepaaGreatDoor.Ar
open Go.RowKit
attribute [local go_sem] eq_func1 eq_func2 eq_nil1 eq_nil2
theorem op_cases (op : Int) : NoOp op ∨ op = 1 ∨ op = 2 ∨ op = 3 ∨ op = 4 ∨ op = 5 ∨ op = 6 ∨ op = 7 ∨ op = 8 ∨ op = 9 ∨ op = 10 ∨ op = 11 ∨ op = 12 ∨ op = 13 ∨ op = 14 ∨ op = 15 ∨ op = 16 ∨ op = 17 ∨ op = 18 ∨ op = 19 := by
 unfold NoOp; omega
theorem two_no {op a b : Int} (h : NoOp op) : two op a b = 0 := by
 unfold NoOp at h; unfold two
 repeat rw [if_neg (by omega)]
theorem twoOk_no {op b : Int} (h : NoOp op) : twoOk op b = false := by
 unfold NoOp at h
 have : ¬ (1 ≤ op ∧ op ≤ 16) := by omega
 simp [twoOk, this]
theorem one_no {op a : Int} (h : NoOp op) : one op a = 0 := by
 unfold NoOp at h; unfold one
 repeat rw [if_neg (by omega)]
theorem oneOk_no {op : Int} (h : NoOp op) : oneOk op = false := by
 unfold NoOp at h
 have : ¬ (17 ≤ op ∧ op ≤ 19) := by omega
 simp [oneOk, this]
theorem lvl_no {op : Int} (h : NoOp op) : lvl op = 0 := by
 unfold NoOp at h; unfold lvl
 rw [if_pos (by omega)]
theorem fieldrow0 (a b c d : Value) (w : World) : (Instr.field 162 (.agg #[a, b, c, d]) 0).run Tryz.prog w = .ok a w := by kernel_rfl
theorem fieldrow1 (a b c d : Value) (w : World) : (Instr.field 162 (.agg #[a, b, c, d]) 1).run Tryz.prog w = .ok b w := by kernel_rfl
attribute [local go_sem] fieldrow0 fieldrow1
set_option maxHeartbeats 400000 in
theorem two0 (op a b : Int) (h : NoOp op) (w : World) :
  Calls Tryz.prog 104 #[.int .i64 op, .int .i64 a, .int .i64 b] w fun e w' => e = .returned (.tuple #[.int .i64 (two op a b), .bool (twoOk op b)]) ∧ Below w.heap.size w w' := by
 have h1 : (op == 1) = false := by unfold NoOp at h; rw [beq_eq_false_iff_ne]; omega
 have h2 : (op == 2) = false := by unfold NoOp at h; rw [beq_eq_false_iff_ne]; omega
 have h3 : (op == 3) = false := by unfold NoOp at h; rw [beq_eq_false_iff_ne]; omega
 have h4 : (op == 4) = false := by unfold NoOp at h; rw [beq_eq_false_iff_ne]; omega
 have h5 : (op == 5) = false := by unfold NoOp at h; rw [beq_eq_false_iff_ne]; omega
 have h6 : (op == 6) = false := by unfold NoOp at h; rw [beq_eq_false_iff_ne]; omega
 have h7 : (op == 7) = false := by unfold NoOp at h; rw [beq_eq_false_iff_ne]; omega
 have h8 : (op == 8) = false := by unfold NoOp at h; rw [beq_eq_false_iff_ne]; omega
 have h9 : (op == 9) = false := by unfold NoOp at h; rw [beq_eq_false_iff_ne]; omega
 have h10 : (op == 10) = false := by unfold NoOp at h; rw [beq_eq_false_iff_ne]; omega
 have h11 : (op == 11) = false := by unfold NoOp at h; rw [beq_eq_false_iff_ne]; omega
 have h12 : (op == 12) = false := by unfold NoOp at h; rw [beq_eq_false_iff_ne]; omega
 have h13 : (op == 13) = false := by unfold NoOp at h; rw [beq_eq_false_iff_ne]; omega
 have h14 : (op == 14) = false := by unfold NoOp at h; rw [beq_eq_false_iff_ne]; omega
 have h15 : (op == 15) = false := by unfold NoOp at h; rw [beq_eq_false_iff_ne]; omega
 have h16 : (op == 16) = false := by unfold NoOp at h; rw [beq_eq_false_iff_ne]; omega
 have h17 : (op == 17) = false := by unfold NoOp at h; rw [beq_eq_false_iff_ne]; omega
 have h18 : (op == 18) = false := by unfold NoOp at h; rw [beq_eq_false_iff_ne]; omega
 have h19 : (op == 19) = false := by unfold NoOp at h; rw [beq_eq_false_iff_ne]; omega
 have H := Lib.hid h
 clear h
 go_enter Tryz.func104, Tryz.ntmps104
 go_wp2_with (first | (go_at_call 110; refine (row0 _ H.out _).mono ?_; rintro e w' ⟨rfl, rfl⟩) | go_in)
 go_ret2
 exact ⟨ret_ib (two_no H.out).symm (twoOk_no H.out).symm, below2 _ _ _⟩
set_option maxHeartbeats 400000 in
theorem one0 (op a : Int) (h : NoOp op) (w : World) :
  Calls Tryz.prog 103 #[.int .i64 op, .int .i64 a] w fun e w' => e = .returned (.tuple #[.int .i64 (one op a), .bool (oneOk op)]) ∧ Below w.heap.size w w' := by
 have h1 : (op == 1) = false := by unfold NoOp at h; rw [beq_eq_false_iff_ne]; omega
 have h2 : (op == 2) = false := by unfold NoOp at h; rw [beq_eq_false_iff_ne]; omega
 have h3 : (op == 3) = false := by unfold NoOp at h; rw [beq_eq_false_iff_ne]; omega
 have h4 : (op == 4) = false := by unfold NoOp at h; rw [beq_eq_false_iff_ne]; omega
 have h5 : (op == 5) = false := by unfold NoOp at h; rw [beq_eq_false_iff_ne]; omega
 have h6 : (op == 6) = false := by unfold NoOp at h; rw [beq_eq_false_iff_ne]; omega
 have h7 : (op == 7) = false := by unfold NoOp at h; rw [beq_eq_false_iff_ne]; omega
 have h8 : (op == 8) = false := by unfold NoOp at h; rw [beq_eq_false_iff_ne]; omega
 have h9 : (op == 9) = false := by unfold NoOp at h; rw [beq_eq_false_iff_ne]; omega
 have h10 : (op == 10) = false := by unfold NoOp at h; rw [beq_eq_false_iff_ne]; omega
 have h11 : (op == 11) = false := by unfold NoOp at h; rw [beq_eq_false_iff_ne]; omega
 have h12 : (op == 12) = false := by unfold NoOp at h; rw [beq_eq_false_iff_ne]; omega
 have h13 : (op == 13) = false := by unfold NoOp at h; rw [beq_eq_false_iff_ne]; omega
 have h14 : (op == 14) = false := by unfold NoOp at h; rw [beq_eq_false_iff_ne]; omega
 have h15 : (op == 15) = false := by unfold NoOp at h; rw [beq_eq_false_iff_ne]; omega
 have h16 : (op == 16) = false := by unfold NoOp at h; rw [beq_eq_false_iff_ne]; omega
 have h17 : (op == 17) = false := by unfold NoOp at h; rw [beq_eq_false_iff_ne]; omega
 have h18 : (op == 18) = false := by unfold NoOp at h; rw [beq_eq_false_iff_ne]; omega
 have h19 : (op == 19) = false := by unfold NoOp at h; rw [beq_eq_false_iff_ne]; omega
 have H := Lib.hid h
 clear h
 go_enter Tryz.func103, Tryz.ntmps103
 go_wp2_with (first | (go_at_call 110; refine (row0 _ H.out _).mono ?_; rintro e w' ⟨rfl, rfl⟩) | go_in)
 go_ret2
 exact ⟨ret_ib (one_no H.out).symm (oneOk_no H.out).symm, below2 _ _ _⟩
theorem two_any (op a b : Int) (w : World) :
  Calls Tryz.prog 104 #[.int .i64 op, .int .i64 a, .int .i64 b] w fun e w' => e = .returned (.tuple #[.int .i64 (two op a b), .bool (twoOk op b)]) ∧ Below w.heap.size w w' := by
 rcases op_cases op with h | h | h | h | h | h | h | h | h | h | h | h | h | h | h | h | h | h | h | h
 ·exact two0 op a b h w
 ·subst h; exact two1 a b w
 ·subst h; exact two2 a b w
 ·subst h; exact two3 a b w
 ·subst h; exact two4 a b w
 ·subst h; exact two5 a b w
 ·subst h; exact two6 a b w
 ·subst h; exact two7 a b w
 ·subst h; exact two8 a b w
 ·subst h; exact two9 a b w
 ·subst h; exact two10 a b w
 ·subst h; exact two11 a b w
 ·subst h; exact two12 a b w
 ·subst h; exact two13 a b w
 ·subst h; exact two14 a b w
 ·subst h; exact two15 a b w
 ·subst h; exact two16 a b w
 ·subst h; exact two17 a b w
 ·subst h; exact two18 a b w
 ·subst h; exact two19 a b w
theorem one_any (op a : Int) (w : World) :
  Calls Tryz.prog 103 #[.int .i64 op, .int .i64 a] w fun e w' => e = .returned (.tuple #[.int .i64 (one op a), .bool (oneOk op)]) ∧ Below w.heap.size w w' := by
 rcases op_cases op with h | h | h | h | h | h | h | h | h | h | h | h | h | h | h | h | h | h | h | h
 ·exact one0 op a h w
 ·subst h; exact one1 a w
 ·subst h; exact one2 a w
 ·subst h; exact one3 a w
 ·subst h; exact one4 a w
 ·subst h; exact one5 a w
 ·subst h; exact one6 a w
 ·subst h; exact one7 a w
 ·subst h; exact one8 a w
 ·subst h; exact one9 a w
 ·subst h; exact one10 a w
 ·subst h; exact one11 a w
 ·subst h; exact one12 a w
 ·subst h; exact one13 a w
 ·subst h; exact one14 a w
 ·subst h; exact one15 a w
 ·subst h; exact one16 a w
 ·subst h; exact one17 a w
 ·subst h; exact one18 a w
 ·subst h; exact one19 a w
set_option maxHeartbeats 400000 in
theorem level1  (w : World) :
  Calls Tryz.prog 131 #[.int .i64 1] w fun e w' => e = .returned (.int .i64 (lvl 1)) ∧ Below w.heap.size w w' := by
 go_enter Tryz.func131, Tryz.ntmps131
 go_wp2_with (first | (go_at_call 110; refine (row1 _).mono ?_; rintro e w' ⟨rfl, rfl⟩) | go_in)
 go_ret
 exact ⟨ret_int (by simp [lvl]), (Below.refl _ _).alloc (Nat.le_refl _) _⟩
set_option maxHeartbeats 400000 in
theorem level2  (w : World) :
  Calls Tryz.prog 131 #[.int .i64 2] w fun e w' => e = .returned (.int .i64 (lvl 2)) ∧ Below w.heap.size w w' := by
 go_enter Tryz.func131, Tryz.ntmps131
 go_wp2_with (first | (go_at_call 110; refine (row2 _).mono ?_; rintro e w' ⟨rfl, rfl⟩) | go_in)
 go_ret
 exact ⟨ret_int (by simp [lvl]), (Below.refl _ _).alloc (Nat.le_refl _) _⟩
set_option maxHeartbeats 400000 in
theorem level3  (w : World) :
  Calls Tryz.prog 131 #[.int .i64 3] w fun e w' => e = .returned (.int .i64 (lvl 3)) ∧ Below w.heap.size w w' := by
 go_enter Tryz.func131, Tryz.ntmps131
 go_wp2_with (first | (go_at_call 110; refine (row3 _).mono ?_; rintro e w' ⟨rfl, rfl⟩) | go_in)
 go_ret
 exact ⟨ret_int (by simp [lvl]), (Below.refl _ _).alloc (Nat.le_refl _) _⟩
set_option maxHeartbeats 400000 in
theorem level4  (w : World) :
  Calls Tryz.prog 131 #[.int .i64 4] w fun e w' => e = .returned (.int .i64 (lvl 4)) ∧ Below w.heap.size w w' := by
 go_enter Tryz.func131, Tryz.ntmps131
 go_wp2_with (first | (go_at_call 110; refine (row4 _).mono ?_; rintro e w' ⟨rfl, rfl⟩) | go_in)
 go_ret
 exact ⟨ret_int (by simp [lvl]), (Below.refl _ _).alloc (Nat.le_refl _) _⟩
set_option maxHeartbeats 400000 in
theorem level5  (w : World) :
  Calls Tryz.prog 131 #[.int .i64 5] w fun e w' => e = .returned (.int .i64 (lvl 5)) ∧ Below w.heap.size w w' := by
 go_enter Tryz.func131, Tryz.ntmps131
 go_wp2_with (first | (go_at_call 110; refine (row5 _).mono ?_; rintro e w' ⟨rfl, rfl⟩) | go_in)
 go_ret
 exact ⟨ret_int (by simp [lvl]), (Below.refl _ _).alloc (Nat.le_refl _) _⟩
set_option maxHeartbeats 400000 in
theorem level6  (w : World) :
  Calls Tryz.prog 131 #[.int .i64 6] w fun e w' => e = .returned (.int .i64 (lvl 6)) ∧ Below w.heap.size w w' := by
 go_enter Tryz.func131, Tryz.ntmps131
 go_wp2_with (first | (go_at_call 110; refine (row6 _).mono ?_; rintro e w' ⟨rfl, rfl⟩) | go_in)
 go_ret
 exact ⟨ret_int (by simp [lvl]), (Below.refl _ _).alloc (Nat.le_refl _) _⟩
set_option maxHeartbeats 400000 in
theorem level7  (w : World) :
  Calls Tryz.prog 131 #[.int .i64 7] w fun e w' => e = .returned (.int .i64 (lvl 7)) ∧ Below w.heap.size w w' := by
 go_enter Tryz.func131, Tryz.ntmps131
 go_wp2_with (first | (go_at_call 110; refine (row7 _).mono ?_; rintro e w' ⟨rfl, rfl⟩) | go_in)
 go_ret
 exact ⟨ret_int (by simp [lvl]), (Below.refl _ _).alloc (Nat.le_refl _) _⟩
set_option maxHeartbeats 400000 in
theorem level8  (w : World) :
  Calls Tryz.prog 131 #[.int .i64 8] w fun e w' => e = .returned (.int .i64 (lvl 8)) ∧ Below w.heap.size w w' := by
 go_enter Tryz.func131, Tryz.ntmps131
 go_wp2_with (first | (go_at_call 110; refine (row8 _).mono ?_; rintro e w' ⟨rfl, rfl⟩) | go_in)
 go_ret
 exact ⟨ret_int (by simp [lvl]), (Below.refl _ _).alloc (Nat.le_refl _) _⟩
set_option maxHeartbeats 400000 in
theorem level9  (w : World) :
  Calls Tryz.prog 131 #[.int .i64 9] w fun e w' => e = .returned (.int .i64 (lvl 9)) ∧ Below w.heap.size w w' := by
 go_enter Tryz.func131, Tryz.ntmps131
 go_wp2_with (first | (go_at_call 110; refine (row9 _).mono ?_; rintro e w' ⟨rfl, rfl⟩) | go_in)
 go_ret
 exact ⟨ret_int (by simp [lvl]), (Below.refl _ _).alloc (Nat.le_refl _) _⟩
set_option maxHeartbeats 400000 in
theorem level10  (w : World) :
  Calls Tryz.prog 131 #[.int .i64 10] w fun e w' => e = .returned (.int .i64 (lvl 10)) ∧ Below w.heap.size w w' := by
 go_enter Tryz.func131, Tryz.ntmps131
 go_wp2_with (first | (go_at_call 110; refine (row10 _).mono ?_; rintro e w' ⟨rfl, rfl⟩) | go_in)
 go_ret
 exact ⟨ret_int (by simp [lvl]), (Below.refl _ _).alloc (Nat.le_refl _) _⟩
set_option maxHeartbeats 400000 in
theorem level11  (w : World) :
  Calls Tryz.prog 131 #[.int .i64 11] w fun e w' => e = .returned (.int .i64 (lvl 11)) ∧ Below w.heap.size w w' := by
 go_enter Tryz.func131, Tryz.ntmps131
 go_wp2_with (first | (go_at_call 110; refine (row11 _).mono ?_; rintro e w' ⟨rfl, rfl⟩) | go_in)
 go_ret
 exact ⟨ret_int (by simp [lvl]), (Below.refl _ _).alloc (Nat.le_refl _) _⟩
set_option maxHeartbeats 400000 in
theorem level12  (w : World) :
  Calls Tryz.prog 131 #[.int .i64 12] w fun e w' => e = .returned (.int .i64 (lvl 12)) ∧ Below w.heap.size w w' := by
 go_enter Tryz.func131, Tryz.ntmps131
 go_wp2_with (first | (go_at_call 110; refine (row12 _).mono ?_; rintro e w' ⟨rfl, rfl⟩) | go_in)
 go_ret
 exact ⟨ret_int (by simp [lvl]), (Below.refl _ _).alloc (Nat.le_refl _) _⟩
set_option maxHeartbeats 400000 in
theorem level13  (w : World) :
  Calls Tryz.prog 131 #[.int .i64 13] w fun e w' => e = .returned (.int .i64 (lvl 13)) ∧ Below w.heap.size w w' := by
 go_enter Tryz.func131, Tryz.ntmps131
 go_wp2_with (first | (go_at_call 110; refine (row13 _).mono ?_; rintro e w' ⟨rfl, rfl⟩) | go_in)
 go_ret
 exact ⟨ret_int (by simp [lvl]), (Below.refl _ _).alloc (Nat.le_refl _) _⟩
set_option maxHeartbeats 400000 in
theorem level14  (w : World) :
  Calls Tryz.prog 131 #[.int .i64 14] w fun e w' => e = .returned (.int .i64 (lvl 14)) ∧ Below w.heap.size w w' := by
 go_enter Tryz.func131, Tryz.ntmps131
 go_wp2_with (first | (go_at_call 110; refine (row14 _).mono ?_; rintro e w' ⟨rfl, rfl⟩) | go_in)
 go_ret
 exact ⟨ret_int (by simp [lvl]), (Below.refl _ _).alloc (Nat.le_refl _) _⟩
set_option maxHeartbeats 400000 in
theorem level15  (w : World) :
  Calls Tryz.prog 131 #[.int .i64 15] w fun e w' => e = .returned (.int .i64 (lvl 15)) ∧ Below w.heap.size w w' := by
 go_enter Tryz.func131, Tryz.ntmps131
 go_wp2_with (first | (go_at_call 110; refine (row15 _).mono ?_; rintro e w' ⟨rfl, rfl⟩) | go_in)
 go_ret
 exact ⟨ret_int (by simp [lvl]), (Below.refl _ _).alloc (Nat.le_refl _) _⟩
set_option maxHeartbeats 400000 in
theorem level16  (w : World) :
  Calls Tryz.prog 131 #[.int .i64 16] w fun e w' => e = .returned (.int .i64 (lvl 16)) ∧ Below w.heap.size w w' := by
 go_enter Tryz.func131, Tryz.ntmps131
 go_wp2_with (first | (go_at_call 110; refine (row16 _).mono ?_; rintro e w' ⟨rfl, rfl⟩) | go_in)
 go_ret
 exact ⟨ret_int (by simp [lvl]), (Below.refl _ _).alloc (Nat.le_refl _) _⟩
set_option maxHeartbeats 400000 in
theorem level17  (w : World) :
  Calls Tryz.prog 131 #[.int .i64 17] w fun e w' => e = .returned (.int .i64 (lvl 17)) ∧ Below w.heap.size w w' := by
 go_enter Tryz.func131, Tryz.ntmps131
 go_wp2_with (first | (go_at_call 110; refine (row17 _).mono ?_; rintro e w' ⟨rfl, rfl⟩) | go_in)
 go_ret
 exact ⟨ret_int (by simp [lvl]), (Below.refl _ _).alloc (Nat.le_refl _) _⟩
set_option maxHeartbeats 400000 in
theorem level18  (w : World) :
  Calls Tryz.prog 131 #[.int .i64 18] w fun e w' => e = .returned (.int .i64 (lvl 18)) ∧ Below w.heap.size w w' := by
 go_enter Tryz.func131, Tryz.ntmps131
 go_wp2_with (first | (go_at_call 110; refine (row18 _).mono ?_; rintro e w' ⟨rfl, rfl⟩) | go_in)
 go_ret
 exact ⟨ret_int (by simp [lvl]), (Below.refl _ _).alloc (Nat.le_refl _) _⟩
set_option maxHeartbeats 400000 in
theorem level19  (w : World) :
  Calls Tryz.prog 131 #[.int .i64 19] w fun e w' => e = .returned (.int .i64 (lvl 19)) ∧ Below w.heap.size w w' := by
 go_enter Tryz.func131, Tryz.ntmps131
 go_wp2_with (first | (go_at_call 110; refine (row19 _).mono ?_; rintro e w' ⟨rfl, rfl⟩) | go_in)
 go_ret
 exact ⟨ret_int (by simp [lvl]), (Below.refl _ _).alloc (Nat.le_refl _) _⟩
set_option maxHeartbeats 400000 in
theorem level0 (op : Int) (h : NoOp op) (w : World) :
  Calls Tryz.prog 131 #[.int .i64 op] w fun e w' => e = .returned (.int .i64 (lvl op)) ∧ Below w.heap.size w w' := by
 have H := Lib.hid h
 clear h
 go_enter Tryz.func131, Tryz.ntmps131
 go_wp2_with (first | (go_at_call 110; refine (row0 _ H.out _).mono ?_; rintro e w' ⟨rfl, rfl⟩) | go_in)
 go_ret
 exact ⟨ret_int (lvl_no H.out).symm, (Below.refl _ _).alloc (Nat.le_refl _) _⟩
theorem level_any (op : Int) (w : World) :
  Calls Tryz.prog 131 #[.int .i64 op] w fun e w' => e = .returned (.int .i64 (lvl op)) ∧ Below w.heap.size w w' := by
 rcases op_cases op with h | h | h | h | h | h | h | h | h | h | h | h | h | h | h | h | h | h | h | h
 ·exact level0 op h w
 ·subst h; exact level1  w
 ·subst h; exact level2  w
 ·subst h; exact level3  w
 ·subst h; exact level4  w
 ·subst h; exact level5  w
 ·subst h; exact level6  w
 ·subst h; exact level7  w
 ·subst h; exact level8  w
 ·subst h; exact level9  w
 ·subst h; exact level10  w
 ·subst h; exact level11  w
 ·subst h; exact level12  w
 ·subst h; exact level13  w
 ·subst h; exact level14  w
 ·subst h; exact level15  w
 ·subst h; exact level16  w
 ·subst h; exact level17  w
 ·subst h; exact level18  w
 ·subst h; exact level19  w
end Go.Proofs.YtkpigkopjfkepaaGreatDoor.Ar
