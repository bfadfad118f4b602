/- What the functions of arith (layer 1) and of its reference do, at any operator: one contract a function. -/
import Derived.Test.YtnpnhdmfdhnmfaaGreatDoorArW
namespace Go.Proofs.YtnpnhdmfdhnmfaaGreatDoor.Ar
open Go.RowKit
attribute [local go_sem] eq_func1 eq_func2 eq_nil1 eq_nil2

theorem op_cases (op : Int) : NoOp op ∨ op = 1 ∨ op = 2 ∨ op = 3 ∨ op = 4 ∨ op = 5 ∨ op = 6 ∨ op = 7 ∨ op = 8 ∨ op = 9 ∨ op = 10 ∨ op = 11 ∨ op = 12 ∨ op = 13 ∨ op = 14 ∨ op = 15 ∨ op = 16 ∨ op = 17 ∨ op = 18 ∨ op = 19 := by
  unfold NoOp; omega
theorem two_no {op a b : Int} (h : NoOp op) : two op a b = 0 := by
  unfold NoOp at h; unfold two
  repeat rw [if_neg (by omega)]
theorem twoOk_no {op b : Int} (h : NoOp op) : twoOk op b = false := by
  unfold NoOp at h
  have : ¬ (1 ≤ op ∧ op ≤ 16) := by omega
  simp [twoOk, this]
theorem one_no {op a : Int} (h : NoOp op) : one op a = 0 := by
  unfold NoOp at h; unfold one
  repeat rw [if_neg (by omega)]
theorem oneOk_no {op : Int} (h : NoOp op) : oneOk op = false := by
  unfold NoOp at h
  have : ¬ (17 ≤ op ∧ op ≤ 19) := by omega
  simp [oneOk, this]
theorem sgn_no {op : Int} (h : NoOp op) : sgn op = ⟨#[]⟩ := by
  unfold NoOp at h; unfold sgn
  repeat rw [if_neg (by omega)]
theorem lvl_no {op : Int} (h : NoOp op) : lvl op = 0 := by
  unfold NoOp at h; unfold lvl
  rw [if_pos (by omega)]
def sgnOk (op : Int) : Bool := decide (1 ≤ op ∧ op ≤ 19)
theorem sgnOk_no {op : Int} (h : NoOp op) : sgnOk op = false := by
  unfold NoOp at h
  have : ¬ (1 ≤ op ∧ op ≤ 19) := by omega
  simp [sgnOk, this]
theorem fieldrow0 (a b c d : Value) (w : World) : (Instr.field 134 (.agg #[a, b, c, d]) 0).run Tryz.prog w = .ok a w := by kernel_rfl
theorem fieldrow1 (a b c d : Value) (w : World) : (Instr.field 134 (.agg #[a, b, c, d]) 1).run Tryz.prog w = .ok b w := by kernel_rfl
attribute [local go_sem] fieldrow0 fieldrow1
theorem ret_sb {s t : ByteArray} {p q : Bool} (h : s = t) (g : p = q) : Ending.returned (.tuple #[.string s, .bool p]) = .returned (.tuple #[.string t, .bool q]) := by rw [h, g]

set_option maxHeartbeats 400000 in
theorem two0 (op a b : Int) (h : NoOp op) (w : World) :
    Calls Tryz.prog 99 #[.int .i64 op, .int .i64 a, .int .i64 b] w fun e w' => e = .returned (.tuple #[.int .i64 (two op a b), .bool (twoOk op b)]) ∧ Below w.heap.size w w' := by
  have h1 : (op == 1) = false := by unfold NoOp at h; rw [beq_eq_false_iff_ne]; omega
  have h2 : (op == 2) = false := by unfold NoOp at h; rw [beq_eq_false_iff_ne]; omega
  have h3 : (op == 3) = false := by unfold NoOp at h; rw [beq_eq_false_iff_ne]; omega
  have h4 : (op == 4) = false := by unfold NoOp at h; rw [beq_eq_false_iff_ne]; omega
  have h5 : (op == 5) = false := by unfold NoOp at h; rw [beq_eq_false_iff_ne]; omega
  have h6 : (op == 6) = false := by unfold NoOp at h; rw [beq_eq_false_iff_ne]; omega
  have h7 : (op == 7) = false := by unfold NoOp at h; rw [beq_eq_false_iff_ne]; omega
  have h8 : (op == 8) = false := by unfold NoOp at h; rw [beq_eq_false_iff_ne]; omega
  have h9 : (op == 9) = false := by unfold NoOp at h; rw [beq_eq_false_iff_ne]; omega
  have h10 : (op == 10) = false := by unfold NoOp at h; rw [beq_eq_false_iff_ne]; omega
  have h11 : (op == 11) = false := by unfold NoOp at h; rw [beq_eq_false_iff_ne]; omega
  have h12 : (op == 12) = false := by unfold NoOp at h; rw [beq_eq_false_iff_ne]; omega
  have h13 : (op == 13) = false := by unfold NoOp at h; rw [beq_eq_false_iff_ne]; omega
  have h14 : (op == 14) = false := by unfold NoOp at h; rw [beq_eq_false_iff_ne]; omega
  have h15 : (op == 15) = false := by unfold NoOp at h; rw [beq_eq_false_iff_ne]; omega
  have h16 : (op == 16) = false := by unfold NoOp at h; rw [beq_eq_false_iff_ne]; omega
  have h17 : (op == 17) = false := by unfold NoOp at h; rw [beq_eq_false_iff_ne]; omega
  have h18 : (op == 18) = false := by unfold NoOp at h; rw [beq_eq_false_iff_ne]; omega
  have h19 : (op == 19) = false := by unfold NoOp at h; rw [beq_eq_false_iff_ne]; omega
  have H := Lib.hid h
  clear h
  go_enter Tryz.func99, Tryz.ntmps99
  go_wp2_with (first | (go_at_call 77; refine (row0 _ H.out _).mono ?_; rintro e w' ⟨rfl, rfl⟩) | go_in)
  go_ret2
  exact ⟨ret_ib (two_no H.out).symm (twoOk_no H.out).symm, below2 _ _ _⟩

set_option maxHeartbeats 400000 in
theorem one0 (op a : Int) (h : NoOp op) (w : World) :
    Calls Tryz.prog 98 #[.int .i64 op, .int .i64 a] w fun e w' => e = .returned (.tuple #[.int .i64 (one op a), .bool (oneOk op)]) ∧ Below w.heap.size w w' := by
  have h1 : (op == 1) = false := by unfold NoOp at h; rw [beq_eq_false_iff_ne]; omega
  have h2 : (op == 2) = false := by unfold NoOp at h; rw [beq_eq_false_iff_ne]; omega
  have h3 : (op == 3) = false := by unfold NoOp at h; rw [beq_eq_false_iff_ne]; omega
  have h4 : (op == 4) = false := by unfold NoOp at h; rw [beq_eq_false_iff_ne]; omega
  have h5 : (op == 5) = false := by unfold NoOp at h; rw [beq_eq_false_iff_ne]; omega
  have h6 : (op == 6) = false := by unfold NoOp at h; rw [beq_eq_false_iff_ne]; omega
  have h7 : (op == 7) = false := by unfold NoOp at h; rw [beq_eq_false_iff_ne]; omega
  have h8 : (op == 8) = false := by unfold NoOp at h; rw [beq_eq_false_iff_ne]; omega
  have h9 : (op == 9) = false := by unfold NoOp at h; rw [beq_eq_false_iff_ne]; omega
  have h10 : (op == 10) = false := by unfold NoOp at h; rw [beq_eq_false_iff_ne]; omega
  have h11 : (op == 11) = false := by unfold NoOp at h; rw [beq_eq_false_iff_ne]; omega
  have h12 : (op == 12) = false := by unfold NoOp at h; rw [beq_eq_false_iff_ne]; omega
  have h13 : (op == 13) = false := by unfold NoOp at h; rw [beq_eq_false_iff_ne]; omega
  have h14 : (op == 14) = false := by unfold NoOp at h; rw [beq_eq_false_iff_ne]; omega
  have h15 : (op == 15) = false := by unfold NoOp at h; rw [beq_eq_false_iff_ne]; omega
  have h16 : (op == 16) = false := by unfold NoOp at h; rw [beq_eq_false_iff_ne]; omega
  have h17 : (op == 17) = false := by unfold NoOp at h; rw [beq_eq_false_iff_ne]; omega
  have h18 : (op == 18) = false := by unfold NoOp at h; rw [beq_eq_false_iff_ne]; omega
  have h19 : (op == 19) = false := by unfold NoOp at h; rw [beq_eq_false_iff_ne]; omega
  have H := Lib.hid h
  clear h
  go_enter Tryz.func98, Tryz.ntmps98
  go_wp2_with (first | (go_at_call 77; refine (row0 _ H.out _).mono ?_; rintro e w' ⟨rfl, rfl⟩) | go_in)
  go_ret2
  exact ⟨ret_ib (one_no H.out).symm (oneOk_no H.out).symm, below2 _ _ _⟩

theorem two_any (op a b : Int) (w : World) :
    Calls Tryz.prog 99 #[.int .i64 op, .int .i64 a, .int .i64 b] w fun e w' => e = .returned (.tuple #[.int .i64 (two op a b), .bool (twoOk op b)]) ∧ Below w.heap.size w w' := by
  rcases op_cases op with h | h | h | h | h | h | h | h | h | h | h | h | h | h | h | h | h | h | h | h
  · exact two0 op a b h w
  · subst h; exact two1 a b w
  · subst h; exact two2 a b w
  · subst h; exact two3 a b w
  · subst h; exact two4 a b w
  · subst h; exact two5 a b w
  · subst h; exact two6 a b w
  · subst h; exact two7 a b w
  · subst h; exact two8 a b w
  · subst h; exact two9 a b w
  · subst h; exact two10 a b w
  · subst h; exact two11 a b w
  · subst h; exact two12 a b w
  · subst h; exact two13 a b w
  · subst h; exact two14 a b w
  · subst h; exact two15 a b w
  · subst h; exact two16 a b w
  · subst h; exact two17 a b w
  · subst h; exact two18 a b w
  · subst h; exact two19 a b w

theorem one_any (op a : Int) (w : World) :
    Calls Tryz.prog 98 #[.int .i64 op, .int .i64 a] w fun e w' => e = .returned (.tuple #[.int .i64 (one op a), .bool (oneOk op)]) ∧ Below w.heap.size w w' := by
  rcases op_cases op with h | h | h | h | h | h | h | h | h | h | h | h | h | h | h | h | h | h | h | h
  · exact one0 op a h w
  · subst h; exact one1 a w
  · subst h; exact one2 a w
  · subst h; exact one3 a w
  · subst h; exact one4 a w
  · subst h; exact one5 a w
  · subst h; exact one6 a w
  · subst h; exact one7 a w
  · subst h; exact one8 a w
  · subst h; exact one9 a w
  · subst h; exact one10 a w
  · subst h; exact one11 a w
  · subst h; exact one12 a w
  · subst h; exact one13 a w
  · subst h; exact one14 a w
  · subst h; exact one15 a w
  · subst h; exact one16 a w
  · subst h; exact one17 a w
  · subst h; exact one18 a w
  · subst h; exact one19 a w

set_option maxHeartbeats 400000 in
theorem sign1  (w : World) :
    Calls Tryz.prog 53 #[.int .i64 1] w fun e w' => e = .returned (.tuple #[.string (sgn 1), .bool (sgnOk 1)]) ∧ Below w.heap.size w w' := by
  go_enter Tryz.func53, Tryz.ntmps53
  go_wp2_with (first | (go_at_call 77; refine (row1 _).mono ?_; rintro e w' ⟨rfl, rfl⟩) | go_in)
  go_ret2
  exact ⟨ret_sb (by simp [sgn]) (by simp [sgnOk]), (Below.refl _ _).alloc (Nat.le_refl _) _⟩

set_option maxHeartbeats 400000 in
theorem level1  (w : World) :
    Calls Tryz.prog 139 #[.int .i64 1] w fun e w' => e = .returned (.int .i64 (lvl 1)) ∧ Below w.heap.size w w' := by
  go_enter Tryz.func139, Tryz.ntmps139
  go_wp2_with (first | (go_at_call 77; refine (row1 _).mono ?_; rintro e w' ⟨rfl, rfl⟩) | go_in)
  go_ret
  exact ⟨ret_int (by simp [lvl]), (Below.refl _ _).alloc (Nat.le_refl _) _⟩

set_option maxHeartbeats 400000 in
theorem sign2  (w : World) :
    Calls Tryz.prog 53 #[.int .i64 2] w fun e w' => e = .returned (.tuple #[.string (sgn 2), .bool (sgnOk 2)]) ∧ Below w.heap.size w w' := by
  go_enter Tryz.func53, Tryz.ntmps53
  go_wp2_with (first | (go_at_call 77; refine (row2 _).mono ?_; rintro e w' ⟨rfl, rfl⟩) | go_in)
  go_ret2
  exact ⟨ret_sb (by simp [sgn]) (by simp [sgnOk]), (Below.refl _ _).alloc (Nat.le_refl _) _⟩

set_option maxHeartbeats 400000 in
theorem level2  (w : World) :
    Calls Tryz.prog 139 #[.int .i64 2] w fun e w' => e = .returned (.int .i64 (lvl 2)) ∧ Below w.heap.size w w' := by
  go_enter Tryz.func139, Tryz.ntmps139
  go_wp2_with (first | (go_at_call 77; refine (row2 _).mono ?_; rintro e w' ⟨rfl, rfl⟩) | go_in)
  go_ret
  exact ⟨ret_int (by simp [lvl]), (Below.refl _ _).alloc (Nat.le_refl _) _⟩

set_option maxHeartbeats 400000 in
theorem sign3  (w : World) :
    Calls Tryz.prog 53 #[.int .i64 3] w fun e w' => e = .returned (.tuple #[.string (sgn 3), .bool (sgnOk 3)]) ∧ Below w.heap.size w w' := by
  go_enter Tryz.func53, Tryz.ntmps53
  go_wp2_with (first | (go_at_call 77; refine (row3 _).mono ?_; rintro e w' ⟨rfl, rfl⟩) | go_in)
  go_ret2
  exact ⟨ret_sb (by simp [sgn]) (by simp [sgnOk]), (Below.refl _ _).alloc (Nat.le_refl _) _⟩

set_option maxHeartbeats 400000 in
theorem level3  (w : World) :
    Calls Tryz.prog 139 #[.int .i64 3] w fun e w' => e = .returned (.int .i64 (lvl 3)) ∧ Below w.heap.size w w' := by
  go_enter Tryz.func139, Tryz.ntmps139
  go_wp2_with (first | (go_at_call 77; refine (row3 _).mono ?_; rintro e w' ⟨rfl, rfl⟩) | go_in)
  go_ret
  exact ⟨ret_int (by simp [lvl]), (Below.refl _ _).alloc (Nat.le_refl _) _⟩

set_option maxHeartbeats 400000 in
theorem sign4  (w : World) :
    Calls Tryz.prog 53 #[.int .i64 4] w fun e w' => e = .returned (.tuple #[.string (sgn 4), .bool (sgnOk 4)]) ∧ Below w.heap.size w w' := by
  go_enter Tryz.func53, Tryz.ntmps53
  go_wp2_with (first | (go_at_call 77; refine (row4 _).mono ?_; rintro e w' ⟨rfl, rfl⟩) | go_in)
  go_ret2
  exact ⟨ret_sb (by simp [sgn]) (by simp [sgnOk]), (Below.refl _ _).alloc (Nat.le_refl _) _⟩

set_option maxHeartbeats 400000 in
theorem level4  (w : World) :
    Calls Tryz.prog 139 #[.int .i64 4] w fun e w' => e = .returned (.int .i64 (lvl 4)) ∧ Below w.heap.size w w' := by
  go_enter Tryz.func139, Tryz.ntmps139
  go_wp2_with (first | (go_at_call 77; refine (row4 _).mono ?_; rintro e w' ⟨rfl, rfl⟩) | go_in)
  go_ret
  exact ⟨ret_int (by simp [lvl]), (Below.refl _ _).alloc (Nat.le_refl _) _⟩

set_option maxHeartbeats 400000 in
theorem sign5  (w : World) :
    Calls Tryz.prog 53 #[.int .i64 5] w fun e w' => e = .returned (.tuple #[.string (sgn 5), .bool (sgnOk 5)]) ∧ Below w.heap.size w w' := by
  go_enter Tryz.func53, Tryz.ntmps53
  go_wp2_with (first | (go_at_call 77; refine (row5 _).mono ?_; rintro e w' ⟨rfl, rfl⟩) | go_in)
  go_ret2
  exact ⟨ret_sb (by simp [sgn]) (by simp [sgnOk]), (Below.refl _ _).alloc (Nat.le_refl _) _⟩

set_option maxHeartbeats 400000 in
theorem level5  (w : World) :
    Calls Tryz.prog 139 #[.int .i64 5] w fun e w' => e = .returned (.int .i64 (lvl 5)) ∧ Below w.heap.size w w' := by
  go_enter Tryz.func139, Tryz.ntmps139
  go_wp2_with (first | (go_at_call 77; refine (row5 _).mono ?_; rintro e w' ⟨rfl, rfl⟩) | go_in)
  go_ret
  exact ⟨ret_int (by simp [lvl]), (Below.refl _ _).alloc (Nat.le_refl _) _⟩

set_option maxHeartbeats 400000 in
theorem sign6  (w : World) :
    Calls Tryz.prog 53 #[.int .i64 6] w fun e w' => e = .returned (.tuple #[.string (sgn 6), .bool (sgnOk 6)]) ∧ Below w.heap.size w w' := by
  go_enter Tryz.func53, Tryz.ntmps53
  go_wp2_with (first | (go_at_call 77; refine (row6 _).mono ?_; rintro e w' ⟨rfl, rfl⟩) | go_in)
  go_ret2
  exact ⟨ret_sb (by simp [sgn]) (by simp [sgnOk]), (Below.refl _ _).alloc (Nat.le_refl _) _⟩

set_option maxHeartbeats 400000 in
theorem level6  (w : World) :
    Calls Tryz.prog 139 #[.int .i64 6] w fun e w' => e = .returned (.int .i64 (lvl 6)) ∧ Below w.heap.size w w' := by
  go_enter Tryz.func139, Tryz.ntmps139
  go_wp2_with (first | (go_at_call 77; refine (row6 _).mono ?_; rintro e w' ⟨rfl, rfl⟩) | go_in)
  go_ret
  exact ⟨ret_int (by simp [lvl]), (Below.refl _ _).alloc (Nat.le_refl _) _⟩

set_option maxHeartbeats 400000 in
theorem sign7  (w : World) :
    Calls Tryz.prog 53 #[.int .i64 7] w fun e w' => e = .returned (.tuple #[.string (sgn 7), .bool (sgnOk 7)]) ∧ Below w.heap.size w w' := by
  go_enter Tryz.func53, Tryz.ntmps53
  go_wp2_with (first | (go_at_call 77; refine (row7 _).mono ?_; rintro e w' ⟨rfl, rfl⟩) | go_in)
  go_ret2
  exact ⟨ret_sb (by simp [sgn]) (by simp [sgnOk]), (Below.refl _ _).alloc (Nat.le_refl _) _⟩

set_option maxHeartbeats 400000 in
theorem level7  (w : World) :
    Calls Tryz.prog 139 #[.int .i64 7] w fun e w' => e = .returned (.int .i64 (lvl 7)) ∧ Below w.heap.size w w' := by
  go_enter Tryz.func139, Tryz.ntmps139
  go_wp2_with (first | (go_at_call 77; refine (row7 _).mono ?_; rintro e w' ⟨rfl, rfl⟩) | go_in)
  go_ret
  exact ⟨ret_int (by simp [lvl]), (Below.refl _ _).alloc (Nat.le_refl _) _⟩

set_option maxHeartbeats 400000 in
theorem sign8  (w : World) :
    Calls Tryz.prog 53 #[.int .i64 8] w fun e w' => e = .returned (.tuple #[.string (sgn 8), .bool (sgnOk 8)]) ∧ Below w.heap.size w w' := by
  go_enter Tryz.func53, Tryz.ntmps53
  go_wp2_with (first | (go_at_call 77; refine (row8 _).mono ?_; rintro e w' ⟨rfl, rfl⟩) | go_in)
  go_ret2
  exact ⟨ret_sb (by simp [sgn]) (by simp [sgnOk]), (Below.refl _ _).alloc (Nat.le_refl _) _⟩

set_option maxHeartbeats 400000 in
theorem level8  (w : World) :
    Calls Tryz.prog 139 #[.int .i64 8] w fun e w' => e = .returned (.int .i64 (lvl 8)) ∧ Below w.heap.size w w' := by
  go_enter Tryz.func139, Tryz.ntmps139
  go_wp2_with (first | (go_at_call 77; refine (row8 _).mono ?_; rintro e w' ⟨rfl, rfl⟩) | go_in)
  go_ret
  exact ⟨ret_int (by simp [lvl]), (Below.refl _ _).alloc (Nat.le_refl _) _⟩

set_option maxHeartbeats 400000 in
theorem sign9  (w : World) :
    Calls Tryz.prog 53 #[.int .i64 9] w fun e w' => e = .returned (.tuple #[.string (sgn 9), .bool (sgnOk 9)]) ∧ Below w.heap.size w w' := by
  go_enter Tryz.func53, Tryz.ntmps53
  go_wp2_with (first | (go_at_call 77; refine (row9 _).mono ?_; rintro e w' ⟨rfl, rfl⟩) | go_in)
  go_ret2
  exact ⟨ret_sb (by simp [sgn]) (by simp [sgnOk]), (Below.refl _ _).alloc (Nat.le_refl _) _⟩

set_option maxHeartbeats 400000 in
theorem level9  (w : World) :
    Calls Tryz.prog 139 #[.int .i64 9] w fun e w' => e = .returned (.int .i64 (lvl 9)) ∧ Below w.heap.size w w' := by
  go_enter Tryz.func139, Tryz.ntmps139
  go_wp2_with (first | (go_at_call 77; refine (row9 _).mono ?_; rintro e w' ⟨rfl, rfl⟩) | go_in)
  go_ret
  exact ⟨ret_int (by simp [lvl]), (Below.refl _ _).alloc (Nat.le_refl _) _⟩

set_option maxHeartbeats 400000 in
theorem sign10  (w : World) :
    Calls Tryz.prog 53 #[.int .i64 10] w fun e w' => e = .returned (.tuple #[.string (sgn 10), .bool (sgnOk 10)]) ∧ Below w.heap.size w w' := by
  go_enter Tryz.func53, Tryz.ntmps53
  go_wp2_with (first | (go_at_call 77; refine (row10 _).mono ?_; rintro e w' ⟨rfl, rfl⟩) | go_in)
  go_ret2
  exact ⟨ret_sb (by simp [sgn]) (by simp [sgnOk]), (Below.refl _ _).alloc (Nat.le_refl _) _⟩

set_option maxHeartbeats 400000 in
theorem level10  (w : World) :
    Calls Tryz.prog 139 #[.int .i64 10] w fun e w' => e = .returned (.int .i64 (lvl 10)) ∧ Below w.heap.size w w' := by
  go_enter Tryz.func139, Tryz.ntmps139
  go_wp2_with (first | (go_at_call 77; refine (row10 _).mono ?_; rintro e w' ⟨rfl, rfl⟩) | go_in)
  go_ret
  exact ⟨ret_int (by simp [lvl]), (Below.refl _ _).alloc (Nat.le_refl _) _⟩

set_option maxHeartbeats 400000 in
theorem sign11  (w : World) :
    Calls Tryz.prog 53 #[.int .i64 11] w fun e w' => e = .returned (.tuple #[.string (sgn 11), .bool (sgnOk 11)]) ∧ Below w.heap.size w w' := by
  go_enter Tryz.func53, Tryz.ntmps53
  go_wp2_with (first | (go_at_call 77; refine (row11 _).mono ?_; rintro e w' ⟨rfl, rfl⟩) | go_in)
  go_ret2
  exact ⟨ret_sb (by simp [sgn]) (by simp [sgnOk]), (Below.refl _ _).alloc (Nat.le_refl _) _⟩

set_option maxHeartbeats 400000 in
theorem level11  (w : World) :
    Calls Tryz.prog 139 #[.int .i64 11] w fun e w' => e = .returned (.int .i64 (lvl 11)) ∧ Below w.heap.size w w' := by
  go_enter Tryz.func139, Tryz.ntmps139
  go_wp2_with (first | (go_at_call 77; refine (row11 _).mono ?_; rintro e w' ⟨rfl, rfl⟩) | go_in)
  go_ret
  exact ⟨ret_int (by simp [lvl]), (Below.refl _ _).alloc (Nat.le_refl _) _⟩

set_option maxHeartbeats 400000 in
theorem sign12  (w : World) :
    Calls Tryz.prog 53 #[.int .i64 12] w fun e w' => e = .returned (.tuple #[.string (sgn 12), .bool (sgnOk 12)]) ∧ Below w.heap.size w w' := by
  go_enter Tryz.func53, Tryz.ntmps53
  go_wp2_with (first | (go_at_call 77; refine (row12 _).mono ?_; rintro e w' ⟨rfl, rfl⟩) | go_in)
  go_ret2
  exact ⟨ret_sb (by simp [sgn]) (by simp [sgnOk]), (Below.refl _ _).alloc (Nat.le_refl _) _⟩

set_option maxHeartbeats 400000 in
theorem level12  (w : World) :
    Calls Tryz.prog 139 #[.int .i64 12] w fun e w' => e = .returned (.int .i64 (lvl 12)) ∧ Below w.heap.size w w' := by
  go_enter Tryz.func139, Tryz.ntmps139
  go_wp2_with (first | (go_at_call 77; refine (row12 _).mono ?_; rintro e w' ⟨rfl, rfl⟩) | go_in)
  go_ret
  exact ⟨ret_int (by simp [lvl]), (Below.refl _ _).alloc (Nat.le_refl _) _⟩

set_option maxHeartbeats 400000 in
theorem sign13  (w : World) :
    Calls Tryz.prog 53 #[.int .i64 13] w fun e w' => e = .returned (.tuple #[.string (sgn 13), .bool (sgnOk 13)]) ∧ Below w.heap.size w w' := by
  go_enter Tryz.func53, Tryz.ntmps53
  go_wp2_with (first | (go_at_call 77; refine (row13 _).mono ?_; rintro e w' ⟨rfl, rfl⟩) | go_in)
  go_ret2
  exact ⟨ret_sb (by simp [sgn]) (by simp [sgnOk]), (Below.refl _ _).alloc (Nat.le_refl _) _⟩

set_option maxHeartbeats 400000 in
theorem level13  (w : World) :
    Calls Tryz.prog 139 #[.int .i64 13] w fun e w' => e = .returned (.int .i64 (lvl 13)) ∧ Below w.heap.size w w' := by
  go_enter Tryz.func139, Tryz.ntmps139
  go_wp2_with (first | (go_at_call 77; refine (row13 _).mono ?_; rintro e w' ⟨rfl, rfl⟩) | go_in)
  go_ret
  exact ⟨ret_int (by simp [lvl]), (Below.refl _ _).alloc (Nat.le_refl _) _⟩

set_option maxHeartbeats 400000 in
theorem sign14  (w : World) :
    Calls Tryz.prog 53 #[.int .i64 14] w fun e w' => e = .returned (.tuple #[.string (sgn 14), .bool (sgnOk 14)]) ∧ Below w.heap.size w w' := by
  go_enter Tryz.func53, Tryz.ntmps53
  go_wp2_with (first | (go_at_call 77; refine (row14 _).mono ?_; rintro e w' ⟨rfl, rfl⟩) | go_in)
  go_ret2
  exact ⟨ret_sb (by simp [sgn]) (by simp [sgnOk]), (Below.refl _ _).alloc (Nat.le_refl _) _⟩

set_option maxHeartbeats 400000 in
theorem level14  (w : World) :
    Calls Tryz.prog 139 #[.int .i64 14] w fun e w' => e = .returned (.int .i64 (lvl 14)) ∧ Below w.heap.size w w' := by
  go_enter Tryz.func139, Tryz.ntmps139
  go_wp2_with (first | (go_at_call 77; refine (row14 _).mono ?_; rintro e w' ⟨rfl, rfl⟩) | go_in)
  go_ret
  exact ⟨ret_int (by simp [lvl]), (Below.refl _ _).alloc (Nat.le_refl _) _⟩

set_option maxHeartbeats 400000 in
theorem sign15  (w : World) :
    Calls Tryz.prog 53 #[.int .i64 15] w fun e w' => e = .returned (.tuple #[.string (sgn 15), .bool (sgnOk 15)]) ∧ Below w.heap.size w w' := by
  go_enter Tryz.func53, Tryz.ntmps53
  go_wp2_with (first | (go_at_call 77; refine (row15 _).mono ?_; rintro e w' ⟨rfl, rfl⟩) | go_in)
  go_ret2
  exact ⟨ret_sb (by simp [sgn]) (by simp [sgnOk]), (Below.refl _ _).alloc (Nat.le_refl _) _⟩

set_option maxHeartbeats 400000 in
theorem level15  (w : World) :
    Calls Tryz.prog 139 #[.int .i64 15] w fun e w' => e = .returned (.int .i64 (lvl 15)) ∧ Below w.heap.size w w' := by
  go_enter Tryz.func139, Tryz.ntmps139
  go_wp2_with (first | (go_at_call 77; refine (row15 _).mono ?_; rintro e w' ⟨rfl, rfl⟩) | go_in)
  go_ret
  exact ⟨ret_int (by simp [lvl]), (Below.refl _ _).alloc (Nat.le_refl _) _⟩

set_option maxHeartbeats 400000 in
theorem sign16  (w : World) :
    Calls Tryz.prog 53 #[.int .i64 16] w fun e w' => e = .returned (.tuple #[.string (sgn 16), .bool (sgnOk 16)]) ∧ Below w.heap.size w w' := by
  go_enter Tryz.func53, Tryz.ntmps53
  go_wp2_with (first | (go_at_call 77; refine (row16 _).mono ?_; rintro e w' ⟨rfl, rfl⟩) | go_in)
  go_ret2
  exact ⟨ret_sb (by simp [sgn]) (by simp [sgnOk]), (Below.refl _ _).alloc (Nat.le_refl _) _⟩

set_option maxHeartbeats 400000 in
theorem level16  (w : World) :
    Calls Tryz.prog 139 #[.int .i64 16] w fun e w' => e = .returned (.int .i64 (lvl 16)) ∧ Below w.heap.size w w' := by
  go_enter Tryz.func139, Tryz.ntmps139
  go_wp2_with (first | (go_at_call 77; refine (row16 _).mono ?_; rintro e w' ⟨rfl, rfl⟩) | go_in)
  go_ret
  exact ⟨ret_int (by simp [lvl]), (Below.refl _ _).alloc (Nat.le_refl _) _⟩

set_option maxHeartbeats 400000 in
theorem sign17  (w : World) :
    Calls Tryz.prog 53 #[.int .i64 17] w fun e w' => e = .returned (.tuple #[.string (sgn 17), .bool (sgnOk 17)]) ∧ Below w.heap.size w w' := by
  go_enter Tryz.func53, Tryz.ntmps53
  go_wp2_with (first | (go_at_call 77; refine (row17 _).mono ?_; rintro e w' ⟨rfl, rfl⟩) | go_in)
  go_ret2
  exact ⟨ret_sb (by simp [sgn]) (by simp [sgnOk]), (Below.refl _ _).alloc (Nat.le_refl _) _⟩

set_option maxHeartbeats 400000 in
theorem level17  (w : World) :
    Calls Tryz.prog 139 #[.int .i64 17] w fun e w' => e = .returned (.int .i64 (lvl 17)) ∧ Below w.heap.size w w' := by
  go_enter Tryz.func139, Tryz.ntmps139
  go_wp2_with (first | (go_at_call 77; refine (row17 _).mono ?_; rintro e w' ⟨rfl, rfl⟩) | go_in)
  go_ret
  exact ⟨ret_int (by simp [lvl]), (Below.refl _ _).alloc (Nat.le_refl _) _⟩

set_option maxHeartbeats 400000 in
theorem sign18  (w : World) :
    Calls Tryz.prog 53 #[.int .i64 18] w fun e w' => e = .returned (.tuple #[.string (sgn 18), .bool (sgnOk 18)]) ∧ Below w.heap.size w w' := by
  go_enter Tryz.func53, Tryz.ntmps53
  go_wp2_with (first | (go_at_call 77; refine (row18 _).mono ?_; rintro e w' ⟨rfl, rfl⟩) | go_in)
  go_ret2
  exact ⟨ret_sb (by simp [sgn]) (by simp [sgnOk]), (Below.refl _ _).alloc (Nat.le_refl _) _⟩

set_option maxHeartbeats 400000 in
theorem level18  (w : World) :
    Calls Tryz.prog 139 #[.int .i64 18] w fun e w' => e = .returned (.int .i64 (lvl 18)) ∧ Below w.heap.size w w' := by
  go_enter Tryz.func139, Tryz.ntmps139
  go_wp2_with (first | (go_at_call 77; refine (row18 _).mono ?_; rintro e w' ⟨rfl, rfl⟩) | go_in)
  go_ret
  exact ⟨ret_int (by simp [lvl]), (Below.refl _ _).alloc (Nat.le_refl _) _⟩

set_option maxHeartbeats 400000 in
theorem sign19  (w : World) :
    Calls Tryz.prog 53 #[.int .i64 19] w fun e w' => e = .returned (.tuple #[.string (sgn 19), .bool (sgnOk 19)]) ∧ Below w.heap.size w w' := by
  go_enter Tryz.func53, Tryz.ntmps53
  go_wp2_with (first | (go_at_call 77; refine (row19 _).mono ?_; rintro e w' ⟨rfl, rfl⟩) | go_in)
  go_ret2
  exact ⟨ret_sb (by simp [sgn]) (by simp [sgnOk]), (Below.refl _ _).alloc (Nat.le_refl _) _⟩

set_option maxHeartbeats 400000 in
theorem level19  (w : World) :
    Calls Tryz.prog 139 #[.int .i64 19] w fun e w' => e = .returned (.int .i64 (lvl 19)) ∧ Below w.heap.size w w' := by
  go_enter Tryz.func139, Tryz.ntmps139
  go_wp2_with (first | (go_at_call 77; refine (row19 _).mono ?_; rintro e w' ⟨rfl, rfl⟩) | go_in)
  go_ret
  exact ⟨ret_int (by simp [lvl]), (Below.refl _ _).alloc (Nat.le_refl _) _⟩

set_option maxHeartbeats 400000 in
theorem sign0 (op : Int) (h : NoOp op) (w : World) :
    Calls Tryz.prog 53 #[.int .i64 op] w fun e w' => e = .returned (.tuple #[.string (sgn op), .bool (sgnOk op)]) ∧ Below w.heap.size w w' := by
  have H := Lib.hid h
  clear h
  go_enter Tryz.func53, Tryz.ntmps53
  go_wp2_with (first | (go_at_call 77; refine (row0 _ H.out _).mono ?_; rintro e w' ⟨rfl, rfl⟩) | go_in)
  go_ret2
  exact ⟨ret_sb (sgn_no H.out).symm (sgnOk_no H.out).symm, (Below.refl _ _).alloc (Nat.le_refl _) _⟩

set_option maxHeartbeats 400000 in
theorem level0 (op : Int) (h : NoOp op) (w : World) :
    Calls Tryz.prog 139 #[.int .i64 op] w fun e w' => e = .returned (.int .i64 (lvl op)) ∧ Below w.heap.size w w' := by
  have H := Lib.hid h
  clear h
  go_enter Tryz.func139, Tryz.ntmps139
  go_wp2_with (first | (go_at_call 77; refine (row0 _ H.out _).mono ?_; rintro e w' ⟨rfl, rfl⟩) | go_in)
  go_ret
  exact ⟨ret_int (lvl_no H.out).symm, (Below.refl _ _).alloc (Nat.le_refl _) _⟩

theorem sign_any (op : Int) (w : World) :
    Calls Tryz.prog 53 #[.int .i64 op] w fun e w' => e = .returned (.tuple #[.string (sgn op), .bool (sgnOk op)]) ∧ Below w.heap.size w w' := by
  rcases op_cases op with h | h | h | h | h | h | h | h | h | h | h | h | h | h | h | h | h | h | h | h
  · exact sign0 op h w
  · subst h; exact sign1  w
  · subst h; exact sign2  w
  · subst h; exact sign3  w
  · subst h; exact sign4  w
  · subst h; exact sign5  w
  · subst h; exact sign6  w
  · subst h; exact sign7  w
  · subst h; exact sign8  w
  · subst h; exact sign9  w
  · subst h; exact sign10  w
  · subst h; exact sign11  w
  · subst h; exact sign12  w
  · subst h; exact sign13  w
  · subst h; exact sign14  w
  · subst h; exact sign15  w
  · subst h; exact sign16  w
  · subst h; exact sign17  w
  · subst h; exact sign18  w
  · subst h; exact sign19  w

theorem level_any (op : Int) (w : World) :
    Calls Tryz.prog 139 #[.int .i64 op] w fun e w' => e = .returned (.int .i64 (lvl op)) ∧ Below w.heap.size w w' := by
  rcases op_cases op with h | h | h | h | h | h | h | h | h | h | h | h | h | h | h | h | h | h | h | h
  · exact level0 op h w
  · subst h; exact level1  w
  · subst h; exact level2  w
  · subst h; exact level3  w
  · subst h; exact level4  w
  · subst h; exact level5  w
  · subst h; exact level6  w
  · subst h; exact level7  w
  · subst h; exact level8  w
  · subst h; exact level9  w
  · subst h; exact level10  w
  · subst h; exact level11  w
  · subst h; exact level12  w
  · subst h; exact level13  w
  · subst h; exact level14  w
  · subst h; exact level15  w
  · subst h; exact level16  w
  · subst h; exact level17  w
  · subst h; exact level18  w
  · subst h; exact level19  w

end Go.Proofs.YtnpnhdmfdhnmfaaGreatDoor.Ar
