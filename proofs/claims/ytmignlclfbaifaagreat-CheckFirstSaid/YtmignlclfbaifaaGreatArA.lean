/- What the functions of arith (layer 1) and of its reference do, at any operator: one contract a function. -/
import Derived.Test.YtmignlclfbaifaaGreatArW
namespace Go.Proofs.YtmignlclfbaifaaGreat.Ar
open Go.RowKit
attribute [local go_sem] eq_func1 eq_func2 eq_nil1 eq_nil2

theorem op_cases (op : Int) : NoOp op ∨ op = 1 ∨ op = 2 ∨ op = 3 ∨ op = 4 ∨ op = 5 ∨ op = 6 ∨ op = 7 ∨ op = 8 ∨ op = 9 ∨ op = 10 ∨ op = 11 ∨ op = 12 ∨ op = 13 ∨ op = 14 ∨ op = 15 ∨ op = 16 ∨ op = 17 ∨ op = 18 ∨ op = 19 := by
  unfold NoOp; omega
theorem two_no {op a b : Int} (h : NoOp op) : two op a b = 0 := by
  unfold NoOp at h; unfold two
  repeat rw [if_neg (by omega)]
theorem twoOk_no {op b : Int} (h : NoOp op) : twoOk op b = false := by
  unfold NoOp at h
  have : ¬ (1 ≤ op ∧ op ≤ 16) := by omega
  simp [twoOk, this]
theorem one_no {op a : Int} (h : NoOp op) : one op a = 0 := by
  unfold NoOp at h; unfold one
  repeat rw [if_neg (by omega)]
theorem oneOk_no {op : Int} (h : NoOp op) : oneOk op = false := by
  unfold NoOp at h
  have : ¬ (17 ≤ op ∧ op ≤ 19) := by omega
  simp [oneOk, this]
theorem sgn_no {op : Int} (h : NoOp op) : sgn op = ⟨#[]⟩ := by
  unfold NoOp at h; unfold sgn
  repeat rw [if_neg (by omega)]
theorem lvl_no {op : Int} (h : NoOp op) : lvl op = 0 := by
  unfold NoOp at h; unfold lvl
  rw [if_pos (by omega)]
def sgnOk (op : Int) : Bool := decide (1 ≤ op ∧ op ≤ 19)
theorem sgnOk_no {op : Int} (h : NoOp op) : sgnOk op = false := by
  unfold NoOp at h
  have : ¬ (1 ≤ op ∧ op ≤ 19) := by omega
  simp [sgnOk, this]
theorem fieldrow0 (a b c d : Value) (w : World) : (Instr.field 157 (.agg #[a, b, c, d]) 0).run Tryz.prog w = .ok a w := by kernel_rfl
theorem fieldrow1 (a b c d : Value) (w : World) : (Instr.field 157 (.agg #[a, b, c, d]) 1).run Tryz.prog w = .ok b w := by kernel_rfl
attribute [local go_sem] fieldrow0 fieldrow1
theorem ret_sb {s t : ByteArray} {p q : Bool} (h : s = t) (g : p = q) : Ending.returned (.tuple #[.string s, .bool p]) = .returned (.tuple #[.string t, .bool q]) := by rw [h, g]

set_option maxHeartbeats 400000 in
theorem level1  (w : World) :
    Calls Tryz.prog 121 #[.int .i64 1] w fun e w' => e = .returned (.int .i64 (lvl 1)) ∧ Below w.heap.size w w' := by
  go_enter Tryz.func121, Tryz.ntmps121
  go_wp2_with (first | (go_at_call 123; refine (row1 _).mono ?_; rintro e w' ⟨rfl, rfl⟩) | go_in)
  go_ret
  exact ⟨ret_int (by simp [lvl]), (Below.refl _ _).alloc (Nat.le_refl _) _⟩

set_option maxHeartbeats 400000 in
theorem level2  (w : World) :
    Calls Tryz.prog 121 #[.int .i64 2] w fun e w' => e = .returned (.int .i64 (lvl 2)) ∧ Below w.heap.size w w' := by
  go_enter Tryz.func121, Tryz.ntmps121
  go_wp2_with (first | (go_at_call 123; refine (row2 _).mono ?_; rintro e w' ⟨rfl, rfl⟩) | go_in)
  go_ret
  exact ⟨ret_int (by simp [lvl]), (Below.refl _ _).alloc (Nat.le_refl _) _⟩

set_option maxHeartbeats 400000 in
theorem level3  (w : World) :
    Calls Tryz.prog 121 #[.int .i64 3] w fun e w' => e = .returned (.int .i64 (lvl 3)) ∧ Below w.heap.size w w' := by
  go_enter Tryz.func121, Tryz.ntmps121
  go_wp2_with (first | (go_at_call 123; refine (row3 _).mono ?_; rintro e w' ⟨rfl, rfl⟩) | go_in)
  go_ret
  exact ⟨ret_int (by simp [lvl]), (Below.refl _ _).alloc (Nat.le_refl _) _⟩

set_option maxHeartbeats 400000 in
theorem level4  (w : World) :
    Calls Tryz.prog 121 #[.int .i64 4] w fun e w' => e = .returned (.int .i64 (lvl 4)) ∧ Below w.heap.size w w' := by
  go_enter Tryz.func121, Tryz.ntmps121
  go_wp2_with (first | (go_at_call 123; refine (row4 _).mono ?_; rintro e w' ⟨rfl, rfl⟩) | go_in)
  go_ret
  exact ⟨ret_int (by simp [lvl]), (Below.refl _ _).alloc (Nat.le_refl _) _⟩

set_option maxHeartbeats 400000 in
theorem level5  (w : World) :
    Calls Tryz.prog 121 #[.int .i64 5] w fun e w' => e = .returned (.int .i64 (lvl 5)) ∧ Below w.heap.size w w' := by
  go_enter Tryz.func121, Tryz.ntmps121
  go_wp2_with (first | (go_at_call 123; refine (row5 _).mono ?_; rintro e w' ⟨rfl, rfl⟩) | go_in)
  go_ret
  exact ⟨ret_int (by simp [lvl]), (Below.refl _ _).alloc (Nat.le_refl _) _⟩

set_option maxHeartbeats 400000 in
theorem level6  (w : World) :
    Calls Tryz.prog 121 #[.int .i64 6] w fun e w' => e = .returned (.int .i64 (lvl 6)) ∧ Below w.heap.size w w' := by
  go_enter Tryz.func121, Tryz.ntmps121
  go_wp2_with (first | (go_at_call 123; refine (row6 _).mono ?_; rintro e w' ⟨rfl, rfl⟩) | go_in)
  go_ret
  exact ⟨ret_int (by simp [lvl]), (Below.refl _ _).alloc (Nat.le_refl _) _⟩

set_option maxHeartbeats 400000 in
theorem level7  (w : World) :
    Calls Tryz.prog 121 #[.int .i64 7] w fun e w' => e = .returned (.int .i64 (lvl 7)) ∧ Below w.heap.size w w' := by
  go_enter Tryz.func121, Tryz.ntmps121
  go_wp2_with (first | (go_at_call 123; refine (row7 _).mono ?_; rintro e w' ⟨rfl, rfl⟩) | go_in)
  go_ret
  exact ⟨ret_int (by simp [lvl]), (Below.refl _ _).alloc (Nat.le_refl _) _⟩

set_option maxHeartbeats 400000 in
theorem level8  (w : World) :
    Calls Tryz.prog 121 #[.int .i64 8] w fun e w' => e = .returned (.int .i64 (lvl 8)) ∧ Below w.heap.size w w' := by
  go_enter Tryz.func121, Tryz.ntmps121
  go_wp2_with (first | (go_at_call 123; refine (row8 _).mono ?_; rintro e w' ⟨rfl, rfl⟩) | go_in)
  go_ret
  exact ⟨ret_int (by simp [lvl]), (Below.refl _ _).alloc (Nat.le_refl _) _⟩

set_option maxHeartbeats 400000 in
theorem level9  (w : World) :
    Calls Tryz.prog 121 #[.int .i64 9] w fun e w' => e = .returned (.int .i64 (lvl 9)) ∧ Below w.heap.size w w' := by
  go_enter Tryz.func121, Tryz.ntmps121
  go_wp2_with (first | (go_at_call 123; refine (row9 _).mono ?_; rintro e w' ⟨rfl, rfl⟩) | go_in)
  go_ret
  exact ⟨ret_int (by simp [lvl]), (Below.refl _ _).alloc (Nat.le_refl _) _⟩

set_option maxHeartbeats 400000 in
theorem level10  (w : World) :
    Calls Tryz.prog 121 #[.int .i64 10] w fun e w' => e = .returned (.int .i64 (lvl 10)) ∧ Below w.heap.size w w' := by
  go_enter Tryz.func121, Tryz.ntmps121
  go_wp2_with (first | (go_at_call 123; refine (row10 _).mono ?_; rintro e w' ⟨rfl, rfl⟩) | go_in)
  go_ret
  exact ⟨ret_int (by simp [lvl]), (Below.refl _ _).alloc (Nat.le_refl _) _⟩

set_option maxHeartbeats 400000 in
theorem level11  (w : World) :
    Calls Tryz.prog 121 #[.int .i64 11] w fun e w' => e = .returned (.int .i64 (lvl 11)) ∧ Below w.heap.size w w' := by
  go_enter Tryz.func121, Tryz.ntmps121
  go_wp2_with (first | (go_at_call 123; refine (row11 _).mono ?_; rintro e w' ⟨rfl, rfl⟩) | go_in)
  go_ret
  exact ⟨ret_int (by simp [lvl]), (Below.refl _ _).alloc (Nat.le_refl _) _⟩

set_option maxHeartbeats 400000 in
theorem level12  (w : World) :
    Calls Tryz.prog 121 #[.int .i64 12] w fun e w' => e = .returned (.int .i64 (lvl 12)) ∧ Below w.heap.size w w' := by
  go_enter Tryz.func121, Tryz.ntmps121
  go_wp2_with (first | (go_at_call 123; refine (row12 _).mono ?_; rintro e w' ⟨rfl, rfl⟩) | go_in)
  go_ret
  exact ⟨ret_int (by simp [lvl]), (Below.refl _ _).alloc (Nat.le_refl _) _⟩

set_option maxHeartbeats 400000 in
theorem level13  (w : World) :
    Calls Tryz.prog 121 #[.int .i64 13] w fun e w' => e = .returned (.int .i64 (lvl 13)) ∧ Below w.heap.size w w' := by
  go_enter Tryz.func121, Tryz.ntmps121
  go_wp2_with (first | (go_at_call 123; refine (row13 _).mono ?_; rintro e w' ⟨rfl, rfl⟩) | go_in)
  go_ret
  exact ⟨ret_int (by simp [lvl]), (Below.refl _ _).alloc (Nat.le_refl _) _⟩

set_option maxHeartbeats 400000 in
theorem level14  (w : World) :
    Calls Tryz.prog 121 #[.int .i64 14] w fun e w' => e = .returned (.int .i64 (lvl 14)) ∧ Below w.heap.size w w' := by
  go_enter Tryz.func121, Tryz.ntmps121
  go_wp2_with (first | (go_at_call 123; refine (row14 _).mono ?_; rintro e w' ⟨rfl, rfl⟩) | go_in)
  go_ret
  exact ⟨ret_int (by simp [lvl]), (Below.refl _ _).alloc (Nat.le_refl _) _⟩

set_option maxHeartbeats 400000 in
theorem level15  (w : World) :
    Calls Tryz.prog 121 #[.int .i64 15] w fun e w' => e = .returned (.int .i64 (lvl 15)) ∧ Below w.heap.size w w' := by
  go_enter Tryz.func121, Tryz.ntmps121
  go_wp2_with (first | (go_at_call 123; refine (row15 _).mono ?_; rintro e w' ⟨rfl, rfl⟩) | go_in)
  go_ret
  exact ⟨ret_int (by simp [lvl]), (Below.refl _ _).alloc (Nat.le_refl _) _⟩

set_option maxHeartbeats 400000 in
theorem level16  (w : World) :
    Calls Tryz.prog 121 #[.int .i64 16] w fun e w' => e = .returned (.int .i64 (lvl 16)) ∧ Below w.heap.size w w' := by
  go_enter Tryz.func121, Tryz.ntmps121
  go_wp2_with (first | (go_at_call 123; refine (row16 _).mono ?_; rintro e w' ⟨rfl, rfl⟩) | go_in)
  go_ret
  exact ⟨ret_int (by simp [lvl]), (Below.refl _ _).alloc (Nat.le_refl _) _⟩

set_option maxHeartbeats 400000 in
theorem level17  (w : World) :
    Calls Tryz.prog 121 #[.int .i64 17] w fun e w' => e = .returned (.int .i64 (lvl 17)) ∧ Below w.heap.size w w' := by
  go_enter Tryz.func121, Tryz.ntmps121
  go_wp2_with (first | (go_at_call 123; refine (row17 _).mono ?_; rintro e w' ⟨rfl, rfl⟩) | go_in)
  go_ret
  exact ⟨ret_int (by simp [lvl]), (Below.refl _ _).alloc (Nat.le_refl _) _⟩

set_option maxHeartbeats 400000 in
theorem level18  (w : World) :
    Calls Tryz.prog 121 #[.int .i64 18] w fun e w' => e = .returned (.int .i64 (lvl 18)) ∧ Below w.heap.size w w' := by
  go_enter Tryz.func121, Tryz.ntmps121
  go_wp2_with (first | (go_at_call 123; refine (row18 _).mono ?_; rintro e w' ⟨rfl, rfl⟩) | go_in)
  go_ret
  exact ⟨ret_int (by simp [lvl]), (Below.refl _ _).alloc (Nat.le_refl _) _⟩

set_option maxHeartbeats 400000 in
theorem level19  (w : World) :
    Calls Tryz.prog 121 #[.int .i64 19] w fun e w' => e = .returned (.int .i64 (lvl 19)) ∧ Below w.heap.size w w' := by
  go_enter Tryz.func121, Tryz.ntmps121
  go_wp2_with (first | (go_at_call 123; refine (row19 _).mono ?_; rintro e w' ⟨rfl, rfl⟩) | go_in)
  go_ret
  exact ⟨ret_int (by simp [lvl]), (Below.refl _ _).alloc (Nat.le_refl _) _⟩

set_option maxHeartbeats 400000 in
theorem level0 (op : Int) (h : NoOp op) (w : World) :
    Calls Tryz.prog 121 #[.int .i64 op] w fun e w' => e = .returned (.int .i64 (lvl op)) ∧ Below w.heap.size w w' := by
  have H := Lib.hid h
  clear h
  go_enter Tryz.func121, Tryz.ntmps121
  go_wp2_with (first | (go_at_call 123; refine (row0 _ H.out _).mono ?_; rintro e w' ⟨rfl, rfl⟩) | go_in)
  go_ret
  exact ⟨ret_int (lvl_no H.out).symm, (Below.refl _ _).alloc (Nat.le_refl _) _⟩

theorem level_any (op : Int) (w : World) :
    Calls Tryz.prog 121 #[.int .i64 op] w fun e w' => e = .returned (.int .i64 (lvl op)) ∧ Below w.heap.size w w' := by
  rcases op_cases op with h | h | h | h | h | h | h | h | h | h | h | h | h | h | h | h | h | h | h | h
  · exact level0 op h w
  · subst h; exact level1  w
  · subst h; exact level2  w
  · subst h; exact level3  w
  · subst h; exact level4  w
  · subst h; exact level5  w
  · subst h; exact level6  w
  · subst h; exact level7  w
  · subst h; exact level8  w
  · subst h; exact level9  w
  · subst h; exact level10  w
  · subst h; exact level11  w
  · subst h; exact level12  w
  · subst h; exact level13  w
  · subst h; exact level14  w
  · subst h; exact level15  w
  · subst h; exact level16  w
  · subst h; exact level17  w
  · subst h; exact level18  w
  · subst h; exact level19  w

end Go.Proofs.YtmignlclfbaifaaGreat.Ar
