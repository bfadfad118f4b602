/- The plain laws of layer 1: on what an operator makes of numbers of 64 bits. No program in sight. -/
import Derived.Test.YtagomghagaioeaaArWalks
namespace Go.Proofs.Ytagomghagaioeaa.L
open Go.RowKit

/-- a number of 64 bits -/
def I64 (a : Int) : Prop := -9223372036854775808 ≤ a ∧ a ≤ 9223372036854775807

theorem wrap_self {a : Int} (h : I64 a) : wrap64 a = a := IntWalk.wrap64_in a h
theorem wrap_in (a : Int) : I64 (wrap64 a) := by unfold I64 wrap64; omega
theorem wrap_mod (a : Int) : wrap64 a % 18446744073709551616 = a % 18446744073709551616 := by unfold wrap64; omega
theorem wrap_congr {a b : Int} (h : a % 18446744073709551616 = b % 18446744073709551616) : wrap64 a = wrap64 b := by unfold wrap64; omega
theorem wrap_add_l (a b : Int) : wrap64 (wrap64 a + b) = wrap64 (a + b) := wrap_congr (by rw [Int.add_emod, wrap_mod, ← Int.add_emod])
theorem wrap_add_r (a b : Int) : wrap64 (a + wrap64 b) = wrap64 (a + b) := wrap_congr (by rw [Int.add_emod, wrap_mod, ← Int.add_emod])
theorem wrap_sub_l (a b : Int) : wrap64 (wrap64 a - b) = wrap64 (a - b) := wrap_congr (by rw [Int.sub_emod, wrap_mod, ← Int.sub_emod])
theorem wrap_sub_r (a b : Int) : wrap64 (a - wrap64 b) = wrap64 (a - b) := wrap_congr (by rw [Int.sub_emod, wrap_mod, ← Int.sub_emod])
theorem wrap_mul_l (a b : Int) : wrap64 (wrap64 a * b) = wrap64 (a * b) := wrap_congr (by rw [Int.mul_emod, wrap_mod, ← Int.mul_emod])
theorem wrap_mul_r (a b : Int) : wrap64 (a * wrap64 b) = wrap64 (a * b) := wrap_congr (by rw [Int.mul_emod, wrap_mod, ← Int.mul_emod])
theorem wrap_neg (a : Int) : wrap64 (-wrap64 a) = wrap64 (-a) := by
  have := wrap_sub_r 0 a
  simpa using this
theorem wrap_wrap (a : Int) : wrap64 (wrap64 a) = wrap64 a := wrap_self (wrap_in a)

theorem two1 (a b : Int) : two 1 a b = wrap64 (a + b) := by simp [two]
theorem two2 (a b : Int) : two 2 a b = wrap64 (a - b) := by simp [two]
theorem two3 (a b : Int) : two 3 a b = wrap64 (a * b) := by simp [two]
theorem two4 {a b : Int} (h : b ≠ 0) : two 4 a b = divq a b := by simp [two, h]
theorem two5 {a b : Int} (h : b ≠ 0) : two 5 a b = remr a b := by simp [two, h]
theorem two6 (a b : Int) : two 6 a b = bits .and .i64 a b := by simp [two]
theorem two7 (a b : Int) : two 7 a b = bits .or .i64 a b := by simp [two]
theorem two8 (a b : Int) : two 8 a b = bits .xor .i64 a b := by simp [two]
theorem two9 (a b : Int) : two 9 a b = wrap64 (a * 2 ^ (shn b).toNat) := by simp [two]
theorem two10 (a b : Int) : two 10 a b = a / 2 ^ (shn b).toNat := by simp [two]

/-! ### sums -/
theorem sums1 (a b : Int) : (two 1 a b == two 1 b a) = true := by rw [two1, two1, Int.add_comm]; simp
theorem sums2 {a b : Int} (ha : I64 a) : (two 2 (two 1 a b) b == a) = true := by
  rw [two1, two2, wrap_sub_l, show a + b - b = a by omega, wrap_self ha]; simp
theorem sums3 (a b c : Int) : (two 3 (two 1 a b) c == wrap64 (two 3 a c + two 3 c b)) = true := by
  rw [two1, two3, two3, two3, wrap_mul_l, wrap_add_l, wrap_add_r, Int.add_mul, Int.mul_comm b c]; simp
theorem one17 (a : Int) : one 17 a = wrap64 (-a) := by simp [one]
theorem sums4 (a b : Int) : (two 2 a b == two 1 a (one 17 b)) = true := by
  rw [one17, two1, two2, wrap_add_r, show a + -b = a - b by omega]; simp

/-! ### the quotient and the rest -/
theorem div_parts {a b : Int} (hb : b ≠ 0) : remr a b + a.tdiv b * b = a := by
  have := Int.tmod_add_tdiv_mul a b
  rw [remr, if_neg hb]; exact this
theorem div_sum {a b : Int} (ha : I64 a) (hb : b ≠ 0) : (wrap64 (two 3 (divq a b) b + remr a b) != a) = false := by
  have h := div_parts (a := a) hb
  have : wrap64 (two 3 (divq a b) b + remr a b) = a := by
    rw [two3, divq, if_neg hb, wrap_mul_l, wrap_add_l, show a.tdiv b * b + remr a b = a by omega, wrap_self ha]
  rw [this]; simp
theorem rem_neg {a b : Int} (hb : b ≠ 0) (h : remr a b < 0) : a < 0 := by
  rw [remr, if_neg hb] at h
  by_cases h0 : a < 0
  · exact h0
  · have := Int.tmod_nonneg b (show 0 ≤ a by omega); omega
theorem rem_pos {a b : Int} (hb : b ≠ 0) (h : 0 < remr a b) : 0 < a := by
  rw [remr, if_neg hb] at h
  by_cases h0 : 0 < a
  · exact h0
  · have h1 := Int.tmod_nonneg b (show 0 ≤ -a by omega)
    rw [Int.neg_tmod] at h1; omega
theorem rem_near {a b : Int} (hb : b ≠ 0) : (0 < b → remr a b < b ∧ -remr a b < b) ∧ (b < 0 → b < remr a b ∧ b < -remr a b) := by
  rw [remr, if_neg hb]
  have h := Int.natAbs_tmod a b
  have h2 : a.natAbs % b.natAbs < b.natAbs := Nat.mod_lt _ (by omega)
  omega

/-! ### signs and levels -/
theorem sgn_inj {a b : Int} (a0 : 1 ≤ a) (a1 : a ≤ 16) (b0 : 1 ≤ b) (b1 : b ≤ 16) (h : a ≠ b) : ¬ (sgn a).toList = (sgn b).toList := by
  have key : ∀ x y : Fin 16, x ≠ y → ¬ (sgn (x.val + 1)).toList = (sgn (y.val + 1)).toList := by decide +kernel
  have := key ⟨(a - 1).toNat, by omega⟩ ⟨(b - 1).toNat, by omega⟩ (by intro e; injection e; omega)
  have e1 : (((a - 1).toNat : Nat) : Int) + 1 = a := by omega
  have e2 : (((b - 1).toNat : Nat) : Int) + 1 = b := by omega
  simp only [e1, e2] at this
  exact this
theorem lvl_lo {a : Int} (a0 : 1 ≤ a) (a1 : a ≤ 16) : 1 ≤ lvl a := by
  unfold lvl
  rw [if_neg (by omega)]
  repeat (split; · omega)
  omega
theorem lvl_hi (a : Int) : lvl a ≤ 8 := by
  unfold lvl
  repeat (split; · omega)
  omega
theorem lvl_up {a : Int} (h : 16 < a) : lvl a = 0 := by
  unfold lvl
  rw [if_pos (by omega)]

/-! ### without a sign -/
theorem u64_of {a : Int} (h : I64 a) : IntKind.u64.wrap a = if a < 0 then a + 18446744073709551616 else a := by
  unfold I64 at h
  rw [IntKind.wrap_u64]
  split <;> omega
theorem ltu_self (a : Int) : ltu a a = false := by simp [ltu]
theorem ltu_same {a b : Int} (ha : I64 a) (hb : I64 b) (h : (a < 0 ↔ b < 0)) : ltu a b = decide (a < b) := by
  unfold ltu
  rw [u64_of ha, u64_of hb]
  by_cases h1 : a < 0
  · rw [if_pos h1, if_pos (h.1 h1)]; congr 1; apply propext; omega
  · rw [if_neg h1, if_neg (fun h2 => h1 (h.2 h2))]
theorem ltu_other {a b : Int} (ha : I64 a) (hb : I64 b) (h : ¬ (a < 0 ↔ b < 0)) : ltu a b = decide (b < 0) := by
  unfold ltu
  rw [u64_of ha, u64_of hb]
  unfold I64 at ha hb
  by_cases h1 : a < 0
  · have h2 : ¬ b < 0 := fun h2 => h ⟨fun _ => h2, fun _ => h1⟩
    rw [if_pos h1, if_neg h2]; congr 1; apply propext; omega
  · have h2 : b < 0 := by
      by_cases h2 : b < 0
      · exact h2
      · exact absurd ⟨fun h3 => absurd h3 h1, fun h3 => absurd h3 (by omega)⟩ h
    rw [if_neg h1, if_pos h2]; congr 1; apply propext; omega

/-! ### bits -/
theorem wrap_ofInt (n : Int) : wrap64 n = (BitVec.ofInt 64 n).toInt := by
  rw [BitVec.toInt_ofInt]
  unfold wrap64
  rw [Int.bmod_def]
  split <;> omega
theorem bits_and (a b : Int) : bits .and .i64 a b = (BitVec.ofInt 64 a &&& BitVec.ofInt 64 b).toInt := by
  show IntKind.i64.wrap ((BitVec.ofInt 64 a &&& BitVec.ofInt 64 b).toNat : Int) = _
  rw [IntWalk.i64_left, wrap_ofInt, BitVec.ofInt_natCast, BitVec.ofNat_toNat, BitVec.setWidth_eq]
theorem bits_or (a b : Int) : bits .or .i64 a b = (BitVec.ofInt 64 a ||| BitVec.ofInt 64 b).toInt := by
  show IntKind.i64.wrap ((BitVec.ofInt 64 a ||| BitVec.ofInt 64 b).toNat : Int) = _
  rw [IntWalk.i64_left, wrap_ofInt, BitVec.ofInt_natCast, BitVec.ofNat_toNat, BitVec.setWidth_eq]
theorem bits_xor (a b : Int) : bits .xor .i64 a b = (BitVec.ofInt 64 a ^^^ BitVec.ofInt 64 b).toInt := by
  show IntKind.i64.wrap ((BitVec.ofInt 64 a ^^^ BitVec.ofInt 64 b).toNat : Int) = _
  rw [IntWalk.i64_left, wrap_ofInt, BitVec.ofInt_natCast, BitVec.ofNat_toNat, BitVec.setWidth_eq]
theorem wrap_add_bits (x y : BitVec 64) : wrap64 (x.toInt + y.toInt) = (x + y).toInt := by
  rw [wrap_ofInt, BitVec.ofInt_add, BitVec.ofInt_toInt, BitVec.ofInt_toInt]
theorem or_eq (x y : BitVec 64) : x ||| y = (x ^^^ y) + (x &&& y) := by
  rw [BitVec.add_eq_or_of_and_eq_zero]
  · ext i hi; simp only [BitVec.getElem_or, BitVec.getElem_xor, BitVec.getElem_and]; cases x[i] <;> cases y[i] <;> rfl
  · ext i hi; simp only [BitVec.getElem_xor, BitVec.getElem_and, BitVec.getElem_zero]; cases x[i] <;> cases y[i] <;> rfl
theorem split_and (x y : BitVec 64) : x = (x &&& ~~~y) + (x &&& y) := by
  rw [BitVec.add_eq_or_of_and_eq_zero]
  · ext i hi; simp only [BitVec.getElem_or, BitVec.getElem_and, BitVec.getElem_not]; cases x[i] <;> cases y[i] <;> rfl
  · ext i hi; simp only [BitVec.getElem_and, BitVec.getElem_not, BitVec.getElem_zero]; cases x[i] <;> cases y[i] <;> rfl
theorem or_split (x y : BitVec 64) : x ||| y = (x &&& ~~~y) + y := by
  rw [BitVec.add_eq_or_of_and_eq_zero]
  · ext i hi; simp only [BitVec.getElem_or, BitVec.getElem_and, BitVec.getElem_not]; cases x[i] <;> cases y[i] <;> rfl
  · ext i hi; simp only [BitVec.getElem_and, BitVec.getElem_not, BitVec.getElem_zero]; cases x[i] <;> cases y[i] <;> rfl
theorem add_or_and (x y : BitVec 64) : x + y = (x ||| y) + (x &&& y) := by
  have h := split_and x y
  rw [or_split, BitVec.add_assoc, BitVec.add_comm y, ← BitVec.add_assoc, ← h]
theorem bits1 (a b : Int) : (two 7 a b == wrap64 (two 8 a b + two 6 a b)) = true := by
  rw [two6, two7, two8, bits_and, bits_or, bits_xor, wrap_add_bits, ← or_eq]; simp
theorem bits2 (a b : Int) : (two 1 a b == wrap64 (two 7 a b + two 6 a b)) = true := by
  rw [two1, two6, two7, bits_and, bits_or, wrap_add_bits, ← add_or_and, wrap_ofInt, BitVec.ofInt_add]; simp
theorem ofInt_m1 : BitVec.ofInt 64 (-1) = BitVec.allOnes 64 := by decide +kernel
theorem one_add_m1 : (1#64 + BitVec.allOnes 64) = 0#64 := by decide +kernel
theorem one19 (a : Int) : one 19 a = wrap64 (-a - 1) := by
  have h : one 19 a = bits .xor .i64 (-1) a := by simp [one]
  have e : BitVec.allOnes 64 ^^^ BitVec.ofInt 64 a = ~~~ BitVec.ofInt 64 a + 1#64 + BitVec.allOnes 64 := by
    rw [BitVec.add_assoc, one_add_m1, BitVec.add_zero]
    ext i hi
    simp only [BitVec.getElem_xor, BitVec.getElem_not, BitVec.getElem_allOnes, Bool.true_xor]
  rw [h, bits_xor, ofInt_m1, wrap_ofInt, show -a - 1 = -a + -1 by omega, BitVec.ofInt_add, BitVec.ofInt_neg, ofInt_m1, BitVec.neg_eq_not_add, e]
theorem one19_in {a : Int} (h : I64 a) : one 19 a = -a - 1 := by
  rw [one19]; exact wrap_self (by unfold I64 at *; omega)

/-! ### shifts -/
theorem shn_small {n : Int} (h0 : 0 ≤ n) (h1 : n < 64) : shn n = n := by
  obtain ⟨m, rfl⟩ := Int.eq_ofNat_of_zero_le h0
  show IntKind.i64.wrap ((BitVec.ofInt 64 (m : Int) &&& BitVec.ofInt 64 63).toNat : Int) = _
  have e : (BitVec.ofInt 64 (m : Int) &&& BitVec.ofInt 64 63).toNat = m := by
    rw [BitVec.toNat_and, BitVec.ofInt_natCast, BitVec.toNat_ofNat, Nat.mod_eq_of_lt (by omega)]
    show m &&& 63 = m
    rw [show (63 : Nat) = 2 ^ 6 - 1 by decide, Nat.and_two_pow_sub_one_eq_mod]
    exact Nat.mod_eq_of_lt (by omega)
  rw [e, IntKind.wrap_i64]; omega
theorem shn_64 {n : Int} (h0 : 0 ≤ n) (h1 : n < 64) : shn (n + 64) = n := by
  obtain ⟨m, rfl⟩ := Int.eq_ofNat_of_zero_le h0
  show IntKind.i64.wrap ((BitVec.ofInt 64 ((m : Int) + 64) &&& BitVec.ofInt 64 63).toNat : Int) = _
  have e : (BitVec.ofInt 64 ((m : Int) + 64) &&& BitVec.ofInt 64 63).toNat = m := by
    rw [show (m : Int) + 64 = ((m + 64 : Nat) : Int) by omega, BitVec.toNat_and, BitVec.ofInt_natCast, BitVec.toNat_ofNat, Nat.mod_eq_of_lt (by omega)]
    show (m + 64) &&& 63 = m
    rw [show (63 : Nat) = 2 ^ 6 - 1 by decide, Nat.and_two_pow_sub_one_eq_mod]
    omega
  rw [e, IntKind.wrap_i64]; omega
theorem shl_shl (a : Int) {m n : Int} (hm : 0 ≤ m) (hm' : m < 32) (hn : 0 ≤ n) (hn' : n < 32) : two 9 (two 9 a m) n = two 9 a (m + n) := by
  rw [two9, two9, two9, shn_small hm (by omega), shn_small hn (by omega), shn_small (by omega) (by omega), wrap_mul_l]
  congr 1
  rw [Int.toNat_add hm hn, Int.pow_add, Int.mul_assoc]
theorem shr_shr (a : Int) {m n : Int} (hm : 0 ≤ m) (hm' : m < 32) (hn : 0 ≤ n) (hn' : n < 32) : two 10 (two 10 a m) n = two 10 a (m + n) := by
  rw [two10, two10, two10, shn_small hm (by omega), shn_small hn (by omega), shn_small (by omega) (by omega)]
  rw [Int.toNat_add hm hn, Int.pow_add]
  exact Int.ediv_ediv_of_nonneg (Int.le_of_lt (Int.pow_pos (by decide)))
theorem pow_lt {m : Int} (h0 : 0 ≤ m) (h1 : m < 63) : (1 : Int) ≤ 2 ^ m.toNat ∧ (2 : Int) ^ m.toNat ≤ 4611686018427387904 := by
  obtain ⟨n, rfl⟩ := Int.eq_ofNat_of_zero_le h0
  rw [Int.toNat_natCast]
  have h2 : 2 ^ n ≤ 2 ^ 62 := Nat.pow_le_pow_right (by decide) (by omega)
  have h3 : 1 ≤ 2 ^ n := Nat.one_le_two_pow
  have e : (2 : Int) ^ n = ((2 ^ n : Nat) : Int) := by simp
  rw [e]
  omega
theorem wrap_pow {m : Int} (h0 : 0 ≤ m) (h1 : m < 63) : wrap64 (2 ^ m.toNat) = 2 ^ m.toNat := wrap_self (by have := pow_lt h0 h1; unfold I64; omega)
theorem shl_mul (a : Int) {m : Int} (h0 : 0 ≤ m) (h1 : m < 64) : two 9 a m = two 3 a (wrap64 (2 ^ m.toNat)) := by
  rw [two9, two3, shn_small h0 h1, wrap_mul_r]
theorem shr_rest {a m : Int} (_ha : I64 a) (h0 : 0 ≤ m) (h1 : m < 32) : wrap64 (a - wrap64 (two 10 a m * wrap64 (2 ^ m.toNat))) = a % 2 ^ m.toNat := by
  have hp := pow_lt h0 (by omega : m < 63)
  rw [two10, shn_small h0 (by omega), wrap_sub_r, wrap_pow h0 (by omega)]
  have e : a - a / 2 ^ m.toNat * 2 ^ m.toNat = a % 2 ^ m.toNat := by rw [Int.emod_def, Int.mul_comm]
  rw [e]
  have l := Int.emod_nonneg a (show (2 : Int) ^ m.toNat ≠ 0 by omega)
  have u := Int.emod_lt_of_pos a (show (0 : Int) < 2 ^ m.toNat by omega)
  exact wrap_self (by unfold I64; omega)
theorem shr_lo {a m : Int} (ha : I64 a) (h0 : 0 ≤ m) (h1 : m < 32) : 0 ≤ wrap64 (a - wrap64 (two 10 a m * wrap64 (2 ^ m.toNat))) := by
  have hp := pow_lt h0 (by omega : m < 63)
  rw [shr_rest ha h0 h1]
  exact Int.emod_nonneg a (by omega)
theorem shr_hi {a m : Int} (ha : I64 a) (h0 : 0 ≤ m) (h1 : m < 32) : wrap64 (a - wrap64 (two 10 a m * wrap64 (2 ^ m.toNat))) < wrap64 (2 ^ m.toNat) := by
  have hp := pow_lt h0 (by omega : m < 63)
  rw [shr_rest ha h0 h1, wrap_pow h0 (by omega)]
  exact Int.emod_lt_of_pos a (by omega)
theorem shl_0 {a : Int} (ha : I64 a) : two 10 (two 9 a 0) 0 = a := by
  rw [two9, two10, shn_small (by decide) (by decide)]
  simp [wrap_self ha]
theorem shl_64 (a : Int) {n : Int} (h0 : 0 ≤ n) (h1 : n < 64) : two 9 a (n + 64) = two 9 a n := by
  rw [two9, two9, shn_64 h0 h1, shn_small h0 h1]
theorem small_shl {s n : Int} (s0 : 0 ≤ s) (s1 : s < 1048576) (h0 : 0 ≤ n) (h1 : n ≤ 42) : two 9 s n = s * 2 ^ n.toNat := by
  rw [two9, shn_small h0 (by omega)]
  obtain ⟨k, rfl⟩ := Int.eq_ofNat_of_zero_le h0
  obtain ⟨t, rfl⟩ := Int.eq_ofNat_of_zero_le s0
  rw [Int.toNat_natCast]
  have h2 : 2 ^ k ≤ 2 ^ 42 := Nat.pow_le_pow_right (by decide) (by omega)
  have h3 : t * 2 ^ k ≤ 1048575 * 2 ^ 42 := Nat.mul_le_mul (by omega) h2
  have e : (t : Int) * 2 ^ k = ((t * 2 ^ k : Nat) : Int) := by simp
  rw [e]
  exact wrap_self (by unfold I64; omega)
theorem small_back {s n : Int} (s0 : 0 ≤ s) (s1 : s < 1048576) (h0 : 0 ≤ n) (h1 : n ≤ 42) : two 10 (two 9 s n) n = s := by
  rw [small_shl s0 s1 h0 h1, two10, shn_small h0 (by omega)]
  exact Int.mul_ediv_cancel _ (by have := pow_lt h0 (by omega : n < 63); omega)
theorem small_mul {s n : Int} (h0 : 0 ≤ n) (h1 : n ≤ 42) : two 9 s n = wrap64 (s * wrap64 (2 ^ n.toNat)) := by
  rw [wrap_mul_r, two9, shn_small h0 (by omega)]
end Go.Proofs.Ytagomghagaioeaa.L
