/- What ir.Print prints, as a plain function: what may be, and is printed alike, is alike; its lines; the places that an instruction's text names. -/
import Derived.Test.YtnpnhdmfdhnmfaaGreatDoorFlowSm
import Derived.Test.YtnpnhdmfdhnmfaaGreatDoorArA
import Derived.Lib.ItoaNum
import Derived.Lib.Join
namespace Go.Proofs.YtnpnhdmfdhnmfaaGreatDoor
open Go.RowKit

/-- a text's bytes -/
def L8 (s : ByteArray) : List UInt8 := s.data.toList
def vT (n : Int) : List UInt8 := 118 :: Lib.itoa n
def bT (n : Int) : List UInt8 := 98 :: Lib.itoa n
/-- what an instruction makes, as text -/
def whatT (x : LIns) : List UInt8 :=
  if x.kind = 1 then Lib.itoa x.n
  else if x.kind = 2 then vT x.a
  else if x.kind = 3 then L8 (Ar.sgn x.op) ++ [32] ++ vT x.a
  else if x.kind = 4 then vT x.a ++ [32] ++ L8 (Ar.sgn x.op) ++ [32] ++ vT x.b
  else if x.kind = 5 then L8 x.name ++ [91] ++ vT x.a ++ [93]
  else if x.kind = 7 then [114, 101, 97, 100]
  else if x.kind = 9 then L8 x.name ++ [40] ++ Lib.join (x.args.map vT) [44, 32] ++ [41]
  else []
def insT (x : LIns) : List UInt8 :=
  if x.kind = 6 then L8 x.name ++ [91] ++ vT x.a ++ [93, 32, 61, 32] ++ vT x.b
  else if x.kind = 8 then [112, 114, 105, 110, 116, 32] ++ vT x.a
  else vT x.d ++ [32, 61, 32] ++ whatT x
def endT (t : LTerm) : List UInt8 :=
  if t.kind = 1 then [106, 117, 109, 112, 32] ++ bT t.to
  else if t.kind = 2 then [105, 102, 32] ++ vT t.a ++ [32] ++ bT t.to ++ [32] ++ bT t.els
  else if t.kind = 3 then [114, 101, 116, 117, 114, 110, 32] ++ vT t.a
  else [116, 114, 97, 112, 32] ++ vT t.a
/-- lines, put together -/
def ln (l : List (List UInt8)) : List UInt8 := (l.map (· ++ [10])).flatten
def bodyT (b : LBlock) : List (List UInt8) := b.ins.map insT ++ [endT b.term]
def labelT (k : Nat) : List UInt8 := bT k ++ [58]
def blocksLn : Nat → List LBlock → List (List UInt8)
  | _, [] => []
  | k, b :: r => labelT k :: ((bodyT b).map (9 :: ·) ++ blocksLn (k + 1) r)
def headT (f : LFlow) : List UInt8 := [102, 117, 110, 99, 32] ++ L8 f.name ++ [32] ++ Lib.itoa f.params ++ [32] ++ Lib.itoa f.values
def arrT (a : ByteArray × Int) : List UInt8 := [97, 114, 114, 97, 121, 32] ++ L8 a.1 ++ [32] ++ Lib.itoa a.2
def flowsLn (l : List LFlow) : List (List UInt8) := (l.map fun f => headT f :: blocksLn 0 f.blocks).flatten
def unitLn (u : LUnit) : List (List UInt8) := u.arrays.map arrT ++ flowsLn u.flows
def unitT (u : LUnit) : List UInt8 := ln (unitLn u)

/-! ### numbers back out of their texts -/
theorem dec_mem : ∀ (u : Nat) (c : UInt8), c ∈ Lib.decDigits u → ∃ k, k < 10 ∧ c = UInt8.ofNat (48 + k) := by
  intro u
  induction u using Nat.strongRecOn with
  | _ u ih =>
    intro c hc
    rw [Lib.decDigits] at hc
    by_cases h : u < 10
    · rw [dif_pos h] at hc
      exact ⟨u, h, by simpa using hc⟩
    · rw [dif_neg h] at hc
      rcases List.mem_append.1 hc with hc | hc
      · exact ih (u / 10) (by omega) c hc
      · exact ⟨u % 10, by omega, by simpa using hc⟩
theorem dig_nat {k : Nat} (h : k < 10) : (UInt8.ofNat (48 + k)).toNat = 48 + k := by
  rcases (by omega : k = 0 ∨ k = 1 ∨ k = 2 ∨ k = 3 ∨ k = 4 ∨ k = 5 ∨ k = 6 ∨ k = 7 ∨ k = 8 ∨ k = 9) with rfl | rfl | rfl | rfl | rfl | rfl | rfl | rfl | rfl | rfl <;> rfl
theorem itoa_mem {n : Int} {c : UInt8} (h : c ∈ Lib.itoa n) : c = 45 ∨ ∃ k, k < 10 ∧ c = UInt8.ofNat (48 + k) := by
  unfold Lib.itoa at h
  by_cases hn : n < 0
  · rw [if_pos hn] at h
    rcases List.mem_cons.1 h with h | h
    · exact .inl h
    · exact .inr (dec_mem _ _ h)
  · rw [if_neg hn] at h
    exact .inr (dec_mem _ _ h)
theorem itoa_not {n : Int} {c : UInt8} (h : c ∈ Lib.itoa n) {d : UInt8} (hd : d.toNat < 45 ∨ 57 < d.toNat) : c ≠ d := by
  rintro rfl
  rcases itoa_mem h with rfl | ⟨k, hk, rfl⟩
  · revert hd; decide
  · rw [dig_nat hk] at hd; omega
def undD (l : List UInt8) : Nat := l.foldl (fun a c => a * 10 + (c.toNat - 48)) 0
theorem undD_dec : ∀ u : Nat, undD (Lib.decDigits u) = u := by
  intro u
  induction u using Nat.strongRecOn with
  | _ u ih =>
    rw [Lib.decDigits]
    by_cases h : u < 10
    · rw [dif_pos h]
      simp [undD]; omega
    · rw [dif_neg h]
      have h1 := ih (u / 10) (by omega)
      unfold undD at h1 ⊢
      rw [List.foldl_append, h1]
      have h2 : u % 10 < 10 := by omega
      simp
      omega
theorem dec_ne (u : Nat) : Lib.decDigits u ≠ [] := by
  rw [Lib.decDigits]
  by_cases h : u < 10
  · rw [dif_pos h]; simp
  · rw [dif_neg h]; simp
def undN (l : List UInt8) : Int := if l.head? = some 45 then -(undD l.tail : Int) else (undD l : Int)
theorem undN_itoa (n : Int) : undN (Lib.itoa n) = n := by
  unfold Lib.itoa undN
  by_cases hn : n < 0
  · rw [if_pos hn, if_pos (by rfl)]
    show -(undD (Lib.decDigits n.natAbs) : Int) = n
    rw [undD_dec]; omega
  · rw [if_neg hn, if_neg, undD_dec]
    · omega
    · intro h
      obtain ⟨c, r, e⟩ := List.exists_cons_of_ne_nil (dec_ne n.toNat)
      rw [e] at h
      have hc : c = 45 := by simpa using h
      obtain ⟨k, hk, e2⟩ := dec_mem n.toNat c (by rw [e]; simp)
      have := dig_nat hk
      rw [← e2, hc] at this
      have h45 : (45 : UInt8).toNat = 45 := by decide
      omega
theorem itoa_inj {m n : Int} (h : Lib.itoa m = Lib.itoa n) : m = n := by rw [← undN_itoa m, h, undN_itoa]
/-- a number's only digit -/
def dgt (c : UInt8) : Int := (c.toNat : Int) - 48
theorem itoa_one {d : Int} (h0 : 0 ≤ d) (h1 : d < 10) : ∃ c, Lib.itoa d = [c] ∧ dgt c = d := by
  obtain ⟨k, rfl⟩ := Int.eq_ofNat_of_zero_le h0
  have hk : k < 10 := by omega
  refine ⟨UInt8.ofNat (48 + k), ?_, ?_⟩
  · unfold Lib.itoa
    rw [if_neg (by omega)]
    show Lib.decDigits k = _
    rw [Lib.decDigits, dif_pos hk]
  · unfold dgt; rw [dig_nat hk]; omega

/-! ### instructions that Fit makes -/
inductive InsC : LIns → Prop
  | num (d n : Int) : 0 ≤ d → d < 10 → InsC ⟨1, d, 0, 0, 0, n, sNone, []⟩
  | move (d a : Int) : 0 ≤ d → d < 10 → 0 ≤ a → a < 10 → InsC ⟨2, d, a, 0, 0, 0, sNone, []⟩
  | one (d a op : Int) : 0 ≤ d → d < 10 → 0 ≤ a → a < 10 → 17 ≤ op → op ≤ 19 → InsC ⟨3, d, a, 0, op, 0, sNone, []⟩
  | two (d a b op : Int) : 0 ≤ d → d < 10 → 0 ≤ a → a < 10 → 0 ≤ b → b < 10 → 1 ≤ op → op ≤ 16 → InsC ⟨4, d, a, b, op, 0, sNone, []⟩
  | load (d a : Int) (s : ByteArray) : 0 ≤ d → d < 10 → 0 ≤ a → a < 10 → s = sA ∨ s = sB → InsC ⟨5, d, a, 0, 0, 0, s, []⟩
  | store (a b : Int) (s : ByteArray) : 0 ≤ a → a < 10 → 0 ≤ b → b < 10 → s = sA ∨ s = sB → InsC ⟨6, 0, a, b, 0, 0, s, []⟩
  | read (d : Int) : 0 ≤ d → d < 10 → InsC ⟨7, d, 0, 0, 0, 0, sNone, []⟩
  | print (a : Int) : 0 ≤ a → a < 10 → InsC ⟨8, 0, a, 0, 0, 0, sNone, []⟩
  | call0 (d : Int) : 0 ≤ d → d < 10 → InsC ⟨9, d, 0, 0, 0, 0, sMain, []⟩
  | call1 (d p : Int) : 0 ≤ d → d < 10 → 0 ≤ p → p < 10 → InsC ⟨9, d, 0, 0, 0, 0, sF, [p]⟩
  | call2 (d p q : Int) : 0 ≤ d → d < 10 → 0 ≤ p → p < 10 → 0 ≤ q → q < 10 → InsC ⟨9, d, 0, 0, 0, 0, sG, [p, q]⟩
inductive EndC (n : Int) : LTerm → Prop
  | jump (dst : Int) : 0 ≤ dst → dst < n → EndC n ⟨1, 0, dst, 0⟩
  | if_ (a dst els : Int) : 0 ≤ a → a < 10 → 0 ≤ dst → dst < n → 0 ≤ els → els < n → EndC n ⟨2, a, dst, els⟩
  | ret (a : Int) : 0 ≤ a → a < 10 → EndC n ⟨3, a, 0, 0⟩
  | trap (a : Int) : 0 ≤ a → a < 10 → EndC n ⟨4, a, 0, 0⟩

/-- an operator out of its sign -/
def unsg1 (c : UInt8) : Int := if c = 45 then 17 else if c = 33 then 18 else 19
def unsg2 (l : List UInt8) : Int :=
  if l = [43] then 1 else if l = [45] then 2 else if l = [42] then 3 else if l = [47] then 4 else if l = [37] then 5 else if l = [38] then 6 else if l = [124] then 7 else if l = [94] then 8
  else if l = [60, 60] then 9 else if l = [62, 62] then 10 else if l = [60] then 11 else if l = [60, 61] then 12 else if l = [62] then 13 else if l = [62, 61] then 14 else if l = [61, 61] then 15 else 16
def at8 (l : List UInt8) (i : Nat) : UInt8 := l.getD i 0
def undW (d : Int) (w : List UInt8) : LIns :=
  if at8 w 0 = 118 then (if w.length = 2 then ⟨2, d, dgt (at8 w 1), 0, 0, 0, sNone, []⟩ else ⟨4, d, dgt (at8 w 1), dgt (at8 w (w.length - 1)), unsg2 ((w.drop 3).take (w.length - 6)), 0, sNone, []⟩)
  else if at8 w 0 = 114 then ⟨7, d, 0, 0, 0, 0, sNone, []⟩
  else if at8 w 0 = 97 then ⟨5, d, dgt (at8 w 3), 0, 0, 0, sA, []⟩
  else if at8 w 0 = 98 then ⟨5, d, dgt (at8 w 3), 0, 0, 0, sB, []⟩
  else if at8 w 0 = 109 then ⟨9, d, 0, 0, 0, 0, sMain, []⟩
  else if at8 w 0 = 102 then ⟨9, d, 0, 0, 0, 0, sF, [dgt (at8 w 3)]⟩
  else if at8 w 0 = 103 then ⟨9, d, 0, 0, 0, 0, sG, [dgt (at8 w 3), dgt (at8 w 7)]⟩
  else if at8 w 1 = 32 then ⟨3, d, dgt (at8 w 3), 0, unsg1 (at8 w 0), 0, sNone, []⟩
  else ⟨1, d, 0, 0, 0, undN w, sNone, []⟩
def undI (l : List UInt8) : LIns :=
  if at8 l 0 = 112 then ⟨8, 0, dgt (at8 l 7), 0, 0, 0, sNone, []⟩
  else if at8 l 0 = 97 then ⟨6, 0, dgt (at8 l 3), dgt (at8 l 9), 0, 0, sA, []⟩
  else if at8 l 0 = 98 then ⟨6, 0, dgt (at8 l 3), dgt (at8 l 9), 0, 0, sB, []⟩
  else undW (dgt (at8 l 1)) (l.drop 5)
def undE (l : List UInt8) : LTerm :=
  if at8 l 0 = 106 then ⟨1, 0, dgt (at8 l 6), 0⟩
  else if at8 l 0 = 105 then ⟨2, dgt (at8 l 4), dgt (at8 l 7), dgt (at8 l 10)⟩
  else if at8 l 0 = 114 then ⟨3, dgt (at8 l 8), 0, 0⟩
  else ⟨4, dgt (at8 l 6), 0, 0⟩

theorem join_none : Lib.join ([].map vT) [44, 32] = [] := rfl
theorem undI_num {d n : Int} {c : UInt8} (e : Lib.itoa d = [c]) (hc : dgt c = d) : undI (insT ⟨1, d, 0, 0, 0, n, sNone, []⟩) = ⟨1, d, 0, 0, 0, n, sNone, []⟩ := by
  have h0 : undN (Lib.itoa n) = n := undN_itoa n
  have hm : ∀ x ∈ Lib.itoa n, x ≠ 118 ∧ x ≠ 114 ∧ x ≠ 97 ∧ x ≠ 98 ∧ x ≠ 109 ∧ x ≠ 102 ∧ x ≠ 103 ∧ x ≠ 32 := fun x hx =>
    ⟨itoa_not hx (by decide), itoa_not hx (by decide), itoa_not hx (by decide), itoa_not hx (by decide), itoa_not hx (by decide), itoa_not hx (by decide), itoa_not hx (by decide), itoa_not hx (by decide)⟩
  have hne : Lib.itoa n ≠ [] := by
    unfold Lib.itoa
    by_cases hn : n < 0
    · rw [if_pos hn]; simp
    · rw [if_neg hn]; exact dec_ne _
  have e1 : insT ⟨1, d, 0, 0, 0, n, sNone, []⟩ = 118 :: c :: 32 :: 61 :: 32 :: Lib.itoa n := by simp [insT, whatT, vT, e]
  rw [e1]
  obtain ⟨x, r, er⟩ := List.exists_cons_of_ne_nil hne
  rw [er] at hm h0 ⊢
  obtain ⟨g1, g2, g3, g4, g5, g6, g7, g8⟩ := hm x (by simp)
  have hr : at8 (x :: r) 1 ≠ 32 := by
    cases r with
    | nil => simp [at8]
    | cons y r' => have := (hm y (by simp)).2.2.2.2.2.2.2; simpa [at8] using this
  have h1 : at8 (118 :: c :: 32 :: 61 :: 32 :: x :: r) 0 = 118 := rfl
  unfold undI
  rw [h1, if_neg (by decide), if_neg (by decide), if_neg (by decide)]
  show undW (dgt c) (x :: r) = _
  have h2 : at8 (x :: r) 0 = x := rfl
  unfold undW
  rw [h2, if_neg g1, if_neg g2, if_neg g3, if_neg g4, if_neg g5, if_neg g6, if_neg g7, if_neg hr, h0, hc]
theorem undI_ins {x : LIns} (h : InsC x) : undI (insT x) = x := by
  cases h with
  | num d n h0 h1 => obtain ⟨c, e, hc⟩ := itoa_one h0 h1; exact undI_num e hc
  | move d a h0 h1 a0 a1 =>
    obtain ⟨c, e, hc⟩ := itoa_one h0 h1
    obtain ⟨p, e2, hp⟩ := itoa_one a0 a1
    simp [insT, whatT, vT, e, e2, undI, undW, at8, hc, hp]
  | one d a op h0 h1 a0 a1 o0 o1 =>
    obtain ⟨c, e, hc⟩ := itoa_one h0 h1
    obtain ⟨p, e2, hp⟩ := itoa_one a0 a1
    rcases (by omega : op = 17 ∨ op = 18 ∨ op = 19) with rfl | rfl | rfl <;> simp [insT, whatT, vT, e, e2, undI, undW, at8, hc, hp, Ar.sgn, L8, unsg1]
  | two d a b op h0 h1 a0 a1 b0 b1 o0 o1 =>
    obtain ⟨c, e, hc⟩ := itoa_one h0 h1
    obtain ⟨p, e2, hp⟩ := itoa_one a0 a1
    obtain ⟨q, e3, hq⟩ := itoa_one b0 b1
    rcases (by omega : op = 1 ∨ op = 2 ∨ op = 3 ∨ op = 4 ∨ op = 5 ∨ op = 6 ∨ op = 7 ∨ op = 8 ∨ op = 9 ∨ op = 10 ∨ op = 11 ∨ op = 12 ∨ op = 13 ∨ op = 14 ∨ op = 15 ∨ op = 16) with rfl | rfl | rfl | rfl | rfl | rfl | rfl | rfl | rfl | rfl | rfl | rfl | rfl | rfl | rfl | rfl <;> simp [insT, whatT, vT, e, e2, e3, undI, undW, at8, hc, hp, hq, Ar.sgn, L8, unsg2]
  | load d a s h0 h1 a0 a1 hs =>
    obtain ⟨c, e, hc⟩ := itoa_one h0 h1
    obtain ⟨p, e2, hp⟩ := itoa_one a0 a1
    rcases hs with rfl | rfl <;> simp [insT, whatT, vT, e, e2, undI, undW, at8, hc, hp, L8, sA, sB]
  | store a b s a0 a1 b0 b1 hs =>
    obtain ⟨p, e2, hp⟩ := itoa_one a0 a1
    obtain ⟨q, e3, hq⟩ := itoa_one b0 b1
    rcases hs with rfl | rfl <;> simp [insT, vT, e2, e3, undI, at8, hp, hq, L8, sA, sB]
  | read d h0 h1 =>
    obtain ⟨c, e, hc⟩ := itoa_one h0 h1
    simp [insT, whatT, vT, e, undI, undW, at8, hc]
  | print a a0 a1 =>
    obtain ⟨p, e2, hp⟩ := itoa_one a0 a1
    simp [insT, vT, e2, undI, at8, hp]
  | call0 d h0 h1 =>
    obtain ⟨c, e, hc⟩ := itoa_one h0 h1
    simp [insT, whatT, vT, e, undI, undW, at8, hc, L8, sMain, Lib.join]
  | call1 d p h0 h1 a0 a1 =>
    obtain ⟨c, e, hc⟩ := itoa_one h0 h1
    obtain ⟨p', e2, hp⟩ := itoa_one a0 a1
    simp [insT, whatT, vT, e, e2, undI, undW, at8, hc, hp, L8, sF, Lib.join_one]
  | call2 d p q h0 h1 a0 a1 b0 b1 =>
    obtain ⟨c, e, hc⟩ := itoa_one h0 h1
    obtain ⟨p', e2, hp⟩ := itoa_one a0 a1
    obtain ⟨q', e3, hq⟩ := itoa_one b0 b1
    simp [insT, whatT, vT, e, e2, e3, undI, undW, at8, hc, hp, hq, L8, sG, Lib.join_cons, Lib.joinTail]
theorem undE_end {n : Int} (hn : n ≤ 10) {t : LTerm} (h : EndC n t) : undE (endT t) = t := by
  cases h with
  | jump dst h0 h1 => obtain ⟨c, e, hc⟩ := itoa_one h0 (by omega : dst < 10); simp [endT, bT, e, undE, at8, hc]
  | if_ a dst els a0 a1 h0 h1 g0 g1 =>
    obtain ⟨c, e, hc⟩ := itoa_one a0 a1
    obtain ⟨p, e2, hp⟩ := itoa_one h0 (by omega : dst < 10)
    obtain ⟨q, e3, hq⟩ := itoa_one g0 (by omega : els < 10)
    simp [endT, bT, vT, e, e2, e3, undE, at8, hc, hp, hq]
  | ret a a0 a1 => obtain ⟨c, e, hc⟩ := itoa_one a0 a1; simp [endT, vT, e, undE, at8, hc]
  | trap a a0 a1 => obtain ⟨c, e, hc⟩ := itoa_one a0 a1; simp [endT, vT, e, undE, at8, hc]

/-! ### lines back out of a text -/
def cutN : List UInt8 → List UInt8 → List (List UInt8)
  | _, [] => []
  | acc, c :: r => if c = 10 then acc.reverse :: cutN [] r else cutN (c :: acc) r
theorem cutN_line : ∀ (x acc r : List UInt8), 10 ∉ x → cutN acc (x ++ 10 :: r) = (acc.reverse ++ x) :: cutN [] r
  | [], acc, r, _ => by simp [cutN]
  | c :: x, acc, r, h => by
    have hc : c ≠ 10 := fun e => h (by simp [e])
    have hx : 10 ∉ x := fun e => h (by simp [e])
    show (if c = 10 then acc.reverse :: cutN [] (x ++ 10 :: r) else cutN (c :: acc) (x ++ 10 :: r)) = _
    rw [if_neg hc, cutN_line x (c :: acc) r hx]
    simp
theorem cutN_ln : ∀ l : List (List UInt8), (∀ x ∈ l, 10 ∉ x) → cutN [] (ln l) = l
  | [], _ => rfl
  | x :: l, h => by
    have e : ln (x :: l) = x ++ 10 :: ln l := by simp [ln]
    rw [e, cutN_line x [] _ (h x (by simp)), cutN_ln l fun y hy => h y (by simp [hy])]
    simp
theorem ln_inj {l m : List (List UInt8)} (hl : ∀ x ∈ l, 10 ∉ x) (hm : ∀ x ∈ m, 10 ∉ x) (h : ln l = ln m) : l = m := by rw [← cutN_ln l hl, h, cutN_ln m hm]
theorem ln_append (l m : List (List UInt8)) : ln (l ++ m) = ln l ++ ln m := by simp [ln]
theorem ln_cons (x : List UInt8) (m : List (List UInt8)) : ln (x :: m) = x ++ [10] ++ ln m := by simp [ln]
theorem ln_nil : ln [] = [] := rfl
theorem count_ln : ∀ l : List (List UInt8), (∀ x ∈ l, 10 ∉ x) → (ln l).count 10 = l.length
  | [], _ => rfl
  | x :: l, h => by
    rw [ln_cons, List.count_append, List.count_append, count_ln l fun y hy => h y (by simp [hy]), List.count_eq_zero.2 (h x (by simp))]
    simp [Nat.add_comm]
theorem ln_last {l : List (List UInt8)} (h : l ≠ []) : (ln l).getLast? = some 10 := by
  rw [← List.dropLast_concat_getLast h, ln_append, ln_cons]
  simp [ln]

/-! ### the blocks' lines back out of a unit's -/
abbrev DSt : Type := List (List UInt8) × List (List (List UInt8)) × List (List (List (List UInt8)))
def dstep (l : List UInt8) (s : DSt) : DSt :=
  if l.head? = some 9 then (l.tail :: s.1, s.2.1, s.2.2) else if l.head? = some 98 then ([], s.1 :: s.2.1, s.2.2) else if l.head? = some 102 then ([], [], s.2.1 :: s.2.2) else s
theorem dstep_tab (l : List UInt8) (s : DSt) : dstep (9 :: l) s = (l :: s.1, s.2.1, s.2.2) := rfl
theorem dstep_label (k : Nat) (s : DSt) : dstep (labelT k) s = ([], s.1 :: s.2.1, s.2.2) := rfl
theorem dstep_head (f : LFlow) (s : DSt) : dstep (headT f) s = ([], [], s.2.1 :: s.2.2) := by
  have h : (headT f).head? = some 102 := by simp [headT]
  unfold dstep
  rw [h, if_neg (by decide), if_neg (by decide), if_pos rfl]
theorem dstep_arr (a : ByteArray × Int) (s : DSt) : dstep (arrT a) s = s := by
  have h : (arrT a).head? = some 97 := by simp [arrT]
  unfold dstep
  rw [h, if_neg (by decide), if_neg (by decide), if_neg (by decide)]
theorem dec_tabs (l : List (List UInt8)) (s : DSt) : (l.map (9 :: ·)).foldr dstep s = (l ++ s.1, s.2.1, s.2.2) := by
  induction l with
  | nil => rfl
  | cons x r ih => rw [List.map_cons, List.foldr_cons, ih, dstep_tab]; rfl
theorem dec_blocks : ∀ (l : List LBlock) (k : Nat) (bs : List (List (List UInt8))) (fs : List (List (List (List UInt8)))), (blocksLn k l).foldr dstep (([], bs, fs) : DSt) = (([], l.map bodyT ++ bs, fs) : DSt)
  | [], _, _, _ => rfl
  | b :: r, k, bs, fs => by
    rw [blocksLn, List.foldr_cons, List.foldr_append, dec_blocks r (k + 1) bs fs, dec_tabs, dstep_label]
    simp
theorem dec_flows : ∀ (l : List LFlow) (fs : List (List (List (List UInt8)))), (flowsLn l).foldr dstep (([], [], fs) : DSt) = (([], [], l.map (fun f => f.blocks.map bodyT) ++ fs) : DSt)
  | [], _ => rfl
  | f :: r, fs => by
    have e : flowsLn (f :: r) = headT f :: (blocksLn 0 f.blocks ++ flowsLn r) := by simp [flowsLn]
    rw [e, List.foldr_cons, List.foldr_append, dec_flows r fs, dec_blocks, dstep_head]
    simp
theorem dec_unit (u : LUnit) : (unitLn u).foldr dstep (([], [], []) : DSt) = (([], [], u.flows.map (fun f => f.blocks.map bodyT)) : DSt) := by
  rw [unitLn, List.foldr_append, dec_flows]
  generalize hs : (([], [], u.flows.map (fun f => f.blocks.map bodyT) ++ []) : DSt) = s
  have h : ∀ l : List (ByteArray × Int), (l.map arrT).foldr dstep s = s := fun l => by
    induction l with
    | nil => rfl
    | cons a r ih => rw [List.map_cons, List.foldr_cons, ih, dstep_arr]
  rw [h, ← hs]
  simp
/-- a block that Fit makes -/
structure BlkC (n : Int) (b : LBlock) : Prop where
  ins : ∀ x ∈ b.ins, InsC x
  term : EndC n b.term
theorem body_inj {n : Int} (hn : n ≤ 10) {b c : LBlock} (hb : BlkC n b) (hc : BlkC n c) (h : bodyT b = bodyT c) : b = c := by
  have hi : b.ins.map insT = c.ins.map insT := (List.append_inj' h rfl).1
  have ht : endT b.term = endT c.term := by
    have := (List.append_inj' h rfl).2
    simpa using this
  have h1 : ∀ l : List LIns, (∀ x ∈ l, InsC x) → (l.map insT).map undI = l := fun l hl => by
    induction l with
    | nil => rfl
    | cons x r ih => rw [List.map_cons, List.map_cons, undI_ins (hl x (by simp)), ih fun y hy => hl y (by simp [hy])]
  have h2 : b.ins = c.ins := by rw [← h1 b.ins hb.ins, hi, h1 c.ins hc.ins]
  have h3 : b.term = c.term := by rw [← undE_end hn hb.term, ht, undE_end hn hc.term]
  cases b; cases c; simp_all
theorem EndC.up {n : Int} {t : LTerm} (h : EndC n t) (hn : n ≤ 10) : EndC 10 t := by
  cases h with
  | jump dst a b => exact EndC.jump dst a (by omega)
  | if_ a dst els a0 a1 a2 a3 a4 a5 => exact EndC.if_ a dst els a0 a1 a2 (by omega) a4 (by omega)
  | ret a a0 a1 => exact EndC.ret a a0 a1
  | trap a a0 a1 => exact EndC.trap a a0 a1
theorem blocks_inj {n m : Int} (hn : n ≤ 10) (hm : m ≤ 10) : ∀ {l r : List LBlock}, (∀ b ∈ l, BlkC n b) → (∀ b ∈ r, BlkC m b) → l.map bodyT = r.map bodyT → l = r
  | [], [], _, _, _ => rfl
  | [], _ :: _, _, _, h => by simp at h
  | _ :: _, [], _, _, h => by simp at h
  | b :: l, c :: r, hl, hr, h => by
    rw [List.map_cons, List.map_cons] at h
    injection h with h1 h2
    have up : ∀ {k : Int} {x : LBlock}, k ≤ 10 → BlkC k x → BlkC 10 x := fun hk hx => ⟨hx.ins, hx.term.up hk⟩
    rw [body_inj (Int.le_refl 10) (up hn (hl b (by simp))) (up hm (hr c (by simp))) h1, blocks_inj hn hm (fun x hx => hl x (by simp [hx])) (fun x hx => hr x (by simp [hx])) h2]

/-! ### no line has a line's end in it -/
theorem itoa_no (n : Int) : (10 : UInt8) ∉ Lib.itoa n := fun h => itoa_not h (by decide) rfl
theorem vT_no (n : Int) : (10 : UInt8) ∉ vT n := fun h => by
  rcases List.mem_cons.1 h with h | h
  · exact absurd h (by decide)
  · exact itoa_no n h
theorem bT_no (n : Int) : (10 : UInt8) ∉ bT n := fun h => by
  rcases List.mem_cons.1 h with h | h
  · exact absurd h (by decide)
  · exact itoa_no n h
theorem sgn_no10 (op : Int) : (10 : UInt8) ∉ L8 (Ar.sgn op) := by
  rcases (by omega : (op = 1 ∨ op = 2 ∨ op = 3 ∨ op = 4 ∨ op = 5 ∨ op = 6 ∨ op = 7 ∨ op = 8 ∨ op = 9 ∨ op = 10 ∨ op = 11 ∨ op = 12 ∨ op = 13 ∨ op = 14 ∨ op = 15 ∨ op = 16 ∨ op = 17 ∨ op = 18 ∨ op = 19) ∨ (op < 1 ∨ 19 < op)) with (rfl | rfl | rfl | rfl | rfl | rfl | rfl | rfl | rfl | rfl | rfl | rfl | rfl | rfl | rfl | rfl | rfl | rfl | rfl) | h
  all_goals first | decide | ((unfold Ar.sgn; iterate 19 (rw [if_neg (by omega)])); decide)
theorem join_no {l : List (List UInt8)} (h : ∀ x ∈ l, (10 : UInt8) ∉ x) : (10 : UInt8) ∉ Lib.join l [44, 32] := by
  cases l with
  | nil => simp [Lib.join_nil]
  | cons x r =>
    rw [Lib.join_cons]
    intro hm
    rcases List.mem_append.1 hm with hm | hm
    · exact h x (by simp) hm
    · unfold Lib.joinTail at hm
      obtain ⟨y, hy, h10⟩ := List.mem_flatten.1 hm
      obtain ⟨z, hz, rfl⟩ := List.mem_map.1 hy
      rcases List.mem_append.1 h10 with h10 | h10
      · revert h10; decide
      · exact h z (by simp [hz]) h10
theorem insT_no {x : LIns} (hn : (10 : UInt8) ∉ L8 x.name) : (10 : UInt8) ∉ insT x := by
  have hv := vT_no
  have hj : (10 : UInt8) ∉ Lib.join (x.args.map vT) [44, 32] := join_no fun y hy => by
    obtain ⟨z, _, rfl⟩ := List.mem_map.1 hy
    exact vT_no z
  have hs := sgn_no10 x.op
  have hi := itoa_no x.n
  have hw : (10 : UInt8) ∉ whatT x := by
    unfold whatT
    repeat' split
    all_goals simp [hv, hs, hi, hn, hj]
  unfold insT
  repeat' split
  all_goals simp [hv, hn, hw]
theorem endT_no (t : LTerm) : (10 : UInt8) ∉ endT t := by
  have hv := vT_no
  have hb := bT_no
  unfold endT
  repeat' split
  all_goals simp [hv, hb]
theorem blocksLn_no : ∀ (l : List LBlock) (k : Nat), (∀ b ∈ l, ∀ x ∈ b.ins, (10 : UInt8) ∉ L8 x.name) → ∀ y ∈ blocksLn k l, (10 : UInt8) ∉ y
  | [], _, _, y, hy => by simp [blocksLn] at hy
  | b :: r, k, h, y, hy => by
    rw [blocksLn] at hy
    rcases List.mem_cons.1 hy with rfl | hy
    · have := bT_no k; simp [labelT, this]
    · rcases List.mem_append.1 hy with hy | hy
      · obtain ⟨z, hz, rfl⟩ := List.mem_map.1 hy
        have hz' : (10 : UInt8) ∉ z := by
          rcases List.mem_append.1 hz with hz | hz
          · obtain ⟨x, hx, rfl⟩ := List.mem_map.1 hz
            exact insT_no (h b (by simp) x hx)
          · rw [List.mem_singleton.1 hz]; exact endT_no _
        intro hm
        rcases List.mem_cons.1 hm with hm | hm
        · revert hm; decide
        · exact hz' hm
      · exact blocksLn_no r (k + 1) (fun b' hb' => h b' (by simp [hb'])) y hy
theorem unitLn_no {u : LUnit} (ha : ∀ a ∈ u.arrays, (10 : UInt8) ∉ L8 a.1) (hf : ∀ f ∈ u.flows, (10 : UInt8) ∉ L8 f.name) (hi : ∀ f ∈ u.flows, ∀ b ∈ f.blocks, ∀ x ∈ b.ins, (10 : UInt8) ∉ L8 x.name) : ∀ y ∈ unitLn u, (10 : UInt8) ∉ y := by
  intro y hy
  have hit := itoa_no
  rcases List.mem_append.1 hy with hy | hy
  · obtain ⟨a, ha', rfl⟩ := List.mem_map.1 hy
    have := ha a ha'
    simp [arrT, this, hit]
  · unfold flowsLn at hy
    obtain ⟨l, hl, hy⟩ := List.mem_flatten.1 hy
    obtain ⟨f, hf', rfl⟩ := List.mem_map.1 hl
    rcases List.mem_cons.1 hy with rfl | hy
    · have := hf f hf'
      simp [headT, this, hit]
    · exact blocksLn_no f.blocks 0 (hi f hf') y hy

theorem arr_name (k : Int) : arrName k = sA ∨ arrName k = sB := by
  unfold arrName
  by_cases h : k = 0
  · rw [if_pos h]; exact .inl rfl
  · rw [if_neg h]; exact .inr rfl
theorem fit_insC (y : LIns) : InsC (fitIns y) := by
  have k0 := pk_lo y.kind 9 (by omega)
  have k1 := pk_hi y.kind 9 (by omega)
  obtain ⟨d0, d1⟩ := pk_small y.d
  obtain ⟨a0, a1⟩ := pk_small y.a
  obtain ⟨b0, b1⟩ := pk_small y.b
  rcases (by omega : pk y.kind 9 = 0 ∨ pk y.kind 9 = 1 ∨ pk y.kind 9 = 2 ∨ pk y.kind 9 = 3 ∨ pk y.kind 9 = 4 ∨ pk y.kind 9 = 5 ∨ pk y.kind 9 = 6 ∨ pk y.kind 9 = 7 ∨ pk y.kind 9 = 8) with e | e | e | e | e | e | e | e | e
  · have h : fitIns y = ⟨1, pk y.d 10, 0, 0, 0, y.n, sNone, []⟩ := by simp [fitIns, e]
    rw [h]; exact InsC.num _ _ d0 d1
  · have h : fitIns y = ⟨2, pk y.d 10, pk y.a 10, 0, 0, 0, sNone, []⟩ := by simp [fitIns, e]
    rw [h]; exact InsC.move _ _ d0 d1 a0 a1
  · have h : fitIns y = ⟨3, pk y.d 10, pk y.a 10, 0, 17 + pk y.op 3, 0, sNone, []⟩ := by simp [fitIns, e]
    have o0 := pk_lo y.op 3 (by omega)
    have o1 := pk_hi y.op 3 (by omega)
    rw [h]; exact InsC.one _ _ _ d0 d1 a0 a1 (by omega) (by omega)
  · have h : fitIns y = ⟨4, pk y.d 10, pk y.a 10, pk y.b 10, 1 + pk y.op 16, 0, sNone, []⟩ := by simp [fitIns, e]
    have o0 := pk_lo y.op 16 (by omega)
    have o1 := pk_hi y.op 16 (by omega)
    rw [h]; exact InsC.two _ _ _ _ d0 d1 a0 a1 b0 b1 (by omega) (by omega)
  · have h : fitIns y = ⟨5, pk y.d 10, pk y.a 10, 0, 0, 0, arrName (pk y.n 2), []⟩ := by simp [fitIns, e]
    rw [h]; exact InsC.load _ _ _ d0 d1 a0 a1 (arr_name _)
  · have h : fitIns y = ⟨6, 0, pk y.a 10, pk y.b 10, 0, 0, arrName (pk y.n 2), []⟩ := by simp [fitIns, e]
    rw [h]; exact InsC.store _ _ _ a0 a1 b0 b1 (arr_name _)
  · have h : fitIns y = ⟨7, pk y.d 10, 0, 0, 0, 0, sNone, []⟩ := by simp [fitIns, e]
    rw [h]; exact InsC.read _ d0 d1
  · have h : fitIns y = ⟨8, 0, pk y.a 10, 0, 0, 0, sNone, []⟩ := by simp [fitIns, e]
    rw [h]; exact InsC.print _ a0 a1
  · have n0 := pk_lo y.n 3 (by omega)
    have n1 := pk_hi y.n 3 (by omega)
    have h : fitIns y = ⟨9, pk y.d 10, 0, 0, 0, 0, fnName (pk y.n 3), (List.range (pk y.n 3).toNat).map (fitArg y)⟩ := by simp [fitIns, e]
    rw [h]
    rcases (by omega : pk y.n 3 = 0 ∨ pk y.n 3 = 1 ∨ pk y.n 3 = 2) with g | g | g
    · rw [g]; exact InsC.call0 _ d0 d1
    · rw [g]
      obtain ⟨p0, p1⟩ := pk_small (wrap64 (y.a + wrap64 (((0 : Nat) : Int) * y.b)))
      exact InsC.call1 _ (fitArg y 0) d0 d1 p0 p1
    · rw [g]
      obtain ⟨p0, p1⟩ := pk_small (wrap64 (y.a + wrap64 (((0 : Nat) : Int) * y.b)))
      obtain ⟨q0, q1⟩ := pk_small (wrap64 (y.a + wrap64 (((1 : Nat) : Int) * y.b)))
      exact InsC.call2 _ (fitArg y 0) (fitArg y 1) d0 d1 p0 p1 q0 q1
theorem fit_endC (t : LTerm) (n : Int) (hn : 0 < n) : EndC n (fitTerm t n) := by
  have k0 := pk_lo t.kind 4 (by omega)
  have k1 := pk_hi t.kind 4 (by omega)
  obtain ⟨a0, a1⟩ := pk_small t.a
  have t0 := pk_lo t.to n hn
  have t1 := pk_hi t.to n hn
  have e0 := pk_lo t.els n hn
  have e1 := pk_hi t.els n hn
  rcases (by omega : pk t.kind 4 = 0 ∨ pk t.kind 4 = 1 ∨ pk t.kind 4 = 2 ∨ pk t.kind 4 = 3) with e | e | e | e
  · have h : fitTerm t n = ⟨1, 0, pk t.to n, 0⟩ := by simp [fitTerm, e]
    rw [h]; exact EndC.jump _ t0 t1
  · have h : fitTerm t n = ⟨2, pk t.a 10, pk t.to n, pk t.els n⟩ := by simp [fitTerm, e]
    rw [h]; exact EndC.if_ _ _ _ a0 a1 t0 t1 e0 e1
  · have h : fitTerm t n = ⟨3, pk t.a 10, 0, 0⟩ := by simp [fitTerm, e]
    rw [h]; exact EndC.ret _ a0 a1
  · have h : fitTerm t n = ⟨4, pk t.a 10, 0, 0⟩ := by simp [fitTerm, e]
    rw [h]; exact EndC.trap _ a0 a1
theorem fit_blkC (raw : List LBlock) (k : Nat) : ∀ b ∈ (fitFl raw k).blocks, BlkC ((fitFl raw k).blocks.length : Int) b := fun b hb => by
  have hp := fit_pos raw k
  rw [fit_len] at hp ⊢
  obtain ⟨y, _, rfl⟩ := List.mem_map.1 hb
  refine ⟨fun x hx => ?_, fit_endC _ _ (by omega)⟩
  obtain ⟨z, _, rfl⟩ := List.mem_map.1 hx
  exact fit_insC z
theorem insC_name {x : LIns} (h : InsC x) : (10 : UInt8) ∉ L8 x.name := by
  have n0 : (10 : UInt8) ∉ L8 sNone := by decide
  have n1 : (10 : UInt8) ∉ L8 sA := by decide
  have n2 : (10 : UInt8) ∉ L8 sB := by decide
  have n3 : (10 : UInt8) ∉ L8 sMain := by decide
  have n4 : (10 : UInt8) ∉ L8 sF := by decide
  have n5 : (10 : UInt8) ∉ L8 sG := by decide
  cases h with
  | load d a s _ _ _ _ hs => rcases hs with rfl | rfl <;> assumption
  | store d a s _ _ _ _ hs => rcases hs with rfl | rfl <;> assumption
  | _ => assumption
theorem fit_ln (raw : List LBlock) : ∀ y ∈ unitLn (fitU raw), (10 : UInt8) ∉ y := by
  refine unitLn_no (fun a ha => ?_) (fun f hf => ?_) fun f hf b hb x hx => ?_
  · rcases (by simpa [fitU, fitArrays] using ha : a = (sA, 4) ∨ a = (sB, 10)) with rfl | rfl <;> decide
  · obtain ⟨k, _, rfl⟩ := List.mem_map.1 hf
    show (10 : UInt8) ∉ L8 (fnName k)
    unfold fnName
    split
    · decide
    · split <;> decide
  · obtain ⟨k, _, rfl⟩ := List.mem_map.1 hf
    exact insC_name ((fit_blkC raw k b hb).ins x hx)
theorem fit_three (raw : List LBlock) : (fitU raw).flows = [fitFl raw 0, fitFl raw 1, fitFl raw 2] := rfl
/-- unlike units that Fit makes have unlike texts -/
theorem print_fit_inj {r s : List LBlock} (h : unitT (fitU r) = unitT (fitU s)) : fitU r = fitU s := by
  have h1 := ln_inj (fit_ln r) (fit_ln s) h
  have h2 := dec_unit (fitU r)
  rw [h1, dec_unit (fitU s), fit_three, fit_three] at h2
  injection h2 with _ h2
  injection h2 with _ h2
  simp only [List.map_cons, List.map_nil] at h2
  injection h2 with e0 h2
  injection h2 with e1 h2
  injection h2 with e2 _
  have hb : ∀ k, (fitFl s k).blocks.map bodyT = (fitFl r k).blocks.map bodyT → fitFl r k = fitFl s k := fun k e => by
    have l1 := fit_le r k
    have l2 := fit_le s k
    have := blocks_inj (by omega) (by omega) (fit_blkC s k) (fit_blkC r k) e
    have e1 : fitFl r k = { name := fnName k, params := k, values := 10, blocks := (fitFl r k).blocks } := rfl
    have e2 : fitFl s k = { name := fnName k, params := k, values := 10, blocks := (fitFl s k).blocks } := rfl
    rw [e1, e2, this]
  have f0 := hb 0 e0
  have f1 := hb 1 e1
  have f2 := hb 2 e2
  have e1 : fitU r = { arrays := fitArrays, flows := [fitFl r 0, fitFl r 1, fitFl r 2] } := rfl
  have e2 : fitU s = { arrays := fitArrays, flows := [fitFl s 0, fitFl s 1, fitFl s 2] } := rfl
  rw [e1, e2, f0, f1, f2]

/-! ### how many lines -/
theorem blocksLn_len : ∀ (l : List LBlock) (k : Nat), (blocksLn k l).length = (l.map fun b => 2 + b.ins.length).sum
  | [], _ => rfl
  | b :: r, k => by
    rw [blocksLn, List.length_cons, List.length_append, blocksLn_len r (k + 1), List.length_map, List.map_cons, List.sum_cons]
    simp [bodyT]
    omega
def wantLines (u : LUnit) : Nat := u.arrays.length + (u.flows.map fun f => 1 + (f.blocks.map fun b => 2 + b.ins.length).sum).sum
theorem unitLn_len (u : LUnit) : (unitLn u).length = wantLines u := by
  unfold unitLn wantLines
  rw [List.length_append, List.length_map]
  congr 1
  unfold flowsLn
  rw [List.length_flatten, List.map_map]
  congr 1
  refine List.map_congr_left fun f _ => ?_
  show (headT f :: blocksLn 0 f.blocks).length = _
  rw [List.length_cons, blocksLn_len]
  omega
theorem fit_lines (raw : List LBlock) : (unitT (fitU raw)).count 10 = wantLines (fitU raw) := by rw [unitT, count_ln _ (fit_ln raw), unitLn_len]
theorem fit_last (raw : List LBlock) : (unitT (fitU raw)).getLast? = some 10 := ln_last (by simp [unitLn, fitU, fitArrays])

/-! ### the places that an instruction's text names -/
def vAt (l : List UInt8) (i : Nat) : List Int := if at8 l i = 118 ∧ 48 ≤ at8 l (i + 1) ∧ at8 l (i + 1) ≤ 57 then [dgt (at8 l (i + 1))] else []
def scanV : List UInt8 → List Int
  | [] => []
  | [_] => []
  | c :: d :: r => (if c = 118 ∧ 48 ≤ d ∧ d ≤ 57 then [dgt d] else []) ++ scanV (d :: r)
theorem vAt_succ (c : UInt8) (l : List UInt8) (i : Nat) : vAt (c :: l) (i + 1) = vAt l i := rfl
theorem scan_range : ∀ (l : List UInt8) (c : UInt8) (r : List UInt8), ((List.range l.length).flatMap fun i => vAt (l ++ c :: r) i) = scanV (l ++ [c])
  | [], _, _ => rfl
  | [x], c, r => by simp [scanV, vAt, at8]
  | x :: y :: l, c, r => by
    have ih := scan_range (y :: l) c r
    rw [List.length_cons, List.range_succ_eq_map, List.flatMap_cons, List.flatMap_map]
    show vAt (x :: y :: (l ++ c :: r)) 0 ++ ((List.range (y :: l).length).flatMap fun i => vAt ((y :: l) ++ c :: r) i) = _
    rw [ih]
    rfl
theorem scan_free : ∀ (l r : List UInt8), (118 : UInt8) ∉ l → scanV (l ++ r) = scanV r
  | [], _, _ => rfl
  | c :: l, r, h => by
    have hc : c ≠ 118 := fun e => h (by simp [e])
    have hl : (118 : UInt8) ∉ l := fun e => h (by simp [e])
    have ih := scan_free l r hl
    cases hlr : l ++ r with
    | nil =>
      rw [hlr] at ih
      show scanV (c :: (l ++ r)) = _
      rw [hlr, ← ih]; rfl
    | cons d q =>
      rw [hlr] at ih
      show scanV (c :: (l ++ r)) = _
      rw [hlr, ← ih, scanV, if_neg (fun e => hc e.1)]
      rfl
theorem scan_num {d n : Int} {c : UInt8} (e : Lib.itoa d = [c]) (hc : dgt c = d) (h1 : 48 ≤ c ∧ c ≤ 57) (h8 : c ≠ 118) : scanV (insT ⟨1, d, 0, 0, 0, n, sNone, []⟩ ++ [10, 9, 106]) = [d] := by
  have e1 : insT ⟨1, d, 0, 0, 0, n, sNone, []⟩ = 118 :: c :: 32 :: 61 :: 32 :: Lib.itoa n := by simp [insT, whatT, vT, e]
  have hn : (118 : UInt8) ∉ Lib.itoa n := fun h => itoa_not h (by decide) rfl
  have h0 : (118 : UInt8) ∉ (c :: 32 :: 61 :: 32 :: Lib.itoa n) := by simp [hn, Ne.symm h8]
  rw [e1]
  show scanV (118 :: c :: (32 :: 61 :: 32 :: Lib.itoa n ++ [10, 9, 106])) = [d]
  rw [scanV, if_pos ⟨rfl, h1⟩]
  show [dgt c] ++ scanV ((c :: 32 :: 61 :: 32 :: Lib.itoa n) ++ [10, 9, 106]) = [d]
  rw [scan_free _ _ h0, hc]
  simp [scanV]
theorem itoa_dig {d : Int} (h0 : 0 ≤ d) (h1 : d < 10) : ∃ c, Lib.itoa d = [c] ∧ dgt c = d ∧ (48 ≤ c ∧ c ≤ 57) ∧ c ≠ 118 := by
  obtain ⟨k, rfl⟩ := Int.eq_ofNat_of_zero_le h0
  have hk : k < 10 := by omega
  obtain ⟨c, e, hc⟩ := itoa_one h0 h1
  have hk' : (c.toNat : Int) = 48 + k := by unfold dgt at hc; omega
  refine ⟨c, e, hc, ⟨?_, ?_⟩, ?_⟩
  · rw [UInt8.le_iff_toNat_le]; have : (48 : UInt8).toNat = 48 := by decide
    omega
  · rw [UInt8.le_iff_toNat_le]; have : (57 : UInt8).toNat = 57 := by decide
    omega
  · rintro rfl
    have : (118 : UInt8).toNat = 118 := by decide
    omega
/-- what an instruction sets and uses are the places that its text names -/
theorem scan_ins {x : LIns} (h : InsC x) : scanV (insT x ++ [10, 9, 106]) = setsL x ++ usesL x := by
  cases h with
  | num d n h0 h1 =>
    obtain ⟨c, e, hc, g, g8⟩ := itoa_dig h0 h1
    rw [scan_num e hc g g8]; simp [setsL, usesL, hasA, hasB]
  | move d a h0 h1 a0 a1 =>
    obtain ⟨c, e, hc, ⟨g1, g2⟩, g8⟩ := itoa_dig h0 h1
    obtain ⟨p, e2, hp, ⟨p1, p2⟩, p8⟩ := itoa_dig a0 a1
    simp [insT, whatT, vT, e, e2, scanV, hc, hp, setsL, usesL, hasA, hasB, g1, g2, p1, p2, g8, p8]
  | one d a op h0 h1 a0 a1 o0 o1 =>
    obtain ⟨c, e, hc, ⟨g1, g2⟩, g8⟩ := itoa_dig h0 h1
    obtain ⟨p, e2, hp, ⟨p1, p2⟩, p8⟩ := itoa_dig a0 a1
    rcases (by omega : op = 17 ∨ op = 18 ∨ op = 19) with rfl | rfl | rfl <;> simp [insT, whatT, vT, e, e2, scanV, hc, hp, setsL, usesL, hasA, hasB, g1, g2, p1, p2, g8, p8, Ar.sgn, L8]
  | two d a b op h0 h1 a0 a1 b0 b1 o0 o1 =>
    obtain ⟨c, e, hc, ⟨g1, g2⟩, g8⟩ := itoa_dig h0 h1
    obtain ⟨p, e2, hp, ⟨p1, p2⟩, p8⟩ := itoa_dig a0 a1
    obtain ⟨q, e3, hq, ⟨q1, q2⟩, q8⟩ := itoa_dig b0 b1
    rcases (by omega : op = 1 ∨ op = 2 ∨ op = 3 ∨ op = 4 ∨ op = 5 ∨ op = 6 ∨ op = 7 ∨ op = 8 ∨ op = 9 ∨ op = 10 ∨ op = 11 ∨ op = 12 ∨ op = 13 ∨ op = 14 ∨ op = 15 ∨ op = 16) with rfl | rfl | rfl | rfl | rfl | rfl | rfl | rfl | rfl | rfl | rfl | rfl | rfl | rfl | rfl | rfl <;> simp [insT, whatT, vT, e, e2, e3, scanV, hc, hp, hq, setsL, usesL, hasA, hasB, g1, g2, p1, p2, q1, q2, g8, p8, q8, Ar.sgn, L8]
  | load d a s h0 h1 a0 a1 hs =>
    obtain ⟨c, e, hc, ⟨g1, g2⟩, g8⟩ := itoa_dig h0 h1
    obtain ⟨p, e2, hp, ⟨p1, p2⟩, p8⟩ := itoa_dig a0 a1
    rcases hs with rfl | rfl <;> simp [insT, whatT, vT, e, e2, scanV, hc, hp, setsL, usesL, hasA, hasB, g1, g2, p1, p2, g8, p8, L8, sA, sB]
  | store a b s a0 a1 b0 b1 hs =>
    obtain ⟨p, e2, hp, ⟨p1, p2⟩, p8⟩ := itoa_dig a0 a1
    obtain ⟨q, e3, hq, ⟨q1, q2⟩, q8⟩ := itoa_dig b0 b1
    rcases hs with rfl | rfl <;> simp [insT, vT, e2, e3, scanV, hp, hq, setsL, usesL, hasA, hasB, p1, p2, q1, q2, p8, q8, L8, sA, sB]
  | read d h0 h1 =>
    obtain ⟨c, e, hc, ⟨g1, g2⟩, g8⟩ := itoa_dig h0 h1
    simp [insT, whatT, vT, e, scanV, hc, setsL, usesL, hasA, hasB, g1, g2, g8]
  | print a a0 a1 =>
    obtain ⟨p, e2, hp, ⟨p1, p2⟩, p8⟩ := itoa_dig a0 a1
    simp [insT, vT, e2, scanV, hp, setsL, usesL, hasA, hasB, p1, p2, p8]
  | call0 d h0 h1 =>
    obtain ⟨c, e, hc, ⟨g1, g2⟩, g8⟩ := itoa_dig h0 h1
    simp [insT, whatT, vT, e, scanV, hc, setsL, usesL, hasA, hasB, g1, g2, g8, L8, sMain, Lib.join]
  | call1 d p h0 h1 a0 a1 =>
    obtain ⟨c, e, hc, ⟨g1, g2⟩, g8⟩ := itoa_dig h0 h1
    obtain ⟨p', e2, hp, ⟨p1, p2⟩, p8⟩ := itoa_dig a0 a1
    simp [insT, whatT, vT, e, e2, scanV, hc, hp, setsL, usesL, hasA, hasB, g1, g2, p1, p2, g8, p8, L8, sF, Lib.join_one]
  | call2 d p q h0 h1 a0 a1 b0 b1 =>
    obtain ⟨c, e, hc, ⟨g1, g2⟩, g8⟩ := itoa_dig h0 h1
    obtain ⟨p', e2, hp, ⟨p1, p2⟩, p8⟩ := itoa_dig a0 a1
    obtain ⟨q', e3, hq, ⟨q1, q2⟩, q8⟩ := itoa_dig b0 b1
    simp [insT, whatT, vT, e, e2, e3, scanV, hc, hp, hq, setsL, usesL, hasA, hasB, g1, g2, p1, p2, q1, q2, g8, p8, q8, L8, sG, Lib.join_cons, Lib.joinTail]
end Go.Proofs.YtnpnhdmfdhnmfaaGreatDoor
