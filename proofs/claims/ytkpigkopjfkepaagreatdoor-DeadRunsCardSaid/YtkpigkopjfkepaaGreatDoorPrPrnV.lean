/- What ir.Print prints, as a plain function: what may be, and is printed alike, is alike; its lines; the places that an instruction's text names. Texts of places and ends: ir.v, ir.b, ir.end at small numbers. -/
import Derived.Test.YtkpigkopjfkepaaGreatDoorPrFlowSm
import Derived.Test.YtkpigkopjfkepaaGreatDoorPrArPW
import Derived.Lib.ItoaNum
import Derived.Lib.Join
import Derived.Test.YtkpigkopjfkepaaGreatDoorPrIrNameL
import Derived.Shelf.Strconv.Itoa3
import Derived.Deep.QuietTactic
import Derived.BigQuiet
import Derived.Laws.Concat
import Derived.Shelf.Strings.BuilderK
namespace Go.Proofs.YtkpigkopjfkepaaGreatDoor
open Go.RowKit
def L8 (s : ByteArray) : List UInt8 := s.data.toList
def vT (n : Int) : List UInt8 := 118 :: Lib.itoa n
def bT (n : Int) : List UInt8 := 98 :: Lib.itoa n
def whatT (x : LIns) : List UInt8 :=
 if x.kind = 1 then Lib.itoa x.n
 else if x.kind = 2 then vT x.a
 else if x.kind = 3 then L8 (Ar.sgn x.op) ++ [32] ++ vT x.a
 else if x.kind = 4 then vT x.a ++ [32] ++ L8 (Ar.sgn x.op) ++ [32] ++ vT x.b
 else if x.kind = 5 then L8 x.name ++ [91] ++ vT x.a ++ [93]
 else if x.kind = 7 then [114, 101, 97, 100]
 else if x.kind = 9 then L8 x.name ++ [40] ++ Lib.join (x.args.map vT) [44, 32] ++ [41]
 else []
def insT (x : LIns) : List UInt8 :=
 if x.kind = 6 then L8 x.name ++ [91] ++ vT x.a ++ [93, 32, 61, 32] ++ vT x.b
 else if x.kind = 8 then [112, 114, 105, 110, 116, 32] ++ vT x.a
 else vT x.d ++ [32, 61, 32] ++ whatT x
def endT (t : LTerm) : List UInt8 :=
 if t.kind = 1 then [106, 117, 109, 112, 32] ++ bT t.to
 else if t.kind = 2 then [105, 102, 32] ++ vT t.a ++ [32] ++ bT t.to ++ [32] ++ bT t.els
 else if t.kind = 3 then [114, 101, 116, 117, 114, 110, 32] ++ vT t.a
 else [116, 114, 97, 112, 32] ++ vT t.a
def ln (l : List (List UInt8)) : List UInt8 := (l.map (· ++ [10])).flatten
def bodyT (b : LBlock) : List (List UInt8) := b.ins.map insT ++ [endT b.term]
def labelT (k : Nat) : List UInt8 := bT k ++ [58]
def blocksLn : Nat → List LBlock → List (List UInt8)
 | _, [] => []
 | k, b :: r => labelT k :: ((bodyT b).map (9 :: ·) ++ blocksLn (k + 1) r)
def headT (f : LFlow) : List UInt8 := [102, 117, 110, 99, 32] ++ L8 f.name ++ [32] ++ Lib.itoa f.params ++ [32] ++ Lib.itoa f.values
def arrT (a : ByteArray × Int) : List UInt8 := [97, 114, 114, 97, 121, 32] ++ L8 a.1 ++ [32] ++ Lib.itoa a.2
def flowsLn (l : List LFlow) : List (List UInt8) := (l.map fun f => headT f :: blocksLn 0 f.blocks).flatten
def unitLn (u : LUnit) : List (List UInt8) := u.arrays.map arrT ++ flowsLn u.flows
def unitT (u : LUnit) : List UInt8 := ln (unitLn u)
theorem ln_append (l m : List (List UInt8)) : ln (l ++ m) = ln l ++ ln m := by simp [ln]
theorem ln_cons (x : List UInt8) (m : List (List UInt8)) : ln (x :: m) = x ++ [10] ++ ln m := by simp [ln]
theorem ln_nil : ln [] = [] := rfl
end Go.Proofs.YtkpigkopjfkepaaGreatDoor
namespace Go.Proofs.YtkpigkopjfkepaaGreatDoor
open Go.RowKit
theorem bwsX : Builder.Extra Tryz.prog Tryz.bws_ren := {
 sizeBuilder := by kernel_rfl,
 liesBuilder := by kernel_rfl,
 t5 := Tryz.underlying5,
 a5 := Tryz.isAgg5,
 z5 := Tryz.sizeOf5,
 v5 := Tryz.zeroValue5,
 infoByte := by kernel_rfl,
 cellsByte := by kernel_rfl,
 sizeByte := by kernel_rfl,
 neB5 := by decide }
theorem bstrX : Builder.Extra Tryz.prog Tryz.bstr_ren := {
 sizeBuilder := by kernel_rfl,
 liesBuilder := by kernel_rfl,
 t5 := Tryz.underlying5,
 a5 := Tryz.isAgg5,
 z5 := Tryz.sizeOf5,
 v5 := Tryz.zeroValue5,
 infoByte := by kernel_rfl,
 cellsByte := by kernel_rfl,
 sizeByte := by kernel_rfl,
 neB5 := by decide }
def S8 (l : List UInt8) : ByteArray := ⟨l.toArray⟩
theorem S8_L8 (s : ByteArray) : S8 (L8 s) = s := by unfold S8 L8; cases s; rfl
theorem S8_size (l : List UInt8) : (S8 l).size = l.length := rfl
theorem sadd (a b : List UInt8) (h : a.length + b.length ≤ 9223372036854775807) (W : World) : (Op.stringOp .add (S8 a) (S8 b)).run Tryz.prog W = .ok (.string (S8 (a ++ b))) W := by
 rw [run_string_add_sum W _ _ (by rw [S8_size, S8_size]; exact h)]
 unfold S8
 rw [ByteArray.mk_append_mk]
theorem dec_len : ∀ (k u : Nat), u < 10 ^ (k + 1) → (Lib.decDigits u).length ≤ k + 1 := by
 intro k
 induction k with
 | zero => intro u h; rw [Lib.decDigits, dif_pos (by simpa using h)]; simp
 | succ k ih =>
  intro u h
  rw [Lib.decDigits]
  by_cases hu : u < 10
  ·rw [dif_pos hu]; simp
  ·rw [dif_neg hu, List.length_append]
   have := ih (u / 10) (by rw [Nat.pow_succ] at h; omega)
   simp
   omega
theorem itoa_len2 {n : Int} (h0 : 0 ≤ n) (h1 : n < 100) : (Lib.itoa n).length ≤ 2 := by
 unfold Lib.itoa
 rw [if_neg (by omega)]
 exact dec_len 1 n.toNat (by omega)
def Pl (n : Int) : Prop := 0 ≤ n ∧ n < 100
theorem vT_len {n : Int} (h : Pl n) : (vT n).length ≤ 3 := by
 have := itoa_len2 h.1 h.2
 simp [vT]; omega
theorem bT_len {n : Int} (h : Pl n) : (bT n).length ≤ 3 := by
 have := itoa_len2 h.1 h.2
 simp [bT]; omega
theorem itoa_small (n : Int) (h : Pl n) (w : World) : Calls Tryz.prog 41 #[.int .i64 n] w fun e w' => e = .returned (.string (S8 (Lib.itoa n))) ∧ w = w' := by
 obtain ⟨i, rfl⟩ := Int.eq_ofNat_of_zero_le h.1
 have hi : i < 100 := by have := h.2; omega
 refine (Any.strconv_Itoa_small Tryz.itoaS i hi w).mono ?_
 rintro e w' ⟨rfl, rfl⟩
 refine ⟨?_, rfl⟩
 have : Lib.itoa (i : Int) = Lib.decDigits i := by unfold Lib.itoa; rw [if_neg (by omega)]; rfl
 rw [this]; rfl
theorem v_any (n : Int) (h : Pl n) (w : World) : Calls Tryz.prog 81 #[.int .i64 n] w fun e w' => e = .returned (.string (S8 (vT n))) ∧ w = w' := by
 have hadd : ∀ W : World, (Op.stringOp .add ⟨#[118]⟩ (S8 (Lib.itoa n))).run Tryz.prog W = .ok (.string (S8 (vT n))) W := fun W => sadd [118] _ (by have := itoa_len2 h.1 h.2; simp; omega) W
 have HI := Lib.hid (fun w => itoa_small n h w)
 clear h
 generalize S8 (Lib.itoa n) = s at *
 generalize S8 (vT n) = t at *
 go_enter Tryz.func81, Tryz.ntmps81
 go_wp2_with (go_at_call 41; refine (HI.out _).mono ?_; rintro e w' ⟨rfl, rfl⟩)
 go_ret
 exact ⟨rfl, rfl⟩
theorem b_any (n : Int) (h : Pl n) (w : World) : Calls Tryz.prog 42 #[.int .i64 n] w fun e w' => e = .returned (.string (S8 (bT n))) ∧ w = w' := by
 have hadd : ∀ W : World, (Op.stringOp .add ⟨#[98]⟩ (S8 (Lib.itoa n))).run Tryz.prog W = .ok (.string (S8 (bT n))) W := fun W => sadd [98] _ (by have := itoa_len2 h.1 h.2; simp; omega) W
 have HI := Lib.hid (fun w => itoa_small n h w)
 clear h
 generalize S8 (Lib.itoa n) = s at *
 generalize S8 (bT n) = t at *
 go_enter Tryz.func42, Tryz.ntmps42
 go_wp2_with (go_at_call 41; refine (HI.out _).mono ?_; rintro e w' ⟨rfl, rfl⟩)
 go_ret
 exact ⟨rfl, rfl⟩
theorem v_quiet {n : Int} {s : ByteArray} (H : ∀ w, Calls Tryz.prog 81 #[.int .i64 n] w fun e w' => e = .returned (.string s) ∧ w = w') (w : World) (m : Nat) : Calls Tryz.prog 81 #[.int .i64 n] (w.drewN m) fun e w'' => e = .returned (.string s) ∧ ∃ m, w'' = w.drewN m :=
 (H (w.drewN m)).mono fun _ _ ⟨he, hw⟩ => ⟨he, m, hw.symm⟩
theorem b_quiet {n : Int} {s : ByteArray} (H : ∀ w, Calls Tryz.prog 42 #[.int .i64 n] w fun e w' => e = .returned (.string s) ∧ w = w') (w : World) (m : Nat) : Calls Tryz.prog 42 #[.int .i64 n] (w.drewN m) fun e w'' => e = .returned (.string s) ∧ ∃ m, w'' = w.drewN m :=
 (H (w.drewN m)).mono fun _ _ ⟨he, hw⟩ => ⟨he, m, hw.symm⟩
theorem below_drewN {B : Nat} {a w : World} (h : Below B a w) (n : Nat) : Below B a (w.drewN n) := ⟨h.os, h.tape, h.output, h.size, h.block⟩
section
set_option maxHeartbeats 2000000
set_option maxRecDepth 100000
theorem pend_any (t : LTerm) (ha : Pl t.a) (ht : Pl t.to) (he : Pl t.els) (hk : t.kind = 1 ∨ t.kind = 2 ∨ t.kind = 3 ∨ t.kind = 4) (w : World) :
  Calls Tryz.prog 44 #[.agg #[.int .i64 t.kind, .int .i64 t.a, .int .i64 t.to, .int .i64 t.els]] w fun e w' => e = .returned (.string (S8 (endT t))) ∧ Below w.heap.size w w' := by
 obtain ⟨k, a, dst, els⟩ := t
 replace ha : Pl a := ha
 replace ht : Pl dst := ht
 replace he : Pl els := he
 replace hk : k = 1 ∨ k = 2 ∨ k = 3 ∨ k = 4 := hk
 have la := vT_len ha
 have lt := bT_len ht
 have le := bT_len he
 have HVA := Lib.hid (v_any a ha)
 have HBT := Lib.hid (b_any dst ht)
 have HBE := Lib.hid (b_any els he)
 clear ha ht he
 rcases hk with rfl | rfl | rfl | rfl
 ·have e0 : endT ⟨1, a, dst, els⟩ = [106, 117, 109, 112, 32] ++ bT dst := rfl
  rw [e0]
  have hadd : ∀ W : World, (Op.stringOp .add ⟨#[106, 117, 109, 112, 32]⟩ (S8 (bT dst))).run Tryz.prog W = .ok (.string (S8 ([106, 117, 109, 112, 32] ++ bT dst))) W := fun W => sadd _ _ (by simp; omega) W
  generalize S8 ([106, 117, 109, 112, 32] ++ bT dst) = r at *
  generalize S8 (bT dst) = s at *
  clear HVA HBE la lt le e0
  go_enter Tryz.func44, Tryz.ntmps44
  go_wp2_with (go_at_call 42; refine (HBT.out _).mono ?_; rintro e w' ⟨rfl, rfl⟩)
  go_ret
  exact ⟨rfl, (Below.refl _ _).alloc (Nat.le_refl _) _⟩
 ·have e0 : endT ⟨2, a, dst, els⟩ = [105, 102, 32] ++ vT a ++ [32] ++ bT dst ++ [32] ++ bT els := rfl
  rw [e0]
  have h1 : ∀ W : World, (Op.stringOp .add ⟨#[105, 102, 32]⟩ (S8 (vT a))).run Tryz.prog W = .ok (.string (S8 ([105, 102, 32] ++ vT a))) W := fun W => sadd _ _ (by simp; omega) W
  have h2 : ∀ W : World, (Op.stringOp .add (S8 ([105, 102, 32] ++ vT a)) ⟨#[32]⟩).run Tryz.prog W = .ok (.string (S8 ([105, 102, 32] ++ vT a ++ [32]))) W := fun W => sadd _ [32] (by simp; omega) W
  have h3 : ∀ W : World, (Op.stringOp .add (S8 ([105, 102, 32] ++ vT a ++ [32])) (S8 (bT dst))).run Tryz.prog W = .ok (.string (S8 ([105, 102, 32] ++ vT a ++ [32] ++ bT dst))) W := fun W => sadd _ _ (by simp; omega) W
  have h4 : ∀ W : World, (Op.stringOp .add (S8 ([105, 102, 32] ++ vT a ++ [32] ++ bT dst)) ⟨#[32]⟩).run Tryz.prog W = .ok (.string (S8 ([105, 102, 32] ++ vT a ++ [32] ++ bT dst ++ [32]))) W := fun W => sadd _ [32] (by simp; omega) W
  have h5 : ∀ W : World, (Op.stringOp .add (S8 ([105, 102, 32] ++ vT a ++ [32] ++ bT dst ++ [32])) (S8 (bT els))).run Tryz.prog W = .ok (.string (S8 ([105, 102, 32] ++ vT a ++ [32] ++ bT dst ++ [32] ++ bT els))) W := fun W => sadd _ _ (by simp; omega) W
  generalize S8 ([105, 102, 32] ++ vT a ++ [32] ++ bT dst ++ [32] ++ bT els) = r5 at *
  generalize S8 ([105, 102, 32] ++ vT a ++ [32] ++ bT dst ++ [32]) = r4 at *
  generalize S8 ([105, 102, 32] ++ vT a ++ [32] ++ bT dst) = r3 at *
  generalize S8 ([105, 102, 32] ++ vT a ++ [32]) = r2 at *
  generalize S8 ([105, 102, 32] ++ vT a) = r1 at *
  generalize S8 (vT a) = va at *
  generalize S8 (bT dst) = bt at *
  generalize S8 (bT els) = be at *
  clear la lt le e0
  go_enter Tryz.func44, Tryz.ntmps44
  go_upto_region 5 with fail
  refine wp_world ?_
  intro W hW
  have hB : Below w.heap.size w W := by rw [← hW]; exact below1 _ _
  have hT : Blk W w.heap.size 46 #[.int .i64 2, .int .i64 a, .int .i64 dst, .int .i64 els] := by rw [← hW]; exact Blk.new_at _ _ _ rfl
  have c1 : W.cell? ⟨w.heap.size, 1, none⟩ = some (.int .i64 a) := hT.cell 1
  have c2 : W.cell? ⟨w.heap.size, 2, none⟩ = some (.int .i64 dst) := hT.cell 2
  have c3 : W.cell? ⟨w.heap.size, 3, none⟩ = some (.int .i64 els) := hT.cell 3
  clear hW
  go_quiet (first | (go_at_call 81; with_reducible exact v_quiet HVA.out _ _) | (go_at_call 42; first | with_reducible exact b_quiet HBT.out _ _ | with_reducible exact b_quiet HBE.out _ _))
  go_wp2
  go_ret
  exact ⟨rfl, below_drewN hB _⟩
 ·have e0 : endT ⟨3, a, dst, els⟩ = [114, 101, 116, 117, 114, 110, 32] ++ vT a := rfl
  rw [e0]
  have hadd : ∀ W : World, (Op.stringOp .add ⟨#[114, 101, 116, 117, 114, 110, 32]⟩ (S8 (vT a))).run Tryz.prog W = .ok (.string (S8 ([114, 101, 116, 117, 114, 110, 32] ++ vT a))) W := fun W => sadd _ _ (by simp; omega) W
  generalize S8 ([114, 101, 116, 117, 114, 110, 32] ++ vT a) = r at *
  generalize S8 (vT a) = s at *
  clear HBT HBE la lt le e0
  go_enter Tryz.func44, Tryz.ntmps44
  go_wp2_with (go_at_call 81; refine (HVA.out _).mono ?_; rintro e w' ⟨rfl, rfl⟩)
  go_ret
  exact ⟨rfl, (Below.refl _ _).alloc (Nat.le_refl _) _⟩
 ·have e0 : endT ⟨4, a, dst, els⟩ = [116, 114, 97, 112, 32] ++ vT a := rfl
  rw [e0]
  have hadd : ∀ W : World, (Op.stringOp .add ⟨#[116, 114, 97, 112, 32]⟩ (S8 (vT a))).run Tryz.prog W = .ok (.string (S8 ([116, 114, 97, 112, 32] ++ vT a))) W := fun W => sadd _ _ (by simp; omega) W
  generalize S8 ([116, 114, 97, 112, 32] ++ vT a) = r at *
  generalize S8 (vT a) = s at *
  clear HBT HBE la lt le e0
  go_enter Tryz.func44, Tryz.ntmps44
  go_wp2_with (go_at_call 81; refine (HVA.out _).mono ?_; rintro e w' ⟨rfl, rfl⟩)
  go_ret
  exact ⟨rfl, (Below.refl _ _).alloc (Nat.le_refl _) _⟩
end
end Go.Proofs.YtkpigkopjfkepaaGreatDoor
