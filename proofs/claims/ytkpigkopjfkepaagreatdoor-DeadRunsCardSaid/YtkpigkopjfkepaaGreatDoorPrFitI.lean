/- What the statements make of raw data (Fit of chapter 10's statements), as plain functions. What counterprooflaw10.pick and Ins do. -/
import Derived.Test.YtkpigkopjfkepaaGreatDoorPrMem
import Derived.Test.YtkpigkopjfkepaaGreatDoorRows
import Derived.WalkKit
import Derived.WalkSpells
import Derived.WalkLawsBesides
import Derived.Lib.Hide
import Derived.Deep.RegionHeld3
import Derived.Deep.RegionLaw
import Derived.Deep.AppendLies
namespace Go.Proofs.YtkpigkopjfkepaaGreatDoor
open Go.RowKit
def pk (a n : Int) : Int := (if a < 0 then -(a + 1) else a) % n
theorem pk_lo (a n : Int) (hn : 0 < n) : 0 ≤ pk a n := Int.emod_nonneg _ (by omega)
theorem pk_hi (a n : Int) (hn : 0 < n) : pk a n < n := Int.emod_lt_of_pos _ hn
def I64 (a : Int) : Prop := -9223372036854775808 ≤ a ∧ a ≤ 9223372036854775807
theorem I64.lo {a : Int} (h : I64 a) : -9223372036854775808 ≤ a := h.1
theorem I64.hi {a : Int} (h : I64 a) : a ≤ 9223372036854775807 := h.2
theorem i64_of_wf {a : Int} (h : (Lit.int .i64 a).wf = true) : I64 a := by
 simp [Lit.wf, IntKind.min, IntKind.max, IntKind.signed, IntKind.bits] at h
 unfold I64; omega
theorem wrap_in (a : Int) : I64 (wrap64 a) := by unfold I64 wrap64; omega
structure LIns.I (x : LIns) : Prop where
 kind : I64 x.kind
 d : I64 x.d
 a : I64 x.a
 b : I64 x.b
 op : I64 x.op
 n : I64 x.n
structure LTerm.I (t : LTerm) : Prop where
 kind : I64 t.kind
 a : I64 t.a
 to : I64 t.to
 els : I64 t.els
structure LBlock.I (b : LBlock) : Prop where
 ins : ∀ x ∈ b.ins, x.I
 term : b.term.I
def sMain : ByteArray := ⟨#[109, 97, 105, 110]⟩
def sF : ByteArray := ⟨#[102]⟩
def sG : ByteArray := ⟨#[103]⟩
def sA : ByteArray := ⟨#[97]⟩
def sB : ByteArray := ⟨#[98]⟩
def sNone : ByteArray := ⟨#[]⟩
def fnName (k : Int) : ByteArray := if k = 0 then sMain else if k = 1 then sF else sG
def arrName (k : Int) : ByteArray := if k = 0 then sA else sB
def fitArg (x : LIns) (i : Nat) : Int := pk (wrap64 (x.a + wrap64 (i * x.b))) 10
def fitIns (x : LIns) : LIns :=
 let k := 1 + pk x.kind 9
 {kind := k
  d := if k = 6 ∨ k = 8 then 0 else pk x.d 10
  a := if k = 1 ∨ k = 7 ∨ k = 9 then 0 else pk x.a 10
  b := if k = 4 ∨ k = 6 then pk x.b 10 else 0
  op := if k = 3 then 17 + pk x.op 3 else if k = 4 then 1 + pk x.op 16 else 0
  n := if k = 1 then x.n else 0
  name := if k = 5 ∨ k = 6 then arrName (pk x.n 2) else if k = 9 then fnName (pk x.n 3) else sNone
  args := if k = 9 then (List.range (pk x.n 3).toNat).map (fitArg x) else [] }
def fitTerm (t : LTerm) (n : Int) : LTerm :=
 let k := 1 + pk t.kind 4
 {kind := k
  a := if k = 1 then 0 else pk t.a 10
  to := if k ≤ 2 then pk t.to n else 0
  els := if k = 2 then pk t.els n else 0 }
def fitBlock (b : LBlock) (n : Int) : LBlock := { ins := (b.ins.take 6).map fitIns, term := fitTerm b.term n }
def noBlock : LBlock := { ins := [], term := ⟨0, 0, 0, 0⟩ }
end Go.Proofs.YtkpigkopjfkepaaGreatDoor
namespace Go.Proofs.YtkpigkopjfkepaaGreatDoor
open Go.RowKit
theorem ret_int {k : IntKind} {a b : Int} (h : a = b) : Ending.returned (.int k a) = .returned (.int k b) := by rw [h]
theorem wp_world {P : Program} {c : Code} {Q : Exit → Act → World → Prop} {a : Act} {w : World} (h : ∀ W, w = W → c.wp P Q a W) : c.wp P Q a w := h w rfl
set_option maxHeartbeats 400000 in
theorem pick10_any (a n : Int) (ha : -9223372036854775808 ≤ a) (ha' : a ≤ 9223372036854775807) (hn : 0 < n) (w : World) :
  Calls Tryz.prog 35 #[.int .i64 a, .int .i64 n] w fun e w' => e = .returned (.int .i64 (pk a n)) ∧ w = w' := by
 have h0 : 1 ≤ n := hn
 have h1 : (n == 0) = false := by rw [beq_eq_false_iff_ne]; omega
 by_cases h : a < 0
 ·have h2 : 0 ≤ -(a + 1) := by omega
  have hp : Hid (pk a n = -(a + 1).tmod n) := by show pk a n = _; rw [pk, if_pos h, ← Int.tmod_eq_emod_of_nonneg h2, Int.neg_tmod]
  go_enter Tryz.func35, Tryz.ntmps35
  go_wp2
  go_ret
  exact ⟨ret_int hp.out.symm, rfl⟩
 ·have hp : Hid (pk a n = a % n) := by show pk a n = _; rw [pk, if_neg h]
  have h2 : 0 ≤ a := by omega
  go_enter Tryz.func35, Tryz.ntmps35
  go_wp2
  go_ret
  exact ⟨ret_int hp.out.symm, rfl⟩
set_option maxHeartbeats 400000 in
theorem pick15_any (a n : Int) (ha : -9223372036854775808 ≤ a) (ha' : a ≤ 9223372036854775807) (hn : 0 < n) (w : World) :
  Calls Tryz.prog 14 #[.int .i64 a, .int .i64 n] w fun e w' => e = .returned (.int .i64 (pk a n)) ∧ w = w' := by
 have h0 : 1 ≤ n := hn
 have h1 : (n == 0) = false := by rw [beq_eq_false_iff_ne]; omega
 by_cases h : a < 0
 ·have h2 : 0 ≤ -(a + 1) := by omega
  have hp : Hid (pk a n = -(a + 1).tmod n) := by show pk a n = _; rw [pk, if_pos h, ← Int.tmod_eq_emod_of_nonneg h2, Int.neg_tmod]
  go_enter Tryz.func14, Tryz.ntmps14
  go_wp2
  go_ret
  exact ⟨ret_int hp.out.symm, rfl⟩
 ·have hp : Hid (pk a n = a % n) := by show pk a n = _; rw [pk, if_neg h]
  have h2 : 0 ≤ a := by omega
  go_enter Tryz.func14, Tryz.ntmps14
  go_wp2
  go_ret
  exact ⟨ret_int hp.out.symm, rfl⟩
def InsPost (x : LIns) (w : World) (e : Ending) (w' : World) : Prop :=
 ∃ va, e = .returned (.agg (insCells (fitIns x) va).toArray) ∧ Below w.heap.size w w' ∧ SlR w' (fun b => w.heap.size ≤ b ∧ b < w'.heap.size) 1 RInt va (fitIns x).args
def Names3 (w : World) (bn : Nat) : Prop := Cells w bn 0 [.string sMain, .string sF, .string sG]
theorem below3 (w : World) (o p q : Obj) : Below w.heap.size w (((w.alloc o).alloc p).alloc q) := (((Below.refl _ _).alloc (Nat.le_refl _) _).alloc (by simp) _).alloc (by simp; omega) _
theorem below4 (w : World) (o p q r : Obj) : Below w.heap.size w ((((w.alloc o).alloc p).alloc q).alloc r) := (below3 w o p q).alloc (by simp; omega) _
theorem InsPost.none {x : LIns} {w w' : World} {e : Ending} (h : (fitIns x).args = []) (he : e = .returned (.agg (insCells (fitIns x) (.slice none 0 0)).toArray)) (hb : Below w.heap.size w w') : InsPost x w e w' :=
 ⟨_, he, hb, by rw [h]; exact SlR.nil_ _ _ _ _⟩
set_option maxRecDepth 100000 in
set_option maxHeartbeats 1000000 in
theorem fitins1 (x : LIns) (hx : x.I) (va : Value) (bn : Nat) (hk : 1 + pk x.kind 9 = 1) (w : World) :
  Calls Tryz.prog 17 #[.agg #[.int .i64 x.kind, .int .i64 x.d, .int .i64 x.a, .int .i64 x.b, .int .i64 x.op, .int .i64 x.n, .string x.name, va], .slice (some ⟨bn, 0, none⟩) 3 3] w (InsPost x w) := by
 obtain ⟨x1, x2, x3, x4, x5, x6⟩ := hx
 have l1 := x1.lo
 have u1 := x1.hi
 have l2 := x2.lo
 have u2 := x2.hi
 have l3 := x3.lo
 have u3 := x3.hi
 have l4 := x4.lo
 have u4 := x4.hi
 have l5 := x5.lo
 have u5 := x5.hi
 have l6 := x6.lo
 have u6 := x6.hi
 clear x1 x2 x3 x4 x5 x6
 go_enter Tryz.func17, Tryz.ntmps17
 go_wp2_with (first | (go_at_call 35; refine (pick10_any _ _ (by assumption) (by assumption) (by decide) _).mono ?_; rintro e w' ⟨rfl, rfl⟩))
 exact bodyPost_ret (v := .agg #[.int .i64 1, .int .i64 (pk x.d 10), .int .i64 0, .int .i64 0, .int .i64 0, .int .i64 x.n, .string ⟨#[]⟩, .slice none 0 0]) (by simp [results, Tryz.results17, go_sem]) rfl (InsPost.none (by simp [fitIns, hk]) (by simp [insCells, fitIns, hk, sNone]) (below3 _ _ _ _))
set_option maxRecDepth 100000 in
set_option maxHeartbeats 1000000 in
theorem fitins2 (x : LIns) (hx : x.I) (va : Value) (bn : Nat) (hk : 1 + pk x.kind 9 = 2) (w : World) :
  Calls Tryz.prog 17 #[.agg #[.int .i64 x.kind, .int .i64 x.d, .int .i64 x.a, .int .i64 x.b, .int .i64 x.op, .int .i64 x.n, .string x.name, va], .slice (some ⟨bn, 0, none⟩) 3 3] w (InsPost x w) := by
 obtain ⟨x1, x2, x3, x4, x5, x6⟩ := hx
 have l1 := x1.lo
 have u1 := x1.hi
 have l2 := x2.lo
 have u2 := x2.hi
 have l3 := x3.lo
 have u3 := x3.hi
 have l4 := x4.lo
 have u4 := x4.hi
 have l5 := x5.lo
 have u5 := x5.hi
 have l6 := x6.lo
 have u6 := x6.hi
 clear x1 x2 x3 x4 x5 x6
 go_enter Tryz.func17, Tryz.ntmps17
 go_wp2_with (first | (go_at_call 35; refine (pick10_any _ _ (by assumption) (by assumption) (by decide) _).mono ?_; rintro e w' ⟨rfl, rfl⟩))
 exact bodyPost_ret (v := .agg #[.int .i64 2, .int .i64 (pk x.d 10), .int .i64 (pk x.a 10), .int .i64 0, .int .i64 0, .int .i64 0, .string ⟨#[]⟩, .slice none 0 0]) (by simp [results, Tryz.results17, go_sem]) rfl (InsPost.none (by simp [fitIns, hk]) (by simp [insCells, fitIns, hk, sNone]) (below3 _ _ _ _))
set_option maxRecDepth 100000 in
set_option maxHeartbeats 1000000 in
theorem fitins3 (x : LIns) (hx : x.I) (va : Value) (bn : Nat) (hk : 1 + pk x.kind 9 = 3) (w : World) :
  Calls Tryz.prog 17 #[.agg #[.int .i64 x.kind, .int .i64 x.d, .int .i64 x.a, .int .i64 x.b, .int .i64 x.op, .int .i64 x.n, .string x.name, va], .slice (some ⟨bn, 0, none⟩) 3 3] w (InsPost x w) := by
 obtain ⟨x1, x2, x3, x4, x5, x6⟩ := hx
 have l1 := x1.lo
 have u1 := x1.hi
 have l2 := x2.lo
 have u2 := x2.hi
 have l3 := x3.lo
 have u3 := x3.hi
 have l4 := x4.lo
 have u4 := x4.hi
 have l5 := x5.lo
 have u5 := x5.hi
 have l6 := x6.lo
 have u6 := x6.hi
 clear x1 x2 x3 x4 x5 x6
 have m0 := pk_lo x.op 3 (by decide)
 have m1 := pk_hi x.op 3 (by decide)
 go_enter Tryz.func17, Tryz.ntmps17
 go_wp2_with (first | (go_at_call 35; refine (pick10_any _ _ (by assumption) (by assumption) (by decide) _).mono ?_; rintro e w' ⟨rfl, rfl⟩))
 exact bodyPost_ret (v := .agg #[.int .i64 3, .int .i64 (pk x.d 10), .int .i64 (pk x.a 10), .int .i64 0, .int .i64 (17 + pk x.op 3), .int .i64 0, .string ⟨#[]⟩, .slice none 0 0]) (by simp [results, Tryz.results17, go_sem]) rfl (InsPost.none (by simp [fitIns, hk]) (by simp [insCells, fitIns, hk, sNone]) (below3 _ _ _ _))
set_option maxRecDepth 100000 in
set_option maxHeartbeats 1000000 in
theorem fitins4 (x : LIns) (hx : x.I) (va : Value) (bn : Nat) (hk : 1 + pk x.kind 9 = 4) (w : World) :
  Calls Tryz.prog 17 #[.agg #[.int .i64 x.kind, .int .i64 x.d, .int .i64 x.a, .int .i64 x.b, .int .i64 x.op, .int .i64 x.n, .string x.name, va], .slice (some ⟨bn, 0, none⟩) 3 3] w (InsPost x w) := by
 obtain ⟨x1, x2, x3, x4, x5, x6⟩ := hx
 have l1 := x1.lo
 have u1 := x1.hi
 have l2 := x2.lo
 have u2 := x2.hi
 have l3 := x3.lo
 have u3 := x3.hi
 have l4 := x4.lo
 have u4 := x4.hi
 have l5 := x5.lo
 have u5 := x5.hi
 have l6 := x6.lo
 have u6 := x6.hi
 clear x1 x2 x3 x4 x5 x6
 have m0 := pk_lo x.op 16 (by decide)
 have m1 := pk_hi x.op 16 (by decide)
 go_enter Tryz.func17, Tryz.ntmps17
 go_wp2_with (first | (go_at_call 35; refine (pick10_any _ _ (by assumption) (by assumption) (by decide) _).mono ?_; rintro e w' ⟨rfl, rfl⟩))
 exact bodyPost_ret (v := .agg #[.int .i64 4, .int .i64 (pk x.d 10), .int .i64 (pk x.a 10), .int .i64 (pk x.b 10), .int .i64 (1 + pk x.op 16), .int .i64 0, .string ⟨#[]⟩, .slice none 0 0]) (by simp [results, Tryz.results17, go_sem]) rfl (InsPost.none (by simp [fitIns, hk]) (by simp [insCells, fitIns, hk, sNone]) (below3 _ _ _ _))
set_option maxRecDepth 100000 in
set_option maxHeartbeats 1000000 in
theorem fitins5_0 (x : LIns) (hx : x.I) (va : Value) (bn : Nat) (hk : 1 + pk x.kind 9 = 5) (hs : pk x.n 2 = 0) (w : World) :
  Calls Tryz.prog 17 #[.agg #[.int .i64 x.kind, .int .i64 x.d, .int .i64 x.a, .int .i64 x.b, .int .i64 x.op, .int .i64 x.n, .string x.name, va], .slice (some ⟨bn, 0, none⟩) 3 3] w (InsPost x w) := by
 obtain ⟨x1, x2, x3, x4, x5, x6⟩ := hx
 have l1 := x1.lo
 have u1 := x1.hi
 have l2 := x2.lo
 have u2 := x2.hi
 have l3 := x3.lo
 have u3 := x3.hi
 have l4 := x4.lo
 have u4 := x4.hi
 have l5 := x5.lo
 have u5 := x5.hi
 have l6 := x6.lo
 have u6 := x6.hi
 clear x1 x2 x3 x4 x5 x6
 go_enter Tryz.func17, Tryz.ntmps17
 go_wp2_with (first | (go_at_call 35; refine (pick10_any _ _ (by assumption) (by assumption) (by decide) _).mono ?_; rintro e w' ⟨rfl, rfl⟩))
 exact bodyPost_ret (v := .agg #[.int .i64 5, .int .i64 (pk x.d 10), .int .i64 (pk x.a 10), .int .i64 0, .int .i64 0, .int .i64 0, .string ⟨#[97]⟩, .slice none 0 0]) (by simp [results, Tryz.results17, go_sem]) rfl (InsPost.none (by simp [fitIns, hk]) (by simp [insCells, fitIns, hk, hs, arrName, sA]) (below4 _ _ _ _ _))
set_option maxRecDepth 100000 in
set_option maxHeartbeats 1000000 in
theorem fitins5_1 (x : LIns) (hx : x.I) (va : Value) (bn : Nat) (hk : 1 + pk x.kind 9 = 5) (hs : pk x.n 2 = 1) (w : World) :
  Calls Tryz.prog 17 #[.agg #[.int .i64 x.kind, .int .i64 x.d, .int .i64 x.a, .int .i64 x.b, .int .i64 x.op, .int .i64 x.n, .string x.name, va], .slice (some ⟨bn, 0, none⟩) 3 3] w (InsPost x w) := by
 obtain ⟨x1, x2, x3, x4, x5, x6⟩ := hx
 have l1 := x1.lo
 have u1 := x1.hi
 have l2 := x2.lo
 have u2 := x2.hi
 have l3 := x3.lo
 have u3 := x3.hi
 have l4 := x4.lo
 have u4 := x4.hi
 have l5 := x5.lo
 have u5 := x5.hi
 have l6 := x6.lo
 have u6 := x6.hi
 clear x1 x2 x3 x4 x5 x6
 go_enter Tryz.func17, Tryz.ntmps17
 go_wp2_with (first | (go_at_call 35; refine (pick10_any _ _ (by assumption) (by assumption) (by decide) _).mono ?_; rintro e w' ⟨rfl, rfl⟩))
 exact bodyPost_ret (v := .agg #[.int .i64 5, .int .i64 (pk x.d 10), .int .i64 (pk x.a 10), .int .i64 0, .int .i64 0, .int .i64 0, .string ⟨#[98]⟩, .slice none 0 0]) (by simp [results, Tryz.results17, go_sem]) rfl (InsPost.none (by simp [fitIns, hk]) (by simp [insCells, fitIns, hk, hs, arrName, sB]) (below4 _ _ _ _ _))
set_option maxRecDepth 100000 in
set_option maxHeartbeats 1000000 in
theorem fitins6_0 (x : LIns) (hx : x.I) (va : Value) (bn : Nat) (hk : 1 + pk x.kind 9 = 6) (hs : pk x.n 2 = 0) (w : World) :
  Calls Tryz.prog 17 #[.agg #[.int .i64 x.kind, .int .i64 x.d, .int .i64 x.a, .int .i64 x.b, .int .i64 x.op, .int .i64 x.n, .string x.name, va], .slice (some ⟨bn, 0, none⟩) 3 3] w (InsPost x w) := by
 obtain ⟨x1, x2, x3, x4, x5, x6⟩ := hx
 have l1 := x1.lo
 have u1 := x1.hi
 have l2 := x2.lo
 have u2 := x2.hi
 have l3 := x3.lo
 have u3 := x3.hi
 have l4 := x4.lo
 have u4 := x4.hi
 have l5 := x5.lo
 have u5 := x5.hi
 have l6 := x6.lo
 have u6 := x6.hi
 clear x1 x2 x3 x4 x5 x6
 go_enter Tryz.func17, Tryz.ntmps17
 go_wp2_with (first | (go_at_call 35; refine (pick10_any _ _ (by assumption) (by assumption) (by decide) _).mono ?_; rintro e w' ⟨rfl, rfl⟩))
 exact bodyPost_ret (v := .agg #[.int .i64 6, .int .i64 0, .int .i64 (pk x.a 10), .int .i64 (pk x.b 10), .int .i64 0, .int .i64 0, .string ⟨#[97]⟩, .slice none 0 0]) (by simp [results, Tryz.results17, go_sem]) rfl (InsPost.none (by simp [fitIns, hk]) (by simp [insCells, fitIns, hk, hs, arrName, sA]) (below4 _ _ _ _ _))
set_option maxRecDepth 100000 in
set_option maxHeartbeats 1000000 in
theorem fitins6_1 (x : LIns) (hx : x.I) (va : Value) (bn : Nat) (hk : 1 + pk x.kind 9 = 6) (hs : pk x.n 2 = 1) (w : World) :
  Calls Tryz.prog 17 #[.agg #[.int .i64 x.kind, .int .i64 x.d, .int .i64 x.a, .int .i64 x.b, .int .i64 x.op, .int .i64 x.n, .string x.name, va], .slice (some ⟨bn, 0, none⟩) 3 3] w (InsPost x w) := by
 obtain ⟨x1, x2, x3, x4, x5, x6⟩ := hx
 have l1 := x1.lo
 have u1 := x1.hi
 have l2 := x2.lo
 have u2 := x2.hi
 have l3 := x3.lo
 have u3 := x3.hi
 have l4 := x4.lo
 have u4 := x4.hi
 have l5 := x5.lo
 have u5 := x5.hi
 have l6 := x6.lo
 have u6 := x6.hi
 clear x1 x2 x3 x4 x5 x6
 go_enter Tryz.func17, Tryz.ntmps17
 go_wp2_with (first | (go_at_call 35; refine (pick10_any _ _ (by assumption) (by assumption) (by decide) _).mono ?_; rintro e w' ⟨rfl, rfl⟩))
 exact bodyPost_ret (v := .agg #[.int .i64 6, .int .i64 0, .int .i64 (pk x.a 10), .int .i64 (pk x.b 10), .int .i64 0, .int .i64 0, .string ⟨#[98]⟩, .slice none 0 0]) (by simp [results, Tryz.results17, go_sem]) rfl (InsPost.none (by simp [fitIns, hk]) (by simp [insCells, fitIns, hk, hs, arrName, sB]) (below4 _ _ _ _ _))
set_option maxRecDepth 100000 in
set_option maxHeartbeats 1000000 in
theorem fitins7 (x : LIns) (hx : x.I) (va : Value) (bn : Nat) (hk : 1 + pk x.kind 9 = 7) (w : World) :
  Calls Tryz.prog 17 #[.agg #[.int .i64 x.kind, .int .i64 x.d, .int .i64 x.a, .int .i64 x.b, .int .i64 x.op, .int .i64 x.n, .string x.name, va], .slice (some ⟨bn, 0, none⟩) 3 3] w (InsPost x w) := by
 obtain ⟨x1, x2, x3, x4, x5, x6⟩ := hx
 have l1 := x1.lo
 have u1 := x1.hi
 have l2 := x2.lo
 have u2 := x2.hi
 have l3 := x3.lo
 have u3 := x3.hi
 have l4 := x4.lo
 have u4 := x4.hi
 have l5 := x5.lo
 have u5 := x5.hi
 have l6 := x6.lo
 have u6 := x6.hi
 clear x1 x2 x3 x4 x5 x6
 go_enter Tryz.func17, Tryz.ntmps17
 go_wp2_with (first | (go_at_call 35; refine (pick10_any _ _ (by assumption) (by assumption) (by decide) _).mono ?_; rintro e w' ⟨rfl, rfl⟩))
 exact bodyPost_ret (v := .agg #[.int .i64 7, .int .i64 (pk x.d 10), .int .i64 0, .int .i64 0, .int .i64 0, .int .i64 0, .string ⟨#[]⟩, .slice none 0 0]) (by simp [results, Tryz.results17, go_sem]) rfl (InsPost.none (by simp [fitIns, hk]) (by simp [insCells, fitIns, hk, sNone]) (below3 _ _ _ _))
set_option maxRecDepth 100000 in
set_option maxHeartbeats 1000000 in
theorem fitins8 (x : LIns) (hx : x.I) (va : Value) (bn : Nat) (hk : 1 + pk x.kind 9 = 8) (w : World) :
  Calls Tryz.prog 17 #[.agg #[.int .i64 x.kind, .int .i64 x.d, .int .i64 x.a, .int .i64 x.b, .int .i64 x.op, .int .i64 x.n, .string x.name, va], .slice (some ⟨bn, 0, none⟩) 3 3] w (InsPost x w) := by
 obtain ⟨x1, x2, x3, x4, x5, x6⟩ := hx
 have l1 := x1.lo
 have u1 := x1.hi
 have l2 := x2.lo
 have u2 := x2.hi
 have l3 := x3.lo
 have u3 := x3.hi
 have l4 := x4.lo
 have u4 := x4.hi
 have l5 := x5.lo
 have u5 := x5.hi
 have l6 := x6.lo
 have u6 := x6.hi
 clear x1 x2 x3 x4 x5 x6
 go_enter Tryz.func17, Tryz.ntmps17
 go_wp2_with (first | (go_at_call 35; refine (pick10_any _ _ (by assumption) (by assumption) (by decide) _).mono ?_; rintro e w' ⟨rfl, rfl⟩))
 exact bodyPost_ret (v := .agg #[.int .i64 8, .int .i64 0, .int .i64 (pk x.a 10), .int .i64 0, .int .i64 0, .int .i64 0, .string ⟨#[]⟩, .slice none 0 0]) (by simp [results, Tryz.results17, go_sem]) rfl (InsPost.none (by simp [fitIns, hk]) (by simp [insCells, fitIns, hk, sNone]) (below3 _ _ _ _))
theorem info_int : (Tryz.prog.info? 3).map (fun i => (i.zero, i.size, i.bytes)) = some (some (.int .i64 0), 1, 8) := by kernel_rfl
structure ArgsLoop (x : LIns) (va : Value) (w : World) (j : Nat) (v : Value) (wr : World) : Prop where
 below : Below w.heap.size w wr
 raw : Blk wr w.heap.size 44 (insCells x va).toArray
 res : ∃ cs, Blk wr (w.heap.size + 1) 44 cs ∧ cs.size = 8
 out : Blk wr (w.heap.size + 1 + 1) 44 #[.int .i64 9, .int .i64 (pk x.d 10), .int .i64 0, .int .i64 0, .int .i64 0, .int .i64 0, .string (fnName (pk x.n 3)), v]
 own : wr.ownsRow (w.heap.size + 3) 3 1 v j ((List.range j).map fun i => .int .i64 (fitArg x i))
theorem ArgsLoop.next {x : LIns} {va : Value} {w : World} {j : Nat} {v : Value} {wr w1 : World} {o : Obj} {g cap : Nat} (hl : ArgsLoop x va w j v wr)
  (hown : w1.ownsRow (w.heap.size + 3) 3 1 (.slice (some ⟨g, 0, none⟩) (j + 1) cap) (j + 1) ((List.range j).map (fun i => Value.int .i64 (fitArg x i)) ++ [.int .i64 (pk (IntKind.i64.wrap (x.a + IntKind.i64.wrap (j * x.b))) 10)]))
  (hg : (wr.alloc o).drew.grownBy w1 v.ownBlock) :
  ArgsLoop x va w (j + 1) (.slice (some ⟨g, 0, none⟩) (j + 1) cap) (w1.setCell ⟨w.heap.size + 1 + 1, 7, none⟩ (.slice (some ⟨g, 0, none⟩) (j + 1) cap)) := by
 have hb : w.heap.size ≤ wr.heap.size := hl.below.size
 have hbase : ∀ k, v.ownBlock = some k → w.heap.size + 3 ≤ k := fun k e => (hl.own.lt k e).1
 have hne : ∀ k, k < w.heap.size + 3 → v.ownBlock ≠ some k := fun k hk e => by have := hbase k e; omega
 have hg' : (wr.alloc o).grownBy w1 v.ownBlock := grown_undrew hg
 have hB : Below w.heap.size w w1 := (hl.below.alloc hb o).grown hg' (by simp; omega) (fun k e => by have := hbase k e; omega)
 have hgb : w.heap.size + 3 ≤ g := (hown.lt g rfl).1
 have e : (List.range (j + 1)).map (fun i => Value.int .i64 (fitArg x i)) = (List.range j).map (fun i => Value.int .i64 (fitArg x i)) ++ [.int .i64 (pk (IntKind.i64.wrap (x.a + IntKind.i64.wrap (j * x.b))) 10)] := by
  rw [List.range_succ, List.map_append]
  simp only [List.map_cons, List.map_nil, fitArg, IntWalk.i64_left]
 refine ⟨hB.setCell (by simp; omega) _, ?_, ?_, ?_, ?_⟩
 ·exact ((hl.raw.alloc o).grown hg' (hne _ (by omega))).far (by simp; omega) _
 ·obtain ⟨cs, h1, h2⟩ := hl.res
  exact ⟨cs, ((h1.alloc o).grown hg' (hne _ (by omega))).far (by simp) _, h2⟩
 ·exact ((hl.out.alloc o).grown hg' (hne _ (by omega))).set_ 7 _
 ·rw [e]
  exact ownsRow_setCell_below hown (by simp) _
theorem ArgsLoop.finish {x : LIns} {va : Value} {w : World} {A : Option Addr} {c : Nat} {wr : World} (hl : ArgsLoop x va w (pk x.n 3).toNat (.slice A (pk x.n 3).toNat c) wr) (hk : 1 + pk x.kind 9 = 9) :
  InsPost x w (.returned (.agg #[.int .i64 9, .int .i64 (pk x.d 10), .int .i64 0, .int .i64 0, .int .i64 0, .int .i64 0, .string (fnName (pk x.n 3)), .slice A (pk x.n 3).toNat c]))
   ((((((((wr.setCell ⟨w.heap.size + 1, 0, none⟩ (.int .i64 9)).setCell ⟨w.heap.size + 1, 1, none⟩ (.int .i64 (pk x.d 10))).setCell ⟨w.heap.size + 1, 2, none⟩ (.int .i64 0)).setCell ⟨w.heap.size + 1, 3, none⟩ (.int .i64 0)).setCell ⟨w.heap.size + 1, 4, none⟩ (.int .i64 0)).setCell ⟨w.heap.size + 1, 5, none⟩ (.int .i64 0)).setCell ⟨w.heap.size + 1, 6, none⟩ (.string (fnName (pk x.n 3)))).setCell ⟨w.heap.size + 1, 7, none⟩ (.slice A (pk x.n 3).toNat c)) := by
 have ha : (fitIns x).args = (List.range (pk x.n 3).toNat).map (fitArg x) := by simp [fitIns, hk]
 have hown : wr.ownsRow (w.heap.size + 3) 3 1 (.slice A (pk x.n 3).toNat c) (pk x.n 3).toNat (((List.range (pk x.n 3).toNat).map (fitArg x)).map fun i => .int .i64 i) := by
  rw [List.map_map]; exact hl.own
 have h0 := ints_of_own (ok := fun b => w.heap.size + 3 ≤ b ∧ b < wr.heap.size) hown (fun g hg => hown.lt g hg)
 refine ⟨.slice A (pk x.n 3).toNat c, by simp [fitIns, insCells, hk], ?_, ?_⟩
 ·exact (((((((hl.below.setCell (by simp) _).setCell (by simp) _).setCell (by simp) _).setCell (by simp) _).setCell (by simp) _).setCell (by simp) _).setCell (by simp) _).setCell (by simp) _
 ·rw [ha]
  refine h0.imp (fun b hb => ⟨by omega, by simp only [World.setCell, Array.size_modify]; exact hb.2⟩) ?_ (fun _ _ _ r => r)
  have hne : ∀ i : Nat, ∀ b, (w.heap.size + 3 ≤ b ∧ b < wr.heap.size) → b ≠ (⟨w.heap.size + 1, i, none⟩ : Addr).block := fun i b hb => by show b ≠ w.heap.size + 1; omega
  exact ((((((((Keeps.refl _ _).set (hne 0) _).set (hne 1) _).set (hne 2) _).set (hne 3) _).set (hne 4) _).set (hne 5) _).set (hne 6) _).set (hne 7) _
set_option maxRecDepth 100000 in
set_option maxHeartbeats 2000000 in
theorem fitins9 (x : LIns) (hx : x.I) (va : Value) (bn : Nat) (hk : 1 + pk x.kind 9 = 9) (w : World) (hn : Names3 w bn) :
  Calls Tryz.prog 17 #[.agg #[.int .i64 x.kind, .int .i64 x.d, .int .i64 x.a, .int .i64 x.b, .int .i64 x.op, .int .i64 x.n, .string x.name, va], .slice (some ⟨bn, 0, none⟩) 3 3] w (InsPost x w) := by
 have hbn : bn < w.heap.size := hn.lt (by simp)
 have hname : w.cell? ⟨bn, (pk x.n 3).toNat, none⟩ = some (.string (fnName (pk x.n 3))) := by
  have m0 := pk_lo x.n 3 (by decide)
  have m1 := pk_hi x.n 3 (by decide)
  rcases (by omega : pk x.n 3 = 0 ∨ pk x.n 3 = 1 ∨ pk x.n 3 = 2) with h | h | h
  all_goals rw [h]
  ·exact hn.at_ (j := 0) rfl
  ·exact hn.at_ (j := 1) rfl
  ·exact hn.at_ (j := 2) rfl
 clear hn
 have hbn1 : bn < w.heap.size + 1 := by omega
 have hbn2 : bn < w.heap.size + 1 + 1 := by omega
 have m0 := pk_lo x.n 3 (by decide)
 have m1 := pk_hi x.n 3 (by decide)
 obtain ⟨x1, x2, x3, x4, x5, x6⟩ := hx
 have l1 := x1.lo
 have u1 := x1.hi
 have l2 := x2.lo
 have u2 := x2.hi
 have l3 := x3.lo
 have u3 := x3.hi
 have l4 := x4.lo
 have u4 := x4.hi
 have l6 := x6.lo
 have u6 := x6.hi
 clear x1 x2 x3 x4 x5 x6
 go_enter Tryz.func17, Tryz.ntmps17
 go_wp2_with (first | (go_at_call 35; refine (pick10_any _ _ (by assumption) (by assumption) (by decide) _).mono ?_; rintro e w' ⟨rfl, rfl⟩))
 refine wp_world ?_
 intro W hW
 have hst : ArgsLoop x va w 0 (.slice none 0 0) W := by
  rw [← hW]
  exact ⟨below3 _ _ _ _, (((Blk.new _ _ _).alloc _).alloc _), ⟨#[.int .i64 0, .int .i64 0, .int .i64 0, .int .i64 0, .int .i64 0, .int .i64 0, .string ⟨#[]⟩, .slice none 0 0], (Blk.new_at _ _ _ (by simp)).alloc _, rfl⟩, Blk.new_at _ _ _ (by simp), World.ownsRow_nil _ _ _ _⟩
 clear hW
 go_loopw [7] (fun i wr => ∃ j : Nat, j ≤ (pk x.n 3).toNat ∧ i = .int .i64 j ∧ ∃ v, ArgsLoop x va w j v wr) (fun i _ => (pk x.n 3).toNat - (intOf i).toNat)
 case atStart => exact ⟨0, by omega, rfl, _, hst⟩
 case round =>
  obtain ⟨j, hj, rfl, v, hl⟩ := hrel
  have HL := Lib.hid hl
  have hsz : w.heap.size + 1 + 1 < wr.heap.size := hl.out.lt
  by_cases hlt : j < (pk x.n 3).toNat
  ·have c2 : wr.cell? ⟨w.heap.size, 2, none⟩ = some (.int .i64 x.a) := hl.raw.cell 2
   have c3 : wr.cell? ⟨w.heap.size, 3, none⟩ = some (.int .i64 x.b) := hl.raw.cell 3
   have c7 : wr.cell? ⟨w.heap.size + 1 + 1, 7, none⟩ = some v := hl.out.cell 7
   have f7 : wr.frozen? ⟨w.heap.size + 1 + 1, 7, none⟩ = false := hl.out.frozen 7
   have hn1 : j + 1 ≤ maxLen := by unfold maxLen; omega
   have hn2 : (j + 1) * 8 ≤ 140737488355328 := by omega
   have hne : v.ownBlock ≠ some (w.heap.size + 1 + 1) := fun e => by have := (hl.own.lt _ e).1; omega
   have hne0 : v.ownBlock ≠ some w.heap.size := fun e => by have := (hl.own.lt _ e).1; omega
   obtain ⟨i0, hi0, hz0, hz1, hz2⟩ := info_parts info_int
   have hwa := wrap_in (x.a + wrap64 (j * x.b))
   rw [← IntWalk.i64_left, ← IntWalk.i64_left] at hwa
   have hw1 := hwa.lo
   have hw2 := hwa.hi
   clear hl hwa
   go_wp2_with fail
   go_region_law (first | (refine step_append_lies _ (by rfl) _ _ _ (by rfl) (w.heap.size + 3) 3 i0 _ 1 8 Tryz.underlying38 hi0 hz0 hz1 hz2 rfl (by omega) v j _ (by rfl) ((HL.out.own.alloc _).drew) ⟨wr.heap.size, 0, none⟩ 1 1 [.int .i64 (pk (IntKind.i64.wrap (x.a + IntKind.i64.wrap (↑j * x.b))) 10)] (by rfl) (by rfl) (World.news_of_block (cs := #[.int .i64 (pk (IntKind.i64.wrap (x.a + IntKind.i64.wrap (↑j * x.b))) 10)]) (t := 3) (fr := (0, 0)) (heap_alloc_new wr _)) (by simp [Value.oneCell']) (by omega) hn1 hn2 (by simp; omega) (wr.heap.size + 1) (by simp) ?_; intro g cap w1 hown1 hgrow hat hlt1; have c7' : w1.cell? ⟨w.heap.size + 1 + 1, 7, none⟩ = some v := (hgrow.cell_far _ (by simp; omega) (Ne.symm hne)).trans ((World.cell?_alloc_lt wr _ _ hsz).trans c7); have f7' : w1.frozen? ⟨w.heap.size + 1 + 1, 7, none⟩ = false := (hgrow.frozen_far _ (by simp; omega) (Ne.symm hne)).trans ((World.frozen?_alloc_old wr _ _ (Nat.ne_of_lt hsz)).trans f7)) | (go_simp; go_at_call 35; refine (pick10_any _ _ (by assumption) (by assumption) (by decide) _).mono ?_; rintro e w' ⟨rfl, rfl⟩))
   all_goals
    go_wp2
    go_roundw
    case rel => exact ⟨j + 1, by omega, by go_num, _, HL.out.next hown1 hgrow⟩
    case measure => simp [intOf]; omega
  ·obtain rfl : j = (pk x.n 3).toNat := by omega
   have hge : ((pk x.n 3).toNat : Int) = pk x.n 3 := by omega
   have hd : decide (pk x.n 3 < pk x.n 3) = false := decide_eq_false (by omega)
   obtain ⟨A, c, rfl⟩ := own_form hl.own
   obtain ⟨rs, hrs, hr8⟩ := hl.res
   have o0 : wr.cell? ⟨w.heap.size + 1 + 1, 0, none⟩ = some (.int .i64 9) := hl.out.cell 0
   have o1 : wr.cell? ⟨w.heap.size + 1 + 1, 1, none⟩ = some (.int .i64 (pk x.d 10)) := hl.out.cell 1
   have o2 : wr.cell? ⟨w.heap.size + 1 + 1, 2, none⟩ = some (.int .i64 0) := hl.out.cell 2
   have o3 : wr.cell? ⟨w.heap.size + 1 + 1, 3, none⟩ = some (.int .i64 0) := hl.out.cell 3
   have o4 : wr.cell? ⟨w.heap.size + 1 + 1, 4, none⟩ = some (.int .i64 0) := hl.out.cell 4
   have o5 : wr.cell? ⟨w.heap.size + 1 + 1, 5, none⟩ = some (.int .i64 0) := hl.out.cell 5
   have o6 : wr.cell? ⟨w.heap.size + 1 + 1, 6, none⟩ = some (.string (fnName (pk x.n 3))) := hl.out.cell 6
   have o7 : wr.cell? ⟨w.heap.size + 1 + 1, 7, none⟩ = some (.slice A (pk x.n 3).toNat c) := hl.out.cell 7
   obtain ⟨r0, q0⟩ : ∃ u, wr.cell? ⟨w.heap.size + 1, 0, none⟩ = some u := ⟨rs[0], (hrs.cell 0).trans (Array.getElem?_eq_getElem (by omega))⟩
   have z0 : wr.frozen? ⟨w.heap.size + 1, 0, none⟩ = false := hrs.frozen 0
   obtain ⟨r1, q1⟩ : ∃ u, wr.cell? ⟨w.heap.size + 1, 1, none⟩ = some u := ⟨rs[1], (hrs.cell 1).trans (Array.getElem?_eq_getElem (by omega))⟩
   have z1 : wr.frozen? ⟨w.heap.size + 1, 1, none⟩ = false := hrs.frozen 1
   obtain ⟨r2, q2⟩ : ∃ u, wr.cell? ⟨w.heap.size + 1, 2, none⟩ = some u := ⟨rs[2], (hrs.cell 2).trans (Array.getElem?_eq_getElem (by omega))⟩
   have z2 : wr.frozen? ⟨w.heap.size + 1, 2, none⟩ = false := hrs.frozen 2
   obtain ⟨r3, q3⟩ : ∃ u, wr.cell? ⟨w.heap.size + 1, 3, none⟩ = some u := ⟨rs[3], (hrs.cell 3).trans (Array.getElem?_eq_getElem (by omega))⟩
   have z3 : wr.frozen? ⟨w.heap.size + 1, 3, none⟩ = false := hrs.frozen 3
   obtain ⟨r4, q4⟩ : ∃ u, wr.cell? ⟨w.heap.size + 1, 4, none⟩ = some u := ⟨rs[4], (hrs.cell 4).trans (Array.getElem?_eq_getElem (by omega))⟩
   have z4 : wr.frozen? ⟨w.heap.size + 1, 4, none⟩ = false := hrs.frozen 4
   obtain ⟨r5, q5⟩ : ∃ u, wr.cell? ⟨w.heap.size + 1, 5, none⟩ = some u := ⟨rs[5], (hrs.cell 5).trans (Array.getElem?_eq_getElem (by omega))⟩
   have z5 : wr.frozen? ⟨w.heap.size + 1, 5, none⟩ = false := hrs.frozen 5
   obtain ⟨r6, q6⟩ : ∃ u, wr.cell? ⟨w.heap.size + 1, 6, none⟩ = some u := ⟨rs[6], (hrs.cell 6).trans (Array.getElem?_eq_getElem (by omega))⟩
   have z6 : wr.frozen? ⟨w.heap.size + 1, 6, none⟩ = false := hrs.frozen 6
   obtain ⟨r7, q7⟩ : ∃ u, wr.cell? ⟨w.heap.size + 1, 7, none⟩ = some u := ⟨rs[7], (hrs.cell 7).trans (Array.getElem?_eq_getElem (by omega))⟩
   have z7 : wr.frozen? ⟨w.heap.size + 1, 7, none⟩ = false := hrs.frozen 7
   have HF := hl.finish hk
   clear hl hrs HL
   go_wp2
   exact bodyPost_ret (v := .agg #[.int .i64 9, .int .i64 (pk x.d 10), .int .i64 0, .int .i64 0, .int .i64 0, .int .i64 0, .string (fnName (pk x.n 3)), .slice A (pk x.n 3).toNat c]) (by simp [results, Tryz.results17, go_sem, q0, q1, q2, q3, q4, q5, q6, q7]) rfl HF
theorem fitins_any (x : LIns) (hx : x.I) (va : Value) (bn : Nat) (w : World) (hn : Names3 w bn) :
  Calls Tryz.prog 17 #[.agg #[.int .i64 x.kind, .int .i64 x.d, .int .i64 x.a, .int .i64 x.b, .int .i64 x.op, .int .i64 x.n, .string x.name, va], .slice (some ⟨bn, 0, none⟩) 3 3] w (InsPost x w) := by
 have m0 := pk_lo x.kind 9 (by decide)
 have m1 := pk_hi x.kind 9 (by decide)
 have n0 := pk_lo x.n 2 (by decide)
 have n1 := pk_hi x.n 2 (by decide)
 rcases (by omega : 1 + pk x.kind 9 = 1 ∨ 1 + pk x.kind 9 = 2 ∨ 1 + pk x.kind 9 = 3 ∨ 1 + pk x.kind 9 = 4 ∨ 1 + pk x.kind 9 = 5 ∨ 1 + pk x.kind 9 = 6 ∨ 1 + pk x.kind 9 = 7 ∨ 1 + pk x.kind 9 = 8 ∨ 1 + pk x.kind 9 = 9) with h | h | h | h | h | h | h | h | h
 ·exact fitins1 x hx va bn h w
 ·exact fitins2 x hx va bn h w
 ·exact fitins3 x hx va bn h w
 ·exact fitins4 x hx va bn h w
 ·rcases (by omega : pk x.n 2 = 0 ∨ pk x.n 2 = 1) with g | g
  ·exact fitins5_0 x hx va bn h g w
  ·exact fitins5_1 x hx va bn h g w
 ·rcases (by omega : pk x.n 2 = 0 ∨ pk x.n 2 = 1) with g | g
  ·exact fitins6_0 x hx va bn h g w
  ·exact fitins6_1 x hx va bn h g w
 ·exact fitins7 x hx va bn h w
 ·exact fitins8 x hx va bn h w
 ·exact fitins9 x hx va bn h w hn
end Go.Proofs.YtkpigkopjfkepaaGreatDoor
