/- What ir.text makes of an instruction, kind by kind. Printed by wip/gen_printt.py. -/
import Derived.Test.YtkpigkopjfkepaaGreatDoorPbPrnV
import Derived.Test.YtkpigkopjfkepaaGreatDoorPbIrNameL
import Derived.Test.YtkpigkopjfkepaaGreatDoorPbRegion
import Derived.Shelf.Strings.OnBuilder
namespace Go.Proofs.YtkpigkopjfkepaaGreatDoor
open Go.RowKit

/-- a number that strconv.Itoa prints, from a world on -/
def ItoaAt (n : Int) (w : World) : Prop := ∀ X, Below w.heap.size w X → Calls Tryz.prog 41 #[.int .i64 n] X fun e X' => e = .returned (.string (S8 (Lib.itoa n))) ∧ Below X.heap.size X X'
theorem ItoaAt.below {n : Int} {w w' : World} (h : ItoaAt n w) (hb : Below w.heap.size w w') : ItoaAt n w' := fun X hx => h X (hb.trans (hx.mono hb.size))
theorem sgn_len (op : Int) : (L8 (Ar.sgn op)).length ≤ 2 := by
  rcases (by omega : (op = 1 ∨ op = 2 ∨ op = 3 ∨ op = 4 ∨ op = 5 ∨ op = 6 ∨ op = 7 ∨ op = 8 ∨ op = 9 ∨ op = 10 ∨ op = 11 ∨ op = 12 ∨ op = 13 ∨ op = 14 ∨ op = 15 ∨ op = 16 ∨ op = 17 ∨ op = 18 ∨ op = 19) ∨ (op < 1 ∨ 19 < op)) with (rfl | rfl | rfl | rfl | rfl | rfl | rfl | rfl | rfl | rfl | rfl | rfl | rfl | rfl | rfl | rfl | rfl | rfl | rfl) | h
  all_goals first | decide | ((unfold Ar.sgn; iterate 19 (rw [if_neg (by omega)])); decide)

section
set_option maxHeartbeats 2000000
set_option maxRecDepth 100000

theorem text1 (d a b op n : Int) (nm : ByteArray) (va : Value) (hva : ∃ A l c, va = .slice A l c) (hd : Pl d) (hn : I64 n) (w : World) (hN : ItoaAt n w) :
    Calls Tryz.prog 43 #[.agg #[.int .i64 1, .int .i64 d, .int .i64 a, .int .i64 b, .int .i64 op, .int .i64 n, .string nm, va]] w fun e w' => e = .returned (.string (S8 (vT d ++ [32, 61, 32] ++ (Lib.itoa n)))) ∧ Below w.heap.size w w' := by
  obtain ⟨Aa, la, ca, rfl⟩ := hva
  have ld := vT_len hd
  have HVD := Lib.hid (v_any d hd)
  have ln := itoa_len hn
  have ls := sgn_len op
  have h0 : ∀ W : World, (Op.stringOp .add (S8 (vT d)) ⟨#[32, 61, 32]⟩).run Tryz.prog W = .ok (.string (S8 (vT d ++ [32, 61, 32]))) W := fun W => by
    have h := sadd (vT d) ([32, 61, 32]) (by simp; omega) W
    exact h
  have h1 : ∀ W : World, (Op.stringOp .add (S8 (vT d ++ [32, 61, 32])) (S8 (Lib.itoa n))).run Tryz.prog W = .ok (.string (S8 (vT d ++ [32, 61, 32] ++ (Lib.itoa n)))) W := fun W => by
    have h := sadd (vT d ++ [32, 61, 32]) (Lib.itoa n) (by simp; omega) W
    exact h
  have HN : Hid (∀ X, Below w.heap.size w X → Calls Tryz.prog 41 #[.int .i64 n] X fun e X' => e = .returned (.string (S8 (Lib.itoa n))) ∧ Below X.heap.size X X') := Lib.hid hN
  clear hN
  generalize S8 (vT d ++ [32, 61, 32] ++ (Lib.itoa n)) = r0 at *
  generalize S8 (vT d ++ [32, 61, 32]) = r1 at *
  generalize S8 (vT d) = r2 at *
  generalize S8 (Lib.itoa n) = r3 at *
  have HS := Lib.hid (fun w => Ar.sign_any op w)
  clear hd hn ls ld ln
  go_enter Tryz.func43, Tryz.ntmps43
  go_upto_region 1 with fail
  refine wp_world ?_
  intro W hW
  have hB : Below w.heap.size w W := by rw [← hW]; exact below1 _ _
  have hX : Blk W w.heap.size 44 #[.int .i64 1, .int .i64 d, .int .i64 a, .int .i64 b, .int .i64 op, .int .i64 n, .string nm, .slice Aa la ca] := by rw [← hW]; exact Blk.new_at _ _ _ rfl
  have x4 : W.cell? ⟨w.heap.size, 4, none⟩ = some (.int .i64 op) := hX.cell 4
  clear hW
  go_upto_region 2 with (go_at_call 80; refine (HS.out _).mono ?_; rintro e w1 ⟨rfl, hb1⟩)
  have hX1 := hX.below hb1 hX.lt
  have HB1 := Lib.hid (hB.trans (hb1.mono hB.size))
  have y0 : w1.cell? ⟨w.heap.size, 0, none⟩ = some (.int .i64 1) := hX1.cell 0
  have y1 : w1.cell? ⟨w.heap.size, 1, none⟩ = some (.int .i64 d) := hX1.cell 1
  have y2 : w1.cell? ⟨w.heap.size, 2, none⟩ = some (.int .i64 a) := hX1.cell 2
  have y3 : w1.cell? ⟨w.heap.size, 3, none⟩ = some (.int .i64 b) := hX1.cell 3
  have y5 : w1.cell? ⟨w.heap.size, 5, none⟩ = some (.int .i64 n) := hX1.cell 5
  have y6 : w1.cell? ⟨w.heap.size, 6, none⟩ = some (.string nm) := hX1.cell 6
  clear hX hX1 hB hb1 x4 HS
  generalize Ar.sgn op = sg at *
  generalize Ar.sgnOk op = sgo at *
  go_wp2_with (first | (go_at_call 81; first | (refine (HVD.out _).mono ?_; rintro e w' ⟨rfl, rfl⟩)) | (go_at_call 41; refine (HN.out _ HB1.out).mono ?_; rintro e w5 ⟨rfl, hb5⟩; have HB5 := Lib.hid (HB1.out.trans (hb5.mono HB1.out.size)); have z1 : w5.cell? ⟨w.heap.size, 1, none⟩ = some (.int .i64 d) := (hb5.cell (World.block_lt_of_cell? w1 _ y1)).trans y1))
  go_ret
  exact ⟨rfl, HB5.out⟩

theorem text2 (d a b op n : Int) (nm : ByteArray) (va : Value) (hva : ∃ A l c, va = .slice A l c) (hd : Pl d) (ha : Pl a) (w : World) :
    Calls Tryz.prog 43 #[.agg #[.int .i64 2, .int .i64 d, .int .i64 a, .int .i64 b, .int .i64 op, .int .i64 n, .string nm, va]] w fun e w' => e = .returned (.string (S8 (vT d ++ [32, 61, 32] ++ (vT a)))) ∧ Below w.heap.size w w' := by
  obtain ⟨Aa, la, ca, rfl⟩ := hva
  have ld := vT_len hd
  have HVD := Lib.hid (v_any d hd)
  have laa := vT_len ha
  have HVA := Lib.hid (v_any a ha)
  have ls := sgn_len op
  have h0 : ∀ W : World, (Op.stringOp .add (S8 (vT d)) ⟨#[32, 61, 32]⟩).run Tryz.prog W = .ok (.string (S8 (vT d ++ [32, 61, 32]))) W := fun W => by
    have h := sadd (vT d) ([32, 61, 32]) (by simp; omega) W
    exact h
  have h1 : ∀ W : World, (Op.stringOp .add (S8 (vT d ++ [32, 61, 32])) (S8 (vT a))).run Tryz.prog W = .ok (.string (S8 (vT d ++ [32, 61, 32] ++ (vT a)))) W := fun W => by
    have h := sadd (vT d ++ [32, 61, 32]) (vT a) (by simp; omega) W
    exact h
  generalize S8 (vT d ++ [32, 61, 32] ++ (vT a)) = r0 at *
  generalize S8 (vT d ++ [32, 61, 32]) = r1 at *
  generalize S8 (vT d) = r2 at *
  generalize S8 (vT a) = r3 at *
  have HS := Lib.hid (fun w => Ar.sign_any op w)
  clear hd ha ls ld laa
  go_enter Tryz.func43, Tryz.ntmps43
  go_upto_region 1 with fail
  refine wp_world ?_
  intro W hW
  have hB : Below w.heap.size w W := by rw [← hW]; exact below1 _ _
  have hX : Blk W w.heap.size 44 #[.int .i64 2, .int .i64 d, .int .i64 a, .int .i64 b, .int .i64 op, .int .i64 n, .string nm, .slice Aa la ca] := by rw [← hW]; exact Blk.new_at _ _ _ rfl
  have x4 : W.cell? ⟨w.heap.size, 4, none⟩ = some (.int .i64 op) := hX.cell 4
  clear hW
  go_upto_region 2 with (go_at_call 80; refine (HS.out _).mono ?_; rintro e w1 ⟨rfl, hb1⟩)
  have hX1 := hX.below hb1 hX.lt
  have HB1 := Lib.hid (hB.trans (hb1.mono hB.size))
  have y0 : w1.cell? ⟨w.heap.size, 0, none⟩ = some (.int .i64 2) := hX1.cell 0
  have y1 : w1.cell? ⟨w.heap.size, 1, none⟩ = some (.int .i64 d) := hX1.cell 1
  have y2 : w1.cell? ⟨w.heap.size, 2, none⟩ = some (.int .i64 a) := hX1.cell 2
  have y3 : w1.cell? ⟨w.heap.size, 3, none⟩ = some (.int .i64 b) := hX1.cell 3
  have y5 : w1.cell? ⟨w.heap.size, 5, none⟩ = some (.int .i64 n) := hX1.cell 5
  have y6 : w1.cell? ⟨w.heap.size, 6, none⟩ = some (.string nm) := hX1.cell 6
  clear hX hX1 hB hb1 x4 HS
  generalize Ar.sgn op = sg at *
  generalize Ar.sgnOk op = sgo at *
  go_wp2_with (first | (go_at_call 81; first | (refine (HVD.out _).mono ?_; rintro e w' ⟨rfl, rfl⟩) | (refine (HVA.out _).mono ?_; rintro e w' ⟨rfl, rfl⟩)))
  go_ret
  exact ⟨rfl, HB1.out⟩

theorem text3 (d a b op n : Int) (nm : ByteArray) (va : Value) (hva : ∃ A l c, va = .slice A l c) (hd : Pl d) (ha : Pl a) (w : World) :
    Calls Tryz.prog 43 #[.agg #[.int .i64 3, .int .i64 d, .int .i64 a, .int .i64 b, .int .i64 op, .int .i64 n, .string nm, va]] w fun e w' => e = .returned (.string (S8 (vT d ++ [32, 61, 32] ++ (L8 (Ar.sgn op) ++ [32] ++ vT a)))) ∧ Below w.heap.size w w' := by
  obtain ⟨Aa, la, ca, rfl⟩ := hva
  have ld := vT_len hd
  have HVD := Lib.hid (v_any d hd)
  have laa := vT_len ha
  have HVA := Lib.hid (v_any a ha)
  have ls := sgn_len op
  have h0 : ∀ W : World, (Op.stringOp .add (Ar.sgn op) ⟨#[32]⟩).run Tryz.prog W = .ok (.string (S8 (L8 (Ar.sgn op) ++ [32]))) W := fun W => by
    have h := sadd (L8 (Ar.sgn op)) ([32]) (by simp; omega) W
    rw [S8_L8] at h; exact h
  have h1 : ∀ W : World, (Op.stringOp .add (S8 (L8 (Ar.sgn op) ++ [32])) (S8 (vT a))).run Tryz.prog W = .ok (.string (S8 (L8 (Ar.sgn op) ++ [32] ++ vT a))) W := fun W => by
    have h := sadd (L8 (Ar.sgn op) ++ [32]) (vT a) (by simp; omega) W
    exact h
  have h2 : ∀ W : World, (Op.stringOp .add (S8 (vT d)) ⟨#[32, 61, 32]⟩).run Tryz.prog W = .ok (.string (S8 (vT d ++ [32, 61, 32]))) W := fun W => by
    have h := sadd (vT d) ([32, 61, 32]) (by simp; omega) W
    exact h
  have h3 : ∀ W : World, (Op.stringOp .add (S8 (vT d ++ [32, 61, 32])) (S8 (L8 (Ar.sgn op) ++ [32] ++ vT a))).run Tryz.prog W = .ok (.string (S8 (vT d ++ [32, 61, 32] ++ (L8 (Ar.sgn op) ++ [32] ++ vT a)))) W := fun W => by
    have h := sadd (vT d ++ [32, 61, 32]) (L8 (Ar.sgn op) ++ [32] ++ vT a) (by simp; omega) W
    exact h
  generalize S8 (vT d ++ [32, 61, 32] ++ (L8 (Ar.sgn op) ++ [32] ++ vT a)) = r0 at *
  generalize S8 (L8 (Ar.sgn op) ++ [32] ++ vT a) = r1 at *
  generalize S8 (L8 (Ar.sgn op) ++ [32]) = r2 at *
  generalize S8 (vT d ++ [32, 61, 32]) = r3 at *
  generalize S8 (vT d) = r4 at *
  generalize S8 (vT a) = r5 at *
  have HS := Lib.hid (fun w => Ar.sign_any op w)
  clear hd ha ls ld laa
  go_enter Tryz.func43, Tryz.ntmps43
  go_upto_region 1 with fail
  refine wp_world ?_
  intro W hW
  have hB : Below w.heap.size w W := by rw [← hW]; exact below1 _ _
  have hX : Blk W w.heap.size 44 #[.int .i64 3, .int .i64 d, .int .i64 a, .int .i64 b, .int .i64 op, .int .i64 n, .string nm, .slice Aa la ca] := by rw [← hW]; exact Blk.new_at _ _ _ rfl
  have x4 : W.cell? ⟨w.heap.size, 4, none⟩ = some (.int .i64 op) := hX.cell 4
  clear hW
  go_upto_region 2 with (go_at_call 80; refine (HS.out _).mono ?_; rintro e w1 ⟨rfl, hb1⟩)
  have hX1 := hX.below hb1 hX.lt
  have HB1 := Lib.hid (hB.trans (hb1.mono hB.size))
  have y0 : w1.cell? ⟨w.heap.size, 0, none⟩ = some (.int .i64 3) := hX1.cell 0
  have y1 : w1.cell? ⟨w.heap.size, 1, none⟩ = some (.int .i64 d) := hX1.cell 1
  have y2 : w1.cell? ⟨w.heap.size, 2, none⟩ = some (.int .i64 a) := hX1.cell 2
  have y3 : w1.cell? ⟨w.heap.size, 3, none⟩ = some (.int .i64 b) := hX1.cell 3
  have y5 : w1.cell? ⟨w.heap.size, 5, none⟩ = some (.int .i64 n) := hX1.cell 5
  have y6 : w1.cell? ⟨w.heap.size, 6, none⟩ = some (.string nm) := hX1.cell 6
  clear hX hX1 hB hb1 x4 HS
  generalize Ar.sgn op = sg at *
  generalize Ar.sgnOk op = sgo at *
  go_wp2_with (first | (go_at_call 81; first | (refine (HVD.out _).mono ?_; rintro e w' ⟨rfl, rfl⟩) | (refine (HVA.out _).mono ?_; rintro e w' ⟨rfl, rfl⟩)))
  go_ret
  exact ⟨rfl, HB1.out⟩

theorem text4 (d a b op n : Int) (nm : ByteArray) (va : Value) (hva : ∃ A l c, va = .slice A l c) (hd : Pl d) (ha : Pl a) (hb : Pl b) (w : World) :
    Calls Tryz.prog 43 #[.agg #[.int .i64 4, .int .i64 d, .int .i64 a, .int .i64 b, .int .i64 op, .int .i64 n, .string nm, va]] w fun e w' => e = .returned (.string (S8 (vT d ++ [32, 61, 32] ++ (vT a ++ [32] ++ L8 (Ar.sgn op) ++ [32] ++ vT b)))) ∧ Below w.heap.size w w' := by
  obtain ⟨Aa, la, ca, rfl⟩ := hva
  have ld := vT_len hd
  have HVD := Lib.hid (v_any d hd)
  have laa := vT_len ha
  have HVA := Lib.hid (v_any a ha)
  have lb := vT_len hb
  have HVB := Lib.hid (v_any b hb)
  have ls := sgn_len op
  have h0 : ∀ W : World, (Op.stringOp .add (S8 (vT a)) ⟨#[32]⟩).run Tryz.prog W = .ok (.string (S8 (vT a ++ [32]))) W := fun W => by
    have h := sadd (vT a) ([32]) (by simp; omega) W
    exact h
  have h1 : ∀ W : World, (Op.stringOp .add (S8 (vT a ++ [32])) (Ar.sgn op)).run Tryz.prog W = .ok (.string (S8 (vT a ++ [32] ++ L8 (Ar.sgn op)))) W := fun W => by
    have h := sadd (vT a ++ [32]) (L8 (Ar.sgn op)) (by simp; omega) W
    rw [S8_L8] at h; exact h
  have h2 : ∀ W : World, (Op.stringOp .add (S8 (vT a ++ [32] ++ L8 (Ar.sgn op))) ⟨#[32]⟩).run Tryz.prog W = .ok (.string (S8 (vT a ++ [32] ++ L8 (Ar.sgn op) ++ [32]))) W := fun W => by
    have h := sadd (vT a ++ [32] ++ L8 (Ar.sgn op)) ([32]) (by simp; omega) W
    exact h
  have h3 : ∀ W : World, (Op.stringOp .add (S8 (vT a ++ [32] ++ L8 (Ar.sgn op) ++ [32])) (S8 (vT b))).run Tryz.prog W = .ok (.string (S8 (vT a ++ [32] ++ L8 (Ar.sgn op) ++ [32] ++ vT b))) W := fun W => by
    have h := sadd (vT a ++ [32] ++ L8 (Ar.sgn op) ++ [32]) (vT b) (by simp; omega) W
    exact h
  have h4 : ∀ W : World, (Op.stringOp .add (S8 (vT d)) ⟨#[32, 61, 32]⟩).run Tryz.prog W = .ok (.string (S8 (vT d ++ [32, 61, 32]))) W := fun W => by
    have h := sadd (vT d) ([32, 61, 32]) (by simp; omega) W
    exact h
  have h5 : ∀ W : World, (Op.stringOp .add (S8 (vT d ++ [32, 61, 32])) (S8 (vT a ++ [32] ++ L8 (Ar.sgn op) ++ [32] ++ vT b))).run Tryz.prog W = .ok (.string (S8 (vT d ++ [32, 61, 32] ++ (vT a ++ [32] ++ L8 (Ar.sgn op) ++ [32] ++ vT b)))) W := fun W => by
    have h := sadd (vT d ++ [32, 61, 32]) (vT a ++ [32] ++ L8 (Ar.sgn op) ++ [32] ++ vT b) (by simp; omega) W
    exact h
  generalize S8 (vT d ++ [32, 61, 32] ++ (vT a ++ [32] ++ L8 (Ar.sgn op) ++ [32] ++ vT b)) = r0 at *
  generalize S8 (vT a ++ [32] ++ L8 (Ar.sgn op) ++ [32] ++ vT b) = r1 at *
  generalize S8 (vT a ++ [32] ++ L8 (Ar.sgn op) ++ [32]) = r2 at *
  generalize S8 (vT a ++ [32] ++ L8 (Ar.sgn op)) = r3 at *
  generalize S8 (vT a ++ [32]) = r4 at *
  generalize S8 (vT d ++ [32, 61, 32]) = r5 at *
  generalize S8 (vT d) = r6 at *
  generalize S8 (vT a) = r7 at *
  generalize S8 (vT b) = r8 at *
  have HS := Lib.hid (fun w => Ar.sign_any op w)
  clear hd ha hb ls ld laa lb
  go_enter Tryz.func43, Tryz.ntmps43
  go_upto_region 1 with fail
  refine wp_world ?_
  intro W hW
  have hB : Below w.heap.size w W := by rw [← hW]; exact below1 _ _
  have hX : Blk W w.heap.size 44 #[.int .i64 4, .int .i64 d, .int .i64 a, .int .i64 b, .int .i64 op, .int .i64 n, .string nm, .slice Aa la ca] := by rw [← hW]; exact Blk.new_at _ _ _ rfl
  have x4 : W.cell? ⟨w.heap.size, 4, none⟩ = some (.int .i64 op) := hX.cell 4
  clear hW
  go_upto_region 2 with (go_at_call 80; refine (HS.out _).mono ?_; rintro e w1 ⟨rfl, hb1⟩)
  have hX1 := hX.below hb1 hX.lt
  have HB1 := Lib.hid (hB.trans (hb1.mono hB.size))
  have y0 : w1.cell? ⟨w.heap.size, 0, none⟩ = some (.int .i64 4) := hX1.cell 0
  have y1 : w1.cell? ⟨w.heap.size, 1, none⟩ = some (.int .i64 d) := hX1.cell 1
  have y2 : w1.cell? ⟨w.heap.size, 2, none⟩ = some (.int .i64 a) := hX1.cell 2
  have y3 : w1.cell? ⟨w.heap.size, 3, none⟩ = some (.int .i64 b) := hX1.cell 3
  have y5 : w1.cell? ⟨w.heap.size, 5, none⟩ = some (.int .i64 n) := hX1.cell 5
  have y6 : w1.cell? ⟨w.heap.size, 6, none⟩ = some (.string nm) := hX1.cell 6
  clear hX hX1 hB hb1 x4 HS
  generalize Ar.sgn op = sg at *
  generalize Ar.sgnOk op = sgo at *
  go_upto_region 11 with fail
  go_quiet ((go_at_call 81; first | with_reducible exact v_quiet HVA.out _ _ | with_reducible exact v_quiet HVB.out _ _))
  go_wp2_with (first | (go_at_call 81; first | (refine (HVD.out _).mono ?_; rintro e w' ⟨rfl, rfl⟩) | (refine (HVA.out _).mono ?_; rintro e w' ⟨rfl, rfl⟩) | (refine (HVB.out _).mono ?_; rintro e w' ⟨rfl, rfl⟩)))
  go_ret
  exact ⟨rfl, below_drewN HB1.out _⟩

theorem text5 (d a b op n : Int) (nm : ByteArray) (va : Value) (hva : ∃ A l c, va = .slice A l c) (hd : Pl d) (ha : Pl a) (hnm : nm.size ≤ 1000) (w : World) :
    Calls Tryz.prog 43 #[.agg #[.int .i64 5, .int .i64 d, .int .i64 a, .int .i64 b, .int .i64 op, .int .i64 n, .string nm, va]] w fun e w' => e = .returned (.string (S8 (vT d ++ [32, 61, 32] ++ (L8 nm ++ [91] ++ vT a ++ [93])))) ∧ Below w.heap.size w w' := by
  obtain ⟨Aa, la, ca, rfl⟩ := hva
  have ld := vT_len hd
  have HVD := Lib.hid (v_any d hd)
  have laa := vT_len ha
  have HVA := Lib.hid (v_any a ha)
  have ls := sgn_len op
  have lm : (L8 nm).length ≤ 1000 := hnm
  have h0 : ∀ W : World, (Op.stringOp .add nm ⟨#[91]⟩).run Tryz.prog W = .ok (.string (S8 (L8 nm ++ [91]))) W := fun W => by
    have h := sadd (L8 nm) ([91]) (by simp; omega) W
    rw [S8_L8] at h; exact h
  have h1 : ∀ W : World, (Op.stringOp .add (S8 (L8 nm ++ [91])) (S8 (vT a))).run Tryz.prog W = .ok (.string (S8 (L8 nm ++ [91] ++ vT a))) W := fun W => by
    have h := sadd (L8 nm ++ [91]) (vT a) (by simp; omega) W
    exact h
  have h2 : ∀ W : World, (Op.stringOp .add (S8 (L8 nm ++ [91] ++ vT a)) ⟨#[93]⟩).run Tryz.prog W = .ok (.string (S8 (L8 nm ++ [91] ++ vT a ++ [93]))) W := fun W => by
    have h := sadd (L8 nm ++ [91] ++ vT a) ([93]) (by simp; omega) W
    exact h
  have h3 : ∀ W : World, (Op.stringOp .add (S8 (vT d)) ⟨#[32, 61, 32]⟩).run Tryz.prog W = .ok (.string (S8 (vT d ++ [32, 61, 32]))) W := fun W => by
    have h := sadd (vT d) ([32, 61, 32]) (by simp; omega) W
    exact h
  have h4 : ∀ W : World, (Op.stringOp .add (S8 (vT d ++ [32, 61, 32])) (S8 (L8 nm ++ [91] ++ vT a ++ [93]))).run Tryz.prog W = .ok (.string (S8 (vT d ++ [32, 61, 32] ++ (L8 nm ++ [91] ++ vT a ++ [93])))) W := fun W => by
    have h := sadd (vT d ++ [32, 61, 32]) (L8 nm ++ [91] ++ vT a ++ [93]) (by simp; omega) W
    exact h
  generalize S8 (vT d ++ [32, 61, 32] ++ (L8 nm ++ [91] ++ vT a ++ [93])) = r0 at *
  generalize S8 (L8 nm ++ [91] ++ vT a ++ [93]) = r1 at *
  generalize S8 (L8 nm ++ [91] ++ vT a) = r2 at *
  generalize S8 (L8 nm ++ [91]) = r3 at *
  generalize S8 (vT d ++ [32, 61, 32]) = r4 at *
  generalize S8 (vT d) = r5 at *
  generalize S8 (vT a) = r6 at *
  have HS := Lib.hid (fun w => Ar.sign_any op w)
  clear hd ha hnm ls ld laa lm
  go_enter Tryz.func43, Tryz.ntmps43
  go_upto_region 1 with fail
  refine wp_world ?_
  intro W hW
  have hB : Below w.heap.size w W := by rw [← hW]; exact below1 _ _
  have hX : Blk W w.heap.size 44 #[.int .i64 5, .int .i64 d, .int .i64 a, .int .i64 b, .int .i64 op, .int .i64 n, .string nm, .slice Aa la ca] := by rw [← hW]; exact Blk.new_at _ _ _ rfl
  have x4 : W.cell? ⟨w.heap.size, 4, none⟩ = some (.int .i64 op) := hX.cell 4
  clear hW
  go_upto_region 2 with (go_at_call 80; refine (HS.out _).mono ?_; rintro e w1 ⟨rfl, hb1⟩)
  have hX1 := hX.below hb1 hX.lt
  have HB1 := Lib.hid (hB.trans (hb1.mono hB.size))
  have y0 : w1.cell? ⟨w.heap.size, 0, none⟩ = some (.int .i64 5) := hX1.cell 0
  have y1 : w1.cell? ⟨w.heap.size, 1, none⟩ = some (.int .i64 d) := hX1.cell 1
  have y2 : w1.cell? ⟨w.heap.size, 2, none⟩ = some (.int .i64 a) := hX1.cell 2
  have y3 : w1.cell? ⟨w.heap.size, 3, none⟩ = some (.int .i64 b) := hX1.cell 3
  have y5 : w1.cell? ⟨w.heap.size, 5, none⟩ = some (.int .i64 n) := hX1.cell 5
  have y6 : w1.cell? ⟨w.heap.size, 6, none⟩ = some (.string nm) := hX1.cell 6
  clear hX hX1 hB hb1 x4 HS
  generalize Ar.sgn op = sg at *
  generalize Ar.sgnOk op = sgo at *
  go_upto_region 13 with fail
  go_quiet ((go_at_call 81; first | with_reducible exact v_quiet HVA.out _ _))
  go_wp2_with (first | (go_at_call 81; first | (refine (HVD.out _).mono ?_; rintro e w' ⟨rfl, rfl⟩) | (refine (HVA.out _).mono ?_; rintro e w' ⟨rfl, rfl⟩)))
  go_ret
  exact ⟨rfl, below_drewN HB1.out _⟩

theorem text6 (d a b op n : Int) (nm : ByteArray) (va : Value) (hva : ∃ A l c, va = .slice A l c) (ha : Pl a) (hb : Pl b) (hnm : nm.size ≤ 1000) (w : World) :
    Calls Tryz.prog 43 #[.agg #[.int .i64 6, .int .i64 d, .int .i64 a, .int .i64 b, .int .i64 op, .int .i64 n, .string nm, va]] w fun e w' => e = .returned (.string (S8 (L8 nm ++ [91] ++ vT a ++ [93, 32, 61, 32] ++ vT b))) ∧ Below w.heap.size w w' := by
  obtain ⟨Aa, la, ca, rfl⟩ := hva
  have laa := vT_len ha
  have HVA := Lib.hid (v_any a ha)
  have lb := vT_len hb
  have HVB := Lib.hid (v_any b hb)
  have ls := sgn_len op
  have lm : (L8 nm).length ≤ 1000 := hnm
  have h0 : ∀ W : World, (Op.stringOp .add nm ⟨#[91]⟩).run Tryz.prog W = .ok (.string (S8 (L8 nm ++ [91]))) W := fun W => by
    have h := sadd (L8 nm) ([91]) (by simp; omega) W
    rw [S8_L8] at h; exact h
  have h1 : ∀ W : World, (Op.stringOp .add (S8 (L8 nm ++ [91])) (S8 (vT a))).run Tryz.prog W = .ok (.string (S8 (L8 nm ++ [91] ++ vT a))) W := fun W => by
    have h := sadd (L8 nm ++ [91]) (vT a) (by simp; omega) W
    exact h
  have h2 : ∀ W : World, (Op.stringOp .add (S8 (L8 nm ++ [91] ++ vT a)) ⟨#[93, 32, 61, 32]⟩).run Tryz.prog W = .ok (.string (S8 (L8 nm ++ [91] ++ vT a ++ [93, 32, 61, 32]))) W := fun W => by
    have h := sadd (L8 nm ++ [91] ++ vT a) ([93, 32, 61, 32]) (by simp; omega) W
    exact h
  have h3 : ∀ W : World, (Op.stringOp .add (S8 (L8 nm ++ [91] ++ vT a ++ [93, 32, 61, 32])) (S8 (vT b))).run Tryz.prog W = .ok (.string (S8 (L8 nm ++ [91] ++ vT a ++ [93, 32, 61, 32] ++ vT b))) W := fun W => by
    have h := sadd (L8 nm ++ [91] ++ vT a ++ [93, 32, 61, 32]) (vT b) (by simp; omega) W
    exact h
  generalize S8 (L8 nm ++ [91] ++ vT a ++ [93, 32, 61, 32] ++ vT b) = r0 at *
  generalize S8 (L8 nm ++ [91] ++ vT a ++ [93, 32, 61, 32]) = r1 at *
  generalize S8 (L8 nm ++ [91] ++ vT a) = r2 at *
  generalize S8 (L8 nm ++ [91]) = r3 at *
  generalize S8 (vT a) = r4 at *
  generalize S8 (vT b) = r5 at *
  have HS := Lib.hid (fun w => Ar.sign_any op w)
  clear ha hb hnm ls laa lb lm
  go_enter Tryz.func43, Tryz.ntmps43
  go_upto_region 1 with fail
  refine wp_world ?_
  intro W hW
  have hB : Below w.heap.size w W := by rw [← hW]; exact below1 _ _
  have hX : Blk W w.heap.size 44 #[.int .i64 6, .int .i64 d, .int .i64 a, .int .i64 b, .int .i64 op, .int .i64 n, .string nm, .slice Aa la ca] := by rw [← hW]; exact Blk.new_at _ _ _ rfl
  have x4 : W.cell? ⟨w.heap.size, 4, none⟩ = some (.int .i64 op) := hX.cell 4
  clear hW
  go_upto_region 2 with (go_at_call 80; refine (HS.out _).mono ?_; rintro e w1 ⟨rfl, hb1⟩)
  have hX1 := hX.below hb1 hX.lt
  have HB1 := Lib.hid (hB.trans (hb1.mono hB.size))
  have y0 : w1.cell? ⟨w.heap.size, 0, none⟩ = some (.int .i64 6) := hX1.cell 0
  have y1 : w1.cell? ⟨w.heap.size, 1, none⟩ = some (.int .i64 d) := hX1.cell 1
  have y2 : w1.cell? ⟨w.heap.size, 2, none⟩ = some (.int .i64 a) := hX1.cell 2
  have y3 : w1.cell? ⟨w.heap.size, 3, none⟩ = some (.int .i64 b) := hX1.cell 3
  have y5 : w1.cell? ⟨w.heap.size, 5, none⟩ = some (.int .i64 n) := hX1.cell 5
  have y6 : w1.cell? ⟨w.heap.size, 6, none⟩ = some (.string nm) := hX1.cell 6
  clear hX hX1 hB hb1 x4 HS
  generalize Ar.sgn op = sg at *
  generalize Ar.sgnOk op = sgo at *
  go_upto_region 15 with fail
  go_quiet ((go_at_call 81; first | with_reducible exact v_quiet HVA.out _ _ | with_reducible exact v_quiet HVB.out _ _))
  go_wp2_with (first | (go_at_call 81; first | (refine (HVA.out _).mono ?_; rintro e w' ⟨rfl, rfl⟩) | (refine (HVB.out _).mono ?_; rintro e w' ⟨rfl, rfl⟩)))
  go_ret
  exact ⟨rfl, below_drewN HB1.out _⟩

theorem text7 (d a b op n : Int) (nm : ByteArray) (va : Value) (hva : ∃ A l c, va = .slice A l c) (hd : Pl d) (w : World) :
    Calls Tryz.prog 43 #[.agg #[.int .i64 7, .int .i64 d, .int .i64 a, .int .i64 b, .int .i64 op, .int .i64 n, .string nm, va]] w fun e w' => e = .returned (.string (S8 (vT d ++ [32, 61, 32] ++ ([114, 101, 97, 100])))) ∧ Below w.heap.size w w' := by
  obtain ⟨Aa, la, ca, rfl⟩ := hva
  have ld := vT_len hd
  have HVD := Lib.hid (v_any d hd)
  have ls := sgn_len op
  have h0 : ∀ W : World, (Op.stringOp .add (S8 (vT d)) ⟨#[32, 61, 32]⟩).run Tryz.prog W = .ok (.string (S8 (vT d ++ [32, 61, 32]))) W := fun W => by
    have h := sadd (vT d) ([32, 61, 32]) (by simp; omega) W
    exact h
  have h1 : ∀ W : World, (Op.stringOp .add (S8 (vT d ++ [32, 61, 32])) ⟨#[114, 101, 97, 100]⟩).run Tryz.prog W = .ok (.string (S8 (vT d ++ [32, 61, 32] ++ ([114, 101, 97, 100])))) W := fun W => by
    have h := sadd (vT d ++ [32, 61, 32]) ([114, 101, 97, 100]) (by simp; omega) W
    exact h
  generalize S8 (vT d ++ [32, 61, 32] ++ ([114, 101, 97, 100])) = r0 at *
  generalize S8 (vT d ++ [32, 61, 32]) = r1 at *
  generalize S8 (vT d) = r2 at *
  have HS := Lib.hid (fun w => Ar.sign_any op w)
  clear hd ls ld
  go_enter Tryz.func43, Tryz.ntmps43
  go_upto_region 1 with fail
  refine wp_world ?_
  intro W hW
  have hB : Below w.heap.size w W := by rw [← hW]; exact below1 _ _
  have hX : Blk W w.heap.size 44 #[.int .i64 7, .int .i64 d, .int .i64 a, .int .i64 b, .int .i64 op, .int .i64 n, .string nm, .slice Aa la ca] := by rw [← hW]; exact Blk.new_at _ _ _ rfl
  have x4 : W.cell? ⟨w.heap.size, 4, none⟩ = some (.int .i64 op) := hX.cell 4
  clear hW
  go_upto_region 2 with (go_at_call 80; refine (HS.out _).mono ?_; rintro e w1 ⟨rfl, hb1⟩)
  have hX1 := hX.below hb1 hX.lt
  have HB1 := Lib.hid (hB.trans (hb1.mono hB.size))
  have y0 : w1.cell? ⟨w.heap.size, 0, none⟩ = some (.int .i64 7) := hX1.cell 0
  have y1 : w1.cell? ⟨w.heap.size, 1, none⟩ = some (.int .i64 d) := hX1.cell 1
  have y2 : w1.cell? ⟨w.heap.size, 2, none⟩ = some (.int .i64 a) := hX1.cell 2
  have y3 : w1.cell? ⟨w.heap.size, 3, none⟩ = some (.int .i64 b) := hX1.cell 3
  have y5 : w1.cell? ⟨w.heap.size, 5, none⟩ = some (.int .i64 n) := hX1.cell 5
  have y6 : w1.cell? ⟨w.heap.size, 6, none⟩ = some (.string nm) := hX1.cell 6
  clear hX hX1 hB hb1 x4 HS
  generalize Ar.sgn op = sg at *
  generalize Ar.sgnOk op = sgo at *
  go_wp2_with (first | (go_at_call 81; first | (refine (HVD.out _).mono ?_; rintro e w' ⟨rfl, rfl⟩)))
  go_ret
  exact ⟨rfl, HB1.out⟩

theorem text8 (d a b op n : Int) (nm : ByteArray) (va : Value) (hva : ∃ A l c, va = .slice A l c) (ha : Pl a) (w : World) :
    Calls Tryz.prog 43 #[.agg #[.int .i64 8, .int .i64 d, .int .i64 a, .int .i64 b, .int .i64 op, .int .i64 n, .string nm, va]] w fun e w' => e = .returned (.string (S8 ([112, 114, 105, 110, 116, 32] ++ vT a))) ∧ Below w.heap.size w w' := by
  obtain ⟨Aa, la, ca, rfl⟩ := hva
  have laa := vT_len ha
  have HVA := Lib.hid (v_any a ha)
  have ls := sgn_len op
  have h0 : ∀ W : World, (Op.stringOp .add ⟨#[112, 114, 105, 110, 116, 32]⟩ (S8 (vT a))).run Tryz.prog W = .ok (.string (S8 ([112, 114, 105, 110, 116, 32] ++ vT a))) W := fun W => by
    have h := sadd ([112, 114, 105, 110, 116, 32]) (vT a) (by simp; omega) W
    exact h
  generalize S8 ([112, 114, 105, 110, 116, 32] ++ vT a) = r0 at *
  generalize S8 (vT a) = r1 at *
  have HS := Lib.hid (fun w => Ar.sign_any op w)
  clear ha ls laa
  go_enter Tryz.func43, Tryz.ntmps43
  go_upto_region 1 with fail
  refine wp_world ?_
  intro W hW
  have hB : Below w.heap.size w W := by rw [← hW]; exact below1 _ _
  have hX : Blk W w.heap.size 44 #[.int .i64 8, .int .i64 d, .int .i64 a, .int .i64 b, .int .i64 op, .int .i64 n, .string nm, .slice Aa la ca] := by rw [← hW]; exact Blk.new_at _ _ _ rfl
  have x4 : W.cell? ⟨w.heap.size, 4, none⟩ = some (.int .i64 op) := hX.cell 4
  clear hW
  go_upto_region 2 with (go_at_call 80; refine (HS.out _).mono ?_; rintro e w1 ⟨rfl, hb1⟩)
  have hX1 := hX.below hb1 hX.lt
  have HB1 := Lib.hid (hB.trans (hb1.mono hB.size))
  have y0 : w1.cell? ⟨w.heap.size, 0, none⟩ = some (.int .i64 8) := hX1.cell 0
  have y1 : w1.cell? ⟨w.heap.size, 1, none⟩ = some (.int .i64 d) := hX1.cell 1
  have y2 : w1.cell? ⟨w.heap.size, 2, none⟩ = some (.int .i64 a) := hX1.cell 2
  have y3 : w1.cell? ⟨w.heap.size, 3, none⟩ = some (.int .i64 b) := hX1.cell 3
  have y5 : w1.cell? ⟨w.heap.size, 5, none⟩ = some (.int .i64 n) := hX1.cell 5
  have y6 : w1.cell? ⟨w.heap.size, 6, none⟩ = some (.string nm) := hX1.cell 6
  clear hX hX1 hB hb1 x4 HS
  generalize Ar.sgn op = sg at *
  generalize Ar.sgnOk op = sgo at *
  go_wp2_with (first | (go_at_call 81; first | (refine (HVA.out _).mono ?_; rintro e w' ⟨rfl, rfl⟩)))
  go_ret
  exact ⟨rfl, HB1.out⟩

theorem namesAt_next1 {W wr w1 : World} {v : Value} {l : List ByteArray} {s : ByteArray} {n g cap : Nat} {xs : List Value} {o1 : Obj} (h : NamesAt W wr v l) (hn : n = l.length) (hx : xs = l.map encT) (hown : w1.ownsRow W.heap.size 9 1 (.slice (some ⟨g, 0, none⟩) (n + 1) cap) (n + 1) (xs ++ [.string s]))
    (hg : (wr.alloc o1).grownBy w1 v.ownBlock) : NamesAt W w1 (.slice (some ⟨g, 0, none⟩) (n + 1) cap) (l ++ [s]) := by
  subst hn
  subst hx
  have hs := h.below.size
  refine ⟨by simpa [encT] using hown, ?_⟩
  refine (h.below.alloc hs o1).grown hg (by simp; omega) (fun k e => ?_)
  have := h.row.lt k e
  omega
theorem joinTail_len (r : List Int) (h : ∀ x ∈ r, Pl x) : (Lib.joinTail [44, 32] (r.map vT)).length ≤ r.length * 5 := by
  induction r with
  | nil => simp [Lib.joinTail]
  | cons x r ih =>
    have h1 := vT_len (h x (by simp))
    have h2 := ih fun y hy => h y (by simp [hy])
    unfold Lib.joinTail at h2 ⊢
    rw [List.map_cons, List.map_cons, List.flatten_cons, List.length_append, List.length_append, List.length_cons]
    simp only [List.length_cons, List.length_nil]
    omega
theorem join_len (l : List Int) (h : ∀ x ∈ l, Pl x) : (Lib.join (l.map vT) [44, 32]).length ≤ l.length * 5 := by
  cases l with
  | nil => simp [Lib.join_nil]
  | cons x r =>
    have h1 := vT_len (h x (by simp))
    have h2 := joinTail_len r fun y hy => h y (by simp [hy])
    rw [List.map_cons, Lib.join_cons, List.length_append, List.length_cons]
    omega
/-- strings.Join of texts of the call's own -/
theorem join_own (W wr : World) (v : Value) (l : List ByteArray) (h : NamesAt W wr v l) (hl : l.length ≤ 10) (hj : (Lib.join (l.map (·.data.toList)) [44, 32]).length ≤ 1000) (X : World) (hb : Below wr.heap.size wr X) :
    Calls Tryz.prog 82 #[v, .string ⟨#[44, 32]⟩] X fun e X' => e = .returned (.string (S8 (Lib.join (l.map (·.data.toList)) [44, 32]))) ∧ Below X.heap.size X X' := by
  have hrow := h.row.kept (grown_below' (row := none) hb) (Classical.em _)
  rcases hrow.2 with ⟨rfl, h0⟩ | ⟨g, cap, cur, rfl, hbase, hbk, h1, h2, h3, h4⟩
  · have hl0 : l = [] := List.length_eq_zero_iff.1 h0
    subst hl0
    refine (Any.strings_Join_none Tryz.joinS joinX none 0 ⟨#[44, 32]⟩ X).mono ?_
    rintro e X' ⟨rfl, rfl⟩
    exact ⟨rfl, Below.refl _ _⟩
  · refine (Any.strings_Join Tryz.joinS joinX g 0 cap l ⟨#[44, 32]⟩ X (fun j x hj' => ?_) (Array.getElem?_eq_some_iff.1 hbk).1 (by omega) (by omega) (by show (Lib.join _ [44, 32]).length ≤ _; omega)).mono ?_
    · have hlt : j < l.length := (List.getElem?_eq_some_iff.1 hj').1
      have hc := hrow.cells (g := g) rfl j (encT x) (by rw [List.getElem?_map, hj']; rfl)
      by_cases hj0 : j = 0
      · subst hj0; simpa [Addr.add, encT] using hc
      · simpa [Addr.add, hj0, encT] using hc
    · rintro e X' ⟨rfl, hb'⟩
      exact ⟨rfl, hb'⟩
theorem text9 (d a b op n : Int) (nm : ByteArray) (args : List Int) (Aa : Option Addr) (ca : Nat) (hd : Pl d) (hnm : nm.size ≤ 1000) (hargs : ∀ x ∈ args, Pl x) (hlen : args.length ≤ 10) (w : World) (hv : SlR w (· < w.heap.size) 1 RInt (.slice Aa args.length ca) args) :
    Calls Tryz.prog 43 #[.agg #[.int .i64 9, .int .i64 d, .int .i64 a, .int .i64 b, .int .i64 op, .int .i64 n, .string nm, .slice Aa args.length ca]] w fun e w' => e = .returned (.string (S8 (vT d ++ [32, 61, 32] ++ (L8 nm ++ [40] ++ Lib.join (args.map vT) [44, 32] ++ [41])))) ∧ Below w.heap.size w w' := by
  have ld := vT_len hd
  have lj := join_len args hargs
  have lm : (L8 nm).length ≤ 1000 := hnm
  have HVD := Lib.hid (v_any d hd)
  have HVX := Lib.hid (fun (x : Int) (h : x ∈ args) (w : World) => v_any x (hargs x h) w)
  have hjj : ∀ l : List Int, (l.map fun x => S8 (vT x)).map (·.data.toList) = l.map vT := fun l => by rw [List.map_map]; exact List.map_congr_left fun x _ => rfl
  have a0 : ∀ W : World, (Op.stringOp .add nm ⟨#[40]⟩).run Tryz.prog W = .ok (.string (S8 (L8 nm ++ [40]))) W := fun W => by
    have h := sadd (L8 nm) [40] (by simp; omega) W
    rw [S8_L8] at h; exact h
  have a1 : ∀ W : World, (Op.stringOp .add (S8 (L8 nm ++ [40])) (S8 (Lib.join (args.map vT) [44, 32]))).run Tryz.prog W = .ok (.string (S8 (L8 nm ++ [40] ++ Lib.join (args.map vT) [44, 32]))) W := fun W => sadd _ _ (by simp; omega) W
  have a2 : ∀ W : World, (Op.stringOp .add (S8 (L8 nm ++ [40] ++ Lib.join (args.map vT) [44, 32])) ⟨#[41]⟩).run Tryz.prog W = .ok (.string (S8 (L8 nm ++ [40] ++ Lib.join (args.map vT) [44, 32] ++ [41]))) W := fun W => sadd _ [41] (by simp; omega) W
  have a3 : ∀ W : World, (Op.stringOp .add (S8 (vT d)) ⟨#[32, 61, 32]⟩).run Tryz.prog W = .ok (.string (S8 (vT d ++ [32, 61, 32]))) W := fun W => sadd _ [32, 61, 32] (by simp; omega) W
  have a4 : ∀ W : World, (Op.stringOp .add (S8 (vT d ++ [32, 61, 32])) (S8 (L8 nm ++ [40] ++ Lib.join (args.map vT) [44, 32] ++ [41]))).run Tryz.prog W = .ok (.string (S8 (vT d ++ [32, 61, 32] ++ (L8 nm ++ [40] ++ Lib.join (args.map vT) [44, 32] ++ [41])))) W := fun W => sadd _ _ (by simp; omega) W
  have HJL : Hid ((Lib.join ((args.map fun x => S8 (vT x)).map (·.data.toList)) [44, 32]).length ≤ 1000) := Lib.hid (by rw [hjj]; omega)
  have HJE : Hid (S8 (Lib.join ((args.map fun x => S8 (vT x)).map (·.data.toList)) [44, 32]) = S8 (Lib.join (args.map vT) [44, 32])) := Lib.hid (by rw [hjj])
  generalize S8 (vT d ++ [32, 61, 32] ++ (L8 nm ++ [40] ++ Lib.join (args.map vT) [44, 32] ++ [41])) = q4 at *
  generalize S8 (vT d ++ [32, 61, 32]) = q3 at *
  generalize S8 (L8 nm ++ [40] ++ Lib.join (args.map vT) [44, 32] ++ [41]) = q2 at *
  generalize S8 (L8 nm ++ [40] ++ Lib.join (args.map vT) [44, 32]) = q1 at *
  generalize S8 (L8 nm ++ [40]) = q0 at *
  generalize S8 (Lib.join (args.map vT) [44, 32]) = js at *
  generalize S8 (vT d) = vd at *
  obtain ⟨z0, hi0, hz0, hz1, hz2⟩ := info_parts info_string
  have HS := Lib.hid (fun w => Ar.sign_any op w)
  have HAR := Lib.hid hv
  clear hd hnm hargs ld lj lm hjj hv
  go_enter Tryz.func43, Tryz.ntmps43
  go_upto_region 1 with fail
  refine wp_world ?_
  intro W hW
  have hB : Below w.heap.size w W := by rw [← hW]; exact below1 _ _
  have hX : Blk W w.heap.size 44 #[.int .i64 9, .int .i64 d, .int .i64 a, .int .i64 b, .int .i64 op, .int .i64 n, .string nm, .slice Aa args.length ca] := by rw [← hW]; exact Blk.new_at _ _ _ rfl
  have x4 : W.cell? ⟨w.heap.size, 4, none⟩ = some (.int .i64 op) := hX.cell 4
  clear hW
  go_upto_region 2 with (go_at_call 80; refine (HS.out _).mono ?_; rintro e w1 ⟨rfl, hb1⟩)
  have hX1 := hX.below hb1 hX.lt
  have HB1 := Lib.hid (hB.trans (hb1.mono hB.size))
  have HX1 := Lib.hid hX1
  have y0 : w1.cell? ⟨w.heap.size, 0, none⟩ = some (.int .i64 9) := hX1.cell 0
  have y7 : w1.cell? ⟨w.heap.size, 7, none⟩ = some (.slice Aa args.length ca) := hX1.cell 7
  clear hX hX1 hB hb1 x4 HS
  generalize Ar.sgn op = sg at *
  generalize Ar.sgnOk op = sgo at *
  go_wp2
  clear y0 y7
  go_loopw [6, 85] (fun v i wr => ∃ k : Nat, k ≤ args.length ∧ i = .int .i64 k ∧ NamesAt w1 wr v ((args.map fun x => S8 (vT x)).take k)) (fun _ i _ => args.length - (RowKit.intOf i).toNat)
  case atStart => exact ⟨0, by omega, rfl, World.ownsRow_nil _ _ _ _, Below.refl _ _⟩
  case round =>
    obtain ⟨k, hk, rfl, hna⟩ := hrel
    obtain ⟨Av, cv, hvv⟩ := own_form hna.row
    have htl := take_map_len (fun x => S8 (vT x)) args k hk
    rw [htl] at hvv
    subst hvv
    have hbr := hna.below
    have hsz := hbr.size
    by_cases hlt : k < args.length
    · have d1 : decide ((k : Int) < (args.length : Int)) = true := decide_eq_true (by omega)
      have HBR := Lib.hid (HB1.out.trans (hbr.mono HB1.out.size))
      obtain ⟨b3, o3, c3, f3, _, _, hb3, q3'⟩ := HAR.out.form (by omega)
      obtain rfl : Aa = some ⟨b3, o3, none⟩ := by injection f3
      obtain ⟨cs, _, hcs, hcell⟩ := q3' k hlt
      have hmem := List.getElem_mem hlt
      obtain ⟨x, hx⟩ : ∃ x, x = args[k] := ⟨_, rfl⟩
      rw [← hx] at hcs hmem
      subst hcs
      have hcw := hcell.keep (HBR.out.block b3 hb3)
      have i0 : wr.cell? ⟨b3, o3 + k, none⟩ = some (.int .i64 x) := by have h := hcw.at_ (j := 0) rfl; simpa using h
      have hts := take_map_succ (fun x => S8 (vT x)) args k hlt
      rw [← hx] at hts
      have HVK := Lib.hid (HVX.out x hmem)
      have HTS := Lib.hid hts
      have hown : wr.ownsRow w1.heap.size 9 1 (.slice Av k cv) k (((args.map fun x => S8 (vT x)).take k).map encT) := by have h := hna.row; rw [htl] at h; exact h
      have HNA := Lib.hid hna
      have HTL := Lib.hid htl
      clear f3 q3' hcell hcw hx hts htl hna hb3 hmem
      generalize hxs : ((args.map fun x => S8 (vT x)).take k).map encT = xs at *
      have HXS := Lib.hid hxs
      clear hxs
      generalize S8 (vT x) = tx at *
      go_wp2_with (first | (go_at_call 81; refine (HVK.out _).mono ?_; rintro e w' ⟨rfl, rfl⟩) | (at_builtin; refine wpList_append_lies _ rfl (.tmp 89) (.tmp 92) _ rfl w1.heap.size 9 z0 _ 1 16 Tryz.underlying54 hi0 hz0 hz1 hz2 rfl (by decide) _ _ _ rfl (hown.alloc _) ⟨wr.heap.size, 0, none⟩ 1 1 [.string tx] rfl rfl (World.news_of_block (cs := #[.string tx]) (t := 9) (fr := (0, 0)) (Blk.new_at _ _ _ (by simp))) (by simp [Value.oneCell']) (by decide) (by unfold maxLen; omega) (by omega) (by simp; omega) (wr.heap.size + 1) (by simp) ?_; intro g cap w3 hown1 hgrow hat hlt1))
      go_roundw
      case rel =>
        refine ⟨k + 1, by omega, by go_num, ?_⟩
        rw [HTS.out]
        exact namesAt_next1 HNA.out HTL.out.symm HXS.out.symm hown1 hgrow
      case measure => simp [RowKit.intOf]; omega
    · obtain rfl : k = args.length := by omega
      have d1 : decide ((args.length : Int) < (args.length : Int)) = false := decide_eq_false (by omega)
      have htk : (args.map fun x => S8 (vT x)).take args.length = args.map fun x => S8 (vT x) := List.take_of_length_le (by simp)
      rw [htk] at hna
      have HBR := Lib.hid (HB1.out.trans (hbr.mono HB1.out.size))
      have HJ : Hid (∀ X, Below wr.heap.size wr X → Calls Tryz.prog 82 #[.slice Av args.length cv, .string ⟨#[44, 32]⟩] X fun e X' => e = .returned (.string js) ∧ Below X.heap.size X X') := Lib.hid (fun X hb => by
        rw [← HJE.out]
        exact join_own w1 wr _ _ hna (by simp; omega) HJL.out X hb)
      have hxr := HX1.out.below hbr HX1.out.lt
      have g6 : wr.cell? ⟨w.heap.size, 6, none⟩ = some (.string nm) := hxr.cell 6
      have g1 : wr.cell? ⟨w.heap.size, 1, none⟩ = some (.int .i64 d) := hxr.cell 1
      have gl := hxr.lt
      have SO : Hid (∀ X, Below wr.heap.size wr X → (fun w2 : World => w2.cell? ⟨w.heap.size, 6, none⟩ = some (.string nm)) X) := Lib.hid (fun X hb => (hb.cell (p := ⟨w.heap.size, 6, none⟩) gl).trans g6)
      clear htk hna hbr hsz htl hxr HJE HJL
      go_upto_region 27 with fail
      refine wp_region_L (by kernel_rfl) 7 (fun w2 => w2.cell? ⟨w.heap.size, 6, none⟩ = some (.string nm)) (SO.out _ (Below.refl _ _).drew) (fun hHeld => ?_)
      have HS0 := Lib.hid hHeld
      clear hHeld
      change wpAnyL _ _ _ _ _ 7 8 (Array.replicate 8 false) _ _
      refine takeL 0 95 (.pointer (some ⟨w.heap.size, 6, none⟩)) HS0.out rfl rfl (by kernel_rfl) (by kernel_rfl) (by kernel_rfl) (by decide) (fun _ _ _ h => h) (by kernel_rfl) ?_ ?_
      · intro w2; go_simp
      simp only [List.setIfInBounds_toArray, List.set_cons_zero, List.set_cons_succ]
      refine takeL_S 1 96 (.string nm) [7] HS0.out rfl rfl (by kernel_rfl) (by kernel_rfl) (by kernel_rfl) (by decide) (by kernel_rfl) (fun _ _ _ h => h) (by kernel_rfl) ?_ ?_
      · intro w2 hSw; obtain g6 := hSw; go_simp
      simp only [List.setIfInBounds_toArray, List.set_cons_zero, List.set_cons_succ]
      refine takeL 2 97 (.string q0) HS0.out rfl rfl (by kernel_rfl) (by kernel_rfl) (by kernel_rfl) (by decide) (fun _ _ _ h => h) (by kernel_rfl) ?_ ?_
      · intro w2; go_simp
      simp only [List.setIfInBounds_toArray, List.set_cons_zero, List.set_cons_succ]
      refine takeL 3 98 (.slice Av args.length cv) HS0.out rfl rfl (by kernel_rfl) (by kernel_rfl) (by kernel_rfl) (by decide) (fun _ _ _ h => h) (by kernel_rfl) ?_ ?_
      · intro w2; go_simp
      simp only [List.setIfInBounds_toArray, List.set_cons_zero, List.set_cons_succ]
      refine wpAnyL_ready (rs := [4]) (by kernel_rfl) (by simp) ?_
      refine AllReadyL.cons rfl (fun K hK => ?_) AllReadyL.nil
      go_simp
      refine (HJ.out wr.drew (Below.refl _ _).drew).mono ?_
      rintro e X1 ⟨rfl, hx1⟩
      have HX1 : Hid (Below wr.heap.size wr X1) := Lib.hid (Below.trans (Below.refl wr.heap.size wr).drew hx1)
      clear hx1
      refine hK.out _ _ (SO.out _ HX1.out) (fun hHeld => ?_)
      have HS1 := Lib.hid hHeld
      clear hK K hHeld
      try simp only [List.setIfInBounds_toArray, List.set_cons_zero, List.set_cons_succ]
      refine takeL 5 100 (.string q1) HS1.out rfl rfl (by kernel_rfl) (by kernel_rfl) (by kernel_rfl) (by decide) (fun _ _ _ h => h) (by kernel_rfl) ?_ ?_
      · intro w2; go_simp
      simp only [List.setIfInBounds_toArray, List.set_cons_zero, List.set_cons_succ]
      refine takeL 6 101 (.string q2) HS1.out rfl rfl (by kernel_rfl) (by kernel_rfl) (by kernel_rfl) (by decide) (fun _ _ _ h => h) (by kernel_rfl) ?_ ?_
      · intro w2; go_simp
      simp only [List.setIfInBounds_toArray, List.set_cons_zero, List.set_cons_succ]
      refine wpAnyL_ready (rs := [7]) (by kernel_rfl) (by simp) ?_
      refine AllReadyL.last rfl (by kernel_rfl) (fun K hK => ?_)
      go_simp
      refine hK.out _ _ ?_
      clear hK K
      try simp only [List.setIfInBounds_toArray, List.set_cons_zero, List.set_cons_succ]
      refine wpAnyL_done (by kernel_rfl) ?_ _
      have z1 : X1.cell? ⟨w.heap.size, 1, none⟩ = some (.int .i64 d) := (HX1.out.cell (p := ⟨w.heap.size, 1, none⟩) gl).trans g1
      go_wp2_with (go_at_call 81; refine (HVD.out _).mono ?_; rintro e w' ⟨rfl, rfl⟩)
      go_ret
      exact ⟨rfl, HBR.out.trans (HX1.out.mono HBR.out.size)⟩

/-- an instruction that may be printed -/
structure TextOk (x : LIns) : Prop where
  kind : 1 ≤ x.kind ∧ x.kind ≤ 9
  d : Pl x.d
  a : Pl x.a
  b : Pl x.b
  n : I64 x.n
  name : x.name.size ≤ 1000
  args : ∀ n ∈ x.args, Pl n
  argc : x.args.length ≤ 10
theorem text_any (x : LIns) (hx : TextOk x) (va : Value) (w : World) (hv : SlR w (· < w.heap.size) 1 RInt va x.args) (hN : x.kind = 1 → ItoaAt x.n w) :
    Calls Tryz.prog 43 #[.agg #[.int .i64 x.kind, .int .i64 x.d, .int .i64 x.a, .int .i64 x.b, .int .i64 x.op, .int .i64 x.n, .string x.name, va]] w fun e w' => e = .returned (.string (S8 (insT x))) ∧ Below w.heap.size w w' := by
  obtain ⟨Aa, ca, rfl, _, _⟩ := hv.val
  obtain ⟨k, d, a, b, op, n, nm, args⟩ := x
  obtain ⟨⟨k0, k1⟩, hd, ha, hb, hn, hnm, hargs, hlen⟩ := hx
  replace hd : Pl d := hd
  replace ha : Pl a := ha
  replace hb : Pl b := hb
  replace hn : I64 n := hn
  replace k0 : 1 ≤ k := k0
  replace k1 : k ≤ 9 := k1
  have hva : ∃ A l c, Value.slice Aa args.length ca = .slice A l c := ⟨_, _, _, rfl⟩
  rcases (by omega : k = 1 ∨ k = 2 ∨ k = 3 ∨ k = 4 ∨ k = 5 ∨ k = 6 ∨ k = 7 ∨ k = 8 ∨ k = 9) with rfl | rfl | rfl | rfl | rfl | rfl | rfl | rfl | rfl
  · exact text1 d a b op n nm _ hva hd hn w (hN rfl)
  · exact text2 d a b op n nm _ hva hd ha w
  · exact text3 d a b op n nm _ hva hd ha w
  · exact text4 d a b op n nm _ hva hd ha hb w
  · exact text5 d a b op n nm _ hva hd ha hnm w
  · exact text6 d a b op n nm _ hva ha hb hnm w
  · exact text7 d a b op n nm _ hva hd w
  · exact text8 d a b op n nm _ hva ha w
  · exact text9 d a b op n nm args Aa ca hd hnm hargs hlen w hv

end
end Go.Proofs.YtkpigkopjfkepaaGreatDoor
