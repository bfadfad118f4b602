/- Chapter 10's example: its first calls, whose answers are fixed. What ir.Check tells of the empty unit. -/
import Derived.Test.YtkpigkopjfkepaaGreatDoorPbPrint
import Derived.Test.YtkpigkopjfkepaaGreatDoorPbFitMem
import Derived.Test.YtkpigkopjfkepaaGreatDoorPbFlowSm
namespace Go.Proofs.YtkpigkopjfkepaaGreatDoor
open Go.RowKit Go.Shelf

set_option maxHeartbeats 1000000 in
theorem compact_none (p : Option Addr) (c : Nat) (w : World) : Calls Tryz.prog 60 #[.slice p 0 c] w fun e w' => e = .returned (.slice p 0 c) ∧ Below w.heap.size w w' := by
  go_enter Tryz.func60, Tryz.ntmps60
  go_wp2
  go_ret
  exact ⟨rfl, Below.refl _ _⟩
set_option maxHeartbeats 1000000 in
theorem names_none (w : World) : Calls Tryz.prog 29 #[.agg #[.slice none 0 0, .slice none 0 0]] w fun e w' => e = .returned (.bool true) ∧ Below w.heap.size w w' := by
  have HM := Lib.hid (fun W => con_name [] (.slice none 0 0) (fun _ => false) W (SlR.nil_ _ _ _ _) (names1_pred [] W (fun s hs => by cases hs)))
  have hany : (([] : List ByteArray).any fun _ => false) = false := rfl
  rw [hany] at HM
  have hpos : decide (0 = 0) = true := by decide
  go_enter Tryz.func29, Tryz.ntmps29
  go_upto_region 1 with fail
  refine wp_world ?_
  intro W hW
  have hB : Below w.heap.size w W := by rw [← hW]; exact below1 _ _
  have hU : Blk W w.heap.size 27 #[.slice none 0 0, .slice none 0 0] := by rw [← hW]; exact Blk.new_at _ _ _ rfl
  have u0 : W.cell? ⟨w.heap.size, 0, none⟩ = some (.slice none 0 0) := hU.cell 0
  have u1 : W.cell? ⟨w.heap.size, 1, none⟩ = some (.slice none 0 0) := hU.cell 1
  clear hW hU
  go_wp2
  go_loopw [3, 11] (fun v i wr => v = .slice none 0 0 ∧ i = .int .i64 0 ∧ wr = W) (fun _ _ _ => 0)
  case atStart => exact ⟨rfl, rfl, rfl⟩
  case round =>
    obtain ⟨rfl, rfl, rfl⟩ := hrel
    go_wp2
    go_loopw [3, 24] (fun v i wr2 => v = .slice none 0 0 ∧ i = .int .i64 0 ∧ wr2 = wr) (fun _ _ _ => 0)
    case atStart => exact ⟨rfl, rfl, rfl⟩
    case round =>
      obtain ⟨rfl, rfl, rfl⟩ := hrel
      go_wp2_with (first | (go_at_call 56; refine (AnyM.slices_Sort_string_none Tryz.sortS none 0 _).mono ?_; rintro e w2 ⟨rfl, rfl⟩) | (go_at_call 57; refine (HM.out _).mono ?_; rintro e w3 ⟨rfl, hb3⟩) | (go_at_call 61; refine (AnyE.slices_Clone_nil Tryz.cloneS 0 0 _).mono ?_; rintro e w4 ⟨rfl, rfl⟩) | (go_at_call 60; refine (compact_none none 0 _).mono ?_; rintro e w5 ⟨rfl, hb5⟩))
      go_ret
      exact ⟨by first | rfl | simp, hB.trans ((hb3.trans (hb5.mono hb3.size)).mono hB.size)⟩
set_option maxHeartbeats 2000000 in
/-- the empty unit may not be: there is no main -/
theorem check_none (w : World) : Calls Tryz.prog 11 #[.agg #[.slice none 0 0, .slice none 0 0]] w fun e w' => e = .returned (.tuple #[.int .i64 1, .agg #[.int .i64 0, .int .i64 0]]) ∧ Below w.heap.size w w' := by
  have hpl : placeU ⟨[], []⟩ sMain = -1 := by unfold placeU findI; simp
  have HP := Lib.hid (fun W => place_u ⟨[], []⟩ sMain none 0 0 (.slice none 0 0) W (SlR.nil_ _ _ _ _))
  rw [hpl] at HP
  have HS := Lib.hid (fun W => con_size [] (.slice none 0 0) (fun _ => false) W (SlR.nil_ _ _ _ _) (size_pred [] W (fun a ha => by cases ha)))
  have hany : (([] : List (ByteArray × Int)).any fun _ => false) = false := rfl
  rw [hany] at HS
  unfold sMain at HP
  clear hpl hany
  go_enter Tryz.func11, Tryz.ntmps11
  go_upto_region 1 with fail
  refine wp_world ?_
  intro W hW
  have hB : Below w.heap.size w W := by rw [← hW]; exact below2 _ _ _
  have hX : Blk W w.heap.size 27 #[.slice none 0 0, .slice none 0 0] := by rw [← hW]; exact (Blk.new_at _ _ _ rfl).alloc _
  have hR : Blk W (w.heap.size + 1) 32 #[.int .i64 0, .int .i64 0] := by rw [← hW]; exact Blk.new_at _ _ _ (by simp)
  have x0 : W.cell? ⟨w.heap.size, 0, none⟩ = some (.slice none 0 0) := hX.cell 0
  have x1 : W.cell? ⟨w.heap.size, 1, none⟩ = some (.slice none 0 0) := hX.cell 1
  have HX := Lib.hid hX
  have HR := Lib.hid hR
  have HB := Lib.hid hB
  clear hW hX hR hB
  go_upto_region 2 with (go_at_call 26; refine (HP.out _).mono ?_; rintro e w1 ⟨rfl, hb1⟩)
  have hX1 := HX.out.below hb1 HX.out.lt
  have y0 : w1.cell? ⟨w.heap.size, 0, none⟩ = some (.slice none 0 0) := hX1.cell 0
  have y1 : w1.cell? ⟨w.heap.size, 1, none⟩ = some (.slice none 0 0) := hX1.cell 1
  go_upto_region 3 with (go_at_call 27; refine (HS.out _).mono ?_; rintro e w2 ⟨rfl, hb2⟩)
  have hb02 := hb1.trans (hb2.mono hb1.size)
  have hX2 := HX.out.below hb02 HX.out.lt
  have z0 : w2.cell? ⟨w.heap.size, 0, none⟩ = some (.slice none 0 0) := hX2.cell 0
  have z1 : w2.cell? ⟨w.heap.size, 1, none⟩ = some (.slice none 0 0) := hX2.cell 1
  go_wp2_with (go_at_call 29; refine (names_none _).mono ?_; rintro e w3 ⟨rfl, hb3⟩; have hb03 := hb02.trans (hb3.mono hb02.size); have hR3 := HR.out.below hb03 HR.out.lt; have r0 : w3.cell? ⟨w.heap.size + 1, 0, none⟩ = some (.int .i64 0) := hR3.cell 0; have r1 : w3.cell? ⟨w.heap.size + 1, 1, none⟩ = some (.int .i64 0) := hR3.cell 1; have r2 := hR3.frozen 0; have r3 := hR3.frozen 1)
  generalize hW9 : (w3.setCell ⟨w.heap.size + 1, 0, none⟩ (.int .i64 0)).setCell ⟨w.heap.size + 1, 1, none⟩ (.int .i64 0) = W9
  have q0 : W9.cell? ⟨w.heap.size + 1, 0, none⟩ = some (.int .i64 0) := by rw [← hW9]; exact ((hR3.set_ 0 _).set_ 1 _).cell 0
  have q1 : W9.cell? ⟨w.heap.size + 1, 1, none⟩ = some (.int .i64 0) := by rw [← hW9]; exact ((hR3.set_ 0 _).set_ 1 _).cell 1
  have q2 : Below w.heap.size w W9 := by rw [← hW9]; exact ((HB.out.trans (hb03.mono HB.out.size)).setCell (by simp) _).setCell (by simp) _
  clear hW9 r0 r1 r2 r3
  exact bodyPost_ret (v := .tuple #[.int .i64 1, .agg #[.int .i64 0, .int .i64 0]]) (by simp [results, Tryz.results11, go_sem, q0, q1]) rfl ⟨rfl, q2⟩

/-! ### the example -/
theorem itoa_dg (k : Nat) (h : k < 10) : Lib.itoa (k : Int) = [UInt8.ofNat (48 + k)] := by
  unfold Lib.itoa
  rw [if_neg (by omega)]
  exact Lib.decDigits_one h
end Go.Proofs.YtkpigkopjfkepaaGreatDoor
