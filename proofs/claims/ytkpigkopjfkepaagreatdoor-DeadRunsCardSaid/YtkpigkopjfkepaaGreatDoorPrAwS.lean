/- Chapter 10's example: its first calls, whose answers are fixed. What ir.Check tells of the empty unit. Chapter 15's example: its first calls, whose answers are fixed. What dead.Dead tells of the empty unit. Printed by wip/gen_aw15.py. -/
import Derived.Test.YtkpigkopjfkepaaGreatDoorPrPrintS
import Derived.Test.YtkpigkopjfkepaaGreatDoorPrFitMem
import Derived.Test.YtkpigkopjfkepaaGreatDoorPrFlowSm
import Derived.Test.YtkpigkopjfkepaaGreatDoorPrDeadSize
import Derived.Test.YtkpigkopjfkepaaGreatDoorPrRegion
import Derived.ChangeKeysEq
namespace Go.Proofs.YtkpigkopjfkepaaGreatDoor
open List (setIfInBounds_toArray set_cons_zero set_cons_succ)
open Go.RowKit Go.Shelf
set_option maxHeartbeats 1000000 in
theorem compact_none (p : Option Addr) (c : Nat) (w : World) : Calls Tryz.prog 60 #[.slice p 0 c] w fun e w' => e = .returned (.slice p 0 c) ∧ Below w.heap.size w w' := by
 go_enter Tryz.func60, Tryz.ntmps60
 go_wp2
 go_ret
 exact ⟨rfl, Below.refl _ _⟩
set_option maxHeartbeats 1000000 in
theorem names_none (w : World) : Calls Tryz.prog 29 #[.agg #[.slice none 0 0, .slice none 0 0]] w fun e w' => e = .returned (.bool true) ∧ Below w.heap.size w w' := by
 have HM := Lib.hid (fun W => con_name [] (.slice none 0 0) (fun _ => false) W (SlR.nil_ _ _ _ _) (names1_pred [] W (fun s hs => by cases hs)))
 have hany : (([] : List ByteArray).any fun _ => false) = false := rfl
 rw [hany] at HM
 have hpos : decide (0 = 0) = true := by decide
 go_enter Tryz.func29, Tryz.ntmps29
 go_upto_region 1 with fail
 refine wp_world ?_
 intro W hW
 have hB : Below w.heap.size w W := by rw [← hW]; exact below1 _ _
 have hU : Blk W w.heap.size 27 #[.slice none 0 0, .slice none 0 0] := by rw [← hW]; exact Blk.new_at _ _ _ rfl
 have u0 : W.cell? ⟨w.heap.size, 0, none⟩ = some (.slice none 0 0) := hU.cell 0
 have u1 : W.cell? ⟨w.heap.size, 1, none⟩ = some (.slice none 0 0) := hU.cell 1
 clear hW hU
 go_wp2
 go_loopw [3, 11] (fun v i wr => v = .slice none 0 0 ∧ i = .int .i64 0 ∧ wr = W) (fun _ _ _ => 0)
 case atStart => exact ⟨rfl, rfl, rfl⟩
 case round =>
  obtain ⟨rfl, rfl, rfl⟩ := hrel
  go_wp2
  go_loopw [3, 24] (fun v i wr2 => v = .slice none 0 0 ∧ i = .int .i64 0 ∧ wr2 = wr) (fun _ _ _ => 0)
  case atStart => exact ⟨rfl, rfl, rfl⟩
  case round =>
   obtain ⟨rfl, rfl, rfl⟩ := hrel
   go_wp2_with (first | (go_at_call 56; refine (AnyM.slices_Sort_string_none Tryz.sortS none 0 _).mono ?_; rintro e w2 ⟨rfl, rfl⟩) | (go_at_call 57; refine (HM.out _).mono ?_; rintro e w3 ⟨rfl, hb3⟩) | (go_at_call 61; refine (AnyE.slices_Clone_nil Tryz.cloneS 0 0 _).mono ?_; rintro e w4 ⟨rfl, rfl⟩) | (go_at_call 60; refine (compact_none none 0 _).mono ?_; rintro e w5 ⟨rfl, hb5⟩))
   go_ret
   exact ⟨by first | rfl | simp, hB.trans ((hb3.trans (hb5.mono hb3.size)).mono hB.size)⟩
set_option maxHeartbeats 2000000 in
theorem check_none (w : World) : Calls Tryz.prog 11 #[.agg #[.slice none 0 0, .slice none 0 0]] w fun e w' => e = .returned (.tuple #[.int .i64 1, .agg #[.int .i64 0, .int .i64 0]]) ∧ Below w.heap.size w w' := by
 have hpl : placeU ⟨[], []⟩ sMain = -1 := by unfold placeU findI; simp
 have HP := Lib.hid (fun W => place_u ⟨[], []⟩ sMain none 0 0 (.slice none 0 0) W (SlR.nil_ _ _ _ _))
 rw [hpl] at HP
 have HS := Lib.hid (fun W => con_size [] (.slice none 0 0) (fun _ => false) W (SlR.nil_ _ _ _ _) (size_pred [] W (fun a ha => by cases ha)))
 have hany : (([] : List (ByteArray × Int)).any fun _ => false) = false := rfl
 rw [hany] at HS
 unfold sMain at HP
 clear hpl hany
 go_enter Tryz.func11, Tryz.ntmps11
 go_upto_region 1 with fail
 refine wp_world ?_
 intro W hW
 have hB : Below w.heap.size w W := by rw [← hW]; exact below2 _ _ _
 have hX : Blk W w.heap.size 27 #[.slice none 0 0, .slice none 0 0] := by rw [← hW]; exact (Blk.new_at _ _ _ rfl).alloc _
 have hR : Blk W (w.heap.size + 1) 32 #[.int .i64 0, .int .i64 0] := by rw [← hW]; exact Blk.new_at _ _ _ (by simp)
 have x0 : W.cell? ⟨w.heap.size, 0, none⟩ = some (.slice none 0 0) := hX.cell 0
 have x1 : W.cell? ⟨w.heap.size, 1, none⟩ = some (.slice none 0 0) := hX.cell 1
 have HX := Lib.hid hX
 have HR := Lib.hid hR
 have HB := Lib.hid hB
 clear hW hX hR hB
 go_upto_region 2 with (go_at_call 26; refine (HP.out _).mono ?_; rintro e w1 ⟨rfl, hb1⟩)
 have hX1 := HX.out.below hb1 HX.out.lt
 have y0 : w1.cell? ⟨w.heap.size, 0, none⟩ = some (.slice none 0 0) := hX1.cell 0
 have y1 : w1.cell? ⟨w.heap.size, 1, none⟩ = some (.slice none 0 0) := hX1.cell 1
 go_upto_region 3 with (go_at_call 27; refine (HS.out _).mono ?_; rintro e w2 ⟨rfl, hb2⟩)
 have hb02 := hb1.trans (hb2.mono hb1.size)
 have hX2 := HX.out.below hb02 HX.out.lt
 have z0 : w2.cell? ⟨w.heap.size, 0, none⟩ = some (.slice none 0 0) := hX2.cell 0
 have z1 : w2.cell? ⟨w.heap.size, 1, none⟩ = some (.slice none 0 0) := hX2.cell 1
 go_wp2_with (go_at_call 29; refine (names_none _).mono ?_; rintro e w3 ⟨rfl, hb3⟩; have hb03 := hb02.trans (hb3.mono hb02.size); have hR3 := HR.out.below hb03 HR.out.lt; have r0 : w3.cell? ⟨w.heap.size + 1, 0, none⟩ = some (.int .i64 0) := hR3.cell 0; have r1 : w3.cell? ⟨w.heap.size + 1, 1, none⟩ = some (.int .i64 0) := hR3.cell 1; have r2 := hR3.frozen 0; have r3 := hR3.frozen 1)
 generalize hW9 : (w3.setCell ⟨w.heap.size + 1, 0, none⟩ (.int .i64 0)).setCell ⟨w.heap.size + 1, 1, none⟩ (.int .i64 0) = W9
 have q0 : W9.cell? ⟨w.heap.size + 1, 0, none⟩ = some (.int .i64 0) := by rw [← hW9]; exact ((hR3.set_ 0 _).set_ 1 _).cell 0
 have q1 : W9.cell? ⟨w.heap.size + 1, 1, none⟩ = some (.int .i64 0) := by rw [← hW9]; exact ((hR3.set_ 0 _).set_ 1 _).cell 1
 have q2 : Below w.heap.size w W9 := by rw [← hW9]; exact ((HB.out.trans (hb03.mono HB.out.size)).setCell (by simp) _).setCell (by simp) _
 clear hW9 r0 r1 r2 r3
 exact bodyPost_ret (v := .tuple #[.int .i64 1, .agg #[.int .i64 0, .int .i64 0]]) (by simp [results, Tryz.results11, go_sem, q0, q1]) rfl ⟨rfl, q2⟩
theorem itoa_dg (k : Nat) (h : k < 10) : Lib.itoa (k : Int) = [UInt8.ofNat (48 + k)] := by
 unfold Lib.itoa
 rw [if_neg (by omega)]
 exact Lib.decDigits_one h
end Go.Proofs.YtkpigkopjfkepaaGreatDoor
namespace Go.Proofs.YtkpigkopjfkepaaGreatDoor
open List (setIfInBounds_toArray set_cons_zero set_cons_succ)
open Go.RowKit Go.Shelf
theorem eqt_d (d : Nat) (a b : Int) (w : World) : Sem.run Tryz.prog (Op.equalIn (d + 2) 32 (Value.agg #[Value.int IntKind.i64 a, Value.int IntKind.i64 b]) (Value.agg #[Value.int IntKind.i64 a, Value.int IntKind.i64 b])) w = .ok true w := by
 have hu : Tryz.prog.underlying 32 = some (.array 2 3) := by kernel_rfl
 have hv : Tryz.prog.underlying 3 = some (.int .i64) := by kernel_rfl
 have hc : Tryz.prog.cellsOf 3 = 1 := by kernel_rfl
 have hp : Tryz.prog.plainKey 3 = true := by kernel_rfl
 have hs : (Tryz.prog.info? 3).isSome = true := by kernel_rfl
 obtain ⟨i, hi⟩ := Option.isSome_iff_exists.1 hs
 have heq : ∀ (x : Int), (Op.equalIn (d + 1) 3 (.int .i64 x) (.int .i64 x)).run Tryz.prog w = .ok true w := fun x => by
  simp [Op.equalIn, run_underlying hv]
 rw [run_equalIn_array w (d + 1) _ _ hu hi, hc, show List.range 2 = [0, 1] from rfl]
 simp only [Op.eqItems, Sem.run_bind, run_part_plain w hp (xs := #[Value.int IntKind.i64 a, Value.int IntKind.i64 b]) (off := 0 * 1) (v := .int .i64 a) rfl, Result.andThen_ok, heq]
 simp [run_part_plain w hp (xs := #[Value.int IntKind.i64 a, Value.int IntKind.i64 b]) (off := 1) (v := .int .i64 b) rfl, heq]
theorem eqt (a b : Int) (w : World) : Sem.run Tryz.prog (Op.equalIn 10000 32 (Value.agg #[Value.int IntKind.i64 a, Value.int IntKind.i64 b]) (Value.agg #[Value.int IntKind.i64 a, Value.int IntKind.i64 b])) w = .ok true w := eqt_d 9998 a b w
set_option maxRecDepth 100000 in
set_option maxHeartbeats 4000000 in
theorem dead_none (w : World) : Calls Tryz.prog 10 #[.agg #[.slice none 0 0, .slice none 0 0]] w fun e w' => e = .returned (.tuple #[.agg #[.slice none 0 0, .slice none 0 0], .int .i64 1]) ∧ Below w.heap.size w w' := by
 go_enter Tryz.func10, Tryz.ntmps10
 go_upto_region 3 with (go_at_call 11; refine (check_none _).mono ?_; rintro e w2 ⟨rfl, hb2⟩)
 refine wp_world ?_
 intro W hW
 have hw2 : w.heap.size + 2 ≤ w2.heap.size := by have := hb2.size; simp at this; omega
 have hB : Below w.heap.size w W := by
  have h := (below2 w _ _).trans (hb2.mono (by simp; omega))
  rw [← hW]; exact h.alloc (by omega) _
 have hR : Blk W (w.heap.size + 1) 27 #[.slice none 0 0, .slice none 0 0] := by
  rw [← hW]
  exact (Blk.below (Blk.new_at _ _ _ (by simp)) hb2 (by simp)).alloc _
 have r0 : W.cell? ⟨w.heap.size + 1, 0, none⟩ = some (.slice none 0 0) := hR.cell 0
 have r1 : W.cell? ⟨w.heap.size + 1, 1, none⟩ = some (.slice none 0 0) := hR.cell 1
 have z0 := hR.frozen 0
 have z1 := hR.frozen 1
 clear hW hb2 hw2
 go_wp2
 have hfin : Blk ((W.setCell ⟨w.heap.size + 1, 0, none⟩ (.slice none 0 0)).setCell ⟨w.heap.size + 1, 1, none⟩ (.slice none 0 0)) (w.heap.size + 1) 27 #[.slice none 0 0, .slice none 0 0] := (hR.set_ 0 _).set_ 1 _
 refine bodyPost_ret (results_cellT (p := 2) (q := 3) (ty := 27) (by kernel_rfl) _ _ (w.heap.size + 1) 27 _ (0, 0) _ (.int .i64 1) rfl rfl hfin Tryz.underlying27 rfl (by kernel_rfl)) rfl ?_
 exact ⟨rfl, (hB.setCell (Nat.le_succ _) _).setCell (Nat.le_succ _) _⟩
def num15 : LIns := ⟨1, 1, 0, 0, 0, 2, ⟨#[]⟩, []⟩
def mov15 : LIns := ⟨2, 2, 1, 0, 0, 0, ⟨#[]⟩, []⟩
def ret15 : LTerm := ⟨3, 0, 0, 0⟩
def fl15 (l : List LIns) : LFlow := ⟨⟨#[109, 97, 105, 110]⟩, 0, 3, [⟨l, ret15⟩]⟩
def fl15' : LFlow := ⟨⟨#[109, 97, 105, 110]⟩, 0, 3, [⟨[num15, mov15], ret15⟩, ⟨[], ret15⟩]⟩
def aw15 : LUnit := ⟨[], [fl15']⟩
def aw15D : LUnit := ⟨[], [fl15 []]⟩
theorem end15 (L : Nat → Int → Bool) : endS ret15 L = fun v => decide (v = 0) := by
 funext v
 rw [Bool.eq_iff_iff, endS_iff]
 simp [ret15, wantsL, nextL]
theorem sweep15 (l : List LIns) : sweepF (fl15 l) = fl15 (sweepI (fun v => decide (v = 0)) l) := by
 show ({ fl15 l with blocks := (fl15 l).blocks.map (sweepB (liveS (fl15 l))) } : LFlow) = _
 simp only [fl15, List.map_cons, List.map_nil, sweepB, end15]
theorem idle15 {x : LIns} {W : Int → Bool} (hk : x.kind = 1 ∨ x.kind = 2) (hw : W x.d = false) : idleB W x = true := by
 rw [idle_iff]
 exact .inr ⟨by omega, hw⟩
theorem swept15 : sweptF (fl15 [num15, mov15]) = fl15 [] := by
 have e1 : sweepI (fun v => decide (v = 0)) [num15, mov15] = [num15] := by
  have k1 : idleB (stepsS [] fun v => decide (v = 0)) mov15 = true := idle15 (.inr rfl) (by decide)
  have k2 : idleB (stepsS [mov15] fun v => decide (v = 0)) num15 = false := by
   cases e : idleB (stepsS [mov15] fun v => decide (v = 0)) num15 with
   | false => rfl
   | true =>
    rw [idle_iff] at e
    rcases e with e | ⟨_, e⟩
    ·exact absurd e.1 (by decide)
    ·have : stepsS [mov15] (fun v => decide (v = 0)) 1 = true := by
      rw [stepsS_cons, stepS_iff]
      exact .inl (by decide)
     rw [show num15.d = 1 from rfl, this] at e
     cases e
  unfold sweepI
  rw [k2]
  unfold sweepI
  rw [k1]
  rfl
 have e2 : sweepI (fun v => decide (v = 0)) [num15] = [] := by
  have k1 : idleB (stepsS [] fun v => decide (v = 0)) num15 = true := idle15 (.inl rfl) (by decide)
  unfold sweepI
  rw [k1]
  rfl
 have h1 := swept_sweep (fl15 [num15, mov15])
 rw [sweep15, e1] at h1
 have h2 := swept_sweep (fl15 [num15])
 rw [sweep15, e2] at h2
 rw [← h1, ← h2]
 exact swept_self (by rw [sweep15]; rfl)
theorem next15 (l : List LIns) : NextOk (fl15 l) := ⟨Nat.one_pos, fun b hb k hk => by
 obtain rfl : b = _ := List.mem_singleton.1 hb
 simp [ret15, nextL] at hk⟩
theorem dead15 : deadE aw15 = aw15D := by
 show (⟨[], [deadF fl15']⟩ : LUnit) = ⟨[], [fl15 []]⟩
 have h1 : deadF fl15' = deadF (fl15 [num15, mov15]) := ext_dead ⟨rfl, rfl, rfl, ⟨[⟨[], ret15⟩], rfl⟩, next15 _⟩
 have h2 : deadF (fl15 [num15, mov15]) = fl15 [] := by
  unfold deadF
  rw [swept15]
  refine trim_id (next15 []) fun j hj => ?_
  have hj0 : j = 0 := by have : j < 1 := hj; omega
  rw [hj0]; exact come_zero _
 rw [h1, h2]
theorem aw15_ok : UnitOk aw15 where
 sizes := fun a ha => by cases ha
 arrs := by decide
 fls := by decide
 good := fun s hs => by
  have h : s = (⟨#[109, 97, 105, 110]⟩ : ByteArray) := by simpa [allNames, aw15, fl15'] using hs
  exact .inl h
 nodup := by simp [allNames, aw15]
 main := ⟨0, by decide, by decide, by decide⟩
 nums := fun f hf => by
  obtain rfl : f = _ := List.mem_singleton.1 hf
  decide
 lens := fun f hf => by
  obtain rfl : f = _ := List.mem_singleton.1 hf
  intro b hb
  rcases List.mem_cons.1 hb with rfl | hb
  ·decide
  ·obtain rfl := List.mem_singleton.1 hb; decide
 blocks := fun f hf => by
  obtain rfl : f = _ := List.mem_singleton.1 hf
  decide
theorem aw15_small : SmallU aw15 := fun f hf => by
 obtain rfl : f = _ := List.mem_singleton.1 hf
 refine ⟨by decide, fun b hb => ?_⟩
 rcases List.mem_cons.1 hb with rfl | hb
 ·decide
 ·obtain rfl := List.mem_singleton.1 hb; decide
theorem aw15_text : S8 (unitT aw15D) = ⟨#[102, 117, 110, 99, 32, 109, 97, 105, 110, 32, 48, 32, 51, 10, 98, 48, 58, 10, 9, 114, 101, 116, 117, 114, 110, 32, 118, 48, 10]⟩ := by
 have i0 : Lib.itoa 0 = [48] := itoa_dg 0 (by omega)
 have i3 : Lib.itoa 3 = [51] := itoa_dg 3 (by omega)
 simp [S8, unitT, ln, unitLn, aw15D, fl15, flowsLn, headT, blocksLn, labelT, bodyT, endT, ret15, vT, bT, i0, i3, L8]
theorem aw15_print : PrintOk0 aw15D where
 ok := by rw [← dead15]; exact dead_ok aw15_ok
 arrs := rfl
 fls := fun f hf => by
  obtain rfl : f = _ := List.mem_singleton.1 hf
  exact ⟨by decide, ⟨by decide, by decide⟩, ⟨by decide, by decide⟩, by decide⟩
 ins := fun f hf b hb => by
  obtain rfl : f = _ := List.mem_singleton.1 hf
  obtain rfl : b = _ := List.mem_singleton.1 hb
  rfl
 ends := fun f hf b hb => by
  obtain rfl : f = _ := List.mem_singleton.1 hf
  obtain rfl : b = _ := List.mem_singleton.1 hb
  exact ⟨⟨by decide, by decide⟩, ⟨by decide, by decide⟩, ⟨by decide, by decide⟩, by decide⟩
 len := by
  have h : (unitT aw15D).length = (S8 (unitT aw15D)).size := rfl
  rw [h, aw15_text]
  decide
theorem aw15_flows {W : World} {a : Nat} (h0 : Blk W a 44 #[.int .i64 1, .int .i64 1, .int .i64 0, .int .i64 0, .int .i64 0, .int .i64 2, .string ⟨#[]⟩, .slice none 0 0, .int .i64 2, .int .i64 2, .int .i64 1, .int .i64 0, .int .i64 0, .int .i64 0, .string ⟨#[]⟩, .slice none 0 0])
  (h1 : Blk W (a + 1) 48 #[.slice (some ⟨a, 0, none⟩) 2 2, .int .i64 3, .int .i64 0, .int .i64 0, .int .i64 0, .slice none 0 0, .int .i64 3, .int .i64 0, .int .i64 0, .int .i64 0])
  (h2 : Blk W (a + 1 + 1) 41 #[.string ⟨#[109, 97, 105, 110]⟩, .int .i64 0, .int .i64 3, .slice (some ⟨a + 1, 0, none⟩) 2 2]) :
  SlR W (· < W.heap.size) 4 (RFlow W (· < W.heap.size)) (.slice (some ⟨a + 1 + 1, 0, none⟩) 1 1) aw15.flows := by
 refine SlR.lit [[.string ⟨#[109, 97, 105, 110]⟩, .int .i64 0, .int .i64 3, .slice (some ⟨a + 1, 0, none⟩) 2 2]] h2 rfl ⟨⟨rfl, ⟨_, rfl, ?_⟩⟩, trivial⟩ rfl h2.lt (by omega)
 refine SlR.lit [[.slice (some ⟨a, 0, none⟩) 2 2, .int .i64 3, .int .i64 0, .int .i64 0, .int .i64 0], [.slice none 0 0, .int .i64 3, .int .i64 0, .int .i64 0, .int .i64 0]] h1 rfl ⟨⟨rfl, ⟨_, rfl, ?_⟩⟩, ⟨rfl, ⟨_, rfl, SlR.nil_ _ _ _ _⟩⟩, trivial⟩ rfl h1.lt (by omega)
 exact SlR.lit [[.int .i64 1, .int .i64 1, .int .i64 0, .int .i64 0, .int .i64 0, .int .i64 2, .string ⟨#[]⟩, .slice none 0 0], [.int .i64 2, .int .i64 2, .int .i64 1, .int .i64 0, .int .i64 0, .int .i64 0, .string ⟨#[]⟩, .slice none 0 0]] h0 rfl ⟨⟨rfl, ⟨_, rfl, SlR.nil_ _ _ _ _⟩⟩, ⟨rfl, ⟨_, rfl, SlR.nil_ _ _ _ _⟩⟩, trivial⟩ rfl h0.lt (by omega)
set_option maxRecDepth 100000 in
set_option maxHeartbeats 8000000 in
theorem awake15_any (w : World) : Calls Tryz.prog 8 #[] w fun e w' => e = .returned (.bool true) ∧ Below w.heap.size w w' := by
 go_enter Tryz.func8, Tryz.ntmps8
 go_upto_region 2 with fail
 refine wp_world ?_
 intro W hW
 have h0 : Blk W w.heap.size 44 #[.int .i64 1, .int .i64 1, .int .i64 0, .int .i64 0, .int .i64 0, .int .i64 2, .string ⟨#[]⟩, .slice none 0 0, .int .i64 2, .int .i64 2, .int .i64 1, .int .i64 0, .int .i64 0, .int .i64 0, .string ⟨#[]⟩, .slice none 0 0] := by
  rw [← hW]; exact (((Blk.new w _ _).alloc _).alloc _).alloc _
 have h1 : Blk W (w.heap.size + 1) 48 #[.slice (some ⟨w.heap.size, 0, none⟩) 2 2, .int .i64 3, .int .i64 0, .int .i64 0, .int .i64 0, .slice none 0 0, .int .i64 3, .int .i64 0, .int .i64 0, .int .i64 0] := by
  rw [← hW]; exact ((Blk.new_at _ _ _ (by simp)).alloc _).alloc _
 have h2 : Blk W (w.heap.size + 1 + 1) 41 #[.string ⟨#[109, 97, 105, 110]⟩, .int .i64 0, .int .i64 3, .slice (some ⟨w.heap.size + 1, 0, none⟩) 2 2] := by
  rw [← hW]; exact (Blk.new_at _ _ _ (by simp)).alloc _
 have hU : Blk W (w.heap.size + 1 + 1 + 1) 27 #[.slice none 0 0, .slice (some ⟨w.heap.size + 1 + 1, 0, none⟩) 1 1] := by rw [← hW]; exact Blk.new_at _ _ _ (by simp)
 have hB : Below w.heap.size w W := by rw [← hW]; exact (((((Below.refl _ _).alloc (Nat.le_refl _) _).alloc (by simp) _).alloc (by simp <;> omega) _).alloc (by simp <;> omega) _)
 clear hW
 have hui : UIn aw15 W none (some ⟨w.heap.size + 1 + 1, 0, none⟩) 0 1 := ⟨SlR.nil_ _ _ _ _, aw15_flows h0 h1 h2⟩
 have u0 : W.cell? ⟨w.heap.size + 1 + 1 + 1, 0, none⟩ = some (.slice none 0 0) := hU.cell 0
 have u1 : W.cell? ⟨w.heap.size + 1 + 1 + 1, 1, none⟩ = some (.slice (some ⟨w.heap.size + 1 + 1, 0, none⟩) 1 1) := hU.cell 1
 have hfo : Calls Tryz.prog 10 #[.agg #[.slice none 0 0, .slice (some ⟨w.heap.size + 1 + 1, 0, none⟩) 1 1]] W fun e w' => ∃ Aa ca Af cf, e = .returned (.tuple #[.agg #[.slice Aa 0 ca, .slice Af 1 cf], .int .i64 0]) ∧ Below W.heap.size W w' ∧ UIn aw15D w' Aa Af ca cf := by
  have h := dead_u aw15_ok aw15_small hui
  refine h.mono ?_
  rintro e w' ⟨Aa, Af, ca, cf, he, h1, h2⟩
  rw [dead15] at h2
  exact ⟨Aa, ca, Af, cf, he, h1, h2⟩
 have hk1 : ∀ X, Below W.heap.size W X → Calls Tryz.prog 12 #[.agg #[.slice none 0 0, .slice (some ⟨w.heap.size + 1 + 1, 0, none⟩) 1 1]] X fun e w' => e = .returned (.agg #[.int .i64 2, .int .i64 2]) ∧ Below X.heap.size X w' := fun X hb => by
  have h := size_u aw15_small (by decide) (hui.below hb)
  have e1 : ((sizeI aw15 : Nat) : Int) = 2 := by decide
  have e2 : ((sizeB aw15 : Nat) : Int) = 2 := by decide
  rw [e1, e2] at h
  exact h
 have HFO := Lib.hid hfo
 have HK1 := Lib.hid hk1
 have HU := Lib.hid hU
 have HB := Lib.hid hB
 have hul := hU.lt
 clear h0 h1 h2 hui hfo hU hB hk1
 go_upto_region 3 with (go_at_call 10; refine HFO.out.mono ?_; rintro e w2 ⟨Aa, ca, Af, cf, rfl, hb2, hui2⟩)
 refine wp_world ?_
 intro W3 hW3
 have hb3 : Below W.heap.size W W3 := by rw [← hW3]; exact hb2.alloc hb2.size _
 have hb23 : Below w2.heap.size w2 W3 := by rw [← hW3]; exact below1 _ _
 have hV : Blk W3 w2.heap.size 27 #[.slice Aa 0 ca, .slice Af 1 cf] := by rw [← hW3]; exact Blk.new w2 _ _
 have hui3 := hui2.below hb23
 have hk2 : ∀ X, Below W3.heap.size W3 X → Calls Tryz.prog 12 #[.agg #[.slice Aa 0 ca, .slice Af 1 cf]] X fun e w' => e = .returned (.agg #[.int .i64 0, .int .i64 1]) ∧ Below X.heap.size X w' := fun X hb => by
  have hsm := small_dead aw15_small
  rw [dead15] at hsm
  have h := size_u hsm (by decide) (hui3.below hb)
  have e1 : ((sizeI aw15D : Nat) : Int) = 0 := by decide
  have e2 : ((sizeB aw15D : Nat) : Int) = 1 := by decide
  rw [e1, e2] at h
  exact h
 have hpr : ∀ X, Below W3.heap.size W3 X → Calls Tryz.prog 20 #[.agg #[.slice Aa 0 ca, .slice Af 1 cf]] X fun e w' => e = .returned (.tuple #[.string (S8 (unitT aw15D)), .int .i64 0]) ∧ Below X.heap.size X w' := fun X hb =>
  print0_any aw15D aw15_print Aa Af ca cf X (hui3.below hb).arr (hui3.below hb).flo
 rw [aw15_text] at hpr
 have HPR := Lib.hid hpr
 have HK2 := Lib.hid hk2
 have HV := Lib.hid hV
 have HB3 := Lib.hid hb3
 have hvl := hV.lt
 clear hW3 hb3 hb23 hV hui2 hui3 hk2 hpr hb2 u0 u1 HFO
 go_upto_region 4 with (go_at_call 10; refine (dead_none _).mono ?_; rintro e w4 ⟨rfl, hb4⟩)
 refine wp_world ?_
 intro W5 hW5
 have hb5 : Below W3.heap.size W3 W5 := by
  rw [← hW5]
  first
   | exact hb4.alloc hb4.size _
   | exact (hb4.alloc hb4.size _).setCell (by simp; exact hb4.size) _
   | exact ((hb4.alloc hb4.size _).setCell (by simp; exact hb4.size) _).setCell (by simp; exact hb4.size) _
 have v0 : W5.cell? ⟨w2.heap.size, 0, none⟩ = some (.slice Aa 0 ca) := (HV.out.below hb5 hvl).cell 0
 have v1 : W5.cell? ⟨w2.heap.size, 1, none⟩ = some (.slice Af 1 cf) := (HV.out.below hb5 hvl).cell 1
 have HB5 := Lib.hid hb5
 clear hW5 hb5 hb4
 go_upto_region 5 with (go_at_call 20; refine (HPR.out W5 HB5.out).mono ?_; rintro e w6 ⟨rfl, hb6⟩)
 have hb36 := HB5.out.trans (hb6.mono HB5.out.size)
 have u0 : w6.cell? ⟨w.heap.size + 1 + 1 + 1, 0, none⟩ = some (.slice none 0 0) := (HU.out.below (HB3.out.trans (hb36.mono HB3.out.size)) hul).cell 0
 have u1 : w6.cell? ⟨w.heap.size + 1 + 1 + 1, 1, none⟩ = some (.slice (some ⟨w.heap.size + 1 + 1, 0, none⟩) 1 1) := (HU.out.below (HB3.out.trans (hb36.mono HB3.out.size)) hul).cell 1
 have HB36 := Lib.hid hb36
 clear v0 v1 hb6 hb36 HPR
 go_upto_region 5 with fail
 refine wp_region_lit ?_
 refine takeP 34 (.int .i64 0) rfl (by kernel_rfl) (by go_simp) ?_
 simp only [setIfInBounds_toArray, set_cons_zero, set_cons_succ]
 refine takeP 35 (.bool true) rfl (by kernel_rfl) (by go_simp) ?_
 simp only [setIfInBounds_toArray, set_cons_zero, set_cons_succ]
 refine takeP 36 (.bool true) rfl (by kernel_rfl) (by go_simp) ?_
 simp only [setIfInBounds_toArray, set_cons_zero, set_cons_succ]
 refine takeP 37 (.int .i64 1) rfl (by kernel_rfl) (by go_simp) ?_
 simp only [setIfInBounds_toArray, set_cons_zero, set_cons_succ]
 refine takeP 38 (.bool true) rfl (by kernel_rfl) (by go_simp) ?_
 simp only [setIfInBounds_toArray, set_cons_zero, set_cons_succ]
 refine takeP 39 (.bool true) rfl (by kernel_rfl) (by go_simp) ?_
 simp only [setIfInBounds_toArray, set_cons_zero, set_cons_succ]
 refine takeP 40 (.bool true) rfl (by kernel_rfl) (by go_simp) ?_
 simp only [setIfInBounds_toArray, set_cons_zero, set_cons_succ]
 refine takeP 41 (.string ⟨#[102, 117, 110, 99, 32, 109, 97, 105, 110, 32, 48, 32, 51, 10, 98, 48, 58, 10, 9, 114, 101, 116, 117, 114, 110, 32, 118, 48, 10]⟩) rfl (by kernel_rfl) (by go_simp) ?_
 simp only [setIfInBounds_toArray, set_cons_zero, set_cons_succ]
 refine takeP 42 (.bool true) rfl (by kernel_rfl) (by go_simp) ?_
 simp only [setIfInBounds_toArray, set_cons_zero, set_cons_succ]
 refine takeP 43 (.bool true) rfl (by kernel_rfl) (by go_simp) ?_
 simp only [setIfInBounds_toArray, set_cons_zero, set_cons_succ]
 refine takeP 44 (.bool true) rfl (by kernel_rfl) (by go_simp) ?_
 simp only [setIfInBounds_toArray, set_cons_zero, set_cons_succ]
 refine takeP 45 (.agg #[.slice none 0 0, .slice (some ⟨w.heap.size + 1 + 1, 0, none⟩) 1 1]) rfl (by kernel_rfl) (by go_simp) ?_
 simp only [setIfInBounds_toArray, set_cons_zero, set_cons_succ]
 refine stepP (by kernel_rfl) (fun K hK => ?_)
 go_simp
 refine (HK1.out w6 (HB3.out.trans (HB36.out.mono HB3.out.size))).mono ?_
 rintro e w7 ⟨rfl, hb7⟩
 have hb37 := HB36.out.trans (hb7.mono HB36.out.size)
 have v0 : w7.cell? ⟨w2.heap.size, 0, none⟩ = some (.slice Aa 0 ca) := (HV.out.below hb37 hvl).cell 0
 have v1 : w7.cell? ⟨w2.heap.size, 1, none⟩ = some (.slice Af 1 cf) := (HV.out.below hb37 hvl).cell 1
 refine hK.out _ _ ?_
 clear hK K
 try simp only [setIfInBounds_toArray, set_cons_zero, set_cons_succ]
 refine takeP 47 (.agg #[.int .i64 2, .int .i64 2]) rfl (by kernel_rfl) (by go_simp) ?_
 simp only [setIfInBounds_toArray, set_cons_zero, set_cons_succ]
 refine takeP 48 (.bool true) rfl (by kernel_rfl) (by have heq := eqt 2 2 w7; go_simp) ?_
 simp only [setIfInBounds_toArray, set_cons_zero, set_cons_succ]
 refine takeP 49 (.bool true) rfl (by kernel_rfl) (by go_simp) ?_
 simp only [setIfInBounds_toArray, set_cons_zero, set_cons_succ]
 refine takeP 50 (.bool true) rfl (by kernel_rfl) (by go_simp) ?_
 simp only [setIfInBounds_toArray, set_cons_zero, set_cons_succ]
 refine takeP 51 (.agg #[.slice Aa 0 ca, .slice Af 1 cf]) rfl (by kernel_rfl) (by go_simp) ?_
 simp only [setIfInBounds_toArray, set_cons_zero, set_cons_succ]
 refine stepP (by kernel_rfl) (fun K hK => ?_)
 go_simp
 refine (HK2.out w7 hb37).mono ?_
 rintro e w8 ⟨rfl, hb8⟩
 refine hK.out _ _ ?_
 clear hK K
 try simp only [setIfInBounds_toArray, set_cons_zero, set_cons_succ]
 refine takeP 53 (.agg #[.int .i64 0, .int .i64 1]) rfl (by kernel_rfl) (by go_simp) ?_
 simp only [setIfInBounds_toArray, set_cons_zero, set_cons_succ]
 refine takeP 54 (.bool true) rfl (by kernel_rfl) (by have heq := eqt 0 1 w8; go_simp) ?_
 simp only [setIfInBounds_toArray, set_cons_zero, set_cons_succ]
 refine takeP 55 (.bool true) rfl (by kernel_rfl) (by go_simp) ?_
 simp only [setIfInBounds_toArray, set_cons_zero, set_cons_succ]
 refine takeP 0 (.bool true) rfl (by kernel_rfl) (by go_simp) ?_
 simp only [List.setIfInBounds_toArray, List.set_cons_zero]
 refine wpList_nil ?_
 go_wp2
 go_ret
 have hb38 := hb37.trans (hb8.mono hb37.size)
 exact ⟨rfl, HB.out.trans ((HB3.out.trans (hb38.mono HB3.out.size)).mono HB.out.size)⟩
end Go.Proofs.YtkpigkopjfkepaaGreatDoor
