/- Chapter 10's example: its first calls, whose answers are fixed. What ir.Check tells of the empty unit. -/
import Derived.Test.YtnpnhdmfdhnmfaaGreatDoorPrint
import Derived.Test.YtnpnhdmfdhnmfaaGreatDoorFitMem
import Derived.Test.YtnpnhdmfdhnmfaaGreatDoorFlowSm
namespace Go.Proofs.YtnpnhdmfdhnmfaaGreatDoor
open Go.RowKit Go.Shelf

set_option maxHeartbeats 1000000 in
theorem compact_none (p : Option Addr) (c : Nat) (w : World) : Calls Tryz.prog 61 #[.slice p 0 c] w fun e w' => e = .returned (.slice p 0 c) ∧ Below w.heap.size w w' := by
  go_enter Tryz.func61, Tryz.ntmps61
  go_wp2
  go_ret
  exact ⟨rfl, Below.refl _ _⟩
set_option maxHeartbeats 1000000 in
theorem names_none (w : World) : Calls Tryz.prog 43 #[.agg #[.slice none 0 0, .slice none 0 0]] w fun e w' => e = .returned (.bool true) ∧ Below w.heap.size w w' := by
  have HM := Lib.hid (fun W => con_name [] (.slice none 0 0) (fun _ => false) W (SlR.nil_ _ _ _ _) (names1_pred [] W (fun s hs => by cases hs)))
  have hany : (([] : List ByteArray).any fun _ => false) = false := rfl
  rw [hany] at HM
  have hpos : decide (0 = 0) = true := by decide
  go_enter Tryz.func43, Tryz.ntmps43
  go_upto_region 1 with fail
  refine wp_world ?_
  intro W hW
  have hB : Below w.heap.size w W := by rw [← hW]; exact below1 _ _
  have hU : Blk W w.heap.size 27 #[.slice none 0 0, .slice none 0 0] := by rw [← hW]; exact Blk.new_at _ _ _ rfl
  have u0 : W.cell? ⟨w.heap.size, 0, none⟩ = some (.slice none 0 0) := hU.cell 0
  have u1 : W.cell? ⟨w.heap.size, 1, none⟩ = some (.slice none 0 0) := hU.cell 1
  clear hW hU
  go_wp2
  go_loopw [3, 11] (fun v i wr => v = .slice none 0 0 ∧ i = .int .i64 0 ∧ wr = W) (fun _ _ _ => 0)
  case atStart => exact ⟨rfl, rfl, rfl⟩
  case round =>
    obtain ⟨rfl, rfl, rfl⟩ := hrel
    go_wp2
    go_loopw [3, 24] (fun v i wr2 => v = .slice none 0 0 ∧ i = .int .i64 0 ∧ wr2 = wr) (fun _ _ _ => 0)
    case atStart => exact ⟨rfl, rfl, rfl⟩
    case round =>
      obtain ⟨rfl, rfl, rfl⟩ := hrel
      go_wp2_with (first | (go_at_call 57; refine (AnyM.slices_Sort_string_none Tryz.sortS none 0 _).mono ?_; rintro e w2 ⟨rfl, rfl⟩) | (go_at_call 58; refine (HM.out _).mono ?_; rintro e w3 ⟨rfl, hb3⟩) | (go_at_call 62; refine (AnyE.slices_Clone_nil Tryz.cloneS 0 0 _).mono ?_; rintro e w4 ⟨rfl, rfl⟩) | (go_at_call 61; refine (compact_none none 0 _).mono ?_; rintro e w5 ⟨rfl, hb5⟩))
      go_ret
      exact ⟨by first | rfl | simp, hB.trans ((hb3.trans (hb5.mono hb3.size)).mono hB.size)⟩
set_option maxHeartbeats 2000000 in
/-- the empty unit may not be: there is no main -/
theorem check_none (w : World) : Calls Tryz.prog 22 #[.agg #[.slice none 0 0, .slice none 0 0]] w fun e w' => e = .returned (.tuple #[.int .i64 1, .agg #[.int .i64 0, .int .i64 0]]) ∧ Below w.heap.size w w' := by
  have hpl : placeU ⟨[], []⟩ sMain = -1 := by unfold placeU findI; simp
  have HP := Lib.hid (fun W => place_u ⟨[], []⟩ sMain none 0 0 (.slice none 0 0) W (SlR.nil_ _ _ _ _))
  rw [hpl] at HP
  have HS := Lib.hid (fun W => con_size [] (.slice none 0 0) (fun _ => false) W (SlR.nil_ _ _ _ _) (size_pred [] W (fun a ha => by cases ha)))
  have hany : (([] : List (ByteArray × Int)).any fun _ => false) = false := rfl
  rw [hany] at HS
  unfold sMain at HP
  clear hpl hany
  go_enter Tryz.func22, Tryz.ntmps22
  go_upto_region 1 with fail
  refine wp_world ?_
  intro W hW
  have hB : Below w.heap.size w W := by rw [← hW]; exact below2 _ _ _
  have hX : Blk W w.heap.size 27 #[.slice none 0 0, .slice none 0 0] := by rw [← hW]; exact (Blk.new_at _ _ _ rfl).alloc _
  have hR : Blk W (w.heap.size + 1) 52 #[.int .i64 0, .int .i64 0] := by rw [← hW]; exact Blk.new_at _ _ _ (by simp)
  have x0 : W.cell? ⟨w.heap.size, 0, none⟩ = some (.slice none 0 0) := hX.cell 0
  have x1 : W.cell? ⟨w.heap.size, 1, none⟩ = some (.slice none 0 0) := hX.cell 1
  have HX := Lib.hid hX
  have HR := Lib.hid hR
  have HB := Lib.hid hB
  clear hW hX hR hB
  go_upto_region 2 with (go_at_call 23; refine (HP.out _).mono ?_; rintro e w1 ⟨rfl, hb1⟩)
  have hX1 := HX.out.below hb1 HX.out.lt
  have y0 : w1.cell? ⟨w.heap.size, 0, none⟩ = some (.slice none 0 0) := hX1.cell 0
  have y1 : w1.cell? ⟨w.heap.size, 1, none⟩ = some (.slice none 0 0) := hX1.cell 1
  go_upto_region 3 with (go_at_call 41; refine (HS.out _).mono ?_; rintro e w2 ⟨rfl, hb2⟩)
  have hb02 := hb1.trans (hb2.mono hb1.size)
  have hX2 := HX.out.below hb02 HX.out.lt
  have z0 : w2.cell? ⟨w.heap.size, 0, none⟩ = some (.slice none 0 0) := hX2.cell 0
  have z1 : w2.cell? ⟨w.heap.size, 1, none⟩ = some (.slice none 0 0) := hX2.cell 1
  go_wp2_with (go_at_call 43; refine (names_none _).mono ?_; rintro e w3 ⟨rfl, hb3⟩; have hb03 := hb02.trans (hb3.mono hb02.size); have hR3 := HR.out.below hb03 HR.out.lt; have r0 : w3.cell? ⟨w.heap.size + 1, 0, none⟩ = some (.int .i64 0) := hR3.cell 0; have r1 : w3.cell? ⟨w.heap.size + 1, 1, none⟩ = some (.int .i64 0) := hR3.cell 1; have r2 := hR3.frozen 0; have r3 := hR3.frozen 1)
  generalize hW9 : (w3.setCell ⟨w.heap.size + 1, 0, none⟩ (.int .i64 0)).setCell ⟨w.heap.size + 1, 1, none⟩ (.int .i64 0) = W9
  have q0 : W9.cell? ⟨w.heap.size + 1, 0, none⟩ = some (.int .i64 0) := by rw [← hW9]; exact ((hR3.set_ 0 _).set_ 1 _).cell 0
  have q1 : W9.cell? ⟨w.heap.size + 1, 1, none⟩ = some (.int .i64 0) := by rw [← hW9]; exact ((hR3.set_ 0 _).set_ 1 _).cell 1
  have q2 : Below w.heap.size w W9 := by rw [← hW9]; exact ((HB.out.trans (hb03.mono HB.out.size)).setCell (by simp) _).setCell (by simp) _
  clear hW9 r0 r1 r2 r3
  exact bodyPost_ret (v := .tuple #[.int .i64 1, .agg #[.int .i64 0, .int .i64 0]]) (by simp [results, Tryz.results22, go_sem, q0, q1]) rfl ⟨rfl, q2⟩

/-! ### the example -/
def awX : LIns := ⟨4, 2, 0, 1, 1, 0, ⟨#[]⟩, []⟩
def aw10 : LUnit := ⟨[], [⟨⟨#[109, 97, 105, 110]⟩, 0, 3, [⟨[awX], ⟨3, 2, 0, 0⟩⟩]⟩]⟩
theorem aw10_ok : UnitOk aw10 where
  sizes := fun a ha => by cases ha
  arrs := by decide
  fls := by decide
  good := fun s hs => by
    have h : s = (⟨#[109, 97, 105, 110]⟩ : ByteArray) := by simpa [allNames, aw10] using hs
    exact .inl h
  nodup := by simp [allNames, aw10]
  main := ⟨0, by decide, by decide, by decide⟩
  nums := fun f hf => by
    obtain rfl : f = _ := List.mem_singleton.1 hf
    decide
  lens := fun f hf b hb => by
    obtain rfl : f = _ := List.mem_singleton.1 hf
    obtain rfl : b = _ := List.mem_singleton.1 hb
    decide
  blocks := fun f hf => by
    obtain rfl : f = _ := List.mem_singleton.1 hf
    decide
theorem itoa_dg (k : Nat) (h : k < 10) : Lib.itoa (k : Int) = [UInt8.ofNat (48 + k)] := by
  unfold Lib.itoa
  rw [if_neg (by omega)]
  exact Lib.decDigits_one h
theorem aw10_text : S8 (unitT aw10) = ⟨#[102, 117, 110, 99, 32, 109, 97, 105, 110, 32, 48, 32, 51, 10, 98, 48, 58, 10, 9, 118, 50, 32, 61, 32, 118, 48, 32, 43, 32, 118, 49, 10, 9, 114, 101, 116, 117, 114, 110, 32, 118, 50, 10]⟩ := by
  have i0 : Lib.itoa 0 = [48] := itoa_dg 0 (by omega)
  have i1 : Lib.itoa 1 = [49] := itoa_dg 1 (by omega)
  have i2 : Lib.itoa 2 = [50] := itoa_dg 2 (by omega)
  have i3 : Lib.itoa 3 = [51] := itoa_dg 3 (by omega)
  simp [S8, unitT, ln, unitLn, aw10, flowsLn, headT, blocksLn, labelT, bodyT, insT, whatT, endT, awX, vT, bT, i0, i1, i2, i3, L8, Ar.sgn]
theorem aw10_print : PrintOk aw10 where
  ok := aw10_ok
  arrs := fun a ha => by cases ha
  fls := fun f hf => by
    obtain rfl : f = _ := List.mem_singleton.1 hf
    exact ⟨by decide, ⟨by decide, by decide⟩, ⟨by decide, by decide⟩, by decide⟩
  ins := fun f hf b hb x hx => by
    obtain rfl : f = _ := List.mem_singleton.1 hf
    obtain rfl : b = _ := List.mem_singleton.1 hb
    obtain rfl : x = _ := List.mem_singleton.1 hx
    exact ⟨⟨by decide, by decide⟩, ⟨by decide, by decide⟩, ⟨by decide, by decide⟩, ⟨by decide, by decide⟩, ⟨by decide, by decide⟩, by decide, fun n hn => (by cases hn), by decide⟩
  ends := fun f hf b hb => by
    obtain rfl : f = _ := List.mem_singleton.1 hf
    obtain rfl : b = _ := List.mem_singleton.1 hb
    exact ⟨⟨by decide, by decide⟩, ⟨by decide, by decide⟩, ⟨by decide, by decide⟩, by decide⟩
  len := by
    have h : (unitT aw10).length = (S8 (unitT aw10)).size := rfl
    rw [h, aw10_text]
    decide
/-- the example lies in memory from block a on -/
structure Aw10 (W : World) (a : Nat) : Prop where
  h0 : Blk W a 36 #[.int .i64 4, .int .i64 2, .int .i64 0, .int .i64 1, .int .i64 1, .int .i64 0, .string ⟨#[]⟩, .slice none 0 0]
  h1 : Blk W (a + 1) 43 #[.slice (some ⟨a, 0, none⟩) 1 1, .int .i64 3, .int .i64 2, .int .i64 0, .int .i64 0]
  h2 : Blk W (a + 1 + 1) 45 #[.string ⟨#[109, 97, 105, 110]⟩, .int .i64 0, .int .i64 3, .slice (some ⟨a + 1, 0, none⟩) 1 1]
theorem Aw10.below {W W' : World} {a : Nat} (h : Aw10 W a) (hb : Below W.heap.size W W') : Aw10 W' a := ⟨h.h0.below hb h.h0.lt, h.h1.below hb h.h1.lt, h.h2.below hb h.h2.lt⟩
theorem Aw10.flows {W : World} {a : Nat} (h : Aw10 W a) : SlR W (· < W.heap.size) 4 (RFlow W (· < W.heap.size)) (.slice (some ⟨a + 1 + 1, 0, none⟩) 1 1) aw10.flows := by
  refine SlR.lit [[.string ⟨#[109, 97, 105, 110]⟩, .int .i64 0, .int .i64 3, .slice (some ⟨a + 1, 0, none⟩) 1 1]] h.h2 rfl ⟨⟨rfl, ⟨_, rfl, ?_⟩⟩, trivial⟩ rfl h.h2.lt (by omega)
  refine SlR.lit [[.slice (some ⟨a, 0, none⟩) 1 1, .int .i64 3, .int .i64 2, .int .i64 0, .int .i64 0]] h.h1 rfl ⟨⟨rfl, ⟨_, rfl, ?_⟩⟩, trivial⟩ rfl h.h1.lt (by omega)
  exact SlR.lit [[.int .i64 4, .int .i64 2, .int .i64 0, .int .i64 1, .int .i64 1, .int .i64 0, .string ⟨#[]⟩, .slice none 0 0]] h.h0 rfl ⟨⟨rfl, ⟨_, rfl, SlR.nil_ _ _ _ _⟩⟩, trivial⟩ rfl h.h0.lt (by omega)
theorem sets_ir (x : LIns) (va : Value) (hva : ∃ A l c, va = .slice A l c) (w : World) (hk : 1 ≤ x.kind ∧ x.kind ≤ 9) :
    Calls Tryz.prog 18 #[.agg #[.int .i64 x.kind, .int .i64 x.d, .int .i64 x.a, .int .i64 x.b, .int .i64 x.op, .int .i64 x.n, .string x.name, va]] w fun e w' => e = .returned (.int .i64 (if hasD x.kind then x.d else -1)) ∧ Below w.heap.size w w' := by
  obtain ⟨A, l, c, rfl⟩ := hva
  obtain ⟨k, d, a, b, op, n, nm, args⟩ := x
  obtain ⟨k0, k1⟩ := hk
  replace k0 : 1 ≤ k := k0
  replace k1 : k ≤ 9 := k1
  have HH := Lib.hid (fun w => having_any k w)
  have HB := Lib.hid (fun w => hh_any k 1 w)
  show Calls _ _ #[.agg #[.int .i64 k, .int .i64 d, .int .i64 a, .int .i64 b, .int .i64 op, .int .i64 n, .string nm, .slice A l c]] w fun e w' => e = .returned (.int .i64 (if hasD k then d else -1)) ∧ Below w.heap.size w w'
  rw [hbit_D] at HB
  by_cases hd : hasD k = true
  · rw [hd, if_pos rfl]
    rw [hd] at HB
    generalize havingL k = hk at *
    go_enter Tryz.func18, Tryz.ntmps18
    go_wp2_with (first | (go_at_call 39; refine (HH.out _).mono ?_; rintro e w1 ⟨rfl, rfl⟩) | (go_at_call 40; refine (HB.out _).mono ?_; rintro e w2 ⟨rfl, rfl⟩))
    go_ret
    exact ⟨rfl, below1 _ _⟩
  · have hd' : hasD k = false := by simpa using hd
    rw [hd', if_neg (by decide)]
    rw [hd'] at HB
    generalize havingL k = hk at *
    go_enter Tryz.func18, Tryz.ntmps18
    go_wp2_with (first | (go_at_call 39; refine (HH.out _).mono ?_; rintro e w1 ⟨rfl, rfl⟩) | (go_at_call 40; refine (HB.out _).mono ?_; rintro e w2 ⟨rfl, rfl⟩))
    go_ret
    exact ⟨rfl, below1 _ _⟩
set_option maxRecDepth 100000 in
set_option maxHeartbeats 4000000 in
theorem awake10_any (w : World) : Calls Tryz.prog 13 #[] w fun e w' => e = .returned (.bool true) ∧ Below w.heap.size w w' := by
  go_enter Tryz.func13, Tryz.ntmps13
  go_upto_region 3 with fail
  refine wp_world ?_
  intro W hW
  have hX : Blk W w.heap.size 36 #[.int .i64 4, .int .i64 2, .int .i64 0, .int .i64 1, .int .i64 1, .int .i64 0, .string ⟨#[]⟩, .slice none 0 0] := by
    rw [← hW]; exact ((((Blk.new w _ _).alloc _).alloc _).alloc _).alloc _
  have hA : Aw10 W (w.heap.size + 1) := by
    rw [← hW]
    exact ⟨(((Blk.new_at _ _ _ (by simp)).alloc _).alloc _).alloc _, ((Blk.new_at _ _ _ (by simp)).alloc _).alloc _, (Blk.new_at _ _ _ (by simp)).alloc _⟩
  have hU : Blk W (w.heap.size + 1 + 1 + 1 + 1) 27 #[.slice none 0 0, .slice (some ⟨w.heap.size + 1 + 1 + 1, 0, none⟩) 1 1] := by rw [← hW]; exact Blk.new_at _ _ _ (by simp)
  have hB : Below w.heap.size w W := by rw [← hW]; exact (((((Below.refl _ _).alloc (Nat.le_refl _) _).alloc (by simp) _).alloc (by simp <;> omega) _).alloc (by simp <;> omega) _).alloc (by simp <;> omega) _
  clear hW
  have u0 : W.cell? ⟨w.heap.size + 1 + 1 + 1 + 1, 0, none⟩ = some (.slice none 0 0) := hU.cell 0
  have u1 : W.cell? ⟨w.heap.size + 1 + 1 + 1 + 1, 1, none⟩ = some (.slice (some ⟨w.heap.size + 1 + 1 + 1, 0, none⟩) 1 1) := hU.cell 1
  have hpr := print_any aw10 aw10_print none (some ⟨w.heap.size + 1 + 1 + 1, 0, none⟩) 0 1 W (SlR.nil_ _ _ _ _) hA.flows (fun f hf b hb x hx => by
    obtain rfl : f = _ := List.mem_singleton.1 hf
    obtain rfl : b = _ := List.mem_singleton.1 hb
    obtain rfl : x = _ := List.mem_singleton.1 hx
    intro h
    exact absurd h (by decide))
  rw [aw10_text] at hpr
  have HPR := Lib.hid hpr
  have HX := Lib.hid hX
  have HA := Lib.hid hA
  have HU := Lib.hid hU
  have HB := Lib.hid hB
  have hul := hU.lt
  have hxl := hX.lt
  clear hX hA hU hB hpr
  go_upto_region 4 with (go_at_call 15; refine HPR.out.mono ?_; rintro e w1 ⟨rfl, hb1⟩)
  have HB1 := Lib.hid hb1
  clear u0 u1 hb1 HPR
  go_upto_region 5 with (go_at_call 22; refine (check_none _).mono ?_; rintro e w2 ⟨rfl, hb2⟩)
  refine wp_world ?_
  intro W3 hW3
  have hb3 : Below W.heap.size W W3 := by
    have h12 := HB1.out.trans (hb2.mono HB1.out.size)
    rw [← hW3]
    first
      | exact h12.alloc h12.size _
      | exact (h12.alloc h12.size _).setCell (by simp; exact h12.size) _
      | exact ((h12.alloc h12.size _).setCell (by simp; exact h12.size) _).setCell (by simp; exact h12.size) _
  have hX3 := HX.out.below hb3 hxl
  have x0 : W3.cell? ⟨w.heap.size, 0, none⟩ = some (.int .i64 4) := hX3.cell 0
  have x1 : W3.cell? ⟨w.heap.size, 1, none⟩ = some (.int .i64 2) := hX3.cell 1
  have x2 : W3.cell? ⟨w.heap.size, 2, none⟩ = some (.int .i64 0) := hX3.cell 2
  have x3 : W3.cell? ⟨w.heap.size, 3, none⟩ = some (.int .i64 1) := hX3.cell 3
  have x4 : W3.cell? ⟨w.heap.size, 4, none⟩ = some (.int .i64 1) := hX3.cell 4
  have x5 : W3.cell? ⟨w.heap.size, 5, none⟩ = some (.int .i64 0) := hX3.cell 5
  have x6 : W3.cell? ⟨w.heap.size, 6, none⟩ = some (.string ⟨#[]⟩) := hX3.cell 6
  have x7 : W3.cell? ⟨w.heap.size, 7, none⟩ = some (.slice none 0 0) := hX3.cell 7
  have HUS := Lib.hid (uses_any awX (.slice none 0 0) W3 (SlR.nil_ _ _ _ _) (by decide))
  have HNX := Lib.hid (fun W => next_any ⟨2, 0, 1, 2⟩ W)
  have HB3 := Lib.hid hb3
  clear hW3 hb3 hX3 hb2
  go_upto_region 6 with (go_at_call 19; refine HUS.out.mono ?_; rintro e w4 ⟨v4, rfl, hb4, hs4⟩; obtain ⟨A4, c4, hv4, _, _⟩ := hs4.val; subst hv4)
  have HB4 := Lib.hid (HB3.out.trans (hb4.mono HB3.out.size))
  clear x0 x1 x2 x3 x4 x5 x6 x7 hb4 hs4 HUS
  go_upto_region 7 with (go_at_call 24; refine (HNX.out _).mono ?_; rintro e w5 ⟨v5, rfl, hb5, hs5⟩; obtain ⟨A5, c5, hv5, _, _⟩ := hs5.val; subst hv5)
  have HB5 := Lib.hid (HB4.out.trans (hb5.mono HB4.out.size))
  clear hb5 hs5 HNX
  have hX5 := HX.out.below HB5.out hxl
  have x0 : w5.cell? ⟨w.heap.size, 0, none⟩ = some (.int .i64 4) := hX5.cell 0
  have x1 : w5.cell? ⟨w.heap.size, 1, none⟩ = some (.int .i64 2) := hX5.cell 1
  have x2 : w5.cell? ⟨w.heap.size, 2, none⟩ = some (.int .i64 0) := hX5.cell 2
  have x3 : w5.cell? ⟨w.heap.size, 3, none⟩ = some (.int .i64 1) := hX5.cell 3
  have x4 : w5.cell? ⟨w.heap.size, 4, none⟩ = some (.int .i64 1) := hX5.cell 4
  have x5 : w5.cell? ⟨w.heap.size, 5, none⟩ = some (.int .i64 0) := hX5.cell 5
  have x6 : w5.cell? ⟨w.heap.size, 6, none⟩ = some (.string ⟨#[]⟩) := hX5.cell 6
  have x7 : w5.cell? ⟨w.heap.size, 7, none⟩ = some (.slice none 0 0) := hX5.cell 7
  have hset : (if hasD awX.kind then awX.d else -1) = 2 := by decide
  have hse := sets_ir awX (.slice none 0 0) ⟨_, _, _, rfl⟩ w5 ⟨by decide, by decide⟩
  rw [hset] at hse
  have HSE := Lib.hid hse
  have hpm : placeU aw10 ⟨#[109, 97, 105, 110]⟩ = 0 := by decide
  have hpf : placeU aw10 ⟨#[102]⟩ = -1 := by decide
  have e4 : usesL awX = [0, 1] := by decide
  have e5 : nextL ⟨2, 0, 1, 2⟩ = [1, 2] := by decide
  have l4 : (usesL awX).length = 2 := by rw [e4]; rfl
  have l5 : (nextL ⟨2, 0, 1, 2⟩).length = 2 := by rw [e5]; rfl
  rw [l4, l5]
  have HP1 := Lib.hid (fun (X : World) (h : Below W.heap.size W X) => place_u aw10 ⟨#[109, 97, 105, 110]⟩ none 0 0 _ X (HA.out.below h).flows)
  have HP2 := Lib.hid (fun (X : World) (h : Below W.heap.size W X) => place_u aw10 ⟨#[102]⟩ none 0 0 _ X (HA.out.below h).flows)
  rw [hpm] at HP1
  rw [hpf] at HP2
  clear hX5 hset hse hpm hpf e4 e5 l4 l5
  have HU0 : Hid (∀ X, Below W.heap.size W X → X.cell? ⟨w.heap.size + 1 + 1 + 1 + 1, 0, none⟩ = some (.slice none 0 0) ∧ X.cell? ⟨w.heap.size + 1 + 1 + 1 + 1, 1, none⟩ = some (.slice (some ⟨w.heap.size + 1 + 1 + 1, 0, none⟩) 1 1)) := Lib.hid (fun X h => ⟨(HU.out.below h hul).cell 0, (HU.out.below h hul).cell 1⟩)
  go_wp2_with (first
    | (go_at_call 18; refine HSE.out.mono ?_; rintro e w6 ⟨rfl, hb6⟩; have HB6 := Lib.hid (HB5.out.trans (hb6.mono HB5.out.size)); clear hb6; obtain ⟨g0, g1⟩ := HU0.out w6 HB6.out)
    | (go_at_call 23; refine (HP1.out w6 HB6.out).mono ?_; rintro e w7 ⟨rfl, hb7⟩; have HB7 := Lib.hid (HB6.out.trans (hb7.mono HB6.out.size)); clear hb7; obtain ⟨k0, k1⟩ := HU0.out w7 HB7.out)
    | (go_at_call 23; refine (HP2.out w7 HB7.out).mono ?_; rintro e w8 ⟨rfl, hb8⟩; have HB8 := Lib.hid (HB7.out.trans (hb8.mono HB7.out.size)); clear hb8))
  go_ret
  exact ⟨rfl, HB.out.trans (HB8.out.mono HB.out.size)⟩
end Go.Proofs.YtnpnhdmfdhnmfaaGreatDoor
