/- Chapter 14's example: its first calls, whose answers are fixed. What fold.Fold tells of the empty unit. -/
import Derived.Test.YtnpnhdmfdhnmfaaGreatDoorFoldFold
import Derived.Test.YtnpnhdmfdhnmfaaGreatDoorAw10
import Derived.Test.YtnpnhdmfdhnmfaaGreatDoorRegion
import Derived.ChangeKeysEq
namespace Go.Proofs.YtnpnhdmfdhnmfaaGreatDoor
open Go.RowKit Go.Shelf

/-- two pairs of numbers are the same -/
theorem eqt_d (d : Nat) (a b : Int) (w : World) : Sem.run Tryz.prog (Op.equalIn (d + 2) 52 (Value.agg #[Value.int IntKind.i64 a, Value.int IntKind.i64 b]) (Value.agg #[Value.int IntKind.i64 a, Value.int IntKind.i64 b])) w = .ok true w := by
  have hu : Tryz.prog.underlying 52 = some (.array 2 3) := by kernel_rfl
  have hv : Tryz.prog.underlying 3 = some (.int .i64) := by kernel_rfl
  have hc : Tryz.prog.cellsOf 3 = 1 := by kernel_rfl
  have hp : Tryz.prog.plainKey 3 = true := by kernel_rfl
  have hs : (Tryz.prog.info? 3).isSome = true := by kernel_rfl
  obtain ⟨i, hi⟩ := Option.isSome_iff_exists.1 hs
  have heq : ∀ (x : Int), (Op.equalIn (d + 1) 3 (.int .i64 x) (.int .i64 x)).run Tryz.prog w = .ok true w := fun x => by
    simp [Op.equalIn, run_underlying hv]
  rw [run_equalIn_array w (d + 1) _ _ hu hi, hc, show List.range 2 = [0, 1] from rfl]
  simp only [Op.eqItems, Sem.run_bind, run_part_plain w hp (xs := #[Value.int IntKind.i64 a, Value.int IntKind.i64 b]) (off := 0 * 1) (v := .int .i64 a) rfl, Result.andThen_ok, heq]
  simp [run_part_plain w hp (xs := #[Value.int IntKind.i64 a, Value.int IntKind.i64 b]) (off := 1) (v := .int .i64 b) rfl, heq]
theorem eqt (a b : Int) (w : World) : Sem.run Tryz.prog (Op.equalIn 10000 52 (Value.agg #[Value.int IntKind.i64 a, Value.int IntKind.i64 b]) (Value.agg #[Value.int IntKind.i64 a, Value.int IntKind.i64 b])) w = .ok true w := eqt_d 9998 a b w

set_option maxRecDepth 100000 in
set_option maxHeartbeats 4000000 in
theorem fold_none (w : World) : Calls Tryz.prog 26 #[.agg #[.slice none 0 0, .slice none 0 0]] w fun e w' => e = .returned (.tuple #[.agg #[.slice none 0 0, .slice none 0 0], .int .i64 1]) ∧ Below w.heap.size w w' := by
  go_enter Tryz.func26, Tryz.ntmps26
  go_upto_region 3 with (go_at_call 22; refine (check_none _).mono ?_; rintro e w2 ⟨rfl, hb2⟩)
  refine wp_world ?_
  intro W hW
  have hw2 : w.heap.size + 2 ≤ w2.heap.size := by have := hb2.size; simp at this; omega
  have hB : Below w.heap.size w W := by
    have h := (below2 w _ _).trans (hb2.mono (by simp; omega))
    rw [← hW]; exact h.alloc (by omega) _
  have hR : Blk W (w.heap.size + 1) 27 #[.slice none 0 0, .slice none 0 0] := by
    rw [← hW]
    exact (Blk.below (Blk.new_at _ _ _ (by simp)) hb2 (by simp)).alloc _
  have r0 : W.cell? ⟨w.heap.size + 1, 0, none⟩ = some (.slice none 0 0) := hR.cell 0
  have r1 : W.cell? ⟨w.heap.size + 1, 1, none⟩ = some (.slice none 0 0) := hR.cell 1
  have z0 := hR.frozen 0
  have z1 := hR.frozen 1
  clear hW hb2 hw2
  go_wp2
  have hfin : Blk ((W.setCell ⟨w.heap.size + 1, 0, none⟩ (.slice none 0 0)).setCell ⟨w.heap.size + 1, 1, none⟩ (.slice none 0 0)) (w.heap.size + 1) 27 #[.slice none 0 0, .slice none 0 0] := (hR.set_ 0 _).set_ 1 _
  refine bodyPost_ret (results_cellT (p := 2) (q := 3) (ty := 27) (by kernel_rfl) _ _ (w.heap.size + 1) 27 _ (0, 0) _ (.int .i64 1) rfl rfl hfin Tryz.underlying27 rfl (by kernel_rfl)) rfl ?_
  exact ⟨rfl, (hB.setCell (Nat.le_succ _) _).setCell (Nat.le_succ _) _⟩

/-! ### the example -/
def num14 (d n : Int) : LIns := ⟨1, d, 0, 0, 0, n, ⟨#[]⟩, []⟩
def mul14 : LIns := ⟨4, 2, 1, 1, 3, 0, ⟨#[]⟩, []⟩
def ret14 : LBlock := ⟨[], ⟨3, 0, 0, 0⟩⟩
def aw14 : LUnit := ⟨[], [⟨⟨#[109, 97, 105, 110]⟩, 0, 3, [⟨[num14 1 2, mul14], ⟨2, 2, 1, 2⟩⟩, ret14, ret14]⟩]⟩
def aw14F : LUnit := ⟨[], [⟨⟨#[109, 97, 105, 110]⟩, 0, 3, [⟨[num14 1 2, num14 2 4], ⟨1, 0, 1, 0⟩⟩, ret14, ret14]⟩]⟩
theorem aw14_fold : foldE aw14 = aw14F := by kernel_rfl
theorem blocks14 {P : LBlock → Prop} {a b c : LBlock} (ha : P a) (hb : P b) (hc : P c) : ∀ x ∈ [a, b, c], P x := fun x hx => by
  rcases List.mem_cons.1 hx with rfl | hx
  · exact ha
  · rcases List.mem_cons.1 hx with rfl | hx
    · exact hb
    · obtain rfl := List.mem_singleton.1 hx; exact hc
theorem ins14 {P : LIns → Prop} {a b : LIns} (ha : P a) (hb : P b) : ∀ x ∈ [a, b], P x := fun x hx => by
  rcases List.mem_cons.1 hx with rfl | hx
  · exact ha
  · obtain rfl := List.mem_singleton.1 hx; exact hb
theorem aw14_ok : UnitOk aw14 where
  sizes := fun a ha => by cases ha
  arrs := by decide
  fls := by decide
  good := fun s hs => by
    have h : s = (⟨#[109, 97, 105, 110]⟩ : ByteArray) := by simpa [allNames, aw14] using hs
    exact .inl h
  nodup := by simp [allNames, aw14]
  main := ⟨0, by decide, by decide, by decide⟩
  nums := fun f hf => by
    obtain rfl : f = _ := List.mem_singleton.1 hf
    decide
  lens := fun f hf => by
    obtain rfl : f = _ := List.mem_singleton.1 hf
    exact blocks14 (by decide) (by decide) (by decide)
  blocks := fun f hf => by
    obtain rfl : f = _ := List.mem_singleton.1 hf
    decide
theorem aw14_text : S8 (unitT aw14F) = ⟨#[102, 117, 110, 99, 32, 109, 97, 105, 110, 32, 48, 32, 51, 10, 98, 48, 58, 10, 9, 118, 49, 32, 61, 32, 50, 10, 9, 118, 50, 32, 61, 32, 52, 10, 9, 106, 117, 109, 112, 32, 98, 49, 10, 98, 49, 58, 10, 9, 114, 101, 116, 117, 114, 110, 32, 118, 48, 10, 98, 50, 58, 10, 9, 114, 101, 116, 117, 114, 110, 32, 118, 48, 10]⟩ := by
  have i0 : Lib.itoa 0 = [48] := itoa_dg 0 (by omega)
  have i1 : Lib.itoa 1 = [49] := itoa_dg 1 (by omega)
  have i2 : Lib.itoa 2 = [50] := itoa_dg 2 (by omega)
  have i3 : Lib.itoa 3 = [51] := itoa_dg 3 (by omega)
  have i4 : Lib.itoa 4 = [52] := itoa_dg 4 (by omega)
  simp [S8, unitT, ln, unitLn, aw14F, flowsLn, headT, blocksLn, labelT, bodyT, insT, whatT, endT, num14, ret14, vT, bT, i0, i1, i2, i3, i4, L8]
theorem aw14_print : PrintOk aw14F where
  ok := by rw [← aw14_fold]; exact fold_ok aw14_ok
  arrs := fun a ha => by cases ha
  fls := fun f hf => by
    obtain rfl : f = _ := List.mem_singleton.1 hf
    exact ⟨by decide, ⟨by decide, by decide⟩, ⟨by decide, by decide⟩, by decide⟩
  ins := fun f hf => by
    obtain rfl : f = _ := List.mem_singleton.1 hf
    refine blocks14 (ins14 ?_ ?_) (fun x hx => by cases hx) (fun x hx => by cases hx)
    · exact ⟨⟨by decide, by decide⟩, ⟨by decide, by decide⟩, ⟨by decide, by decide⟩, ⟨by decide, by decide⟩, ⟨by decide, by decide⟩, by decide, fun n hn => (by cases hn), by decide⟩
    · exact ⟨⟨by decide, by decide⟩, ⟨by decide, by decide⟩, ⟨by decide, by decide⟩, ⟨by decide, by decide⟩, ⟨by decide, by decide⟩, by decide, fun n hn => (by cases hn), by decide⟩
  ends := fun f hf => by
    obtain rfl : f = _ := List.mem_singleton.1 hf
    exact blocks14 ⟨⟨by decide, by decide⟩, ⟨by decide, by decide⟩, ⟨by decide, by decide⟩, by decide⟩ ⟨⟨by decide, by decide⟩, ⟨by decide, by decide⟩, ⟨by decide, by decide⟩, by decide⟩ ⟨⟨by decide, by decide⟩, ⟨by decide, by decide⟩, ⟨by decide, by decide⟩, by decide⟩
  len := by
    have h : (unitT aw14F).length = (S8 (unitT aw14F)).size := rfl
    rw [h, aw14_text]
    decide
theorem aw14_itoa (w : World) : ∀ f ∈ aw14F.flows, ∀ b ∈ f.blocks, ∀ x ∈ b.ins, x.kind = 1 → ItoaAt x.n w := fun f hf => by
  obtain rfl : f = _ := List.mem_singleton.1 hf
  exact blocks14 (ins14 (fun _ => ItoaAt.of_small ⟨by decide, by decide⟩ w) (fun _ => ItoaAt.of_small ⟨by decide, by decide⟩ w)) (fun x hx => by cases hx) (fun x hx => by cases hx)
theorem aw14_flows {W : World} {a : Nat} (h0 : Blk W a 36 #[.int .i64 1, .int .i64 1, .int .i64 0, .int .i64 0, .int .i64 0, .int .i64 2, .string ⟨#[]⟩, .slice none 0 0, .int .i64 4, .int .i64 2, .int .i64 1, .int .i64 1, .int .i64 3, .int .i64 0, .string ⟨#[]⟩, .slice none 0 0])
    (h1 : Blk W (a + 1) 43 #[.slice (some ⟨a, 0, none⟩) 2 2, .int .i64 2, .int .i64 2, .int .i64 1, .int .i64 2, .slice none 0 0, .int .i64 3, .int .i64 0, .int .i64 0, .int .i64 0, .slice none 0 0, .int .i64 3, .int .i64 0, .int .i64 0, .int .i64 0])
    (h2 : Blk W (a + 1 + 1) 45 #[.string ⟨#[109, 97, 105, 110]⟩, .int .i64 0, .int .i64 3, .slice (some ⟨a + 1, 0, none⟩) 3 3]) :
    SlR W (· < W.heap.size) 4 (RFlow W (· < W.heap.size)) (.slice (some ⟨a + 1 + 1, 0, none⟩) 1 1) aw14.flows := by
  refine SlR.lit [[.string ⟨#[109, 97, 105, 110]⟩, .int .i64 0, .int .i64 3, .slice (some ⟨a + 1, 0, none⟩) 3 3]] h2 rfl ⟨⟨rfl, ⟨_, rfl, ?_⟩⟩, trivial⟩ rfl h2.lt (by omega)
  refine SlR.lit [[.slice (some ⟨a, 0, none⟩) 2 2, .int .i64 2, .int .i64 2, .int .i64 1, .int .i64 2], [.slice none 0 0, .int .i64 3, .int .i64 0, .int .i64 0, .int .i64 0], [.slice none 0 0, .int .i64 3, .int .i64 0, .int .i64 0, .int .i64 0]] h1 rfl ⟨⟨rfl, ⟨_, rfl, ?_⟩⟩, ⟨rfl, ⟨_, rfl, SlR.nil_ _ _ _ _⟩⟩, ⟨rfl, ⟨_, rfl, SlR.nil_ _ _ _ _⟩⟩, trivial⟩ rfl h1.lt (by omega)
  exact SlR.lit [[.int .i64 1, .int .i64 1, .int .i64 0, .int .i64 0, .int .i64 0, .int .i64 2, .string ⟨#[]⟩, .slice none 0 0], [.int .i64 4, .int .i64 2, .int .i64 1, .int .i64 1, .int .i64 3, .int .i64 0, .string ⟨#[]⟩, .slice none 0 0]] h0 rfl ⟨⟨rfl, ⟨_, rfl, SlR.nil_ _ _ _ _⟩⟩, ⟨rfl, ⟨_, rfl, SlR.nil_ _ _ _ _⟩⟩, trivial⟩ rfl h0.lt (by omega)
set_option maxRecDepth 100000 in
set_option maxHeartbeats 8000000 in
theorem awake14_any (w : World) : Calls Tryz.prog 25 #[] w fun e w' => e = .returned (.bool true) ∧ Below w.heap.size w w' := by
  go_enter Tryz.func25, Tryz.ntmps25
  go_upto_region 2 with fail
  refine wp_world ?_
  intro W hW
  have h0 : Blk W w.heap.size 36 #[.int .i64 1, .int .i64 1, .int .i64 0, .int .i64 0, .int .i64 0, .int .i64 2, .string ⟨#[]⟩, .slice none 0 0, .int .i64 4, .int .i64 2, .int .i64 1, .int .i64 1, .int .i64 3, .int .i64 0, .string ⟨#[]⟩, .slice none 0 0] := by
    rw [← hW]; exact (((Blk.new w _ _).alloc _).alloc _).alloc _
  have h1 : Blk W (w.heap.size + 1) 43 #[.slice (some ⟨w.heap.size, 0, none⟩) 2 2, .int .i64 2, .int .i64 2, .int .i64 1, .int .i64 2, .slice none 0 0, .int .i64 3, .int .i64 0, .int .i64 0, .int .i64 0, .slice none 0 0, .int .i64 3, .int .i64 0, .int .i64 0, .int .i64 0] := by
    rw [← hW]; exact ((Blk.new_at _ _ _ (by simp)).alloc _).alloc _
  have h2 : Blk W (w.heap.size + 1 + 1) 45 #[.string ⟨#[109, 97, 105, 110]⟩, .int .i64 0, .int .i64 3, .slice (some ⟨w.heap.size + 1, 0, none⟩) 3 3] := by
    rw [← hW]; exact (Blk.new_at _ _ _ (by simp)).alloc _
  have hU : Blk W (w.heap.size + 1 + 1 + 1) 27 #[.slice none 0 0, .slice (some ⟨w.heap.size + 1 + 1, 0, none⟩) 1 1] := by rw [← hW]; exact Blk.new_at _ _ _ (by simp)
  have hB : Below w.heap.size w W := by rw [← hW]; exact (((((Below.refl _ _).alloc (Nat.le_refl _) _).alloc (by simp) _).alloc (by simp <;> omega) _).alloc (by simp <;> omega) _)
  clear hW
  have hF := aw14_flows h0 h1 h2
  have u0 : W.cell? ⟨w.heap.size + 1 + 1 + 1, 0, none⟩ = some (.slice none 0 0) := hU.cell 0
  have u1 : W.cell? ⟨w.heap.size + 1 + 1 + 1, 1, none⟩ = some (.slice (some ⟨w.heap.size + 1 + 1, 0, none⟩) 1 1) := hU.cell 1
  have hfo : Calls Tryz.prog 26 #[.agg #[.slice none 0 0, .slice (some ⟨w.heap.size + 1 + 1, 0, none⟩) 1 1]] W fun e w' => ∃ Aa ca Af cf, e = .returned (.tuple #[.agg #[.slice Aa 0 ca, .slice Af 1 cf], .int .i64 0]) ∧ Below W.heap.size W w' ∧ SlR w' (· < w'.heap.size) 2 RArr (.slice Aa 0 ca) aw14F.arrays ∧ SlR w' (· < w'.heap.size) 4 (RFlow w' (· < w'.heap.size)) (.slice Af 1 cf) aw14F.flows := by
    have h := fold_any aw14 aw14_ok none (some ⟨w.heap.size + 1 + 1, 0, none⟩) 0 1 W (SlR.nil_ _ _ _ _) hF
    refine h.mono ?_
    rintro e w' ⟨Aa, ca, Af, cf, he, h1, h2, h3⟩
    rw [aw14_fold] at h3
    exact ⟨Aa, ca, Af, cf, he, h1, h2.imp (fun _ h => h.2) (Keeps.refl _ _) (fun _ _ _ r => r), h3.imp (fun _ h => h.2) (Keeps.refl _ _) (fun _ _ _ r => r.imp (fun _ h => h.2) (Keeps.refl _ _))⟩
  have hk1 : ∀ X, Below W.heap.size W X → Calls Tryz.prog 27 #[.agg #[.slice none 0 0, .slice (some ⟨w.heap.size + 1 + 1, 0, none⟩) 1 1]] X fun e w' => e = .returned (.agg #[.int .i64 1, .int .i64 2]) ∧ Below X.heap.size X w' := fun X hb => by
    have h := knownU_any aw14 aw14_ok none (some ⟨w.heap.size + 1 + 1, 0, none⟩) 0 1 X (hb_flows hF hb)
    have e1 : ((knownA aw14 : Nat) : Int) = 1 := by decide
    have e2 : ((knownB aw14 : Nat) : Int) = 2 := by decide
    rw [e1, e2] at h
    exact h
  have HFO := Lib.hid hfo
  have HK1 := Lib.hid hk1
  have HU := Lib.hid hU
  have HB := Lib.hid hB
  have hul := hU.lt
  clear h0 h1 h2 hF hfo hU hB hk1
  go_upto_region 3 with (go_at_call 26; refine HFO.out.mono ?_; rintro e w2 ⟨Aa, ca, Af, cf, rfl, hb2, hsa, hsf⟩)
  refine wp_world ?_
  intro W3 hW3
  have hb3 : Below W.heap.size W W3 := by rw [← hW3]; exact hb2.alloc hb2.size _
  have hb23 : Below w2.heap.size w2 W3 := by rw [← hW3]; exact below1 _ _
  have hV : Blk W3 w2.heap.size 27 #[.slice Aa 0 ca, .slice Af 1 cf] := by rw [← hW3]; exact Blk.new w2 _ _
  have hsa3 := hb_slr hsa hb23
  have hsf3 := hb_flows hsf hb23
  have hk2 : ∀ X, Below W3.heap.size W3 X → Calls Tryz.prog 27 #[.agg #[.slice Aa 0 ca, .slice Af 1 cf]] X fun e w' => e = .returned (.agg #[.int .i64 2, .int .i64 3]) ∧ Below X.heap.size X w' := fun X hb => by
    have h := knownU_any aw14F (by rw [← aw14_fold]; exact fold_ok aw14_ok) Aa Af ca cf X (hb_flows hsf3 hb)
    have e1 : ((knownA aw14F : Nat) : Int) = 2 := by decide
    have e2 : ((knownB aw14F : Nat) : Int) = 3 := by decide
    rw [e1, e2] at h
    exact h
  have hpr : ∀ X, Below W3.heap.size W3 X → Calls Tryz.prog 15 #[.agg #[.slice Aa 0 ca, .slice Af 1 cf]] X fun e w' => e = .returned (.tuple #[.string (S8 (unitT aw14F)), .int .i64 0]) ∧ Below X.heap.size X w' := fun X hb =>
    print_any aw14F aw14_print Aa Af ca cf X (hb_slr hsa3 hb) (hb_flows hsf3 hb) (aw14_itoa X)
  rw [aw14_text] at hpr
  have HPR := Lib.hid hpr
  have HK2 := Lib.hid hk2
  have HV := Lib.hid hV
  have HB3 := Lib.hid hb3
  have hvl := hV.lt
  clear hW3 hb3 hb23 hV hsa3 hsf3 hk2 hpr hb2 hsa hsf u0 u1 HFO
  go_upto_region 4 with (go_at_call 26; refine (fold_none _).mono ?_; rintro e w4 ⟨rfl, hb4⟩)
  refine wp_world ?_
  intro W5 hW5
  have hb5 : Below W3.heap.size W3 W5 := by
    rw [← hW5]
    first
      | exact hb4.alloc hb4.size _
      | exact (hb4.alloc hb4.size _).setCell (by simp; exact hb4.size) _
      | exact ((hb4.alloc hb4.size _).setCell (by simp; exact hb4.size) _).setCell (by simp; exact hb4.size) _
  have v0 : W5.cell? ⟨w2.heap.size, 0, none⟩ = some (.slice Aa 0 ca) := (HV.out.below hb5 hvl).cell 0
  have v1 : W5.cell? ⟨w2.heap.size, 1, none⟩ = some (.slice Af 1 cf) := (HV.out.below hb5 hvl).cell 1
  have HB5 := Lib.hid hb5
  clear hW5 hb5 hb4
  go_upto_region 5 with (go_at_call 15; refine (HPR.out W5 HB5.out).mono ?_; rintro e w6 ⟨rfl, hb6⟩)
  have hb36 := HB5.out.trans (hb6.mono HB5.out.size)
  have u0 : w6.cell? ⟨w.heap.size + 1 + 1 + 1, 0, none⟩ = some (.slice none 0 0) := (HU.out.below (HB3.out.trans (hb36.mono HB3.out.size)) hul).cell 0
  have u1 : w6.cell? ⟨w.heap.size + 1 + 1 + 1, 1, none⟩ = some (.slice (some ⟨w.heap.size + 1 + 1, 0, none⟩) 1 1) := (HU.out.below (HB3.out.trans (hb36.mono HB3.out.size)) hul).cell 1
  have HB36 := Lib.hid hb36
  clear v0 v1 hb6 hb36 HPR
  go_upto_region 5 with fail
  refine wp_region_lit ?_
  refine takeP 36 (.int .i64 0) rfl (by kernel_rfl) (by go_simp) ?_
  simp only [List.setIfInBounds_toArray, List.set_cons_zero, List.set_cons_succ]
  refine takeP 37 (.bool true) rfl (by kernel_rfl) (by go_simp) ?_
  simp only [List.setIfInBounds_toArray, List.set_cons_zero, List.set_cons_succ]
  refine takeP 38 (.bool true) rfl (by kernel_rfl) (by go_simp) ?_
  simp only [List.setIfInBounds_toArray, List.set_cons_zero, List.set_cons_succ]
  refine takeP 39 (.int .i64 1) rfl (by kernel_rfl) (by go_simp) ?_
  simp only [List.setIfInBounds_toArray, List.set_cons_zero, List.set_cons_succ]
  refine takeP 40 (.bool true) rfl (by kernel_rfl) (by go_simp) ?_
  simp only [List.setIfInBounds_toArray, List.set_cons_zero, List.set_cons_succ]
  refine takeP 41 (.bool true) rfl (by kernel_rfl) (by go_simp) ?_
  simp only [List.setIfInBounds_toArray, List.set_cons_zero, List.set_cons_succ]
  refine takeP 42 (.bool true) rfl (by kernel_rfl) (by go_simp) ?_
  simp only [List.setIfInBounds_toArray, List.set_cons_zero, List.set_cons_succ]
  refine takeP 43 (.string ⟨#[102, 117, 110, 99, 32, 109, 97, 105, 110, 32, 48, 32, 51, 10, 98, 48, 58, 10, 9, 118, 49, 32, 61, 32, 50, 10, 9, 118, 50, 32, 61, 32, 52, 10, 9, 106, 117, 109, 112, 32, 98, 49, 10, 98, 49, 58, 10, 9, 114, 101, 116, 117, 114, 110, 32, 118, 48, 10, 98, 50, 58, 10, 9, 114, 101, 116, 117, 114, 110, 32, 118, 48, 10]⟩) rfl (by kernel_rfl) (by go_simp) ?_
  simp only [List.setIfInBounds_toArray, List.set_cons_zero, List.set_cons_succ]
  refine takeP 44 (.bool true) rfl (by kernel_rfl) (by go_simp) ?_
  simp only [List.setIfInBounds_toArray, List.set_cons_zero, List.set_cons_succ]
  refine takeP 45 (.bool true) rfl (by kernel_rfl) (by go_simp) ?_
  simp only [List.setIfInBounds_toArray, List.set_cons_zero, List.set_cons_succ]
  refine takeP 46 (.bool true) rfl (by kernel_rfl) (by go_simp) ?_
  simp only [List.setIfInBounds_toArray, List.set_cons_zero, List.set_cons_succ]
  refine takeP 47 (.agg #[.slice none 0 0, .slice (some ⟨w.heap.size + 1 + 1, 0, none⟩) 1 1]) rfl (by kernel_rfl) (by go_simp) ?_
  simp only [List.setIfInBounds_toArray, List.set_cons_zero, List.set_cons_succ]
  refine stepP (by kernel_rfl) (fun K hK => ?_)
  go_simp
  refine (HK1.out w6 (HB3.out.trans (HB36.out.mono HB3.out.size))).mono ?_
  rintro e w7 ⟨rfl, hb7⟩
  have hb37 := HB36.out.trans (hb7.mono HB36.out.size)
  have v0 : w7.cell? ⟨w2.heap.size, 0, none⟩ = some (.slice Aa 0 ca) := (HV.out.below hb37 hvl).cell 0
  have v1 : w7.cell? ⟨w2.heap.size, 1, none⟩ = some (.slice Af 1 cf) := (HV.out.below hb37 hvl).cell 1
  refine hK.out _ _ ?_
  clear hK K
  try simp only [List.setIfInBounds_toArray, List.set_cons_zero, List.set_cons_succ]
  refine takeP 49 (.agg #[.int .i64 1, .int .i64 2]) rfl (by kernel_rfl) (by go_simp) ?_
  simp only [List.setIfInBounds_toArray, List.set_cons_zero, List.set_cons_succ]
  refine takeP 50 (.bool true) rfl (by kernel_rfl) (by have heq := eqt 1 2 w7; go_simp) ?_
  simp only [List.setIfInBounds_toArray, List.set_cons_zero, List.set_cons_succ]
  refine takeP 51 (.bool true) rfl (by kernel_rfl) (by go_simp) ?_
  simp only [List.setIfInBounds_toArray, List.set_cons_zero, List.set_cons_succ]
  refine takeP 52 (.bool true) rfl (by kernel_rfl) (by go_simp) ?_
  simp only [List.setIfInBounds_toArray, List.set_cons_zero, List.set_cons_succ]
  refine takeP 53 (.agg #[.slice Aa 0 ca, .slice Af 1 cf]) rfl (by kernel_rfl) (by go_simp) ?_
  simp only [List.setIfInBounds_toArray, List.set_cons_zero, List.set_cons_succ]
  refine stepP (by kernel_rfl) (fun K hK => ?_)
  go_simp
  refine (HK2.out w7 hb37).mono ?_
  rintro e w8 ⟨rfl, hb8⟩
  refine hK.out _ _ ?_
  clear hK K
  try simp only [List.setIfInBounds_toArray, List.set_cons_zero, List.set_cons_succ]
  refine takeP 55 (.agg #[.int .i64 2, .int .i64 3]) rfl (by kernel_rfl) (by go_simp) ?_
  simp only [List.setIfInBounds_toArray, List.set_cons_zero, List.set_cons_succ]
  refine takeP 56 (.bool true) rfl (by kernel_rfl) (by have heq := eqt 2 3 w8; go_simp) ?_
  simp only [List.setIfInBounds_toArray, List.set_cons_zero, List.set_cons_succ]
  refine takeP 57 (.bool true) rfl (by kernel_rfl) (by go_simp) ?_
  simp only [List.setIfInBounds_toArray, List.set_cons_zero, List.set_cons_succ]
  refine takeP 0 (.bool true) rfl (by kernel_rfl) (by go_simp) ?_
  simp only [List.setIfInBounds_toArray, List.set_cons_zero]
  refine wpList_nil ?_
  go_wp2
  go_ret
  have hb38 := hb37.trans (hb8.mono hb37.size)
  exact ⟨rfl, HB.out.trans ((HB3.out.trans (hb38.mono HB3.out.size)).mono HB.out.size)⟩
end Go.Proofs.YtnpnhdmfdhnmfaaGreatDoor
