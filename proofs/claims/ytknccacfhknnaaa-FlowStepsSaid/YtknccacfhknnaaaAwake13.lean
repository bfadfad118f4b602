/- Chapter 13's example: awake of its statements is true. -/
import Derived.Test.YtknccacfhknnaaaAwake13Plain
import Derived.Test.YtknccacfhknnaaaLaw13Small
namespace Go.Proofs.Ytknccacfhknnaaa
open Go.RowKit Go.Maps

theorem slr_int1 {W : World} {g : Nat} {t : TypeId} {n : Int} {ok : Nat → Prop} (h : Blk W g t #[.int .i64 n]) (hok : ok g) : SlR W ok 1 RInt (.slice (some ⟨g, 0, none⟩) 1 1) [n] := by
  refine ⟨_, _, rfl, Nat.le_refl _, by unfold maxLen; omega, .inr ⟨g, 0, rfl, hok, fun i hi => ?_⟩⟩
  have hi' : i < 1 := hi
  obtain rfl : i = 0 := by omega
  refine ⟨_, rfl, rfl, fun j hj => ?_⟩
  have hj' : j < 1 := hj
  obtain rfl : j = 0 := by omega
  exact h.cell 0
theorem slr_rows2 {W : World} {g : Nat} {t : TypeId} {u v : Value} {a b : List Int} {ok : Nat → Prop} (h : Blk W g t #[u, v]) (hok : ok g) (hu : SlR W ok 1 RInt u a) (hv : SlR W ok 1 RInt v b) : SlR W ok 1 (RInts W ok) (.slice (some ⟨g, 0, none⟩) 2 2) [a, b] := by
  refine ⟨_, _, rfl, Nat.le_refl _, by unfold maxLen; omega, .inr ⟨g, 0, rfl, hok, fun i hi => ?_⟩⟩
  have hi' : i < 2 := hi
  rcases (by omega : i = 0 ∨ i = 1) with rfl | rfl
  · refine ⟨[u], rfl, ⟨u, rfl, hu⟩, fun j hj => ?_⟩
    have hj' : j < 1 := hj
    obtain rfl : j = 0 := by omega
    exact h.cell 0
  · refine ⟨[v], rfl, ⟨v, rfl, hv⟩, fun j hj => ?_⟩
    have hj' : j < 1 := hj
    obtain rfl : j = 0 := by omega
    exact h.cell 1
theorem lists_aw1 (v : Value) (w : World) (t1 t2 : TypeId) (hv : SlR w (· < w.heap.size) 1 (RInts w (· < w.heap.size)) v [[0], []]) :
    Calls Try.prog 25 #[v, .slice (some ⟨w.heap.size + 1, 0, none⟩) 2 2] ((w.alloc (.cells #[.int .i64 0] t1)).alloc (.cells #[.slice (some ⟨w.heap.size, 0, none⟩) 1 1, .slice none 0 0] t2)) fun e w' => e = .returned (.bool true) ∧ Below w.heap.size w w' := by
  have hB := below2 w (.cells #[.int .i64 0] t1) (.cells #[.slice (some ⟨w.heap.size, 0, none⟩) 1 1, .slice none 0 0] t2)
  have h1 : Blk ((w.alloc (.cells #[.int .i64 0] t1)).alloc (.cells #[.slice (some ⟨w.heap.size, 0, none⟩) 1 1, .slice none 0 0] t2)) w.heap.size t1 #[.int .i64 0] := (Blk.new_at _ _ _ rfl).alloc _
  have h2 : Blk ((w.alloc (.cells #[.int .i64 0] t1)).alloc (.cells #[.slice (some ⟨w.heap.size, 0, none⟩) 1 1, .slice none 0 0] t2)) (w.heap.size + 1) t2 #[.slice (some ⟨w.heap.size, 0, none⟩) 1 1, .slice none 0 0] := Blk.new_at _ _ _ (by simp)
  refine (lists_same [[0], []] _ _ (fun b => b < w.heap.size + 2) _ (hv.imp (fun b hb => by have : b < w.heap.size := hb; omega) (fun b hb => hB.block b hb) (fun _ _ _ r => mono_ints _ _ _ _ _ _ r (fun b hb => by have : b < w.heap.size := hb; omega) (fun b hb => hB.block b hb))) (slr_rows2 h2 (by omega) (slr_int1 h1 (by omega)) (SlR.nil_ _ _ _ _))).mono ?_
  rintro e w' ⟨he, hb⟩
  exact ⟨he, hB.trans (hb.mono hB.size)⟩
theorem lists_aw2 (v : Value) (w : World) (t1 t2 : TypeId) (hv : SlR w (· < w.heap.size) 1 (RInts w (· < w.heap.size)) v [[1], [1]]) :
    Calls Try.prog 25 #[v, .slice (some ⟨w.heap.size + 1 + 1, 0, none⟩) 2 2] (((w.alloc (.cells #[.int .i64 1] t1)).alloc (.cells #[.int .i64 1] t1)).alloc (.cells #[.slice (some ⟨w.heap.size, 0, none⟩) 1 1, .slice (some ⟨w.heap.size + 1, 0, none⟩) 1 1] t2)) fun e w' => e = .returned (.bool true) ∧ Below w.heap.size w w' := by
  have hB : Below w.heap.size w (((w.alloc (.cells #[.int .i64 1] t1)).alloc (.cells #[.int .i64 1] t1)).alloc (.cells #[.slice (some ⟨w.heap.size, 0, none⟩) 1 1, .slice (some ⟨w.heap.size + 1, 0, none⟩) 1 1] t2)) := (below2 w _ _).alloc (by simp <;> omega) _
  have h1 : Blk (((w.alloc (.cells #[.int .i64 1] t1)).alloc (.cells #[.int .i64 1] t1)).alloc (.cells #[.slice (some ⟨w.heap.size, 0, none⟩) 1 1, .slice (some ⟨w.heap.size + 1, 0, none⟩) 1 1] t2)) w.heap.size t1 #[.int .i64 1] := ((Blk.new_at _ _ _ rfl).alloc _).alloc _
  have h3 : Blk (((w.alloc (.cells #[.int .i64 1] t1)).alloc (.cells #[.int .i64 1] t1)).alloc (.cells #[.slice (some ⟨w.heap.size, 0, none⟩) 1 1, .slice (some ⟨w.heap.size + 1, 0, none⟩) 1 1] t2)) (w.heap.size + 1) t1 #[.int .i64 1] := (Blk.new_at _ _ _ (by simp)).alloc _
  have h2 : Blk (((w.alloc (.cells #[.int .i64 1] t1)).alloc (.cells #[.int .i64 1] t1)).alloc (.cells #[.slice (some ⟨w.heap.size, 0, none⟩) 1 1, .slice (some ⟨w.heap.size + 1, 0, none⟩) 1 1] t2)) (w.heap.size + 1 + 1) t2 #[.slice (some ⟨w.heap.size, 0, none⟩) 1 1, .slice (some ⟨w.heap.size + 1, 0, none⟩) 1 1] := Blk.new_at _ _ _ (by simp)
  refine (lists_same [[1], [1]] _ _ (fun b => b < w.heap.size + 3) _ (hv.imp (fun b hb => by have : b < w.heap.size := hb; omega) (fun b hb => hB.block b hb) (fun _ _ _ r => mono_ints _ _ _ _ _ _ r (fun b hb => by have : b < w.heap.size := hb; omega) (fun b hb => hB.block b hb))) (slr_rows2 h2 (by omega) (slr_int1 h1 (by omega)) (slr_int1 h3 (by omega)))).mono ?_
  rintro e w' ⟨he, hb⟩
  exact ⟨he, hB.trans (hb.mono hB.size)⟩
theorem aw_slr {W : World} {b1 b2 : Nat} (h1 : Blk W b1 43 #[.int .i64 2, .int .i64 1, .int .i64 0, .int .i64 0, .int .i64 0, .int .i64 0, .string sNone, .slice none 0 0])
    (h2 : Blk W b2 38 #[.slice (some ⟨b1, 0, none⟩) 1 1, .int .i64 3, .int .i64 1, .int .i64 0, .int .i64 0, .slice none 0 0, .int .i64 1, .int .i64 0, .int .i64 1, .int .i64 0]) :
    SlR W (· < W.heap.size) 5 (RBlock W (· < W.heap.size)) (.slice (some ⟨b2, 0, none⟩) 2 2) awF.blocks := by
  have hl1 := h1.lt
  have hl2 := h2.lt
  refine ⟨some ⟨b2, 0, none⟩, 2, rfl, Nat.le_refl 2, by unfold maxLen; omega, .inr ⟨b2, 0, rfl, hl2, fun i hi => ?_⟩⟩
  have hi' : i < 2 := hi
  rcases (by omega : i = 0 ∨ i = 1) with rfl | rfl
  · refine ⟨.slice (some ⟨b1, 0, none⟩) 1 1 :: termCells awB0.term, rfl, ⟨_, rfl, ?_⟩, fun j hj => ?_⟩
    · refine ⟨some ⟨b1, 0, none⟩, 1, rfl, Nat.le_refl 1, by unfold maxLen; omega, .inr ⟨b1, 0, rfl, hl1, fun k hk => ?_⟩⟩
      have hk' : k < 1 := hk
      obtain rfl : k = 0 := by omega
      refine ⟨insCells awI (.slice none 0 0), rfl, ⟨_, rfl, SlR.nil_ _ _ _ _⟩, fun j hj => ?_⟩
      have hj' : j < 8 := hj
      rcases (by omega : j = 0 ∨ j = 1 ∨ j = 2 ∨ j = 3 ∨ j = 4 ∨ j = 5 ∨ j = 6 ∨ j = 7) with rfl | rfl | rfl | rfl | rfl | rfl | rfl | rfl <;> exact h1.cell _
    · have hj' : j < 5 := hj
      rcases (by omega : j = 0 ∨ j = 1 ∨ j = 2 ∨ j = 3 ∨ j = 4) with rfl | rfl | rfl | rfl | rfl <;> exact h2.cell _
  · refine ⟨.slice none 0 0 :: termCells awB1.term, rfl, ⟨_, rfl, SlR.nil_ _ _ _ _⟩, fun j hj => ?_⟩
    have hj' : j < 5 := hj
    rcases (by omega : j = 0 ∨ j = 1 ∨ j = 2 ∨ j = 3 ∨ j = 4) with rfl | rfl | rfl | rfl | rfl <;> exact h2.cell _

/-- the world in which the example lies -/
structure AwW (f b1 b2 : Nat) (W : World) : Prop where
  h0 : Blk W f 25 #[.string sF, .int .i64 1, .int .i64 2, .slice (some ⟨b2, 0, none⟩) 2 2]
  h1 : Blk W b1 43 #[.int .i64 2, .int .i64 1, .int .i64 0, .int .i64 0, .int .i64 0, .int .i64 0, .string sNone, .slice none 0 0]
  h2 : Blk W b2 38 #[.slice (some ⟨b1, 0, none⟩) 1 1, .int .i64 3, .int .i64 1, .int .i64 0, .int .i64 0, .slice none 0 0, .int .i64 1, .int .i64 0, .int .i64 1, .int .i64 0]
theorem AwW.below {f b1 b2 : Nat} {W W' : World} (h : AwW f b1 b2 W) (hb : Below W.heap.size W W') : AwW f b1 b2 W' := ⟨h.h0.below hb h.h0.lt, h.h1.below hb h.h1.lt, h.h2.below hb h.h2.lt⟩
theorem AwW.slr {f b1 b2 : Nat} {W : World} (h : AwW f b1 b2 W) : SlR W (· < W.heap.size) 5 (RBlock W (· < W.heap.size)) (.slice (some ⟨b2, 0, none⟩) 2 2) awF.blocks := aw_slr h.h1 h.h2

theorem aw_reach_any {f b1 b2 : Nat} {W : World} (h : AwW f b1 b2 W) : Calls Try.prog 17 #[.agg #[.string ⟨#[102]⟩, .int .i64 1, .int .i64 2, .slice (some ⟨b2, 0, none⟩) 2 2]] W fun e w' => ∃ b off c, e = .returned (.slice (some ⟨b, off, none⟩) 2 c) ∧ Below W.heap.size W w' ∧ w'.cell? ⟨b, off, none⟩ = some (.bool true) ∧ w'.cell? ⟨b, off + 1, none⟩ = some (.bool false) ∧ b < w'.heap.size := by
  refine (reach_any awF aw_good (by decide) (by decide) (.slice (some ⟨b2, 0, none⟩) 2 2) W h.slr).mono ?_
  rintro e w' ⟨v, M, rfl, hb, hs, hl, hv⟩
  obtain rfl := aw_reach hl (hv (by decide))
  obtain ⟨b, off, c, hf, _, _, hok, hi⟩ := hs.form (by decide)
  obtain ⟨c0, _, r0, s0⟩ := hi 0 (by decide)
  obtain ⟨c1, _, r1, s1⟩ := hi 1 (by decide)
  subst r0
  subst r1
  refine ⟨b, off, c, by rw [hf]; rfl, hb, ?_, ?_, hok.2⟩
  · have := s0.at_ (j := 0) rfl; simpa using this
  · have := s1.at_ (j := 0) rfl; simpa using this
theorem aw_live_any {f b1 b2 : Nat} {W : World} (h : AwW f b1 b2 W) : Calls Try.prog 14 #[.agg #[.string ⟨#[102]⟩, .int .i64 1, .int .i64 2, .slice (some ⟨b2, 0, none⟩) 2 2]] W fun e w' => ∃ A c, e = .returned (.slice A 2 c) ∧ Below W.heap.size W w' ∧ SlR w' (· < w'.heap.size) 1 (RInts w' (· < w'.heap.size)) (.slice A 2 c) [[0], []] := by
  refine (live_any awF aw_good (by decide) (.slice (some ⟨b2, 0, none⟩) 2 2) W h.slr).mono ?_
  rintro e w' ⟨v, rfl, hb, hs⟩
  rw [aw_lives] at hs
  obtain ⟨A, c, hv, _, _⟩ := hs.val
  subst hv
  exact ⟨A, c, rfl, hb, hs.imp (fun b hb => hb.2) (Keeps.refl _ _) (fun _ _ _ r => mono_ints _ _ _ _ _ _ r (fun b hb => hb.2) (Keeps.refl _ _))⟩
theorem aw_after_any {f b1 b2 : Nat} {W : World} (h : AwW f b1 b2 W) : Calls Try.prog 15 #[.agg #[.string ⟨#[102]⟩, .int .i64 1, .int .i64 2, .slice (some ⟨b2, 0, none⟩) 2 2], .int .i64 0] W fun e w' => ∃ A c, e = .returned (.slice A 2 c) ∧ Below W.heap.size W w' ∧ SlR w' (· < w'.heap.size) 1 (RInts w' (· < w'.heap.size)) (.slice A 2 c) [[1], [1]] := by
  refine (After_any awF aw_good (by decide) 0 (by decide) (by decide) (.slice (some ⟨b2, 0, none⟩) 2 2) W h.slr).mono ?_
  rintro e w' ⟨v, rfl, hb, hs⟩
  change SlR w' _ 1 _ v (afterL awB0.ins (endS awB0.term (liveS awF))) at hs
  rw [aw_afters] at hs
  obtain ⟨A, c, hv, _, _⟩ := hs.val
  subst hv
  exact ⟨A, c, rfl, hb, hs.imp (fun b hb => hb.2) (Keeps.refl _ _) (fun _ _ _ r => mono_ints _ _ _ _ _ _ r (fun b hb => hb.2) (Keeps.refl _ _))⟩
theorem aw_out_any {f b1 b2 : Nat} {W : World} (h : AwW f b1 b2 W) : Calls Try.prog 15 #[.agg #[.string ⟨#[102]⟩, .int .i64 1, .int .i64 2, .slice (some ⟨b2, 0, none⟩) 2 2], .int .i64 2] W fun e w' => e = .returned (.slice none 0 0) ∧ Below W.heap.size W w' :=
  After_out awF aw_good 2 (by decide) (by decide) (.slice (some ⟨b2, 0, none⟩) 2 2) W h.slr

set_option maxRecDepth 100000 in
set_option maxHeartbeats 4000000 in
theorem awake13_any (w : World) : Calls Try.prog 11 #[] w fun e w' => e = .returned (.bool true) ∧ Below w.heap.size w w' := by
  go_enter Try.func11, Try.ntmps11
  go_upto_region 2 with fail
  refine wp_world ?_
  intro W hW
  have hB : Below w.heap.size w W := by rw [← hW]; exact (((Below.refl _ _).alloc (Nat.le_refl _) _).alloc (by simp) _).alloc (by simp <;> omega) _
  have hA : AwW (w.heap.size + 1 + 1) w.heap.size (w.heap.size + 1) W := by
    rw [← hW]
    exact ⟨Blk.new_at _ _ _ (by simp), ((Blk.new_at _ _ _ rfl).alloc _).alloc _, (Blk.new_at _ _ _ (by simp)).alloc _⟩
  clear hW
  have c0 : W.cell? ⟨w.heap.size + 1 + 1, 0, none⟩ = some (.string ⟨#[102]⟩) := hA.h0.cell 0
  have c1 : W.cell? ⟨w.heap.size + 1 + 1, 1, none⟩ = some (.int .i64 1) := hA.h0.cell 1
  have c2 : W.cell? ⟨w.heap.size + 1 + 1, 2, none⟩ = some (.int .i64 2) := hA.h0.cell 2
  have c3 : W.cell? ⟨w.heap.size + 1 + 1, 3, none⟩ = some (.slice (some ⟨w.heap.size + 1, 0, none⟩) 2 2) := hA.h0.cell 3
  have HA := Lib.hid hA
  have tok1 : True := trivial
  have tok2 : True := trivial
  clear hA
  go_upto_region 3 with (go_at_call 17; refine (aw_reach_any HA.out).mono ?_; rintro e w1 ⟨b, off, c, rfl, hb1, r0, r1, hbl⟩)
  clear c0 c1 c2 c3
  have hA1 := HA.out.below hb1
  have hB1 := hB.trans (hb1.mono hB.size)
  have c0 : w1.cell? ⟨w.heap.size + 1 + 1, 0, none⟩ = some (.string ⟨#[102]⟩) := hA1.h0.cell 0
  have c1 : w1.cell? ⟨w.heap.size + 1 + 1, 1, none⟩ = some (.int .i64 1) := hA1.h0.cell 1
  have c2 : w1.cell? ⟨w.heap.size + 1 + 1, 2, none⟩ = some (.int .i64 2) := hA1.h0.cell 2
  have c3 : w1.cell? ⟨w.heap.size + 1 + 1, 3, none⟩ = some (.slice (some ⟨w.heap.size + 1, 0, none⟩) 2 2) := hA1.h0.cell 3
  have HA1 := Lib.hid hA1
  have HB1 := Lib.hid hB1
  clear hA1 hB1 hb1 hB
  go_wp2_with (first | (go_at_call 14; refine (aw_live_any HA1.out).mono ?_; rintro e w2 ⟨A2, c2', rfl, hb2, hs2⟩; have HL1 := Lib.hid (lists_aw1 _ w2 3 41 hs2); have HB2 := Lib.hid hb2; have HA2 := Lib.hid (HA1.out.below hb2); clear hb2 hs2) | (go_at_call 25; have _t := tok1; refine HL1.out.mono ?_; rintro e w3 ⟨rfl, hb3⟩; have HB3 := Lib.hid hb3; have HA3 := Lib.hid (HA2.out.below hb3); have d0 : w3.cell? ⟨w.heap.size + 1 + 1, 0, none⟩ = some (.string ⟨#[102]⟩) := HA3.out.h0.cell 0; have d1 : w3.cell? ⟨w.heap.size + 1 + 1, 1, none⟩ = some (.int .i64 1) := HA3.out.h0.cell 1; have d2 : w3.cell? ⟨w.heap.size + 1 + 1, 2, none⟩ = some (.int .i64 2) := HA3.out.h0.cell 2; have d3 : w3.cell? ⟨w.heap.size + 1 + 1, 3, none⟩ = some (.slice (some ⟨w.heap.size + 1, 0, none⟩) 2 2) := HA3.out.h0.cell 3; clear tok1 hb3) | (go_at_call 15; have _t := tok2; refine (aw_after_any HA3.out).mono ?_; rintro e w4 ⟨A4, c4', rfl, hb4, hs4⟩; have HL2 := Lib.hid (lists_aw2 _ w4 3 41 hs4); have HB4 := Lib.hid hb4; have HA4 := Lib.hid (HA3.out.below hb4); clear hb4 hs4 tok2) | (go_at_call 25; refine HL2.out.mono ?_; rintro e w5 ⟨rfl, hb5⟩; have HB5 := Lib.hid hb5; have HA5 := Lib.hid (HA4.out.below hb5); have e0 : w5.cell? ⟨w.heap.size + 1 + 1, 0, none⟩ = some (.string ⟨#[102]⟩) := HA5.out.h0.cell 0; have e1 : w5.cell? ⟨w.heap.size + 1 + 1, 1, none⟩ = some (.int .i64 1) := HA5.out.h0.cell 1; have e2 : w5.cell? ⟨w.heap.size + 1 + 1, 2, none⟩ = some (.int .i64 2) := HA5.out.h0.cell 2; have e3 : w5.cell? ⟨w.heap.size + 1 + 1, 3, none⟩ = some (.slice (some ⟨w.heap.size + 1, 0, none⟩) 2 2) := HA5.out.h0.cell 3; clear hb5) | (go_at_call 15; refine (aw_out_any HA5.out).mono ?_; rintro e w6 ⟨rfl, hb6⟩; have HB6 := Lib.hid hb6; clear hb6))
  go_ret
  have q2 := HB1.out.trans (HB2.out.mono HB1.out.size)
  have q3 := q2.trans (HB3.out.mono q2.size)
  have q4 := q3.trans (HB4.out.mono q3.size)
  have q5 := q4.trans (HB5.out.mono q4.size)
  exact ⟨rfl, q5.trans (HB6.out.mono q5.size)⟩
end Go.Proofs.Ytknccacfhknnaaa
