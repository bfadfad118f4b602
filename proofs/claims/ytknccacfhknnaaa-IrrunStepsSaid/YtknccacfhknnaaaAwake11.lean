/- Chapter 11's example: awake of its statements is true. -/
import Derived.Test.YtknccacfhknnaaaLit
namespace Go.Proofs.Ytknccacfhknnaaa
open Go.RowKit

def aw11 : LUnit := ⟨[], [⟨⟨#[109, 97, 105, 110]⟩, 0, 1, [⟨[⟨7, 0, 0, 0, 0, 0, ⟨#[]⟩, []⟩, ⟨8, 0, 0, 0, 0, 0, ⟨#[]⟩, []⟩], ⟨3, 0, 0, 0⟩⟩]⟩]⟩
theorem aw11_ok : UnitOk aw11 where
  sizes := fun a ha => by cases ha
  arrs := by decide
  fls := by decide
  good := fun s hs => by
    have h : s = (⟨#[109, 97, 105, 110]⟩ : ByteArray) := by simpa [allNames, aw11] using hs
    exact .inl h
  nodup := by simp [allNames, aw11]
  main := ⟨0, by decide, by decide, by decide⟩
  nums := fun f hf => by
    obtain rfl : f = _ := List.mem_singleton.1 hf
    decide
  lens := fun f hf b hb => by
    obtain rfl : f = _ := List.mem_singleton.1 hf
    obtain rfl : b = _ := List.mem_singleton.1 hb
    decide
  blocks := fun f hf => by
    obtain rfl : f = _ := List.mem_singleton.1 hf
    decide
theorem aw11_run1 : (runU aw11 [6] 99).status = 1 ∧ (runU aw11 [6] 99).code = 6 ∧ (runU aw11 [6] 99).steps = 3 ∧ (runU aw11 [6] 99).out = [6] := by
  refine ⟨?_, ?_, ?_, ?_⟩ <;> decide
theorem aw11_run2 : (runU aw11 [] 1).status = 0 ∧ (runU aw11 [] 1).code = 0 ∧ (runU aw11 [] 1).steps = 1 ∧ (runU aw11 [] 1).out = [] := by
  refine ⟨?_, ?_, ?_, ?_⟩ <;> decide

def awRow (a : Nat) : List (List Value) := [[.slice (some ⟨a, 0, none⟩) 2 2, .int .i64 3, .int .i64 0, .int .i64 0, .int .i64 0]]
structure Aw11 (W : World) (a : Nat) : Prop where
  h0 : Blk W a 43 #[.int .i64 7, .int .i64 0, .int .i64 0, .int .i64 0, .int .i64 0, .int .i64 0, .string ⟨#[]⟩, .slice none 0 0, .int .i64 8, .int .i64 0, .int .i64 0, .int .i64 0, .int .i64 0, .int .i64 0, .string ⟨#[]⟩, .slice none 0 0]
  h1 : Blk W (a + 1) 38 #[.slice (some ⟨a, 0, none⟩) 2 2, .int .i64 3, .int .i64 0, .int .i64 0, .int .i64 0]
  h2 : Blk W (a + 1 + 1) 25 #[.string ⟨#[109, 97, 105, 110]⟩, .int .i64 0, .int .i64 1, .slice (some ⟨a + 1, 0, none⟩) 1 1]
theorem Aw11.below {W W' : World} {a : Nat} (h : Aw11 W a) (hb : Below W.heap.size W W') : Aw11 W' a := ⟨h.h0.below hb h.h0.lt, h.h1.below hb h.h1.lt, h.h2.below hb h.h2.lt⟩
theorem Aw11.flows {W : World} {a : Nat} (h : Aw11 W a) : SlR W (· < W.heap.size) 4 (RFlow W (· < W.heap.size)) (.slice (some ⟨a + 1 + 1, 0, none⟩) 1 1) aw11.flows := by
  refine SlR.lit [[.string ⟨#[109, 97, 105, 110]⟩, .int .i64 0, .int .i64 1, .slice (some ⟨a + 1, 0, none⟩) 1 1]] h.h2 rfl ⟨⟨rfl, ⟨_, rfl, ?_⟩⟩, trivial⟩ rfl h.h2.lt (by omega)
  refine SlR.lit [[.slice (some ⟨a, 0, none⟩) 2 2, .int .i64 3, .int .i64 0, .int .i64 0, .int .i64 0]] h.h1 rfl ⟨⟨rfl, ⟨_, rfl, ?_⟩⟩, trivial⟩ rfl h.h1.lt (by omega)
  exact SlR.lit [[.int .i64 7, .int .i64 0, .int .i64 0, .int .i64 0, .int .i64 0, .int .i64 0, .string ⟨#[]⟩, .slice none 0 0], [.int .i64 8, .int .i64 0, .int .i64 0, .int .i64 0, .int .i64 0, .int .i64 0, .string ⟨#[]⟩, .slice none 0 0]] h.h0 rfl ⟨⟨rfl, ⟨_, rfl, SlR.nil_ _ _ _ _⟩⟩, ⟨rfl, ⟨_, rfl, SlR.nil_ _ _ _ _⟩⟩, trivial⟩ rfl h.h0.lt (by omega)
theorem Aw11.run {W : World} {a : Nat} (h : Aw11 W a) (inp : List Int) (n : Nat) (hn : n ≤ 20000) (vin : Value) (hin : SlR W (· < W.heap.size) 1 RInt vin inp) :
    Calls Try.prog 20 #[.agg #[.slice none 0 0, .slice (some ⟨a + 1 + 1, 0, none⟩) 1 1], vin, .int .i64 (n : Int)] W fun e w' => ∃ vout, e = .returned (.agg #[.int .i64 (runU aw11 inp n).status, .int .i64 (runU aw11 inp n).code, vout, .int .i64 (runU aw11 inp n).steps]) ∧ Below W.heap.size W w' ∧ w'.ownsRow W.heap.size 3 1 vout (runU aw11 inp n).out.length ((runU aw11 inp n).out.map (Value.int .i64)) :=
  run_any aw11 aw11_ok inp n hn none (some ⟨a + 1 + 1, 0, none⟩) 0 1 vin W (SlR.nil_ _ _ _ _) h.flows hin
theorem slr_of_own {w : World} {base : Nat} {v : Value} {n : Nat} {l : List Int} (h : w.ownsRow base 3 1 v n (l.map (Value.int .i64))) : SlR w (· < w.heap.size) 1 RInt v l := ints_of_own h (fun g e => (h.lt g e).2)
theorem aw_run1 {W : World} {a : Nat} (h : Aw11 W a) (vin : Value) (hin : SlR W (· < W.heap.size) 1 RInt vin [6]) :
    Calls Try.prog 20 #[.agg #[.slice none 0 0, .slice (some ⟨a + 1 + 1, 0, none⟩) 1 1], vin, .int .i64 99] W fun e w' => ∃ A c, e = .returned (.agg #[.int .i64 1, .int .i64 6, .slice A 1 c, .int .i64 3]) ∧ Below W.heap.size W w' ∧ SlR w' (· < w'.heap.size) 1 RInt (.slice A 1 c) [6] := by
  have hr := h.run [6] 99 (by omega) vin hin
  obtain ⟨e1, e2, e3, e4⟩ := aw11_run1
  rw [e1, e2, e3, e4] at hr
  refine hr.mono fun e w' ⟨vout, he, hb, ho⟩ => ?_
  obtain ⟨A, c, hv⟩ := own_form ho
  subst hv
  exact ⟨A, c, he, hb, slr_of_own ho⟩
theorem aw_run2 {W : World} {a : Nat} (h : Aw11 W a) :
    Calls Try.prog 20 #[.agg #[.slice none 0 0, .slice (some ⟨a + 1 + 1, 0, none⟩) 1 1], .slice none 0 0, .int .i64 1] W fun e w' => ∃ A c, e = .returned (.agg #[.int .i64 0, .int .i64 0, .slice A 0 c, .int .i64 1]) ∧ Below W.heap.size W w' ∧ c ≤ maxLen := by
  have hr := h.run [] 1 (by omega) (.slice none 0 0) (SlR.nil_ _ _ _ _)
  obtain ⟨e1, e2, e3, e4⟩ := aw11_run2
  rw [e1, e2, e3, e4] at hr
  refine hr.mono fun e w' ⟨vout, he, hb, ho⟩ => ?_
  obtain ⟨A, c, hv⟩ := own_form ho
  subst hv
  obtain ⟨_, _, hv, _, hc⟩ := (slr_of_own ho).val
  injection hv with _ _ hcc
  subst hcc
  exact ⟨A, c, he, hb, hc⟩
theorem slr_none {W : World} {A : Option Addr} {c : Nat} (hc : c ≤ maxLen) : SlR W (· < W.heap.size) 1 RInt (.slice A 0 c) [] := ⟨A, c, rfl, Nat.zero_le _, hc, .inl rfl⟩
theorem aw_same2 (A : Option Addr) (c : Nat) (hc : c ≤ maxLen) (W : World) : Calls Try.prog 22 #[.agg #[.int .i64 0, .int .i64 0, .slice A 0 c, .int .i64 1], .agg #[.int .i64 0, .int .i64 0, .slice none 0 0, .int .i64 1]] W fun e w' => e = .returned (.bool true) ∧ Below W.heap.size W w' :=
  same_true 0 0 1 [] _ _ W (slr_none hc) (SlR.nil_ _ _ _ _)
set_option maxHeartbeats 2000000 in
theorem awake11_any (w : World) : Calls Try.prog 18 #[] w fun e w' => e = .returned (.bool true) ∧ Below w.heap.size w w' := by
  go_enter Try.func18, Try.ntmps18
  go_upto_region 2 with fail
  refine wp_world ?_
  intro W hW
  have hA : Aw11 W w.heap.size := by
    rw [← hW]
    exact ⟨(((Blk.new w _ _).alloc _).alloc _).alloc _, ((Blk.new_at _ _ _ (by simp)).alloc _).alloc _, (Blk.new_at _ _ _ (by simp)).alloc _⟩
  have hU : Blk W (w.heap.size + 1 + 1 + 1) 29 #[.slice none 0 0, .slice (some ⟨w.heap.size + 1 + 1, 0, none⟩) 1 1] := by rw [← hW]; exact Blk.new_at _ _ _ (by simp)
  have hB : Below w.heap.size w W := by rw [← hW]; exact ((((Below.refl _ _).alloc (Nat.le_refl _) _).alloc (by simp) _).alloc (by simp <;> omega) _).alloc (by simp <;> omega) _
  clear hW
  have u0 : W.cell? ⟨w.heap.size + 1 + 1 + 1, 0, none⟩ = some (.slice none 0 0) := hU.cell 0
  have u1 : W.cell? ⟨w.heap.size + 1 + 1 + 1, 1, none⟩ = some (.slice (some ⟨w.heap.size + 1 + 1, 0, none⟩) 1 1) := hU.cell 1
  have hb1 : Below W.heap.size W (W.alloc (.cells #[.int .i64 6] 3)) := (Below.refl _ _).alloc (Nat.le_refl _) _
  have HR1 := Lib.hid (aw_run1 (hA.below hb1) (.slice (some ⟨W.heap.size, 0, none⟩) 1 1) (SlR.ints [6] (Blk.new W _ _) rfl rfl (by simp) (by omega)))
  have HA := Lib.hid hA
  have HU := Lib.hid hU
  have HB := Lib.hid hB
  have HB1 := Lib.hid hb1
  have hul := hU.lt
  clear hA hU hB hb1
  go_upto_region 3 with (go_at_call 20; refine HR1.out.mono ?_; rintro e w2 ⟨A, c, rfl, hb2, hs2⟩)
  refine wp_world ?_
  intro W3 hW3
  have hbW3 : Below W.heap.size W W3 := by rw [← hW3]; exact (HB1.out.trans (hb2.mono HB1.out.size)).alloc (Nat.le_trans HB1.out.size hb2.size) _
  have hR3 : Blk W3 w2.heap.size 48 #[.int .i64 1, .int .i64 6, .slice A 1 c, .int .i64 3] := by rw [← hW3]; exact Blk.new w2 _ _
  have hS3 : SlR W3 (· < W3.heap.size) 1 RInt (.slice A 1 c) [6] := by rw [← hW3]; exact hs2.imp (fun b hb => by have hb' : b < w2.heap.size := hb; simp; omega) (fun b hb => Below.heap_alloc w2 _ b hb) (fun _ _ _ r => r)
  clear hW3 hs2
  have HR2 := Lib.hid (aw_run2 (HA.out.below hbW3))
  have u30 : W3.cell? ⟨w.heap.size + 1 + 1 + 1, 0, none⟩ = some (.slice none 0 0) := (HU.out.below hbW3 hul).cell 0
  have u31 : W3.cell? ⟨w.heap.size + 1 + 1 + 1, 1, none⟩ = some (.slice (some ⟨w.heap.size + 1 + 1, 0, none⟩) 1 1) := (HU.out.below hbW3 hul).cell 1
  have HB3 := Lib.hid hbW3
  have HR3 := Lib.hid hR3
  have HS3 := Lib.hid hS3
  have hrl3 := hR3.lt
  clear u0 u1 hbW3 hR3 hS3
  go_upto_region 4 with (go_at_call 20; refine HR2.out.mono ?_; rintro e w4 ⟨A2, d, rfl, hb4, hd⟩)
  refine wp_world ?_
  intro W5 hW5
  have hbW5 : Below W3.heap.size W3 W5 := by rw [← hW5]; exact hb4.alloc hb4.size _
  have hR5 : Blk W5 w4.heap.size 48 #[.int .i64 0, .int .i64 0, .slice A2 0 d, .int .i64 1] := by rw [← hW5]; exact Blk.new w4 _ _
  clear hW5
  have r0 : W5.cell? ⟨w2.heap.size, 0, none⟩ = some (.int .i64 1) := (HR3.out.below hbW5 hrl3).cell 0
  have r1 : W5.cell? ⟨w2.heap.size, 1, none⟩ = some (.int .i64 6) := (HR3.out.below hbW5 hrl3).cell 1
  have r2 : W5.cell? ⟨w2.heap.size, 2, none⟩ = some (.slice A 1 c) := (HR3.out.below hbW5 hrl3).cell 2
  have r3 : W5.cell? ⟨w2.heap.size, 3, none⟩ = some (.int .i64 3) := (HR3.out.below hbW5 hrl3).cell 3
  have hb6 : Below W5.heap.size W5 (W5.alloc (.cells #[.int .i64 6] 3)) := (Below.refl _ _).alloc (Nat.le_refl _) _
  have hS6 : SlR (W5.alloc (.cells #[.int .i64 6] 3)) (· < (W5.alloc (.cells #[.int .i64 6] 3)).heap.size) 1 RInt (.slice A 1 c) [6] :=
    HS3.out.imp (fun b hb => by have hb' : b < W3.heap.size := hb; have := hbW5.size; simp; omega) (fun b hb => (hb6.block b (Nat.lt_of_lt_of_le hb hbW5.size)).trans (hbW5.block b hb)) (fun _ _ _ r => r)
  have HS1 := Lib.hid (same_true 1 6 3 [6] (.slice A 1 c) (.slice (some ⟨W5.heap.size, 0, none⟩) 1 1) _ hS6 (SlR.ints [6] (Blk.new W5 _ _) rfl rfl (by simp) (by omega)))
  have HS2 := Lib.hid (aw_same2 A2 d hd)
  have hr5l := hR5.lt
  have HR5 := Lib.hid hR5
  have HB5 := Lib.hid hbW5
  have HB6 := Lib.hid hb6
  have tok : True := trivial
  clear hS6 hb6 hR5 hbW5
  have HM := Lib.hid (fun (w7 : World) (hb7 : Below (W5.alloc (.cells #[.int .i64 6] 3)).heap.size (W5.alloc (.cells #[.int .i64 6] 3)) w7) => ((HR5.out.below HB6.out hr5l).below hb7 (by simp; omega)))
  go_wp2_with (first
    | (go_at_call 22; have _t := tok; refine HS1.out.mono ?_; rintro e w7 ⟨rfl, hb7⟩; clear tok; have q0 : w7.cell? ⟨w4.heap.size, 0, none⟩ = some (.int .i64 0) := (HM.out w7 hb7).cell 0; have q1 : w7.cell? ⟨w4.heap.size, 1, none⟩ = some (.int .i64 0) := (HM.out w7 hb7).cell 1; have q2 : w7.cell? ⟨w4.heap.size, 2, none⟩ = some (.slice A2 0 d) := (HM.out w7 hb7).cell 2; have q3 : w7.cell? ⟨w4.heap.size, 3, none⟩ = some (.int .i64 1) := (HM.out w7 hb7).cell 3)
    | (go_at_call 22; refine (HS2.out _).mono ?_; rintro e w8 ⟨rfl, hb8⟩))
  go_ret
  have h5 : Below w.heap.size w W5 := (HB.out.trans (HB3.out.mono HB.out.size)).trans (HB5.out.mono (Nat.le_trans HB.out.size HB3.out.size))
  have h6 := h5.trans (HB6.out.mono h5.size)
  have h7 := h6.trans (hb7.mono h6.size)
  exact ⟨rfl, h7.trans (hb8.mono h7.size)⟩
end Go.Proofs.Ytknccacfhknnaaa
