/- Chapter 11's statement on operators: what the run of an instruction tells is what the operator makes. For every operator and all numbers. -/
import Derived.Test.YtknccacfhknnaaaOpsPlain
import Derived.Deep.CutRange
import Derived.Deep.DeepCutAuto
namespace Go.Proofs.Ytknccacfhknnaaa
open Go.RowKit

/-- an instruction's cells -/
def opsCells (x : LIns) : Array Value := #[.int .i64 x.kind, .int .i64 x.d, .int .i64 x.a, .int .i64 x.b, .int .i64 x.op, .int .i64 x.n, .string x.name, .slice none 0 0]
structure OpsW (W : World) (x : LIns) (a : Int) (p q r : Nat) : Prop where
  h0 : Blk W p 43 #[.int .i64 1, .int .i64 0, .int .i64 0, .int .i64 0, .int .i64 0, .int .i64 a, .string ⟨#[]⟩, .slice none 0 0, .int .i64 7, .int .i64 1, .int .i64 0, .int .i64 0, .int .i64 0, .int .i64 0, .string ⟨#[]⟩, .slice none 0 0, .int .i64 x.kind, .int .i64 x.d, .int .i64 x.a, .int .i64 x.b, .int .i64 x.op, .int .i64 x.n, .string x.name, .slice none 0 0, .int .i64 8, .int .i64 0, .int .i64 2, .int .i64 0, .int .i64 0, .int .i64 0, .string ⟨#[]⟩, .slice none 0 0]
  h1 : Blk W q 38 #[.slice (some ⟨p, 0, none⟩) 4 4, .int .i64 4, .int .i64 2, .int .i64 0, .int .i64 0]
  h2 : Blk W r 25 #[.string ⟨#[109, 97, 105, 110]⟩, .int .i64 0, .int .i64 3, .slice (some ⟨q, 0, none⟩) 1 1]
theorem OpsW.below {W W' : World} {x : LIns} {a : Int} {p q r : Nat} (h : OpsW W x a p q r) (hb : Below W.heap.size W W') : OpsW W' x a p q r := ⟨h.h0.below hb h.h0.lt, h.h1.below hb h.h1.lt, h.h2.below hb h.h2.lt⟩
theorem OpsW.flows {W : World} {x : LIns} {a : Int} {p q r : Nat} (h : OpsW W x a p q r) (hx : x.args = []) : SlR W (· < W.heap.size) 4 (RFlow W (· < W.heap.size)) (.slice (some ⟨r, 0, none⟩) 1 1) (opsU x a).flows := by
  refine SlR.lit [[.string ⟨#[109, 97, 105, 110]⟩, .int .i64 0, .int .i64 3, .slice (some ⟨q, 0, none⟩) 1 1]] h.h2 rfl ⟨⟨rfl, ⟨_, rfl, ?_⟩⟩, trivial⟩ rfl h.h2.lt (by omega)
  refine SlR.lit [[.slice (some ⟨p, 0, none⟩) 4 4, .int .i64 4, .int .i64 2, .int .i64 0, .int .i64 0]] h.h1 rfl ⟨⟨rfl, ⟨_, rfl, ?_⟩⟩, trivial⟩ rfl h.h1.lt (by omega)
  exact SlR.lit [[.int .i64 1, .int .i64 0, .int .i64 0, .int .i64 0, .int .i64 0, .int .i64 a, .string ⟨#[]⟩, .slice none 0 0], [.int .i64 7, .int .i64 1, .int .i64 0, .int .i64 0, .int .i64 0, .int .i64 0, .string ⟨#[]⟩, .slice none 0 0], [.int .i64 x.kind, .int .i64 x.d, .int .i64 x.a, .int .i64 x.b, .int .i64 x.op, .int .i64 x.n, .string x.name, .slice none 0 0], [.int .i64 8, .int .i64 0, .int .i64 2, .int .i64 0, .int .i64 0, .int .i64 0, .string ⟨#[]⟩, .slice none 0 0]] h.h0 rfl ⟨⟨rfl, ⟨_, rfl, SlR.nil_ _ _ _ _⟩⟩, ⟨rfl, ⟨_, rfl, SlR.nil_ _ _ _ _⟩⟩, ⟨rfl, ⟨_, rfl, by rw [hx]; exact SlR.nil_ _ _ _ _⟩⟩, ⟨rfl, ⟨_, rfl, SlR.nil_ _ _ _ _⟩⟩, trivial⟩ rfl h.h0.lt (by omega)
theorem ops_run_t {W : World} {x : LIns} {a b want : Int} {p q r : Nat} (h : OpsW W x a p q r) (hx : x.args = []) (ho : OpsX x a b want true) (vin : Value) (hin : SlR W (· < W.heap.size) 1 RInt vin [b]) :
    Calls Try.prog 20 #[.agg #[.slice none 0 0, .slice (some ⟨r, 0, none⟩) 1 1], vin, .int .i64 9] W fun e w' => ∃ A c, e = .returned (.agg #[.int .i64 5, .int .i64 want, .slice A 1 c, .int .i64 5]) ∧ Below W.heap.size W w' ∧ SlR w' (· < w'.heap.size) 1 RInt (.slice A 1 c) [want] := by
  have hr := run_any (opsU x a) ho.unit [b] 9 (by omega) none (some ⟨r, 0, none⟩) 0 1 vin W (SlR.nil_ _ _ _ _) (h.flows hx) hin
  rw [ho.status, ho.code, ho.steps, ho.out] at hr
  refine hr.mono fun e w' ⟨vout, he, hb, hown⟩ => ?_
  obtain ⟨A, c, hv⟩ := own_form hown
  subst hv
  exact ⟨A, c, he, hb, slr_of_own hown⟩
theorem ops_run_f {W : World} {x : LIns} {a b want : Int} {p q r : Nat} (h : OpsW W x a p q r) (hx : x.args = []) (ho : OpsX x a b want false) (vin : Value) (hin : SlR W (· < W.heap.size) 1 RInt vin [b]) :
    Calls Try.prog 20 #[.agg #[.slice none 0 0, .slice (some ⟨r, 0, none⟩) 1 1], vin, .int .i64 9] W fun e w' => ∃ A c, e = .returned (.agg #[.int .i64 2, .int .i64 0, .slice A 0 c, .int .i64 3]) ∧ Below W.heap.size W w' ∧ SlR w' (· < w'.heap.size) 1 RInt (.slice A 0 c) [] := by
  have hr := run_any (opsU x a) ho.unit [b] 9 (by omega) none (some ⟨r, 0, none⟩) 0 1 vin W (SlR.nil_ _ _ _ _) (h.flows hx) hin
  rw [ho.status, ho.code, ho.steps, ho.out] at hr
  refine hr.mono fun e w' ⟨vout, he, hb, hown⟩ => ?_
  obtain ⟨A, c, hv⟩ := own_form hown
  subst hv
  exact ⟨A, c, he, hb, slr_of_own hown⟩
set_option maxRecDepth 100000 in
set_option maxHeartbeats 8000000 in
theorem irrunOps_walk (op a b : Int) (wo : (Lit.int .i64 op).wf = true) (_wa : (Lit.int .i64 a).wf = true) (_wb : (Lit.int .i64 b).wf = true) (w : World) :
    Calls Try.prog 9 #[.int .i64 op, .int .i64 a, .int .i64 b] w fun e w' => e = .returned (.bool true) ∧ Below w.heap.size w w' := by
  obtain ⟨io, io'⟩ := i64_of_wf wo
  have HAW := Lib.hid (awake11_any w)
  have HPK := Lib.hid (fun w2 => pick11_any op 19 io io' (by omega) w2)
  have p0 := pk_lo op 19 (by omega)
  have p1 := pk_hi op 19 (by omega)
  generalize pk op 19 = j at *
  obtain ⟨k, hkj⟩ : ∃ k, k = 1 + j := ⟨_, rfl⟩
  have w1 : IntKind.i64.wrap (1 + j) = k := by rw [hkj, IntKind.wrap_i64]; omega
  have k0 : 1 ≤ k := by omega
  have k1 : k ≤ 19 := by omega
  have HT := Lib.hid (fun w2 => Ar.two_any k a b w2)
  have HO := Lib.hid (fun w2 => Ar.one_any k a w2)
  clear p0 p1 hkj
  go_enter Try.func9, Try.ntmps9
  go_upto_region 4 with (first | (go_at_call 18; refine HAW.out.mono ?_; rintro e w2 ⟨rfl, hb2⟩) | (go_at_call 19; refine (HPK.out _).mono ?_; rintro e w3 ⟨rfl, rfl⟩))
  refine wp_world ?_
  intro W hW
  have hB : Below w.heap.size w W := by rw [← hW]; exact hb2.alloc hb2.size _
  have hX : Blk W w2.heap.size 43 (opsCells (opsTwo k)) := by rw [← hW]; exact Blk.new w2 _ _
  have HB := Lib.hid hB
  have HX := Lib.hid hX
  have hxl := hX.lt
  have hs2 := hb2.size
  clear hW hB hX hb2
  go_upto_if 28 with (go_at_call 23; refine (HT.out _).mono ?_; rintro e w4 ⟨rfl, hb4⟩)
  have HB4 := Lib.hid hb4
  clear hb4
  go_cut [10, 11] (fun s10 s11 wx => ∃ x want is, s10 = .int .i64 want ∧ s11 = .bool is ∧ Blk wx w2.heap.size 43 (opsCells x) ∧ Below w.heap.size w wx ∧ x.args = [] ∧ OpsX x a b want is)
  case first =>
    have hB4 := HB.out.trans (HB4.out.mono HB.out.size)
    have hX4 := HX.out.below HB4.out hxl
    by_cases hk : 17 ≤ k
    · have d0 : decide (k ≥ 17) = true := decide_eq_true hk
      have d1 : decide (17 ≤ k) = true := decide_eq_true hk
      have g0 := hX4.frozen 0
      have g1 := hX4.frozen 1
      have g2 := hX4.frozen 2
      have g3 := hX4.frozen 3
      have g4 := hX4.frozen 4
      have g5 := hX4.frozen 5
      have g6 := hX4.frozen 6
      have g7 := hX4.frozen 7
      have q0 : w4.cell? ⟨w2.heap.size, 0, none⟩ = some (.int .i64 4) := hX4.cell 0
      have q1 : w4.cell? ⟨w2.heap.size, 1, none⟩ = some (.int .i64 2) := hX4.cell 1
      have q2 : w4.cell? ⟨w2.heap.size, 2, none⟩ = some (.int .i64 0) := hX4.cell 2
      have q3 : w4.cell? ⟨w2.heap.size, 3, none⟩ = some (.int .i64 1) := hX4.cell 3
      have q4 : w4.cell? ⟨w2.heap.size, 4, none⟩ = some (.int .i64 k) := hX4.cell 4
      have q5 : w4.cell? ⟨w2.heap.size, 5, none⟩ = some (.int .i64 0) := hX4.cell 5
      have q6 : w4.cell? ⟨w2.heap.size, 6, none⟩ = some (.string ⟨#[]⟩) := hX4.cell 6
      have q7 : w4.cell? ⟨w2.heap.size, 7, none⟩ = some (.slice none 0 0) := hX4.cell 7
      have HX4 := Lib.hid hX4
      have HB5 := Lib.hid hB4
      clear hX4 hB4
      go_upto_region 7 with fail
      refine wp_world ?_
      intro W6 hW6
      have hX6 : Blk W6 w2.heap.size 43 (opsCells (opsOne k)) := by
        rw [← hW6]
        exact (((((((HX4.out.set_ 0 _).set_ 1 _).set_ 2 _).set_ 3 _).set_ 4 _).set_ 5 _).set_ 6 _).set_ 7 _
      have hB6 : Below w.heap.size w W6 := by
        rw [← hW6]
        exact (((((((HB5.out.setCell (p := ⟨w2.heap.size, 0, none⟩) hs2 _).setCell (p := ⟨w2.heap.size, 1, none⟩) hs2 _).setCell (p := ⟨w2.heap.size, 2, none⟩) hs2 _).setCell (p := ⟨w2.heap.size, 3, none⟩) hs2 _).setCell (p := ⟨w2.heap.size, 4, none⟩) hs2 _).setCell (p := ⟨w2.heap.size, 5, none⟩) hs2 _).setCell (p := ⟨w2.heap.size, 6, none⟩) hs2 _).setCell (p := ⟨w2.heap.size, 7, none⟩) hs2 _
      have HX6 := Lib.hid hX6
      have HB6 := Lib.hid hB6
      have hxl6 := hX6.lt
      clear hW6 hX6 hB6 g0 g1 g2 g3 g4 g5 g6 g7 q0 q1 q2 q3 q4 q5 q6 q7
      go_wp2_with (go_at_call 24; refine (HO.out _).mono ?_; rintro e w7 ⟨rfl, hb7⟩)
      go_meet
      exact ⟨opsOne k, _, _, rfl, rfl, HX6.out.below hb7 hxl6, HB6.out.trans (hb7.mono HB6.out.size), rfl, ops_one hk k1⟩
    · have d0 : decide (k ≥ 17) = false := decide_eq_false hk
      have d1 : decide (17 ≤ k) = false := decide_eq_false hk
      have HX4 := Lib.hid hX4
      have HB5 := Lib.hid hB4
      clear hX4 hB4
      go_wp2
      go_meet
      exact ⟨opsTwo k, _, _, rfl, rfl, HX4.out, HB5.out, rfl, ops_two k0 (by omega)⟩
  case rest =>
    obtain ⟨x, want, is, rfl, rfl, hX, hB, hxa, hOX⟩ := hcut
    have HX := Lib.hid hX
    have HB := Lib.hid hB
    have q0 : wc.cell? ⟨w2.heap.size, 0, none⟩ = some (.int .i64 x.kind) := hX.cell 0
    have q1 : wc.cell? ⟨w2.heap.size, 1, none⟩ = some (.int .i64 x.d) := hX.cell 1
    have q2 : wc.cell? ⟨w2.heap.size, 2, none⟩ = some (.int .i64 x.a) := hX.cell 2
    have q3 : wc.cell? ⟨w2.heap.size, 3, none⟩ = some (.int .i64 x.b) := hX.cell 3
    have q4 : wc.cell? ⟨w2.heap.size, 4, none⟩ = some (.int .i64 x.op) := hX.cell 4
    have q5 : wc.cell? ⟨w2.heap.size, 5, none⟩ = some (.int .i64 x.n) := hX.cell 5
    have q6 : wc.cell? ⟨w2.heap.size, 6, none⟩ = some (.string x.name) := hX.cell 6
    have q7 : wc.cell? ⟨w2.heap.size, 7, none⟩ = some (.slice none 0 0) := hX.cell 7
    have hxl := hX.lt
    have HOX := Lib.hid hOX
    have HXA := Lib.hid hxa
    clear hX hB hxa hOX
    go_upto_region 9 with fail
    refine wp_world ?_
    intro W hW
    have hO : OpsW W x a wc.heap.size (wc.heap.size + 1) (wc.heap.size + 1 + 1) := by
      rw [← hW]
      exact ⟨(((Blk.new wc _ _).alloc _).alloc _).alloc _, ((Blk.new_at _ _ _ (by simp)).alloc _).alloc _, (Blk.new_at _ _ _ (by simp)).alloc _⟩
    have hU : Blk W (wc.heap.size + 1 + 1 + 1) 29 #[.slice none 0 0, .slice (some ⟨wc.heap.size + 1 + 1, 0, none⟩) 1 1] := by rw [← hW]; exact Blk.new_at _ _ _ (by simp)
    have hB : Below w.heap.size w W := by
      have hs := HB.out.size
      rw [← hW]
      exact (((HB.out.alloc hs _).alloc (by simp; omega) _).alloc (by simp; omega) _).alloc (by simp; omega) _
    clear hW q0 q1 q2 q3 q4 q5 q6 q7
    have u0 : W.cell? ⟨wc.heap.size + 1 + 1 + 1, 0, none⟩ = some (.slice none 0 0) := hU.cell 0
    have u1 : W.cell? ⟨wc.heap.size + 1 + 1 + 1, 1, none⟩ = some (.slice (some ⟨wc.heap.size + 1 + 1, 0, none⟩) 1 1) := hU.cell 1
    have hul := hU.lt
    have hb1 : Below W.heap.size W (W.alloc (.cells #[.int .i64 b] 3)) := (Below.refl _ _).alloc (Nat.le_refl _) _
    have HIN : SlR (W.alloc (.cells #[.int .i64 b] 3)) (· < (W.alloc (.cells #[.int .i64 b] 3)).heap.size) 1 RInt (.slice (some ⟨W.heap.size, 0, none⟩) 1 1) [b] := SlR.ints [b] (Blk.new W _ _) rfl rfl (by simp) (by omega)
    have HB2 := Lib.hid hB
    have HB1 := Lib.hid hb1
    have HOW := Lib.hid (hO.below hb1)
    clear hO hU hB hb1
    cases is with
    | true =>
      have HR := Lib.hid (ops_run_t HOW.out HXA.out HOX.out (.slice (some ⟨W.heap.size, 0, none⟩) 1 1) HIN)
      clear HIN
      go_upto_region 10 with (go_at_call 20; refine HR.out.mono ?_; rintro e w5 ⟨A, c, rfl, hb5, hs5⟩)
      refine wp_world ?_
      intro W6 hW6
      have hB6 : Below w.heap.size w W6 := by
        have h1 := HB2.out.trans (HB1.out.mono HB2.out.size)
        have h2 := h1.trans (hb5.mono h1.size)
        rw [← hW6]; exact h2.alloc h2.size _
      have hR6 : Blk W6 w5.heap.size 48 #[.int .i64 5, .int .i64 want, .slice A 1 c, .int .i64 5] := by rw [← hW6]; exact Blk.new w5 _ _
      have hS6 : SlR W6 (· < W6.heap.size) 1 RInt (.slice A 1 c) [want] := by rw [← hW6]; exact hs5.imp (fun b hb => by have hb' : b < w5.heap.size := hb; simp; omega) (fun b hb => Below.heap_alloc w5 _ b hb) (fun _ _ _ r => r)
      clear hW6 hs5 u0 u1
      have r0 : W6.cell? ⟨w5.heap.size, 0, none⟩ = some (.int .i64 5) := hR6.cell 0
      have r1 : W6.cell? ⟨w5.heap.size, 1, none⟩ = some (.int .i64 want) := hR6.cell 1
      have r2 : W6.cell? ⟨w5.heap.size, 2, none⟩ = some (.slice A 1 c) := hR6.cell 2
      have r3 : W6.cell? ⟨w5.heap.size, 3, none⟩ = some (.int .i64 5) := hR6.cell 3
      have hb7 : Below W6.heap.size W6 (W6.alloc (.cells #[.int .i64 want] 3)) := (Below.refl _ _).alloc (Nat.le_refl _) _
      have HS := Lib.hid (same_true 5 want 5 [want] (.slice A 1 c) (.slice (some ⟨W6.heap.size, 0, none⟩) 1 1) (W6.alloc (.cells #[.int .i64 want] 3)) (hS6.imp (fun b hb => by have hb' : b < W6.heap.size := hb; simp; omega) (fun b hb => hb7.block b hb) (fun _ _ _ r => r)) (SlR.ints [want] (Blk.new W6 _ _) rfl rfl (by simp) (by omega)))
      have HB7 := Lib.hid hb7
      have HB6 := Lib.hid hB6
      clear hR6 hS6 hb7 hB6
      go_wp2_with (go_at_call 22; refine HS.out.mono ?_; rintro e w8 ⟨rfl, hb8⟩)
      go_ret
      have h7 := HB6.out.trans (HB7.out.mono HB6.out.size)
      exact ⟨rfl, h7.trans (hb8.mono h7.size)⟩
    | false =>
      have HR := Lib.hid (ops_run_f HOW.out HXA.out HOX.out (.slice (some ⟨W.heap.size, 0, none⟩) 1 1) HIN)
      clear HIN
      go_upto_region 10 with (go_at_call 20; refine HR.out.mono ?_; rintro e w5 ⟨A, c, rfl, hb5, hs5⟩)
      refine wp_world ?_
      intro W6 hW6
      have hB6 : Below w.heap.size w W6 := by
        have h1 := HB2.out.trans (HB1.out.mono HB2.out.size)
        have h2 := h1.trans (hb5.mono h1.size)
        rw [← hW6]; exact h2.alloc h2.size _
      have hR6 : Blk W6 w5.heap.size 48 #[.int .i64 2, .int .i64 0, .slice A 0 c, .int .i64 3] := by rw [← hW6]; exact Blk.new w5 _ _
      have hS6 : SlR W6 (· < W6.heap.size) 1 RInt (.slice A 0 c) [] := by rw [← hW6]; exact hs5.imp (fun b hb => by have hb' : b < w5.heap.size := hb; simp; omega) (fun b hb => Below.heap_alloc w5 _ b hb) (fun _ _ _ r => r)
      clear hW6 hs5 u0 u1
      have r0 : W6.cell? ⟨w5.heap.size, 0, none⟩ = some (.int .i64 2) := hR6.cell 0
      have r1 : W6.cell? ⟨w5.heap.size, 1, none⟩ = some (.int .i64 0) := hR6.cell 1
      have r2 : W6.cell? ⟨w5.heap.size, 2, none⟩ = some (.slice A 0 c) := hR6.cell 2
      have r3 : W6.cell? ⟨w5.heap.size, 3, none⟩ = some (.int .i64 3) := hR6.cell 3
      have HS := Lib.hid (same_true 2 0 3 [] (.slice A 0 c) (.slice none 0 0) W6 hS6 (SlR.nil_ _ _ _ _))
      have HB6 := Lib.hid hB6
      clear hR6 hS6 hB6
      go_wp2_with (go_at_call 22; refine HS.out.mono ?_; rintro e w8 ⟨rfl, hb8⟩)
      go_ret
      exact ⟨rfl, HB6.out.trans (hb8.mono HB6.out.size)⟩
end Go.Proofs.Ytknccacfhknnaaa
