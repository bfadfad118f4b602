/- What an instruction uses and sets are just the places that its text names: the walk of 'IrNamesSaid'. Printed by wip/gen_irnamesw.py. -/
import Derived.Test.YtnpnhdmfdhnmfaaGreatDoorFitNil
import Derived.Test.YtnpnhdmfdhnmfaaGreatDoorFitPrint
import Derived.Test.YtnpnhdmfdhnmfaaGreatDoorAw10
import Derived.Test.YtnpnhdmfdhnmfaaGreatDoorArgs
import Derived.Test.YtnpnhdmfdhnmfaaGreatDoorRegion
import Derived.Test.YtnpnhdmfdhnmfaaGreatDoorFoldKnown
import Derived.BigQuiet
namespace Go.Proofs.YtnpnhdmfdhnmfaaGreatDoor
open Go.RowKit
open Go.Deep

/-! ### plain -/
def rbN (x : LIns) : List LBlock := [⟨[x], ⟨0, 0, 0, 0⟩⟩]
theorem rbN_I {x : LIns} (hx : x.I) : ∀ b ∈ rbN x, b.I := fun b hb => by
  obtain rfl := List.mem_singleton.1 hb
  have z : I64 0 := by unfold I64; omega
  exact ⟨fun y hy => by obtain rfl := List.mem_singleton.1 hy; exact hx, ⟨z, z, z, z⟩⟩
theorem rbN_flows (x : LIns) : (fitU (rbN x)).flows = [⟨sMain, 0, 10, [⟨[fitIns x], ⟨1, 0, 0, 0⟩⟩]⟩, ⟨sF, 1, 10, [⟨[], ⟨1, 0, 0, 0⟩⟩]⟩, ⟨sG, 2, 10, [⟨[], ⟨1, 0, 0, 0⟩⟩]⟩] := rfl
theorem nil_flows : (fitU []).flows = [⟨sMain, 0, 10, [⟨[], ⟨1, 0, 0, 0⟩⟩]⟩, ⟨sF, 1, 10, [⟨[], ⟨1, 0, 0, 0⟩⟩]⟩, ⟨sG, 2, 10, [⟨[], ⟨1, 0, 0, 0⟩⟩]⟩] := rfl
/-- the two texts: a line more, ahead of the first block's end -/
theorem names_texts (x : LIns) : ∃ P R : List UInt8, unitT (fitU []) = P ++ 9 :: 106 :: R ∧ unitT (fitU (rbN x)) = P ++ 9 :: (insT (fitIns x) ++ 10 :: 9 :: 106 :: R) := by
  have ha : (fitU (rbN x)).arrays = (fitU []).arrays := rfl
  unfold unitT unitLn
  rw [rbN_flows, nil_flows, ha]
  refine ⟨ln ((fitU []).arrays.map arrT ++ [headT ⟨sMain, 0, 10, []⟩, labelT 0]), [117, 109, 112, 32] ++ bT 0 ++ [10] ++ ln (flowsLn [⟨sF, 1, 10, [⟨[], ⟨1, 0, 0, 0⟩⟩]⟩, ⟨sG, 2, 10, [⟨[], ⟨1, 0, 0, 0⟩⟩]⟩]), ?_, ?_⟩
  · rw [ln_append, ln_append]
    simp [flowsLn, ln, headT, blocksLn, bodyT, endT]
  · rw [ln_append, ln_append]
    simp [flowsLn, ln, headT, blocksLn, bodyT, endT]
/-- an instruction's text begins otherwise than an end's -/
theorem ins_first {y : LIns} (h : InsC y) : ∃ c r, insT y = c :: r ∧ c ≠ 106 := by
  cases h with
  | store a b s a0 a1 b0 b1 hs => rcases hs with rfl | rfl <;> exact ⟨_, _, rfl, by decide⟩
  | print a a0 a1 => exact ⟨_, _, rfl, by decide⟩
  | _ => exact ⟨_, _, rfl, by decide⟩
theorem at8_get {s : List UInt8} {i : Nat} (h : i < (S8 s).size) : (S8 s)[i]'h = at8 s i := by
  have h' : i < s.length := h
  show s.toArray[i]'(by simpa using h') = _
  unfold at8
  simp [List.getD, h']
theorem at8_append_left {a b : List UInt8} {i : Nat} (h : i < a.length) : at8 (a ++ b) i = at8 a i := by
  unfold at8; simp [List.getD, List.getElem?_append_left h]
theorem at8_append_right {a b : List UInt8} {i : Nat} : at8 (a ++ b) (a.length + i) = at8 b i := by
  unfold at8; simp [List.getD, List.getElem?_append_right (Nat.le_add_right _ _)]

theorem nown_keep {w w' : World} {base : Nat} {e : TypeId} {size : Nat} {v : Value} {n : Nat} {xs : List Value} (h : w.ownsRow base e size v n xs) (hk : ∀ g, v.ownBlock = some g → w'.heap[g]? = w.heap[g]?) : w'.ownsRow base e size v n xs := by
  refine ⟨h.1, ?_⟩
  rcases h.2 with hn | ⟨g, cap, cur, hv, hb, hg, rest⟩
  · exact .inl hn
  · exact .inr ⟨g, cap, cur, hv, hb, by rw [hk g (by rw [hv]; rfl)]; exact hg, rest⟩
/-! ### two rows of numbers are the same -/
set_option maxRecDepth 100000 in
set_option maxHeartbeats 4000000 in
theorem ints_true (l : List Int) (va vb : Value) (w : World) (ha : SlR w (· < w.heap.size) 1 RInt va l) (hb : SlR w (· < w.heap.size) 1 RInt vb l) :
    Calls Tryz.prog 20 #[va, vb] w fun e w' => e = .returned (.bool true) ∧ Below w.heap.size w w' := by
  obtain ⟨A1, k1, e1, h1, h1'⟩ := ha.val
  obtain ⟨A2, k2, e2, h2, h2'⟩ := hb.val
  subst e1 e2
  have HA := Lib.hid ha
  have HB := Lib.hid hb
  have n0 : ((l.length : Int) != (l.length : Int)) = false := by simp
  have hlen := Nat.le_trans h1 h1'
  unfold maxLen at hlen
  clear ha hb
  go_enter Tryz.func20, Tryz.ntmps20
  go_wp2
  go_loopw [5] (fun s wr => ∃ i : Nat, i ≤ l.length ∧ s = .int .i64 i ∧ ∃ nq, wr = w.drewN nq) (fun s _ => l.length - (RowKit.intOf s).toNat)
  case atStart => exact ⟨0, by omega, rfl, 0, rfl⟩
  case round =>
    obtain ⟨i, hi, rfl, nq, rfl⟩ := hrel
    by_cases hlt : i < l.length
    · have d0 : decide ((i : Int) < (l.length : Int)) = true := decide_eq_true (by omega)
      obtain ⟨b3, o3, c3, f3, _, _, hb3, q3⟩ := HA.out.form (by omega)
      obtain ⟨b4, o4, c4, f4, _, _, hb4, q4⟩ := HB.out.form (by omega)
      obtain rfl : A1 = some ⟨b3, o3, none⟩ := by injection f3
      obtain rfl : A2 = some ⟨b4, o4, none⟩ := by injection f4
      obtain ⟨cs3, _, r3, s3⟩ := q3 i hlt
      obtain ⟨cs4, _, r4, s4⟩ := q4 i hlt
      subst r3
      subst r4
      obtain ⟨k, hk⟩ : ∃ k, k = l[i] := ⟨_, rfl⟩
      rw [← hk] at s3 s4
      have i3 : w.cell? ⟨b3, o3 + i, none⟩ = some (.int .i64 k) := by have h := s3.at_ (j := 0) rfl; simpa using h
      have i4 : w.cell? ⟨b4, o4 + i, none⟩ = some (.int .i64 k) := by have h := s4.at_ (j := 0) rfl; simpa using h
      have b5 : (k != k) = false := by simp
      have p2 : (i : Int) < (l.length : Int) := by omega
      clear f3 f4 q3 q4 s3 s4 hk
      go_wp2
      go_quiet (fail)
      go_wp2
      go_roundw
      case rel => exact ⟨i + 1, by omega, by go_num, _, rfl⟩
      case measure => simp [RowKit.intOf]; omega
    · have d0 : decide ((i : Int) < (l.length : Int)) = false := decide_eq_false (by omega)
      go_wp2
      go_ret
      exact ⟨rfl, below_drewN (Below.refl _ _) _⟩

theorem RowB.slr {W : World} {g cap : Nat} {vi : Value} {l : List LIns} (h : RowB W g [vi, .int .i64 1, .int .i64 0, .int .i64 0, .int .i64 0]) (hc1 : 1 ≤ cap) (hc2 : cap ≤ maxLen) (hs : SlR W (· < W.heap.size) 8 (RIns W (· < W.heap.size)) vi l) :
    SlR W (· < W.heap.size) 5 (RBlock W (· < W.heap.size)) (.slice (some ⟨g, 0, none⟩) 1 cap) [⟨l, ⟨1, 0, 0, 0⟩⟩] := by
  refine ⟨some ⟨g, 0, none⟩, cap, rfl, hc1, hc2, .inr ⟨g, 0, rfl, h.lt, fun i hi => ?_⟩⟩
  have hi' : i < 1 := hi
  obtain rfl : i = 0 := by omega
  refine ⟨[vi, .int .i64 1, .int .i64 0, .int .i64 0, .int .i64 0], rfl, ⟨vi, rfl, hs⟩, fun j hj => ?_⟩
  obtain ⟨cur, h1, _, h3⟩ := h
  rw [show 0 + 0 * 5 + j = j by omega, h1.cell j, ← List.getElem?_eq_getElem hj]
  exact h3 j hj
/-- the unit with one instruction more, in memory -/
theorem names_flows {W : World} {gf cf : Nat} {y : LIns} {css : List (List Value)} {c0 c1 c2 g0 g1 g2 : Nat} (hl : gf < W.heap.size) (hcf : 3 ≤ cf) (hcm : cf ≤ maxLen) (hc : ∀ i j u, i < 3 → ((css[i]?).bind fun cs => cs[j]?) = some u → W.cell? ⟨gf, i * 4 + j, none⟩ = some u)
    (h0 : css[0]? = some [.string sMain, .int .i64 0, .int .i64 10, .slice (some ⟨g0, 0, none⟩) 1 c0]) (h1 : css[1]? = some [.string sF, .int .i64 1, .int .i64 10, .slice (some ⟨g1, 0, none⟩) 1 c1]) (h2 : css[2]? = some [.string sG, .int .i64 2, .int .i64 10, .slice (some ⟨g2, 0, none⟩) 1 c2])
    (s0 : SlR W (· < W.heap.size) 5 (RBlock W (· < W.heap.size)) (.slice (some ⟨g0, 0, none⟩) 1 c0) [⟨[y], ⟨1, 0, 0, 0⟩⟩]) (s1 : SlR W (· < W.heap.size) 5 (RBlock W (· < W.heap.size)) (.slice (some ⟨g1, 0, none⟩) 1 c1) [⟨[], ⟨1, 0, 0, 0⟩⟩]) (s2 : SlR W (· < W.heap.size) 5 (RBlock W (· < W.heap.size)) (.slice (some ⟨g2, 0, none⟩) 1 c2) [⟨[], ⟨1, 0, 0, 0⟩⟩]) :
    SlR W (· < W.heap.size) 4 (RFlow W (· < W.heap.size)) (.slice (some ⟨gf, 0, none⟩) 3 cf) [⟨sMain, 0, 10, [⟨[y], ⟨1, 0, 0, 0⟩⟩]⟩, ⟨sF, 1, 10, [⟨[], ⟨1, 0, 0, 0⟩⟩]⟩, ⟨sG, 2, 10, [⟨[], ⟨1, 0, 0, 0⟩⟩]⟩] := by
  refine ⟨some ⟨gf, 0, none⟩, cf, rfl, hcf, hcm, .inr ⟨gf, 0, rfl, hl, fun i hi => ?_⟩⟩
  have hi' : i < 3 := hi
  have cell : ∀ (cs : List Value), css[i]? = some cs → Cells W gf (0 + i * 4) cs := fun cs hcs j hj => by
    rw [show 0 + i * 4 + j = i * 4 + j by omega]
    exact hc i j _ hi' (by rw [hcs]; simp [hj])
  rcases (by omega : i = 0 ∨ i = 1 ∨ i = 2) with rfl | rfl | rfl
  · exact ⟨[.string sMain, .int .i64 0, .int .i64 10, .slice (some ⟨g0, 0, none⟩) 1 c0], rfl, ⟨_, rfl, s0⟩, cell _ h0⟩
  · exact ⟨[.string sF, .int .i64 1, .int .i64 10, .slice (some ⟨g1, 0, none⟩) 1 c1], rfl, ⟨_, rfl, s1⟩, cell _ h1⟩
  · exact ⟨[.string sG, .int .i64 2, .int .i64 10, .slice (some ⟨g2, 0, none⟩) 1 c2], rfl, ⟨_, rfl, s2⟩, cell _ h2⟩

theorem hb_slrN {α : Type} {w X : World} {sz : Nat} {R : List Value → α → Prop} {v : Value} {l : List α} (h : SlR w (· < w.heap.size) sz R v l) (hb : Below w.heap.size w X) : SlR X (· < X.heap.size) sz R v l :=
  h.imp (fun _ h => Nat.lt_of_lt_of_le h hb.size) (fun b h => hb.block b h) (fun _ _ _ r => r)
theorem insC_kind {y : LIns} (h : InsC y) : (1 ≤ y.kind ∧ y.kind ≤ 9) ∧ (hasD y.kind = true → setsL y = [y.d] ∧ 0 ≤ y.d) ∧ (hasD y.kind = false → setsL y = []) := by
  cases h <;> refine ⟨⟨by simp, by simp⟩, fun e => ?_, fun e => ?_⟩ <;> first | exact ⟨by simp [setsL], by assumption⟩ | (exfalso; revert e; simp [hasD]; done) | simp [setsL]
theorem uses_len {y : LIns} (h : InsC y) : (usesL y).length ≤ 10 := by
  cases h <;> simp [usesL, hasA, hasB]
theorem ints_news {w : World} {ok : Nat → Prop} {A : Option Addr} {n c : Nat} {l : List Int} (h : SlR w ok 1 RInt (.slice A n c) l) : l.length = 0 ∨ ∃ ad, A = some ad ∧ ∀ (j : Nat) u, (l.map (Value.int .i64))[j]? = some u → w.cell? (ad.add j) = some u := by
  obtain ⟨css, q1, q2, q3, q4⟩ := h.rows_any
  have e : css = l.map fun x => [Value.int .i64 x] := by
    refine List.ext_getElem (by simp [q1]) fun i h1 h2 => ?_
    rw [List.getElem_map]
    exact q3 i h1 (by omega)
  have e2 : css.flatten = l.map (Value.int .i64) := by
    rw [e, show (l.map fun x => [Value.int .i64 x]) = (l.map (Value.int .i64)).map fun x => [x] by rw [List.map_map]; rfl, flatten_single]
  refine q4.imp id fun ⟨b, o, ea, _, hc⟩ => ⟨_, ea, ?_⟩
  rw [e2] at hc
  exact hc.news

theorem insC_args {y : LIns} (h : InsC y) : y.args.length ≤ 2 := by
  cases h <;> simp

theorem info_int9 : (Tryz.prog.info? 3).map (fun i => (i.zero, i.size, i.bytes)) = some (some (.int .i64 0), 1, 8) := by kernel_rfl
theorem vAt_len (Z : List UInt8) : ∀ t, ((List.range t).flatMap fun t => vAt Z t).length ≤ t
  | 0 => by simp
  | t + 1 => by
    have := vAt_len Z t
    rw [List.range_succ, List.flatMap_append, List.length_append]
    have h : ([t].flatMap fun t => vAt Z t).length ≤ 1 := by
      simp only [List.flatMap_cons, List.flatMap_nil, List.append_nil]
      unfold vAt
      split <;> simp
    omega

theorem fit_n (w : World) : Calls Tryz.prog 14 #[.slice none 0 0] w fun e w' => ∃ A1 A2 c1 c2, e = .returned (.agg #[.slice A1 2 c1, .slice A2 3 c2]) ∧ Below w.heap.size w w' ∧ SlR w' (· < w'.heap.size) 2 RArr (.slice A1 2 c1) (fitU []).arrays ∧ SlR w' (· < w'.heap.size) 4 (RFlow w' (· < w'.heap.size)) (.slice A2 3 c2) (fitU []).flows := by
  refine (fit_any [] (fun b hb => by cases hb) (.slice none 0 0) w (SlR.nil_ _ _ _ _)).mono ?_
  rintro e w' ⟨va, vf, css, rfl, hb, ha, hf⟩
  have hf' : SlR w' (· < w'.heap.size) 4 (RFlow w' (· < w'.heap.size)) vf (fitU []).flows := (hf.slr mono_flow).imp (fun _ h => h.2) (Keeps.refl _ _) (fun _ _ _ r => r.imp (fun _ h => h.2) (Keeps.refl _ _))
  have ha' : SlR w' (· < w'.heap.size) 2 RArr va (fitU []).arrays := ha.imp (fun _ h => h.2) (Keeps.refl _ _) (fun _ _ _ r => r)
  obtain ⟨A1, c1, e1, _, _⟩ := ha'.val
  obtain ⟨A2, c2, e2, _, _⟩ := hf'.val
  subst e1 e2
  exact ⟨A1, A2, c1, c2, rfl, hb, ha', hf'⟩

set_option maxRecDepth 100000 in
set_option maxHeartbeats 16000000 in
theorem irNames_walk (x : LIns) (hx : x.I) (va : Value) (hva : ∃ A n c, va = .slice A n c) (w : World) (htab : TabAt w) :
    Calls Tryz.prog 4 #[.agg #[.int .i64 x.kind, .int .i64 x.d, .int .i64 x.a, .int .i64 x.b, .int .i64 x.op, .int .i64 x.n, .string x.name, va]] w fun e w' => e = .returned (.bool true) ∧ Below w.heap.size w w' := by
  obtain ⟨Av, nv, cv, rfl⟩ := hva
  have HAW := Lib.hid (awake10_any w)
  have HAW2 := Lib.hid (fun (X : World) => awake10_any X)
  obtain ⟨y, hy⟩ : ∃ y, y = fitIns x := ⟨_, rfl⟩
  have hyc : InsC y := by rw [hy]; exact fit_insC x
  have HFI := Lib.hid (fun (X : World) (bn : Nat) (hn : Names3 X bn) => fitins_lit x hx (.slice Av nv cv) bn X hn)
  unfold InsPost2 at HFI
  rw [← hy] at HFI
  have HPR := Lib.hid (fun (X : World) (A1 A2 : Option Addr) (c1 c2 : Nat) (ht : TabAt X) => print_fit (rbN x) (rbN_I hx) A1 A2 c1 c2 X ht)
  have HPN := Lib.hid (fun (X : World) (A1 A2 : Option Addr) (c1 c2 : Nat) (ht : TabAt X) => print_fit [] (fun b hb => by cases hb) A1 A2 c1 c2 X ht)
  have hfl := rbN_flows x
  rw [← hy] at hfl
  have HFL := Lib.hid hfl
  obtain ⟨P, R, hT0, hT1⟩ := names_texts x
  have hlenT := (fit_printOk (rbN x) (rbN_I hx)).len
  rw [← hy] at hT1
  rw [hT0] at HPN
  rw [hT1] at HPR hlenT
  have HLT := Lib.hid hlenT
  have HTAB := Lib.hid htab
  have HYC := Lib.hid hyc
  clear hx hy hfl hT0 hT1 htab hyc hlenT
  go_enter Tryz.func4, Tryz.ntmps4
  go_upto_region 2 with (go_at_call 13; refine (HAW2.out _).mono ?_; rintro e w1 ⟨rfl, hb1⟩)
  have hB1 : Below w.heap.size w w1 := (below1 w _).trans (hb1.mono (by simp))
  have hx1 := Blk.below (Blk.new w _ _) hb1 (by simp)
  have r0 : w1.cell? ⟨w.heap.size, 0, none⟩ = some (.int .i64 x.kind) := hx1.cell 0
  have r1 : w1.cell? ⟨w.heap.size, 1, none⟩ = some (.int .i64 x.d) := hx1.cell 1
  have r2 : w1.cell? ⟨w.heap.size, 2, none⟩ = some (.int .i64 x.a) := hx1.cell 2
  have r3 : w1.cell? ⟨w.heap.size, 3, none⟩ = some (.int .i64 x.b) := hx1.cell 3
  have r4 : w1.cell? ⟨w.heap.size, 4, none⟩ = some (.int .i64 x.op) := hx1.cell 4
  have r5 : w1.cell? ⟨w.heap.size, 5, none⟩ = some (.int .i64 x.n) := hx1.cell 5
  have r6 : w1.cell? ⟨w.heap.size, 6, none⟩ = some (.string x.name) := hx1.cell 6
  have r7 : w1.cell? ⟨w.heap.size, 7, none⟩ = some (.slice Av nv cv) := hx1.cell 7
  have HB1 := Lib.hid hB1
  clear hb1 hx1 hB1 HAW HAW2
  go_upto_region 3 with (go_at_call 17; refine (HFI.out _ w1.heap.size (Names3.of_blk (Blk.new w1 _ _))).mono ?_; rintro e w2 ⟨vy, rfl, hb2, hsy⟩; obtain ⟨Ay, cy, hvy, _, _⟩ := hsy.val; subst hvy)
  refine wp_world ?_
  intro W2 hW2
  have hB2 : Below w.heap.size w w2 := HB1.out.trans (((below1 w1 _).trans (hb2.mono (by simp))).mono HB1.out.size)
  have hBW : Below w.heap.size w W2 := by rw [← hW2]; exact hB2.alloc hB2.size _
  have h2 : Below w2.heap.size w2 W2 := by rw [← hW2]; exact below1 _ _
  have hX : Blk W2 w2.heap.size 36 #[.int .i64 y.kind, .int .i64 y.d, .int .i64 y.a, .int .i64 y.b, .int .i64 y.op, .int .i64 y.n, .string y.name, .slice Ay y.args.length cy] := by rw [← hW2]; exact Blk.new w2 _ _
  have hsy2 : SlR W2 (· < w2.heap.size) 1 RInt (.slice Ay y.args.length cy) y.args := hsy.imp (fun _ h => h.2) (fun b h => h2.block b h.2) (fun _ _ _ r => r)
  have hxl := hX.lt
  have HX := Lib.hid hX
  have HSY := Lib.hid hsy2
  have HBW := Lib.hid hBW
  clear hW2 hB2 hBW h2 hX hsy2 hsy hb2 r0 r1 r2 r3 r4 r5 r6 r7 HB1 HFI
  obtain ⟨xb, hxb⟩ : ∃ xb, xb = w2.heap.size := ⟨_, rfl⟩
  rw [← hxb] at HX HSY hxl ⊢
  clear hxb
  go_upto_region 4 with (go_at_call 14; refine (fitnil_any W2).mono ?_; rintro e w3 ⟨gf, cf, g0, g1, g2, css, rfl, hb3, harr, hown, hg01, hg12⟩)
  refine wp_world ?_
  intro W hW
  have h3 : Below w3.heap.size w3 W := by rw [← hW]; exact below1 _ _
  have hB3 : Below W2.heap.size W2 W := hb3.trans (h3.mono hb3.size)
  have hU : Blk W w3.heap.size 27 #[.slice (some ⟨W2.heap.size + 1, 0, none⟩) 2 2, .slice (some ⟨gf, 0, none⟩) 3 cf] := by rw [← hW]; exact Blk.new w3 _ _
  have hown3 := hown.below mono_flowG h3
  have harr3 := harr.below h3 harr.lt
  have hul := hU.lt
  have hgl : gf < w3.heap.size := (hown.lt gf rfl).2
  obtain ⟨cap0, hcs0, _, _, ⟨hk0, hk0', hk0''⟩, hrow0⟩ := hown.elems 0 (by rw [hown.len]; simp) (by simp)
  have hg0 : g0 < w3.heap.size := hk0'
  have hg0b : W2.heap.size + 4 ≤ g0 := hk0
  have hrowW : RowB W g0 mB := hrow0.keep (h3.block g0 hg0)
  have hgf0 : gf ≠ g0 := fun e => hk0'' (by rw [e]; rfl)
  have hfc0 : css[0]? = some [.string sMain, .int .i64 0, .int .i64 10, .slice (some ⟨g0, 0, none⟩) 1 cap0] := by
    rw [List.getElem?_eq_getElem (by rw [hown.len]; simp)]; exact congrArg some hcs0
  have HCS0 := Lib.hid hfc0
  have hxX := HX.out.below hB3 hxl
  have hxl2 := hxX.lt
  have hfl3 : ∀ X, Below W.heap.size W X → X.cell? ⟨gf, 3, none⟩ = some (.slice (some ⟨g0, 0, none⟩) 1 cap0) := fun X hX => by
    have h := (hown3.below mono_flowG hX).cell (j := 0) (i := 3) (u := .slice (some ⟨g0, 0, none⟩) 1 cap0) (by rw [hown.len]; simp) (by rw [hcs0]; rfl)
    simpa using h
  obtain ⟨ub, hub⟩ : ∃ ub, ub = w3.heap.size := ⟨_, rfl⟩
  rw [← hub] at hU hul hgl hg0 ⊢
  have hgfu : gf < W.heap.size := by omega
  have hg0u : g0 < W.heap.size := by omega
  have SO : Hid (∀ X, Below W.heap.size W X → (fun w9 => w9.cell? ⟨ub, 1, none⟩ = some (.slice (some ⟨gf, 0, none⟩) 3 cf) ∧ w9.cell? ⟨gf, 3, none⟩ = some (.slice (some ⟨g0, 0, none⟩) 1 cap0) ∧ w9.cell? ⟨g0, 0, none⟩ = some (.slice none 0 0) ∧ w9.cell? ⟨xb, 0, none⟩ = some (.int .i64 y.kind) ∧ w9.cell? ⟨xb, 1, none⟩ = some (.int .i64 y.d) ∧ w9.cell? ⟨xb, 2, none⟩ = some (.int .i64 y.a) ∧ w9.cell? ⟨xb, 3, none⟩ = some (.int .i64 y.b) ∧ w9.cell? ⟨xb, 4, none⟩ = some (.int .i64 y.op) ∧ w9.cell? ⟨xb, 5, none⟩ = some (.int .i64 y.n) ∧ w9.cell? ⟨xb, 6, none⟩ = some (.string y.name) ∧ w9.cell? ⟨xb, 7, none⟩ = some (.slice Ay y.args.length cy)) X) := Lib.hid (fun X hX => ⟨(hU.below hX hul).cell 1, hfl3 X hX, (hrowW.keep (hX.block g0 hg0u)).cell 0 (by omega) rfl, (hxX.below hX hxl2).cell 0, (hxX.below hX hxl2).cell 1, (hxX.below hX hxl2).cell 2, (hxX.below hX hxl2).cell 3, (hxX.below hX hxl2).cell 4, (hxX.below hX hxl2).cell 5, (hxX.below hX hxl2).cell 6, (hxX.below hX hxl2).cell 7⟩)
  have HFZ : Hid (∀ X, Below W.heap.size W X → X.frozen? ⟨g0, 0, none⟩ = false) := Lib.hid (fun X hX => (hrowW.keep (hX.block g0 hg0u)).frozen 0)
  obtain ⟨zi, hj0, hj1, hj2, hj3⟩ := info_parts info_ins
  have HU := Lib.hid hU
  have HROW := Lib.hid hrowW
  have HOWN := Lib.hid hown3
  have HARR := Lib.hid harr3
  have HXX := Lib.hid hxX
  have HB3 := Lib.hid hB3
  clear hub
  clear hW h3 hB3 hU hown3 harr3 hrowW hfl3 hrow0 hcs0 hfc0 hxX hown harr hb3 hk0 hk0' hk0'' HX
  go_upto_region 4 with fail
  have hz0 : Below W.heap.size W W.drew := (Below.refl _ _).drew
  refine wp_region_L (by kernel_rfl) 18 (fun w9 => w9.cell? ⟨ub, 1, none⟩ = some (.slice (some ⟨gf, 0, none⟩) 3 cf) ∧ w9.cell? ⟨gf, 3, none⟩ = some (.slice (some ⟨g0, 0, none⟩) 1 cap0) ∧ w9.cell? ⟨g0, 0, none⟩ = some (.slice none 0 0) ∧ w9.cell? ⟨xb, 0, none⟩ = some (.int .i64 y.kind) ∧ w9.cell? ⟨xb, 1, none⟩ = some (.int .i64 y.d) ∧ w9.cell? ⟨xb, 2, none⟩ = some (.int .i64 y.a) ∧ w9.cell? ⟨xb, 3, none⟩ = some (.int .i64 y.b) ∧ w9.cell? ⟨xb, 4, none⟩ = some (.int .i64 y.op) ∧ w9.cell? ⟨xb, 5, none⟩ = some (.int .i64 y.n) ∧ w9.cell? ⟨xb, 6, none⟩ = some (.string y.name) ∧ w9.cell? ⟨xb, 7, none⟩ = some (.slice Ay y.args.length cy)) (SO.out _ hz0) (fun hHeld => ?_)
  have HS0 := Lib.hid hHeld
  clear hHeld
  change wpAnyL _ _ _ _ _ 18 19 (Array.replicate 19 false) _ _
  generalize W.drew = X1 at *
  have HZ1 := Lib.hid hz0
  clear hz0
  refine takeL 0 19 (.pointer (some ⟨ub, 1, none⟩)) HS0.out rfl rfl (by kernel_rfl) (by kernel_rfl) (by kernel_rfl) (by decide) (fun _ _ _ h => h) (by kernel_rfl) ?_ ?_
  · intro w2; go_simp
  try simp only [List.setIfInBounds_toArray, List.set_cons_zero, List.set_cons_succ]
  refine takeL_S 1 20 (.slice (some ⟨gf, 0, none⟩) 3 cf) [18] HS0.out rfl rfl (by kernel_rfl) (by kernel_rfl) (by kernel_rfl) (by decide) (by kernel_rfl) (fun _ _ _ h => h) (by kernel_rfl) ?_ ?_
  · intro w2 hSw; obtain ⟨s0, s1, s2, s3, s4, s5, s6, s7, s8, s9, s10⟩ := hSw; go_simp
  try simp only [List.setIfInBounds_toArray, List.set_cons_zero, List.set_cons_succ]
  refine takeL 2 21 (.pointer (some ⟨gf, 0, none⟩)) HS0.out rfl rfl (by kernel_rfl) (by kernel_rfl) (by kernel_rfl) (by decide) (fun _ _ _ h => h) (by kernel_rfl) ?_ ?_
  · intro w2; go_simp
  try simp only [List.setIfInBounds_toArray, List.set_cons_zero, List.set_cons_succ]
  refine takeL 3 22 (.pointer (some ⟨gf, 3, none⟩)) HS0.out rfl rfl (by kernel_rfl) (by kernel_rfl) (by kernel_rfl) (by decide) (fun _ _ _ h => h) (by kernel_rfl) ?_ ?_
  · intro w2; go_simp
  try simp only [List.setIfInBounds_toArray, List.set_cons_zero, List.set_cons_succ]
  refine takeL_S 4 23 (.slice (some ⟨g0, 0, none⟩) 1 cap0) [18] HS0.out rfl rfl (by kernel_rfl) (by kernel_rfl) (by kernel_rfl) (by decide) (by kernel_rfl) (fun _ _ _ h => h) (by kernel_rfl) ?_ ?_
  · intro w2 hSw; obtain ⟨s0, s1, s2, s3, s4, s5, s6, s7, s8, s9, s10⟩ := hSw; go_simp
  try simp only [List.setIfInBounds_toArray, List.set_cons_zero, List.set_cons_succ]
  refine takeL 5 24 (.pointer (some ⟨ub, 1, none⟩)) HS0.out rfl rfl (by kernel_rfl) (by kernel_rfl) (by kernel_rfl) (by decide) (fun _ _ _ h => h) (by kernel_rfl) ?_ ?_
  · intro w2; go_simp
  try simp only [List.setIfInBounds_toArray, List.set_cons_zero, List.set_cons_succ]
  refine takeL_S 6 25 (.slice (some ⟨gf, 0, none⟩) 3 cf) [18] HS0.out rfl rfl (by kernel_rfl) (by kernel_rfl) (by kernel_rfl) (by decide) (by kernel_rfl) (fun _ _ _ h => h) (by kernel_rfl) ?_ ?_
  · intro w2 hSw; obtain ⟨s0, s1, s2, s3, s4, s5, s6, s7, s8, s9, s10⟩ := hSw; go_simp
  try simp only [List.setIfInBounds_toArray, List.set_cons_zero, List.set_cons_succ]
  refine takeL 7 26 (.pointer (some ⟨gf, 0, none⟩)) HS0.out rfl rfl (by kernel_rfl) (by kernel_rfl) (by kernel_rfl) (by decide) (fun _ _ _ h => h) (by kernel_rfl) ?_ ?_
  · intro w2; go_simp
  try simp only [List.setIfInBounds_toArray, List.set_cons_zero, List.set_cons_succ]
  refine takeL 8 27 (.pointer (some ⟨gf, 3, none⟩)) HS0.out rfl rfl (by kernel_rfl) (by kernel_rfl) (by kernel_rfl) (by decide) (fun _ _ _ h => h) (by kernel_rfl) ?_ ?_
  · intro w2; go_simp
  try simp only [List.setIfInBounds_toArray, List.set_cons_zero, List.set_cons_succ]
  refine takeL_S 9 28 (.slice (some ⟨g0, 0, none⟩) 1 cap0) [18] HS0.out rfl rfl (by kernel_rfl) (by kernel_rfl) (by kernel_rfl) (by decide) (by kernel_rfl) (fun _ _ _ h => h) (by kernel_rfl) ?_ ?_
  · intro w2 hSw; obtain ⟨s0, s1, s2, s3, s4, s5, s6, s7, s8, s9, s10⟩ := hSw; go_simp
  try simp only [List.setIfInBounds_toArray, List.set_cons_zero, List.set_cons_succ]
  refine takeL 10 29 (.pointer (some ⟨g0, 0, none⟩)) HS0.out rfl rfl (by kernel_rfl) (by kernel_rfl) (by kernel_rfl) (by decide) (fun _ _ _ h => h) (by kernel_rfl) ?_ ?_
  · intro w2; go_simp
  try simp only [List.setIfInBounds_toArray, List.set_cons_zero, List.set_cons_succ]
  refine takeL 11 30 (.pointer (some ⟨g0, 0, none⟩)) HS0.out rfl rfl (by kernel_rfl) (by kernel_rfl) (by kernel_rfl) (by decide) (fun _ _ _ h => h) (by kernel_rfl) ?_ ?_
  · intro w2; go_simp
  try simp only [List.setIfInBounds_toArray, List.set_cons_zero, List.set_cons_succ]
  refine takeL_S 12 31 (.slice none 0 0) [18] HS0.out rfl rfl (by kernel_rfl) (by kernel_rfl) (by kernel_rfl) (by decide) (by kernel_rfl) (fun _ _ _ h => h) (by kernel_rfl) ?_ ?_
  · intro w2 hSw; obtain ⟨s0, s1, s2, s3, s4, s5, s6, s7, s8, s9, s10⟩ := hSw; go_simp
  try simp only [List.setIfInBounds_toArray, List.set_cons_zero, List.set_cons_succ]
  refine takeL_S 13 32 (.agg #[.int .i64 y.kind, .int .i64 y.d, .int .i64 y.a, .int .i64 y.b, .int .i64 y.op, .int .i64 y.n, .string y.name, .slice Ay y.args.length cy]) [18] HS0.out rfl rfl (by kernel_rfl) (by kernel_rfl) (by kernel_rfl) (by decide) (by kernel_rfl) (fun _ _ _ h => h) (by kernel_rfl) ?_ ?_
  · intro w2 hSw; obtain ⟨s0, s1, s2, s3, s4, s5, s6, s7, s8, s9, s10⟩ := hSw; go_simp
  try simp only [List.setIfInBounds_toArray, List.set_cons_zero, List.set_cons_succ]
  refine wpAnyL_ready (rs := [14]) (by kernel_rfl) (by simp) ?_
  refine AllReadyL.cons rfl (fun K hK => ?_) AllReadyL.nil
  go_simp
  refine hK.out _ _ (SO.out _ (HZ1.out.alloc HZ1.out.size _)) (fun hHeld => ?_)
  have HS1 := Lib.hid hHeld
  clear hK K hHeld
  try simp only [List.setIfInBounds_toArray, List.set_cons_zero, List.set_cons_succ]
  have hz2 : Below W.heap.size W (X1.alloc (.cells #[.int .i64 y.kind, .int .i64 y.d, .int .i64 y.a, .int .i64 y.b, .int .i64 y.op, .int .i64 y.n, .string y.name, .slice Ay y.args.length cy] 36)) := HZ1.out.alloc HZ1.out.size _
  have hn2 : Blk (X1.alloc (.cells #[.int .i64 y.kind, .int .i64 y.d, .int .i64 y.a, .int .i64 y.b, .int .i64 y.op, .int .i64 y.n, .string y.name, .slice Ay y.args.length cy] 36)) X1.heap.size 36 #[.int .i64 y.kind, .int .i64 y.d, .int .i64 y.a, .int .i64 y.b, .int .i64 y.op, .int .i64 y.n, .string y.name, .slice Ay y.args.length cy] := Blk.new X1 _ _
  generalize (X1.alloc (.cells #[.int .i64 y.kind, .int .i64 y.d, .int .i64 y.a, .int .i64 y.b, .int .i64 y.op, .int .i64 y.n, .string y.name, .slice Ay y.args.length cy] 36)) = X2 at *
  have HZ2 := Lib.hid hz2
  have HN2 := Lib.hid hn2
  clear hz2 hn2
  refine wpAnyL_ready (rs := [15]) (by kernel_rfl) (by simp) ?_
  refine AllReadyL.cons rfl (fun K hK => ?_) AllReadyL.nil
  refine step_append_lies _ (by rfl) _ _ _ (by rfl) W.heap.size 36 zi _ 8 88 Tryz.underlying39 hj0 hj1 hj2 hj3 rfl (by omega) (.slice none 0 0) 0 [] (by rfl) (World.ownsRow_nil _ _ _ _) ⟨X1.heap.size, 0, none⟩ 1 1 [.int .i64 y.kind, .int .i64 y.d, .int .i64 y.a, .int .i64 y.b, .int .i64 y.op, .int .i64 y.n, .string y.name, .slice Ay y.args.length cy] (by rfl) (by rfl) (World.news_of_block HN2.out) (by simp [Value.oneCell']) (by omega) (by unfold maxLen; omega) (by omega) HZ2.out.size X2.heap.size rfl ?_
  intro gp cp X3 hown3 hgrow3 hat3 hlt3
  have HW3 := Lib.hid hown3
  have HG3 := Lib.hid hgrow3
  have HA3 := Lib.hid hat3
  have HL3 := Lib.hid hlt3
  have hz3 : Below W.heap.size W X3 := HZ2.out.grown hgrow3 HZ2.out.size (fun b e => by simp [Value.ownBlock] at e)
  have HZ3 := Lib.hid hz3
  clear hown3 hgrow3 hat3 hlt3 hz3
  refine hK.out _ _ (SO.out _ HZ3.out) (fun hHeld => ?_)
  have HS2 := Lib.hid hHeld
  clear hK K hHeld
  try simp only [List.setIfInBounds_toArray, List.set_cons_zero, List.set_cons_succ]
  refine takeL 16 35 (.pointer (some ⟨g0, 0, none⟩)) HS2.out rfl rfl (by kernel_rfl) (by kernel_rfl) (by kernel_rfl) (by decide) (fun _ _ _ h => h) (by kernel_rfl) ?_ ?_
  · intro w2; go_simp
  try simp only [List.setIfInBounds_toArray, List.set_cons_zero, List.set_cons_succ]
  refine takeL 17 36 (.pointer (some ⟨g0, 0, none⟩)) HS2.out rfl rfl (by kernel_rfl) (by kernel_rfl) (by kernel_rfl) (by decide) (fun _ _ _ h => h) (by kernel_rfl) ?_ ?_
  · intro w2; go_simp
  try simp only [List.setIfInBounds_toArray, List.set_cons_zero, List.set_cons_succ]
  have vz0 : X3.cell? ⟨g0, 0, none⟩ = some (.slice none 0 0) := (SO.out _ HZ3.out).2.2.1
  have vz1 := HFZ.out X3 HZ3.out
  refine wpAnyL_ready (rs := [18]) (by kernel_rfl) (by simp) ?_
  refine AllReadyL.last rfl (by kernel_rfl) (fun K hK => ?_)
  go_simp
  refine hK.out _ _ ?_
  clear hK K
  try simp only [List.setIfInBounds_toArray, List.set_cons_zero, List.set_cons_succ]
  refine wpAnyL_done (by kernel_rfl) ?_ _
  go_upto_region 5 with fail
  refine wp_world ?_
  intro W5 hW5
  have hne : ∀ (b : Nat), b ≠ g0 → b ≠ (⟨g0, 0, none⟩ : Addr).block := fun _ h => h
  have hk5 : Keeps (fun b => b ≠ g0) X3 W5 := by rw [← hW5]; exact (Keeps.refl _ _).set hne _
  have hs5 : W5.heap.size = X3.heap.size := by rw [← hW5]; simp [World.setCell]
  have hsz3 : W.heap.size ≤ X3.heap.size := HZ3.out.size
  have hrow5 : RowB W5 g0 [.slice (some ⟨gp, 0, none⟩) 1 cp, .int .i64 1, .int .i64 0, .int .i64 0, .int .i64 0] := by
    rw [← hW5]
    exact (HROW.out.keep (HZ3.out.block g0 hg0u)).set_ rfl 0 (by omega) _
  have hgpW : W.heap.size ≤ gp := (HW3.out.lt gp rfl).1
  have hb35 : ∀ b, b < W.heap.size → b ≠ g0 → W5.heap[b]? = W.heap[b]? := fun b hb h => (hk5 b h).trans (HZ3.out.block b hb)
  have hown5 : W5.ownsRow W.heap.size 36 8 (.slice (some ⟨gp, 0, none⟩) 1 cp) 1 (insCells y (.slice Ay y.args.length cy)) := by
    have h := HW3.out
    rw [Nat.zero_add, List.nil_append] at h
    refine nown_keep h fun k e => ?_
    have e' : gp = k := by simpa [Value.ownBlock] using e
    exact hk5 k (by omega)
  have hargs5 : SlR W5 (· < W5.heap.size) 1 RInt (.slice Ay y.args.length cy) y.args := HSY.out.imp (fun b hb => by have := HB3.out.size; have hb' : b < xb := hb; rw [hs5]; omega) (fun b hb => by
    have hb' : b < xb := hb
    have := HB3.out.size
    exact (hb35 b (by omega) (by omega)).trans (HB3.out.block b (by omega))) (fun _ _ _ r => r)
  have hins5 : SlR W5 (· < W5.heap.size) 8 (RIns W5 (· < W5.heap.size)) (.slice (some ⟨gp, 0, none⟩) 1 cp) [y] :=
    SlR.of_own (css := [insCells y (.slice Ay y.args.length cy)]) (by simpa using hown5) rfl rfl (fun cs hc => by obtain rfl := List.mem_singleton.1 hc; rfl) (fun i h1 h2 => by
      have h2' : i < 1 := h2
      obtain rfl : i = 0 := by omega
      exact ⟨_, rfl, hargs5⟩) (fun k e => by
      have e' : gp = k := by simpa [Value.ownBlock] using e
      rw [hs5, ← e']; exact (HL3.out))
  obtain ⟨c0', e0', k00, k01, _, _⟩ := HOWN.out.elems 0 (by rw [HOWN.out.len]; simp) (by simp)
  obtain ⟨c1', e1', k10, k11, k12, k13⟩ := HOWN.out.elems 1 (by rw [HOWN.out.len]; simp) (by simp)
  obtain ⟨c2', e2', k20, k21, k22, k23⟩ := HOWN.out.elems 2 (by rw [HOWN.out.len]; simp) (by simp)
  have hr1 : RowB W5 g1 mB := k13.keep (hb35 g1 k12.2.1 (by omega))
  have hr2 : RowB W5 g2 mB := k23.keep (hb35 g2 k22.2.1 (by omega))
  have hfl5 : SlR W5 (· < W5.heap.size) 4 (RFlow W5 (· < W5.heap.size)) (.slice (some ⟨gf, 0, none⟩) 3 cf) (fitU (rbN x)).flows := by
    rw [HFL.out]
    refine names_flows (c0 := c0') (c1 := c1') (c2 := c2') (css := css) (by rw [hs5]; omega) ?_ ?_ (fun i j u hi hu => ?_) ?_ ?_ ?_ (RowB.slr hrow5 k00 k01 hins5) (RowB.slr hr1 k10 k11 (SlR.nil_ _ _ _ _)) (RowB.slr hr2 k20 k21 (SlR.nil_ _ _ _ _))
    · rcases HOWN.out.row.2 with ⟨_, h0⟩ | ⟨g, cap, cur, hv, _, _, h1, _⟩
      · simp at h0
      · injection hv with _ _ hc; rw [hc]; exact h1
    · rcases HOWN.out.row.2 with ⟨_, h0⟩ | ⟨g, cap, cur, hv, _, _, _, h1, _⟩
      · simp at h0
      · injection hv with _ _ hc; rw [hc]; exact h1
    · have hil : i < css.length := by rw [HOWN.out.len]; exact hi
      rw [List.getElem?_eq_getElem hil] at hu
      have h := HOWN.out.cell hil (show (css[i])[j]? = some u from hu)
      exact (World.cell?_of_block (w := W) (w' := W5) (a := ⟨gf, i * 4 + j, none⟩) (hb35 gf hgfu hgf0)).trans h
    · rw [List.getElem?_eq_getElem (by rw [HOWN.out.len]; simp)]; exact congrArg some e0'
    · rw [List.getElem?_eq_getElem (by rw [HOWN.out.len]; simp)]; exact congrArg some e1'
    · rw [List.getElem?_eq_getElem (by rw [HOWN.out.len]; simp)]; exact congrArg some e2'
  have harr5 : SlR W5 (· < W5.heap.size) 2 RArr (.slice (some ⟨W2.heap.size + 1, 0, none⟩) 2 2) (fitU (rbN x)).arrays := by
    have h : Blk W5 (W2.heap.size + 1) 70 #[.string sA, .int .i64 4, .string sB, .int .i64 10] := HARR.out.keep (hb35 _ HARR.out.lt (by omega))
    exact SlR.lit [[.string sA, .int .i64 4], [.string sB, .int .i64 10]] h rfl ⟨⟨rfl, rfl⟩, ⟨rfl, rfl⟩, trivial⟩ rfl h.lt (by show 2 ≤ 1000; omega)
  have hb5 : Below w.heap.size w W5 := by
    have h0 := HBW.out
    have h1 := HBW.out.size
    have h2 := h0.trans (HB3.out.mono h1)
    have h3 := h2.trans (HZ3.out.mono h2.size)
    rw [← hW5]
    exact h3.setCell (by show w.heap.size ≤ g0; omega) _
  have htab5 : TabAt W5 := HTAB.out.below hb5
  have hpr := HPR.out W5 (some ⟨W2.heap.size + 1, 0, none⟩) (some ⟨gf, 0, none⟩) 2 cf htab5 harr5 hfl5
  have hU5 : Blk W5 ub 27 #[.slice (some ⟨W2.heap.size + 1, 0, none⟩) 2 2, .slice (some ⟨gf, 0, none⟩) 3 cf] := HU.out.keep (hb35 ub hul (by omega))
  have hx5 := HXX.out.keep (hb35 xb hxl2 (by omega))
  have u0 : W5.cell? ⟨ub, 0, none⟩ = some (.slice (some ⟨W2.heap.size + 1, 0, none⟩) 2 2) := hU5.cell 0
  have u1 : W5.cell? ⟨ub, 1, none⟩ = some (.slice (some ⟨gf, 0, none⟩) 3 cf) := hU5.cell 1
  have HPR5 : Hid (Calls Tryz.prog 15 #[.agg #[.slice (some ⟨W2.heap.size + 1, 0, none⟩) 2 2, .slice (some ⟨gf, 0, none⟩) 3 cf]] W5 fun e w' => e = .returned (.tuple #[.string (S8 (P ++ 9 :: (insT y ++ 10 :: 9 :: 106 :: R))), .int .i64 0]) ∧ Below W5.heap.size W5 w') := Lib.hid hpr
  have HX5 := Lib.hid hx5
  have HARG5 := Lib.hid hargs5
  have HB5 := Lib.hid hb5
  have hxl5 := hx5.lt
  have hs5' : W5.heap.size = X3.heap.size := hs5
  clear hs5 hs5' hk5 hb35 hown5 hargs5 hins5 hr1 hr2 hfl5 harr5 hb5 htab5 hpr hU5 hx5 hrow5 hne k13 k23 e0' e1' e2' k12 k22 hW5 HPR
  obtain ⟨T1, hT1⟩ : ∃ T1, T1 = P ++ 9 :: (insT y ++ 10 :: 9 :: 106 :: R) := ⟨_, rfl⟩
  obtain ⟨T0, hT0⟩ : ∃ T0, T0 = P ++ 9 :: 106 :: R := ⟨_, rfl⟩
  rw [← hT1] at HPR5
  rw [← hT0] at HPN
  have HT1 := Lib.hid hT1
  have HT0 := Lib.hid hT0
  clear hT1 hT0
  go_upto_region 6 with (go_at_call 15; refine HPR5.out.mono ?_; rintro e w6 ⟨rfl, hb6⟩)
  have HB6 := Lib.hid hb6
  have HB56 := Lib.hid (HB5.out.trans (hb6.mono HB5.out.size))
  have HFN := Lib.hid (fun (X : World) => fit_n X)
  clear u0 u1 hb6 HPR5
  go_upto_region 7 with (first | (go_at_call 14; refine (HFN.out w6).mono ?_; rintro e w7 ⟨A1, A2, c1, c2, rfl, hb7, hna, hnf⟩; have htb := HTAB.out.below (HB56.out.trans (hb7.mono HB56.out.size))) | (go_at_call 15; refine (HPN.out w7 A1 A2 c1 c2 htb hna hnf).mono ?_; rintro e w8 ⟨rfl, hb8⟩))
  have hb58 : Below W5.heap.size W5 w8 := HB6.out.trans ((hb7.trans (hb8.mono hb7.size)).mono HB6.out.size)
  have HB58 := Lib.hid hb58
  clear hb7 hb8 hna hnf htb hb58 HB6 HB56 HFN HPN
  obtain ⟨s1, hs1⟩ : ∃ s1, s1 = S8 T1 := ⟨_, rfl⟩
  obtain ⟨s0, hs0⟩ : ∃ s0, s0 = S8 T0 := ⟨_, rfl⟩
  obtain ⟨p, hp⟩ : ∃ p, p = P.length := ⟨_, rfl⟩
  obtain ⟨D, hD⟩ : ∃ D, D = (insT y).length + 2 := ⟨_, rfl⟩
  have hbig : s1.size ≤ 1000000000 := by rw [hs1, S8_size, HT1.out]; exact HLT.out
  have hn0 : s0.size = p + 2 + R.length := by rw [hs0, S8_size, HT0.out, hp]; simp; omega
  have hn1 : s1.size = p + 2 + R.length + D := by rw [hs1, S8_size, HT1.out, hp, hD]; simp; omega
  have hget1 : ∀ i (h : i < s1.size), s1[i]'h = at8 T1 i := by subst hs1; exact fun i h => at8_get h
  have hget0 : ∀ i (h : i < s0.size), s0[i]'h = at8 T0 i := by subst hs0; exact fun i h => at8_get h
  obtain ⟨fc, fr, hfi, hfne⟩ := ins_first HYC.out
  have hsame : ∀ i, i ≤ p → at8 T0 i = at8 T1 i := fun i hi => by
    rw [HT0.out, HT1.out]
    by_cases h : i < P.length
    · rw [at8_append_left h, at8_append_left h]
    · obtain rfl : i = P.length + 0 := by omega
      rw [at8_append_right, at8_append_right]; rfl
  have hd0 : at8 T0 (p + 1) = 106 := by rw [HT0.out, hp, at8_append_right]; rfl
  have hd1 : at8 T1 (p + 1) = fc := by rw [HT1.out, hp, at8_append_right, hfi]; rfl
  rw [← hs1, ← hs0]
  have hDpos : 2 ≤ D := by omega
  have hl0 : p + 2 ≤ s0.size := by omega
  have hl1 : s1.size = s0.size + D := by omega
  have HL1 := Lib.hid hl1
  have HG1 := Lib.hid hget1
  have HG0 := Lib.hid hget0
  have HSA := Lib.hid hsame
  have HD0 := Lib.hid hd0
  have HD1 := Lib.hid hd1
  have HPD := Lib.hid (And.intro hp hD)
  have hlt01 : s0.size < s1.size := by omega
  have hle01 : decide ((s1.size : Int) ≤ (s0.size : Int)) = false := decide_eq_false (by omega)
  have hnle : ¬ s1.size ≤ s0.size := by omega
  clear hs1 hs0 hp hD hn0 hn1 hget1 hget0 hsame hd0 hd1 hfi hl1
  go_upto_region 10 with fail
  go_loopw [10] (fun s wr => ∃ i : Nat, i ≤ p + 1 ∧ s = .int .i64 i ∧ ∃ nq, wr = w8.drewN nq) (fun s _ => p + 1 - (intOf s).toNat)
  case atStart => exact ⟨0, by omega, rfl, 0, rfl⟩
  case round =>
    obtain ⟨i, hi, rfl, nq, rfl⟩ := hrel
    have hi0 : i < s0.size := by omega
    have hi1 : i < s1.size := by omega
    have b0 : (i : Int) < (s0.size : Int) := by omega
    have b1 : (i : Int) < (s1.size : Int) := by omega
    have d0 : decide ((i : Int) < (s0.size : Int)) = true := decide_eq_true b0
    by_cases hlt : i < p + 1
    · obtain ⟨c, hc⟩ : ∃ c, c = at8 T0 i := ⟨_, rfl⟩
      have g0' : ∀ h : i < s0.size, s0[i]'h = c := fun h => by rw [HG0.out i h, hc]
      have g1' : ∀ h : i < s1.size, s1[i]'h = c := fun h => by rw [HG1.out i h, hc, HSA.out i (by omega)]
      have ec : ((c.toNat : Int) == (c.toNat : Int)) = true := by simp
      clear hc
      go_upto_region 10 with fail
      go_quiet (fail)
      go_wp2
      go_roundw
      case rel => exact ⟨i + 1, by omega, by go_num, _, rfl⟩
      case measure => simp [intOf]; omega
    · have hip : i = p + 1 := by omega
      have hd0 := HD0.out
      have hd1 := HD1.out
      rw [← hip] at hd0 hd1
      have g0' : ∀ h : i < s0.size, s0[i]'h = 106 := fun h => by rw [HG0.out _ h, hd0]
      have g1' : ∀ h : i < s1.size, s1[i]'h = fc := fun h => by rw [HG1.out _ h, hd1]
      have ec : ((fc.toNat : Int) == 106) = false := by
        rw [beq_eq_false_iff_ne]
        intro e
        exact hfne (UInt8.toNat_inj.1 (by show fc.toNat = 106; omega))
      have HIP := Lib.hid hip
      clear hip hd0 hd1
      go_upto_region 10 with fail
      go_quiet (fail)
      go_upto_region 14 with fail
      refine wp_world ?_
      intro W9 hW9
      have hb9 : Below W5.heap.size W5 W9 := by rw [← hW9]; exact below_drewN (below_drewN HB58.out _) _
      obtain ⟨Z, hZ⟩ : ∃ Z, Z = insT y ++ 10 :: 9 :: 106 :: R := ⟨_, rfl⟩
      have hzt : ∀ t, at8 T1 (i + t) = at8 Z t := fun t => by
        have e : i + t = P.length + (t + 1) := by have := HIP.out; have := HPD.out.1; omega
        rw [e, HT1.out, at8_append_right, hZ]; rfl
      have hgot : ((List.range D).flatMap fun t => vAt Z t) = setsL y ++ usesL y := by
        rw [← scan_ins HYC.out, hZ, HPD.out.2]
        have h := scan_range (insT y ++ [10, 9]) 106 R
        have e1 : (insT y ++ [10, 9]).length = (insT y).length + 2 := by simp
        have e2 : insT y ++ [10, 9] ++ 106 :: R = insT y ++ 10 :: 9 :: 106 :: R := by simp
        have e3 : insT y ++ [10, 9] ++ [106] = insT y ++ [10, 9, 106] := by simp
        rw [e1, e2, e3] at h
        exact h
      have HZT := Lib.hid hzt
      have HGOT := Lib.hid hgot
      have HB9 := Lib.hid hb9
      have hib : i ≤ 1000000000 := by omega
      clear hW9 hb9 hZ hzt hgot g0' g1' ec hi0 hi1 b0 b1 d0 hlt
      go_loopw [11, 12] (fun v s wr => ∃ t q : Nat, t ≤ D ∧ q = i + t ∧ s = .int .i64 q ∧ Below W9.heap.size W9 wr ∧ wr.ownsRow W9.heap.size 3 1 v ((List.range t).flatMap fun t => vAt Z t).length (((List.range t).flatMap fun t => vAt Z t).map (Value.int .i64)) ∧ (∀ k, v.ownBlock = some k → k < wr.heap.size)) (fun _ s _ => i + D - (intOf s).toNat)
      case atStart => exact ⟨0, i, by omega, rfl, rfl, Below.refl _ _, World.ownsRow_nil _ _ _ _, fun k e => by cases e⟩
      case round =>
        obtain ⟨t, q, ht, hq, rfl, hbr, hown, hvl⟩ := hrel
        have HQ := Lib.hid hq
        have HBR := Lib.hid hbr
        have HOWN2 := Lib.hid hown
        have hgl2 : ((List.range t).flatMap fun t => vAt Z t).length ≤ t := vAt_len Z t
        have hl1 := HL1.out
        by_cases hlt : t < D
        · have hqs : q < s1.size := by omega
          have hqs1 : q + 1 < s1.size := by have := HIP.out; omega
          have b1 : (q : Int) < (i : Int) + (s1.size : Int) - (s0.size : Int) := by omega
          have b2 : decide ((q : Int) < (i : Int) + (s1.size : Int) - (s0.size : Int)) = true := decide_eq_true b1
          have b3 : (q : Int) < (s1.size : Int) := by omega
          have b4 : (q : Int) + 1 < (s1.size : Int) := by omega
          obtain ⟨c, hc⟩ : ∃ c, c = at8 Z t := ⟨_, rfl⟩
          obtain ⟨d, hd⟩ : ∃ d, d = at8 Z (t + 1) := ⟨_, rfl⟩
          have g1 : ∀ h : q < s1.size, s1[q]'h = c := fun h => by rw [HG1.out _ h, HQ.out, HZT.out, hc]
          have g2 : ∀ h : q + 1 < s1.size, s1[q + 1]'h = d := fun h => by rw [HG1.out _ h, HQ.out, show i + t + 1 = i + (t + 1) by omega, HZT.out, hd]
          have hstep : ((List.range (t + 1)).flatMap fun t => vAt Z t) = ((List.range t).flatMap fun t => vAt Z t) ++ (if c = 118 ∧ 48 ≤ d ∧ d ≤ 57 then [dgt d] else []) := by
            rw [List.range_succ, List.flatMap_append, hc, hd]; simp [vAt]
          have HST := Lib.hid hstep
          have hgl9 : ((List.range t).flatMap fun t => vAt Z t).length ≤ 1000000000 := by omega
          clear hc hd hstep hl1 hq
          generalize ((List.range t).flatMap fun t => vAt Z t) = gl at *
          obtain ⟨Ag, cg, hvg⟩ := own_form hown
          subst hvg
          clear hown hbr
          by_cases hc : c.toNat = 118
          · have e1 : ((c.toNat : Int) == 118) = true := by rw [beq_iff_eq]; omega
            by_cases hd1 : 48 ≤ d.toNat
            · have e2 : decide ((48 : Int) ≤ (d.toNat : Int)) = true := decide_eq_true (by omega)
              have e2' : (48 : Int) ≤ (d.toNat : Int) := by omega
              by_cases hd2 : d.toNat ≤ 57
              · have e3 : decide ((d.toNat : Int) ≤ 57) = true := decide_eq_true (by omega)
                have e3' : (d.toNat : Int) ≤ 57 := by omega
                obtain ⟨z0, hi0, hz0, hz1, hz2⟩ := info_parts info_int9
                go_wp2_with (at_builtin; refine wpList_append_lies _ rfl _ _ _ rfl W9.heap.size 3 z0 _ 1 8 Tryz.underlying34 hi0 hz0 hz1 hz2 rfl (by decide) (.slice Ag gl.length cg) gl.length (gl.map (Value.int .i64)) rfl (HOWN2.out.alloc _) ⟨wr.heap.size, 0, none⟩ 1 1 [.int .i64 ((d.toNat : Int) - 48)] rfl rfl (World.news_of_block (Blk.new wr _ _)) (by simp [Value.oneCell']) (by decide) (by unfold maxLen; omega) (by omega) (by have := HBR.out.size; simp; omega) (wr.heap.size + 1) (by simp) ?_; intro g cap w5 hown5 hgrow hat hlt5)
                go_roundw
                case rel =>
                  have hst := HST.out
                  rw [if_pos ⟨UInt8.toNat_inj.1 hc, UInt8.le_iff_toNat_le.2 hd1, UInt8.le_iff_toNat_le.2 hd2⟩] at hst
                  have hgs : W9.heap.size ≤ wr.heap.size := HBR.out.size
                  refine ⟨t + 1, q + 1, by omega, by have := HQ.out; omega, by go_num, ?_, ?_, fun k e => ?_⟩
                  · exact (HBR.out.trans ((below1 wr _).mono hgs)).grown hgrow (by simp; omega) (fun b e => (HOWN2.out.lt b e).1)
                  · rw [hst]; simpa [dgt] using hown5
                  · have e' : g = k := by simpa [Value.ownBlock] using e
                    omega
                case measure => have hq9 := HQ.out; simp [intOf]; omega
              · have e3 : decide ((d.toNat : Int) ≤ 57) = false := decide_eq_false (by omega)
                have e3' : ¬ (d.toNat : Int) ≤ 57 := by omega
                go_wp2_with fail
                go_roundw
                case rel =>
                  have hst := HST.out
                  rw [if_neg (by rintro ⟨_, _, h⟩; exact hd2 (UInt8.le_iff_toNat_le.1 h)), List.append_nil] at hst
                  exact ⟨t + 1, q + 1, by omega, by have := HQ.out; omega, by go_num, HBR.out, by rw [hst]; exact HOWN2.out, hvl⟩
                case measure => have hq9 := HQ.out; simp [intOf]; omega
            · have e2 : decide ((48 : Int) ≤ (d.toNat : Int)) = false := decide_eq_false (by omega)
              have e2' : ¬ (48 : Int) ≤ (d.toNat : Int) := by omega
              go_wp2_with fail
              go_roundw
              case rel =>
                have hst := HST.out
                rw [if_neg (by rintro ⟨_, h, _⟩; exact hd1 (UInt8.le_iff_toNat_le.1 h)), List.append_nil] at hst
                exact ⟨t + 1, q + 1, by omega, by have := HQ.out; omega, by go_num, HBR.out, by rw [hst]; exact HOWN2.out, hvl⟩
              case measure => have hq9 := HQ.out; simp [intOf]; omega
          · have e1 : ((c.toNat : Int) == 118) = false := by rw [beq_eq_false_iff_ne]; omega
            go_wp2_with fail
            go_roundw
            case rel =>
              have hst := HST.out
              rw [if_neg (by rintro ⟨h, _⟩; exact hc (by rw [h]; rfl)), List.append_nil] at hst
              exact ⟨t + 1, q + 1, by omega, by have := HQ.out; omega, by go_num, HBR.out, by rw [hst]; exact HOWN2.out, hvl⟩
            case measure => have hq9 := HQ.out; simp [intOf]; omega
        · have htd : t = D := by omega
          rw [htd] at hown
          rw [HGOT.out] at hown
          obtain ⟨gl, hgl⟩ : ∃ gl, gl = setsL y ++ usesL y := ⟨_, rfl⟩
          rw [← hgl] at hown
          have HGL := Lib.hid hgl
          have hne1 : ¬ (q : Int) < (i : Int) + (s1.size : Int) - (s0.size : Int) := by omega
          have hne2 : decide ((q : Int) < (i : Int) + (s1.size : Int) - (s0.size : Int)) = false := decide_eq_false hne1
          obtain ⟨Ag, cg, hvg⟩ := own_form hown
          subst hvg
          have hgsl : SlR wr (· < wr.heap.size) 1 RInt (.slice Ag gl.length cg) gl := ints_of_own hown (fun g e => hvl g e)
          have hB5r : Below W5.heap.size W5 wr := HB9.out.trans (hbr.mono HB9.out.size)
          have hxr := HX5.out.below hB5r hxl5
          have hargr := hb_slrN HARG5.out hB5r
          have hky := insC_kind HYC.out
          have hky9 := insC_args HYC.out
          have HSETS := Lib.hid (fun (X : World) => sets_ir y (.slice Ay y.args.length cy) ⟨_, _, _, rfl⟩ X hky.1)
          have HUSES := Lib.hid (fun (X : World) (hX : Below wr.heap.size wr X) => uses_any y (.slice Ay y.args.length cy) X (hb_slrN hargr hX) (by omega))
          have hBr : Below w.heap.size w wr := HB5.out.trans (hB5r.mono HB5.out.size)
          have HBr := Lib.hid hBr
          have HXR := Lib.hid hxr
          have hxrl := hxr.lt
          have HGS := Lib.hid hgsl
          have HKY := Lib.hid hky
          have cellsX : ∀ X, Below wr.heap.size wr X → X.cell? ⟨xb, 0, none⟩ = some (.int .i64 y.kind) ∧ X.cell? ⟨xb, 1, none⟩ = some (.int .i64 y.d) ∧ X.cell? ⟨xb, 2, none⟩ = some (.int .i64 y.a) ∧ X.cell? ⟨xb, 3, none⟩ = some (.int .i64 y.b) ∧ X.cell? ⟨xb, 4, none⟩ = some (.int .i64 y.op) ∧ X.cell? ⟨xb, 5, none⟩ = some (.int .i64 y.n) ∧ X.cell? ⟨xb, 6, none⟩ = some (.string y.name) ∧ X.cell? ⟨xb, 7, none⟩ = some (.slice Ay y.args.length cy) := fun X hX =>
            ⟨(HXR.out.below hX hxrl).cell 0, (HXR.out.below hX hxrl).cell 1, (HXR.out.below hX hxrl).cell 2, (HXR.out.below hX hxrl).cell 3, (HXR.out.below hX hxrl).cell 4, (HXR.out.below hX hxrl).cell 5, (HXR.out.below hX hxrl).cell 6, (HXR.out.below hX hxrl).cell 7⟩
          have HCX := Lib.hid cellsX
          obtain ⟨a0, a1, a2, a3, a4, a5, a6, a7⟩ := cellsX wr (Below.refl _ _)
          clear hown hgsl hB5r hxr hargr hBr cellsX hbr hvl htd hgl2 hl1 hky hq hgl
          by_cases hDk : hasD y.kind = true
          · obtain ⟨hsl1, hyd⟩ := HKY.out.2.1 hDk
            rw [hDk, if_pos rfl] at HSETS
            have e9 : decide ((0 : Int) ≤ y.d) = true := decide_eq_true hyd
            obtain ⟨zi, hj0', hj1', hj2', hj3'⟩ := info_parts info_int9
            go_upto_region 20 with (go_at_call 18; refine (HSETS.out _).mono ?_; rintro e w20 ⟨rfl, hb20⟩)
            obtain ⟨a0, a1, a2, a3, a4, a5, a6, a7⟩ := HCX.out w20 hb20
            go_upto_region 21 with (first | (go_at_call 18; refine (HSETS.out _).mono ?_; rintro e wS ⟨rfl, hbS⟩) | (at_builtin; refine wpList_append_lies _ rfl _ _ _ rfl wr.heap.size 3 zi _ 1 8 Tryz.underlying34 hj0' hj1' hj2' hj3' rfl (by decide) (.slice none 0 0) 0 [] rfl (World.ownsRow_nil _ _ _ _) ⟨wS.heap.size, 0, none⟩ 1 1 [.int .i64 y.d] rfl rfl (World.news_of_block (Blk.new wS _ _)) (by simp [Value.oneCell']) (by decide) (by unfold maxLen; omega) (by omega) (by have := hb20.size; have := hbS.size; simp; omega) (wS.heap.size + 1) (by simp) ?_; intro gw capw w21 hown21 hgrow21 hat21 hlt21))
            refine wp_world ?_
            intro W21 hW21
            subst hW21
            have hb0S : Below wr.heap.size wr wS := hb20.trans (hbS.mono hb20.size)
            have HB21 : Hid (Below wr.heap.size wr w21) := Lib.hid ((hb0S.trans ((below1 wS _).mono hb0S.size)).grown hgrow21 (by have := hb0S.size; simp; omega) (fun b e => by simp [Value.ownBlock] at e))
            have HWW : Hid (w21.ownsRow wr.heap.size 3 1 (.slice (some ⟨gw, 0, none⟩) 1 capw) 1 [.int .i64 y.d]) := Lib.hid (by simpa using hown21)
            have HLW : Hid ((setsL y).map (Value.int .i64) = [.int .i64 y.d]) := Lib.hid (by rw [hsl1]; rfl)
            obtain ⟨W21, hW21⟩ : ∃ W21, W21 = w21 := ⟨_, rfl⟩
            subst hW21
            clear hown21 hgrow21 hat21 hlt21 hb20 hbS hb0S hsl1 a0 a1 a2 a3 a4 a5 a6 a7
            have hbW : wr.heap.size ≤ W21.heap.size := HB21.out.size
            obtain ⟨a0, a1, a2, a3, a4, a5, a6, a7⟩ := HCX.out W21 HB21.out
            obtain ⟨zi', hk0, hk1, hk2, hk3⟩ := info_parts info_int9
            have hul : (usesL y).length ≤ 10 := uses_len HYC.out
            go_upto_region 22 with (first | (go_at_call 19; refine (HUSES.out W21 HB21.out).mono ?_; rintro e w22 ⟨vu, rfl, hbu, hsu⟩; obtain ⟨Au, cu, hvu, _, _⟩ := hsu.val; subst hvu; have hnews := ints_news hsu) | (at_builtin; refine wpList_append_any _ rfl _ _ 34 rfl wr.heap.size 3 zi' _ 1 8 Tryz.underlying34 hk0 hk1 hk2 hk3 rfl (by decide) (.slice (some ⟨gw, 0, none⟩) 1 capw) 1 [.int .i64 y.d] rfl (HWW.out.kept (grown_below' (row := none) hbu) (Classical.em _)) Au (usesL y).length cu ((usesL y).map (Value.int .i64)) rfl (by simp) hnews (by simp [Value.oneCell']) (by unfold maxLen; omega) (by omega) (by have := hbu.size; omega) _ rfl ?_; intro vq w23 hown23 hgrow23 hat23))
            have hb22 : Below wr.heap.size wr w22 := HB21.out.trans (hbu.mono hbW)
            have hb23 : Below wr.heap.size wr w23 := hb22.grown hgrow23 hb22.size (fun b e => (HWW.out.lt b e).1)
            have egl : gl.map (fun i => Value.int .i64 i) = [.int .i64 y.d] ++ (usesL y).map (Value.int .i64) := by
              rw [HGL.out, List.map_append]
              exact congrArg (· ++ (usesL y).map (Value.int .i64)) HLW.out
            have hs23 : SlR w23 (· < w23.heap.size) 1 RInt vq gl := by
              rw [← egl] at hown23
              exact ints_of_own hown23 (fun g e => (hat23 g e).2)
            have HI := Lib.hid (ints_true gl (.slice Ag gl.length cg) vq w23 (hb_slrN HGS.out hb23) hs23)
            have HB23 := Lib.hid hb23
            clear hnews hown23 hgrow23 hat23 hb22 hb23 hs23 hbu hsu a0 a1 a2 a3 a4 a5 a6 a7
            go_wp2_with (go_at_call 20; refine HI.out.mono ?_; rintro e w24 ⟨rfl, hb24⟩)
            go_ret
            have hA := HB23.out.trans (hb24.mono HB23.out.size)
            exact ⟨by first | rfl | trivial, HBr.out.trans (hA.mono HBr.out.size)⟩
          · have hDf : hasD y.kind = false := by simpa using hDk
            have hsl1 := HKY.out.2.2 hDf
            rw [hDf, if_neg (by decide)] at HSETS
            go_upto_region 21 with (go_at_call 18; refine (HSETS.out _).mono ?_; rintro e w20 ⟨rfl, hb20⟩)
            have HB21 : Hid (Below wr.heap.size wr w20) := Lib.hid hb20
            have HWW : Hid (w20.ownsRow wr.heap.size 3 1 (.slice none 0 0) 0 []) := Lib.hid (World.ownsRow_nil _ _ _ _)
            have HLW : Hid ((setsL y).map (Value.int .i64) = []) := Lib.hid (by rw [hsl1]; rfl)
            obtain ⟨W21, hW21⟩ : ∃ W21, W21 = w20 := ⟨_, rfl⟩
            subst hW21
            clear hb20 hsl1 a0 a1 a2 a3 a4 a5 a6 a7
            have hbW : wr.heap.size ≤ W21.heap.size := HB21.out.size
            obtain ⟨a0, a1, a2, a3, a4, a5, a6, a7⟩ := HCX.out W21 HB21.out
            obtain ⟨zi', hk0, hk1, hk2, hk3⟩ := info_parts info_int9
            have hul : (usesL y).length ≤ 10 := uses_len HYC.out
            go_upto_region 22 with (first | (go_at_call 19; refine (HUSES.out W21 HB21.out).mono ?_; rintro e w22 ⟨vu, rfl, hbu, hsu⟩; obtain ⟨Au, cu, hvu, _, _⟩ := hsu.val; subst hvu; have hnews := ints_news hsu) | (at_builtin; refine wpList_append_any _ rfl _ _ 34 rfl wr.heap.size 3 zi' _ 1 8 Tryz.underlying34 hk0 hk1 hk2 hk3 rfl (by decide) (.slice none 0 0) 0 [] rfl (HWW.out.kept (grown_below' (row := none) hbu) (Classical.em _)) Au (usesL y).length cu ((usesL y).map (Value.int .i64)) rfl (by simp) hnews (by simp [Value.oneCell']) (by unfold maxLen; omega) (by omega) (by have := hbu.size; omega) _ rfl ?_; intro vq w23 hown23 hgrow23 hat23))
            have hb22 : Below wr.heap.size wr w22 := HB21.out.trans (hbu.mono hbW)
            have hb23 : Below wr.heap.size wr w23 := hb22.grown hgrow23 hb22.size (fun b e => (HWW.out.lt b e).1)
            have egl : gl.map (fun i => Value.int .i64 i) = [] ++ (usesL y).map (Value.int .i64) := by
              rw [HGL.out, List.map_append]
              exact congrArg (· ++ (usesL y).map (Value.int .i64)) HLW.out
            have hs23 : SlR w23 (· < w23.heap.size) 1 RInt vq gl := by
              rw [← egl] at hown23
              exact ints_of_own hown23 (fun g e => (hat23 g e).2)
            have HI := Lib.hid (ints_true gl (.slice Ag gl.length cg) vq w23 (hb_slrN HGS.out hb23) hs23)
            have HB23 := Lib.hid hb23
            clear hnews hown23 hgrow23 hat23 hb22 hb23 hs23 hbu hsu a0 a1 a2 a3 a4 a5 a6 a7
            go_wp2_with (go_at_call 20; refine HI.out.mono ?_; rintro e w24 ⟨rfl, hb24⟩)
            go_ret
            have hA := HB23.out.trans (hb24.mono HB23.out.size)
            exact ⟨by first | rfl | trivial, HBr.out.trans (hA.mono HBr.out.size)⟩
end Go.Proofs.YtnpnhdmfdhnmfaaGreatDoor
