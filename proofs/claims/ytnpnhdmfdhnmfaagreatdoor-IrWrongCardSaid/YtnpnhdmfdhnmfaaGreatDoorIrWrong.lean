/- An instruction, or an end, that may not be, is told, at its function and block: the walk of 'IrWrongSaid'. Printed by wip/gen_irwrong.py. -/
import Derived.Test.YtnpnhdmfdhnmfaaGreatDoorAw10
import Derived.Test.YtnpnhdmfdhnmfaaGreatDoorFitPrint
import Derived.Test.YtnpnhdmfdhnmfaaGreatDoorWrB
import Derived.Test.YtnpnhdmfdhnmfaaGreatDoorUnitMem
import Derived.Test.YtnpnhdmfdhnmfaaGreatDoorRegion
import Derived.Deep.DeepCutAuto
import Derived.Deep.CutBlock
import Derived.Deep.CutRange
import Derived.ChangeKeysEq
namespace Go.Proofs.YtnpnhdmfdhnmfaaGreatDoor
open Go.RowKit
open Go.Deep

theorem tdiv3w {a : Int} (h : I64 a) : I64 (a.tdiv 3) ∧ IntKind.i64.wrap (a.tdiv 3) = a.tdiv 3 := by
  obtain ⟨h0, h1⟩ := h
  have k0 : -9223372036854775808 ≤ a.tdiv 3 ∧ a.tdiv 3 ≤ 9223372036854775807 := by
    rcases Int.le_total 0 a with h | h
    · rw [Int.tdiv_eq_ediv_of_nonneg h]; omega
    · have e : a = -(-a) := by omega
      rw [e, Int.neg_tdiv, Int.tdiv_eq_ediv_of_nonneg (by omega)]; omega
  exact ⟨k0, by rw [IntKind.wrap_i64]; omega⟩
/-- ir.Print of a unit that may not be: no text -/
theorem print_bad (va vf : Value) (hv : ∃ A n c B m d, va = .slice A n c ∧ vf = .slice B m d) (w : World) (hc : ∀ X, Below w.heap.size w X → Calls Tryz.prog 22 #[.agg #[va, vf]] X fun e X' => (∃ p q : Int, e = .returned (.tuple #[.int .i64 70, .agg #[.int .i64 p, .int .i64 q]])) ∧ Below X.heap.size X X') :
    Calls Tryz.prog 15 #[.agg #[va, vf]] w fun e w' => e = .returned (.tuple #[.string ⟨#[]⟩, .int .i64 1]) ∧ Below w.heap.size w w' := by
  obtain ⟨A, n, c, B, m, d, rfl, rfl⟩ := hv
  have HC := Lib.hid hc
  clear hc
  go_enter Tryz.func15, Tryz.ntmps15
  go_upto_region 1 with fail
  refine wp_world ?_
  intro W hW
  have hB : Below w.heap.size w W := by rw [← hW]; exact below1 _ _
  have hU : Blk W w.heap.size 27 #[.slice A n c, .slice B m d] := by rw [← hW]; exact Blk.new_at _ _ _ rfl
  have u0 : W.cell? ⟨w.heap.size, 0, none⟩ = some (.slice A n c) := hU.cell 0
  have u1 : W.cell? ⟨w.heap.size, 1, none⟩ = some (.slice B m d) := hU.cell 1
  clear hW hU
  go_wp2_with (go_at_call 22; refine (HC.out W hB).mono ?_; rintro e w2 ⟨⟨p, q, rfl⟩, hb2⟩)
  go_ret2
  have h2 := hB.trans (hb2.mono hB.size)
  exact ⟨rfl, by first | exact h2.alloc h2.size _ | exact (h2.alloc h2.size _).setCell (by simp; exact h2.size) _ | exact ((h2.alloc h2.size _).setCell (by simp; exact h2.size) _).setCell (by simp; exact h2.size) _⟩

/-- two places are the same -/
theorem eq_at_d (d : Nat) (a b : Int) (w : World) : Sem.run Tryz.prog (Op.equalIn (d + 2) 52 (Value.agg #[Value.int IntKind.i64 a, Value.int IntKind.i64 b]) (Value.agg #[Value.int IntKind.i64 a, Value.int IntKind.i64 b])) w = .ok true w := by
  have hu : Tryz.prog.underlying 52 = some (.array 2 3) := by kernel_rfl
  have hv : Tryz.prog.underlying 3 = some (.int .i64) := by kernel_rfl
  have hc : Tryz.prog.cellsOf 3 = 1 := by kernel_rfl
  have hp : Tryz.prog.plainKey 3 = true := by kernel_rfl
  have hs : (Tryz.prog.info? 3).isSome = true := by kernel_rfl
  obtain ⟨i, hi⟩ := Option.isSome_iff_exists.1 hs
  have heq : ∀ (x : Int), (Op.equalIn (d + 1) 3 (.int .i64 x) (.int .i64 x)).run Tryz.prog w = .ok true w := fun x => by
    simp [Op.equalIn, run_underlying hv]
  rw [run_equalIn_array w (d + 1) _ _ hu hi, hc, show List.range 2 = [0, 1] from rfl]
  simp only [Op.eqItems, Sem.run_bind, run_part_plain w hp (xs := #[Value.int IntKind.i64 a, Value.int IntKind.i64 b]) (off := 0 * 1) (v := .int .i64 a) rfl, Result.andThen_ok, heq]
  simp [run_part_plain w hp (xs := #[Value.int IntKind.i64 a, Value.int IntKind.i64 b]) (off := 1) (v := .int .i64 b) rfl, heq]
theorem eq_at (a b : Int) (w : World) : Sem.run Tryz.prog (Op.equalIn 10000 52 (Value.agg #[Value.int IntKind.i64 a, Value.int IntKind.i64 b]) (Value.agg #[Value.int IntKind.i64 a, Value.int IntKind.i64 b])) w = .ok true w := eq_at_d 9998 a b w

/-- ir.Check of what was put in -/
theorem wr_check (raw : List LBlock) (k i : Nat) (b : LBlock) (hk : k < 3) (hi : i < (fitFl raw k).blocks.length) (hb : b.ins.length ≤ 7) (hbad : blockBad (wrU raw k i b) (fitFl raw k) b = true) (A1 A2 : Option Addr) (c1 c2 : Nat) (w : World) (ha : SlR w (· < w.heap.size) 2 RArr (.slice A1 (fitU raw).arrays.length c1) (fitU raw).arrays)
    (hf : SlR w (· < w.heap.size) 4 (RFlow w (· < w.heap.size)) (.slice A2 3 c2) ((fitFlows raw 3).set k (wrF (fitFl raw k) i b))) :
    Calls Tryz.prog 22 #[.agg #[.slice A1 (fitU raw).arrays.length c1, .slice A2 3 c2]] w fun e w' => e = .returned (.tuple #[.int .i64 70, .agg #[.int .i64 (k : Int), .int .i64 (i : Int)]]) ∧ Below w.heap.size w w' := by
  have hl : (wrU raw k i b).flows.length = 3 := by show ((fitFlows raw 3).set k _).length = 3; rw [List.length_set]; rfl
  obtain ⟨h1, h2, h3⟩ := wr_bad raw k i b hk hi hbad
  have hkl : k < (wrU raw k i b).flows.length := by rw [hl]; exact hk
  have e := wr_at raw k i b hk k hkl
  rw [if_pos rfl] at e
  have h := check_bad (wrU raw k i b) (wr_base raw k i b hk hb) k hkl h1 (by rw [e]; exact h2) A1 A2 c1 c2 w ha (by rw [hl]; exact hf)
  rw [e, h3, hl] at h
  exact h

set_option maxRecDepth 100000 in
set_option maxHeartbeats 16000000 in
theorem irWrong_walk (vr : Value) (which what by_ : Int) (raw : List LBlock) (hI : ∀ x ∈ raw, x.I) (w : World) (hsl : SlR w (· < w.heap.size) 5 (RBlock w (· < w.heap.size)) vr raw) (wh : (Lit.int .i64 which).wf = true) (ww : (Lit.int .i64 what).wf = true) (wb : (Lit.int .i64 by_).wf = true) :
    Calls Tryz.prog 5 #[vr, .int .i64 which, .int .i64 what, .int .i64 by_] w fun e w' => e = .returned (.bool true) ∧ Below w.heap.size w w' := by
  obtain ⟨Ar, cr, hvr, _, _⟩ := hsl.val
  subst hvr
  obtain ⟨io, io'⟩ := i64_of_wf wh
  obtain ⟨jo, jo'⟩ := i64_of_wf ww
  obtain ⟨ko, ko'⟩ := i64_of_wf wb
  obtain ⟨hq3, hw3⟩ := tdiv3w ⟨io, io'⟩
  have HAW := Lib.hid (awake10_any w)
  have HFIT := Lib.hid (fun (X : World) (hb : Below w.heap.size w X) => fit_any raw hI (.slice Ar raw.length cr) X (hsl.imp (fun _ h => Nat.lt_of_lt_of_le h hb.size) (fun b h => hb.block b h) (fun _ _ _ r => r.imp (fun _ h => Nat.lt_of_lt_of_le h hb.size) (fun b h => hb.block b h))))
  have HP1 := Lib.hid (fun w2 => pick10_any which 3 io io' (by omega) w2)
  have p0 := pk_lo which 3 (by omega)
  have p1 := pk_hi which 3 (by omega)
  obtain ⟨k, hk⟩ := Int.eq_ofNat_of_zero_le p0
  rw [hk] at HP1 p1
  have hk3 : k < 3 := by omega
  have hpos := fit_pos raw k
  have hle := fit_le raw k
  have HP2 := Lib.hid (fun w2 => pick10_any (which.tdiv 3) ((fitFl raw k).blocks.length : Int) hq3.1 hq3.2 (by omega) w2)
  have q0 := pk_lo (which.tdiv 3) ((fitFl raw k).blocks.length : Int) (by omega)
  have q1 := pk_hi (which.tdiv 3) ((fitFl raw k).blocks.length : Int) (by omega)
  obtain ⟨i, hi⟩ := Int.eq_ofNat_of_zero_le q0
  rw [hi] at HP2 q1
  have hi3 : i < (fitFl raw k).blocks.length := by omega
  have HP3 := Lib.hid (fun w2 => pick10_any by_ 100 ko ko' (by omega) w2)
  have n0 := pk_lo by_ 100 (by omega)
  have n1 := pk_hi by_ 100 (by omega)
  generalize pk by_ 100 = pb at *
  have HP4 := Lib.hid (fun w2 => pick10_any what 15 jo jo' (by omega) w2)
  have m0 := pk_lo what 15 (by omega)
  have m1 := pk_hi what 15 (by omega)
  obtain ⟨wq, hwq⟩ := Int.eq_ofNat_of_zero_le m0
  rw [hwq] at HP4 m1
  have hwq15 : wq < 15 := by omega
  have HW3 := Lib.hid hw3
  clear p0 p1 q0 q1 m0 m1 hk hi hwq hq3 hw3 hsl hI
  go_enter Tryz.func5, Tryz.ntmps5
  go_upto_region 3 with (first | (go_at_call 13; refine HAW.out.mono ?_; rintro e w2 ⟨rfl, hb2⟩) | (go_at_call 14; refine (HFIT.out _ hb2).mono ?_; rintro e w3 ⟨va, vf, css, rfl, hb3, hsa, hof⟩; obtain ⟨A1, c1, hva, _, _⟩ := hsa.val; obtain ⟨gf, cf, hvf⟩ := own_three hof; subst hva hvf))
  refine wp_world ?_
  intro W hW
  have hB : Below w.heap.size w W := by
    have h := hb2.trans (hb3.mono hb2.size)
    rw [← hW]; exact h.alloc h.size _
  have hU : Blk W w3.heap.size 27 #[.slice A1 (fitU raw).arrays.length c1, .slice (some ⟨gf, 0, none⟩) 3 cf] := by rw [← hW]; exact Blk.new w3 _ _
  have hA4 : SlR W (fun b => b < w2.heap.size + 4) 2 RArr (.slice A1 (fitU raw).arrays.length c1) (fitU raw).arrays := by rw [← hW]; exact hsa.imp (fun b hb => hb.1.2) (fun b hb => Below.heap_alloc w3 _ b hb.2) (fun _ _ _ r => r)
  have hO : OwnL W (w2.heap.size + 4) 45 4 RFlow (.slice (some ⟨gf, 0, none⟩) 3 cf) (fitFlows raw 3) css := by rw [← hW]; exact hof.below mono_flow (below1 _ _)
  have hs23 : w2.heap.size + 4 ≤ w3.heap.size := Nat.le_trans (hof.lt gf rfl).1 (Nat.le_of_lt (hof.lt gf rfl).2)
  have hs2w : w.heap.size ≤ w2.heap.size := hb2.size
  have hg3 : gf < w3.heap.size := (hof.lt gf rfl).2
  have hg0 : w2.heap.size + 4 ≤ gf := (hof.lt gf rfl).1
  obtain ⟨base, hbase⟩ : ∃ base, base = w2.heap.size + 4 := ⟨_, rfl⟩
  obtain ⟨ub, hub⟩ : ∃ ub, ub = w3.heap.size := ⟨_, rfl⟩
  rw [← hub] at hU hg3 hs23 ⊢
  rw [← hbase] at hA4 hO hg0 hs23
  have hws : w.heap.size ≤ base := by omega
  have hWu : W.heap.size = ub + 1 := by rw [← hW, hub]; simp
  clear hW hb2 hb3 hsa hof HAW HFIT hub hbase hs2w
  -- the function and its block
  have hkc : k < css.length := by rw [hO.len]; simp [fitFlows]; omega
  have hkl : k < (fitFlows raw 3).length := by simp [fitFlows]; omega
  have hfk : (fitFlows raw 3)[k] = fitFl raw k := by simp [fitFlows]
  have hel := hO.elems k hkc hkl
  rw [hfk] at hel
  obtain ⟨vb, hcs, hbl⟩ := hel
  obtain ⟨Ab, cb, hvb, _, _⟩ := hbl.val
  subst hvb
  have q0 : W.cell? ⟨gf, k * 4, none⟩ = some (.string (fitFl raw k).name) := hO.cell (i := 0) hkc (by rw [hcs]; rfl)
  have q1 : W.cell? ⟨gf, k * 4 + 1, none⟩ = some (.int .i64 (fitFl raw k).params) := hO.cell (i := 1) hkc (by rw [hcs]; rfl)
  have q2 : W.cell? ⟨gf, k * 4 + 2, none⟩ = some (.int .i64 (fitFl raw k).values) := hO.cell (i := 2) hkc (by rw [hcs]; rfl)
  have q3 : W.cell? ⟨gf, k * 4 + 3, none⟩ = some (.slice Ab (fitFl raw k).blocks.length cb) := hO.cell (i := 3) hkc (by rw [hcs]; rfl)
  have u1 : W.cell? ⟨ub, 1, none⟩ = some (.slice (some ⟨gf, 0, none⟩) 3 cf) := hU.cell 1
  have hk3i : (k : Int) < 3 := by omega
  have hi3i : (i : Int) < ((fitFl raw k).blocks.length : Int) := by omega
  have hokb : ∀ b, okOwn base W (.slice (some ⟨gf, 0, none⟩) 3 cf) b → base ≤ b ∧ b < W.heap.size ∧ b ≠ gf := fun b hb => ⟨hb.1, hb.2.1, fun e => hb.2.2 (by rw [e]; rfl)⟩
  have hsb : SlR W (fun b => base ≤ b ∧ b < W.heap.size ∧ b ≠ gf) 5 (RBlock W (fun b => base ≤ b ∧ b < W.heap.size ∧ b ≠ gf)) (.slice Ab (fitFl raw k).blocks.length cb) (fitFl raw k).blocks := hbl.imp hokb (Keeps.refl _ _) (fun _ _ _ r => r.imp hokb (Keeps.refl _ _))
  obtain ⟨bb, ob, cb', hfb, _, _, hbbok, hq⟩ := hsb.form hpos
  obtain rfl : Ab = some ⟨bb, ob, none⟩ := by injection hfb
  obtain ⟨csi, _, ⟨vi, hcsi, hsi⟩, hcl⟩ := hq i hi3
  have hi6 := fit_ins raw k _ (List.getElem_mem hi3)
  obtain ⟨bk, hbk⟩ : ∃ b, b = (fitFl raw k).blocks[i] := ⟨_, rfl⟩
  rw [← hbk] at hcsi hsi hi6
  obtain ⟨Ac, cc, hvi, _, _⟩ := hsi.val
  subst hvi hcsi
  obtain ⟨xs, tm⟩ := bk
  replace hi6 : xs.length ≤ 6 := hi6
  have e0 : W.cell? ⟨bb, ob + i * 5, none⟩ = some (.slice Ac xs.length cc) := by have h := hcl.at_ (j := 0) rfl; simpa using h
  have e1 : W.cell? ⟨bb, ob + i * 5 + 1, none⟩ = some (.int .i64 tm.kind) := hcl.at_ (j := 1) rfl
  have e2 : W.cell? ⟨bb, ob + i * 5 + 2, none⟩ = some (.int .i64 tm.a) := hcl.at_ (j := 2) rfl
  have e3 : W.cell? ⟨bb, ob + i * 5 + 3, none⟩ = some (.int .i64 tm.to) := hcl.at_ (j := 3) rfl
  have e4 : W.cell? ⟨bb, ob + i * 5 + 4, none⟩ = some (.int .i64 tm.els) := hcl.at_ (j := 4) rfl
  have hul := hU.lt
  have hgW : gf < W.heap.size := by omega
  have hubW : ub < W.heap.size := by omega
  clear hWu
  have hbbW : bb < W.heap.size := hbbok.2.1
  have HA4 := Lib.hid hA4
  have HO := Lib.hid hO
  have HU := Lib.hid hU
  have HB := Lib.hid hB
  have HSB := Lib.hid hsb
  have HSI := Lib.hid hsi
  have w3e := HW3.out
  clear hB hU hA4 hO hkc hkl hfk hcs hbl hfb hq hcl hbk hokb hsb hsi hbbok
  go_upto_region 4 with (go_at_call 21; refine (HP1.out _).mono ?_; rintro e w' ⟨rfl, rfl⟩)
  go_upto_region 5 with (go_at_call 21; refine (HP2.out _).mono ?_; rintro e w' ⟨rfl, rfl⟩)
  go_upto_region 6 with (go_at_call 21; refine (HP3.out _).mono ?_; rintro e w' ⟨rfl, rfl⟩)
  obtain ⟨nn, hnn⟩ : ∃ nn, nn = 10 + pb := ⟨_, rfl⟩
  rw [← hnn]
  have hn10 : 10 ≤ nn := by omega
  have hn110 : nn < 110 := by omega
  clear hnn n0 n1 HP1 HP2 HP3
  go_upto_region 7 with fail
  refine wp_world ?_
  intro W6 hW6
  have h6 : Below W.heap.size W W6 := by rw [← hW6]; exact below2 _ _ _
  have hsz6 : W6.heap.size = W.heap.size + 1 + 1 := by rw [← hW6]; simp
  have hb0 : Blk W6 W.heap.size 3 #[.int .i64 nn] := by rw [← hW6]; exact (Blk.new_at _ _ _ rfl).alloc _
  have hBad : SlR W6 (fun b => W.heap.size ≤ b ∧ b < W6.heap.size) 8 (RIns W6 (fun b => W.heap.size ≤ b ∧ b < W6.heap.size)) (.slice (some ⟨W.heap.size + 1, 0, none⟩) 12 12) (badIns nn) := by
    obtain ⟨cs1, hb1, hcs1⟩ : ∃ cs, Blk W6 (W.heap.size + 1) 36 cs ∧ cs = (((badIns nn).zipIdx.map fun p => insCells p.1 (if p.2 = 10 then .slice (some ⟨W.heap.size, 0, none⟩) 1 1 else .slice none 0 0))).flatten.toArray := by
      rw [← hW6]
      exact ⟨_, Blk.new_at _ _ _ (by simp), by simp [badIns, insCells]⟩
    have hn : SlR W6 (fun b => W.heap.size ≤ b ∧ b < W6.heap.size) 1 RInt (.slice (some ⟨W.heap.size, 0, none⟩) 1 1) [nn] := SlR.ints [nn] hb0 rfl rfl ⟨Nat.le_refl _, by omega⟩ (by omega)
    have z : SlR W6 (fun b => W.heap.size ≤ b ∧ b < W6.heap.size) 1 RInt (.slice none 0 0) [] := SlR.nil_ _ _ _ _
    refine SlR.lit ((badIns nn).zipIdx.map fun p => insCells p.1 (if p.2 = 10 then .slice (some ⟨W.heap.size, 0, none⟩) 1 1 else .slice none 0 0)) hb1 hcs1 ?_ rfl ⟨by omega, by omega⟩ (by omega)
    · exact ⟨⟨rfl, _, rfl, z⟩, ⟨rfl, _, rfl, z⟩, ⟨rfl, _, rfl, z⟩, ⟨rfl, _, rfl, z⟩, ⟨rfl, _, rfl, z⟩, ⟨rfl, _, rfl, z⟩, ⟨rfl, _, rfl, z⟩, ⟨rfl, _, rfl, z⟩, ⟨rfl, _, rfl, z⟩, ⟨rfl, _, rfl, z⟩, ⟨rfl, _, rfl, hn⟩, ⟨rfl, _, rfl, z⟩, trivial⟩
  have HBAD := Lib.hid hBad
  have H6 := Lib.hid h6
  have f0 : W6.cell? ⟨ub, 1, none⟩ = some (.slice (some ⟨gf, 0, none⟩) 3 cf) := (h6.cell hul).trans u1
  have f3 : W6.cell? ⟨gf, k * 4 + 3, none⟩ = some (.slice (some ⟨bb, ob, none⟩) (fitFl raw k).blocks.length cb) := (h6.cell hgW).trans q3
  have g0 : W6.cell? ⟨bb, ob + i * 5, none⟩ = some (.slice Ac xs.length cc) := (h6.cell hbbW).trans e0
  have g1 : W6.cell? ⟨bb, ob + i * 5 + 1, none⟩ = some (.int .i64 tm.kind) := (h6.cell hbbW).trans e1
  have g2 : W6.cell? ⟨bb, ob + i * 5 + 2, none⟩ = some (.int .i64 tm.a) := (h6.cell hbbW).trans e2
  have g3 : W6.cell? ⟨bb, ob + i * 5 + 3, none⟩ = some (.int .i64 tm.to) := (h6.cell hbbW).trans e3
  have g4 : W6.cell? ⟨bb, ob + i * 5 + 4, none⟩ = some (.int .i64 tm.els) := (h6.cell hbbW).trans e4
  have hs6 : W.heap.size + 1 < W6.heap.size := by omega
  clear hsz6
  have HF3 := Lib.hid q3
  clear hW6 h6 hb0 hBad q0 q1 q2 q3 u1 e0 e1 e2 e3 e4
  go_upto_region 8 with fail
  refine wp_world ?_
  intro W8 hW8
  have h8 : Below W6.heap.size W6 W8 := by rw [← hW8]; exact below1 _ _
  have x15 : Blk W8 W6.heap.size 43 #[.slice Ac xs.length cc, .int .i64 tm.kind, .int .i64 tm.a, .int .i64 tm.to, .int .i64 tm.els] := by rw [← hW8]; exact Blk.new_at _ _ _ rfl
  clear hW8 f0 f3 g0 g1 g2 g3 g4
  go_upto_region 9 with (go_at_call 21; refine (HP4.out _).mono ?_; rintro e w' ⟨rfl, rfl⟩)
  have H8 := Lib.hid h8
  have HX15 := Lib.hid x15
  clear h8 x15 HP4
  obtain ⟨wz, hwz⟩ : ∃ wz : Int, wz = (wq : Int) := ⟨_, rfl⟩
  rw [← hwz]
  go_upto_if 77 with fail
  go_cut [] (fun wx => ∃ b A c, WrB raw k i base gf W6.heap.size W6 wx b A c)
  case first =>
    have hX8 := H8.out.size
    have hW68 : W.heap.size ≤ W6.heap.size := H6.out.size
    have hxl : W6.heap.size < W8.heap.size := HX15.out.lt
    by_cases hlt : wq < 12
    · subst hwz
      have d0 : decide ((wq : Int) < 12) = true := decide_eq_true (by omega)
      have hwi : (wq : Int) < 12 := by omega
      obtain ⟨cssI, hil1, hil2, hil3, hil4⟩ := HSI.out.rows_any
      have HIL : Hid (cssI.flatten.length = xs.length * 8) := Lib.hid (by rw [flatten_len hil2, hil1])
      have hBx : Below W.heap.size W W8 := H6.out.trans (H8.out.mono H6.out.size)
      have HIN : Hid (∀ X, Below W8.heap.size W8 X → (xs.length = 0 ∨ ∃ ad, Ac = some ad ∧ ∀ j u, cssI.flatten[j]? = some u → X.cell? (ad.add j) = some u)) := Lib.hid (fun X hb => hil4.imp id fun ⟨bi, oi, e, hok, hc⟩ => ⟨_, e, (hc.keep ((hb.block bi (by have := hok.2.1; omega)).trans (hBx.block bi hok.2.1))).news⟩)
      have HI1 : Hid (∀ u ∈ cssI.flatten, u.oneCell' = true) := Lib.hid (flatten_ones fun cs hc => by
        obtain ⟨j, hj, rfl⟩ := List.getElem_of_mem hc
        exact ins_ones (hil3 j hj (by omega)))
      have HIC := Lib.hid hil1
      have HIE := Lib.hid hil2
      have HIR := Lib.hid hil3
      have HBX := Lib.hid hBx
      clear hil1 hil2 hil3 hil4 hBx
      obtain ⟨bbd, obd, cbd, hfd, _, _, hbdok, hqd⟩ := HBAD.out.form (by show 0 < 12; omega)
      have hfd' : (⟨W.heap.size + 1, 0, none⟩ : Addr) = ⟨bbd, obd, none⟩ := by
        injection hfd with h1
        injection h1
      obtain ⟨rfl, rfl⟩ : W.heap.size + 1 = bbd ∧ 0 = obd := by injection hfd' with h1 h2; exact ⟨h1, h2⟩
      have hqw : wq < (badIns nn).length := hlt
      obtain ⟨csd, _, ⟨va, hcsd, hsd⟩, hcld⟩ := hqd wq hqw
      have hxm : (badIns nn)[wq] ∈ badIns nn := List.getElem_mem hqw
      obtain ⟨x, hx⟩ : ∃ x, x = (badIns nn)[wq] := ⟨_, rfl⟩
      rw [← hx] at hcsd hsd hxm
      subst hcsd
      have HXM := Lib.hid hxm
      have HSD := Lib.hid hsd
      obtain ⟨Ax, cx, hvx, _, _⟩ := hsd.val
      subst hvx
      have CJ : Hid (∀ X, Below W8.heap.size W8 X → ∀ j u, (insCells x (.slice Ax x.args.length cx))[j]? = some u → X.cell? ⟨W.heap.size + 1, wq * 8 + j, none⟩ = some u) := Lib.hid (fun X hb j u h => by
        have h1 := hcld.at_ h
        rw [Nat.zero_add] at h1
        have hl1 := World.block_lt_of_cell? _ _ h1
        exact (hb.cell (by omega)).trans ((H8.out.cell hl1).trans h1))
      have SO : Hid (∀ X, Below W8.heap.size W8 X → (fun w2 => w2.cell? ⟨W6.heap.size, 0, none⟩ = some (.slice Ac xs.length cc) ∧ w2.cell? ⟨W.heap.size + 1, wq * 8, none⟩ = some (.int .i64 x.kind) ∧ w2.cell? ⟨W.heap.size + 1, wq * 8 + 1, none⟩ = some (.int .i64 x.d) ∧ w2.cell? ⟨W.heap.size + 1, wq * 8 + 2, none⟩ = some (.int .i64 x.a) ∧ w2.cell? ⟨W.heap.size + 1, wq * 8 + 3, none⟩ = some (.int .i64 x.b) ∧ w2.cell? ⟨W.heap.size + 1, wq * 8 + 4, none⟩ = some (.int .i64 x.op) ∧ w2.cell? ⟨W.heap.size + 1, wq * 8 + 5, none⟩ = some (.int .i64 x.n) ∧ w2.cell? ⟨W.heap.size + 1, wq * 8 + 6, none⟩ = some (.string x.name) ∧ w2.cell? ⟨W.heap.size + 1, wq * 8 + 7, none⟩ = some (.slice Ax x.args.length cx)) X) := Lib.hid (fun X hb => ⟨(HX15.out.below hb hxl).cell 0, CJ.out X hb 0 _ rfl, CJ.out X hb 1 _ rfl, CJ.out X hb 2 _ rfl, CJ.out X hb 3 _ rfl, CJ.out X hb 4 _ rfl, CJ.out X hb 5 _ rfl, CJ.out X hb 6 _ rfl, CJ.out X hb 7 _ rfl⟩)
      obtain ⟨zi, hj0, hj1, hj2, hj3⟩ := info_parts info_ins
      have HFIN : Hid (∀ (X : World) (v2 : Value), Below W8.heap.size W8 X → X.ownsRow W8.heap.size 36 8 v2 (xs.length + 1) (cssI.flatten ++ insCells x (.slice Ax x.args.length cx)) → (∀ g, v2.ownBlock = some g → g < X.heap.size) → ∃ b A c, WrB raw k i base gf W6.heap.size W6 (X.setCell ⟨W6.heap.size, 0, none⟩ v2) b A c) := Lib.hid (fun X v2 hb hown hg =>
        wrb_ins (W0 := W) (W := W) hk3 hn10 HXM.out hi6 HIC.out HIE.out HIR.out (fun b hb' => ⟨hb'.1, by have := hb'.2.1; omega, hb'.2.2, by have := hb'.2.1; omega⟩) ((Keeps.of_below (HBX.out.trans (hb.mono HBX.out.size))).mono fun b hb' => hb'.2.1) HSD.out (by omega) hgW (by omega) (H8.out.trans (hb.mono hX8)) (HX15.out.below hb hxl) hown hxl (by omega) hg)
      clear hfd hfd' hqd hcld hsd hxm hx hbdok hqw hX8 hW68
      go_upto_region 10 with fail
      have hz0 : Below W8.heap.size W8 W8.drew := (Below.refl _ _).drew
      refine wp_region_L (by kernel_rfl) 10 (fun w2 => w2.cell? ⟨W6.heap.size, 0, none⟩ = some (.slice Ac xs.length cc) ∧ w2.cell? ⟨W.heap.size + 1, wq * 8, none⟩ = some (.int .i64 x.kind) ∧ w2.cell? ⟨W.heap.size + 1, wq * 8 + 1, none⟩ = some (.int .i64 x.d) ∧ w2.cell? ⟨W.heap.size + 1, wq * 8 + 2, none⟩ = some (.int .i64 x.a) ∧ w2.cell? ⟨W.heap.size + 1, wq * 8 + 3, none⟩ = some (.int .i64 x.b) ∧ w2.cell? ⟨W.heap.size + 1, wq * 8 + 4, none⟩ = some (.int .i64 x.op) ∧ w2.cell? ⟨W.heap.size + 1, wq * 8 + 5, none⟩ = some (.int .i64 x.n) ∧ w2.cell? ⟨W.heap.size + 1, wq * 8 + 6, none⟩ = some (.string x.name) ∧ w2.cell? ⟨W.heap.size + 1, wq * 8 + 7, none⟩ = some (.slice Ax x.args.length cx)) (SO.out _ hz0) (fun hHeld => ?_)
      have HS0 := Lib.hid hHeld
      clear hHeld
      change wpAnyL _ _ _ _ _ 10 11 (Array.replicate 11 false) _ _
      generalize W8.drew = X0 at *
      have HZ0 := Lib.hid hz0
      clear hz0
      refine takeL 0 78 (.pointer (some ⟨W6.heap.size, 0, none⟩)) HS0.out rfl rfl (by kernel_rfl) (by kernel_rfl) (by kernel_rfl) (by decide) (fun _ _ _ h => h) (by kernel_rfl) ?_ ?_
      · intro w2; go_simp
      try simp only [List.setIfInBounds_toArray, List.set_cons_zero, List.set_cons_succ]
      refine takeL_S 1 79 (.slice Ac xs.length cc) [10] HS0.out rfl rfl (by kernel_rfl) (by kernel_rfl) (by kernel_rfl) (by decide) (by kernel_rfl) (fun _ _ _ h => h) (by kernel_rfl) ?_ ?_
      · intro w2 hSw; obtain ⟨g0, g1, g2, g3, g4, g5, g6, g7, g8⟩ := hSw; go_simp
      try simp only [List.setIfInBounds_toArray, List.set_cons_zero, List.set_cons_succ]
      refine takeL 3 81 (.slice (some ⟨W.heap.size + 1, 0, none⟩) 12 12) HS0.out rfl rfl (by kernel_rfl) (by kernel_rfl) (by kernel_rfl) (by decide) (fun _ _ _ h => h) (by kernel_rfl) ?_ ?_
      · intro w2; go_simp
      try simp only [List.setIfInBounds_toArray, List.set_cons_zero, List.set_cons_succ]
      refine takeL 4 82 (.int .i64 (wq : Int)) HS0.out rfl rfl (by kernel_rfl) (by kernel_rfl) (by kernel_rfl) (by decide) (fun _ _ _ h => h) (by kernel_rfl) ?_ ?_
      · intro w2; go_simp
      try simp only [List.setIfInBounds_toArray, List.set_cons_zero, List.set_cons_succ]
      refine takeL 5 83 (.pointer (some ⟨W.heap.size + 1, wq * 8, none⟩)) HS0.out rfl rfl (by kernel_rfl) (by kernel_rfl) (by kernel_rfl) (by decide) (fun _ _ _ h => h) (by kernel_rfl) ?_ ?_
      · intro w2; go_simp
      try simp only [List.setIfInBounds_toArray, List.set_cons_zero, List.set_cons_succ]
      refine takeL_S 6 84 (.agg #[.int .i64 x.kind, .int .i64 x.d, .int .i64 x.a, .int .i64 x.b, .int .i64 x.op, .int .i64 x.n, .string x.name, .slice Ax x.args.length cx]) [10] HS0.out rfl rfl (by kernel_rfl) (by kernel_rfl) (by kernel_rfl) (by decide) (by kernel_rfl) (fun _ _ _ h => h) (by kernel_rfl) ?_ ?_
      · intro w2 hSw; obtain ⟨g0, g1, g2, g3, g4, g5, g6, g7, g8⟩ := hSw; go_simp
      try simp only [List.setIfInBounds_toArray, List.set_cons_zero, List.set_cons_succ]
      refine wpAnyL_ready (rs := [2, 7]) (by kernel_rfl) (by simp) ?_
      refine AllReadyL.cons rfl (fun K hK => ?_) (AllReadyL.cons rfl (fun K hK => ?_) AllReadyL.nil)
      · have hsx : W8.heap.size ≤ X0.heap.size := HZ0.out.size
        refine step_append_any _ (by rfl) _ _ _ (by rfl) W8.heap.size 36 zi _ 8 88 Tryz.underlying39 hj0 hj1 hj2 hj3 rfl (by omega) (.slice none 0 0) 0 [] (by rfl) (World.ownsRow_nil _ _ _ _) Ac xs.length cc cssI.flatten (by rfl) HIL.out (HIN.out X0 HZ0.out) HI1.out (by unfold maxLen; omega) (by omega) hsx X0.heap.size rfl ?_
        rw [Nat.zero_add, List.nil_append]
        intro v1 X1 hown1 hgrow1 hat1
        obtain ⟨Av, cv, hv1⟩ := own_form hown1
        subst hv1
        have HZ1 : Hid (Below W8.heap.size W8 X1) := Lib.hid (HZ0.out.grown hgrow1 hsx (fun k e => by cases e))
        have HOW1 := Lib.hid hown1
        have HAT1 := Lib.hid hat1
        have HGR1 := Lib.hid hgrow1
        clear hsx hown1 hgrow1 hat1
        refine hK.out _ _ (SO.out _ HZ1.out) (fun hHeld => ?_)
        have HS1 := Lib.hid hHeld
        clear hK K hHeld
        try simp only [List.setIfInBounds_toArray, List.set_cons_zero, List.set_cons_succ]
        refine wpAnyL_ready (rs := [7]) (by kernel_rfl) (by simp) ?_
        refine AllReadyL.cons rfl (fun K hK => ?_) AllReadyL.nil
        go_simp
        refine hK.out _ _ (SO.out _ (HZ1.out.alloc HZ1.out.size _)) (fun hHeld => ?_)
        have HS2 := Lib.hid hHeld
        clear hK K hHeld
        try simp only [List.setIfInBounds_toArray, List.set_cons_zero, List.set_cons_succ]
        have hz2 : Below W8.heap.size W8 (X1.alloc (.cells #[.int .i64 x.kind, .int .i64 x.d, .int .i64 x.a, .int .i64 x.b, .int .i64 x.op, .int .i64 x.n, .string x.name, .slice Ax x.args.length cx] 36)) := HZ1.out.alloc HZ1.out.size _
        have hn2 : Blk (X1.alloc (.cells #[.int .i64 x.kind, .int .i64 x.d, .int .i64 x.a, .int .i64 x.b, .int .i64 x.op, .int .i64 x.n, .string x.name, .slice Ax x.args.length cx] 36)) X1.heap.size 36 #[.int .i64 x.kind, .int .i64 x.d, .int .i64 x.a, .int .i64 x.b, .int .i64 x.op, .int .i64 x.n, .string x.name, .slice Ax x.args.length cx] := Blk.new X1 _ _
        have hown2 : World.ownsRow (X1.alloc (.cells #[.int .i64 x.kind, .int .i64 x.d, .int .i64 x.a, .int .i64 x.b, .int .i64 x.op, .int .i64 x.n, .string x.name, .slice Ax x.args.length cx] 36)) W8.heap.size 36 8 (.slice Av xs.length cv) xs.length cssI.flatten := HOW1.out.alloc _
        generalize (X1.alloc (.cells #[.int .i64 x.kind, .int .i64 x.d, .int .i64 x.a, .int .i64 x.b, .int .i64 x.op, .int .i64 x.n, .string x.name, .slice Ax x.args.length cx] 36)) = X2 at *
        have HZ2 := Lib.hid hz2
        have HN2 := Lib.hid hn2
        have HOW2 := Lib.hid hown2
        clear hz2 hn2 hown2
        refine wpAnyL_ready (rs := [8]) (by kernel_rfl) (by simp) ?_
        refine AllReadyL.cons rfl (fun K hK => ?_) AllReadyL.nil
        have hsx : W8.heap.size ≤ X2.heap.size := HZ2.out.size
        refine step_append_any _ (by rfl) _ _ _ (by rfl) W8.heap.size 36 zi _ 8 88 Tryz.underlying39 hj0 hj1 hj2 hj3 rfl (by omega) (.slice Av xs.length cv) xs.length cssI.flatten (by rfl) HOW2.out (some ⟨X1.heap.size, 0, none⟩) 1 1 [.int .i64 x.kind, .int .i64 x.d, .int .i64 x.a, .int .i64 x.b, .int .i64 x.op, .int .i64 x.n, .string x.name, .slice Ax x.args.length cx] (by rfl) (by rfl) (.inr ⟨_, rfl, World.news_of_block HN2.out⟩) (by simp [Value.oneCell']) (by unfold maxLen; omega) (by omega) hsx X2.heap.size rfl ?_
        intro v2 X3 hown2 hgrow2 hat2
        obtain ⟨Aw, cw, hv2⟩ := own_form hown2
        subst hv2
        have HZ3 : Hid (Below W8.heap.size W8 X3) := Lib.hid (HZ2.out.grown hgrow2 hsx (fun k e => (HOW2.out.lt k e).1))
        have HOW3 := Lib.hid hown2
        have HAT3 := Lib.hid hat2
        clear hsx hown2 hgrow2 hat2
        refine hK.out _ _ (SO.out _ HZ3.out) (fun hHeld => ?_)
        have HS3 := Lib.hid hHeld
        clear hK K hHeld
        try simp only [List.setIfInBounds_toArray, List.set_cons_zero, List.set_cons_succ]
        refine takeL 9 87 (.pointer (some ⟨W6.heap.size, 0, none⟩)) HS3.out rfl rfl (by kernel_rfl) (by kernel_rfl) (by kernel_rfl) (by decide) (fun _ _ _ h => h) (by kernel_rfl) ?_ ?_
        · intro w2; go_simp
        try simp only [List.setIfInBounds_toArray, List.set_cons_zero, List.set_cons_succ]
        have hx3 := HX15.out.below HZ3.out hxl
        have zf := hx3.frozen 0
        have yc : X3.cell? ⟨W6.heap.size, 0, none⟩ = some (.slice Ac xs.length cc) := hx3.cell 0
        clear hx3
        refine wpAnyL_ready (rs := [10]) (by kernel_rfl) (by simp) ?_
        refine AllReadyL.last rfl (by kernel_rfl) (fun K hK => ?_)
        go_simp
        refine hK.out _ _ ?_
        clear hK K
        try simp only [List.setIfInBounds_toArray, List.set_cons_zero, List.set_cons_succ]
        refine wpAnyL_done (by kernel_rfl) ?_ _
        go_wp2_with fail
        go_meet
        exact HFIN.out X3 _ HZ3.out HOW3.out (fun g e => (HAT3.out g e).2)
      · go_simp
        refine hK.out _ _ (SO.out _ (HZ0.out.alloc HZ0.out.size _)) (fun hHeld => ?_)
        have HS1 := Lib.hid hHeld
        clear hK K hHeld
        try simp only [List.setIfInBounds_toArray, List.set_cons_zero, List.set_cons_succ]
        have hz1 : Below W8.heap.size W8 (X0.alloc (.cells #[.int .i64 x.kind, .int .i64 x.d, .int .i64 x.a, .int .i64 x.b, .int .i64 x.op, .int .i64 x.n, .string x.name, .slice Ax x.args.length cx] 36)) := HZ0.out.alloc HZ0.out.size _
        have hn1 : Blk (X0.alloc (.cells #[.int .i64 x.kind, .int .i64 x.d, .int .i64 x.a, .int .i64 x.b, .int .i64 x.op, .int .i64 x.n, .string x.name, .slice Ax x.args.length cx] 36)) X0.heap.size 36 #[.int .i64 x.kind, .int .i64 x.d, .int .i64 x.a, .int .i64 x.b, .int .i64 x.op, .int .i64 x.n, .string x.name, .slice Ax x.args.length cx] := Blk.new X0 _ _
        generalize (X0.alloc (.cells #[.int .i64 x.kind, .int .i64 x.d, .int .i64 x.a, .int .i64 x.b, .int .i64 x.op, .int .i64 x.n, .string x.name, .slice Ax x.args.length cx] 36)) = X1 at *
        have HZ1 := Lib.hid hz1
        have HN1 := Lib.hid hn1
        clear hz1 hn1
        refine wpAnyL_ready (rs := [2]) (by kernel_rfl) (by simp) ?_
        refine AllReadyL.cons rfl (fun K hK => ?_) AllReadyL.nil
        have hsx : W8.heap.size ≤ X1.heap.size := HZ1.out.size
        refine step_append_any _ (by rfl) _ _ _ (by rfl) W8.heap.size 36 zi _ 8 88 Tryz.underlying39 hj0 hj1 hj2 hj3 rfl (by omega) (.slice none 0 0) 0 [] (by rfl) (World.ownsRow_nil _ _ _ _) Ac xs.length cc cssI.flatten (by rfl) HIL.out (HIN.out X1 HZ1.out) HI1.out (by unfold maxLen; omega) (by omega) hsx X1.heap.size rfl ?_
        rw [Nat.zero_add, List.nil_append]
        intro v1 X2 hown1 hgrow1 hat1
        obtain ⟨Av, cv, hv1⟩ := own_form hown1
        subst hv1
        have HZ2 : Hid (Below W8.heap.size W8 X2) := Lib.hid (HZ1.out.grown hgrow1 hsx (fun k e => by cases e))
        have HOW1 := Lib.hid hown1
        have HAT1 := Lib.hid hat1
        have HGR1 := Lib.hid hgrow1
        clear hsx hown1 hgrow1 hat1
        refine hK.out _ _ (SO.out _ HZ2.out) (fun hHeld => ?_)
        have HS2 := Lib.hid hHeld
        clear hK K hHeld
        try simp only [List.setIfInBounds_toArray, List.set_cons_zero, List.set_cons_succ]
        have HN2 : Hid (Blk X2 X0.heap.size 36 #[.int .i64 x.kind, .int .i64 x.d, .int .i64 x.a, .int .i64 x.b, .int .i64 x.op, .int .i64 x.n, .string x.name, .slice Ax x.args.length cx]) := Lib.hid (HN1.out.grown HGR1.out (fun e => by cases e))
        have HOW2 := HOW1
        refine wpAnyL_ready (rs := [8]) (by kernel_rfl) (by simp) ?_
        refine AllReadyL.cons rfl (fun K hK => ?_) AllReadyL.nil
        have hsx : W8.heap.size ≤ X2.heap.size := HZ2.out.size
        refine step_append_any _ (by rfl) _ _ _ (by rfl) W8.heap.size 36 zi _ 8 88 Tryz.underlying39 hj0 hj1 hj2 hj3 rfl (by omega) (.slice Av xs.length cv) xs.length cssI.flatten (by rfl) HOW2.out (some ⟨X0.heap.size, 0, none⟩) 1 1 [.int .i64 x.kind, .int .i64 x.d, .int .i64 x.a, .int .i64 x.b, .int .i64 x.op, .int .i64 x.n, .string x.name, .slice Ax x.args.length cx] (by rfl) (by rfl) (.inr ⟨_, rfl, World.news_of_block HN2.out⟩) (by simp [Value.oneCell']) (by unfold maxLen; omega) (by omega) hsx X2.heap.size rfl ?_
        intro v2 X3 hown2 hgrow2 hat2
        obtain ⟨Aw, cw, hv2⟩ := own_form hown2
        subst hv2
        have HZ3 : Hid (Below W8.heap.size W8 X3) := Lib.hid (HZ2.out.grown hgrow2 hsx (fun k e => (HOW2.out.lt k e).1))
        have HOW3 := Lib.hid hown2
        have HAT3 := Lib.hid hat2
        clear hsx hown2 hgrow2 hat2
        refine hK.out _ _ (SO.out _ HZ3.out) (fun hHeld => ?_)
        have HS3 := Lib.hid hHeld
        clear hK K hHeld
        try simp only [List.setIfInBounds_toArray, List.set_cons_zero, List.set_cons_succ]
        refine takeL 9 87 (.pointer (some ⟨W6.heap.size, 0, none⟩)) HS3.out rfl rfl (by kernel_rfl) (by kernel_rfl) (by kernel_rfl) (by decide) (fun _ _ _ h => h) (by kernel_rfl) ?_ ?_
        · intro w2; go_simp
        try simp only [List.setIfInBounds_toArray, List.set_cons_zero, List.set_cons_succ]
        have hx3 := HX15.out.below HZ3.out hxl
        have zf := hx3.frozen 0
        have yc : X3.cell? ⟨W6.heap.size, 0, none⟩ = some (.slice Ac xs.length cc) := hx3.cell 0
        clear hx3
        refine wpAnyL_ready (rs := [10]) (by kernel_rfl) (by simp) ?_
        refine AllReadyL.last rfl (by kernel_rfl) (fun K hK => ?_)
        go_simp
        refine hK.out _ _ ?_
        clear hK K
        try simp only [List.setIfInBounds_toArray, List.set_cons_zero, List.set_cons_succ]
        refine wpAnyL_done (by kernel_rfl) ?_ _
        go_wp2_with fail
        go_meet
        exact HFIN.out X3 _ HZ3.out HOW3.out (fun g e => (HAT3.out g e).2)
    · have d0 : decide (wz < 12) = false := decide_eq_false (by omega)
      have y0 := HX15.out.frozen 1
      have y1 := HX15.out.frozen 2
      have y2 := HX15.out.frozen 3
      have y3 := HX15.out.frozen 4
      have z1 : W8.cell? ⟨W6.heap.size, 1, none⟩ = some (.int .i64 tm.kind) := HX15.out.cell 1
      have z2 : W8.cell? ⟨W6.heap.size, 2, none⟩ = some (.int .i64 tm.a) := HX15.out.cell 2
      have z3 : W8.cell? ⟨W6.heap.size, 3, none⟩ = some (.int .i64 tm.to) := HX15.out.cell 3
      have z4 : W8.cell? ⟨W6.heap.size, 4, none⟩ = some (.int .i64 tm.els) := HX15.out.cell 4
      have HEND : Hid (∀ (t : LTerm) (o : Obj), t ∈ badEnds nn → ∃ b A c, WrB raw k i base gf W6.heap.size W6 (((((W8.setCell ⟨W6.heap.size, 1, none⟩ (.int .i64 t.kind)).setCell ⟨W6.heap.size, 2, none⟩ (.int .i64 t.a)).setCell ⟨W6.heap.size, 3, none⟩ (.int .i64 t.to)).setCell ⟨W6.heap.size, 4, none⟩ (.int .i64 t.els)).alloc o) b A c) := Lib.hid (fun t o ht => by
        have hb4 : Below W6.heap.size W6 ((((W8.setCell ⟨W6.heap.size, 1, none⟩ (.int .i64 t.kind)).setCell ⟨W6.heap.size, 2, none⟩ (.int .i64 t.a)).setCell ⟨W6.heap.size, 3, none⟩ (.int .i64 t.to)).setCell ⟨W6.heap.size, 4, none⟩ (.int .i64 t.els)) := (((H8.out.setCell (Nat.le_refl _) _).setCell (Nat.le_refl _) _).setCell (Nat.le_refl _) _).setCell (Nat.le_refl _) _
        have hx4 := (((HX15.out.set_ 1 (.int .i64 t.kind)).set_ 2 (.int .i64 t.a)).set_ 3 (.int .i64 t.to)).set_ 4 (.int .i64 t.els)
        exact wrb_end hk3 hn10 ht hi6 HSI.out (fun b hb' => ⟨hb'.1, by have := hb'.2.1; omega, hb'.2.2, by have := hb'.2.1; omega⟩) ((Keeps.of_below (H6.out.trans ((hb4.alloc hb4.size o).mono hW68))).mono fun b hb' => hb'.2.1) (hb4.alloc hb4.size o) (hx4.alloc o))
      rcases (by omega : wz = 12 ∨ wz = 13 ∨ wz = 14) with h | h | h
      all_goals clear hwz
      all_goals subst h
      all_goals go_wp2_with fail
      all_goals go_meet
      · exact HEND.out ⟨0, 0, 0, 0⟩ _ (by simp [badEnds])
      · exact HEND.out ⟨1, 0, nn, 0⟩ _ (by simp [badEnds])
      · exact HEND.out ⟨3, -nn, 0, 0⟩ _ (by simp [badEnds])
  case rest =>
    obtain ⟨b, A2, c2, hwb⟩ := hcut
    have HFEW := Lib.hid hwb.few
    have HBADB := Lib.hid hwb.bad
    have HINS := Lib.hid hwb.ins
    have hBel : Below W6.heap.size W6 wc := hwb.below
    have hBlk := hwb.blk
    clear hwb HBAD HSI H8 HX15
    have hBW : Below W.heap.size W wc := H6.out.trans (hBel.mono H6.out.size)
    have htB := hBlk.lt
    have hWc : W.heap.size ≤ wc.heap.size := hBW.size
    have hW6c : W6.heap.size ≤ wc.heap.size := hBel.size
    obtain ⟨tB, htb⟩ : ∃ tB, tB = W6.heap.size := ⟨_, rfl⟩
    rw [← htb] at hBlk HINS htB ⊢
    have hWtB : W.heap.size < tB := by omega
    have hU4 := HU.out.below hBW hul
    have hO4 : OwnL wc base 45 4 RFlow (.slice (some ⟨gf, 0, none⟩) 3 cf) (fitFlows raw 3) css := HO.out.below mono_flow hBW
    have hlen3 : (fitFlows raw 3).length = 3 := by simp [fitFlows]
    have hkc : k < css.length := by rw [hO4.len, hlen3]; exact hk3
    have hel := HO.out.elems k hkc (by rw [hlen3]; exact hk3)
    have hfk : (fitFlows raw 3)[k]'(by rw [hlen3]; exact hk3) = fitFl raw k := by simp [fitFlows]
    have hF3 : (W.cell? ⟨gf, k * 4 + 3, none⟩ = some (.slice (some ⟨bb, ob, none⟩) (fitFl raw k).blocks.length cb)) := HF3.out
    rw [hfk] at hel
    obtain ⟨vb, hcs, _⟩ := hel
    have hvb : vb = .slice (some ⟨bb, ob, none⟩) (fitFl raw k).blocks.length cb := by
      have h := HO.out.cell (i := 3) hkc (by rw [hcs]; rfl)
      rw [hF3] at h
      exact (Option.some.inj h).symm
    subst hvb
    have q0 : wc.cell? ⟨gf, k * 4, none⟩ = some (.string (fitFl raw k).name) := hO4.cell (i := 0) hkc (by rw [hcs]; rfl)
    have q1 : wc.cell? ⟨gf, k * 4 + 1, none⟩ = some (.int .i64 (fitFl raw k).params) := hO4.cell (i := 1) hkc (by rw [hcs]; rfl)
    have q2 : wc.cell? ⟨gf, k * 4 + 2, none⟩ = some (.int .i64 (fitFl raw k).values) := hO4.cell (i := 2) hkc (by rw [hcs]; rfl)
    have q3 : wc.cell? ⟨gf, k * 4 + 3, none⟩ = some (.slice (some ⟨bb, ob, none⟩) (fitFl raw k).blocks.length cb) := hO4.cell (i := 3) hkc (by rw [hcs]; rfl)
    have u1 : wc.cell? ⟨ub, 1, none⟩ = some (.slice (some ⟨gf, 0, none⟩) 3 cf) := hU4.cell 1
    obtain ⟨f, hf⟩ : ∃ f, f = fitFl raw k := ⟨_, rfl⟩
    rw [← hf] at q0 q1 q2 q3 hpos hle hi3 hi3i HSB HBADB
    have HF := Lib.hid hf
    have HBW := Lib.hid hBW
    have HBLK := Lib.hid hBlk
    have HBEL := Lib.hid hBel
    clear hBel hBlk hBW hU4 hO4 hkc hfk hF3 hcs hf hlen3 htb HF3
    go_upto_region 13 with fail
    refine wp_world ?_
    intro W9 hW9
    have hB9 : Below wc.heap.size wc W9 := by rw [← hW9]; exact below1 _ _
    have hF9 : Blk W9 wc.heap.size 45 #[.string f.name, .int .i64 f.params, .int .i64 f.values, .slice (some ⟨bb, ob, none⟩) f.blocks.length cb] := by rw [← hW9]; exact Blk.new wc _ _
    clear hW9 q0 q1 q2 q3 u1
    have hBW9 : Below W.heap.size W W9 := HBW.out.trans (hB9.mono hWc)
    have hsb : SlR W9 (fun b => base ≤ b ∧ b < W.heap.size ∧ b ≠ gf) 5 (RBlock W9 (fun b => base ≤ b ∧ b < W.heap.size ∧ b ≠ gf)) (.slice (some ⟨bb, ob, none⟩) f.blocks.length cb) f.blocks := HSB.out.imp (fun _ h => h) (fun b h => hBW9.block b h.2.1) (fun _ _ _ r => r.imp (fun _ h => h) (fun b h => hBW9.block b h.2.1))
    obtain ⟨css0, hcl, hce, hcR, hcC, _⟩ := hsb.rows hpos
    have hones : ∀ u ∈ css0.flatten, u.oneCell' = true := flatten_ones fun cs hc => by
      obtain ⟨j, hj, rfl⟩ := List.getElem_of_mem hc
      exact block_ones (hcR j hj (by omega))
    have hfl : css0.flatten.length = f.blocks.length * 5 := by rw [flatten_len hce, hcl]
    have k3 : W9.cell? ⟨wc.heap.size, 3, none⟩ = some (.slice (some ⟨bb, ob, none⟩) f.blocks.length cb) := hF9.cell 3
    have z3 := hF9.frozen 3
    have hfl4 : wc.heap.size < W9.heap.size := hF9.lt
    have hne : (Value.slice none 0 0).ownBlock ≠ some wc.heap.size := by simp [Value.ownBlock]
    have hbase : base ≤ W9.heap.size := by omega
    obtain ⟨z0, hi0, hz0, hz1, hz2⟩ := info_parts info_block
    have HNEWS := Lib.hid hcC.news
    have HCE := Lib.hid hce
    have HCR := Lib.hid hcR
    have HCL := Lib.hid hcl
    have HB9 := Lib.hid hB9
    have HF9 := Lib.hid hF9
    have HONES := Lib.hid hones
    have HFL := Lib.hid hfl
    clear hsb hcC hce hcR hcl hB9 hF9 hones hfl hBW9
    go_upto_region 14 with (at_builtin; refine wpList_append_lies _ rfl _ _ _ rfl base 43 z0 _ 5 56 Tryz.underlying22 hi0 hz0 hz1 hz2 rfl (by decide) (.slice none 0 0) 0 [] rfl (World.ownsRow_nil _ _ _ _) ⟨bb, ob, none⟩ f.blocks.length cb css0.flatten rfl HFL.out HNEWS.out HONES.out hpos (by unfold maxLen; omega) (by omega) hbase W9.heap.size rfl ?_; intro g cap w5 hown5 hgrow hat hlt5; have hF5 := HF9.out.grown hgrow hne; have k5 : w5.cell? ⟨wc.heap.size, 3, none⟩ = some (.slice (some ⟨bb, ob, none⟩) f.blocks.length cb) := hF5.cell 3; have z5 := hF5.frozen 3)
    refine wp_world ?_
    intro W5 hW5
    simp only [Nat.zero_add, List.nil_append] at hown5 hW5
    have hg5 : g = W9.heap.size := by
      rcases hat with h | h
      · cases h
      · exact h
    have hB45 : Below W9.heap.size W9 w5 := (Below.refl _ _).grown hgrow (Nat.le_refl _) (fun k e => by cases e)
    have hk5 : Keeps (fun b => b < W9.heap.size ∧ b ≠ wc.heap.size) W9 W5 := by
      rw [← hW5]
      exact Keeps.set (fun b hb => hB45.block b hb.1) (fun b hb => hb.2) _
    have hsz5 : W5.heap.size = w5.heap.size := by rw [← hW5]; simp [World.setCell]
    have hB5 : Below wc.heap.size wc W5 := by
      rw [← hW5]; exact (HB9.out.trans (hB45.mono HB9.out.size)).setCell (Nat.le_refl _) _
    have hF5 : Blk W5 wc.heap.size 45 #[.string f.name, .int .i64 f.params, .int .i64 f.values, .slice (some ⟨g, 0, none⟩) f.blocks.length cap] := by rw [← hW5]; exact hF5.set_ 3 _
    have hwg : wc.heap.size ≠ g := by omega
    have hown : W5.ownsRow base 43 5 (.slice (some ⟨g, 0, none⟩) f.blocks.length cap) f.blocks.length css0.flatten := by
      rw [← hW5]
      exact own_keep hown5 fun g' e => Below.heap_setCell _ _ _ g' (by have e' : g = g' := (by simpa [Value.ownBlock] using e); show g' ≠ wc.heap.size; omega)
    have hgl : g < W5.heap.size := by omega
    have hrow : OwnL W5 base 43 5 (RBut gf) (.slice (some ⟨g, 0, none⟩) f.blocks.length cap) f.blocks css0 :=
      OwnL.copied (mono_but gf) (w := W9) (ok := fun b => base ≤ b ∧ b < W.heap.size ∧ b ≠ gf) hown rfl HCL.out HCE.out (fun i h1 h2 => (HCR.out i h1 h2).imp (fun b hb => ⟨hb, hb.2.2⟩) (Keeps.refl _ _)) (fun b hb => ⟨hb.1, by have := hb.2.1; omega, by have := hb.2.1; omega⟩) (hk5.mono fun b hb => ⟨by have := hb.2.1; omega, by have := hb.2.1; omega⟩)
    have hcw : wc.heap.size < W5.heap.size := hF5.lt
    have c3 : W5.cell? ⟨wc.heap.size, 3, none⟩ = some (.slice (some ⟨g, 0, none⟩) f.blocks.length cap) := hF5.cell 3
    have hX5 := HBLK.out.below hB5 htB
    have x0 : W5.cell? ⟨tB, 0, none⟩ = some (.slice A2 b.ins.length c2) := hX5.cell 0
    have x1 : W5.cell? ⟨tB, 1, none⟩ = some (.int .i64 b.term.kind) := hX5.cell 1
    have x2 : W5.cell? ⟨tB, 2, none⟩ = some (.int .i64 b.term.a) := hX5.cell 2
    have x3 : W5.cell? ⟨tB, 3, none⟩ = some (.int .i64 b.term.to) := hX5.cell 3
    have x4 : W5.cell? ⟨tB, 4, none⟩ = some (.int .i64 b.term.els) := hX5.cell 4
    have r0 := hrow.frozen (i * 5)
    have r1 := hrow.frozen (i * 5 + 1)
    have r2 := hrow.frozen (i * 5 + 2)
    have r3 := hrow.frozen (i * 5 + 3)
    have r4 := hrow.frozen (i * 5 + 4)
    have hic5 : i < css0.length := by rw [HCL.out]; exact hi3
    have hci : (css0[i]).length = 5 := HCE.out _ (List.getElem_mem _)
    obtain ⟨d0, d1, d2, d3, d4, hd⟩ : ∃ d0 d1 d2 d3 d4, css0[i] = [d0, d1, d2, d3, d4] := by
      match css0[i], hci with
      | [d0, d1, d2, d3, d4], _ => exact ⟨_, _, _, _, _, rfl⟩
    have e0 : W5.cell? ⟨g, i * 5, none⟩ = some d0 := hrow.cell (i := 0) hic5 (by rw [hd]; rfl)
    have e1 : W5.cell? ⟨g, i * 5 + 1, none⟩ = some d1 := hrow.cell (i := 1) hic5 (by rw [hd]; rfl)
    have e2 : W5.cell? ⟨g, i * 5 + 2, none⟩ = some d2 := hrow.cell (i := 2) hic5 (by rw [hd]; rfl)
    have e3 : W5.cell? ⟨g, i * 5 + 3, none⟩ = some d3 := hrow.cell (i := 3) hic5 (by rw [hd]; rfl)
    have e4 : W5.cell? ⟨g, i * 5 + 4, none⟩ = some d4 := hrow.cell (i := 4) hic5 (by rw [hd]; rfl)
    have hgc : wc.heap.size < g := by omega
    have HB5 := Lib.hid hB5
    have HF5 := Lib.hid hF5
    have HROW := Lib.hid hrow
    clear hg5 hW5 hown5 hgrow hat hlt5 hB45 hk5 hsz5 hB5 hF5 hrow hown HNEWS HCE HCR HONES HFL k3 z3 k5 z5 hne hci hd hi0 hz0 hz1 hz2 hX5 hbase
    go_upto_region 15 with fail
    refine wp_world ?_
    intro W7 hW7
    have hgw : wc.heap.size ≤ g := by omega
    have hB7 : Below wc.heap.size wc W7 := by
      rw [← hW7]; exact ((((HB5.out.setCell hgw _).setCell hgw _).setCell hgw _).setCell hgw _).setCell hgw _
    have hF7 : Blk W7 wc.heap.size 45 #[.string f.name, .int .i64 f.params, .int .i64 f.values, .slice (some ⟨g, 0, none⟩) f.blocks.length cap] := by
      rw [← hW7]; exact ((((HF5.out.far hwg _).far hwg _).far hwg _).far hwg _).far hwg _
    have hnew : RBut gf W5 (okOwn base W5 (.slice (some ⟨g, 0, none⟩) f.blocks.length cap)) [.slice A2 b.ins.length c2, .int .i64 b.term.kind, .int .i64 b.term.a, .int .i64 b.term.to, .int .i64 b.term.els] b := by
      have hs5 : wc.heap.size ≤ W5.heap.size := HB5.out.size
      have hsub : ∀ q, (base ≤ q ∧ q < wc.heap.size ∧ q ≠ gf ∧ q ≠ tB) → (okOwn base W5 (.slice (some ⟨g, 0, none⟩) f.blocks.length cap) q ∧ q ≠ gf) := fun q hq => ⟨⟨hq.1, by omega, fun e => by
        have e' : g = q := (by simpa [Value.ownBlock] using e)
        omega⟩, hq.2.2.1⟩
      have hkp : Keeps (fun q => base ≤ q ∧ q < wc.heap.size ∧ q ≠ gf ∧ q ≠ tB) wc W5 := fun q hq => HB5.out.block q hq.2.1
      exact ⟨_, rfl, HINS.out.imp hsub hkp (fun _ _ _ r => r.imp hsub hkp)⟩
    have hrow7 : OwnL W7 base 43 5 (RBut gf) (.slice (some ⟨g, 0, none⟩) f.blocks.length cap) (f.blocks.set i b) (css0.set i [.slice A2 b.ins.length c2, .int .i64 b.term.kind, .int .i64 b.term.a, .int .i64 b.term.to, .int .i64 b.term.els]) := by
      rw [← hW7]
      exact HROW.out.put5 (mono_but gf) hi3 hnew
    have hBW7 : Below W.heap.size W W7 := HBW.out.trans (hB7.mono hWc)
    have hO7 : OwnL W7 base 45 4 RFlow (.slice (some ⟨gf, 0, none⟩) 3 cf) (fitFlows raw 3) css := HO.out.below mono_flow hBW7
    have hlen3 : (fitFlows raw 3).length = 3 := by simp [fitFlows]
    have hkc : k < css.length := by rw [hO7.len, hlen3]; exact hk3
    have hel7 := hO7.elems k hkc (by rw [hlen3]; exact hk3)
    generalize (fitFlows raw 3)[k]'(by rw [hlen3]; exact hk3) = fk at hel7
    obtain ⟨vb7, hcs7, hbl7⟩ := hel7
    have q0 : W7.cell? ⟨gf, k * 4, none⟩ = some _ := hO7.cell (i := 0) hkc (by rw [hcs7]; rfl)
    have q1 : W7.cell? ⟨gf, k * 4 + 1, none⟩ = some _ := hO7.cell (i := 1) hkc (by rw [hcs7]; rfl)
    have q2 : W7.cell? ⟨gf, k * 4 + 2, none⟩ = some _ := hO7.cell (i := 2) hkc (by rw [hcs7]; rfl)
    have q3 : W7.cell? ⟨gf, k * 4 + 3, none⟩ = some vb7 := hO7.cell (i := 3) hkc (by rw [hcs7]; rfl)
    have y0 := hO7.frozen (k * 4)
    have y1 := hO7.frozen (k * 4 + 1)
    have y2 := hO7.frozen (k * 4 + 2)
    have y3 := hO7.frozen (k * 4 + 3)
    have hU7 := HU.out.below hBW7 hul
    have u1 : W7.cell? ⟨ub, 1, none⟩ = some (.slice (some ⟨gf, 0, none⟩) 3 cf) := hU7.cell 1
    have c0 : W7.cell? ⟨wc.heap.size, 0, none⟩ = some (.string f.name) := hF7.cell 0
    have c1' : W7.cell? ⟨wc.heap.size, 1, none⟩ = some (.int .i64 f.params) := hF7.cell 1
    have c2' : W7.cell? ⟨wc.heap.size, 2, none⟩ = some (.int .i64 f.values) := hF7.cell 2
    have c3 : W7.cell? ⟨wc.heap.size, 3, none⟩ = some (.slice (some ⟨g, 0, none⟩) f.blocks.length cap) := hF7.cell 3
    have HB7 := Lib.hid hB7
    have HBW7 := Lib.hid hBW7
    have HROW7 := Lib.hid hrow7
    have HO7 := Lib.hid hO7
    have HU7 := Lib.hid hU7
    have hg7 : g < W7.heap.size := (hrow7.lt g rfl).2
    have hgfg : gf < g := by omega
    clear hB7 hF7 hBW7 hrow7 hO7 hU7 hW7 hnew hkc hcs7 hbl7 hgl e0 e1 e2 e3 e4 r0 r1 r2 r3 r4 x0 x1 x2 x3 x4 HF5 HROW HB5 hlen3
    go_upto_region 16 with fail
    refine wp_world ?_
    intro W9' hW9
    have hneg : ∀ (j b : Nat), b ≠ gf → b ≠ (⟨gf, j, none⟩ : Addr).block := fun _ _ h => h
    have hK79 : Keeps (fun b => b ≠ gf) W7 W9' := by
      rw [← hW9]; exact ((((Keeps.refl _ _).set (hneg _) _).set (hneg _) _).set (hneg _) _).set (hneg _) _
    have hflx : RFlow W7 (okOwn base W7 (.slice (some ⟨gf, 0, none⟩) 3 cf)) [.string f.name, .int .i64 f.params, .int .i64 f.values, .slice (some ⟨g, 0, none⟩) f.blocks.length cap] (wrF f i b) := by
      refine ⟨_, rfl, ?_⟩
      have hlen' : (f.blocks.set i b).length = f.blocks.length := List.length_set
      have hrow7 := HROW7.out
      rw [← hlen'] at hrow7 ⊢
      refine hrow7.slr_in (fun g' e => ?_) (fun cs x hx => hx.imp (fun b hb => ⟨hb.1.1, hb.1.2.1, fun e => hb.2 ?_⟩) (Keeps.refl _ _))
      · have e' : g = g' := (by simpa [Value.ownBlock] using e)
        subst e'
        exact ⟨by omega, hg7, fun e => by
          have e2 : gf = g := (by simpa [Value.ownBlock] using e)
          omega⟩
      · have e2 : gf = b := (by simpa [Value.ownBlock] using e)
        exact e2.symm
    have hl3 : (fitFlows raw 3).length = 3 := rfl
    have hO9 : OwnL W9' base 45 4 RFlow (.slice (some ⟨gf, 0, none⟩) 3 cf) ((fitFlows raw 3).set k (wrF f i b)) (css.set k [.string f.name, .int .i64 f.params, .int .i64 f.values, .slice (some ⟨g, 0, none⟩) f.blocks.length cap]) := by
      rw [← hW9]
      have hO7 : OwnL W7 base 45 4 RFlow (.slice (some ⟨gf, 0, none⟩) (fitFlows raw 3).length cf) (fitFlows raw 3) css := by
        rw [hl3]; exact HO7.out
      have h := hO7.put4 mono_flow (j := k) (x := wrF f i b) (by simp [fitFlows]; omega) (c0 := .string f.name) (c1 := .int .i64 f.params) (c2 := .int .i64 f.values) (c3 := .slice (some ⟨g, 0, none⟩) f.blocks.length cap) (by rw [hl3]; exact hflx)
      rw [hl3] at h
      exact h
    have hkW9 : Keeps (fun b => b < W.heap.size ∧ b ≠ gf) W W9' := ((Keeps.of_below HBW7.out).mono fun b hb => hb.1).trans (hK79.mono fun b hb => hb.2)
    have hsz9 : W7.heap.size ≤ W9'.heap.size := by rw [← hW9]; simp [World.setCell]
    have hA9 : SlR W9' (· < W9'.heap.size) 2 RArr (.slice A1 (fitU raw).arrays.length c1) (fitU raw).arrays := HA4.out.imp (fun b hb => by have := HBW7.out.size; have hb' : b < base := hb; omega) (hkW9.mono fun b hb => ⟨by have hb' : b < base := hb; omega, by have hb' : b < base := hb; omega⟩) (fun _ _ _ r => r)
    have hU9 := HU7.out.keep (hK79 ub (by omega))
    have hB9 : Below w.heap.size w W9' := by
      have hb7 := HB.out.trans (HBW7.out.mono HB.out.size)
      have hgw2 : w.heap.size ≤ gf := by omega
      rw [← hW9]; exact (((hb7.setCell hgw2 _).setCell hgw2 _).setCell hgw2 _).setCell hgw2 _
    have hF9 := ownL_slr hO9
    rw [HF.out] at hF9
    have hbadb := HBADB.out
    rw [HF.out] at hbadb hi3
    have HC := Lib.hid (fun (X : World) (hb : Below W9'.heap.size W9' X) => wr_check raw k i b hk3 hi3 HFEW.out hbadb A1 (some ⟨gf, 0, none⟩) c1 cf X (hA9.imp (fun _ h => Nat.lt_of_lt_of_le h hb.size) (fun b h => hb.block b h) (fun _ _ _ r => r)) (hF9.imp (fun _ h => Nat.lt_of_lt_of_le h hb.size) (fun b h => hb.block b h) (fun _ _ _ r => r.imp (fun _ h => Nat.lt_of_lt_of_le h hb.size) (fun b h => hb.block b h))))
    have u0 : W9'.cell? ⟨ub, 0, none⟩ = some (.slice A1 (fitU raw).arrays.length c1) := hU9.cell 0
    have u1 : W9'.cell? ⟨ub, 1, none⟩ = some (.slice (some ⟨gf, 0, none⟩) 3 cf) := hU9.cell 1
    have HU9 := Lib.hid hU9
    have HB9' := Lib.hid hB9
    have hul9 := hU9.lt
    clear hneg hK79 hflx hl3 hO9 hkW9 hA9 hU9 hB9 hW9 q0 q1 q2 q3 y0 y1 y2 y3 c0 c1' c2' c3 hF9 hbadb hsz9
    go_upto_region 17 with (go_at_call 22; refine (HC.out _ (Below.refl _ _)).mono ?_; rintro e w6 ⟨rfl, hb6⟩)
    refine wp_world ?_
    intro W10 hW10
    have hB10 : Below W9'.heap.size W9' W10 := by rw [← hW10]; exact hb6.alloc hb6.size _
    have hR10 : Blk W10 w6.heap.size 52 #[.int .i64 (k : Int), .int .i64 (i : Int)] := by rw [← hW10]; exact Blk.new w6 _ _
    have hU10 := HU9.out.below hB10 hul9
    have v0 : W10.cell? ⟨ub, 0, none⟩ = some (.slice A1 (fitU raw).arrays.length c1) := hU10.cell 0
    have v1 : W10.cell? ⟨ub, 1, none⟩ = some (.slice (some ⟨gf, 0, none⟩) 3 cf) := hU10.cell 1
    have hwl : w6.heap.size < W10.heap.size := hR10.lt
    have HPB := Lib.hid (print_bad (.slice A1 (fitU raw).arrays.length c1) (.slice (some ⟨gf, 0, none⟩) 3 cf) ⟨_, _, _, _, _, _, rfl, rfl⟩ W10 (fun X hX => (HC.out X (hB10.trans (hX.mono hB10.size))).mono fun e X' he => ⟨⟨_, _, he.1⟩, he.2⟩))
    have HB10 := Lib.hid hB10
    have HR10 := Lib.hid hR10
    clear hW10 hB10 hR10 hU10 u0 u1 hb6 HC
    go_upto_region 18 with (go_at_call 15; refine HPB.out.mono ?_; rintro e w7 ⟨rfl, hb7⟩)
    have hR11 := HR10.out.below hb7 hwl
    have v0' : w7.cell? ⟨w6.heap.size, 0, none⟩ = some (.int .i64 (k : Int)) := hR11.cell 0
    have v1' : w7.cell? ⟨w6.heap.size, 1, none⟩ = some (.int .i64 (i : Int)) := hR11.cell 1
    have HB11 := Lib.hid hb7
    clear hR11 hb7 HPB v0 v1
    have heqa := eq_at (k : Int) (i : Int) w7
    go_wp2
    go_ret
    exact ⟨rfl, HB9'.out.trans ((HB10.out.trans (HB11.out.mono HB10.out.size)).mono HB9'.out.size)⟩
end Go.Proofs.YtnpnhdmfdhnmfaaGreatDoor
