/- The law CheckWrong: one wrong statement, put behind all others of a function, is told, at its place. Printed by wip/gen_trlwrong.py. -/
import Derived.Test.YtmignlclfbaifaaGreatTrLBad
import Derived.Test.YtmignlclfbaifaaGreatTrLCount
namespace Go.Proofs.YtmignlclfbaifaaGreat
open Go.RowKit

set_option maxRecDepth 100000 in
set_option maxHeartbeats 8000000 in
theorem checkWrong_walk (v : Value) (which what : Int) (l : List Int) (hI : ∀ x ∈ l, I64 x) (W0 : World) (hraw0 : SlR W0 (· < W0.heap.size) 1 RInt v l) (ht1 : I64 which) (ht2 : I64 what) :
    Calls Tryz.prog 5 #[v, .int .i64 which, .int .i64 what] W0 fun e w' => e = .returned (.bool true) ∧ Below W0.heap.size W0 w' := by
  obtain ⟨Ar, cr, hv, _, _⟩ := hraw0.val
  subst hv
  have hraw := hraw0
  clear hraw0
  have HT1 := Lib.hid ht1
  have HT2 := Lib.hid ht2
  clear ht1 ht2
  go_enter Tryz.func5, Tryz.ntmps5
  go_upto_region 2 with (go_at_call 9; refine (awake5_any W0).mono ?_; rintro e W1 ⟨rfl, hb1⟩)
  have hraw1 : SlR W1 (· < W1.heap.size) 1 RInt (.slice Ar l.length cr) l := hb_slr hraw hb1
  have HPR := Lib.hid (prog_any l Ar cr W1 hraw1 hI)
  have HB1 := Lib.hid hb1
  clear hraw hraw1 hb1
  go_upto_region 3 with (go_at_call 11; refine HPR.out.mono ?_; intro e W2 hp; obtain ⟨p, A1, c1, g, c2, B3, lo, css, rfl, hb2, hlo, hin2⟩ := hp.inn)
  refine wp_world ?_
  intro W hW
  have hb : Below W2.heap.size W2 W := by rw [← hW]; exact below1 _ _
  have hp : Blk W W2.heap.size 27 #[.slice A1 p.arrays.length c1, .slice (some ⟨g, 0, none⟩) p.funcs.length c2] := by rw [← hW]; exact Blk.new _ _ _
  have hB : Below W0.heap.size W0 W := HB1.out.trans ((hb2.trans (hb.mono hb2.size)).mono HB1.out.size)
  have hin := hin2.below hb
  have hg2 := hin2.row.row.lt g rfl
  have hlo3 := hin2.low
  obtain ⟨pb, hpb⟩ : ∃ b, W2.heap.size = b := ⟨_, rfl⟩
  rw [hpb] at hp hg2 ⊢
  have hpos := hin.gen.pos
  have HORD : Hid (W0.heap.size ≤ lo ∧ lo ≤ g ∧ g < pb ∧ pb < W.heap.size) := Lib.hid ⟨Nat.le_trans HB1.out.size hlo, by have := hg2.1; omega, hg2.2, hp.lt⟩
  obtain ⟨na, hna⟩ : ∃ n, n = p.arrays.length := ⟨_, rfl⟩
  obtain ⟨nf, hnf⟩ : ∃ n, n = p.funcs.length := ⟨_, rfl⟩
  have hnf3 : nf ≤ 3 := by rw [hnf]; exact hin.gen.few.1
  have hnf0 : 0 < nf := by rw [hnf]; exact hpos
  have HIN := Lib.hid hin
  have HNA := Lib.hid hna
  have HNF := Lib.hid hnf
  have HB := Lib.hid hB
  rw [← hna, ← hnf] at hp
  rw [← hna, ← hnf]
  have HP := Lib.hid hp
  obtain ⟨k, hk, -, hpk⟩ := pick5_n which HT1.out nf hnf0
  have HPK := Lib.hid hpk
  obtain ⟨i, hi, -, hpi⟩ := pick5_n what HT2.out 8 (by omega)
  have HPI := Lib.hid hpi
  have p1 := hp.cell 1
  clear hW hb hp hB hin hin2 hb2 hlo hg2 hlo3 hpb hna hnf hpos hpk hpi HB1 HPR HT1 HT2
  go_upto_region 4 with (go_at_call 19; refine (HPK.out _).mono ?_; rintro e W4 ⟨rfl, hw⟩; subst hw)
  clear p1
  go_upto_region 9 with fail
  refine wp_world ?_
  intro Wb hWb
  have x0 : Blk Wb (W.heap.size) 42 #[.int .i64 1, .int .i64 0, .int .i64 1, .string ⟨#[]⟩, .slice none 0 0] := by rw [← hWb]; exact (((((((((((((Blk.new _ _ _).alloc _).alloc _).alloc _).alloc _).alloc _).alloc _).alloc _).alloc _).alloc _).alloc _).alloc _).alloc _).alloc _
  have x1 : Blk Wb (W.heap.size + 1) 42 #[.int .i64 2, .int .i64 0, .int .i64 0, .string ⟨#[115, 116, 114, 97, 110, 103, 101]⟩, .slice none 0 0] := by rw [← hWb]; exact ((((((((((((Blk.new_at _ _ _ (by simp)).alloc _).alloc _).alloc _).alloc _).alloc _).alloc _).alloc _).alloc _).alloc _).alloc _).alloc _).alloc _
  have x2 : Blk Wb (W.heap.size + 1 + 1) 42 #[.int .i64 1, .int .i64 0, .int .i64 1, .string ⟨#[]⟩, .slice none 0 0] := by rw [← hWb]; exact (((((((((((Blk.new_at _ _ _ (by simp)).alloc _).alloc _).alloc _).alloc _).alloc _).alloc _).alloc _).alloc _).alloc _).alloc _).alloc _
  have x3 : Blk Wb (W.heap.size + 1 + 1 + 1) 42 #[.int .i64 5, .int .i64 0, .int .i64 0, .string ⟨#[109, 97, 105, 110]⟩, .slice (some ⟨W.heap.size + 1 + 1, 0, none⟩) 1 1] := by rw [← hWb]; exact ((((((((((Blk.new_at _ _ _ (by simp)).alloc _).alloc _).alloc _).alloc _).alloc _).alloc _).alloc _).alloc _).alloc _).alloc _
  have x4 : Blk Wb (W.heap.size + 1 + 1 + 1 + 1) 42 #[.int .i64 1, .int .i64 0, .int .i64 1, .string ⟨#[]⟩, .slice none 0 0] := by rw [← hWb]; exact (((((((((Blk.new_at _ _ _ (by simp)).alloc _).alloc _).alloc _).alloc _).alloc _).alloc _).alloc _).alloc _).alloc _
  have x5 : Blk Wb (W.heap.size + 1 + 1 + 1 + 1 + 1) 42 #[.int .i64 1, .int .i64 0, .int .i64 1, .string ⟨#[]⟩, .slice none 0 0, .int .i64 1, .int .i64 0, .int .i64 1, .string ⟨#[]⟩, .slice none 0 0] := by rw [← hWb]; exact ((((((((Blk.new_at _ _ _ (by simp)).alloc _).alloc _).alloc _).alloc _).alloc _).alloc _).alloc _).alloc _
  have x6 : Blk Wb (W.heap.size + 1 + 1 + 1 + 1 + 1 + 1) 42 #[.int .i64 2, .int .i64 0, .int .i64 0, .string ⟨#[115, 116, 114, 97, 110, 103, 101]⟩, .slice none 0 0] := by rw [← hWb]; exact (((((((Blk.new_at _ _ _ (by simp)).alloc _).alloc _).alloc _).alloc _).alloc _).alloc _).alloc _
  have x7 : Blk Wb (W.heap.size + 1 + 1 + 1 + 1 + 1 + 1 + 1) 42 #[.int .i64 5, .int .i64 0, .int .i64 0, .string ⟨#[109, 97, 105, 110]⟩, .slice (some ⟨W.heap.size + 1 + 1, 0, none⟩) 1 1] := by rw [← hWb]; exact ((((((Blk.new_at _ _ _ (by simp)).alloc _).alloc _).alloc _).alloc _).alloc _).alloc _
  have x8 : Blk Wb (W.heap.size + 1 + 1 + 1 + 1 + 1 + 1 + 1 + 1) 42 #[.int .i64 2, .int .i64 0, .int .i64 0, .string ⟨#[115, 116, 114, 97, 110, 103, 101]⟩, .slice none 0 0] := by rw [← hWb]; exact (((((Blk.new_at _ _ _ (by simp)).alloc _).alloc _).alloc _).alloc _).alloc _
  have x9 : Blk Wb (W.heap.size + 1 + 1 + 1 + 1 + 1 + 1 + 1 + 1 + 1) 42 #[.int .i64 6, .int .i64 0, .int .i64 0, .string ⟨#[115, 116, 114, 97, 110, 103, 101]⟩, .slice (some ⟨W.heap.size + 1 + 1 + 1 + 1 + 1 + 1 + 1 + 1, 0, none⟩) 1 1] := by rw [← hWb]; exact ((((Blk.new_at _ _ _ (by simp)).alloc _).alloc _).alloc _).alloc _
  have x10 : Blk Wb (W.heap.size + 1 + 1 + 1 + 1 + 1 + 1 + 1 + 1 + 1 + 1) 42 #[.int .i64 2, .int .i64 0, .int .i64 0, .string ⟨#[115, 116, 114, 97, 110, 103, 101]⟩, .slice none 0 0] := by rw [← hWb]; exact (((Blk.new_at _ _ _ (by simp)).alloc _).alloc _).alloc _
  have x11 : Blk Wb (W.heap.size + 1 + 1 + 1 + 1 + 1 + 1 + 1 + 1 + 1 + 1 + 1) 42 #[.int .i64 5, .int .i64 0, .int .i64 0, .string ⟨#[115, 116, 114, 97, 110, 103, 101]⟩, .slice (some ⟨W.heap.size + 1 + 1 + 1 + 1 + 1 + 1 + 1 + 1 + 1 + 1, 0, none⟩) 1 1] := by rw [← hWb]; exact ((Blk.new_at _ _ _ (by simp)).alloc _).alloc _
  have x12 : Blk Wb (W.heap.size + 1 + 1 + 1 + 1 + 1 + 1 + 1 + 1 + 1 + 1 + 1 + 1) 45 #[.int .i64 5, .string ⟨#[]⟩, .slice none 0 0, .slice none 0 0, .slice none 0 0, .int .i64 6, .string ⟨#[]⟩, .slice none 0 0, .slice none 0 0, .slice none 0 0, .int .i64 1, .string ⟨#[115, 116, 114, 97, 110, 103, 101]⟩, .slice (some ⟨W.heap.size + 1 + 1 + 1 + 1, 0, none⟩) 1 1, .slice none 0 0, .slice none 0 0, .int .i64 2, .string ⟨#[109, 97, 105, 110]⟩, .slice (some ⟨W.heap.size + 1 + 1 + 1 + 1 + 1, 0, none⟩) 2 2, .slice none 0 0, .slice none 0 0, .int .i64 8, .string ⟨#[]⟩, .slice (some ⟨W.heap.size + 1 + 1 + 1 + 1 + 1 + 1, 0, none⟩) 1 1, .slice none 0 0, .slice none 0 0, .int .i64 10, .string ⟨#[]⟩, .slice (some ⟨W.heap.size + 1 + 1 + 1 + 1 + 1 + 1 + 1, 0, none⟩) 1 1, .slice none 0 0, .slice none 0 0, .int .i64 3, .string ⟨#[]⟩, .slice (some ⟨W.heap.size + 1 + 1 + 1 + 1 + 1 + 1 + 1 + 1 + 1, 0, none⟩) 1 1, .slice none 0 0, .slice none 0 0, .int .i64 7, .string ⟨#[]⟩, .slice (some ⟨W.heap.size + 1 + 1 + 1 + 1 + 1 + 1 + 1 + 1 + 1 + 1 + 1, 0, none⟩) 1 1, .slice none 0 0, .slice none 0 0] := by rw [← hWb]; exact (Blk.new_at _ _ _ (by simp)).alloc _
  have x13 : Blk Wb (W.heap.size + 1 + 1 + 1 + 1 + 1 + 1 + 1 + 1 + 1 + 1 + 1 + 1 + 1) 32 #[.int .i64 53, .int .i64 53, .int .i64 51, .int .i64 51, .int .i64 51, .int .i64 52, .int .i64 51, .int .i64 51] := by rw [← hWb]; exact Blk.new_at _ _ _ (by simp)
  have hB : Below W.heap.size W Wb := by rw [← hWb]; exact (((((((((((((((Below.refl _ _).alloc (Nat.le_refl _) _).alloc (by simp <;> omega) _).alloc (by simp <;> omega) _).alloc (by simp <;> omega) _).alloc (by simp <;> omega) _).alloc (by simp <;> omega) _).alloc (by simp <;> omega) _).alloc (by simp <;> omega) _).alloc (by simp <;> omega) _).alloc (by simp <;> omega) _).alloc (by simp <;> omega) _).alloc (by simp <;> omega) _).alloc (by simp <;> omega) _).alloc (by simp <;> omega) _)
  have hok : ∀ q T cs, Blk Wb (W.heap.size + q) T cs → (fun b => W.heap.size ≤ b ∧ b < Wb.heap.size) (W.heap.size + q) := fun q T cs h => ⟨by omega, h.lt⟩
  have o4 := row_on (ok := (fun b => W.heap.size ≤ b ∧ b < Wb.heap.size)) x4 ⟨by omega, x4.lt⟩ 7; have o5 := row_on2 (ok := (fun b => W.heap.size ≤ b ∧ b < Wb.heap.size)) x5 ⟨by omega, x5.lt⟩ 7; have o6 := row_st (ok := (fun b => W.heap.size ≤ b ∧ b < Wb.heap.size)) x6 ⟨by omega, x6.lt⟩ 7
  have o7 := row_in (ok := (fun b => W.heap.size ≤ b ∧ b < Wb.heap.size)) x7 ⟨by omega, x7.lt⟩ (row_on (ok := (fun b => W.heap.size ≤ b ∧ b < Wb.heap.size)) x2 ⟨by omega, x2.lt⟩ 6); have o9 := row_in (ok := (fun b => W.heap.size ≤ b ∧ b < Wb.heap.size)) x9 ⟨by omega, x9.lt⟩ (row_st (ok := (fun b => W.heap.size ≤ b ∧ b < Wb.heap.size)) x8 ⟨by omega, x8.lt⟩ 6); have o11 := row_in (ok := (fun b => W.heap.size ≤ b ∧ b < Wb.heap.size)) x11 ⟨by omega, x11.lt⟩ (row_st (ok := (fun b => W.heap.size ≤ b ∧ b < Wb.heap.size)) x10 ⟨by omega, x10.lt⟩ 6)
  have hbad : SlR Wb (fun b => W.heap.size ≤ b ∧ b < Wb.heap.size) 5 (RStmt 8 Wb (fun b => W.heap.size ≤ b ∧ b < Wb.heap.size)) (.slice (some ⟨W.heap.size + 1 + 1 + 1 + 1 + 1 + 1 + 1 + 1 + 1 + 1 + 1 + 1, 0, none⟩) 8 8) wrongL :=
    SlR.lit [stmB 5 ⟨#[]⟩ (.slice none 0 0), stmB 6 ⟨#[]⟩ (.slice none 0 0), stmB 1 ⟨#[115, 116, 114, 97, 110, 103, 101]⟩ (.slice (some ⟨W.heap.size + 1 + 1 + 1 + 1, 0, none⟩) 1 1), stmB 2 ⟨#[109, 97, 105, 110]⟩ (.slice (some ⟨W.heap.size + 1 + 1 + 1 + 1 + 1, 0, none⟩) 2 2), stmB 8 ⟨#[]⟩ (.slice (some ⟨W.heap.size + 1 + 1 + 1 + 1 + 1 + 1, 0, none⟩) 1 1), stmB 10 ⟨#[]⟩ (.slice (some ⟨W.heap.size + 1 + 1 + 1 + 1 + 1 + 1 + 1, 0, none⟩) 1 1), stmB 3 ⟨#[]⟩ (.slice (some ⟨W.heap.size + 1 + 1 + 1 + 1 + 1 + 1 + 1 + 1 + 1, 0, none⟩) 1 1), stmB 7 ⟨#[]⟩ (.slice (some ⟨W.heap.size + 1 + 1 + 1 + 1 + 1 + 1 + 1 + 1 + 1 + 1 + 1, 0, none⟩) 1 1)] x12 rfl ⟨⟨rfl, rstm (SlR.nil_ _ _ _ _)⟩, ⟨rfl, rstm (SlR.nil_ _ _ _ _)⟩, ⟨rfl, rstm o4⟩, ⟨rfl, rstm o5⟩, ⟨rfl, rstm o6⟩, ⟨rfl, rstm o7⟩, ⟨rfl, rstm o9⟩, ⟨rfl, rstm o11⟩, trivial⟩ rfl ⟨by omega, x12.lt⟩ (by omega)
  have hwant := x13
  obtain ⟨bb, hbb⟩ : ∃ b, W.heap.size + 1 + 1 + 1 + 1 + 1 + 1 + 1 + 1 + 1 + 1 + 1 + 1 = b := ⟨_, rfl⟩
  obtain ⟨bw, hbw⟩ : ∃ b, W.heap.size + 1 + 1 + 1 + 1 + 1 + 1 + 1 + 1 + 1 + 1 + 1 + 1 + 1 = b := ⟨_, rfl⟩
  rw [hbb] at hbad
  rw [hbw] at hwant
  have hbwg : W.heap.size ≤ bw := by omega
  rw [hbw, hbb]
  clear hWb hok o4 o5 o6 o7 o9 o11 hbb hbw x0 x1 x2 x3 x4 x5 x6 x7 x8 x9 x10 x11 x12 x13
  have HBAD := Lib.hid hbad
  have HWANT := Lib.hid hwant
  have HBWG : Hid (W.heap.size ≤ bw) := Lib.hid hbwg
  have HBB := Lib.hid hB
  have hinb := HIN.out.below hB
  have hkl : k < p.funcs.length := by rw [← HNF.out]; exact hk
  have hlen := hinb.row.len
  obtain ⟨vp, vl, vb, hcs, hpar, hloc, hbod⟩ := hinb.row.elems k (by omega) hkl
  obtain ⟨x, hx⟩ : ∃ x, x = p.funcs[k] := ⟨_, rfl⟩
  rw [← hx] at hcs hpar hloc hbod
  have hcell : ∀ (j : Nat) (hj : j < 4), Wb.cell? ⟨g, k * 4 + j, none⟩ = some ([Value.string x.name, vp, vl, vb][j]'(by simpa using hj)) := fun j hj => by
    have h := hinb.row.cell rfl (j := k) (i := j) (by omega) (by rw [hcs]; exact hj)
    simp only [hcs] at h
    exact h
  obtain ⟨Ap, cp, rfl, _, _⟩ := hpar.val
  obtain ⟨Al, cl, rfl, _, _⟩ := hloc.val
  obtain ⟨Ab, cb, rfl, _, _⟩ := hbod.val
  obtain ⟨np, hnp⟩ : ∃ n, n = x.params.length := ⟨_, rfl⟩
  obtain ⟨nl, hnl⟩ : ∃ n, n = x.locals.length := ⟨_, rfl⟩
  obtain ⟨nb, hnb⟩ : ∃ n, n = x.body.length := ⟨_, rfl⟩
  have hxm : x ∈ p.funcs := by rw [hx]; exact List.getElem_mem _
  have hfn := hinb.gen.func 8 hxm
  have hnb4 : nb ≤ 4 := by rw [hnb]; exact hfn.2.2.1
  rw [← hnp, ← hnl, ← hnb] at hcell
  have e0 : Wb.cell? ⟨g, k * 4, none⟩ = some (.string x.name) := hcell 0 (by omega)
  have e1 : Wb.cell? ⟨g, k * 4 + 1, none⟩ = some (.slice Ap np cp) := hcell 1 (by omega)
  have e2 : Wb.cell? ⟨g, k * 4 + 2, none⟩ = some (.slice Al nl cl) := hcell 2 (by omega)
  have e3 : Wb.cell? ⟨g, k * 4 + 3, none⟩ = some (.slice Ab nb cb) := hcell 3 (by omega)
  obtain ⟨nn0, hnn0⟩ : ∃ n, n = (allL 8 x.body false).length := ⟨_, rfl⟩
  have hcount := count_any 8 x.body false
  have HFN := Lib.hid hfn
  have HINB := Lib.hid hinb
  have HBOD := Lib.hid hbod
  have HPAR := Lib.hid hpar
  have HLOC := Lib.hid hloc
  have HCNT := Lib.hid hcount
  have HX := Lib.hid hx
  have HKL := Lib.hid hkl
  have HNB := Lib.hid hnb
  have HNP := Lib.hid hnp
  have HNL := Lib.hid hnl
  have HN0 := Lib.hid hnn0
  have p1 := (HP.out.below hB HP.out.lt).cell 1
  have hk1 : (k : Int) < (nf : Int) := by omega
  have hk2 : ¬ (k : Int) < 0 := by omega
  clear hbad hwant hbwg hB hinb hlen hcs hpar hloc hbod hcell hnp hnl hnb hxm hfn hnn0 hcount hx
  go_upto_region 10 with (go_at_call 19; refine (HPI.out _).mono ?_; rintro e W5 ⟨rfl, hw⟩; subst hw)
  go_upto_region 11 with fail
  refine wp_world ?_
  intro Wf hWf
  have hbf : Below Wb.heap.size Wb Wf := by rw [← hWf]; exact below1 _ _
  have hf : Blk Wf Wb.heap.size 49 #[.string x.name, .slice Ap np cp, .slice Al nl cl, .slice Ab nb cb] := by rw [← hWf]; exact Blk.new _ _ _
  obtain ⟨gf, hgf⟩ : ∃ b, Wb.heap.size = b := ⟨_, rfl⟩
  have HGF := Lib.hid hgf
  rw [hgf] at hf ⊢
  have hcn : Calls Tryz.prog 20 #[.slice Ab nb cb] Wf fun e w' => e = .returned (.int .i64 (nn0 : Int)) ∧ Below Wf.heap.size Wf w' := by
    have h := HCNT.out Wf (.slice Ab x.body.length cb) (HBOD.out.imp (fun b hb => by have h2 : b < Wb.heap.size := hb.2.1; exact Nat.lt_of_lt_of_le h2 hbf.size) (fun b hb => hbf.block b hb.2.1) fun _ _ _ r => r.imp (fun b hb => by have h2 : b < Wb.heap.size := hb.2.1; exact Nat.lt_of_lt_of_le h2 hbf.size) (fun b hb => hbf.block b hb.2.1)) (by have := HFN.out.2.2.2; omega)
    rw [← HNB.out, ← HN0.out] at h
    exact h
  have f3 := hf.cell 3
  have HBF := Lib.hid hbf
  have HF := Lib.hid hf
  have HCN := Lib.hid hcn
  have hgfl := hf.lt
  clear hWf hbf hf hgf hcn e0 e1 e2 e3 p1
  go_upto_region 12 with (go_at_call 20; refine HCN.out.mono ?_; rintro e Wc ⟨rfl, hbc⟩)
  have hbc2 : Below Wb.heap.size Wb Wc := HBF.out.trans (hbc.mono HBF.out.size)
  have hfc := HF.out.below hbc hgfl
  have HFC := Lib.hid hfc
  have HBC := Lib.hid hbc2
  clear hbc hbc2 hfc f3
  have HX0 : Hid (Below Wb.heap.size Wb Wc.drew) := Lib.hid HBC.out.drew
  have hil : i < wrongL.length := hi
  obtain ⟨bb', bo, cb', hform, -, -, hbl, hel⟩ := HBAD.out.form (show 0 < wrongL.length by decide)
  obtain ⟨hb1, hb2⟩ : bb' = bb ∧ bo = 0 := by injection hform with h1 _ _; injection h1 with h1; injection h1 with h1 h2 _; exact ⟨h1.symm, h2.symm⟩
  subst hb1 hb2
  obtain ⟨cs, -, hrs, hcell⟩ := hel i hil
  obtain ⟨sx, hsx⟩ : ∃ s, s = wrongL[i] := ⟨_, rfl⟩
  rw [← hsx] at hrs
  have hrs0 := hrs
  obtain ⟨wa, wt, we, hcs, ha, ht, he⟩ := hrs
  subst hcs
  obtain ⟨Aa, ca, rfl, _, _⟩ := ha.val
  obtain ⟨At, ct, rfl, _, _⟩ := ht.val
  obtain ⟨Ae, ce, rfl, _, _⟩ := he.val
  rw [Nat.zero_add] at hcell
  have HSB := Lib.hid hsx
  have HRS := Lib.hid hrs0
  have HBL := Lib.hid hbl
  have HCL := Lib.hid hcell
  have HIL := Lib.hid hil
  clear hform hbl hel hrs0 ha ht he hcell hsx
  have SO : Hid (∀ X, (Below Wc.heap.size Wc X) → (fun X => X.cell? ⟨gf, 3, none⟩ = some (.slice Ab nb cb) ∧ X.cell? ⟨bb', i * 5, none⟩ = some (.int .i64 sx.kind) ∧ X.cell? ⟨bb', i * 5 + 1, none⟩ = some (.string sx.name) ∧ X.cell? ⟨bb', i * 5 + 2, none⟩ = some (.slice Aa sx.args.length ca) ∧ X.cell? ⟨bb', i * 5 + 3, none⟩ = some (.slice At sx.thn.length ct) ∧ X.cell? ⟨bb', i * 5 + 4, none⟩ = some (.slice Ae sx.els.length ce)) X) := Lib.hid (fun X h => ⟨(HFC.out.below h HFC.out.lt).cell 3, ((HCL.out.keep ((h.block bb' (Nat.lt_of_lt_of_le HBL.out.2 HBC.out.size)).trans (HBC.out.block bb' HBL.out.2))).at_ (j := 0) rfl), ((HCL.out.keep ((h.block bb' (Nat.lt_of_lt_of_le HBL.out.2 HBC.out.size)).trans (HBC.out.block bb' HBL.out.2))).at_ (j := 1) rfl), ((HCL.out.keep ((h.block bb' (Nat.lt_of_lt_of_le HBL.out.2 HBC.out.size)).trans (HBC.out.block bb' HBL.out.2))).at_ (j := 2) rfl), ((HCL.out.keep ((h.block bb' (Nat.lt_of_lt_of_le HBL.out.2 HBC.out.size)).trans (HBC.out.block bb' HBL.out.2))).at_ (j := 3) rfl), ((HCL.out.keep ((h.block bb' (Nat.lt_of_lt_of_le HBL.out.2 HBC.out.size)).trans (HBC.out.block bb' HBL.out.2))).at_ (j := 4) rfl)⟩)
  obtain ⟨zi, hj0, hj1, hj2, hj3⟩ := info_parts info_stmt
  obtain ⟨X0, hX0⟩ : ∃ X0, Wc.drew = X0 := ⟨_, rfl⟩
  have hC0 : Below Wc.heap.size Wc X0 := by rw [← hX0]; exact (Below.refl _ _).drew
  have HC0 := Lib.hid hC0
  clear hC0
  have hxb : Below Wb.heap.size Wb X0 := by rw [← hX0]; exact HX0.out
  have HXB := Lib.hid hxb
  have hgf0 : gf < X0.heap.size := Nat.lt_of_lt_of_le HFC.out.lt HC0.out.size
  have HGF0 := Lib.hid hgf0
  obtain ⟨bss, q1, q2, q3, q4, q5, q6⟩ := news_rows ((HBOD.out.imp (ok' := fun b => lo ≤ b ∧ b < gf ∧ b ≠ g) (fun b hb => ⟨hb.1, by rw [← HGF.out]; exact hb.2.1, fun e => hb.2.2 (by rw [e]; rfl)⟩) (fun b hb => hxb.block b hb.2.1) fun _ _ _ r => r.imp (ok' := fun b => lo ≤ b ∧ b < gf ∧ b ≠ g) (fun b hb => ⟨hb.1, by rw [← HGF.out]; exact hb.2.1, fun e => hb.2.2 (by rw [e]; rfl)⟩) (fun b hb => hxb.block b hb.2.1)) : SlR X0 (fun b => lo ≤ b ∧ b < gf ∧ b ≠ g) 5 (RStmt 8 X0 (fun b => lo ≤ b ∧ b < gf ∧ b ≠ g)) (.slice Ab x.body.length cb) x.body) rfl (fun _ _ => ones_stmt)
  rw [← HNB.out] at q4 q5
  have hr0 : RStmt 8 X0 (fun b => lo ≤ b ∧ b < gf ∧ b ≠ g) [.int .i64 sx.kind, .string sx.name, .slice Aa sx.args.length ca, .slice At sx.thn.length ct, .slice Ae sx.els.length ce] sx := HRS.out.imp (fun b hb => ⟨by have := HORD.out; have := hb.1; omega, by rw [← HGF.out]; exact hb.2, by have := HORD.out; have := hb.1; omega⟩) (fun b hb => hxb.block b hb.2) 8
  have HQ := Lib.hid (And.intro q1 (And.intro q2 (And.intro q3 (And.intro q4 (And.intro q5 q6)))))
  have HR0 := Lib.hid hr0
  clear hxb q1 q2 q3 q4 q5 q6 hr0 hgf0
  have hi1 : (i : Int) < 8 := by omega
  have hi2 : ¬ (i : Int) < 0 := by omega
  go_cut [] (fun wx => ∃ (nn cv : Nat) (Av : Option Addr), Below Wb.heap.size Wb wx ∧ Blk wx gf 49 #[.string x.name, .slice Ap np cp, .slice Al nl cl, .slice Av nn cv] ∧ SlR wx (okX lo wx (.slice (some ⟨g, 0, none⟩) nf c2)) 5 (RStmt 8 wx (okX lo wx (.slice (some ⟨g, 0, none⟩) nf c2))) (.slice Av nn cv) (x.body ++ [sx]))
  case first =>
    refine wp_region_L (by kernel_rfl) 10 (fun X => X.cell? ⟨gf, 3, none⟩ = some (.slice Ab nb cb) ∧ X.cell? ⟨bb', i * 5, none⟩ = some (.int .i64 sx.kind) ∧ X.cell? ⟨bb', i * 5 + 1, none⟩ = some (.string sx.name) ∧ X.cell? ⟨bb', i * 5 + 2, none⟩ = some (.slice Aa sx.args.length ca) ∧ X.cell? ⟨bb', i * 5 + 3, none⟩ = some (.slice At sx.thn.length ct) ∧ X.cell? ⟨bb', i * 5 + 4, none⟩ = some (.slice Ae sx.els.length ce)) (SO.out _ (Below.refl _ _).drew) (fun hHeld => ?_)
    have HS0 := Lib.hid hHeld
    clear hHeld
    change wpAnyL _ _ _ _ _ 10 11 (Array.replicate 11 false) _ _
    rw [hX0] at HS0 ⊢
    have HZ0 : Hid (Below X0.heap.size X0 X0) := Lib.hid (Below.refl _ _)
    refine takeL 0 72 (.pointer (some ⟨gf, 3, none⟩)) HS0.out rfl rfl (by kernel_rfl) (by kernel_rfl) (by kernel_rfl) (by decide) (fun _ _ _ h => h) (by kernel_rfl) ?_ ?_
    · intro w2; go_simp
    try simp only [sA, sB, sC]
    refine takeL_S 1 73 (.slice Ab nb cb) [10] HS0.out rfl rfl (by kernel_rfl) (by kernel_rfl) (by kernel_rfl) (by decide) (by kernel_rfl) (fun _ _ _ h => h) (by kernel_rfl) ?_ ?_
    · intro w2 hSw; obtain ⟨g0, g1, g2, g3, g4, g5⟩ := hSw; go_simp
    try simp only [sA, sB, sC]
    refine takeL 3 75 (.slice (some ⟨bb', 0, none⟩) 8 8) HS0.out rfl rfl (by kernel_rfl) (by kernel_rfl) (by kernel_rfl) (by decide) (fun _ _ _ h => h) (by kernel_rfl) ?_ ?_
    · intro w2; go_simp
    try simp only [sA, sB, sC]
    refine takeL 4 76 (.int .i64 (i : Int)) HS0.out rfl rfl (by kernel_rfl) (by kernel_rfl) (by kernel_rfl) (by decide) (fun _ _ _ h => h) (by kernel_rfl) ?_ ?_
    · intro w2; go_simp
    try simp only [sA, sB, sC]
    refine takeL 5 77 (.pointer (some ⟨bb', i * 5, none⟩)) HS0.out rfl rfl (by kernel_rfl) (by kernel_rfl) (by kernel_rfl) (by decide) (fun _ _ _ h => h) (by kernel_rfl) ?_ ?_
    · intro w2; go_simp
    try simp only [sA, sB, sC]
    refine takeL_S 6 78 (.agg #[.int .i64 sx.kind, .string sx.name, .slice Aa sx.args.length ca, .slice At sx.thn.length ct, .slice Ae sx.els.length ce]) [10] HS0.out rfl rfl (by kernel_rfl) (by kernel_rfl) (by kernel_rfl) (by decide) (by kernel_rfl) (fun _ _ _ h => h) (by kernel_rfl) ?_ ?_
    · intro w2 hSw; obtain ⟨g0, g1, g2, g3, g4, g5⟩ := hSw; go_simp
    try simp only [sA, sB, sC]
    refine wpAnyL_ready (rs := [2, 7]) (by kernel_rfl) (by simp) ?_
    refine AllReadyL.cons rfl (fun K hK => ?_) (AllReadyL.cons rfl (fun K hK => ?_) AllReadyL.nil)
    · refine step_append_any _ (by rfl) _ _ _ (by rfl) (X0.heap.size) 45 zi _ 5 96 Tryz.underlying43 hj0 hj1 hj2 hj3 rfl (by omega) (.slice none 0 0) 0 ([]) (by rfl) (World.ownsRow_nil _ _ _ _) (Ab) (nb) (cb) (bss.flatten) (by rfl) (HQ.out.2.2.2.1) ((HQ.out.2.2.2.2.1.imp id fun ⟨ad, ha, hc⟩ => ⟨ad, ha, fun j u hu => cell_keep HZ0.out rfl (hc j u hu)⟩)) (HQ.out.2.2.2.2.2) (by unfold maxLen; omega) (by omega) (Nat.le_refl _) (X0.heap.size) rfl ?_
      intro v1 X1 hown1 hgrow1 hat1
      have hbl : Below X0.heap.size X0 X1 := ⟨hgrow1.os, hgrow1.tape, hgrow1.output, hgrow1.size, fun q hq => hgrow1.block q hq (fun e => by cases e)⟩
      have HZ1 := Lib.hid (HZ0.out.trans (hbl.mono HZ0.out.size))
      have HO1 := Lib.hid hown1
      have HL1 := Lib.hid hbl
      clear hown1 hgrow1 hat1 hbl
      refine hK.out _ _ (SO.out _ (HC0.out.trans (HZ1.out.mono HC0.out.size))) (fun hHeld => ?_)
      have HS1 := Lib.hid hHeld
      clear hK K hHeld
      try simp only [sA, sB, sC]
      refine wpAnyL_ready (rs := [7]) (by kernel_rfl) (by simp) ?_
      refine AllReadyL.cons rfl (fun K hK => ?_) AllReadyL.nil
      go_simp
      obtain ⟨X2, hXX⟩ : ∃ Z, X1.alloc (.cells #[.int .i64 sx.kind, .string sx.name, .slice Aa sx.args.length ca, .slice At sx.thn.length ct, .slice Ae sx.els.length ce] 45) = Z := ⟨_, rfl⟩
      rw [hXX]
      have hbl : Below X1.heap.size X1 X2 := by rw [← hXX]; exact below1 _ _
      have hq : Blk X2 X1.heap.size 45 #[.int .i64 sx.kind, .string sx.name, .slice Aa sx.args.length ca, .slice At sx.thn.length ct, .slice Ae sx.els.length ce] := by rw [← hXX]; exact Blk.new _ _ _
      have hal := HO1.out.alloc (.cells #[.int .i64 sx.kind, .string sx.name, .slice Aa sx.args.length ca, .slice At sx.thn.length ct, .slice Ae sx.els.length ce] 45)
      rw [hXX] at hal
      have HO1 := Lib.hid hal
      clear hal
      have HZ2 := Lib.hid (HZ1.out.trans (hbl.mono HZ1.out.size))
      have HNB2 := Lib.hid hq
      clear hXX hbl hq
      refine hK.out _ _ (SO.out _ (HC0.out.trans (HZ2.out.mono HC0.out.size))) (fun hHeld => ?_)
      have HS2 := Lib.hid hHeld
      clear hK K hHeld
      try simp only [sA, sB, sC]
      refine wpAnyL_ready (rs := [8]) (by kernel_rfl) (by simp) ?_
      refine AllReadyL.cons rfl (fun K hK => ?_) AllReadyL.nil
      refine step_append_any _ (by rfl) _ _ _ (by rfl) (X0.heap.size) 45 zi _ 5 96 Tryz.underlying43 hj0 hj1 hj2 hj3 rfl (by omega) (v1) (0 + nb) ([] ++ bss.flatten) (by rfl) (HO1.out) (some ⟨X1.heap.size, 0, none⟩) (1) (1) ([.int .i64 sx.kind, .string sx.name, .slice Aa sx.args.length ca, .slice At sx.thn.length ct, .slice Ae sx.els.length ce]) (by rfl) (rfl) (Or.inr ⟨⟨X1.heap.size, 0, none⟩, rfl, World.news_of_block HNB2.out⟩) (ones_stmt HR0.out) (by unfold maxLen; omega) (by omega) (HZ2.out.size) (X2.heap.size) rfl ?_
      intro v2 X3 hown2 hgrow2 hat2
      have hbl : Below X0.heap.size X2 X3 := ⟨hgrow2.os, hgrow2.tape, hgrow2.output, hgrow2.size, fun q hq => hgrow2.block q (Nat.lt_of_lt_of_le hq HZ2.out.size) (fun e => by have h1 := (HO1.out.lt q e.symm).1; have h2 := Nat.le_refl X0.heap.size; omega)⟩
      have HZ3 := Lib.hid (HZ2.out.trans hbl)
      obtain ⟨nn, hnn⟩ : ∃ n, n = 0 + nb + 1 := ⟨_, rfl⟩
      rw [← hnn] at hown2
      obtain ⟨Av, cv, hv2⟩ := own_form hown2
      subst hv2
      have HO2 := Lib.hid hown2
      have HNN := Lib.hid hnn
      clear hown2 hgrow2 hat2 hnn hbl
      refine hK.out _ _ (SO.out _ (HC0.out.trans (HZ3.out.mono HC0.out.size))) (fun hHeld => ?_)
      have HS3 := Lib.hid hHeld
      clear hK K hHeld
      try simp only [sA, sB, sC]
      refine takeL 9 81 (.pointer (some ⟨gf, 3, none⟩)) HS3.out rfl rfl (by kernel_rfl) (by kernel_rfl) (by kernel_rfl) (by decide) (fun _ _ _ h => h) (by kernel_rfl) ?_ ?_
      · intro w2; go_simp
      try simp only [sA, sB, sC]
      have hfx : Blk X3 gf 49 #[.string x.name, .slice Ap np cp, .slice Al nl cl, .slice Ab nb cb] := (HFC.out.below HC0.out HFC.out.lt).below HZ3.out HGF0.out
      have z3 := hfx.cell 3; have y3 := hfx.frozen 3
      have HFX := Lib.hid hfx; clear hfx
      refine wpAnyL_ready (rs := [10]) (by kernel_rfl) (by simp) ?_
      refine AllReadyL.last rfl (by kernel_rfl) (fun K hK => ?_)
      go_simp
      refine hK.out _ _ ?_
      clear hK K
      try simp only [sA, sB, sC]
      refine wpAnyL_done (by kernel_rfl) ?_ _
      go_wp2
      go_meet
      case rel => exact ⟨nn, cv, Av, body_rel (HXB.out.trans (HZ3.out.mono HXB.out.size)) (Nat.le_of_eq HGF.out) HZ3.out HGF0.out (by have := HORD.out; have := HXB.out.size; have := HBB.out.size; omega) (by have := HORD.out; have := HXB.out.size; have := HBB.out.size; omega) (Nat.le_refl X0.heap.size) HO2.out (by rw [HNN.out]; omega) HNB.out HQ.out.1 HQ.out.2.1 HQ.out.2.2.1 rfl HR0.out HFX.out c2 nf⟩
    · go_simp
      obtain ⟨X1, hXX⟩ : ∃ Z, X0.alloc (.cells #[.int .i64 sx.kind, .string sx.name, .slice Aa sx.args.length ca, .slice At sx.thn.length ct, .slice Ae sx.els.length ce] 45) = Z := ⟨_, rfl⟩
      rw [hXX]
      have hbl : Below X0.heap.size X0 X1 := by rw [← hXX]; exact below1 _ _
      have hq : Blk X1 X0.heap.size 45 #[.int .i64 sx.kind, .string sx.name, .slice Aa sx.args.length ca, .slice At sx.thn.length ct, .slice Ae sx.els.length ce] := by rw [← hXX]; exact Blk.new _ _ _
      have HZ1 := Lib.hid (HZ0.out.trans (hbl.mono HZ0.out.size))
      have HNB2 := Lib.hid hq
      clear hXX hbl hq
      refine hK.out _ _ (SO.out _ (HC0.out.trans (HZ1.out.mono HC0.out.size))) (fun hHeld => ?_)
      have HS1 := Lib.hid hHeld
      clear hK K hHeld
      try simp only [sA, sB, sC]
      refine wpAnyL_ready (rs := [2]) (by kernel_rfl) (by simp) ?_
      refine AllReadyL.cons rfl (fun K hK => ?_) AllReadyL.nil
      refine step_append_any _ (by rfl) _ _ _ (by rfl) (X1.heap.size) 45 zi _ 5 96 Tryz.underlying43 hj0 hj1 hj2 hj3 rfl (by omega) (.slice none 0 0) 0 ([]) (by rfl) (World.ownsRow_nil _ _ _ _) (Ab) (nb) (cb) (bss.flatten) (by rfl) (HQ.out.2.2.2.1) ((HQ.out.2.2.2.2.1.imp id fun ⟨ad, ha, hc⟩ => ⟨ad, ha, fun j u hu => cell_keep HZ1.out rfl (hc j u hu)⟩)) (HQ.out.2.2.2.2.2) (by unfold maxLen; omega) (by omega) (Nat.le_refl _) (X1.heap.size) rfl ?_
      intro v1 X2 hown1 hgrow1 hat1
      have hbl : Below X1.heap.size X1 X2 := ⟨hgrow1.os, hgrow1.tape, hgrow1.output, hgrow1.size, fun q hq => hgrow1.block q hq (fun e => by cases e)⟩
      have HZ2 := Lib.hid (HZ1.out.trans (hbl.mono HZ1.out.size))
      have HO1 := Lib.hid hown1
      have HL1 := Lib.hid hbl
      clear hown1 hgrow1 hat1 hbl
      refine hK.out _ _ (SO.out _ (HC0.out.trans (HZ2.out.mono HC0.out.size))) (fun hHeld => ?_)
      have HS2 := Lib.hid hHeld
      clear hK K hHeld
      try simp only [sA, sB, sC]
      refine wpAnyL_ready (rs := [8]) (by kernel_rfl) (by simp) ?_
      refine AllReadyL.cons rfl (fun K hK => ?_) AllReadyL.nil
      refine step_append_any _ (by rfl) _ _ _ (by rfl) (X1.heap.size) 45 zi _ 5 96 Tryz.underlying43 hj0 hj1 hj2 hj3 rfl (by omega) (v1) (0 + nb) ([] ++ bss.flatten) (by rfl) (HO1.out) (some ⟨X0.heap.size, 0, none⟩) (1) (1) ([.int .i64 sx.kind, .string sx.name, .slice Aa sx.args.length ca, .slice At sx.thn.length ct, .slice Ae sx.els.length ce]) (by rfl) (rfl) (Or.inr ⟨⟨X0.heap.size, 0, none⟩, rfl, World.news_of_block (HNB2.out.below HL1.out HNB2.out.lt)⟩) (ones_stmt HR0.out) (by unfold maxLen; omega) (by omega) (HL1.out.size) (X2.heap.size) rfl ?_
      intro v2 X3 hown2 hgrow2 hat2
      have hbl : Below X0.heap.size X2 X3 := ⟨hgrow2.os, hgrow2.tape, hgrow2.output, hgrow2.size, fun q hq => hgrow2.block q (Nat.lt_of_lt_of_le hq HZ2.out.size) (fun e => by have h1 := (HO1.out.lt q e.symm).1; have h2 := HZ1.out.size; omega)⟩
      have HZ3 := Lib.hid (HZ2.out.trans hbl)
      obtain ⟨nn, hnn⟩ : ∃ n, n = 0 + nb + 1 := ⟨_, rfl⟩
      rw [← hnn] at hown2
      obtain ⟨Av, cv, hv2⟩ := own_form hown2
      subst hv2
      have HO2 := Lib.hid hown2
      have HNN := Lib.hid hnn
      clear hown2 hgrow2 hat2 hnn hbl
      refine hK.out _ _ (SO.out _ (HC0.out.trans (HZ3.out.mono HC0.out.size))) (fun hHeld => ?_)
      have HS3 := Lib.hid hHeld
      clear hK K hHeld
      try simp only [sA, sB, sC]
      refine takeL 9 81 (.pointer (some ⟨gf, 3, none⟩)) HS3.out rfl rfl (by kernel_rfl) (by kernel_rfl) (by kernel_rfl) (by decide) (fun _ _ _ h => h) (by kernel_rfl) ?_ ?_
      · intro w2; go_simp
      try simp only [sA, sB, sC]
      have hfx : Blk X3 gf 49 #[.string x.name, .slice Ap np cp, .slice Al nl cl, .slice Ab nb cb] := (HFC.out.below HC0.out HFC.out.lt).below HZ3.out HGF0.out
      have z3 := hfx.cell 3; have y3 := hfx.frozen 3
      have HFX := Lib.hid hfx; clear hfx
      refine wpAnyL_ready (rs := [10]) (by kernel_rfl) (by simp) ?_
      refine AllReadyL.last rfl (by kernel_rfl) (fun K hK => ?_)
      go_simp
      refine hK.out _ _ ?_
      clear hK K
      try simp only [sA, sB, sC]
      refine wpAnyL_done (by kernel_rfl) ?_ _
      go_wp2
      go_meet
      case rel => exact ⟨nn, cv, Av, body_rel (HXB.out.trans (HZ3.out.mono HXB.out.size)) (Nat.le_of_eq HGF.out) HZ3.out HGF0.out (by have := HORD.out; have := HXB.out.size; have := HBB.out.size; omega) (by have := HORD.out; have := HXB.out.size; have := HBB.out.size; omega) (HZ1.out.size) HO2.out (by rw [HNN.out]; omega) HNB.out HQ.out.1 HQ.out.2.1 HQ.out.2.2.1 rfl HR0.out HFX.out c2 nf⟩
  case rest =>
  obtain ⟨nn, cv, Av, hbx, hfx, hrx⟩ := hcut
  have hinx := HINB.out.below hbx
  have p1 := ((HP.out.below HBB.out HP.out.lt).below hbx (HP.out.below HBB.out HP.out.lt).lt).cell 1
  have f0 := hfx.cell 0
  have f1 := hfx.cell 1
  have f2 := hfx.cell 2
  have f3 := hfx.cell 3
  have hlen := hinx.row.len
  have z0 : wc.frozen? ⟨g, k * 4, none⟩ = false := hinx.row.frozen rfl _
  have z1 : wc.frozen? ⟨g, k * 4 + 1, none⟩ = false := hinx.row.frozen rfl _
  have z2 : wc.frozen? ⟨g, k * 4 + 2, none⟩ = false := hinx.row.frozen rfl _
  have z3 : wc.frozen? ⟨g, k * 4 + 3, none⟩ = false := hinx.row.frozen rfl _
  have hcx : ∀ j, j < 4 → ∃ u, wc.cell? ⟨g, k * 4 + j, none⟩ = some u := fun j hj => own_cell hinx.row.row _ (by have := HKL.out; omega)
  obtain ⟨u0, e0⟩ := hcx 0 (by omega)
  obtain ⟨u1, e1⟩ := hcx 1 (by omega)
  obtain ⟨u2, e2⟩ := hcx 2 (by omega)
  obtain ⟨u3, e3⟩ := hcx 3 (by omega)
  have e0' : wc.cell? ⟨g, k * 4, none⟩ = some u0 := e0
  have HINX := Lib.hid hinx
  have HBX := Lib.hid hbx
  have HFX := Lib.hid hfx
  have HRX := Lib.hid hrx
  clear hinx hbx hfx hrx hlen hcx e0
  go_upto_region 14 with fail
  refine wp_world ?_
  intro Ws hWs
  have hkl := HKL.out
  have hkc : k < css.length := by rw [HINX.out.row.len]; exact hkl
  have hup : ∀ b, okX lo Wb (.slice (some ⟨g, 0, none⟩) p.funcs.length c2) b → okX lo wc (.slice (some ⟨g, 0, none⟩) p.funcs.length c2) b := fun b hb => ⟨hb.1, Nat.lt_of_lt_of_le hb.2.1 HBX.out.size, hb.2.2⟩
  have hpar2 := HPAR.out.imp hup (fun b hb => HBX.out.block b hb.2.1) fun _ _ _ r => r
  have hloc2 := HLOC.out.imp hup (fun b hb => HBX.out.block b hb.2.1) fun _ _ _ r => r
  rw [← HNP.out] at hpar2
  rw [← HNL.out] at hloc2
  have hrx2 := HRX.out
  rw [HNF.out] at hrx2
  have hrow : RFuncM 8 wc (okX lo wc (.slice (some ⟨g, 0, none⟩) p.funcs.length c2)) [.string x.name, .slice Ap np cp, .slice Al nl cl, .slice Av nn cv] (LFunc.mk x.name x.params x.locals (x.body ++ [sx])) := ⟨_, _, _, rfl, hpar2, hloc2, hrx2⟩
  have hput := HINX.out.row.put4 (mono_func 8) rfl hkc hrow
  rw [hWs] at hput
  have hset : ∀ b, b ≠ g → Ws.heap[b]? = wc.heap[b]? := fun b hne => by
    rw [← hWs]
    exact (Below.heap_setCell _ ⟨g, k * 4 + 3, none⟩ _ b hne).trans ((Below.heap_setCell _ ⟨g, k * 4 + 2, none⟩ _ b hne).trans ((Below.heap_setCell _ ⟨g, k * 4 + 1, none⟩ _ b hne).trans (Below.heap_setCell _ ⟨g, k * 4, none⟩ _ b hne)))
  have hszs : Ws.heap.size = wc.heap.size := by rw [← hWs]; simp [World.setCell]
  have hbs : Below W0.heap.size wc Ws := by
    rw [← hWs]
    have hg : W0.heap.size ≤ g := by have := HORD.out; omega
    exact ((((Below.refl W0.heap.size wc).setCell (p := ⟨g, k * 4, none⟩) hg _).setCell (p := ⟨g, k * 4 + 1, none⟩) hg _).setCell (p := ⟨g, k * 4 + 2, none⟩) hg _).setCell (p := ⟨g, k * 4 + 3, none⟩) hg _
  have hfs := hput.slr (mono_func 8) (ok' := (· < Ws.heap.size)) (fun b hb => by rw [hszs]; exact hb.2.1) (fun q e => (hput.row.lt q e).2)
  have has := HINX.out.arrs.imp (ok' := (· < Ws.heap.size)) (fun b hb => by have h1 : b < lo := hb; have := HORD.out; have := HBX.out.size; have := HBB.out.size; show b < Ws.heap.size; omega) (fun b hb => hset b (by have h1 : b < lo := hb; have := HORD.out; omega)) fun _ _ _ r => r
  have hxx : LFunc.mk x.name x.params x.locals (x.body ++ [sx]) = { p.funcs[k] with body := p.funcs[k].body ++ [wrongL[i]] } := by
    show LFunc.mk x.name x.params x.locals (x.body ++ [sx]) = LFunc.mk p.funcs[k].name p.funcs[k].params p.funcs[k].locals (p.funcs[k].body ++ [wrongL[i]])
    rw [← HX.out]
    exact congrArg (fun z => LFunc.mk x.name x.params x.locals (x.body ++ [z])) HSB.out
  have hel : (bodyP p k (p.funcs[k].body ++ [wrongL[i]])).funcs.length = p.funcs.length := by rw [body_set p hkl, List.length_set]
  rw [hxx, ← body_set p hkl] at hfs
  have hck : Calls Tryz.prog 13 #[.agg #[.slice A1 na c1, .slice (some ⟨g, 0, none⟩) nf c2]] Ws fun r w' => r = .returned (.tuple #[.int .i64 (wantL[i]'HIL.out), .agg #[.int .i64 (k : Int), .int .i64 (nn0 : Int)]]) ∧ Below Ws.heap.size Ws w' := by
    have h := check_any 7 (bodyP p k (p.funcs[k].body ++ [wrongL[i]])) A1 (some ⟨g, 0, none⟩) c1 c2 Ws has (by rw [hel]; exact hfs) (wrong_few HINX.out.gen hkl (List.getElem_mem _))
    have hv2 : checkE (7 + 1) (bodyP p k (p.funcs[k].body ++ [wrongL[i]])) = (wantL[i]'HIL.out, (k : Int), ((allL 8 p.funcs[k].body false).length : Int)) := check_wrong (D := 8) HINX.out.gen.made (by decide) hkl HIL.out
    rw [hv2] at h
    rw [hel] at h
    have h2 : Calls Tryz.prog 13 #[.agg #[.slice A1 p.arrays.length c1, .slice (some ⟨g, 0, none⟩) p.funcs.length c2]] Ws fun r w' => r = .returned (.tuple #[.int .i64 (wantL[i]'HIL.out), .agg #[.int .i64 (k : Int), .int .i64 ((allL 8 p.funcs[k].body false).length : Int)]]) ∧ Below Ws.heap.size Ws w' := h
    have e9 : (allL 8 p.funcs[k].body false).length = nn0 := by rw [← HX.out]; exact HN0.out.symm
    rw [← HNA.out, ← HNF.out, e9] at h2
    exact h2
  obtain ⟨wv, hwv⟩ : ∃ v, v = wantL[i]'HIL.out := ⟨_, rfl⟩
  rw [← hwv] at hck
  have hpb := HP.out.below HBB.out HP.out.lt
  have hpbx := hpb.below HBX.out hpb.lt
  have hps := hpbx.keep (hset pb (by have := HORD.out; omega))
  have hwx := HWANT.out.below HBX.out HWANT.out.lt
  have hws := hwx.keep (hset bw (by have := HBWG.out; have := HORD.out; omega))
  have HWS := Lib.hid hws
  have HWV := Lib.hid hwv
  have HCK := Lib.hid hck
  have HBS := Lib.hid hbs
  have p0 := hps.cell 0
  have p1 := hps.cell 1
  clear hel hput hpar2 hloc2 hrx2 hrow hset hszs hbs hfs has hxx hck hpb hpbx hps hwx hws hwv hup hkc hWs e0' e1 e2 e3 z0 z1 z2 z3 f0 f1 f2 f3
  go_upto_region 15 with (go_at_call 13; refine HCK.out.mono ?_; rintro e w5 ⟨rfl, hb5⟩)
  refine wp_world ?_
  intro W7 hW7
  have hb7 : Below Ws.heap.size Ws W7 := by rw [← hW7]; exact hb5.alloc hb5.size _
  have hT7 : Blk W7 w5.heap.size 33 #[.int .i64 (k : Int), .int .i64 (nn0 : Int)] := by rw [← hW7]; exact Blk.new w5 _ _
  have t0 := hT7.cell 0
  have t1 := hT7.cell 1
  have hwc := want_cell (HWS.out.below hb7 HWS.out.lt) HIL.out
  rw [← HWV.out] at hwc
  have HB7 := Lib.hid hb7
  obtain ⟨tb, htb⟩ : ∃ b, w5.heap.size = b := ⟨_, rfl⟩
  rw [htb] at t0 t1 ⊢
  clear hW7 hb7 hb5 hT7 p0 p1 htb
  refine wp_region_lit ?_
  refine takeP 92 (.bool true) rfl (by kernel_rfl) (by go_simp) ?_
  simp only [sA, sB, sC]
  refine takeP 93 (.bool true) rfl (by kernel_rfl) (by go_simp) ?_
  simp only [sA, sB, sC]
  refine takeP 94 (.int .i64 wv) rfl (by kernel_rfl) (by go_simp) ?_
  simp only [sA, sB, sC]
  refine takeP 95 (.slice (some ⟨bw, 0, none⟩) 8 8) rfl (by kernel_rfl) (by go_simp) ?_
  simp only [sA, sB, sC]
  refine takeP 96 (.int .i64 (i : Int)) rfl (by kernel_rfl) (by go_simp) ?_
  simp only [sA, sB, sC]
  refine takeP 97 (.pointer (some ⟨bw, i, none⟩)) rfl (by kernel_rfl) (by go_simp) ?_
  simp only [sA, sB, sC]
  refine takeP 98 (.int .i64 wv) rfl (by kernel_rfl) (by go_simp) ?_
  simp only [sA, sB, sC]
  refine takeP 99 (.bool true) rfl (by kernel_rfl) (by go_simp) ?_
  simp only [sA, sB, sC]
  refine takeP 100 (.bool true) rfl (by kernel_rfl) (by go_simp) ?_
  simp only [sA, sB, sC]
  refine takeP 101 (.bool true) rfl (by kernel_rfl) (by go_simp) ?_
  simp only [sA, sB, sC]
  refine takeP 102 (.agg #[.int .i64 (k : Int), .int .i64 (nn0 : Int)]) rfl (by kernel_rfl) (by go_simp) ?_
  simp only [sA, sB, sC]
  refine takeP 103 (.int .i64 (k : Int)) rfl (by kernel_rfl) (by go_simp) ?_
  simp only [sA, sB, sC]
  refine takeP 104 (.int .i64 (nn0 : Int)) rfl (by kernel_rfl) (by go_simp) ?_
  simp only [sA, sB, sC]
  refine takeP 105 (.agg #[.int .i64 (k : Int), .int .i64 (nn0 : Int)]) rfl (by kernel_rfl) (by go_simp) ?_
  simp only [sA, sB, sC]
  refine takeP 106 (.bool true) rfl (by kernel_rfl) (by have heq := eqt (k : Int) (nn0 : Int) W7; go_simp) ?_
  simp only [sA, sB, sC]
  refine takeP 107 (.bool true) rfl (by kernel_rfl) (by go_simp) ?_
  simp only [sA, sB, sC]
  refine takeP 6 (.bool true) rfl (by kernel_rfl) (by go_simp) ?_
  simp only [sA, sB, sC]
  refine wpList_nil ?_
  go_wp2
  go_ret
  have hw0 : W0.heap.size ≤ W.heap.size := HB.out.size
  have hw1 := HB.out.trans (HBB.out.mono hw0)
  have hw2 := hw1.trans (HBX.out.mono hw1.size)
  have hw3 := hw2.trans HBS.out
  exact ⟨rfl, hw3.trans (HB7.out.mono hw3.size)⟩
end Go.Proofs.YtmignlclfbaifaaGreat
