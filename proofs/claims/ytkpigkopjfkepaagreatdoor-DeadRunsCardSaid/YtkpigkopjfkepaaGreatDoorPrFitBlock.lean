/- What counterprooflaw10.block does: of a raw block, one that may be. -/
import Derived.Test.YtkpigkopjfkepaaGreatDoorPrFitI
import Derived.Deep.DeepCutAuto
import Derived.Deep.CutBlock
namespace Go.Proofs.YtkpigkopjfkepaaGreatDoor
open Go.RowKit
theorem below_undrew {B : Nat} {w w' : World} (h : Below B w.drew w') : Below B w w' := ⟨h.os, h.tape, h.output, h.size, h.block⟩
theorem insCells_one (y : LIns) {va : Value} (h : va.oneCell' = true) : ∀ u ∈ insCells y va, u.oneCell' = true := by
 intro u hu
 simp only [insCells, List.mem_cons, List.not_mem_nil, or_false] at hu
 rcases hu with e | e | e | e | e | e | e | e <;> rw [e] <;> first | rfl | exact h
theorem info_ins : (Tryz.prog.info? 44).map (fun i => (i.zero, i.size, i.bytes)) = some (some (.agg #[.int .i64 0, .int .i64 0, .int .i64 0, .int .i64 0, .int .i64 0, .int .i64 0, .string ⟨#[]⟩, .slice none 0 0]), 8, 88) := by kernel_rfl
def InsPost2 (x : LIns) (w : World) (e : Ending) (w' : World) : Prop :=
 ∃ va, e = .returned (.agg #[.int .i64 (fitIns x).kind, .int .i64 (fitIns x).d, .int .i64 (fitIns x).a, .int .i64 (fitIns x).b, .int .i64 (fitIns x).op, .int .i64 (fitIns x).n, .string (fitIns x).name, va]) ∧ Below w.heap.size w w' ∧
  SlR w' (fun b => w.heap.size ≤ b ∧ b < w'.heap.size) 1 RInt va (fitIns x).args
theorem fitins_lit (x : LIns) (hx : x.I) (va : Value) (bn : Nat) (w : World) (hn : Names3 w bn) :
  Calls Tryz.prog 17 #[.agg #[.int .i64 x.kind, .int .i64 x.d, .int .i64 x.a, .int .i64 x.b, .int .i64 x.op, .int .i64 x.n, .string x.name, va], .slice (some ⟨bn, 0, none⟩) 3 3] w (InsPost2 x w) :=
 (fitins_any x hx va bn w hn).mono fun _ _ h => h
def BlockPost (x : LBlock) (n : Int) (w : World) (e : Ending) (w' : World) : Prop :=
 ∃ vi, e = .returned (.agg #[vi, .int .i64 (fitTerm x.term n).kind, .int .i64 (fitTerm x.term n).a, .int .i64 (fitTerm x.term n).to, .int .i64 (fitTerm x.term n).els]) ∧ Below w.heap.size w w' ∧
  SlR w' (fun b => w.heap.size ≤ b ∧ b < w'.heap.size) 8 (RIns w' (fun b => w.heap.size ≤ b ∧ b < w'.heap.size)) vi ((x.ins.take 6).map fitIns)
structure InsLoop (x : LBlock) (vi : Value) (bn : Nat) (w : World) (j : Nat) (v : Value) (css : List (List Value)) (wr : World) : Prop where
 below : Below w.heap.size w wr
 raw : Blk wr w.heap.size 48 (vi :: termCells x.term).toArray
 res : ∃ cs, Blk wr (w.heap.size + 1) 48 cs ∧ cs.size = 5
 out : Blk wr (w.heap.size + 1 + 1) 48 #[v, .int .i64 0, .int .i64 0, .int .i64 0, .int .i64 0]
 own : OwnL wr (w.heap.size + 3) 44 8 RIns v ((x.ins.take j).map fitIns) css
theorem InsLoop.next {x : LBlock} {vi : Value} {bn : Nat} {w : World} {j : Nat} {v : Value} {css : List (List Value)} {wr w' w1 : World} {o : Obj} {g cap : Nat} {va : Value} (hl : InsLoop x vi bn w j v css wr) (hj : j < x.ins.length)
  (hbw : Below wr.heap.size wr w') (hsl : SlR w' (fun b => wr.heap.size ≤ b ∧ b < w'.heap.size) 1 RInt va (fitIns x.ins[j]).args)
  (hown : w1.ownsRow (w.heap.size + 3) 44 8 (.slice (some ⟨g, 0, none⟩) (j + 1) cap) (j + 1) (css.flatten ++ insCells (fitIns x.ins[j]) va))
  (hg : (w'.alloc o).grownBy w1 v.ownBlock) (hat : v.ownBlock = some g ∨ g = w'.heap.size + 1) :
  InsLoop x vi bn w (j + 1) (.slice (some ⟨g, 0, none⟩) (j + 1) cap) (css ++ [insCells (fitIns x.ins[j]) va])
   (w1.setCell ⟨w.heap.size + 1 + 1, 0, none⟩ (.slice (some ⟨g, 0, none⟩) (j + 1) cap)) := by
 have hb : w.heap.size ≤ wr.heap.size := hl.below.size
 have hb2 : wr.heap.size ≤ w'.heap.size := hbw.size
 have h3 : w.heap.size + 1 + 1 < wr.heap.size := hl.out.lt
 have hbase : ∀ k, v.ownBlock = some k → w.heap.size + 3 ≤ k ∧ k < wr.heap.size := hl.own.lt
 have hne : ∀ k, k < w.heap.size + 3 → v.ownBlock ≠ some k := fun k hk e => by have := (hbase k e).1; omega
 have hB : Below w.heap.size w w1 := ((hl.below.trans (hbw.mono hb)).alloc (by omega) o).grown hg (by simp; omega) (fun k e => by have := (hbase k e).1; omega)
 have e : (x.ins.take (j + 1)).map fitIns = (x.ins.take j).map fitIns ++ [fitIns x.ins[j]] := by
  rw [List.take_succ_eq_append_getElem hj, List.map_append]; rfl
 have hk : Keeps (fun b => w.heap.size + 3 ≤ b ∧ b < wr.heap.size) wr (w'.alloc o) := fun b hb' => (Below.heap_alloc w' o b (by omega)).trans (hbw.block b hb'.2)
 have hjl : ((x.ins.take j).map fitIns).length = j := by simp; omega
 have hsn := OwnL.snoc (x := fitIns x.ins[j]) (cs := insCells (fitIns x.ins[j]) va) mono_ins hl.own hk (by simp; omega) (by rfl) (by rw [hjl]; exact hown) hg (hat.imp id fun h => by rw [h]; simp) (by
  refine ⟨va, rfl, hsl.imp (fun b hb' => ⟨by omega, by simp; omega, fun h => by have := (hbase b h).2; omega⟩) (fun b hb' => Below.heap_alloc w' o b hb'.2) (fun _ _ _ r => r)⟩)
 refine ⟨hB.setCell (by simp; omega) _, ?_, ?_, ?_, ?_⟩
 ·exact (((hl.raw.below hbw (by omega)).alloc o).grown hg (hne _ (by omega))).far (by simp; omega) _
 ·obtain ⟨cs, h1, h2⟩ := hl.res
  exact ⟨cs, (((h1.below hbw (by omega)).alloc o).grown hg (hne _ (by omega))).far (by simp) _, h2⟩
 ·exact (((hl.out.below hbw (by omega)).alloc o).grown hg (hne _ (by omega))).set_ 0 _
 ·rw [hjl] at hsn
  rw [e]
  exact hsn.keep mono_ins ((Keeps.refl _ _).set (fun b hb' => by show b ≠ w.heap.size + 1 + 1; omega) _) (by simp [World.setCell])
theorem Keeps.alloc_ {ok : Nat → Prop} {w w' : World} (h : Keeps ok w w') (hlt : ∀ b, ok b → b < w'.heap.size) (o : Obj) : Keeps ok w (w'.alloc o) := fun b hb => (Below.heap_alloc w' o b (hlt b hb)).trans (h b hb)
structure OutIs (w wc V : World) (cells : Array Value) : Prop where
 blk : Blk V (w.heap.size + 1 + 1) 48 cells
 keep : Keeps (fun b => b ≠ w.heap.size + 1 + 1 ∧ b < wc.heap.size) wc V
 below : Below w.heap.size w V
 size : wc.heap.size ≤ V.heap.size
theorem OutIs.set_ {w wc V : World} {cells : Array Value} (h : OutIs w wc V cells) (i : Nat) (u : Value) : OutIs w wc (V.setCell ⟨w.heap.size + 1 + 1, i, none⟩ u) (cells.setIfInBounds i u) :=
 ⟨h.blk.set_ i u, h.keep.set (fun _ hb => hb.1) _, h.below.setCell (by show w.heap.size ≤ w.heap.size + 1 + 1; omega) _, by simp only [World.setCell, Array.size_modify]; exact h.size⟩
theorem OutIs.alloc_ {w wc V : World} {cells : Array Value} (h : OutIs w wc V cells) (o : Obj) : OutIs w wc (V.alloc o) cells :=
 ⟨h.blk.alloc o, h.keep.alloc_ (fun _ hb => Nat.lt_of_lt_of_le hb.2 h.size) o, h.below.alloc h.below.size o, Nat.le_trans h.size (by simp)⟩
theorem InsLoop.outIs {x : LBlock} {vi : Value} {bn : Nat} {w : World} {j : Nat} {v : Value} {css : List (List Value)} {wr : World} (hl : InsLoop x vi bn w j v css wr) : OutIs w wr wr #[v, .int .i64 0, .int .i64 0, .int .i64 0, .int .i64 0] :=
 ⟨hl.out, Keeps.refl _ _, hl.below, Nat.le_refl _⟩
theorem InsLoop.finish {x : LBlock} {vi : Value} {bn : Nat} {w : World} {j : Nat} {v : Value} {css : List (List Value)} {wr w2 : World} {n k a t e : Int} (hl : InsLoop x vi bn w j v css wr) (hj : x.ins.take j = x.ins.take 6)
  (hk : Keeps (fun b => w.heap.size + 3 ≤ b ∧ b < wr.heap.size) wr w2) (hs : wr.heap.size ≤ w2.heap.size) (hb : Below w.heap.size w w2) (h1 : (fitTerm x.term n).kind = k) (h2 : (fitTerm x.term n).a = a) (h3 : (fitTerm x.term n).to = t) (h4 : (fitTerm x.term n).els = e) :
  BlockPost x n w (.returned (.agg #[v, .int .i64 k, .int .i64 a, .int .i64 t, .int .i64 e])) w2 := by
 subst h1 h2 h3 h4
 have h := (hl.own.keep mono_ins hk hs).slr mono_ins
 rw [hj] at h
 exact ⟨v, rfl, hb, h.imp (fun b hb' => ⟨by omega, hb'.2⟩) (Keeps.refl _ _) (fun _ _ _ r => r.imp (fun b hb' => ⟨by omega, hb'.2⟩) (Keeps.refl _ _))⟩
set_option maxRecDepth 100000 in
set_option maxHeartbeats 4000000 in
theorem fitblock_any (x : LBlock) (hx : x.I) (vi : Value) (bn : Nat) (n : Int) (hn0 : 0 < n) (w : World) (hn : Names3 w bn) (hv : SlR w (· < w.heap.size) 8 (RIns w (· < w.heap.size)) vi x.ins) :
  Calls Tryz.prog 21 #[.agg #[vi, .int .i64 x.term.kind, .int .i64 x.term.a, .int .i64 x.term.to, .int .i64 x.term.els], .int .i64 n, .slice (some ⟨bn, 0, none⟩) 3 3] w (BlockPost x n w) := by
 obtain ⟨A, c, hvi, hlc, hcm⟩ := hv.val
 have HV := Lib.hid hv
 clear hv
 subst hvi
 have hlen := Nat.le_trans hlc hcm
 unfold maxLen at hlen
 have t1 := hx.term.kind.lo
 have t2 := hx.term.kind.hi
 have t3 := hx.term.a.lo
 have t4 := hx.term.a.hi
 have t5 := hx.term.to.lo
 have t6 := hx.term.to.hi
 have t7 := hx.term.els.lo
 have t8 := hx.term.els.hi
 go_enter Tryz.func21, Tryz.ntmps21
 go_upto_block 0 with fail
 go_cut [8] (fun _ wx => ∃ (j : Nat) (v : Value) (css : List (List Value)), x.ins.take j = x.ins.take 6 ∧ InsLoop x (.slice A x.ins.length c) bn w j v css wx)
 case first =>
  go_wp2_with fail
  refine wp_world ?_
  intro W hW
  have hst : InsLoop x (.slice A x.ins.length c) bn w 0 (.slice none 0 0) [] W := by
   rw [← hW]
   exact ⟨below3 _ _ _ _, ((Blk.new _ _ _).alloc _).alloc _, ⟨#[.slice none 0 0, .int .i64 0, .int .i64 0, .int .i64 0, .int .i64 0], (Blk.new_at _ _ _ (by simp)).alloc _, rfl⟩, Blk.new_at _ _ _ (by simp), OwnL.nil_ _ _ _ _ _⟩
  clear hW
  go_loopw [8] (fun i wr => ∃ j : Nat, j ≤ x.ins.length ∧ j ≤ 6 ∧ i = .int .i64 j ∧ ∃ v css, InsLoop x (.slice A x.ins.length c) bn w j v css wr) (fun i _ => 6 - (intOf i).toNat)
  case atStart => exact ⟨0, by omega, by omega, rfl, _, _, hst⟩
  case round =>
   obtain ⟨j, hj, hj6, rfl, v, css, hl⟩ := hrel
   have c0 : wr.cell? ⟨w.heap.size, 0, none⟩ = some (.slice A x.ins.length c) := hl.raw.cell 0
   by_cases hlt : j < x.ins.length ∧ j < 6
   ·obtain ⟨hlt, hlt6⟩ := hlt
    have d1 : decide ((j : Int) < (x.ins.length : Int)) = true := decide_eq_true (by omega)
    have d2 : decide ((j : Int) < 6) = true := decide_eq_true (by omega)
    obtain ⟨b, off, c', hform, _, _, hb, hel⟩ := HV.out.form (by omega)
    obtain ⟨cs, hcl, ⟨va, hcs, hsl⟩, hcell⟩ := hel j hlt
    subst hcs
    obtain ⟨rfl, rfl⟩ : A = some ⟨b, off, none⟩ ∧ c = c' := by injection hform with h1 _ h2; exact ⟨h1, h2⟩
    have hbr : b < wr.heap.size := Nat.lt_of_lt_of_le hb hl.below.size
    have hcw : Cells wr b (off + j * 8) (insCells x.ins[j] va) := hcell.keep (hl.below.block b hb)
    have i0 : wr.cell? ⟨b, off + j * 8, none⟩ = some (.int .i64 x.ins[j].kind) := hcw.at_ (j := 0) rfl
    have i1 : wr.cell? ⟨b, off + j * 8 + 1, none⟩ = some (.int .i64 x.ins[j].d) := hcw.at_ (j := 1) rfl
    have i2 : wr.cell? ⟨b, off + j * 8 + 2, none⟩ = some (.int .i64 x.ins[j].a) := hcw.at_ (j := 2) rfl
    have i3 : wr.cell? ⟨b, off + j * 8 + 3, none⟩ = some (.int .i64 x.ins[j].b) := hcw.at_ (j := 3) rfl
    have i4 : wr.cell? ⟨b, off + j * 8 + 4, none⟩ = some (.int .i64 x.ins[j].op) := hcw.at_ (j := 4) rfl
    have i5 : wr.cell? ⟨b, off + j * 8 + 5, none⟩ = some (.int .i64 x.ins[j].n) := hcw.at_ (j := 5) rfl
    have i6 : wr.cell? ⟨b, off + j * 8 + 6, none⟩ = some (.string x.ins[j].name) := hcw.at_ (j := 6) rfl
    have i7 : wr.cell? ⟨b, off + j * 8 + 7, none⟩ = some va := hcw.at_ (j := 7) rfl
    obtain ⟨A', c2, hva, _, _⟩ := hsl.val
    subst hva
    have o0 : wr.cell? ⟨w.heap.size + 1 + 1, 0, none⟩ = some v := hl.out.cell 0
    have f0 : wr.frozen? ⟨w.heap.size + 1 + 1, 0, none⟩ = false := hl.out.frozen 0
    have hsz : w.heap.size + 1 + 1 < wr.heap.size := hl.out.lt
    have hne : v.ownBlock ≠ some (w.heap.size + 1 + 1) := fun e => by have := (hl.own.lt _ e).1; omega
    have hjl : ((x.ins.take j).map fitIns).length = j := by simp; omega
    have hn1 : j + 1 ≤ maxLen := by unfold maxLen; omega
    have hn2 : (j + 1) * 88 ≤ 140737488355328 := by omega
    have HJ := Lib.hid hjl
    clear hjl
    have hI := hx.ins x.ins[j] (List.getElem_mem _)
    have hnames : Names3 wr.drew bn := hn.keep (hl.below.block bn (hn.lt (by simp)))
    obtain ⟨z0, hi0, hz0, hz1, hz2⟩ := info_parts info_ins
    have hbs := hl.below.size
    have HL := Lib.hid hl
    clear hl hcw hsl hcell hel hform
    go_wp2_with fail
    go_region_law (first | (refine step_append_lies _ (by rfl) _ _ _ (by rfl) (w.heap.size + 3) 44 z0 _ 8 88 Tryz.underlying42 hi0 hz0 hz1 hz2 rfl (by omega) v _ _ (by rfl) (hown.alloc _) ⟨w'.heap.size, 0, none⟩ 1 1 (insCells (fitIns x.ins[j]) va') (by rfl) (by rfl) (World.news_of_block (cs := (insCells (fitIns x.ins[j]) va').toArray) (t := 44) (fr := (0, 0)) (heap_alloc_new w' _)) (insCells_one _ hone) (by omega) hn1 hn2 (by simp; omega) (w'.heap.size + 1) (by simp) ?_; intro g cap w1 hown1 hgrow hat hlt1; have o2 : w1.cell? ⟨w.heap.size + 1 + 1, 0, none⟩ = some v := (hgrow.cell_far _ (by simp; omega) (Ne.symm hne)).trans ((World.cell?_alloc_lt w' _ _ (by simp; omega)).trans o1); have f2 : w1.frozen? ⟨w.heap.size + 1 + 1, 0, none⟩ = false := (hgrow.frozen_far _ (by simp; omega) (Ne.symm hne)).trans ((World.frozen?_alloc_old w' _ _ (Nat.ne_of_lt (by simp; omega))).trans f1)) | (go_simp; go_at_call 17; refine (fitins_lit _ hI _ bn _ hnames).mono ?_; rintro e w' ⟨va', rfl, hbw0, hsl'⟩; have hbw : Below wr.heap.size wr w' := below_undrew (B := wr.heap.size) hbw0; have hown : w'.ownsRow (w.heap.size + 3) 44 8 v j css.flatten := (by have h := (HL.out.own.below mono_ins hbw).row; rw [HJ.out] at h; exact h); have o1 : w'.cell? ⟨w.heap.size + 1 + 1, 0, none⟩ = some v := (hbw.cell (p := ⟨w.heap.size + 1 + 1, 0, none⟩) hsz).trans o0; have f1 : w'.frozen? ⟨w.heap.size + 1 + 1, 0, none⟩ = false := (hbw.frozen (p := ⟨w.heap.size + 1 + 1, 0, none⟩) hsz).trans f0; have hsw := hbw.size; have hsz2 : w.heap.size + 1 + 1 < w'.heap.size := Nat.lt_of_lt_of_le hsz hsw; have hone : va'.oneCell' = true := (by obtain ⟨A3, c3, hva3, _, _⟩ := hsl'.val; rw [hva3]; rfl)))
    all_goals
     go_wp2
     go_roundw
     case rel => exact ⟨j + 1, by omega, by omega, by go_num, _, _, HL.out.next hlt hbw hsl' hown1 hgrow hat⟩
     case measure => simp [intOf]; omega
   ·have hj6' : x.ins.take j = x.ins.take 6 := by
     by_cases h : j < x.ins.length
     ·rw [show j = 6 by omega]
     ·rw [List.take_of_length_le (by omega), List.take_of_length_le (by omega)]
    have HJ := Lib.hid hj6'
    have HL := Lib.hid hl
    clear hl hj6'
    have hdd : (decide ((j : Int) < (x.ins.length : Int)) = false) ∨ (decide ((j : Int) < (x.ins.length : Int)) = true ∧ decide ((j : Int) < 6) = false) := by
     by_cases h : j < x.ins.length
     ·exact .inr ⟨decide_eq_true (by omega), decide_eq_false (by omega)⟩
     ·exact .inl (decide_eq_false (by omega))
    rcases hdd with hd | ⟨hd, hd'⟩
    all_goals go_wp2
    all_goals
     go_meet
     exact ⟨j, v, css, HJ.out, HL.out⟩
 case rest =>
  obtain ⟨j, v, css, HJ0, hl⟩ := hcut
  have HJ := Lib.hid HJ0
  clear HJ0
  have HL := Lib.hid hl
  obtain ⟨A3, c3, rfl⟩ := own_form hl.own.row
  obtain ⟨rs, hrs, hr5⟩ := hl.res
  generalize ((x.ins.take j).map fitIns).length = m at *
  have HO := Lib.hid hl.outIs
  have HR := Lib.hid hrs
  have o0 : wc.cell? ⟨w.heap.size + 1 + 1, 0, none⟩ = some (.slice A3 m c3) := hl.out.cell 0
  have o1 : wc.cell? ⟨w.heap.size + 1 + 1, 1, none⟩ = some (.int .i64 0) := hl.out.cell 1
  have o2 : wc.cell? ⟨w.heap.size + 1 + 1, 2, none⟩ = some (.int .i64 0) := hl.out.cell 2
  have o3 : wc.cell? ⟨w.heap.size + 1 + 1, 3, none⟩ = some (.int .i64 0) := hl.out.cell 3
  have o4 : wc.cell? ⟨w.heap.size + 1 + 1, 4, none⟩ = some (.int .i64 0) := hl.out.cell 4
  have f0 : wc.frozen? ⟨w.heap.size + 1 + 1, 0, none⟩ = false := hl.out.frozen 0
  have f1 : wc.frozen? ⟨w.heap.size + 1 + 1, 1, none⟩ = false := hl.out.frozen 1
  have f2 : wc.frozen? ⟨w.heap.size + 1 + 1, 2, none⟩ = false := hl.out.frozen 2
  have f3 : wc.frozen? ⟨w.heap.size + 1 + 1, 3, none⟩ = false := hl.out.frozen 3
  have f4 : wc.frozen? ⟨w.heap.size + 1 + 1, 4, none⟩ = false := hl.out.frozen 4
  have d1 : wc.cell? ⟨w.heap.size, 1, none⟩ = some (.int .i64 x.term.kind) := hl.raw.cell 1
  have d2 : wc.cell? ⟨w.heap.size, 2, none⟩ = some (.int .i64 x.term.a) := hl.raw.cell 2
  have d3 : wc.cell? ⟨w.heap.size, 3, none⟩ = some (.int .i64 x.term.to) := hl.raw.cell 3
  have d4 : wc.cell? ⟨w.heap.size, 4, none⟩ = some (.int .i64 x.term.els) := hl.raw.cell 4
  have s0 : w.heap.size < wc.heap.size := hl.raw.lt
  have s1 : w.heap.size + 1 < wc.heap.size := hrs.lt
  have s2 : w.heap.size + 1 + 1 < wc.heap.size := hl.out.lt
  clear hl hrs
  have P1 := Lib.hid (fun W => pick10_any x.term.kind 4 t1 t2 (by decide) W)
  have P2 := Lib.hid (fun W => pick10_any x.term.a 10 t3 t4 (by decide) W)
  have P3 := Lib.hid (fun W => pick10_any x.term.to n t5 t6 hn0 W)
  have P4 := Lib.hid (fun W => pick10_any x.term.els n t7 t8 hn0 W)
  have k0 := pk_lo x.term.kind 4 (by decide)
  have k1 := pk_hi x.term.kind 4 (by decide)
  have HC : 1 + pk x.term.kind 4 = 1 ∨ 1 + pk x.term.kind 4 = 2 ∨ 1 + pk x.term.kind 4 = 3 ∨ 1 + pk x.term.kind 4 = 4 := by omega
  have H5 := Lib.hid hr5
  clear t1 t2 t3 t4 t5 t6 t7 t8 k0 k1 hn0 hlc hcm hlen hn hx HV hr5
  rcases HC with hk | hk | hk | hk
  ·go_wp2_with fail
   refine (P1.out _).mono ?_
   rintro e w' ⟨rfl, rfl⟩
   go_wp2_with fail
   refine (P3.out _).mono ?_
   rintro e w' ⟨rfl, rfl⟩
   go_upto_region 14 with fail
   refine wp_world ?_
   intro V hV
   have hO : OutIs w wc V #[.slice A3 m c3, .int .i64 1, .int .i64 0, .int .i64 (pk x.term.to n), .int .i64 0] := by rw [← hV]; exact (((((HO.out.set_ 1 _).set_ 2 _).set_ 3 _).set_ 4 _).set_ 3 _).alloc_ _
   have p0 : V.cell? ⟨w.heap.size + 1 + 1, 0, none⟩ = some (.slice A3 m c3) := hO.blk.cell 0
   have p1 : V.cell? ⟨w.heap.size + 1 + 1, 1, none⟩ = some (.int .i64 1) := hO.blk.cell 1
   have p2 : V.cell? ⟨w.heap.size + 1 + 1, 2, none⟩ = some (.int .i64 0) := hO.blk.cell 2
   have p3 : V.cell? ⟨w.heap.size + 1 + 1, 3, none⟩ = some (.int .i64 (pk x.term.to n)) := hO.blk.cell 3
   have p4 : V.cell? ⟨w.heap.size + 1 + 1, 4, none⟩ = some (.int .i64 0) := hO.blk.cell 4
   have hrV : Blk V (w.heap.size + 1) 48 rs := HR.out.keep (hO.keep _ ⟨by omega, s1⟩)
   obtain ⟨r0, q0⟩ : ∃ u, V.cell? ⟨w.heap.size + 1, 0, none⟩ = some u := ⟨rs[0]'(by rw [H5.out]; decide), (hrV.cell 0).trans (Array.getElem?_eq_getElem _)⟩
   have z0 : V.frozen? ⟨w.heap.size + 1, 0, none⟩ = false := hrV.frozen 0
   obtain ⟨r1, q1⟩ : ∃ u, V.cell? ⟨w.heap.size + 1, 1, none⟩ = some u := ⟨rs[1]'(by rw [H5.out]; decide), (hrV.cell 1).trans (Array.getElem?_eq_getElem _)⟩
   have z1 : V.frozen? ⟨w.heap.size + 1, 1, none⟩ = false := hrV.frozen 1
   obtain ⟨r2, q2⟩ : ∃ u, V.cell? ⟨w.heap.size + 1, 2, none⟩ = some u := ⟨rs[2]'(by rw [H5.out]; decide), (hrV.cell 2).trans (Array.getElem?_eq_getElem _)⟩
   have z2 : V.frozen? ⟨w.heap.size + 1, 2, none⟩ = false := hrV.frozen 2
   obtain ⟨r3, q3⟩ : ∃ u, V.cell? ⟨w.heap.size + 1, 3, none⟩ = some u := ⟨rs[3]'(by rw [H5.out]; decide), (hrV.cell 3).trans (Array.getElem?_eq_getElem _)⟩
   have z3 : V.frozen? ⟨w.heap.size + 1, 3, none⟩ = false := hrV.frozen 3
   obtain ⟨r4, q4⟩ : ∃ u, V.cell? ⟨w.heap.size + 1, 4, none⟩ = some u := ⟨rs[4]'(by rw [H5.out]; decide), (hrV.cell 4).trans (Array.getElem?_eq_getElem _)⟩
   have z4 : V.frozen? ⟨w.heap.size + 1, 4, none⟩ = false := hrV.frozen 4
   have HO2 := Lib.hid hO
   have HK := Lib.hid hk
   clear hV hO hrV o0 o1 o2 o3 o4 f0 f1 f2 f3 f4 d1 d2 d3 d4 s0 s1 s2 hk
   go_wp2
   refine bodyPost_ret (v := .agg #[.slice A3 m c3, .int .i64 1, .int .i64 0, .int .i64 (pk x.term.to n), .int .i64 0]) (by simp [results, Tryz.results21, go_sem, q0, q1, q2, q3, q4]) rfl (HL.out.finish HJ.out ?_ ?_ ?_ (by simp [fitTerm, HK.out]) (by simp [fitTerm, HK.out]) (by simp [fitTerm, HK.out]) (by simp [fitTerm, HK.out]))
   ·have hne : ∀ i : Nat, ∀ b, (w.heap.size + 3 ≤ b ∧ b < wc.heap.size) → b ≠ (⟨w.heap.size + 1, i, none⟩ : Addr).block := fun i b hb => by show b ≠ w.heap.size + 1; omega
    exact (((((HO2.out.keep.mono fun b hb => ⟨by omega, hb.2⟩).set (hne 0) _).set (hne 1) _).set (hne 2) _).set (hne 3) _).set (hne 4) _
   ·simp only [World.setCell, Array.size_modify]; exact HO2.out.size
   ·exact ((((HO2.out.below.setCell (by simp) _).setCell (by simp) _).setCell (by simp) _).setCell (by simp) _).setCell (by simp) _
  ·go_wp2_with fail
   refine (P1.out _).mono ?_
   rintro e w' ⟨rfl, rfl⟩
   go_wp2_with fail
   refine (P2.out _).mono ?_
   rintro e w' ⟨rfl, rfl⟩
   go_wp2_with fail
   refine (P3.out _).mono ?_
   rintro e w' ⟨rfl, rfl⟩
   go_wp2_with fail
   refine (P4.out _).mono ?_
   rintro e w' ⟨rfl, rfl⟩
   go_upto_region 14 with fail
   refine wp_world ?_
   intro V hV
   have hO : OutIs w wc V #[.slice A3 m c3, .int .i64 2, .int .i64 (pk x.term.a 10), .int .i64 (pk x.term.to n), .int .i64 (pk x.term.els n)] := by rw [← hV]; exact (((((((HO.out.set_ 1 _).set_ 2 _).set_ 3 _).set_ 4 _).set_ 2 _).set_ 3 _).set_ 4 _).alloc_ _
   have p0 : V.cell? ⟨w.heap.size + 1 + 1, 0, none⟩ = some (.slice A3 m c3) := hO.blk.cell 0
   have p1 : V.cell? ⟨w.heap.size + 1 + 1, 1, none⟩ = some (.int .i64 2) := hO.blk.cell 1
   have p2 : V.cell? ⟨w.heap.size + 1 + 1, 2, none⟩ = some (.int .i64 (pk x.term.a 10)) := hO.blk.cell 2
   have p3 : V.cell? ⟨w.heap.size + 1 + 1, 3, none⟩ = some (.int .i64 (pk x.term.to n)) := hO.blk.cell 3
   have p4 : V.cell? ⟨w.heap.size + 1 + 1, 4, none⟩ = some (.int .i64 (pk x.term.els n)) := hO.blk.cell 4
   have hrV : Blk V (w.heap.size + 1) 48 rs := HR.out.keep (hO.keep _ ⟨by omega, s1⟩)
   obtain ⟨r0, q0⟩ : ∃ u, V.cell? ⟨w.heap.size + 1, 0, none⟩ = some u := ⟨rs[0]'(by rw [H5.out]; decide), (hrV.cell 0).trans (Array.getElem?_eq_getElem _)⟩
   have z0 : V.frozen? ⟨w.heap.size + 1, 0, none⟩ = false := hrV.frozen 0
   obtain ⟨r1, q1⟩ : ∃ u, V.cell? ⟨w.heap.size + 1, 1, none⟩ = some u := ⟨rs[1]'(by rw [H5.out]; decide), (hrV.cell 1).trans (Array.getElem?_eq_getElem _)⟩
   have z1 : V.frozen? ⟨w.heap.size + 1, 1, none⟩ = false := hrV.frozen 1
   obtain ⟨r2, q2⟩ : ∃ u, V.cell? ⟨w.heap.size + 1, 2, none⟩ = some u := ⟨rs[2]'(by rw [H5.out]; decide), (hrV.cell 2).trans (Array.getElem?_eq_getElem _)⟩
   have z2 : V.frozen? ⟨w.heap.size + 1, 2, none⟩ = false := hrV.frozen 2
   obtain ⟨r3, q3⟩ : ∃ u, V.cell? ⟨w.heap.size + 1, 3, none⟩ = some u := ⟨rs[3]'(by rw [H5.out]; decide), (hrV.cell 3).trans (Array.getElem?_eq_getElem _)⟩
   have z3 : V.frozen? ⟨w.heap.size + 1, 3, none⟩ = false := hrV.frozen 3
   obtain ⟨r4, q4⟩ : ∃ u, V.cell? ⟨w.heap.size + 1, 4, none⟩ = some u := ⟨rs[4]'(by rw [H5.out]; decide), (hrV.cell 4).trans (Array.getElem?_eq_getElem _)⟩
   have z4 : V.frozen? ⟨w.heap.size + 1, 4, none⟩ = false := hrV.frozen 4
   have HO2 := Lib.hid hO
   have HK := Lib.hid hk
   clear hV hO hrV o0 o1 o2 o3 o4 f0 f1 f2 f3 f4 d1 d2 d3 d4 s0 s1 s2 hk
   go_wp2
   refine bodyPost_ret (v := .agg #[.slice A3 m c3, .int .i64 2, .int .i64 (pk x.term.a 10), .int .i64 (pk x.term.to n), .int .i64 (pk x.term.els n)]) (by simp [results, Tryz.results21, go_sem, q0, q1, q2, q3, q4]) rfl (HL.out.finish HJ.out ?_ ?_ ?_ (by simp [fitTerm, HK.out]) (by simp [fitTerm, HK.out]) (by simp [fitTerm, HK.out]) (by simp [fitTerm, HK.out]))
   ·have hne : ∀ i : Nat, ∀ b, (w.heap.size + 3 ≤ b ∧ b < wc.heap.size) → b ≠ (⟨w.heap.size + 1, i, none⟩ : Addr).block := fun i b hb => by show b ≠ w.heap.size + 1; omega
    exact (((((HO2.out.keep.mono fun b hb => ⟨by omega, hb.2⟩).set (hne 0) _).set (hne 1) _).set (hne 2) _).set (hne 3) _).set (hne 4) _
   ·simp only [World.setCell, Array.size_modify]; exact HO2.out.size
   ·exact ((((HO2.out.below.setCell (by simp) _).setCell (by simp) _).setCell (by simp) _).setCell (by simp) _).setCell (by simp) _
  ·go_wp2_with fail
   refine (P1.out _).mono ?_
   rintro e w' ⟨rfl, rfl⟩
   go_wp2_with fail
   refine (P2.out _).mono ?_
   rintro e w' ⟨rfl, rfl⟩
   go_upto_region 14 with fail
   refine wp_world ?_
   intro V hV
   have hO : OutIs w wc V #[.slice A3 m c3, .int .i64 3, .int .i64 (pk x.term.a 10), .int .i64 0, .int .i64 0] := by rw [← hV]; exact (((((HO.out.set_ 1 _).set_ 2 _).set_ 3 _).set_ 4 _).set_ 2 _).alloc_ _
   have p0 : V.cell? ⟨w.heap.size + 1 + 1, 0, none⟩ = some (.slice A3 m c3) := hO.blk.cell 0
   have p1 : V.cell? ⟨w.heap.size + 1 + 1, 1, none⟩ = some (.int .i64 3) := hO.blk.cell 1
   have p2 : V.cell? ⟨w.heap.size + 1 + 1, 2, none⟩ = some (.int .i64 (pk x.term.a 10)) := hO.blk.cell 2
   have p3 : V.cell? ⟨w.heap.size + 1 + 1, 3, none⟩ = some (.int .i64 0) := hO.blk.cell 3
   have p4 : V.cell? ⟨w.heap.size + 1 + 1, 4, none⟩ = some (.int .i64 0) := hO.blk.cell 4
   have hrV : Blk V (w.heap.size + 1) 48 rs := HR.out.keep (hO.keep _ ⟨by omega, s1⟩)
   obtain ⟨r0, q0⟩ : ∃ u, V.cell? ⟨w.heap.size + 1, 0, none⟩ = some u := ⟨rs[0]'(by rw [H5.out]; decide), (hrV.cell 0).trans (Array.getElem?_eq_getElem _)⟩
   have z0 : V.frozen? ⟨w.heap.size + 1, 0, none⟩ = false := hrV.frozen 0
   obtain ⟨r1, q1⟩ : ∃ u, V.cell? ⟨w.heap.size + 1, 1, none⟩ = some u := ⟨rs[1]'(by rw [H5.out]; decide), (hrV.cell 1).trans (Array.getElem?_eq_getElem _)⟩
   have z1 : V.frozen? ⟨w.heap.size + 1, 1, none⟩ = false := hrV.frozen 1
   obtain ⟨r2, q2⟩ : ∃ u, V.cell? ⟨w.heap.size + 1, 2, none⟩ = some u := ⟨rs[2]'(by rw [H5.out]; decide), (hrV.cell 2).trans (Array.getElem?_eq_getElem _)⟩
   have z2 : V.frozen? ⟨w.heap.size + 1, 2, none⟩ = false := hrV.frozen 2
   obtain ⟨r3, q3⟩ : ∃ u, V.cell? ⟨w.heap.size + 1, 3, none⟩ = some u := ⟨rs[3]'(by rw [H5.out]; decide), (hrV.cell 3).trans (Array.getElem?_eq_getElem _)⟩
   have z3 : V.frozen? ⟨w.heap.size + 1, 3, none⟩ = false := hrV.frozen 3
   obtain ⟨r4, q4⟩ : ∃ u, V.cell? ⟨w.heap.size + 1, 4, none⟩ = some u := ⟨rs[4]'(by rw [H5.out]; decide), (hrV.cell 4).trans (Array.getElem?_eq_getElem _)⟩
   have z4 : V.frozen? ⟨w.heap.size + 1, 4, none⟩ = false := hrV.frozen 4
   have HO2 := Lib.hid hO
   have HK := Lib.hid hk
   clear hV hO hrV o0 o1 o2 o3 o4 f0 f1 f2 f3 f4 d1 d2 d3 d4 s0 s1 s2 hk
   go_wp2
   refine bodyPost_ret (v := .agg #[.slice A3 m c3, .int .i64 3, .int .i64 (pk x.term.a 10), .int .i64 0, .int .i64 0]) (by simp [results, Tryz.results21, go_sem, q0, q1, q2, q3, q4]) rfl (HL.out.finish HJ.out ?_ ?_ ?_ (by simp [fitTerm, HK.out]) (by simp [fitTerm, HK.out]) (by simp [fitTerm, HK.out]) (by simp [fitTerm, HK.out]))
   ·have hne : ∀ i : Nat, ∀ b, (w.heap.size + 3 ≤ b ∧ b < wc.heap.size) → b ≠ (⟨w.heap.size + 1, i, none⟩ : Addr).block := fun i b hb => by show b ≠ w.heap.size + 1; omega
    exact (((((HO2.out.keep.mono fun b hb => ⟨by omega, hb.2⟩).set (hne 0) _).set (hne 1) _).set (hne 2) _).set (hne 3) _).set (hne 4) _
   ·simp only [World.setCell, Array.size_modify]; exact HO2.out.size
   ·exact ((((HO2.out.below.setCell (by simp) _).setCell (by simp) _).setCell (by simp) _).setCell (by simp) _).setCell (by simp) _
  ·go_wp2_with fail
   refine (P1.out _).mono ?_
   rintro e w' ⟨rfl, rfl⟩
   go_wp2_with fail
   refine (P2.out _).mono ?_
   rintro e w' ⟨rfl, rfl⟩
   go_upto_region 14 with fail
   refine wp_world ?_
   intro V hV
   have hO : OutIs w wc V #[.slice A3 m c3, .int .i64 4, .int .i64 (pk x.term.a 10), .int .i64 0, .int .i64 0] := by rw [← hV]; exact (((((HO.out.set_ 1 _).set_ 2 _).set_ 3 _).set_ 4 _).set_ 2 _).alloc_ _
   have p0 : V.cell? ⟨w.heap.size + 1 + 1, 0, none⟩ = some (.slice A3 m c3) := hO.blk.cell 0
   have p1 : V.cell? ⟨w.heap.size + 1 + 1, 1, none⟩ = some (.int .i64 4) := hO.blk.cell 1
   have p2 : V.cell? ⟨w.heap.size + 1 + 1, 2, none⟩ = some (.int .i64 (pk x.term.a 10)) := hO.blk.cell 2
   have p3 : V.cell? ⟨w.heap.size + 1 + 1, 3, none⟩ = some (.int .i64 0) := hO.blk.cell 3
   have p4 : V.cell? ⟨w.heap.size + 1 + 1, 4, none⟩ = some (.int .i64 0) := hO.blk.cell 4
   have hrV : Blk V (w.heap.size + 1) 48 rs := HR.out.keep (hO.keep _ ⟨by omega, s1⟩)
   obtain ⟨r0, q0⟩ : ∃ u, V.cell? ⟨w.heap.size + 1, 0, none⟩ = some u := ⟨rs[0]'(by rw [H5.out]; decide), (hrV.cell 0).trans (Array.getElem?_eq_getElem _)⟩
   have z0 : V.frozen? ⟨w.heap.size + 1, 0, none⟩ = false := hrV.frozen 0
   obtain ⟨r1, q1⟩ : ∃ u, V.cell? ⟨w.heap.size + 1, 1, none⟩ = some u := ⟨rs[1]'(by rw [H5.out]; decide), (hrV.cell 1).trans (Array.getElem?_eq_getElem _)⟩
   have z1 : V.frozen? ⟨w.heap.size + 1, 1, none⟩ = false := hrV.frozen 1
   obtain ⟨r2, q2⟩ : ∃ u, V.cell? ⟨w.heap.size + 1, 2, none⟩ = some u := ⟨rs[2]'(by rw [H5.out]; decide), (hrV.cell 2).trans (Array.getElem?_eq_getElem _)⟩
   have z2 : V.frozen? ⟨w.heap.size + 1, 2, none⟩ = false := hrV.frozen 2
   obtain ⟨r3, q3⟩ : ∃ u, V.cell? ⟨w.heap.size + 1, 3, none⟩ = some u := ⟨rs[3]'(by rw [H5.out]; decide), (hrV.cell 3).trans (Array.getElem?_eq_getElem _)⟩
   have z3 : V.frozen? ⟨w.heap.size + 1, 3, none⟩ = false := hrV.frozen 3
   obtain ⟨r4, q4⟩ : ∃ u, V.cell? ⟨w.heap.size + 1, 4, none⟩ = some u := ⟨rs[4]'(by rw [H5.out]; decide), (hrV.cell 4).trans (Array.getElem?_eq_getElem _)⟩
   have z4 : V.frozen? ⟨w.heap.size + 1, 4, none⟩ = false := hrV.frozen 4
   have HO2 := Lib.hid hO
   have HK := Lib.hid hk
   clear hV hO hrV o0 o1 o2 o3 o4 f0 f1 f2 f3 f4 d1 d2 d3 d4 s0 s1 s2 hk
   go_wp2
   refine bodyPost_ret (v := .agg #[.slice A3 m c3, .int .i64 4, .int .i64 (pk x.term.a 10), .int .i64 0, .int .i64 0]) (by simp [results, Tryz.results21, go_sem, q0, q1, q2, q3, q4]) rfl (HL.out.finish HJ.out ?_ ?_ ?_ (by simp [fitTerm, HK.out]) (by simp [fitTerm, HK.out]) (by simp [fitTerm, HK.out]) (by simp [fitTerm, HK.out]))
   ·have hne : ∀ i : Nat, ∀ b, (w.heap.size + 3 ≤ b ∧ b < wc.heap.size) → b ≠ (⟨w.heap.size + 1, i, none⟩ : Addr).block := fun i b hb => by show b ≠ w.heap.size + 1; omega
    exact (((((HO2.out.keep.mono fun b hb => ⟨by omega, hb.2⟩).set (hne 0) _).set (hne 1) _).set (hne 2) _).set (hne 3) _).set (hne 4) _
   ·simp only [World.setCell, Array.size_modify]; exact HO2.out.size
   ·exact ((((HO2.out.below.setCell (by simp) _).setCell (by simp) _).setCell (by simp) _).setCell (by simp) _).setCell (by simp) _
end Go.Proofs.YtkpigkopjfkepaaGreatDoor
