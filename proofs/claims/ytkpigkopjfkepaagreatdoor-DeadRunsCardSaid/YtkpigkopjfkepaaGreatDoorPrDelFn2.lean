/- The closure of dead.sweep tells whether an instruction is idle, and counts; slices.DeleteFunc at it leaves out what it tells. Printed by wip/gen_delfn.py. -/
import Derived.Test.YtkpigkopjfkepaaGreatDoorPrDelFn
import Derived.Test.YtkpigkopjfkepaaGreatDoorPrFlowAll
import Derived.Test.YtkpigkopjfkepaaGreatDoorPrRegion
namespace Go.Proofs.YtkpigkopjfkepaaGreatDoor
open List (setIfInBounds_toArray set_cons_zero set_cons_succ)
open Go.RowKit
set_option maxRecDepth 100000 in
set_option maxHeartbeats 4000000 in
theorem sweep1_any (LL : List (List (List Int))) (i k : Nat) (hi : i < LL.length) (hk : k < LL[i].length) (kb ab ib : Nat) (va : Value) (w : World) {ok : Nat → Prop} (hok : ∀ b, ok b → b < kb) (hab : ab < kb) (hib : ib < kb)
  (ha : w.cell? ⟨ab, 0, none⟩ = some va) (hI : w.cell? ⟨ib, 0, none⟩ = some (.int .i64 (i : Int))) (hL : SlR w ok 1 (RRows w ok) va LL) (x : LIns) (A : Option Addr) (c : Nat) (X : World) (hX : DW w kb ((k : Int) - 1) X) (hkb : kb < w.heap.size) :
  Calls Tryz.prog 51 #[.agg #[.int .i64 x.kind, .int .i64 x.d, .int .i64 x.a, .int .i64 x.b, .int .i64 x.op, .int .i64 x.n, .string x.name, .slice A x.args.length c], .pointer (some ⟨kb, 0, none⟩), .pointer (some ⟨ab, 0, none⟩), .pointer (some ⟨ib, 0, none⟩)] X fun e X' => e = .returned (.bool (idleN LL[i][k] x)) ∧ X.grownBy X' (some kb) ∧ Blk X' kb 3 #[.int .i64 (k : Int)] := by
 obtain ⟨ga, oa, ca, hva, hac, hcm, hga, hqa⟩ := hL.form (by omega)
 subst hva
 obtain ⟨cs1, _, ⟨v1, hcs1, hs1⟩, hc1⟩ := hqa i hi
 subst hcs1
 obtain ⟨l2, hl2⟩ : ∃ l2, l2 = LL[i] := ⟨_, rfl⟩
 obtain ⟨l3, hl3⟩ : ∃ l3, l3 = LL[i][k] := ⟨_, rfl⟩
 obtain ⟨gb, ob, cb, hvb, hbc, hbm, hgb, hqb⟩ := hs1.form (by omega)
 subst hvb
 obtain ⟨cs2, hy0, ⟨v2, hcs2, hs2⟩, hc2⟩ := hqb k hk
 subst hcs2
 obtain ⟨A6, c6, hv2, hy1, hy2⟩ := hs2.val
 subst hv2
 have hXb : Below kb w X := hX.below
 have b0 : X.cell? ⟨ab, 0, none⟩ = some (.slice (some ⟨ga, oa, none⟩) LL.length ca) := (hXb.cell (p := ⟨ab, 0, none⟩) hab).trans ha
 have b1 : X.cell? ⟨ib, 0, none⟩ = some (.int .i64 (i : Int)) := (hXb.cell (p := ⟨ib, 0, none⟩) hib).trans hI
 have b2 : X.cell? ⟨ga, oa + i, none⟩ = some (.slice (some ⟨gb, ob, none⟩) l2.length cb) := by
  rw [hl2]
  have h := (hc1.keep (hXb.block ga (hok ga hga))).at_ (j := 0) rfl
  simpa using h
 have b3 : X.cell? ⟨gb, ob + k, none⟩ = some (.slice A6 l3.length c6) := by
  rw [hl3]
  have h := (hc2.keep (hXb.block gb (hok gb hgb))).at_ (j := 0) rfl
  simpa using h
 have hs3 : SlR X ok 1 RInt (.slice A6 l3.length c6) l3 := by
  rw [hl3]
  exact hs2.imp (fun _ h => h) (fun b hb => hXb.block b (hok b hb)) (fun _ _ _ r => r)
 have hkX : kb < X.heap.size := Nat.lt_of_lt_of_le hkb hXb.size
 have hkl : k < l2.length := by rw [hl2]; exact hk
 have hgaX : ga < kb := hok ga hga
 have hgbX : gb < kb := hok gb hgb
 rw [← hl3]
 have hcnt := hX.cnt
 have k0 : X.cell? ⟨kb, 0, none⟩ = some (.int .i64 ((k : Int) - 1)) := hcnt.cell 0
 have kz := hcnt.frozen 0
 have HCNT := Lib.hid hcnt
 have HS3 := Lib.hid hs3
 have HOK := Lib.hid hok
 have h1000 : l2.length ≤ maxLen := by rw [hl2]; exact hs1.len_le
 unfold maxLen at h1000
 clear hc1 hc2 hqa hqb hy0 hy1 hy2 hs1 hs2 hs3 hL hX hXb ha hI hcnt hl3 hok hk hl2
 go_enter Tryz.func51, Tryz.ntmps51
 go_upto_region 2 with fail
 refine wp_world ?_
 intro W hW
 have hsx : (X.setCell ⟨kb, 0, none⟩ (.int .i64 (k : Int))).heap.size = X.heap.size := by simp [World.setCell]
 have hblk : Blk W X.heap.size 44 #[.int .i64 x.kind, .int .i64 x.d, .int .i64 x.a, .int .i64 x.b, .int .i64 x.op, .int .i64 x.n, .string x.name, .slice A x.args.length c] := by rw [← hW]; exact Blk.new_at _ _ _ hsx.symm
 have hcnt2 : Blk W kb 3 #[.int .i64 (k : Int)] := by rw [← hW]; exact (HCNT.out.set_ 0 _).alloc _
 have hgr : X.grownBy W (some kb) := by
  rw [← hW]
  exact ⟨rfl, rfl, rfl, by simp [World.setCell], fun b hb hne => (Below.heap_alloc _ _ b (by rw [hsx]; exact hb)).trans (Below.heap_setCell _ _ _ _ (fun e => hne (by rw [e])))⟩
 have hsz : X.heap.size < W.heap.size := hblk.lt
 have keep : ∀ b, b < kb → W.heap[b]? = X.heap[b]? := fun b hb => hgr.block b (by omega) (fun e => by injection e with e; omega)
 have d0 : W.cell? ⟨ab, 0, none⟩ = some (.slice (some ⟨ga, oa, none⟩) LL.length ca) := (World.cell?_of_block (w := X) (a := ⟨ab, 0, none⟩) (keep ab hab)).trans b0
 have d1 : W.cell? ⟨ib, 0, none⟩ = some (.int .i64 (i : Int)) := (World.cell?_of_block (w := X) (a := ⟨ib, 0, none⟩) (keep ib hib)).trans b1
 have d2 : W.cell? ⟨ga, oa + i, none⟩ = some (.slice (some ⟨gb, ob, none⟩) l2.length cb) := (World.cell?_of_block (w := X) (a := ⟨ga, oa + i, none⟩) (keep ga hgaX)).trans b2
 have d3 : W.cell? ⟨gb, ob + k, none⟩ = some (.slice A6 l3.length c6) := (World.cell?_of_block (w := X) (a := ⟨gb, ob + k, none⟩) (keep gb hgbX)).trans b3
 have hkW : kb < W.heap.size := by omega
 have SO : Hid (∀ Y, Below W.heap.size W Y → (fun w2 => w2.cell? ⟨X.heap.size, 0, none⟩ = some (.int .i64 x.kind) ∧ w2.cell? ⟨X.heap.size, 1, none⟩ = some (.int .i64 x.d) ∧ w2.cell? ⟨X.heap.size, 2, none⟩ = some (.int .i64 x.a) ∧ w2.cell? ⟨X.heap.size, 3, none⟩ = some (.int .i64 x.b) ∧ w2.cell? ⟨X.heap.size, 4, none⟩ = some (.int .i64 x.op) ∧ w2.cell? ⟨X.heap.size, 5, none⟩ = some (.int .i64 x.n) ∧ w2.cell? ⟨X.heap.size, 6, none⟩ = some (.string x.name) ∧ w2.cell? ⟨X.heap.size, 7, none⟩ = some (.slice A x.args.length c) ∧ w2.cell? ⟨ab, 0, none⟩ = some (.slice (some ⟨ga, oa, none⟩) LL.length ca) ∧ w2.cell? ⟨ib, 0, none⟩ = some (.int .i64 (i : Int)) ∧ w2.cell? ⟨ga, oa + i, none⟩ = some (.slice (some ⟨gb, ob, none⟩) l2.length cb) ∧ w2.cell? ⟨kb, 0, none⟩ = some (.int .i64 (k : Int)) ∧ w2.cell? ⟨gb, ob + k, none⟩ = some (.slice A6 l3.length c6)) Y) := Lib.hid (fun Y hb => by
  have hb0 := hblk.below hb hsz
  exact ⟨hb0.cell 0, hb0.cell 1, hb0.cell 2, hb0.cell 3, hb0.cell 4, hb0.cell 5, hb0.cell 6, hb0.cell 7, (hb.cell (p := ⟨ab, 0, none⟩) (by show ab < _; omega)).trans d0, (hb.cell (p := ⟨ib, 0, none⟩) (by show ib < _; omega)).trans d1, (hb.cell (p := ⟨ga, oa + i, none⟩) (by show ga < _; omega)).trans d2, (hcnt2.below hb hkW).cell 0, (hb.cell (p := ⟨gb, ob + k, none⟩) (by show gb < _; omega)).trans d3⟩)
 have HID : Hid (∀ Y, Below W.heap.size W Y → Calls Tryz.prog 52 #[.agg #[.int .i64 x.kind, .int .i64 x.d, .int .i64 x.a, .int .i64 x.b, .int .i64 x.op, .int .i64 x.n, .string x.name, .slice A x.args.length c], .slice A6 l3.length c6] Y fun e w' => e = .returned (.bool (idleN l3 x)) ∧ Below Y.heap.size Y w') := Lib.hid (fun Y hb => idle_any x A x.args.length c l3 (.slice A6 l3.length c6) Y (ok := fun b => b < kb) (fun b h => by have := hb.size; omega) (HS3.out.imp (fun b h => HOK.out b h) (fun b h => by have h1 := HOK.out b h; exact (hb.block b (by omega)).trans (keep b h1)) (fun _ _ _ r => r)))
 have HGR := Lib.hid hgr
 have HC2 := Lib.hid hcnt2
 clear hW hsx hblk hcnt2 hgr keep d0 d1 d2 d3 b0 b1 b2 b3 k0 kz HCNT HS3
 have hz0 : Below W.heap.size W W.drew := (Below.refl _ _).drew
 refine wp_region_L (by kernel_rfl) 9 (fun w2 => w2.cell? ⟨X.heap.size, 0, none⟩ = some (.int .i64 x.kind) ∧ w2.cell? ⟨X.heap.size, 1, none⟩ = some (.int .i64 x.d) ∧ w2.cell? ⟨X.heap.size, 2, none⟩ = some (.int .i64 x.a) ∧ w2.cell? ⟨X.heap.size, 3, none⟩ = some (.int .i64 x.b) ∧ w2.cell? ⟨X.heap.size, 4, none⟩ = some (.int .i64 x.op) ∧ w2.cell? ⟨X.heap.size, 5, none⟩ = some (.int .i64 x.n) ∧ w2.cell? ⟨X.heap.size, 6, none⟩ = some (.string x.name) ∧ w2.cell? ⟨X.heap.size, 7, none⟩ = some (.slice A x.args.length c) ∧ w2.cell? ⟨ab, 0, none⟩ = some (.slice (some ⟨ga, oa, none⟩) LL.length ca) ∧ w2.cell? ⟨ib, 0, none⟩ = some (.int .i64 (i : Int)) ∧ w2.cell? ⟨ga, oa + i, none⟩ = some (.slice (some ⟨gb, ob, none⟩) l2.length cb) ∧ w2.cell? ⟨kb, 0, none⟩ = some (.int .i64 (k : Int)) ∧ w2.cell? ⟨gb, ob + k, none⟩ = some (.slice A6 l3.length c6)) (SO.out _ hz0) (fun hHeld => ?_)
 have HS0 := Lib.hid hHeld
 clear hHeld
 change wpAnyL _ _ _ _ _ 9 10 (Array.replicate 10 false) _ _
 generalize W.drew = X0 at *
 have HZ0 := Lib.hid hz0
 clear hz0
 refine tS 0 8 (.agg #[.int .i64 x.kind, .int .i64 x.d, .int .i64 x.a, .int .i64 x.b, .int .i64 x.op, .int .i64 x.n, .string x.name, .slice A x.args.length c]) [9] HS0.out rfl rfl ?_ ?_
 ·intro w2 hSw; obtain ⟨g0, g1, g2, g3, g4, g5, g6, g7, g8, g9, ga, gb, gc⟩ := hSw; go_simp
 try simp only [setIfInBounds_toArray, set_cons_zero, set_cons_succ]
 refine tS 1 9 (.slice (some ⟨ga, oa, none⟩) LL.length ca) [9] HS0.out rfl rfl ?_ ?_
 ·intro w2 hSw; obtain ⟨g0, g1, g2, g3, g4, g5, g6, g7, g8, g9, ga, gb, gc⟩ := hSw; go_simp
 try simp only [setIfInBounds_toArray, set_cons_zero, set_cons_succ]
 refine tS 2 10 (.int .i64 (i : Int)) [9] HS0.out rfl rfl ?_ ?_
 ·intro w2 hSw; obtain ⟨g0, g1, g2, g3, g4, g5, g6, g7, g8, g9, ga, gb, gc⟩ := hSw; go_simp
 try simp only [setIfInBounds_toArray, set_cons_zero, set_cons_succ]
 refine tL 3 11 (.pointer (some ⟨ga, oa + i, none⟩)) HS0.out rfl rfl ?_ ?_
 ·intro w2; go_simp
 try simp only [setIfInBounds_toArray, set_cons_zero, set_cons_succ]
 refine tS 4 12 (.slice (some ⟨gb, ob, none⟩) l2.length cb) [9] HS0.out rfl rfl ?_ ?_
 ·intro w2 hSw; obtain ⟨g0, g1, g2, g3, g4, g5, g6, g7, g8, g9, ga, gb, gc⟩ := hSw; go_simp
 try simp only [setIfInBounds_toArray, set_cons_zero, set_cons_succ]
 refine tS 5 13 (.int .i64 (k : Int)) [9] HS0.out rfl rfl ?_ ?_
 ·intro w2 hSw; obtain ⟨g0, g1, g2, g3, g4, g5, g6, g7, g8, g9, ga, gb, gc⟩ := hSw; go_simp
 try simp only [setIfInBounds_toArray, set_cons_zero, set_cons_succ]
 refine tL 6 14 (.pointer (some ⟨gb, ob + k, none⟩)) HS0.out rfl rfl ?_ ?_
 ·intro w2; go_simp
 try simp only [setIfInBounds_toArray, set_cons_zero, set_cons_succ]
 refine tS 7 15 (.slice A6 l3.length c6) [9] HS0.out rfl rfl ?_ ?_
 ·intro w2 hSw; obtain ⟨g0, g1, g2, g3, g4, g5, g6, g7, g8, g9, ga, gb, gc⟩ := hSw; go_simp
 try simp only [setIfInBounds_toArray, set_cons_zero, set_cons_succ]
 refine wpAnyL_ready (rs := [8]) (by kernel_rfl) (by simp) ?_
 refine AllReadyL.cons rfl (fun K hK => ?_) AllReadyL.nil
 go_simp
 refine (HID.out X0 HZ0.out).mono ?_
 rintro e X1 ⟨rfl, hx1⟩
 have HZ1 := Lib.hid (HZ0.out.trans (hx1.mono HZ0.out.size))
 clear hx1
 refine hK.out _ _ (SO.out _ HZ1.out) (fun hHeld => ?_)
 have HS1 := Lib.hid hHeld
 clear hK K hHeld
 try simp only [setIfInBounds_toArray, set_cons_zero, set_cons_succ]
 refine wpAnyL_ready (rs := [9]) (by kernel_rfl) (by simp) ?_
 refine AllReadyL.last rfl (by kernel_rfl) (fun K hK => ?_)
 go_simp
 refine hK.out _ _ ?_
 clear hK K
 try simp only [setIfInBounds_toArray, set_cons_zero, set_cons_succ]
 refine wpAnyL_done (by kernel_rfl) ?_ _
 go_wp2
 go_ret
 refine ⟨rfl, ⟨HZ1.out.os.trans HGR.out.os, HZ1.out.tape.trans HGR.out.tape, HZ1.out.output.trans HGR.out.output, Nat.le_trans HGR.out.size HZ1.out.size, fun b hb hne => (HZ1.out.block b (by have := HGR.out.size; omega)).trans (HGR.out.block b hb hne)⟩, HC2.out.below HZ1.out hkW⟩
def zeroIns : Value := .agg #[.int .i64 0, .int .i64 0, .int .i64 0, .int .i64 0, .int .i64 0, .int .i64 0, .string ⟨#[]⟩, .slice none 0 0]
theorem zero_ins (w : World) : (zeroValue 44).run Tryz.prog w = .ok zeroIns w := by kernel_rfl
theorem zeroIns_len (n : Nat) : (Builtin.zeroCells zeroIns.cells n).toList.length = n * 8 := by simp [Builtin.zeroCells, show zeroIns.cells.size = 8 by kernel_rfl]
theorem zeroIns_ones (n : Nat) : ∀ v ∈ (Builtin.zeroCells zeroIns.cells n).toList, v.oneCell' = true := fun v hv => by
 unfold Builtin.zeroCells at hv
 rw [show zeroIns.cells.size = 8 by kernel_rfl] at hv
 simp only [Array.toList_map, List.mem_map] at hv
 obtain ⟨i, _, rfl⟩ := hv
 have key : ∀ k : Fin 8, (zeroIns.cells[k.val]!).oneCell' = true := by decide +kernel
 exact key ⟨i % 8, Nat.mod_lt _ (by decide)⟩
theorem flatten_take {sz : Nat} : ∀ (css : List (List Value)), (∀ cs ∈ css, cs.length = sz) → ∀ i, i ≤ css.length → css.flatten.take (i * sz) = (css.take i).flatten
 | [], _, i, _ => by simp
 | c :: r, h, 0, _ => by simp
 | c :: r, h, i + 1, hi => by
  have hc : c.length = sz := h c (by simp)
  rw [List.flatten_cons, List.take_succ_cons, List.flatten_cons, Nat.succ_mul, ← flatten_take r (fun cs hcs => h cs (by simp [hcs])) i (by simpa using hi), List.take_append, List.take_of_length_le (by omega)]
  congr 2
  omega
structure DelAt (q : Nat → Bool) (w : World) (kb g cap : Nat) (css : List (List Value)) (i j : Nat) (rows : List (List Value)) (wr : World) : Prop where
 below : Below kb w wr
 cnt : Blk wr kb 3 #[.int .i64 ((j : Int) - 1)]
 len : rows.length = css.length
 all : ∀ cs ∈ rows, cs.length = 8
 row : wr.ownsRow (kb + 1) 44 8 (.slice (some ⟨g, 0, none⟩) css.length cap) css.length rows.flatten
 low : rows.take i = keepN q 0 (css.take j)
 high : rows.drop j = css.drop j
 num : i = (keepN q 0 (css.take j)).length
 lt : i < j
set_option maxRecDepth 100000 in
set_option maxHeartbeats 8000000 in
theorem del_any (kb ab ib : Nat) (q : Nat → Bool) (l : List LIns) (css : List (List Value)) (v : Value) (w : World) (hl : l.length ≤ 1000) (hin : InsRows l css)
  (hrow : w.ownsRow (kb + 1) 44 8 v l.length css.flatten) (hk : Blk w kb 3 #[.int .i64 (-1)]) (hP : DelSays w kb ab ib q l) :
  Calls Tryz.prog 50 #[v, .func (.func 51) #[] #[.pointer (some ⟨kb, 0, none⟩), .pointer (some ⟨ab, 0, none⟩), .pointer (some ⟨ib, 0, none⟩)]] w fun e w' => ∃ v', e = .returned v' ∧ Below kb w w' ∧ w'.ownsRow (kb + 1) 44 8 v' (keepN q 0 l).length (keepN q 0 css).flatten := by
 obtain ⟨A, cap, hv⟩ := own_form hrow
 subst hv
 have hkb : kb < w.heap.size := hk.lt
 have HIX := Lib.hid (idx_del kb ab ib q l css A cap w hl hin hrow hk hP)
 have HIN := Lib.hid hin
 have HROW := Lib.hid hrow
 have HP := Lib.hid hP
 have hcl := hin.len
 clear hin hrow hP hk
 go_enter Tryz.func50, Tryz.ntmps50
 go_upto_region 2 with (go_at_call 85; refine HIX.out.mono ?_; rintro e w1 ⟨r, k, rfl, hhit, hg1, hc1⟩)
 have hb1 : Below kb w w1 := (Below.refl kb w).grown hg1 (by omega) (fun b e => by injection e with e; omega)
 rcases hhit with ⟨rfl, rfl, hno⟩ | ⟨j0, hj0, rfl, rfl, hq0, hno⟩
 ·have hne : ∀ b, (Value.slice A l.length cap).ownBlock = some b → b ≠ kb := fun b e => by have := (HROW.out.lt b e).1; omega
  have hrw := HROW.out.kept hg1 (by
   cases e : (Value.slice A l.length cap).ownBlock with
   | none => exact .inl rfl
   | some b => exact .inr (fun e2 => hne b e (by injection e2)))
  have HRW := Lib.hid hrw
  clear hrw hg1 hc1
  go_wp2
  go_ret
  rw [keepN_all l 0 (fun j hj => by rw [Nat.zero_add]; exact hno j hj), keepN_all css 0 (fun j hj => by rw [Nat.zero_add]; exact hno j (by omega))]
  exact ⟨_, rfl, hb1, HRW.out⟩
 ·obtain ⟨g, hA⟩ : ∃ g, A = some ⟨g, 0, none⟩ := by
   rcases HROW.out.2 with ⟨_, h0⟩ | ⟨g, cap', cur, h, _⟩
   ·omega
   ·injection h with h1; exact ⟨g, h1⟩
  subst hA
  have hgk : kb + 1 ≤ g := (HROW.out.lt g rfl).1
  have hne1 : ((j0 : Int) == -1) = false := beq_eq_false_iff_ne.2 (by omega)
  have hstart : DelAt q w kb g cap css j0 (j0 + 1) css w1 := by
   have hkeep : keepN q 0 (css.take j0) = css.take j0 := keepN_all _ 0 (fun j hj => by rw [Nat.zero_add]; exact hno j (by rw [List.length_take] at hj; omega))
   have hsucc : keepN q 0 (css.take (j0 + 1)) = css.take j0 := by rw [keepN_succ (by omega), hkeep, if_pos hq0, List.append_nil]
   have hrw := HROW.out.kept hg1 (.inr (by simp [Value.ownBlock]; omega))
   rw [← hcl] at hrw
   exact ⟨hb1, by rw [show ((j0 + 1 : Nat) : Int) - 1 = (j0 : Int) by omega]; exact hc1, rfl, HIN.out.all, hrw, hsucc.symm, rfl, by rw [hsucc, List.length_take]; omega, by omega⟩
  have HST := Lib.hid hstart
  clear hstart hc1 hg1 hb1 hno hq0
  go_wp2_with fail
  go_loopw [5, 6] (fun s5 s6 wr => ∃ (i j : Nat) (rows : List (List Value)), s5 = .int .i64 i ∧ s6 = .int .i64 j ∧ j ≤ l.length ∧ DelAt q w kb g cap css i j rows wr) (fun _ s6 _ => l.length - (intOf s6).toNat)
  case atStart => exact ⟨j0, j0 + 1, css, rfl, by go_num, by omega, HST.out⟩
  case round =>
   obtain ⟨i, j, rows, rfl, rfl, hjl, hda⟩ := hrel
   have HDA := Lib.hid hda
   have hij := hda.lt
   have hkr : kb < wr.heap.size := hda.cnt.lt
   have hgr : g < wr.heap.size := (hda.row.lt g rfl).2
   by_cases hlt : j < l.length
   ·have d1 : decide ((j : Int) < (l.length : Int)) = true := decide_eq_true (by omega)
    have hltz : (j : Int) < (l.length : Int) := by omega
    have hrl : rows.length = l.length := hda.len.trans hcl
    have hrj : rows[j]'(by omega) = css[j]'(by omega) := by
     have h := congrArg (fun z => z[0]?) hda.high
     simp only [List.getElem?_drop, Nat.add_zero] at h
     rw [List.getElem?_eq_getElem (by omega), List.getElem?_eq_getElem (by omega)] at h
     injection h
    obtain ⟨A9, c9, hcs⟩ := HIN.out.each j (by omega) hlt
    obtain ⟨x, hx⟩ : ∃ x, x = l[j] := ⟨_, rfl⟩
    have hrow2 := hda.row
    rw [hcl] at hrow2
    have at_ : ∀ m (hm : m < 8), wr.cell? ⟨g, j * 8 + m, none⟩ = some ((insCells x (.slice A9 x.args.length c9))[m]'hm) := fun m hm => by
     rw [hrow2.cellAt (j * 8 + m) (by omega)]
     rw [flatten_get rows hda.all j m (by omega) (by rw [hrj, hcs]; exact hm)]
     simp only [hrj, hcs, hx]
    have i0 : wr.cell? ⟨g, j * 8, none⟩ = some (.int .i64 x.kind) := at_ 0 (by decide)
    have i1 : wr.cell? ⟨g, j * 8 + 1, none⟩ = some (.int .i64 x.d) := at_ 1 (by decide)
    have i2 : wr.cell? ⟨g, j * 8 + 2, none⟩ = some (.int .i64 x.a) := at_ 2 (by decide)
    have i3 : wr.cell? ⟨g, j * 8 + 3, none⟩ = some (.int .i64 x.b) := at_ 3 (by decide)
    have i4 : wr.cell? ⟨g, j * 8 + 4, none⟩ = some (.int .i64 x.op) := at_ 4 (by decide)
    have i5 : wr.cell? ⟨g, j * 8 + 5, none⟩ = some (.int .i64 x.n) := at_ 5 (by decide)
    have i6 : wr.cell? ⟨g, j * 8 + 6, none⟩ = some (.string x.name) := at_ 6 (by decide)
    have i7 : wr.cell? ⟨g, j * 8 + 7, none⟩ = some (.slice A9 x.args.length c9) := at_ 7 (by decide)
    have HS := HP.out (wr.alloc (.cells #[.int .i64 x.kind, .int .i64 x.d, .int .i64 x.a, .int .i64 x.b, .int .i64 x.op, .int .i64 x.n, .string x.name, .slice A9 x.args.length c9] 44)) j hlt A9 c9 ⟨hda.below.alloc (by omega) _, hda.cnt.alloc _⟩
    rw [← hx] at HS
    have HX := Lib.hid hx
    have HCS := Lib.hid hcs
    have HRJ := Lib.hid hrj
    clear hda hrow2 at_ hx hcs hrj
    cases hq : q j with
    | true =>
     rw [hq] at HS
     have HQ := Lib.hid hq
     clear hq
     go_wp2_with (go_at_call 51; refine HS.mono ?_; rintro e w' ⟨rfl, hg', hc'⟩)
     go_roundw
     case rel =>
      refine ⟨i, j + 1, rows, rfl, by go_num, by omega, ?_⟩
      have hsucc : keepN q 0 (css.take (j + 1)) = keepN q 0 (css.take j) := by rw [keepN_succ (by omega), if_pos HQ.out, List.append_nil]
      have hh : rows.drop (j + 1) = css.drop (j + 1) := by rw [← List.drop_drop, ← List.drop_drop, HDA.out.high]
      exact ⟨(HDA.out.below.alloc (by omega) _).grown hg' (by simp; omega) (fun b e => by injection e with e; omega), by rw [show ((j + 1 : Nat) : Int) - 1 = (j : Int) by omega]; exact hc', HDA.out.len, HDA.out.all, (HDA.out.row.alloc _).kept hg' (.inr (by simp [Value.ownBlock]; omega)), by rw [hsucc]; exact HDA.out.low, hh, by rw [hsucc]; exact HDA.out.num, by omega⟩
     case measure => simp [intOf]; omega
    | false =>
     rw [hq] at HS
     have HQ := Lib.hid hq
     clear hq
     have hil : (i : Int) < (l.length : Int) := by omega
     have HBX : Hid (∀ w', (wr.alloc (.cells #[.int .i64 x.kind, .int .i64 x.d, .int .i64 x.a, .int .i64 x.b, .int .i64 x.op, .int .i64 x.n, .string x.name, .slice A9 x.args.length c9] 44)).grownBy w' (some kb) → w'.ownsRow (kb + 1) 44 8 (.slice (some ⟨g, 0, none⟩) css.length cap) css.length rows.flatten ∧ Blk w' wr.heap.size 44 #[.int .i64 x.kind, .int .i64 x.d, .int .i64 x.a, .int .i64 x.b, .int .i64 x.op, .int .i64 x.n, .string x.name, .slice A9 x.args.length c9] ∧ Below kb w w') := Lib.hid (fun w' hg' => ⟨(HDA.out.row.alloc _).kept hg' (.inr (by simp [Value.ownBlock]; omega)), (Blk.new wr _ _).grown hg' (by simp; omega), (HDA.out.below.alloc (by omega) _).grown hg' (by simp; omega) (fun b e => by injection e with e; omega)⟩)
     go_upto_region 9 with (go_at_call 51; refine HS.mono ?_; rintro e w2 ⟨rfl, hg2, hc2⟩)
     obtain ⟨hr2, hv2, hbw⟩ := HBX.out w2 hg2
     have v0 : w2.cell? ⟨wr.heap.size, 0, none⟩ = some (.int .i64 x.kind) := hv2.cell 0
     have v1 : w2.cell? ⟨wr.heap.size, 1, none⟩ = some (.int .i64 x.d) := hv2.cell 1
     have v2 : w2.cell? ⟨wr.heap.size, 2, none⟩ = some (.int .i64 x.a) := hv2.cell 2
     have v3 : w2.cell? ⟨wr.heap.size, 3, none⟩ = some (.int .i64 x.b) := hv2.cell 3
     have v4 : w2.cell? ⟨wr.heap.size, 4, none⟩ = some (.int .i64 x.op) := hv2.cell 4
     have v5 : w2.cell? ⟨wr.heap.size, 5, none⟩ = some (.int .i64 x.n) := hv2.cell 5
     have v6 : w2.cell? ⟨wr.heap.size, 6, none⟩ = some (.string x.name) := hv2.cell 6
     have v7 : w2.cell? ⟨wr.heap.size, 7, none⟩ = some (.slice A9 x.args.length c9) := hv2.cell 7
     have hirow : i < rows.length := by rw [HDA.out.len, hcl]; omega
     have hcell : ∀ m, m < 8 → ∃ u, w2.cell? ⟨g, i * 8 + m, none⟩ = some u := fun m hm => by
      rw [hr2.cellAt (i * 8 + m) (by have := HDA.out.len; omega)]
      exact ⟨_, flatten_get rows HDA.out.all i m hirow (by rw [HDA.out.all _ (List.getElem_mem _)]; exact hm)⟩
     obtain ⟨u0, e0⟩ := hcell 0 (by decide)
     obtain ⟨u1, e1⟩ := hcell 1 (by decide)
     obtain ⟨u2, e2⟩ := hcell 2 (by decide)
     obtain ⟨u3, e3⟩ := hcell 3 (by decide)
     obtain ⟨u4, e4⟩ := hcell 4 (by decide)
     obtain ⟨u5, e5⟩ := hcell 5 (by decide)
     obtain ⟨u6, e6⟩ := hcell 6 (by decide)
     obtain ⟨u7, e7⟩ := hcell 7 (by decide)
     rw [Nat.add_zero] at e0
     have hfz : ∀ m, w2.frozen? ⟨g, m, none⟩ = false := fun m => hr2.frozenAt m
     have HR2 := Lib.hid hr2
     have HC2 := Lib.hid hc2
     have HBW := Lib.hid hbw
     have hgw : g < w2.heap.size := (hr2.lt g rfl).2
     clear hr2 hc2 hbw hv2 hcell hg2 HBX i0 i1 i2 i3 i4 i5 i6 i7
     go_wp2_with fail
     go_roundw
     case rel =>
      have hp := own_put8 HR2.out HDA.out.all hirow (.int .i64 x.kind) (.int .i64 x.d) (.int .i64 x.a) (.int .i64 x.b) (.int .i64 x.op) (.int .i64 x.n) (.string x.name) (.slice A9 x.args.length c9)
      have hset : ([.int .i64 x.kind, .int .i64 x.d, .int .i64 x.a, .int .i64 x.b, .int .i64 x.op, .int .i64 x.n, .string x.name, .slice A9 x.args.length c9] : List Value) = css[j]'(by omega) := by rw [HCS.out, ← HX.out]; rfl
      rw [hset] at hp
      refine ⟨i + 1, j + 1, rows.set i (css[j]'(by omega)), by go_num, by go_num, by omega, ?_⟩
      have hsucc : keepN q 0 (css.take (j + 1)) = keepN q 0 (css.take j) ++ [css[j]'(by omega)] := by rw [keepN_succ (by omega), if_neg (by rw [HQ.out]; decide)]
      have hlow : (rows.set i (css[j]'(by omega))).take (i + 1) = keepN q 0 (css.take (j + 1)) := by
       rw [hsucc, ← HDA.out.low, List.take_succ_eq_append_getElem (by rw [List.length_set]; exact hirow), List.getElem_set_self, List.take_set_of_le (Nat.le_refl _)]
      have hhigh : (rows.set i (css[j]'(by omega))).drop (j + 1) = css.drop (j + 1) := by
       rw [List.drop_set_of_lt (by omega), ← List.drop_drop, ← List.drop_drop, HDA.out.high]
      have hneq : ∀ (m b : Nat), b ≠ g → b ≠ (⟨g, m, none⟩ : Addr).block := fun _ _ h => h
      refine ⟨?_, ?_, by rw [List.length_set]; exact HDA.out.len, ?_, hp, hlow, hhigh, by rw [hsucc, List.length_append, ← HDA.out.num]; rfl, by omega⟩
      ·exact ((((((((HBW.out.setCell (p := ⟨g, i * 8, none⟩) (by show kb ≤ g; omega) _).setCell (p := ⟨g, i * 8 + 1, none⟩) (by show kb ≤ g; omega) _).setCell (p := ⟨g, i * 8 + 2, none⟩) (by show kb ≤ g; omega) _).setCell (p := ⟨g, i * 8 + 3, none⟩) (by show kb ≤ g; omega) _).setCell (p := ⟨g, i * 8 + 4, none⟩) (by show kb ≤ g; omega) _).setCell (p := ⟨g, i * 8 + 5, none⟩) (by show kb ≤ g; omega) _).setCell (p := ⟨g, i * 8 + 6, none⟩) (by show kb ≤ g; omega) _).setCell (p := ⟨g, i * 8 + 7, none⟩) (by show kb ≤ g; omega) _)
      ·rw [show ((j + 1 : Nat) : Int) - 1 = (j : Int) by omega]
       have hkg : kb ≠ g := by omega
       exact (((((((HC2.out.far (p := ⟨g, i * 8, none⟩) hkg _).far (p := ⟨g, i * 8 + 1, none⟩) hkg _).far (p := ⟨g, i * 8 + 2, none⟩) hkg _).far (p := ⟨g, i * 8 + 3, none⟩) hkg _).far (p := ⟨g, i * 8 + 4, none⟩) hkg _).far (p := ⟨g, i * 8 + 5, none⟩) hkg _).far (p := ⟨g, i * 8 + 6, none⟩) hkg _).far (p := ⟨g, i * 8 + 7, none⟩) hkg _
      ·intro cs hcs
       rcases List.mem_or_eq_of_mem_set hcs with h | h
       ·exact HDA.out.all cs h
       ·rw [h]; exact HIN.out.all _ (List.getElem_mem _)
     case measure => simp [intOf]; omega
   ·have d1 : decide ((j : Int) < (l.length : Int)) = false := decide_eq_false (by omega)
    obtain rfl : j = l.length := by omega
    have hil : (i : Int) < (l.length : Int) := by omega
    have hil2 : (i : Int) ≤ (l.length : Int) := by omega
    have hrow2 := hda.row
    rw [hcl] at hrow2
    have hcap : l.length ≤ cap := by
     rcases hrow2.2 with ⟨h', _⟩ | ⟨g', cap', cur, h', _, _, h2, _⟩
     ·simp at h'
     ·injection h' with _ _ h3; omega
    have hclr : ∀ ty, (Builtin.clear_ #[42] ty #[.slice (some ⟨g, i * 8, none⟩) (l.length - i) (cap - i)]).run Tryz.prog wr = .ok (.tuple #[]) (wr.setCells g (i * 8) (Builtin.zeroCells zeroIns.cells (l.length - i)).toList) :=
     fun ty => run_clear_cells wr _ 44 ty _ Tryz.underlying42 zero_ins g (i * 8) _ _ (by omega) (zeroIns_ones _) (by
      intro m hm
      rw [zeroIns_len] at hm
      have e : i * 8 + m = (i + m / 8) * 8 + m % 8 := by omega
      rw [e, hrow2.cellAt _ (by omega), flatten_get rows hda.all (i + m / 8) (m % 8) (by rw [hda.len, hcl]; omega) (by rw [hda.all _ (List.getElem_mem _)]; omega)]
      rfl) (fun m _ => hrow2.frozenAt _)
    generalize hzc : (Builtin.zeroCells zeroIns.cells (l.length - i)).toList = zc at hclr
    have HR2 := Lib.hid hrow2
    clear hda hrow2 hzc
    go_wp2
    go_ret
    have hk1 : keepN q 0 css = rows.take i := by
     have h := HDA.out.low
     rw [List.take_of_length_le (l := css) (by omega)] at h
     exact h.symm
    have hk2 : (keepN q 0 l).length = i := by
     rw [keepN_len q l css 0 hcl.symm]
     have h := HDA.out.num
     rw [List.take_of_length_le (l := css) (by omega)] at h
     exact h.symm
    rw [hk1, hk2]
    refine ⟨_, rfl, setCells_below (by omega) _ _ _ HDA.out.below, ?_⟩
    have h2 := own_shrink HR2.out (m := i) (by omega)
    rw [flatten_take rows HDA.out.all i (by have := HDA.out.len; omega)] at h2
    exact own_past _ _ (Nat.le_refl _) _ h2
end Go.Proofs.YtkpigkopjfkepaaGreatDoor
