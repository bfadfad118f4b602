/- What irrun's enter does. How a run of irrun as a plain state lies in memory, and what each kind of change of memory makes of it. No walk in sight. What irrun's step does: an end, or an instruction. -/
import Derived.Test.YtkpigkopjfkepaaGreatDoorPrRunIns2
namespace Go.Proofs.YtkpigkopjfkepaaGreatDoor
open List (setIfInBounds_toArray set_cons_zero set_cons_succ)
open Go.RowKit
section
set_option maxHeartbeats 8000000
set_option maxRecDepth 100000
theorem enter_out (rb k cap g cb : Nat) (va vf vm vin vout : Value) (st co sp : Int) (d a b op n : Int) (s : ByteArray) (Aa : Option Addr) (la ca : Nat) (w : World) (hk : 50 ≤ k)
  (h : RunBlk w rb va vf vm vin (.slice (some ⟨g, 0, none⟩) k cap) st co vout sp) :
  Calls Tryz.prog 107 #[.pointer (some ⟨rb, 0, none⟩), .agg #[.int .i64 9, .int .i64 d, .int .i64 a, .int .i64 b, .int .i64 op, .int .i64 n, .string s, .slice Aa la ca], .pointer (some ⟨cb, 0, none⟩)] w fun e w' => e = .returned (.tuple #[]) ∧ RunBlk w' rb va vf vm vin (.slice (some ⟨g, 0, none⟩) k cap) 4 0 vout sp ∧ w.grownBy w' (some rb) := by
 have HE := Lib.hid (fun (W : World) (hb : Below w.heap.size w W) => rend_any rb va vf vm vin (.slice (some ⟨g, 0, none⟩) k cap) vout st co sp 4 0 W ⟨h.blk.below hb h.blk.lt⟩)
 have c4 : w.cell? ⟨rb, 4, none⟩ = some (.slice (some ⟨g, 0, none⟩) k cap) := h.blk.cell 4
 have d1 : decide ((k : Int) ≥ 50) = true := decide_eq_true (by omega)
 have d2 : decide (50 ≤ (k : Int)) = true := decide_eq_true (by omega)
 have HB1 := Lib.hid (below1 w (.cells #[.int .i64 9, .int .i64 d, .int .i64 a, .int .i64 b, .int .i64 op, .int .i64 n, .string s, .slice Aa la ca] 44))
 have lt1 := h.blk.lt
 clear h
 go_enter Tryz.func107, Tryz.ntmps107
 go_wp2_with (go_at_call 102; refine (HE.out _ HB1.out).mono ?_; rintro e w4 ⟨rfl, hb4, hg4⟩)
 refine bodyPost_ret (results_none rfl _ _ _) rfl ?_
 exact ⟨rfl, hb4, (grown_below' HB1.out).trans hg4⟩
structure ArgsAt (W wr : World) (v : Value) (l : List Int) : Prop where
 row : wr.ownsRow W.heap.size 3 1 v l.length (l.map (Value.int .i64))
 below : Below W.heap.size W wr
theorem argsAt_next {W wr w1 : World} {v : Value} {l l' : List Int} {x : Int} {g cap : Nat} {o : Obj} {k : Nat} {xs : List Value} (h : ArgsAt W wr v l) (hk : k = l.length) (hl : l' = l ++ [x]) (hxs : xs = l.map (Value.int .i64))
  (hown : w1.ownsRow W.heap.size 3 1 (.slice (some ⟨g, 0, none⟩) (k + 1) cap) (k + 1) (xs ++ [.int .i64 x])) (hg : (wr.alloc o).grownBy w1 v.ownBlock) : ArgsAt W w1 (.slice (some ⟨g, 0, none⟩) (k + 1) cap) l' := by
 subst hk hl hxs
 refine ⟨by simpa using hown, ?_⟩
 exact (h.below.alloc h.below.size o).grown hg (by have := h.below.size; simp; omega) (fun k e => (h.row.lt k e).1)
theorem take_map_len2 (f : Int → Int) (l : List Int) (k : Nat) (h : k ≤ l.length) : ((l.take k).map f).length = k := by simp; omega
theorem take_map_succ2 (f : Int → Int) (l : List Int) (k : Nat) (h : k < l.length) : (l.take (k + 1)).map f = (l.take k).map f ++ [f l[k]] := by
 rw [List.take_succ_eq_append_getElem h, List.map_append]; rfl
theorem enter_push (base rb k cap g cb vb : Nat) (va vf vm vin vout : Value) (st co sp : Int) (d a b op n : Int) (s : ByteArray) (Aa : Option Addr) (ca : Nat) (args vals : List Int) (nm : ByteArray) (pr vl : Int) (vfl : Value) (bl at_ into : Int) (w : World) (hk : k < 50)
  (h : RunBlk w rb va vf vm vin (.slice (some ⟨g, 0, none⟩) k cap) st co vout sp) (hargs : SlR w (· < base) 1 RInt (.slice Aa args.length ca) args) (hbw : base ≤ w.heap.size) (hc : CallBlk w cb nm pr vl vfl (.slice (some ⟨vb, 0, none⟩) vals.length vals.length) bl at_ into) (hv : Blk w vb 3 (vals.map (Value.int .i64)).toArray) (hin : ∀ a ∈ args, 0 ≤ a ∧ a < (vals.length : Int)) (hal : args.length ≤ 1000) (Q : World → World → Prop)
  (HP : ∀ W Ar cr, w.grownBy W none → SlR W (fun _ => True) 1 RInt (.slice Ar (args.map fun n => vals.getD n.toNat 0).length cr) (args.map fun n => vals.getD n.toNat 0) → Calls Tryz.prog 36 #[.pointer (some ⟨rb, 0, none⟩), .string s, .slice Ar (args.map fun n => vals.getD n.toNat 0).length cr, .int .i64 d] W fun e w' => e = .returned (.tuple #[]) ∧ Q W w') :
  Calls Tryz.prog 107 #[.pointer (some ⟨rb, 0, none⟩), .agg #[.int .i64 9, .int .i64 d, .int .i64 a, .int .i64 b, .int .i64 op, .int .i64 n, .string s, .slice Aa args.length ca], .pointer (some ⟨cb, 0, none⟩)] w fun e w' => e = .returned (.tuple #[]) ∧ ∃ W, w.grownBy W none ∧ Q W w' := by
 have c4 : w.cell? ⟨rb, 4, none⟩ = some (.slice (some ⟨g, 0, none⟩) k cap) := h.blk.cell 4
 have d1 : decide ((k : Int) ≥ 50) = false := decide_eq_false (by omega)
 have d2 : decide (50 ≤ (k : Int)) = false := decide_eq_false (by omega)
 have lt0 := h.blk.lt
 have HA := Lib.hid hargs
 have HC := Lib.hid hc
 have HV := Lib.hid hv
 have HIN := Lib.hid hin
 have HPP := Lib.hid HP
 have lt1 := hc.blk.lt
 have lt2 := hv.lt
 obtain ⟨z0, hi0, hz0, hz1, hz2⟩ := info_parts info_int1
 clear h hargs hc hv hin HP
 go_enter Tryz.func107, Tryz.ntmps107
 go_upto_region 3 with fail
 refine wp_world ?_
 intro W hW
 have hB : Below w.heap.size w W := by rw [← hW]; exact below1 _ _
 have hx : Blk W w.heap.size 44 #[.int .i64 9, .int .i64 d, .int .i64 a, .int .i64 b, .int .i64 op, .int .i64 n, .string s, .slice Aa args.length ca] := by rw [← hW]; exact Blk.new w _ _
 clear hW c4
 have x7 : W.cell? ⟨w.heap.size, 7, none⟩ = some (.slice Aa args.length ca) := hx.cell 7
 have HX := Lib.hid hx
 have HB := Lib.hid hB
 have hxl := hx.lt
 have hbs := hB.size
 clear hx hB
 go_wp2_with fail
 clear x7
 go_loopw [6, 20] (fun v i wr => ∃ j : Nat, j ≤ args.length ∧ i = .int .i64 j ∧ ArgsAt W wr v ((args.take j).map fun n => vals.getD n.toNat 0)) (fun _ i _ => args.length - (intOf i).toNat)
 case atStart => exact ⟨0, by omega, rfl, World.ownsRow_nil _ _ _ _, Below.refl _ _⟩
 case round =>
  obtain ⟨j, hj, rfl, hna⟩ := hrel
  obtain ⟨Av, cv, hvv⟩ := own_form hna.row
  have htl := take_map_len2 (fun n => vals.getD n.toNat 0) args j hj
  rw [htl] at hvv
  subst hvv
  have hbr := hna.below
  have hsz := hbr.size
  by_cases hlt : j < args.length
  ·have e1 : decide ((j : Int) < (args.length : Int)) = true := decide_eq_true (by omega)
   obtain ⟨b3, o3, c3, f3, _, _, hb3, q3⟩ := HA.out.form (by omega)
   obtain rfl : Aa = some ⟨b3, o3, none⟩ := by injection f3
   obtain ⟨cs, _, hcs, hcell⟩ := q3 j hlt
   unfold RInt at hcs
   subst hcs
   have hin := HIN.out args[j] (List.getElem_mem _)
   obtain ⟨q, hq⟩ : ∃ q, q = args[j] := ⟨_, rfl⟩
   rw [← hq] at hcell hin
   obtain ⟨hq0, hq1⟩ := hin
   have hcw := hcell.keep ((hbr.block b3 (by omega)).trans (HB.out.block b3 (by omega)))
   have i0 : wr.cell? ⟨b3, o3 + j, none⟩ = some (.int .i64 q) := by have h := hcw.at_ (j := 0) rfl; simpa using h
   have hvr := (HV.out.below HB.out lt2).below hbr (by omega)
   have y4 : wr.cell? ⟨cb, 4, none⟩ = some (.slice (some ⟨vb, 0, none⟩) vals.length vals.length) := ((HC.out.blk.below HB.out lt1).below hbr (by omega)).cell 4
   obtain ⟨y, hy⟩ : ∃ y, y = vals.getD q.toNat 0 := ⟨_, rfl⟩
   have vq : wr.cell? ⟨vb, q.toNat, none⟩ = some (.int .i64 y) := by
    rw [hvr.cell, hy]
    have hq2 : q.toNat < vals.length := by omega
    simp [hq2]
   have hts := take_map_succ2 (fun n => vals.getD n.toNat 0) args j hlt
   rw [← hq] at hts
   change _ = _ ++ [vals.getD q.toNat 0] at hts
   rw [← hy] at hts
   have HTS := Lib.hid hts
   have hown : wr.ownsRow W.heap.size 3 1 (.slice Av j cv) j (((args.take j).map fun n => vals.getD n.toNat 0).map (Value.int .i64)) := by have h := hna.row; rw [htl] at h; exact h
   have HNA := Lib.hid hna
   have HTL := Lib.hid htl
   clear f3 q3 hcell hcw hq hts htl hna hb3 hvr hy
   generalize hxs : ((args.take j).map fun n => vals.getD n.toNat 0).map (Value.int .i64) = xs at *
   have HXS := Lib.hid hxs
   clear hxs
   go_wp2_with (at_builtin; refine wpList_append_lies _ rfl (.tmp 24) (.tmp 32) _ rfl W.heap.size 3 z0 _ 1 8 Tryz.underlying38 hi0 hz0 hz1 hz2 rfl (by decide) _ _ _ rfl (hown.alloc _) ⟨wr.heap.size, 0, none⟩ 1 1 [.int .i64 y] rfl rfl (World.news_of_block (cs := #[.int .i64 y]) (t := 3) (fr := (0, 0)) (Blk.new_at _ _ _ (by simp))) (by simp [Value.oneCell']) (by decide) (by unfold maxLen; omega) (by omega) (by simp; omega) (wr.heap.size + 1) (by simp) ?_; intro g cap w1 hown1 hgrow hat hlt1)
   go_roundw
   case rel =>
    refine ⟨j + 1, by omega, by go_num, ?_⟩
    exact argsAt_next HNA.out HTL.out.symm HTS.out HXS.out.symm hown1 hgrow
   case measure => simp [intOf]; omega
  ·obtain rfl : j = args.length := by omega
   rw [List.take_length] at hna
   have hsr : SlR wr (fun _ => True) 1 RInt (.slice Av (args.map fun n => vals.getD n.toNat 0).length cv) (args.map fun n => vals.getD n.toNat 0) := ints_of_own (by have h := hna.row; simpa using h) (fun _ _ => trivial)
   have HE := Lib.hid (HPP.out wr Av cv (grown_below' (HB.out.trans (hbr.mono hbs))) hsr)
   have x1 : wr.cell? ⟨w.heap.size, 1, none⟩ = some (.int .i64 d) := (HX.out.below hbr hxl).cell 1
   have x6 : wr.cell? ⟨w.heap.size, 6, none⟩ = some (.string s) := (HX.out.below hbr hxl).cell 6
   have HBR := Lib.hid hbr
   have hle : (args.map fun n => vals.getD n.toNat 0).length = args.length := by simp
   rw [hle] at HE
   have e1 : decide ((args.length : Int) < (args.length : Int)) = false := decide_eq_false (by omega)
   clear hna htl hsr hle
   go_wp2_with (go_at_call 36; refine HE.out.mono ?_; rintro e w4 ⟨rfl, hq4⟩)
   go_end0
   exact ⟨rfl, wr, grown_below' (HB.out.trans (HBR.out.mono hbs)), hq4⟩
end
end Go.Proofs.YtkpigkopjfkepaaGreatDoor
namespace Go.Proofs.YtkpigkopjfkepaaGreatDoor
open List (setIfInBounds_toArray set_cons_zero set_cons_succ)
open Go.RowKit
structure RunAtX (w : World) (base rb mb : Nat) (u : LUnit) (A1 A2 : Option Addr) (c1 c2 : Nat) (m : MRun) (vin vcalls vout : Value) (cbs vbs gs : List Nat) (nD : Nat) (D : DataW Value) : Prop where
 run : RunBlk w rb (.slice A1 u.arrays.length c1) (.slice A2 u.flows.length c2) (.map (some mb)) vin vcalls m.status m.code vout m.steps
 rest : RunRest w base u A1 A2 c1 c2 vin vcalls vout cbs vbs m.inp m.out m.calls
 arrs : ArrsAt w base mb nD D gs m.arrays
 gv : ∀ g ∈ gs, g ∉ vbs
 go : ∀ g ∈ gs, vout.ownBlock ≠ some g
 rge : base ≤ rb
 bw : base ≤ w.heap.size
def RunAt (w : World) (base rb mb : Nat) (u : LUnit) (A1 A2 : Option Addr) (c1 c2 : Nat) (m : MRun) : Prop :=
 ∃ vin vcalls vout cbs vbs gs nD D, RunAtX w base rb mb u A1 A2 c1 c2 m vin vcalls vout cbs vbs gs nD D
theorem CallAt.same {w w' : World} {base cb vb : Nat} {c : MCall} {A : Option Addr} {k : Nat} (h : CallAt w base cb vb c A k) (kp : Keeps (· < base) w w') (h1 : w'.heap[cb]? = w.heap[cb]?) (h2 : w'.heap[vb]? = w.heap[vb]?) : CallAt w' base cb vb c A k :=
 ⟨h.blocks.imp (fun _ h => h) kp (fun _ _ _ r => r.imp (fun _ h => h) kp), h.blk.keep h1, h.vals.keep h2, h.cge, h.vge⟩
theorem RunRest.top {w w' : World} {base : Nat} {u : LUnit} {A1 A2 : Option Addr} {c1 c2 : Nat} {vin vcalls vout : Value} {cb vb : Nat} {cbs vbs : List Nat} {inp out : List Int} {c c' : MCall} {r : List MCall} {A : Option Addr} {k : Nat}
  (h : RunRest w base u A1 A2 c1 c2 vin vcalls vout (cb :: cbs) (vb :: vbs) inp out (c :: r)) (kp : Keeps (· < base) w w') (hvc : ∀ g, vcalls.ownBlock = some g → w'.heap[g]? = w.heap[g]?) (hvo : ∀ g, vout.ownBlock = some g → w'.heap[g]? = w.heap[g]?)
  (hcs : ∀ b ∈ cbs, w'.heap[b]? = w.heap[b]?) (hvs : ∀ b ∈ vbs, w'.heap[b]? = w.heap[b]?) (ht : CallAt w' base cb vb c' A k) : RunRest w' base u A1 A2 c1 c2 vin vcalls vout (cb :: cbs) (vb :: vbs) inp out (c' :: r) := by
 refine ⟨h.arrs.imp (fun _ h => h) kp (fun _ _ _ r => r), h.flows.imp (fun _ h => h) kp (fun _ _ _ r => r.imp (fun _ h => h) kp), h.inp.imp (fun _ h => h) kp (fun _ _ _ r => r), own_keep h.row hvc, own_keep h.out hvo, h.len1, h.len2, fun i hi ha hv => ?_, h.nd1, h.nd2, h.outv⟩
 cases i with
 | zero => exact ⟨A, k, ht⟩
 | succ i =>
  obtain ⟨A', k', hc⟩ := h.call (i + 1) (by simpa using hi) ha hv
  exact ⟨A', k', hc.same kp (hcs _ (by simp [List.getElem_cons_succ])) (hvs _ (by simp [List.getElem_cons_succ]))⟩
theorem RunRest.same {w w' : World} {base : Nat} {u : LUnit} {A1 A2 : Option Addr} {c1 c2 : Nat} {vin vin' vcalls vout : Value} {cbs vbs : List Nat} {inp inp' out : List Int} {calls : List MCall}
  (h : RunRest w base u A1 A2 c1 c2 vin vcalls vout cbs vbs inp out calls) (kp : Keeps (· < base) w w') (hvc : ∀ g, vcalls.ownBlock = some g → w'.heap[g]? = w.heap[g]?) (hvo : ∀ g, vout.ownBlock = some g → w'.heap[g]? = w.heap[g]?)
  (hcs : ∀ b ∈ cbs, w'.heap[b]? = w.heap[b]?) (hvs : ∀ b ∈ vbs, w'.heap[b]? = w.heap[b]?) (hin : SlR w' (· < base) 1 RInt vin' inp') : RunRest w' base u A1 A2 c1 c2 vin' vcalls vout cbs vbs inp' out calls := by
 refine ⟨h.arrs.imp (fun _ h => h) kp (fun _ _ _ r => r), h.flows.imp (fun _ h => h) kp (fun _ _ _ r => r.imp (fun _ h => h) kp), hin, own_keep h.row hvc, own_keep h.out hvo, h.len1, h.len2, fun i hi ha hv => ?_, h.nd1, h.nd2, h.outv⟩
 obtain ⟨A', k', hc⟩ := h.call i hi ha hv
 exact ⟨A', k', hc.same kp (hcs _ (List.getElem_mem _)) (hvs _ (List.getElem_mem _))⟩
theorem ArrsAt.same {w w' : World} {base mb n : Nat} {D : DataW Value} {gs : List Nat} {arrays : List (ByteArray × List Int)} (h : ArrsAt w base mb n D gs arrays) (h1 : w'.heap[mb]? = w.heap[mb]?) (h2 : ∀ g ∈ gs, w'.heap[g]? = w.heap[g]?) : ArrsAt w' base mb n D gs arrays := by
 refine ⟨?_, h.len, fun i hi hi1 => ?_, h.nd, h.names, h.mge⟩
 ·obtain ⟨es, clock, hb, r⟩ := h.map
  exact ⟨es, clock, by rw [h1]; exact hb, r⟩
 ·obtain ⟨a, b, c⟩ := h.each i hi hi1
  exact ⟨a, b.keep (h2 _ (List.getElem_mem _)), c⟩
section
variable {w w' : World} {base rb mb : Nat} {u : LUnit} {A1 A2 : Option Addr} {c1 c2 : Nat} {m : MRun} {vin vcalls vout : Value} {cbs vbs gs : List Nat} {nD : Nat} {D : DataW Value}
theorem RunAtX.cb_blk (h : RunAtX w base rb mb u A1 A2 c1 c2 m vin vcalls vout cbs vbs gs nD D) {b : Nat} (hb : b ∈ cbs) : base ≤ b ∧ ∃ cs, Blk w b 126 cs := by
 obtain ⟨i, hi, rfl⟩ := List.getElem_of_mem hb
 have h1 := h.rest.len1
 have h2 := h.rest.len2
 obtain ⟨A, k, hc⟩ := h.rest.call i (by omega) hi (by omega)
 exact ⟨hc.cge, _, hc.blk⟩
theorem RunAtX.vb_blk (h : RunAtX w base rb mb u A1 A2 c1 c2 m vin vcalls vout cbs vbs gs nD D) {b : Nat} (hb : b ∈ vbs) : base ≤ b ∧ ∃ cs, Blk w b 3 cs := by
 obtain ⟨i, hi, rfl⟩ := List.getElem_of_mem hb
 have h1 := h.rest.len1
 have h2 := h.rest.len2
 obtain ⟨A, k, hc⟩ := h.rest.call i (by omega) (by omega) hi
 exact ⟨hc.vge, _, hc.vals⟩
theorem RunAtX.mb_lt (h : RunAtX w base rb mb u A1 A2 c1 c2 m vin vcalls vout cbs vbs gs nD D) : mb < w.heap.size := h.arrs.map.lt
theorem RunAtX.put {cb vb : Nat} {c : MCall} {r : List MCall} (h : RunAtX w base rb mb u A1 A2 c1 c2 m vin vcalls vout (cb :: cbs) (vb :: vbs) gs nD D) (hm : m.calls = c :: r) {w1 : World} (hg : w.grownBy w1 none) {d v : Int} (hw : w' = w1.setCell ⟨vb, d.toNat, none⟩ (.int .i64 v)) :
  RunAtX w' base rb mb u A1 A2 c1 c2 (m.top (c.put d v)) vin vcalls vout (cb :: cbs) (vb :: vbs) gs nD D ∧ Chg w w' (base ≤ ·) := by
 have hs : ∀ b, b < w.heap.size → b ≠ vb → w'.heap[b]? = w.heap[b]? := fun b hb hn => by rw [hw, Below.heap_setCell w1 _ _ b hn, hg.block b hb (by simp)]
 obtain ⟨hvge, _, hvb⟩ := h.vb_blk (b := vb) (by simp)
 have hrest := h.rest
 rw [hm] at hrest
 obtain ⟨A, k, hc⟩ := hrest.call 0 (by simp) (by simp) (by simp)
 simp only [List.getElem_cons_zero] at hc
 have hsz : w.heap.size ≤ w'.heap.size := by rw [hw]; have := hg.size; simpa [World.setCell] using this
 have kp : Keeps (· < base) w w' := fun b hb => hs b (Nat.lt_of_lt_of_le hb h.bw) (by omega)
 have hnd := h.rest.nd2
 rw [List.nodup_cons] at hnd
 have hne : ∀ b ∈ cb :: cbs, b ≠ vb := fun b hb => by obtain ⟨_, _, hbb⟩ := h.cb_blk hb; exact blk_ne hbb hvb (by decide)
 refine ⟨⟨?_, ?_, ?_, h.gv, h.go, h.rge, Nat.le_trans h.bw hsz⟩, ⟨by rw [hw]; exact hg.os, by rw [hw]; exact hg.tape, by rw [hw]; exact hg.output, hsz, fun b hb hn => hs b hb (by omega)⟩⟩
 ·exact ⟨h.run.blk.keep (hs rb h.run.blk.lt (blk_ne h.run.blk hvb (by decide)))⟩
 ·have e : (m.top (c.put d v)).calls = c.put d v :: r := by simp [MRun.top, hm]
  rw [e]
  show RunRest w' base u A1 A2 c1 c2 vin vcalls vout (cb :: cbs) (vb :: vbs) m.inp m.out (c.put d v :: r)
  refine hrest.top (A := A) (k := k) kp (fun g e => hs g (h.rest.row.lt g e).2 (fun e' => own_ne h.rest.row hvb (by decide) (by rw [e, e']))) (fun g e => hs g (h.rest.out.lt g e).2 (fun e' => h.rest.outv g e (by simp [e']))) (fun b hb => hs b ?_ (hne b (by simp [hb]))) (fun b hb => hs b ?_ (fun e' => hnd.1 (e' ▸ hb))) ?_
  ·obtain ⟨_, _, hbb⟩ := h.cb_blk (b := b) (by simp [hb]); exact hbb.lt
  ·obtain ⟨_, _, hbb⟩ := h.vb_blk (b := b) (by simp [hb]); exact hbb.lt
  ·refine ⟨hc.blocks.imp (fun _ h => h) kp (fun _ _ _ r => r.imp (fun _ h => h) kp), ?_, ?_, hc.cge, hc.vge⟩
   ·have := hc.blk.keep (hs cb hc.blk.lt (hne cb (by simp)))
    simpa [MCall.put] using this
   ·have h1 : Blk w1 vb 3 (c.values.map (Value.int .i64)).toArray := hc.vals.grown hg (by simp)
    have h2 := h1.set_ d.toNat (.int .i64 v)
    rw [map_set_ints] at h2
    rw [hw]
    exact h2
 ·exact h.arrs.same (hs mb h.mb_lt (fun e => map_blk h.arrs.map hvb e.symm)) (fun g hg => by obtain ⟨_, _, hbb⟩ := h.arrs.mem_blk hg; exact hs g hbb.lt (fun e => h.gv g hg (by simp [e])))
theorem RunAtX.own (h : RunAtX w base rb mb u A1 A2 c1 c2 m vin vcalls vout cbs vbs gs nD D) (hg : w.grownBy w' (some rb)) {m' : MRun} {vin' : Value} (h1 : RunBlk w' rb (.slice A1 u.arrays.length c1) (.slice A2 u.flows.length c2) (.map (some mb)) vin' vcalls m'.status m'.code vout m'.steps) (h2 : m'.arrays = m.arrays) (h3 : m'.calls = m.calls) (h4 : m'.out = m.out) (hin : SlR w' (· < base) 1 RInt vin' m'.inp) :
  RunAtX w' base rb mb u A1 A2 c1 c2 m' vin' vcalls vout cbs vbs gs nD D ∧ Chg w w' (base ≤ ·) := by
 have hs : ∀ b, b < w.heap.size → b ≠ rb → w'.heap[b]? = w.heap[b]? := fun b hb hn => hg.block b hb (fun e => hn (by injection e))
 have hr := h.run.blk
 have hrge := h.rge
 refine ⟨⟨h1, ?_, ?_, h.gv, h.go, h.rge, Nat.le_trans h.bw hg.size⟩, ⟨hg.os, hg.tape, hg.output, hg.size, fun b hb hn => hs b hb (by omega)⟩⟩
 ·rw [h3, h4]
  exact h.rest.same (fun b hb => hs b (Nat.lt_of_lt_of_le hb h.bw) (by omega)) (fun g e => hs g (h.rest.row.lt g e).2 (fun e' => own_ne h.rest.row hr (by decide) (by rw [e, e']))) (fun g e => hs g (h.rest.out.lt g e).2 (fun e' => own_ne h.rest.out hr (by decide) (by rw [e, e'])))
   (fun b hb => by obtain ⟨_, _, hbb⟩ := h.cb_blk hb; exact hs b hbb.lt (blk_ne hbb hr (by decide))) (fun b hb => by obtain ⟨_, _, hbb⟩ := h.vb_blk hb; exact hs b hbb.lt (blk_ne hbb hr (by decide))) hin
 ·rw [h2]
  exact h.arrs.same (hs mb h.mb_lt (fun e => map_blk h.arrs.map hr e.symm)) (fun g hg => by obtain ⟨_, _, hbb⟩ := h.arrs.mem_blk hg; exact hs g hbb.lt (blk_ne hbb hr (by decide)))
theorem RunAtX.inp_keep (h : RunAtX w base rb mb u A1 A2 c1 c2 m vin vcalls vout cbs vbs gs nD D) (hc : Chg w w' (base ≤ ·)) : SlR w' (· < base) 1 RInt vin m.inp :=
 h.rest.inp.imp (fun _ h => h) (fun b hb => hc.block b (Nat.lt_of_lt_of_le hb h.bw) (by omega)) (fun _ _ _ r => r)
theorem RunAtX.stop (h : RunAtX w base rb mb u A1 A2 c1 c2 m vin vcalls vout cbs vbs gs nD D) (hg : w.grownBy w' (some rb)) {s co : Int} (h1 : RunBlk w' rb (.slice A1 u.arrays.length c1) (.slice A2 u.flows.length c2) (.map (some mb)) vin vcalls s co vout m.steps) :
  RunAtX w' base rb mb u A1 A2 c1 c2 (m.stop s co) vin vcalls vout cbs vbs gs nD D ∧ Chg w w' (base ≤ ·) :=
 h.own hg (m' := m.stop s co) h1 rfl rfl rfl (h.inp_keep (Chg.of_grown hg (fun k e _ => by injection e with e; rw [← e]; exact h.rge)))
theorem RunAtX.grown (h : RunAtX w base rb mb u A1 A2 c1 c2 m vin vcalls vout cbs vbs gs nD D) (hg : w.grownBy w' none) : RunAtX w' base rb mb u A1 A2 c1 c2 m vin vcalls vout cbs vbs gs nD D := by
 have hg' : w.grownBy w' (some rb) := ⟨hg.os, hg.tape, hg.output, hg.size, fun k hk _ => hg.block k hk (by simp)⟩
 exact (h.own hg' ⟨h.run.blk.grown hg (by simp)⟩ rfl rfl rfl (h.inp_keep (Chg.of_grown hg (fun k e _ => by cases e)))).1
theorem RunAtX.store (h : RunAtX w base rb mb u A1 A2 c1 c2 m vin vcalls vout cbs vbs gs nD D) {w1 : World} (hg : w.grownBy w1 none) {i k : Nat} {v : Int} (hi : i < m.arrays.length) (hi1 : i < gs.length) (hw : w' = w1.setCell ⟨gs[i], k, none⟩ (.int .i64 v)) :
  RunAtX w' base rb mb u A1 A2 c1 c2 { m with arrays := setArr m.arrays m.arrays[i].1 k v } vin vcalls vout cbs vbs gs nD D ∧ Chg w w' (base ≤ ·) := by
 have h1 := h.grown hg
 obtain ⟨hge, cs, hgb⟩ := h1.arrs.mem_blk (g := gs[i]) (List.getElem_mem _)
 have hs : ∀ b, b ≠ gs[i] → w'.heap[b]? = w1.heap[b]? := fun b hn => by rw [hw, Below.heap_setCell w1 _ _ b hn]
 have hsz : w1.heap.size = w'.heap.size := by rw [hw]; simp [World.setCell]
 refine ⟨⟨?_, ?_, ?_, h.gv, h.go, h.rge, ?_⟩, ?_⟩
 ·exact ⟨h1.run.blk.keep (hs rb (blk_ne h1.run.blk hgb (by decide)))⟩
 ·refine h1.rest.same (fun b hb => hs b (by omega)) (fun g e => hs g (fun e' => own_ne h1.rest.row hgb (by decide) (by rw [e, e']))) (fun g e => hs g (fun e' => h.go gs[i] (List.getElem_mem _) (by rw [e, e'])))
   (fun b hb => by obtain ⟨_, _, hbb⟩ := h1.cb_blk hb; exact hs b (blk_ne hbb hgb (by decide))) (fun b hb => hs b (fun e => h.gv gs[i] (List.getElem_mem _) (e ▸ hb))) (h1.rest.inp.imp (fun _ h => h) (fun b hb => hs b (by omega)) (fun _ _ _ r => r))
 ·rw [hw]; exact h1.arrs.store hi hi1 k v
 ·rw [← hsz]; exact h1.bw
 ·exact (Chg.of_grown hg (fun k e _ => by cases e)).trans (by rw [hw]; exact Chg.of_grown (grown_set1 w1 ⟨gs[i], k, none⟩ _) (fun k e _ => by injection e with e; rw [← e]; exact hge))
theorem RunAtX.at_ {cb vb : Nat} {c : MCall} {r : List MCall} {bl at_ : Int} (h : RunAtX w base rb mb u A1 A2 c1 c2 m vin vcalls vout (cb :: cbs) (vb :: vbs) gs nD D) (hm : m.calls = c :: r) (hg : w.grownBy w' (some cb)) {A : Option Addr} {k : Nat} (hA : ∃ cs, Blk w cb 126 cs ∧ cs[3]? = some (.slice A c.flow.blocks.length k))
  (hb : CallBlk w' cb c.flow.name c.flow.params c.flow.values (.slice A c.flow.blocks.length k) (.slice (some ⟨vb, 0, none⟩) c.values.length c.values.length) bl at_ c.into) :
  RunAtX w' base rb mb u A1 A2 c1 c2 (m.top { c with block := bl, at_ := at_ }) vin vcalls vout (cb :: cbs) (vb :: vbs) gs nD D ∧ Chg w w' (base ≤ ·) := by
 have hs : ∀ b, b < w.heap.size → b ≠ cb → w'.heap[b]? = w.heap[b]? := fun b hb hn => hg.block b hb (fun e => hn (by injection e))
 obtain ⟨hcge, _, hcb⟩ := h.cb_blk (b := cb) (by simp)
 have hrest := h.rest
 rw [hm] at hrest
 obtain ⟨A', k', hc⟩ := hrest.call 0 (by simp) (by simp) (by simp)
 simp only [List.getElem_cons_zero] at hc
 obtain ⟨cs, hcs, h3⟩ := hA
 have e1 : cs = #[.string c.flow.name, .int .i64 c.flow.params, .int .i64 c.flow.values, .slice A' c.flow.blocks.length k', .slice (some ⟨vb, 0, none⟩) c.values.length c.values.length, .int .i64 c.block, .int .i64 c.at_, .int .i64 c.into] := by
  have h5 := hc.blk
  rw [Blk, hcs] at h5
  injection h5 with h5
  injection h5
 rw [e1] at h3
 simp at h3
 obtain ⟨rfl, rfl⟩ := h3
 have kp : Keeps (· < base) w w' := fun b hb => hs b (Nat.lt_of_lt_of_le hb h.bw) (by omega)
 have hnd := h.rest.nd1
 rw [List.nodup_cons] at hnd
 have hne : ∀ b ∈ vb :: vbs, b ≠ cb := fun b hb => by obtain ⟨_, _, hbb⟩ := h.vb_blk hb; exact blk_ne hbb hcb (by decide)
 refine ⟨⟨?_, ?_, ?_, h.gv, h.go, h.rge, Nat.le_trans h.bw hg.size⟩, ⟨hg.os, hg.tape, hg.output, hg.size, fun b hb hn => hs b hb (by omega)⟩⟩
 ·exact ⟨h.run.blk.keep (hs rb h.run.blk.lt (blk_ne h.run.blk hcb (by decide)))⟩
 ·have e : (m.top { c with block := bl, at_ := at_ }).calls = { c with block := bl, at_ := at_ } :: r := by simp [MRun.top, hm]
  rw [e]
  show RunRest w' base u A1 A2 c1 c2 vin vcalls vout (cb :: cbs) (vb :: vbs) m.inp m.out ({ c with block := bl, at_ := at_ } :: r)
  refine hrest.top (A := A') (k := k') kp (fun g e => hs g (h.rest.row.lt g e).2 (fun e' => own_ne h.rest.row hcb (by decide) (by rw [e, e']))) (fun g e => hs g (h.rest.out.lt g e).2 (fun e' => own_ne h.rest.out hcb (by decide) (by rw [e, e']))) (fun b hb => hs b ?_ (fun e' => hnd.1 (e' ▸ hb))) (fun b hb => hs b ?_ (hne b (by simp [hb]))) ?_
  ·obtain ⟨_, _, hbb⟩ := h.cb_blk (b := b) (by simp [hb]); exact hbb.lt
  ·obtain ⟨_, _, hbb⟩ := h.vb_blk (b := b) (by simp [hb]); exact hbb.lt
  ·exact ⟨hc.blocks.imp (fun _ h => h) kp (fun _ _ _ r => r.imp (fun _ h => h) kp), hb.blk, hc.vals.keep (hs vb hc.vals.lt (hne vb (by simp))), hc.cge, hc.vge⟩
 ·exact h.arrs.same (hs mb h.mb_lt (fun e => map_blk h.arrs.map hcb e.symm)) (fun g hg => by obtain ⟨_, _, hbb⟩ := h.arrs.mem_blk hg; exact hs g hbb.lt (blk_ne hbb hcb (by decide)))
theorem RunAtX.print {z : Int} {g' cap' : Nat} (h : RunAtX w base rb mb u A1 A2 c1 c2 m vin vcalls vout cbs vbs gs nD D) (h1 : RunBlk w' rb (.slice A1 u.arrays.length c1) (.slice A2 u.flows.length c2) (.map (some mb)) vin vcalls m.status m.code (.slice (some ⟨g', 0, none⟩) (m.out.length + 1) cap') m.steps)
  (ho : w'.ownsRow base 3 1 (.slice (some ⟨g', 0, none⟩) (m.out.length + 1) cap') (m.out.length + 1) (m.out.map (Value.int .i64) ++ [.int .i64 z])) (how : vout.ownBlock = some g' ∨ w.heap.size ≤ g') (hc : Chg w w' (fun b => b = rb ∨ vout.ownBlock = some b)) :
  RunAtX w' base rb mb u A1 A2 c1 c2 { m with out := m.out ++ [z] } vin vcalls (.slice (some ⟨g', 0, none⟩) (m.out.length + 1) cap') cbs vbs gs nD D ∧ Chg w w' (base ≤ ·) := by
 have hr := h.run.blk
 have hrge := h.rge
 have hge : ∀ b, b = rb ∨ vout.ownBlock = some b → base ≤ b := fun b hb => hb.elim (fun e => by omega) (fun e => (h.rest.out.lt b e).1)
 have hs : ∀ b, b < w.heap.size → b ≠ rb → vout.ownBlock ≠ some b → w'.heap[b]? = w.heap[b]? := fun b hb h1 h2 => hc.block b hb (fun e => e.elim h1 h2)
 have kp : Keeps (· < base) w w' := fun b hb => hc.block b (Nat.lt_of_lt_of_le hb h.bw) (fun e => by have := hge b e; omega)
 have hcb : ∀ b ∈ cbs, w'.heap[b]? = w.heap[b]? := fun b hb => by
  obtain ⟨_, _, hbb⟩ := h.cb_blk hb
  exact hs b hbb.lt (blk_ne hbb hr (by decide)) (fun e => own_ne h.rest.out hbb (by decide) e.symm)
 have hvb : ∀ b ∈ vbs, w'.heap[b]? = w.heap[b]? := fun b hb => by
  obtain ⟨_, _, hbb⟩ := h.vb_blk hb
  exact hs b hbb.lt (blk_ne hbb hr (by decide)) (fun e => h.rest.outv b e hb)
 have hout : ∀ g, (Value.slice (some ⟨g', 0, none⟩) (m.out.length + 1) cap').ownBlock = some g → g = g' := fun g e => by simpa [Value.ownBlock] using e.symm
 refine ⟨⟨h1, ?_, ?_, h.gv, ?_, h.rge, Nat.le_trans h.bw hc.size⟩, hc.mono hge⟩
 ·refine ⟨h.rest.arrs.imp (fun _ h => h) kp (fun _ _ _ r => r), h.rest.flows.imp (fun _ h => h) kp (fun _ _ _ r => r.imp (fun _ h => h) kp), h.rest.inp.imp (fun _ h => h) kp (fun _ _ _ r => r), ?_, ?_, h.rest.len1, h.rest.len2, fun i hi ha hv => ?_, h.rest.nd1, h.rest.nd2, fun g e hm => ?_⟩
  ·refine own_keep h.rest.row (fun g e => hs g (h.rest.row.lt g e).2 (fun e' => own_ne h.rest.row hr (by decide) (by rw [e, e'])) (fun e' => ?_))
   rcases h.rest.row.2 with ⟨hn, _⟩ | ⟨g1, k1, cur1, hv1, _, hg1, _⟩
   ·rw [hn] at e; cases e
   ·rw [hv1] at e
    have e0 : g1 = g := by simpa [Value.ownBlock] using e
    subst e0
    have hb1 : Blk w g1 124 cur1 := hg1
    exact own_ne h.rest.out hb1 (by decide) e'.symm
  ·simpa using ho
  ·obtain ⟨A', k', hc'⟩ := h.rest.call i hi ha hv
   exact ⟨A', k', hc'.same kp (hcb _ (List.getElem_mem _)) (hvb _ (List.getElem_mem _))⟩
  ·have e1 := hout g e
   subst e1
   rcases how with h1 | h1
   ·exact h.rest.outv g h1 hm
   ·obtain ⟨_, _, hbb⟩ := h.vb_blk hm
    have := hbb.lt
    omega
 ·exact h.arrs.same (hs mb h.mb_lt (fun e => map_blk h.arrs.map hr e.symm) (fun e => by
   rcases h.rest.out.2 with ⟨hn, _⟩ | ⟨g1, k1, cur1, hv1, _, hg1, _⟩
   ·rw [hn] at e; cases e
   ·rw [hv1] at e
    have e0 : g1 = mb := by simpa [Value.ownBlock] using e
    exact map_blk h.arrs.map (show Blk w g1 _ _ from hg1) e0)) (fun g hg => by obtain ⟨_, _, hbb⟩ := h.arrs.mem_blk hg; exact hs g hbb.lt (blk_ne hbb hr (by decide)) (h.go g hg))
 ·intro g hg e
  have e1 := hout g e
  subst e1
  rcases how with h1 | h1
  ·exact h.go g hg h1
  ·obtain ⟨_, _, hbb⟩ := h.arrs.mem_blk hg
   have := hbb.lt
   omega
theorem argVals_len (n : Nat) (args : List Int) : (argVals (n : Int) args).length = n := by
 unfold argVals
 have e : ((n : Int)).toNat = n := by omega
 rw [e]
 simp
 omega
theorem RunAtX.push {f : LFlow} {args : List Int} {into : Int} {cb vb g cap kb mm : Nat} {Ab : Option Addr} (h : RunAtX w base rb mb u A1 A2 c1 c2 m vin vcalls vout cbs vbs gs nD D) (hf : f.values = (mm : Int))
  (hp : PushPost base rb cbs.length mm (.slice A1 u.arrays.length c1) (.slice A2 u.flows.length c2) (.map (some mb)) vin vcalls vout m.status m.code m.steps into (cbs.reverse.map fun b => .pointer (some ⟨b, 0, none⟩)) f args w w' cb vb g cap Ab kb) :
  RunAtX w' base rb mb u A1 A2 c1 c2 { m with calls := newCall f args into :: m.calls } vin (.slice (some ⟨g, 0, none⟩) (cbs.length + 1) cap) vout (cb :: cbs) (vb :: vbs) gs nD D ∧ Chg w w' (base ≤ ·) := by
 have hr := h.run.blk
 have hrge := h.rge
 have hge : ∀ b, b = rb ∨ vcalls.ownBlock = some b → base ≤ b := fun b hb => hb.elim (fun e => by omega) (fun e => (h.rest.row.lt b e).1)
 have hs : ∀ b, b < w.heap.size → b ≠ rb → vcalls.ownBlock ≠ some b → w'.heap[b]? = w.heap[b]? := fun b hb h1 h2 => hp.chg.block b hb (fun e => e.elim h1 h2)
 have kp : Keeps (· < base) w w' := fun b hb => hp.chg.block b (Nat.lt_of_lt_of_le hb h.bw) (fun e => by have := hge b e; omega)
 have hbase := h.bw
 have hcn := hp.cnew
 have hvn := hp.vnew
 have ho : ∀ {t : TypeId} {b : Nat} {cs : Array Value}, Blk w b t cs → t ≠ 124 → vcalls.ownBlock ≠ some b := fun hbb ht e => own_ne h.rest.row hbb ht e.symm
 have hcb : ∀ b ∈ cbs, w'.heap[b]? = w.heap[b]? := fun b hb => by
  obtain ⟨_, _, hbb⟩ := h.cb_blk hb
  exact hs b hbb.lt (blk_ne hbb hr (by decide)) (ho hbb (by decide))
 have hvb : ∀ b ∈ vbs, w'.heap[b]? = w.heap[b]? := fun b hb => by
  obtain ⟨_, _, hbb⟩ := h.vb_blk hb
  exact hs b hbb.lt (blk_ne hbb hr (by decide)) (ho hbb (by decide))
 have hvs : ∀ b ∈ vbs, b < w.heap.size := fun b hb => by obtain ⟨_, _, hbb⟩ := h.vb_blk hb; exact hbb.lt
 have hcs : ∀ b ∈ cbs, b < w.heap.size := fun b hb => by obtain ⟨_, _, hbb⟩ := h.cb_blk hb; exact hbb.lt
 have hgs : ∀ b ∈ gs, b < w.heap.size := fun b hb => by obtain ⟨_, _, hbb⟩ := h.arrs.mem_blk hb; exact hbb.lt
 refine ⟨⟨hp.run, ?_, ?_, ?_, h.go, h.rge, Nat.le_trans h.bw hp.chg.size⟩, hp.chg.mono hge⟩
 ·refine ⟨h.rest.arrs.imp (fun _ h => h) kp (fun _ _ _ r => r), h.rest.flows.imp (fun _ h => h) kp (fun _ _ _ r => r.imp (fun _ h => h) kp), h.rest.inp.imp (fun _ h => h) kp (fun _ _ _ r => r), ?_, ?_, by simp [h.rest.len1], by simp [h.rest.len2], fun i hi ha hv => ?_, ?_, ?_, ?_⟩
  ·have := hp.row
   simpa using this
  ·refine own_keep h.rest.out (fun g e => ?_)
   rcases h.rest.out.2 with ⟨hn, _⟩ | ⟨g1, k1, cur1, hv1, _, hg1, _⟩
   ·rw [hn] at e; cases e
   ·rw [hv1] at e
    have e0 : g1 = g := by simpa [Value.ownBlock] using e
    subst e0
    have hb1 : Blk w g1 3 cur1 := hg1
    exact hs g1 hb1.lt (blk_ne hb1 hr (by decide)) (ho hb1 (by decide))
  ·cases i with
   | zero =>
    refine ⟨Ab, kb, hp.blocks, ?_, hp.vals, by show base ≤ cb; omega, by show base ≤ vb; omega⟩
    have e := hp.call
    have e2 : (argVals f.values args).length = mm := by rw [hf]; exact argVals_len mm args
    simp only [List.getElem_cons_zero, newCall, e2]
    exact e
   | succ i =>
    obtain ⟨A', k', hc'⟩ := h.rest.call i (by simpa using hi) (by simpa using ha) (by simpa using hv)
    exact ⟨A', k', hc'.same kp (hcb _ (List.getElem_mem _)) (hvb _ (List.getElem_mem _))⟩
  ·rw [List.nodup_cons]; exact ⟨fun e => by have := hcs cb e; omega, h.rest.nd1⟩
  ·rw [List.nodup_cons]; exact ⟨fun e => by have := hvs vb e; omega, h.rest.nd2⟩
  ·intro g e hm
   rcases List.mem_cons.1 hm with rfl | hm
   ·have := (h.rest.out.lt g e).2; omega
   ·exact h.rest.outv g e hm
 ·exact h.arrs.same (hs mb h.mb_lt (fun e => map_blk h.arrs.map hr e.symm) (fun e => by
   rcases h.rest.row.2 with ⟨hn, _⟩ | ⟨g1, k1, cur1, hv1, _, hg1, _⟩
   ·rw [hn] at e; cases e
   ·rw [hv1] at e
    have e0 : g1 = mb := by simpa [Value.ownBlock] using e
    exact map_blk h.arrs.map (show Blk w g1 _ _ from hg1) e0)) (fun g hg => by obtain ⟨_, _, hbb⟩ := h.arrs.mem_blk hg; exact hs g hbb.lt (blk_ne hbb hr (by decide)) (ho hbb (by decide)))
 ·intro g hg hm
  rcases List.mem_cons.1 hm with rfl | hm
  ·have := hgs g hg; omega
  ·exact h.gv g hg hm
theorem RunAtX.tail {cb vb g cap k : Nat} {c : MCall} {r : List MCall} (h : RunAtX w base rb mb u A1 A2 c1 c2 m vin (.slice (some ⟨g, 0, none⟩) (k + 1) cap) vout (cb :: cbs) (vb :: vbs) gs nD D) (hm : m.calls = c :: r) (hk : k = cbs.length) (hg : w.grownBy w' (some rb)) {m' : MRun}
  (h1 : RunBlk w' rb (.slice A1 u.arrays.length c1) (.slice A2 u.flows.length c2) (.map (some mb)) vin (.slice (some ⟨g, 0, none⟩) k cap) m'.status m'.code vout m'.steps) (h2 : m'.arrays = m.arrays) (h3 : m'.calls = r) (h4 : m'.out = m.out) (h5 : m'.inp = m.inp) :
  RunAtX w' base rb mb u A1 A2 c1 c2 m' vin (.slice (some ⟨g, 0, none⟩) k cap) vout cbs vbs gs nD D ∧ Chg w w' (base ≤ ·) := by
 have hr := h.run.blk
 have hrge := h.rge
 have hs : ∀ b, b < w.heap.size → b ≠ rb → w'.heap[b]? = w.heap[b]? := fun b hb hn => hg.block b hb (fun e => hn (by injection e))
 have kp : Keeps (· < base) w w' := fun b hb => hs b (Nat.lt_of_lt_of_le hb h.bw) (by omega)
 have hrow := h.rest.row
 have hl1 := h.rest.len1
 have hl2 := h.rest.len2
 rw [hm] at hl1 hl2
 simp only [List.length_cons] at hl1 hl2
 refine ⟨⟨h1, ?_, ?_, fun g hg hm => h.gv g hg (by simp [hm]), h.go, h.rge, Nat.le_trans h.bw hg.size⟩, ⟨hg.os, hg.tape, hg.output, hg.size, fun b hb hn => hs b hb (by omega)⟩⟩
 ·rw [h3, h4, h5]
  refine ⟨h.rest.arrs.imp (fun _ h => h) kp (fun _ _ _ r => r), h.rest.flows.imp (fun _ h => h) kp (fun _ _ _ r => r.imp (fun _ h => h) kp), h.rest.inp.imp (fun _ h => h) kp (fun _ _ _ r => r), ?_, own_keep h.rest.out (fun g e => hs g (h.rest.out.lt g e).2 (fun e' => own_ne h.rest.out hr (by decide) (by rw [e, e']))), by omega, by omega, fun i hi ha hv => ?_, (List.nodup_cons.1 h.rest.nd1).2, (List.nodup_cons.1 h.rest.nd2).2, fun g e hm => h.rest.outv g e (by simp [hm])⟩
  ·subst hk
   have h6 : w.ownsRow base 124 1 (.slice (some ⟨g, 0, none⟩) cbs.length cap) cbs.length (cbs.reverse.map fun b => .pointer (some ⟨b, 0, none⟩)) := row_cut (x := .pointer (some ⟨cb, 0, none⟩)) (by simpa using hrow) (by simp)
   exact own_keep h6 (fun g e => hs g (h6.lt g e).2 (fun e' => own_ne h6 hr (by decide) (by rw [e, e'])))
  ·have hi' : i + 1 < m.calls.length := by rw [hm]; simpa using hi
   obtain ⟨A', k', hc'⟩ := h.rest.call (i + 1) hi' (by simpa using ha) (by simpa using hv)
   have e : m.calls[i + 1] = r[i] := by simp [hm]
   rw [e] at hc'
   simp only [List.getElem_cons_succ] at hc'
   exact ⟨A', k', hc'.same kp (hs _ hc'.blk.lt (blk_ne hc'.blk hr (by decide))) (hs _ hc'.vals.lt (blk_ne hc'.vals hr (by decide)))⟩
 ·rw [h2]
  exact h.arrs.same (hs mb h.mb_lt (fun e => map_blk h.arrs.map hr e.symm)) (fun g hg => by obtain ⟨_, _, hbb⟩ := h.arrs.mem_blk hg; exact hs g hbb.lt (blk_ne hbb hr (by decide)))
end
end Go.Proofs.YtkpigkopjfkepaaGreatDoor
namespace Go.Proofs.YtkpigkopjfkepaaGreatDoor
open List (setIfInBounds_toArray set_cons_zero set_cons_succ)
open Go.RowKit
section
set_option maxHeartbeats 8000000
set_option maxRecDepth 100000
theorem step_term (base rb k cap g cb bb bo nb kb ni ki : Nat) (va vf vm vin vout : Value) (st co sp : Int) (bs : List Nat) (nm : ByteArray) (pr vl : Int) (vv : Value) (Ai : Option Addr) (bl at_ into tk ta tt te : Int) (w : World) (hk : k = bs.length + 1) (h : RunBlk w rb va vf vm vin (.slice (some ⟨g, 0, none⟩) k cap) st co vout sp) (hr : w.ownsRow base 124 1 (.slice (some ⟨g, 0, none⟩) k cap) k ((cb :: bs).reverse.map fun b => .pointer (some ⟨b, 0, none⟩))) (hm : k ≤ maxLen)
  (hc : CallBlk w cb nm pr vl (.slice (some ⟨bb, bo, none⟩) nb kb) vv bl at_ into) (hb0 : 0 ≤ bl) (hb1 : bl < (nb : Int)) (hcell : Cells w bb (bo + bl.toNat * 5) [.slice Ai ni ki, .int .i64 tk, .int .i64 ta, .int .i64 tt, .int .i64 te])
  (hat : at_ = (ni : Int)) (Q : World → World → Prop) (HP : ∀ W, w.grownBy W none → Calls Tryz.prog 76 #[.pointer (some ⟨rb, 0, none⟩), .agg #[.int .i64 tk, .int .i64 ta, .int .i64 tt, .int .i64 te]] W fun e w' => e = .returned (.tuple #[]) ∧ Q W w') :
  Calls Tryz.prog 37 #[.pointer (some ⟨rb, 0, none⟩)] w fun e w' => e = .returned (.tuple #[]) ∧ ∃ W, w.grownBy W none ∧ Q W w' := by
 have HT := Lib.hid (top_any base rb k cap g cb va vf vm vin vout st co sp bs w hk h hr hm)
 have y3 : w.cell? ⟨cb, 3, none⟩ = some (.slice (some ⟨bb, bo, none⟩) nb kb) := hc.blk.cell 3
 have y5 : w.cell? ⟨cb, 5, none⟩ = some (.int .i64 bl) := hc.blk.cell 5
 have y6 : w.cell? ⟨cb, 6, none⟩ = some (.int .i64 at_) := hc.blk.cell 6
 have z0 : w.cell? ⟨bb, bo + bl.toNat * 5, none⟩ = some (.slice Ai ni ki) := hcell.at_ (j := 0) rfl
 have z1 : w.cell? ⟨bb, bo + bl.toNat * 5 + 1, none⟩ = some (.int .i64 tk) := hcell.at_ (j := 1) rfl
 have z2 : w.cell? ⟨bb, bo + bl.toNat * 5 + 2, none⟩ = some (.int .i64 ta) := hcell.at_ (j := 2) rfl
 have z3 : w.cell? ⟨bb, bo + bl.toNat * 5 + 3, none⟩ = some (.int .i64 tt) := hcell.at_ (j := 3) rfl
 have z4 : w.cell? ⟨bb, bo + bl.toNat * 5 + 4, none⟩ = some (.int .i64 te) := hcell.at_ (j := 4) rfl
 have hcl := hc.blk.lt
 have hbl := World.block_lt_of_cell? w _ z0
 have HC := Lib.hid hc
 have HPP := Lib.hid HP
 clear HP
 have SO := Lib.hid (fun (w2 : World) (hb2 : Below w.heap.size w w2) => (⟨(hb2.cell (p := ⟨cb, 3, none⟩) hcl).trans y3, (hb2.cell (p := ⟨cb, 5, none⟩) hcl).trans y5, (hb2.cell (p := ⟨bb, bo + bl.toNat * 5, none⟩) hbl).trans z0, (hb2.cell (p := ⟨bb, bo + bl.toNat * 5 + 1, none⟩) hbl).trans z1, (hb2.cell (p := ⟨bb, bo + bl.toNat * 5 + 2, none⟩) hbl).trans z2, (hb2.cell (p := ⟨bb, bo + bl.toNat * 5 + 3, none⟩) hbl).trans z3, (hb2.cell (p := ⟨bb, bo + bl.toNat * 5 + 4, none⟩) hbl).trans z4⟩ : (fun w2 => w2.cell? ⟨cb, 3, none⟩ = some (.slice (some ⟨bb, bo, none⟩) nb kb) ∧ w2.cell? ⟨cb, 5, none⟩ = some (.int .i64 bl) ∧ w2.cell? ⟨bb, bo + bl.toNat * 5, none⟩ = some (.slice Ai ni ki) ∧ w2.cell? ⟨bb, bo + bl.toNat * 5 + 1, none⟩ = some (.int .i64 tk) ∧ w2.cell? ⟨bb, bo + bl.toNat * 5 + 2, none⟩ = some (.int .i64 ta) ∧ w2.cell? ⟨bb, bo + bl.toNat * 5 + 3, none⟩ = some (.int .i64 tt) ∧ w2.cell? ⟨bb, bo + bl.toNat * 5 + 4, none⟩ = some (.int .i64 te)) w2))
 have Y6 := Lib.hid (fun (w2 : World) (hb2 : Below w.heap.size w w2) => (hb2.cell (p := ⟨cb, 6, none⟩) hcl).trans y6)
 clear h hr hc hk hcell z0 z1 z2 z3 z4 y3 y5 y6
 go_enter Tryz.func37, Tryz.ntmps37
 go_upto_region 1 with (go_at_call 75; refine HT.out.mono ?_; rintro e w' ⟨rfl, kk, rfl⟩)
 refine wp_world ?_
 intro W hW
 have hb : Below w.heap.size w W := by rw [← hW]; exact below_drewN (Below.refl _ _) _
 have HB := Lib.hid hb
 have hbs := hb.size
 clear hW HT hb
 refine wp_region_L (by kernel_rfl) 12 (fun w2 => w2.cell? ⟨cb, 3, none⟩ = some (.slice (some ⟨bb, bo, none⟩) nb kb) ∧ w2.cell? ⟨cb, 5, none⟩ = some (.int .i64 bl) ∧ w2.cell? ⟨bb, bo + bl.toNat * 5, none⟩ = some (.slice Ai ni ki) ∧ w2.cell? ⟨bb, bo + bl.toNat * 5 + 1, none⟩ = some (.int .i64 tk) ∧ w2.cell? ⟨bb, bo + bl.toNat * 5 + 2, none⟩ = some (.int .i64 ta) ∧ w2.cell? ⟨bb, bo + bl.toNat * 5 + 3, none⟩ = some (.int .i64 tt) ∧ w2.cell? ⟨bb, bo + bl.toNat * 5 + 4, none⟩ = some (.int .i64 te)) (SO.out _ HB.out.drew) (fun hHeld => ?_)
 have HS0 := Lib.hid hHeld
 clear hHeld
 change wpAnyL _ _ _ _ _ 12 13 (Array.replicate 13 false) _ _
 refine tL 0 6 (.pointer (some ⟨cb, 0, none⟩)) HS0.out rfl rfl ?_ ?_
 ·intro w2; go_simp
 simp only [setIfInBounds_toArray, set_cons_zero, set_cons_succ]
 refine tL 1 7 (.pointer (some ⟨cb, 0, none⟩)) HS0.out rfl rfl ?_ ?_
 ·intro w2; go_simp
 simp only [setIfInBounds_toArray, set_cons_zero, set_cons_succ]
 refine tL 2 8 (.pointer (some ⟨cb, 0, none⟩)) HS0.out rfl rfl ?_ ?_
 ·intro w2; go_simp
 simp only [setIfInBounds_toArray, set_cons_zero, set_cons_succ]
 refine tL 3 9 (.pointer (some ⟨cb, 3, none⟩)) HS0.out rfl rfl ?_ ?_
 ·intro w2; go_simp
 simp only [setIfInBounds_toArray, set_cons_zero, set_cons_succ]
 refine tS 4 10 (.slice (some ⟨bb, bo, none⟩) nb kb) [12] HS0.out rfl rfl ?_ ?_
 ·intro w2 hSw; obtain ⟨g0, g1, g2, g3, g4, g5, g6⟩ := hSw; go_simp
 simp only [setIfInBounds_toArray, set_cons_zero, set_cons_succ]
 refine tL 5 11 (.pointer (some ⟨cb, 0, none⟩)) HS0.out rfl rfl ?_ ?_
 ·intro w2; go_simp
 simp only [setIfInBounds_toArray, set_cons_zero, set_cons_succ]
 refine tL 6 12 (.pointer (some ⟨cb, 0, none⟩)) HS0.out rfl rfl ?_ ?_
 ·intro w2; go_simp
 simp only [setIfInBounds_toArray, set_cons_zero, set_cons_succ]
 refine tL 7 13 (.pointer (some ⟨cb, 5, none⟩)) HS0.out rfl rfl ?_ ?_
 ·intro w2; go_simp
 simp only [setIfInBounds_toArray, set_cons_zero, set_cons_succ]
 refine tS 8 14 (.int .i64 bl) [12] HS0.out rfl rfl ?_ ?_
 ·intro w2 hSw; obtain ⟨g0, g1, g2, g3, g4, g5, g6⟩ := hSw; go_simp
 simp only [setIfInBounds_toArray, set_cons_zero, set_cons_succ]
 refine tL 9 15 (.pointer (some ⟨bb, bo + bl.toNat * 5, none⟩)) HS0.out rfl rfl ?_ ?_
 ·intro w2; go_simp
 simp only [setIfInBounds_toArray, set_cons_zero, set_cons_succ]
 refine tS 10 16 (.agg #[.slice Ai ni ki, .int .i64 tk, .int .i64 ta, .int .i64 tt, .int .i64 te]) [12] HS0.out rfl rfl ?_ ?_
 ·intro w2 hSw; obtain ⟨g0, g1, g2, g3, g4, g5, g6⟩ := hSw; go_simp
 simp only [setIfInBounds_toArray, set_cons_zero, set_cons_succ]
 refine wpAnyL_ready (rs := [11]) (by kernel_rfl) (by simp) ?_
 refine AllReadyL.cons rfl (fun K hK => ?_) AllReadyL.nil
 go_simp
 refine hK.out _ _ (SO.out _ ((HB.out.drew.alloc hbs _))) (fun hHeld => ?_)
 have HS1 := Lib.hid hHeld
 clear hK K hHeld
 try simp only [setIfInBounds_toArray, set_cons_zero, set_cons_succ]
 refine wpAnyL_ready (rs := [12]) (by kernel_rfl) (by simp) ?_
 refine AllReadyL.last rfl (by kernel_rfl) (fun K hK => ?_)
 go_simp
 refine hK.out _ _ ?_
 clear hK K
 try simp only [setIfInBounds_toArray, set_cons_zero, set_cons_succ]
 refine wpAnyL_done (by kernel_rfl) ?_ _
 have hb3' : Below w.heap.size w (W.alloc (.cells #[.slice Ai ni ki, .int .i64 tk, .int .i64 ta, .int .i64 tt, .int .i64 te] 48)).drew := (HB.out.alloc hbs _).drew
 have hx' : Blk (W.alloc (.cells #[.slice Ai ni ki, .int .i64 tk, .int .i64 ta, .int .i64 tt, .int .i64 te] 48)).drew W.heap.size 48 #[.slice Ai ni ki, .int .i64 tk, .int .i64 ta, .int .i64 tt, .int .i64 te] := Blk.drew (Blk.new W _ _)
 generalize (W.alloc (.cells #[.slice Ai ni ki, .int .i64 tk, .int .i64 ta, .int .i64 tt, .int .i64 te] 48)).drew = W3 at *
 have HB3 := Lib.hid hb3'
 have HX3 := Lib.hid hx'
 have y6 : W3.cell? ⟨cb, 6, none⟩ = some (.int .i64 at_) := Y6.out W3 hb3'
 have x0 : W3.cell? ⟨W.heap.size, 0, none⟩ = some (.slice Ai ni ki) := hx'.cell 0
 have e0 : (at_ == (ni : Int)) = true := by rw [beq_dec]; exact decide_eq_true (by omega)
 have hbs3 := hb3'.size
 have hWs := HB.out.size
 clear hb3' hx'
 go_upto_region 2 with fail
 go_quiet (fail)
 have hb4 : Below w.heap.size w (W3.drewN nq) := below_drewN HB3.out _
 have hx4 : Blk (W3.drewN nq) W.heap.size 48 #[.slice Ai ni ki, .int .i64 tk, .int .i64 ta, .int .i64 tt, .int .i64 te] := HX3.out
 generalize W3.drewN nq = W4 at *
 have HB4 := Lib.hid hb4
 have x1 : W4.cell? ⟨W.heap.size, 1, none⟩ = some (.int .i64 tk) := hx4.cell 1
 have x2 : W4.cell? ⟨W.heap.size, 2, none⟩ = some (.int .i64 ta) := hx4.cell 2
 have x3 : W4.cell? ⟨W.heap.size, 3, none⟩ = some (.int .i64 tt) := hx4.cell 3
 have x4 : W4.cell? ⟨W.heap.size, 4, none⟩ = some (.int .i64 te) := hx4.cell 4
 have HE := Lib.hid (HPP.out W4 (grown_below' hb4))
 clear hb4 hx4 y6 x0
 go_wp2_with (go_at_call 76; refine HE.out.mono ?_; rintro e w4 ⟨rfl, hq⟩)
 refine bodyPost_ret (results_none rfl _ _ _) rfl ?_
 exact ⟨rfl, W4, grown_below' HB4.out, hq⟩
theorem step_ins (base rb k cap g cb bb bo nb kb ni ki : Nat) (va vf vm vin vout : Value) (st co sp : Int) (bs : List Nat) (nm : ByteArray) (pr vl : Int) (vv : Value) (Ai : Option Addr) (bl at_ into tk ta tt te : Int) (w : World) (hk : k = bs.length + 1) (h : RunBlk w rb va vf vm vin (.slice (some ⟨g, 0, none⟩) k cap) st co vout sp) (hr : w.ownsRow base 124 1 (.slice (some ⟨g, 0, none⟩) k cap) k ((cb :: bs).reverse.map fun b => .pointer (some ⟨b, 0, none⟩))) (hm : k ≤ maxLen)
  (hc : CallBlk w cb nm pr vl (.slice (some ⟨bb, bo, none⟩) nb kb) vv bl at_ into) (hb0 : 0 ≤ bl) (hb1 : bl < (nb : Int)) (hcell : Cells w bb (bo + bl.toNat * 5) [.slice Ai ni ki, .int .i64 tk, .int .i64 ta, .int .i64 tt, .int .i64 te])
  (bi bo2 : Nat) (hai : Ai = some ⟨bi, bo2, none⟩) (ha0 : 0 ≤ at_) (hat : at_ < (ni : Int)) (hni : ni ≤ 1000) (hnc : bi ≠ cb) (ik d a b op n : Int) (s : ByteArray) (Aa : Option Addr) (la ca : Nat) (hci : Cells w bi (bo2 + at_.toNat * 8) [.int .i64 ik, .int .i64 d, .int .i64 a, .int .i64 b, .int .i64 op, .int .i64 n, .string s, .slice Aa la ca])
  (Q : World → World → Prop) (HP : ∀ W1 W, w.grownBy W1 none → W1.grownBy W (some cb) → CallBlk W cb nm pr vl (.slice (some ⟨bb, bo, none⟩) nb kb) vv bl (at_ + 1) into → Calls Tryz.prog 77 #[.pointer (some ⟨rb, 0, none⟩), .agg #[.int .i64 ik, .int .i64 d, .int .i64 a, .int .i64 b, .int .i64 op, .int .i64 n, .string s, .slice Aa la ca]] W fun e w' => e = .returned (.tuple #[]) ∧ Q W w') :
  Calls Tryz.prog 37 #[.pointer (some ⟨rb, 0, none⟩)] w fun e w' => e = .returned (.tuple #[]) ∧ ∃ W1 W, w.grownBy W1 none ∧ W1.grownBy W (some cb) ∧ CallBlk W cb nm pr vl (.slice (some ⟨bb, bo, none⟩) nb kb) vv bl (at_ + 1) into ∧ Q W w' := by
 have HT := Lib.hid (top_any base rb k cap g cb va vf vm vin vout st co sp bs w hk h hr hm)
 have y3 : w.cell? ⟨cb, 3, none⟩ = some (.slice (some ⟨bb, bo, none⟩) nb kb) := hc.blk.cell 3
 have y5 : w.cell? ⟨cb, 5, none⟩ = some (.int .i64 bl) := hc.blk.cell 5
 have y6 : w.cell? ⟨cb, 6, none⟩ = some (.int .i64 at_) := hc.blk.cell 6
 have z0 : w.cell? ⟨bb, bo + bl.toNat * 5, none⟩ = some (.slice Ai ni ki) := hcell.at_ (j := 0) rfl
 have z1 : w.cell? ⟨bb, bo + bl.toNat * 5 + 1, none⟩ = some (.int .i64 tk) := hcell.at_ (j := 1) rfl
 have z2 : w.cell? ⟨bb, bo + bl.toNat * 5 + 2, none⟩ = some (.int .i64 ta) := hcell.at_ (j := 2) rfl
 have z3 : w.cell? ⟨bb, bo + bl.toNat * 5 + 3, none⟩ = some (.int .i64 tt) := hcell.at_ (j := 3) rfl
 have z4 : w.cell? ⟨bb, bo + bl.toNat * 5 + 4, none⟩ = some (.int .i64 te) := hcell.at_ (j := 4) rfl
 have hcl := hc.blk.lt
 have hbl := World.block_lt_of_cell? w _ z0
 have HC := Lib.hid hc
 have HPP := Lib.hid HP
 clear HP
 subst hai
 have hil : bi < w.heap.size := World.block_lt_of_cell? w _ (hci.at_ (j := 0) rfl)
 have HCI := Lib.hid hci
 clear hci
 have SO := Lib.hid (fun (w2 : World) (hb2 : Below w.heap.size w w2) => (⟨(hb2.cell (p := ⟨cb, 3, none⟩) hcl).trans y3, (hb2.cell (p := ⟨cb, 5, none⟩) hcl).trans y5, (hb2.cell (p := ⟨bb, bo + bl.toNat * 5, none⟩) hbl).trans z0, (hb2.cell (p := ⟨bb, bo + bl.toNat * 5 + 1, none⟩) hbl).trans z1, (hb2.cell (p := ⟨bb, bo + bl.toNat * 5 + 2, none⟩) hbl).trans z2, (hb2.cell (p := ⟨bb, bo + bl.toNat * 5 + 3, none⟩) hbl).trans z3, (hb2.cell (p := ⟨bb, bo + bl.toNat * 5 + 4, none⟩) hbl).trans z4⟩ : (fun w2 => w2.cell? ⟨cb, 3, none⟩ = some (.slice (some ⟨bb, bo, none⟩) nb kb) ∧ w2.cell? ⟨cb, 5, none⟩ = some (.int .i64 bl) ∧ w2.cell? ⟨bb, bo + bl.toNat * 5, none⟩ = some (.slice (some ⟨bi, bo2, none⟩) ni ki) ∧ w2.cell? ⟨bb, bo + bl.toNat * 5 + 1, none⟩ = some (.int .i64 tk) ∧ w2.cell? ⟨bb, bo + bl.toNat * 5 + 2, none⟩ = some (.int .i64 ta) ∧ w2.cell? ⟨bb, bo + bl.toNat * 5 + 3, none⟩ = some (.int .i64 tt) ∧ w2.cell? ⟨bb, bo + bl.toNat * 5 + 4, none⟩ = some (.int .i64 te)) w2))
 have Y6 := Lib.hid (fun (w2 : World) (hb2 : Below w.heap.size w w2) => (hb2.cell (p := ⟨cb, 6, none⟩) hcl).trans y6)
 clear h hr hc hk hcell z0 z1 z2 z3 z4 y3 y5 y6
 go_enter Tryz.func37, Tryz.ntmps37
 go_upto_region 1 with (go_at_call 75; refine HT.out.mono ?_; rintro e w' ⟨rfl, kk, rfl⟩)
 refine wp_world ?_
 intro W hW
 have hb : Below w.heap.size w W := by rw [← hW]; exact below_drewN (Below.refl _ _) _
 have HB := Lib.hid hb
 have hbs := hb.size
 clear hW HT hb
 refine wp_region_L (by kernel_rfl) 12 (fun w2 => w2.cell? ⟨cb, 3, none⟩ = some (.slice (some ⟨bb, bo, none⟩) nb kb) ∧ w2.cell? ⟨cb, 5, none⟩ = some (.int .i64 bl) ∧ w2.cell? ⟨bb, bo + bl.toNat * 5, none⟩ = some (.slice (some ⟨bi, bo2, none⟩) ni ki) ∧ w2.cell? ⟨bb, bo + bl.toNat * 5 + 1, none⟩ = some (.int .i64 tk) ∧ w2.cell? ⟨bb, bo + bl.toNat * 5 + 2, none⟩ = some (.int .i64 ta) ∧ w2.cell? ⟨bb, bo + bl.toNat * 5 + 3, none⟩ = some (.int .i64 tt) ∧ w2.cell? ⟨bb, bo + bl.toNat * 5 + 4, none⟩ = some (.int .i64 te)) (SO.out _ HB.out.drew) (fun hHeld => ?_)
 have HS0 := Lib.hid hHeld
 clear hHeld
 change wpAnyL _ _ _ _ _ 12 13 (Array.replicate 13 false) _ _
 refine tL 0 6 (.pointer (some ⟨cb, 0, none⟩)) HS0.out rfl rfl ?_ ?_
 ·intro w2; go_simp
 simp only [setIfInBounds_toArray, set_cons_zero, set_cons_succ]
 refine tL 1 7 (.pointer (some ⟨cb, 0, none⟩)) HS0.out rfl rfl ?_ ?_
 ·intro w2; go_simp
 simp only [setIfInBounds_toArray, set_cons_zero, set_cons_succ]
 refine tL 2 8 (.pointer (some ⟨cb, 0, none⟩)) HS0.out rfl rfl ?_ ?_
 ·intro w2; go_simp
 simp only [setIfInBounds_toArray, set_cons_zero, set_cons_succ]
 refine tL 3 9 (.pointer (some ⟨cb, 3, none⟩)) HS0.out rfl rfl ?_ ?_
 ·intro w2; go_simp
 simp only [setIfInBounds_toArray, set_cons_zero, set_cons_succ]
 refine tS 4 10 (.slice (some ⟨bb, bo, none⟩) nb kb) [12] HS0.out rfl rfl ?_ ?_
 ·intro w2 hSw; obtain ⟨g0, g1, g2, g3, g4, g5, g6⟩ := hSw; go_simp
 simp only [setIfInBounds_toArray, set_cons_zero, set_cons_succ]
 refine tL 5 11 (.pointer (some ⟨cb, 0, none⟩)) HS0.out rfl rfl ?_ ?_
 ·intro w2; go_simp
 simp only [setIfInBounds_toArray, set_cons_zero, set_cons_succ]
 refine tL 6 12 (.pointer (some ⟨cb, 0, none⟩)) HS0.out rfl rfl ?_ ?_
 ·intro w2; go_simp
 simp only [setIfInBounds_toArray, set_cons_zero, set_cons_succ]
 refine tL 7 13 (.pointer (some ⟨cb, 5, none⟩)) HS0.out rfl rfl ?_ ?_
 ·intro w2; go_simp
 simp only [setIfInBounds_toArray, set_cons_zero, set_cons_succ]
 refine tS 8 14 (.int .i64 bl) [12] HS0.out rfl rfl ?_ ?_
 ·intro w2 hSw; obtain ⟨g0, g1, g2, g3, g4, g5, g6⟩ := hSw; go_simp
 simp only [setIfInBounds_toArray, set_cons_zero, set_cons_succ]
 refine tL 9 15 (.pointer (some ⟨bb, bo + bl.toNat * 5, none⟩)) HS0.out rfl rfl ?_ ?_
 ·intro w2; go_simp
 simp only [setIfInBounds_toArray, set_cons_zero, set_cons_succ]
 refine tS 10 16 (.agg #[.slice (some ⟨bi, bo2, none⟩) ni ki, .int .i64 tk, .int .i64 ta, .int .i64 tt, .int .i64 te]) [12] HS0.out rfl rfl ?_ ?_
 ·intro w2 hSw; obtain ⟨g0, g1, g2, g3, g4, g5, g6⟩ := hSw; go_simp
 simp only [setIfInBounds_toArray, set_cons_zero, set_cons_succ]
 refine wpAnyL_ready (rs := [11]) (by kernel_rfl) (by simp) ?_
 refine AllReadyL.cons rfl (fun K hK => ?_) AllReadyL.nil
 go_simp
 refine hK.out _ _ (SO.out _ ((HB.out.drew.alloc hbs _))) (fun hHeld => ?_)
 have HS1 := Lib.hid hHeld
 clear hK K hHeld
 try simp only [setIfInBounds_toArray, set_cons_zero, set_cons_succ]
 refine wpAnyL_ready (rs := [12]) (by kernel_rfl) (by simp) ?_
 refine AllReadyL.last rfl (by kernel_rfl) (fun K hK => ?_)
 go_simp
 refine hK.out _ _ ?_
 clear hK K
 try simp only [setIfInBounds_toArray, set_cons_zero, set_cons_succ]
 refine wpAnyL_done (by kernel_rfl) ?_ _
 have hb3' : Below w.heap.size w (W.alloc (.cells #[.slice (some ⟨bi, bo2, none⟩) ni ki, .int .i64 tk, .int .i64 ta, .int .i64 tt, .int .i64 te] 48)).drew := (HB.out.alloc hbs _).drew
 have hx' : Blk (W.alloc (.cells #[.slice (some ⟨bi, bo2, none⟩) ni ki, .int .i64 tk, .int .i64 ta, .int .i64 tt, .int .i64 te] 48)).drew W.heap.size 48 #[.slice (some ⟨bi, bo2, none⟩) ni ki, .int .i64 tk, .int .i64 ta, .int .i64 tt, .int .i64 te] := Blk.drew (Blk.new W _ _)
 generalize (W.alloc (.cells #[.slice (some ⟨bi, bo2, none⟩) ni ki, .int .i64 tk, .int .i64 ta, .int .i64 tt, .int .i64 te] 48)).drew = W3 at *
 have HB3 := Lib.hid hb3'
 have HX3 := Lib.hid hx'
 have y6 : W3.cell? ⟨cb, 6, none⟩ = some (.int .i64 at_) := Y6.out W3 hb3'
 have x0 : W3.cell? ⟨W.heap.size, 0, none⟩ = some (.slice (some ⟨bi, bo2, none⟩) ni ki) := hx'.cell 0
 have e0 : (at_ == (ni : Int)) = false := by rw [beq_dec]; exact decide_eq_false (by omega)
 have hbs3 := hb3'.size
 have hWs := HB.out.size
 clear hb3' hx'
 go_upto_region 2 with fail
 go_quiet (fail)
 have hb4 : Below w.heap.size w (W3.drewN nq) := below_drewN HB3.out _
 have hx4 : Blk (W3.drewN nq) W.heap.size 48 #[.slice (some ⟨bi, bo2, none⟩) ni ki, .int .i64 tk, .int .i64 ta, .int .i64 tt, .int .i64 te] := HX3.out
 have y64 : (W3.drewN nq).cell? ⟨cb, 6, none⟩ = some (.int .i64 at_) := y6
 generalize W3.drewN nq = W4 at *
 have HB4 := Lib.hid hb4
 have HC4 := Lib.hid (HC.out.blk.below hb4 hcl)
 have hcl4 := HC4.out.lt
 have z64 := HC4.out.frozen 6
 have HX4 := Lib.hid hx4
 have hxl4 := hx4.lt
 have w1 : IntKind.i64.wrap (at_ + 1) = at_ + 1 := by rw [IntKind.wrap_i64]; omega
 clear hb4 hx4 y6 x0 HB3 HX3
 go_upto_region 5 with fail
 refine wp_world ?_
 intro W5 hW5
 have hg5 : W4.grownBy W5 (some cb) := by rw [← hW5]; exact grown_set1 W4 ⟨cb, 6, none⟩ _
 have hc5 : CallBlk W5 cb nm pr vl (.slice (some ⟨bb, bo, none⟩) nb kb) vv bl (at_ + 1) into := ⟨by rw [← hW5]; exact HC4.out.set_ 6 _⟩
 have hx5 : Blk W5 W.heap.size 48 #[.slice (some ⟨bi, bo2, none⟩) ni ki, .int .i64 tk, .int .i64 ta, .int .i64 tt, .int .i64 te] := HX4.out.grown hg5 (fun e => by injection e; omega)
 have hci5 : Cells W5 bi (bo2 + at_.toNat * 8) [.int .i64 ik, .int .i64 d, .int .i64 a, .int .i64 b, .int .i64 op, .int .i64 n, .string s, .slice Aa la ca] := HCI.out.keep ((hg5.block bi (Nat.lt_of_lt_of_le hil HB4.out.size) (fun e => hnc (by injection e))).trans (HB4.out.block bi hil))
 clear hW5 y64 z64 w1
 have HG5 := Lib.hid hg5
 have HC5 := Lib.hid hc5
 have HX5 := Lib.hid hx5
 have q0 : W5.cell? ⟨W.heap.size, 0, none⟩ = some (.slice (some ⟨bi, bo2, none⟩) ni ki) := hx5.cell 0
 have q6 : W5.cell? ⟨cb, 6, none⟩ = some (.int .i64 (at_ + 1)) := hc5.blk.cell 6
 have w2 : IntKind.i64.wrap (at_ + 1 - 1) = at_ := by rw [IntKind.wrap_i64]; omega
 have w3 : IntKind.i64.wrap at_ = at_ := by rw [IntKind.wrap_i64]; omega
 have i0 : W5.cell? ⟨bi, bo2 + at_.toNat * 8, none⟩ = some (.int .i64 ik) := hci5.at_ (j := 0) rfl
 have i1 : W5.cell? ⟨bi, bo2 + at_.toNat * 8 + 1, none⟩ = some (.int .i64 d) := hci5.at_ (j := 1) rfl
 have i2 : W5.cell? ⟨bi, bo2 + at_.toNat * 8 + 2, none⟩ = some (.int .i64 a) := hci5.at_ (j := 2) rfl
 have i3 : W5.cell? ⟨bi, bo2 + at_.toNat * 8 + 3, none⟩ = some (.int .i64 b) := hci5.at_ (j := 3) rfl
 have i4 : W5.cell? ⟨bi, bo2 + at_.toNat * 8 + 4, none⟩ = some (.int .i64 op) := hci5.at_ (j := 4) rfl
 have i5 : W5.cell? ⟨bi, bo2 + at_.toNat * 8 + 5, none⟩ = some (.int .i64 n) := hci5.at_ (j := 5) rfl
 have i6 : W5.cell? ⟨bi, bo2 + at_.toNat * 8 + 6, none⟩ = some (.string s) := hci5.at_ (j := 6) rfl
 have i7 : W5.cell? ⟨bi, bo2 + at_.toNat * 8 + 7, none⟩ = some (.slice Aa la ca) := hci5.at_ (j := 7) rfl
 have HE := Lib.hid (HPP.out W4 W5.drew (grown_below' HB4.out) ⟨HG5.out.os, HG5.out.tape, HG5.out.output, HG5.out.size, HG5.out.block⟩ ⟨HC5.out.blk⟩)
 clear hg5 hc5 hx5 hci5
 refine wp_region_L (by kernel_rfl) 10 (fun w2 => w2.cell? ⟨W.heap.size, 0, none⟩ = some (.slice (some ⟨bi, bo2, none⟩) ni ki) ∧ w2.cell? ⟨cb, 6, none⟩ = some (.int .i64 (at_ + 1)) ∧ w2.cell? ⟨bi, bo2 + at_.toNat * 8, none⟩ = some (.int .i64 ik) ∧ w2.cell? ⟨bi, bo2 + at_.toNat * 8 + 1, none⟩ = some (.int .i64 d) ∧ w2.cell? ⟨bi, bo2 + at_.toNat * 8 + 2, none⟩ = some (.int .i64 a) ∧ w2.cell? ⟨bi, bo2 + at_.toNat * 8 + 3, none⟩ = some (.int .i64 b) ∧ w2.cell? ⟨bi, bo2 + at_.toNat * 8 + 4, none⟩ = some (.int .i64 op) ∧ w2.cell? ⟨bi, bo2 + at_.toNat * 8 + 5, none⟩ = some (.int .i64 n) ∧ w2.cell? ⟨bi, bo2 + at_.toNat * 8 + 6, none⟩ = some (.string s) ∧ w2.cell? ⟨bi, bo2 + at_.toNat * 8 + 7, none⟩ = some (.slice Aa la ca)) (⟨q0, q6, i0, i1, i2, i3, i4, i5, i6, i7⟩) (fun hHeld => ?_)
 have HS0 := Lib.hid hHeld
 clear hHeld
 change wpAnyL _ _ _ _ _ 10 11 (Array.replicate 11 false) _ _
 refine tL 0 36 (.pointer (some ⟨rb, 0, none⟩)) HS0.out rfl rfl ?_ ?_
 ·intro w2; go_simp
 simp only [setIfInBounds_toArray, set_cons_zero, set_cons_succ]
 refine tL 1 37 (.pointer (some ⟨W.heap.size, 0, none⟩)) HS0.out rfl rfl ?_ ?_
 ·intro w2; go_simp
 simp only [setIfInBounds_toArray, set_cons_zero, set_cons_succ]
 refine tS 2 38 (.slice (some ⟨bi, bo2, none⟩) ni ki) [8, 9, 10] HS0.out rfl rfl ?_ ?_
 ·intro w2 hSw; obtain ⟨g0, g1, g2, g3, g4, g5, g6, g7, g8, g9⟩ := hSw; go_simp
 simp only [setIfInBounds_toArray, set_cons_zero, set_cons_succ]
 refine tL 3 39 (.pointer (some ⟨cb, 0, none⟩)) HS0.out rfl rfl ?_ ?_
 ·intro w2; go_simp
 simp only [setIfInBounds_toArray, set_cons_zero, set_cons_succ]
 refine tL 4 40 (.pointer (some ⟨cb, 0, none⟩)) HS0.out rfl rfl ?_ ?_
 ·intro w2; go_simp
 simp only [setIfInBounds_toArray, set_cons_zero, set_cons_succ]
 refine tL 5 41 (.pointer (some ⟨cb, 6, none⟩)) HS0.out rfl rfl ?_ ?_
 ·intro w2; go_simp
 simp only [setIfInBounds_toArray, set_cons_zero, set_cons_succ]
 refine tS 6 42 (.int .i64 (at_ + 1)) [7, 8, 9, 10] HS0.out rfl rfl ?_ ?_
 ·intro w2 hSw; obtain ⟨g0, g1, g2, g3, g4, g5, g6, g7, g8, g9⟩ := hSw; go_simp
 simp only [setIfInBounds_toArray, set_cons_zero, set_cons_succ]
 refine tL 7 43 (.int .i64 at_) HS0.out rfl rfl ?_ ?_
 ·intro w2; go_simp
 simp only [setIfInBounds_toArray, set_cons_zero, set_cons_succ]
 refine tL 8 44 (.pointer (some ⟨bi, bo2 + at_.toNat * 8, none⟩)) HS0.out rfl rfl ?_ ?_
 ·intro w2; go_simp
 simp only [setIfInBounds_toArray, set_cons_zero, set_cons_succ]
 refine tS 9 45 (.agg #[.int .i64 ik, .int .i64 d, .int .i64 a, .int .i64 b, .int .i64 op, .int .i64 n, .string s, .slice Aa la ca]) [10] HS0.out rfl rfl ?_ ?_
 ·intro w2 hSw; obtain ⟨g0, g1, g2, g3, g4, g5, g6, g7, g8, g9⟩ := hSw; go_simp
 simp only [setIfInBounds_toArray, set_cons_zero, set_cons_succ]
 refine wpAnyL_ready (rs := [10]) (by kernel_rfl) (by simp) ?_
 refine AllReadyL.last rfl (by kernel_rfl) (fun K hK => ?_)
 go_simp
 refine HE.out.mono ?_
 rintro e w6 ⟨rfl, hq⟩
 refine hK.out _ _ ?_
 clear hK K
 try simp only [setIfInBounds_toArray, set_cons_zero, set_cons_succ]
 refine wpAnyL_done (by kernel_rfl) ?_ _
 go_wp2
 go_end0
 exact ⟨rfl, W4, W5.drew, grown_below' HB4.out, ⟨HG5.out.os, HG5.out.tape, HG5.out.output, HG5.out.size, HG5.out.block⟩, ⟨HC5.out.blk⟩, hq⟩
end
end Go.Proofs.YtkpigkopjfkepaaGreatDoor
