/- What irrun's enter does. -/
import Derived.Test.YtknccacfhknnaaaRunIns2
namespace Go.Proofs.Ytknccacfhknnaaa
open Go.RowKit

section
set_option maxHeartbeats 8000000
set_option maxRecDepth 100000
theorem enter_out (rb k cap g cb : Nat) (va vf vm vin vout : Value) (st co sp : Int) (d a b op n : Int) (s : ByteArray) (Aa : Option Addr) (la ca : Nat) (w : World) (hk : 50 ≤ k)
    (h : RunBlk w rb va vf vm vin (.slice (some ⟨g, 0, none⟩) k cap) st co vout sp) :
    Calls Try.prog 110 #[.pointer (some ⟨rb, 0, none⟩), .agg #[.int .i64 9, .int .i64 d, .int .i64 a, .int .i64 b, .int .i64 op, .int .i64 n, .string s, .slice Aa la ca], .pointer (some ⟨cb, 0, none⟩)] w fun e w' => e = .returned (.tuple #[]) ∧ RunBlk w' rb va vf vm vin (.slice (some ⟨g, 0, none⟩) k cap) 4 0 vout sp ∧ w.grownBy w' (some rb) := by
  have HE := Lib.hid (fun (W : World) (hb : Below w.heap.size w W) => end_any rb va vf vm vin (.slice (some ⟨g, 0, none⟩) k cap) vout st co sp 4 0 W ⟨h.blk.below hb h.blk.lt⟩)
  have c4 : w.cell? ⟨rb, 4, none⟩ = some (.slice (some ⟨g, 0, none⟩) k cap) := h.blk.cell 4
  have d1 : decide ((k : Int) ≥ 50) = true := decide_eq_true (by omega)
  have d2 : decide (50 ≤ (k : Int)) = true := decide_eq_true (by omega)
  have HB1 := Lib.hid (below1 w (.cells #[.int .i64 9, .int .i64 d, .int .i64 a, .int .i64 b, .int .i64 op, .int .i64 n, .string s, .slice Aa la ca] 43))
  have lt1 := h.blk.lt
  clear h
  go_enter Try.func110, Try.ntmps110
  go_wp2_with (go_at_call 107; refine (HE.out _ HB1.out).mono ?_; rintro e w4 ⟨rfl, hb4, hg4⟩)
  refine bodyPost_ret (results_none rfl _ _ _) rfl ?_
  exact ⟨rfl, hb4, (grown_below' HB1.out).trans hg4⟩

/-- the slice of a call's args, while it is made -/
structure ArgsAt (W wr : World) (v : Value) (l : List Int) : Prop where
  row : wr.ownsRow W.heap.size 3 1 v l.length (l.map (Value.int .i64))
  below : Below W.heap.size W wr
theorem argsAt_next {W wr w1 : World} {v : Value} {l l' : List Int} {x : Int} {g cap : Nat} {o : Obj} {k : Nat} {xs : List Value} (h : ArgsAt W wr v l) (hk : k = l.length) (hl : l' = l ++ [x]) (hxs : xs = l.map (Value.int .i64))
    (hown : w1.ownsRow W.heap.size 3 1 (.slice (some ⟨g, 0, none⟩) (k + 1) cap) (k + 1) (xs ++ [.int .i64 x])) (hg : (wr.alloc o).grownBy w1 v.ownBlock) : ArgsAt W w1 (.slice (some ⟨g, 0, none⟩) (k + 1) cap) l' := by
  subst hk hl hxs
  refine ⟨by simpa using hown, ?_⟩
  exact (h.below.alloc h.below.size o).grown hg (by have := h.below.size; simp; omega) (fun k e => (h.row.lt k e).1)
theorem take_map_len2 (f : Int → Int) (l : List Int) (k : Nat) (h : k ≤ l.length) : ((l.take k).map f).length = k := by simp; omega
theorem take_map_succ2 (f : Int → Int) (l : List Int) (k : Nat) (h : k < l.length) : (l.take (k + 1)).map f = (l.take k).map f ++ [f l[k]] := by
  rw [List.take_succ_eq_append_getElem h, List.map_append]; rfl
theorem enter_push (base rb k cap g cb vb : Nat) (va vf vm vin vout : Value) (st co sp : Int) (d a b op n : Int) (s : ByteArray) (Aa : Option Addr) (ca : Nat) (args vals : List Int) (nm : ByteArray) (pr vl : Int) (vfl : Value) (bl at_ into : Int) (w : World) (hk : k < 50)
    (h : RunBlk w rb va vf vm vin (.slice (some ⟨g, 0, none⟩) k cap) st co vout sp) (hargs : SlR w (· < base) 1 RInt (.slice Aa args.length ca) args) (hbw : base ≤ w.heap.size) (hc : CallBlk w cb nm pr vl vfl (.slice (some ⟨vb, 0, none⟩) vals.length vals.length) bl at_ into) (hv : Blk w vb 3 (vals.map (Value.int .i64)).toArray) (hin : ∀ a ∈ args, 0 ≤ a ∧ a < (vals.length : Int)) (hal : args.length ≤ 1000) (Q : World → World → Prop)
    (HP : ∀ W Ar cr, w.grownBy W none → SlR W (fun _ => True) 1 RInt (.slice Ar (args.map fun n => vals.getD n.toNat 0).length cr) (args.map fun n => vals.getD n.toNat 0) → Calls Try.prog 34 #[.pointer (some ⟨rb, 0, none⟩), .string s, .slice Ar (args.map fun n => vals.getD n.toNat 0).length cr, .int .i64 d] W fun e w' => e = .returned (.tuple #[]) ∧ Q W w') :
    Calls Try.prog 110 #[.pointer (some ⟨rb, 0, none⟩), .agg #[.int .i64 9, .int .i64 d, .int .i64 a, .int .i64 b, .int .i64 op, .int .i64 n, .string s, .slice Aa args.length ca], .pointer (some ⟨cb, 0, none⟩)] w fun e w' => e = .returned (.tuple #[]) ∧ ∃ W, w.grownBy W none ∧ Q W w' := by
  have c4 : w.cell? ⟨rb, 4, none⟩ = some (.slice (some ⟨g, 0, none⟩) k cap) := h.blk.cell 4
  have d1 : decide ((k : Int) ≥ 50) = false := decide_eq_false (by omega)
  have d2 : decide (50 ≤ (k : Int)) = false := decide_eq_false (by omega)
  have lt0 := h.blk.lt
  have HA := Lib.hid hargs
  have HC := Lib.hid hc
  have HV := Lib.hid hv
  have HIN := Lib.hid hin
  have HPP := Lib.hid HP
  have lt1 := hc.blk.lt
  have lt2 := hv.lt
  obtain ⟨z0, hi0, hz0, hz1, hz2⟩ := info_parts info_int1
  clear h hargs hc hv hin HP
  go_enter Try.func110, Try.ntmps110
  go_upto_region 3 with fail
  refine wp_world ?_
  intro W hW
  have hB : Below w.heap.size w W := by rw [← hW]; exact below1 _ _
  have hx : Blk W w.heap.size 43 #[.int .i64 9, .int .i64 d, .int .i64 a, .int .i64 b, .int .i64 op, .int .i64 n, .string s, .slice Aa args.length ca] := by rw [← hW]; exact Blk.new w _ _
  clear hW c4
  have x7 : W.cell? ⟨w.heap.size, 7, none⟩ = some (.slice Aa args.length ca) := hx.cell 7
  have HX := Lib.hid hx
  have HB := Lib.hid hB
  have hxl := hx.lt
  have hbs := hB.size
  clear hx hB
  go_wp2_with fail
  clear x7
  go_loopw [6, 20] (fun v i wr => ∃ j : Nat, j ≤ args.length ∧ i = .int .i64 j ∧ ArgsAt W wr v ((args.take j).map fun n => vals.getD n.toNat 0)) (fun _ i _ => args.length - (intOf i).toNat)
  case atStart => exact ⟨0, by omega, rfl, World.ownsRow_nil _ _ _ _, Below.refl _ _⟩
  case round =>
    obtain ⟨j, hj, rfl, hna⟩ := hrel
    obtain ⟨Av, cv, hvv⟩ := own_form hna.row
    have htl := take_map_len2 (fun n => vals.getD n.toNat 0) args j hj
    rw [htl] at hvv
    subst hvv
    have hbr := hna.below
    have hsz := hbr.size
    by_cases hlt : j < args.length
    · have e1 : decide ((j : Int) < (args.length : Int)) = true := decide_eq_true (by omega)
      obtain ⟨b3, o3, c3, f3, _, _, hb3, q3⟩ := HA.out.form (by omega)
      obtain rfl : Aa = some ⟨b3, o3, none⟩ := by injection f3
      obtain ⟨cs, _, hcs, hcell⟩ := q3 j hlt
      unfold RInt at hcs
      subst hcs
      have hin := HIN.out args[j] (List.getElem_mem _)
      obtain ⟨q, hq⟩ : ∃ q, q = args[j] := ⟨_, rfl⟩
      rw [← hq] at hcell hin
      obtain ⟨hq0, hq1⟩ := hin
      have hcw := hcell.keep ((hbr.block b3 (by omega)).trans (HB.out.block b3 (by omega)))
      have i0 : wr.cell? ⟨b3, o3 + j, none⟩ = some (.int .i64 q) := by have h := hcw.at_ (j := 0) rfl; simpa using h
      have hvr := (HV.out.below HB.out lt2).below hbr (by omega)
      have y4 : wr.cell? ⟨cb, 4, none⟩ = some (.slice (some ⟨vb, 0, none⟩) vals.length vals.length) := ((HC.out.blk.below HB.out lt1).below hbr (by omega)).cell 4
      obtain ⟨y, hy⟩ : ∃ y, y = vals.getD q.toNat 0 := ⟨_, rfl⟩
      have vq : wr.cell? ⟨vb, q.toNat, none⟩ = some (.int .i64 y) := by
        rw [hvr.cell, hy]
        have hq2 : q.toNat < vals.length := by omega
        simp [hq2]
      have hts := take_map_succ2 (fun n => vals.getD n.toNat 0) args j hlt
      rw [← hq] at hts
      change _ = _ ++ [vals.getD q.toNat 0] at hts
      rw [← hy] at hts
      have HTS := Lib.hid hts
      have hown : wr.ownsRow W.heap.size 3 1 (.slice Av j cv) j (((args.take j).map fun n => vals.getD n.toNat 0).map (Value.int .i64)) := by have h := hna.row; rw [htl] at h; exact h
      have HNA := Lib.hid hna
      have HTL := Lib.hid htl
      clear f3 q3 hcell hcw hq hts htl hna hb3 hvr hy
      generalize hxs : ((args.take j).map fun n => vals.getD n.toNat 0).map (Value.int .i64) = xs at *
      have HXS := Lib.hid hxs
      clear hxs
      go_wp2_with (at_builtin; refine wpList_append_lies _ rfl (.tmp 24) (.tmp 32) _ rfl W.heap.size 3 z0 _ 1 8 Try.underlying41 hi0 hz0 hz1 hz2 rfl (by decide) _ _ _ rfl (hown.alloc _) ⟨wr.heap.size, 0, none⟩ 1 1 [.int .i64 y] rfl rfl (World.news_of_block (cs := #[.int .i64 y]) (t := 3) (fr := (0, 0)) (Blk.new_at _ _ _ (by simp))) (by simp [Value.oneCell']) (by decide) (by unfold maxLen; omega) (by omega) (by simp; omega) (wr.heap.size + 1) (by simp) ?_; intro g cap w1 hown1 hgrow hat hlt1)
      go_roundw
      case rel =>
        refine ⟨j + 1, by omega, by go_num, ?_⟩
        exact argsAt_next HNA.out HTL.out.symm HTS.out HXS.out.symm hown1 hgrow
      case measure => simp [intOf]; omega
    · obtain rfl : j = args.length := by omega
      rw [List.take_length] at hna
      have hsr : SlR wr (fun _ => True) 1 RInt (.slice Av (args.map fun n => vals.getD n.toNat 0).length cv) (args.map fun n => vals.getD n.toNat 0) := ints_of_own (by have h := hna.row; simpa using h) (fun _ _ => trivial)
      have HE := Lib.hid (HPP.out wr Av cv (grown_below' (HB.out.trans (hbr.mono hbs))) hsr)
      have x1 : wr.cell? ⟨w.heap.size, 1, none⟩ = some (.int .i64 d) := (HX.out.below hbr hxl).cell 1
      have x6 : wr.cell? ⟨w.heap.size, 6, none⟩ = some (.string s) := (HX.out.below hbr hxl).cell 6
      have HBR := Lib.hid hbr
      have hle : (args.map fun n => vals.getD n.toNat 0).length = args.length := by simp
      rw [hle] at HE
      have e1 : decide ((args.length : Int) < (args.length : Int)) = false := decide_eq_false (by omega)
      clear hna htl hsr hle
      go_wp2_with (go_at_call 34; refine HE.out.mono ?_; rintro e w4 ⟨rfl, hq4⟩)
      go_end0
      exact ⟨rfl, wr, grown_below' (HB.out.trans (HBR.out.mono hbs)), hq4⟩
end
end Go.Proofs.Ytknccacfhknnaaa
