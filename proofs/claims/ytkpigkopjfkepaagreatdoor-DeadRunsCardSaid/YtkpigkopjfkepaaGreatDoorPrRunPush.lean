/- What irrun's push does: a call more. -/
import Derived.Test.YtkpigkopjfkepaaGreatDoorPrRunArrE
import Derived.Test.YtkpigkopjfkepaaGreatDoorPrRegion
import Derived.Deep.RegionHeld3
import Derived.Deep.AppendLies
import Derived.Deep.OwnRows
import Derived.Laws.CopyOwn
namespace Go.Proofs.YtkpigkopjfkepaaGreatDoor
open List (setIfInBounds_toArray set_cons_zero set_cons_succ)
open Go.RowKit
structure Chg (w w' : World) (may : Nat → Prop) : Prop where
 os : w'.os = w.os
 tape : w'.tape = w.tape
 output : w'.output = w.output
 size : w.heap.size ≤ w'.heap.size
 block : ∀ k, k < w.heap.size → ¬ may k → w'.heap[k]? = w.heap[k]?
theorem Chg.trans {a b c : World} {m : Nat → Prop} (h : Chg a b m) (k : Chg b c m) : Chg a c m :=
 ⟨k.os.trans h.os, k.tape.trans h.tape, k.output.trans h.output, Nat.le_trans h.size k.size, fun i hi hn => (k.block i (Nat.lt_of_lt_of_le hi h.size) hn).trans (h.block i hi hn)⟩
theorem Chg.of_grown {a b : World} {row : Option Nat} {m : Nat → Prop} (h : a.grownBy b row) (hm : ∀ k, row = some k → k < a.heap.size → m k) : Chg a b m :=
 ⟨h.os, h.tape, h.output, h.size, fun k hk hn => h.block k hk (fun e => hn (hm k e.symm hk))⟩
theorem Chg.of_below {a b : World} {m : Nat → Prop} (h : Below a.heap.size a b) : Chg a b m := ⟨h.os, h.tape, h.output, h.size, fun k hk _ => h.block k hk⟩
theorem Chg.mono {a b : World} {m m' : Nat → Prop} (h : Chg a b m) (hm : ∀ k, m k → m' k) : Chg a b m' := ⟨h.os, h.tape, h.output, h.size, fun k hk hn => h.block k hk (fun e => hn (hm k e))⟩
theorem own_keep {w w' : World} {base : Nat} {e : TypeId} {size : Nat} {v : Value} {n : Nat} {xs : List Value} (h : w.ownsRow base e size v n xs) (hk : ∀ g, v.ownBlock = some g → w'.heap[g]? = w.heap[g]?) : w'.ownsRow base e size v n xs := by
 refine ⟨h.1, ?_⟩
 rcases h.2 with hn | ⟨g, cap, cur, hv, hb, hg, rest⟩
 ·exact .inl hn
 ·exact .inr ⟨g, cap, cur, hv, hb, by rw [hk g (by rw [hv]; rfl)]; exact hg, rest⟩
theorem made_one2 (z : Value) (n : Nat) : madeCells #[z] n = (List.replicate n z).toArray := by
 apply Array.ext
 ·simp [madeCells]
 ·intro i h1 h2
  simp [madeCells, Nat.mod_one]
theorem info_callp : (Tryz.prog.info? 124).map (fun i => (i.zero, i.size, i.bytes)) = some (some (.pointer none), 1, 8) := by kernel_rfl
theorem info_int1 : (Tryz.prog.info? 3).map (fun i => (i.zero, i.size, i.bytes)) = some (some (.int .i64 0), 1, 8) := by kernel_rfl
theorem ints_one2 (l : List Int) : ∀ v ∈ l.map (Value.int .i64), v.oneCell' = true := fun v hv => by
 obtain ⟨x, _, rfl⟩ := List.mem_map.1 hv
 rfl
structure PushPost (base rb n m : Nat) (va vf vm vin vcalls vout : Value) (st co sp into : Int) (xs : List Value) (f : LFlow) (args : List Int) (w w' : World) (cb vb g cap : Nat) (Ab : Option Addr) (kb : Nat) : Prop where
 run : RunBlk w' rb va vf vm vin (.slice (some ⟨g, 0, none⟩) (n + 1) cap) st co vout sp
 row : w'.ownsRow base 124 1 (.slice (some ⟨g, 0, none⟩) (n + 1) cap) (n + 1) (xs ++ [.pointer (some ⟨cb, 0, none⟩)])
 own : vcalls.ownBlock = some g ∨ w.heap.size ≤ g
 call : Blk w' cb 126 #[.string f.name, .int .i64 f.params, .int .i64 f.values, .slice Ab f.blocks.length kb, .slice (some ⟨vb, 0, none⟩) m m, .int .i64 0, .int .i64 0, .int .i64 into]
 blocks : SlR w' (· < base) 5 (RBlock w' (· < base)) (.slice Ab f.blocks.length kb) f.blocks
 vals : Blk w' vb 3 ((argVals f.values args).map (Value.int .i64)).toArray
 cnew : w.heap.size ≤ cb
 vnew : w.heap.size ≤ vb
 chg : Chg w w' (fun b => b = rb ∨ vcalls.ownBlock = some b)
 room : n + 1 ≤ cap ∧ cap ≤ maxLen
theorem own_room {w : World} {base : Nat} {e : TypeId} {size : Nat} {g n cap : Nat} {xs : List Value} (h : w.ownsRow base e size (.slice (some ⟨g, 0, none⟩) n cap) n xs) : n ≤ cap ∧ cap ≤ maxLen := by
 rcases h.2 with ⟨hn, _⟩ | ⟨g', cap', cur, hv, hb, hg, h1, h2, h3, h4⟩
 ·cases hn
 ·injection hv with _ _ h6
  subst h6
  exact ⟨h1, h2⟩
theorem chg4 {w w2 w3 w4 : World} (h1 : Below w.heap.size w w2) (h2 : Below w2.heap.size w2 w3) {v : Value} (h3 : w3.grownBy w4 v.ownBlock) (rb : Nat) (u : Value) : Chg w (w4.setCell ⟨rb, 4, none⟩ u) (fun b => b = rb ∨ v.ownBlock = some b) :=
 (Chg.of_below (h1.trans (h2.mono h1.size))).trans ((Chg.of_grown h3 (fun k e _ => .inr e)).trans (Chg.of_grown (grown_set1 w4 ⟨rb, 4, none⟩ u) (fun k e _ => .inl (by injection e with e; exact e.symm))))
theorem args_src {w W : World} {Ar : Option Addr} {ca : Nat} {args : List Int} (h : SlR w (fun _ => True) 1 RInt (.slice Ar args.length ca) args) (hb : Below w.heap.size w W) (hp : 0 < (args.map (Value.int .i64)).length) : ∃ ad, Ar = some ad ∧ ∀ j v, (args.map (Value.int .i64))[j]? = some v → W.cell? (ad.add j) = some v := by
 obtain ⟨b, off, c, hv, _, _, _, hel⟩ := h.form (by simpa using hp)
 injection hv with h1 _ _
 refine ⟨_, h1, fun j v hj => ?_⟩
 obtain ⟨hj1, hj2⟩ := List.getElem?_eq_some_iff.1 hj
 have hj' : j < args.length := by simpa using hj1
 obtain ⟨cs, _, hR, hc⟩ := hel j hj'
 unfold RInt at hR
 subst hR
 have hadd : (⟨b, off, none⟩ : Addr).add j = ⟨b, off + j * 1, none⟩ := by unfold Addr.add; split <;> simp_all
 have h0 : w.cell? ⟨b, off + j * 1, none⟩ = some (.int .i64 args[j]) := hc.at_ (j := 0) rfl
 rw [hadd, (hb.cell (p := ⟨b, off + j * 1, none⟩) (World.block_lt_of_cell? w _ h0)), h0, ← hj2]
 simp
theorem arg_splice {m : Nat} {args : List Int} (h : args.length ≤ m) : splice (List.replicate m (Value.int .i64 0)) 0 (args.map (Value.int .i64)) = (argVals (m : Int) args).map (Value.int .i64) := by
 unfold splice argVals
 have e : ((m : Int)).toNat = m := by omega
 rw [e]
 simp [List.take_of_length_le, h]
section
set_option maxHeartbeats 8000000
set_option maxRecDepth 100000
theorem push_any (base rb n c1 c2 i m : Nat) (u : LUnit) (A1 A2 : Option Addr) (vm vin vcalls vout : Value) (st co sp into : Int) (s : ByteArray) (xs : List Value) (Ar : Option Addr) (ca : Nat) (args : List Int) (w : World)
  (h : RunBlk w rb (.slice A1 u.arrays.length c1) (.slice A2 u.flows.length c2) vm vin vcalls st co vout sp) (hf : SlR w (· < base) 4 (RFlow w (· < base)) (.slice A2 u.flows.length c2) u.flows) (hbw : base ≤ w.heap.size) (hbr : base ≤ rb) (hi : i < u.flows.length)
  (hpl : placeU u s = (i : Int)) (hm : u.flows[i].values = (m : Int)) (hm5 : m ≤ 50000) (hfl : u.flows.length ≤ 500) (hr : w.ownsRow base 124 1 vcalls n xs) (hn : n ≤ 60) (ha : SlR w (fun _ => True) 1 RInt (.slice Ar args.length ca) args) (hal : args.length ≤ m) :
  Calls Tryz.prog 36 #[.pointer (some ⟨rb, 0, none⟩), .string s, .slice Ar args.length ca, .int .i64 into] w fun e w' => e = .returned (.tuple #[]) ∧ ∃ cb vb g cap Ab kb, PushPost base rb n m (.slice A1 u.arrays.length c1) (.slice A2 u.flows.length c2) vm vin vcalls vout st co sp into xs u.flows[i] args w w' cb vb g cap Ab kb := by
 have HPL := Lib.hid (fun (W : World) (hb : Below w.heap.size w W) => place_u u s A1 u.arrays.length c1 (.slice A2 u.flows.length c2) W (hf.imp (fun b h => Nat.lt_of_lt_of_le (Nat.lt_of_lt_of_le h hbw) hb.size) (fun b h => hb.block b (Nat.lt_of_lt_of_le h hbw)) (fun _ _ _ r => r.imp (fun b h => Nat.lt_of_lt_of_le (Nat.lt_of_lt_of_le h hbw) hb.size) (fun b h => hb.block b (Nat.lt_of_lt_of_le h hbw)))))
 rw [hpl] at HPL
 obtain ⟨bf, off, c2', hform, hc21, hc22, hbf, hel⟩ := hf.form (by omega)
 obtain ⟨rfl, rfl⟩ : A2 = some ⟨bf, off, none⟩ ∧ c2 = c2' := by injection hform with h1 _ h2; exact ⟨h1, h2⟩
 obtain ⟨fcs, hfl4, ⟨vb0, hfcs, hblk⟩, hcell⟩ := hel i hi
 obtain ⟨Ab, kb, hvb, _, _⟩ := hblk.val
 subst hvb
 rw [hm] at hfcs
 subst hfcs
 have q0 : w.cell? ⟨bf, off + i * 4, none⟩ = some (.string u.flows[i].name) := hcell.at_ (j := 0) rfl
 have q1 : w.cell? ⟨bf, off + i * 4 + 1, none⟩ = some (.int .i64 u.flows[i].params) := hcell.at_ (j := 1) rfl
 have q2 : w.cell? ⟨bf, off + i * 4 + 2, none⟩ = some (.int .i64 (m : Int)) := hcell.at_ (j := 2) rfl
 have q3 : w.cell? ⟨bf, off + i * 4 + 3, none⟩ = some (.slice Ab u.flows[i].blocks.length kb) := hcell.at_ (j := 3) rfl
 have c0 : w.cell? ⟨rb, 0, none⟩ = some (.slice A1 u.arrays.length c1) := h.blk.cell 0
 have c1' : w.cell? ⟨rb, 1, none⟩ = some (.slice (some ⟨bf, off, none⟩) u.flows.length c2) := h.blk.cell 1
 have lt1 : rb < w.heap.size := h.blk.lt
 have lt2 : bf < w.heap.size := Nat.lt_of_lt_of_le hbf hbw
 have SO := Lib.hid (fun (W : World) (hb : Below w.heap.size w W) => (⟨(hb.cell (p := ⟨rb, 0, none⟩) lt1).trans c0, (hb.cell (p := ⟨rb, 1, none⟩) lt1).trans c1', (hb.cell (p := ⟨bf, off + i * 4, none⟩) lt2).trans q0, (hb.cell (p := ⟨bf, off + i * 4 + 1, none⟩) lt2).trans q1, (hb.cell (p := ⟨bf, off + i * 4 + 2, none⟩) lt2).trans q2, (hb.cell (p := ⟨bf, off + i * 4 + 3, none⟩) lt2).trans q3⟩ :
  W.cell? ⟨rb, 0, none⟩ = some (.slice A1 u.arrays.length c1) ∧ W.cell? ⟨rb, 1, none⟩ = some (.slice (some ⟨bf, off, none⟩) u.flows.length c2) ∧ W.cell? ⟨bf, off + i * 4, none⟩ = some (.string u.flows[i].name) ∧ W.cell? ⟨bf, off + i * 4 + 1, none⟩ = some (.int .i64 u.flows[i].params) ∧ W.cell? ⟨bf, off + i * 4 + 2, none⟩ = some (.int .i64 (m : Int)) ∧ W.cell? ⟨bf, off + i * 4 + 3, none⟩ = some (.slice Ab u.flows[i].blocks.length kb)))
 have HH := Lib.hid h
 have HR := Lib.hid hr
 have HA := Lib.hid ha
 have HBL := Lib.hid hblk
 have HM := Lib.hid hm
 have i1 : (0 : Int) ≤ (i : Int) := by omega
 have i2 : (i : Int) < (u.flows.length : Int) := by omega
 have HB0 := Lib.hid (Below.refl w.heap.size w)
 have TS : w.heap.size ≤ w.heap.size := Nat.le_refl _
 clear h hr ha hf hel hcell hblk hfl4 hm q0 q1 q2 q3 c0 c1' hpl hc21 hc22 hform
 go_enter Tryz.func36, Tryz.ntmps36
 go_upto_region 0 with fail
 go_cut [8] (fun s8 wx => ∃ fb, s8 = .pointer (some ⟨fb, 0, none⟩) ∧ Below w.heap.size w wx ∧ w.heap.size ≤ fb ∧ Blk wx fb 41 #[.string u.flows[i].name, .int .i64 u.flows[i].params, .int .i64 (m : Int), .slice Ab u.flows[i].blocks.length kb])
 case first =>
  refine wp_region_L (by kernel_rfl) 14 (fun w2 => w2.cell? ⟨rb, 0, none⟩ = some (.slice A1 u.arrays.length c1) ∧ w2.cell? ⟨rb, 1, none⟩ = some (.slice (some ⟨bf, off, none⟩) u.flows.length c2) ∧ w2.cell? ⟨bf, off + i * 4, none⟩ = some (.string u.flows[i].name) ∧ w2.cell? ⟨bf, off + i * 4 + 1, none⟩ = some (.int .i64 u.flows[i].params) ∧ w2.cell? ⟨bf, off + i * 4 + 2, none⟩ = some (.int .i64 (m : Int)) ∧ w2.cell? ⟨bf, off + i * 4 + 3, none⟩ = some (.slice Ab u.flows[i].blocks.length kb)) (SO.out _ HB0.out.drew) (fun hHeld => ?_)
  have HS0 := Lib.hid hHeld
  clear hHeld
  change wpAnyL _ _ _ _ _ 14 15 (Array.replicate 15 false) _ _
  refine tL 0 10 (.pointer (some ⟨rb, 0, none⟩)) HS0.out rfl rfl ?_ ?_
  ·intro w2; go_simp
  simp only [setIfInBounds_toArray, set_cons_zero, set_cons_succ]
  refine tL 1 11 (.pointer (some ⟨rb, 0, none⟩)) HS0.out rfl rfl ?_ ?_
  ·intro w2; go_simp
  simp only [setIfInBounds_toArray, set_cons_zero, set_cons_succ]
  refine tL 2 12 (.pointer (some ⟨rb, 0, none⟩)) HS0.out rfl rfl ?_ ?_
  ·intro w2; go_simp
  simp only [setIfInBounds_toArray, set_cons_zero, set_cons_succ]
  refine tL 3 13 (.pointer (some ⟨rb, 1, none⟩)) HS0.out rfl rfl ?_ ?_
  ·intro w2; go_simp
  simp only [setIfInBounds_toArray, set_cons_zero, set_cons_succ]
  refine tS 4 14 (.slice (some ⟨bf, off, none⟩) u.flows.length c2) [14] HS0.out rfl rfl ?_ ?_
  ·intro w2 hSw; obtain ⟨g0, g1, g2, g3, g4, g5⟩ := hSw; go_simp
  simp only [setIfInBounds_toArray, set_cons_zero, set_cons_succ]
  refine tL 5 15 (.pointer (some ⟨rb, 0, none⟩)) HS0.out rfl rfl ?_ ?_
  ·intro w2; go_simp
  simp only [setIfInBounds_toArray, set_cons_zero, set_cons_succ]
  refine tL 6 16 (.pointer (some ⟨rb, 0, none⟩)) HS0.out rfl rfl ?_ ?_
  ·intro w2; go_simp
  simp only [setIfInBounds_toArray, set_cons_zero, set_cons_succ]
  refine tL 7 17 (.pointer (some ⟨rb, 0, none⟩)) HS0.out rfl rfl ?_ ?_
  ·intro w2; go_simp
  simp only [setIfInBounds_toArray, set_cons_zero, set_cons_succ]
  refine tS 8 18 (.agg #[.slice A1 u.arrays.length c1, .slice (some ⟨bf, off, none⟩) u.flows.length c2]) [14] HS0.out rfl rfl ?_ ?_
  ·intro w2 hSw; obtain ⟨g0, g1, g2, g3, g4, g5⟩ := hSw; go_simp
  simp only [setIfInBounds_toArray, set_cons_zero, set_cons_succ]
  refine tL 9 19 (.string s) HS0.out rfl rfl ?_ ?_
  ·intro w2; go_simp
  simp only [setIfInBounds_toArray, set_cons_zero, set_cons_succ]
  refine wpAnyL_ready (rs := [10, 13]) (by kernel_rfl) (by simp) ?_
  refine AllReadyL.cons rfl (fun K hK => ?_) (AllReadyL.cons rfl (fun K hK => ?_) AllReadyL.nil)
  ·go_simp
   refine (HPL.out _ HB0.out.drew).mono ?_
   rintro e w4 ⟨rfl, hb4'⟩
   have HB4 := Lib.hid (HB0.out.drew.trans (hb4'.mono (Nat.le_refl _)))
   clear hb4'
   refine hK.out _ _ (SO.out _ HB4.out) (fun hHeld => ?_)
   have HS1 := Lib.hid hHeld
   clear hK K hHeld
   try simp only [setIfInBounds_toArray, set_cons_zero, set_cons_succ]
   refine tL 11 21 (.pointer (some ⟨bf, off + i * 4, none⟩)) HS1.out rfl rfl ?_ ?_
   ·intro w2; go_simp
   simp only [setIfInBounds_toArray, set_cons_zero, set_cons_succ]
   refine tS 12 22 (.agg #[.string u.flows[i].name, .int .i64 u.flows[i].params, .int .i64 (m : Int), .slice Ab u.flows[i].blocks.length kb]) [14] HS1.out rfl rfl ?_ ?_
   ·intro w2 hSw; obtain ⟨g0, g1, g2, g3, g4, g5⟩ := hSw; go_simp
   simp only [setIfInBounds_toArray, set_cons_zero, set_cons_succ]
   refine wpAnyL_ready (rs := [13]) (by kernel_rfl) (by simp) ?_
   refine AllReadyL.cons rfl (fun K hK => ?_) AllReadyL.nil
   go_simp
   refine hK.out _ _ (SO.out _ (HB4.out.alloc HB4.out.size _)) (fun hHeld => ?_)
   have HS2 := Lib.hid hHeld
   clear hK K hHeld
   try simp only [setIfInBounds_toArray, set_cons_zero, set_cons_succ]
   refine wpAnyL_ready (rs := [14]) (by kernel_rfl) (by simp) ?_
   refine AllReadyL.last rfl (by kernel_rfl) (fun K hK => ?_)
   go_simp
   refine hK.out _ _ ?_
   clear hK K
   try simp only [setIfInBounds_toArray, set_cons_zero, set_cons_succ]
   refine wpAnyL_done (by kernel_rfl) ?_ _
   go_wp2_with fail
   go_meet
   refine ⟨w4.heap.size, rfl, ?_, HB4.out.size, ?_⟩
   ·exact HB4.out.alloc HB4.out.size _
   ·exact Blk.new w4 _ _
  ·go_simp
   refine hK.out _ _ (SO.out _ (HB0.out.drew.alloc TS _)) (fun hHeld => ?_)
   have HS1 := Lib.hid hHeld
   clear hK K hHeld
   try simp only [setIfInBounds_toArray, set_cons_zero, set_cons_succ]
   refine wpAnyL_ready (rs := [10]) (by kernel_rfl) (by simp) ?_
   refine AllReadyL.cons rfl (fun K hK => ?_) AllReadyL.nil
   go_simp
   refine (HPL.out _ (HB0.out.drew.alloc TS _)).mono ?_
   rintro e w4 ⟨rfl, hb4'⟩
   have HB4' := Lib.hid hb4'
   have hs4 := hb4'.size
   have HB4 := Lib.hid ((HB0.out.drew.alloc TS _).trans (hb4'.mono (by simp)))
   clear hb4'
   refine hK.out _ _ (SO.out _ HB4.out) (fun hHeld => ?_)
   have HS2 := Lib.hid hHeld
   clear hK K hHeld
   try simp only [setIfInBounds_toArray, set_cons_zero, set_cons_succ]
   refine tL 11 21 (.pointer (some ⟨bf, off + i * 4, none⟩)) HS2.out rfl rfl ?_ ?_
   ·intro w2; go_simp
   simp only [setIfInBounds_toArray, set_cons_zero, set_cons_succ]
   refine tS 12 22 (.agg #[.string u.flows[i].name, .int .i64 u.flows[i].params, .int .i64 (m : Int), .slice Ab u.flows[i].blocks.length kb]) [14] HS2.out rfl rfl ?_ ?_
   ·intro w2 hSw; obtain ⟨g0, g1, g2, g3, g4, g5⟩ := hSw; go_simp
   simp only [setIfInBounds_toArray, set_cons_zero, set_cons_succ]
   have hF4 : Blk w4 w.heap.size 41 #[.string ⟨#[]⟩, .int .i64 0, .int .i64 0, .slice none 0 0] := (Blk.new w.drew 41 #[.string ⟨#[]⟩, .int .i64 0, .int .i64 0, .slice none 0 0]).below HB4'.out (by simp)
   have z40 := hF4.frozen 0
   have z41 := hF4.frozen 1
   have z42 := hF4.frozen 2
   have z43 := hF4.frozen 3
   have y40 : w4.cell? ⟨w.heap.size, 0, none⟩ = some (.string ⟨#[]⟩) := hF4.cell 0
   have y41 : w4.cell? ⟨w.heap.size, 1, none⟩ = some (.int .i64 0) := hF4.cell 1
   have y42 : w4.cell? ⟨w.heap.size, 2, none⟩ = some (.int .i64 0) := hF4.cell 2
   have y43 : w4.cell? ⟨w.heap.size, 3, none⟩ = some (.slice none 0 0) := hF4.cell 3
   refine wpAnyL_ready (rs := [14]) (by kernel_rfl) (by simp) ?_
   refine AllReadyL.last rfl (by kernel_rfl) (fun K hK => ?_)
   go_simp
   refine hK.out _ _ ?_
   clear hK K
   try simp only [setIfInBounds_toArray, set_cons_zero, set_cons_succ]
   refine wpAnyL_done (by kernel_rfl) ?_ _
   have HF4 := Lib.hid hF4
   clear hF4 z40 z41 z42 z43 y40 y41 y42 y43
   go_wp2_with fail
   go_meet
   refine ⟨w.heap.size, rfl, ?_, Nat.le_refl _, ?_⟩
   ·exact (((HB4.out.setCell (p := ⟨w.heap.size, 0, none⟩) (Nat.le_refl _) _).setCell (p := ⟨w.heap.size, 1, none⟩) (Nat.le_refl _) _).setCell (p := ⟨w.heap.size, 2, none⟩) (Nat.le_refl _) _).setCell (p := ⟨w.heap.size, 3, none⟩) (Nat.le_refl _) _
   ·exact (((HF4.out.set_ 0 _).set_ 1 _).set_ 2 _).set_ 3 _
 case rest =>
  obtain ⟨fb, rfl, hb, hfb, hF⟩ := hcut
  have f2 : wc.cell? ⟨fb, 2, none⟩ = some (.int .i64 (m : Int)) := hF.cell 2
  have hmk := run_make_row' (P := Tryz.prog) 38 3 (.int .i64 0) 8 Tryz.underlying38 info_int1 rfl .i64 .i64 m (by omega) (by omega)
  have HF := Lib.hid hF
  have HB := Lib.hid hb
  have hfl' : fb < wc.heap.size := hF.lt
  have hws := hb.size
  clear hF hb SO HPL HB0 TS i1 i2
  go_upto_region 2 with fail
  refine wp_world ?_
  intro W hW
  have hbW : Below wc.heap.size wc W := by rw [← hW]; exact (Below.refl _ _).alloc (Nat.le_refl _) _
  have hV : Blk W wc.heap.size 3 (List.replicate m (Value.int .i64 0)).toArray := by rw [← hW, ← made_one2]; exact Blk.new wc _ _
  clear hW hmk f2
  have HSRC := Lib.hid (args_src HA.out (HB.out.trans (hbW.mono hws)))
  have HHV := Lib.hid hV
  have HBW := Lib.hid hbW
  clear hV hbW
  go_wp2_with (refine wpList_copy_splice rfl _ _ 38 38 rfl 3 Tryz.underlying38 (by kernel_rfl) (some ⟨wc.heap.size, 0, none⟩) Ar m m args.length ca rfl rfl wc.heap.size 0 (List.replicate m (Value.int .i64 0)) 3 HHV.out (args.map (Value.int .i64)) (by rw [List.length_map]; exact (Nat.min_eq_left hal).symm) (fun h => ⟨rfl, HSRC.out h⟩) (by simp; omega) (ints_one2 args) wc.heap.size wc HBW.out (Nat.le_refl _) ?_; intro w2 HG2 hB2)
  have hV2 : Blk w2 wc.heap.size 3 ((argVals (m : Int) args).map (Value.int .i64)).toArray := by
   have h := HG2.out
   rw [arg_splice hal] at h
   exact h
  have HV2 := Lib.hid hV2
  have hvl : wc.heap.size < w2.heap.size := hV2.lt
  have HB2 := Lib.hid hB2
  have hs2 := hB2.size
  have hF2 : Blk w2 fb 41 #[.string u.flows[i].name, .int .i64 u.flows[i].params, .int .i64 (m : Int), .slice Ab u.flows[i].blocks.length kb] := HF.out.below hB2 hfl'
  have HF2 := Lib.hid hF2
  have hbb : Below w.heap.size w w2 := HB.out.trans (hB2.mono hws)
  have HBB := Lib.hid hbb
  have hsb := hbb.size
  obtain ⟨Av, cv, hvv⟩ := own_form HR.out
  subst hvv
  have hr2 : w2.ownsRow base 124 1 (.slice Av n cv) n xs := HR.out.kept (grown_below' (row := none) hbb) (Classical.em _)
  have HR2 := Lib.hid hr2
  have hh2 : RunBlk w2 rb (.slice A1 u.arrays.length c1) (.slice (some ⟨bf, off, none⟩) u.flows.length c2) vm vin (.slice Av n cv) st co vout sp := ⟨HH.out.blk.below hbb lt1⟩
  have HH2 := Lib.hid hh2
  have p4 : w2.cell? ⟨rb, 4, none⟩ = some (.slice Av n cv) := hh2.blk.cell 4
  have y0 : w2.cell? ⟨fb, 0, none⟩ = some (.string u.flows[i].name) := hF2.cell 0
  have y1 : w2.cell? ⟨fb, 1, none⟩ = some (.int .i64 u.flows[i].params) := hF2.cell 1
  have y2 : w2.cell? ⟨fb, 2, none⟩ = some (.int .i64 (m : Int)) := hF2.cell 2
  have y3 : w2.cell? ⟨fb, 3, none⟩ = some (.slice Ab u.flows[i].blocks.length kb) := hF2.cell 3
  have lt3 : rb < w2.heap.size := hh2.blk.lt
  have lt4 : fb < w2.heap.size := hF2.lt
  have hne0 := own_ne hr2 hh2.blk (by decide)
  have hne1 := own_ne hr2 hF2 (by decide)
  have SO := Lib.hid (fun (W : World) (hb : W = W ∧ W.heap[rb]? = w2.heap[rb]? ∧ W.heap[fb]? = w2.heap[fb]?) => (⟨(World.cell?_of_block (w := w2) (w' := W) (a := ⟨rb, 4, none⟩) hb.2.1).trans p4, (World.cell?_of_block (w := w2) (w' := W) (a := ⟨fb, 0, none⟩) hb.2.2).trans y0, (World.cell?_of_block (w := w2) (w' := W) (a := ⟨fb, 1, none⟩) hb.2.2).trans y1, (World.cell?_of_block (w := w2) (w' := W) (a := ⟨fb, 2, none⟩) hb.2.2).trans y2, (World.cell?_of_block (w := w2) (w' := W) (a := ⟨fb, 3, none⟩) hb.2.2).trans y3⟩ :
   (fun w3 => w3.cell? ⟨rb, 4, none⟩ = some (.slice Av n cv) ∧ w3.cell? ⟨fb, 0, none⟩ = some (.string u.flows[i].name) ∧ w3.cell? ⟨fb, 1, none⟩ = some (.int .i64 u.flows[i].params) ∧ w3.cell? ⟨fb, 2, none⟩ = some (.int .i64 (m : Int)) ∧ w3.cell? ⟨fb, 3, none⟩ = some (.slice Ab u.flows[i].blocks.length kb)) W))
  obtain ⟨z0, hi0, hz0, hz1, hz2⟩ := info_parts info_callp
  clear hbb hr2 hh2 hF2 hV2 hB2 HG2 p4 y0 y1 y2 y3 HSRC HHV HBW
  refine wp_region_L (by kernel_rfl) 14 (fun w3 => w3.cell? ⟨rb, 4, none⟩ = some (.slice Av n cv) ∧ w3.cell? ⟨fb, 0, none⟩ = some (.string u.flows[i].name) ∧ w3.cell? ⟨fb, 1, none⟩ = some (.int .i64 u.flows[i].params) ∧ w3.cell? ⟨fb, 2, none⟩ = some (.int .i64 (m : Int)) ∧ w3.cell? ⟨fb, 3, none⟩ = some (.slice Ab u.flows[i].blocks.length kb)) (SO.out _ ⟨rfl, rfl, rfl⟩) (fun hHeld => ?_)
  have HS0 := Lib.hid hHeld
  clear hHeld
  change wpAnyL _ _ _ _ _ 14 15 (Array.replicate 15 false) _ _
  refine tL 0 29 (.pointer (some ⟨rb, 0, none⟩)) HS0.out rfl rfl ?_ ?_
  ·intro w2; go_simp
  simp only [setIfInBounds_toArray, set_cons_zero, set_cons_succ]
  refine tL 1 30 (.pointer (some ⟨rb, 0, none⟩)) HS0.out rfl rfl ?_ ?_
  ·intro w2; go_simp
  simp only [setIfInBounds_toArray, set_cons_zero, set_cons_succ]
  refine tL 2 31 (.pointer (some ⟨rb, 0, none⟩)) HS0.out rfl rfl ?_ ?_
  ·intro w2; go_simp
  simp only [setIfInBounds_toArray, set_cons_zero, set_cons_succ]
  refine tL 3 32 (.pointer (some ⟨rb, 4, none⟩)) HS0.out rfl rfl ?_ ?_
  ·intro w2; go_simp
  simp only [setIfInBounds_toArray, set_cons_zero, set_cons_succ]
  refine tS 4 33 (.slice Av n cv) [14] HS0.out rfl rfl ?_ ?_
  ·intro w2 hSw; obtain ⟨g0, g1, g2, g3, g4⟩ := hSw; go_simp
  simp only [setIfInBounds_toArray, set_cons_zero, set_cons_succ]
  refine tS 5 34 (.agg #[.string u.flows[i].name, .int .i64 u.flows[i].params, .int .i64 (m : Int), .slice Ab u.flows[i].blocks.length kb]) [14] HS0.out rfl rfl ?_ ?_
  ·intro w2 hSw; obtain ⟨g0, g1, g2, g3, g4⟩ := hSw; go_simp
  simp only [setIfInBounds_toArray, set_cons_zero, set_cons_succ]
  refine tL 6 35 (.slice (some ⟨wc.heap.size, 0, none⟩) m m) HS0.out rfl rfl ?_ ?_
  ·intro w2; go_simp
  simp only [setIfInBounds_toArray, set_cons_zero, set_cons_succ]
  refine tL 7 36 (.int .i64 into) HS0.out rfl rfl ?_ ?_
  ·intro w2; go_simp
  simp only [setIfInBounds_toArray, set_cons_zero, set_cons_succ]
  refine tL 8 37 (.agg #[.string u.flows[i].name, .int .i64 u.flows[i].params, .int .i64 (m : Int), .slice Ab u.flows[i].blocks.length kb, .slice (some ⟨wc.heap.size, 0, none⟩) m m, .int .i64 0, .int .i64 0, .int .i64 into]) HS0.out rfl rfl ?_ ?_
  ·intro w2; go_simp
  simp only [setIfInBounds_toArray, set_cons_zero, set_cons_succ]
  refine wpAnyL_ready (rs := [9]) (by kernel_rfl) (by simp) ?_
  refine AllReadyL.cons rfl (fun K hK => ?_) AllReadyL.nil
  go_simp
  refine hK.out _ _ (SO.out _ ⟨rfl, Below.heap_alloc w2 _ rb lt3, Below.heap_alloc w2 _ fb lt4⟩) (fun hHeld => ?_)
  have HS1 := Lib.hid hHeld
  clear hK K hHeld
  try simp only [setIfInBounds_toArray, set_cons_zero, set_cons_succ]
  refine wpAnyL_ready (rs := [10]) (by kernel_rfl) (by simp) ?_
  refine AllReadyL.cons rfl (fun K hK => ?_) AllReadyL.nil
  go_simp
  refine hK.out _ _ (SO.out _ ⟨rfl, (Below.heap_alloc (w2.alloc _) _ rb (by simp; omega)).trans (Below.heap_alloc w2 _ rb lt3), (Below.heap_alloc (w2.alloc _) _ fb (by simp; omega)).trans (Below.heap_alloc w2 _ fb lt4)⟩) (fun hHeld => ?_)
  have HS2 := Lib.hid hHeld
  clear hK K hHeld
  try simp only [setIfInBounds_toArray, set_cons_zero, set_cons_succ]
  have hcall : Blk ((w2.alloc (.cells #[.string u.flows[i].name, .int .i64 u.flows[i].params, .int .i64 (m : Int), .slice Ab u.flows[i].blocks.length kb, .slice (some ⟨wc.heap.size, 0, none⟩) m m, .int .i64 0, .int .i64 0, .int .i64 into] 126)).alloc (.cells #[.pointer (some ⟨w2.heap.size, 0, none⟩)] 124)).drew w2.heap.size 126 #[.string u.flows[i].name, .int .i64 u.flows[i].params, .int .i64 (m : Int), .slice Ab u.flows[i].blocks.length kb, .slice (some ⟨wc.heap.size, 0, none⟩) m m, .int .i64 0, .int .i64 0, .int .i64 into] := ((Blk.new w2 _ _).alloc _).drew
  have hnew : Blk ((w2.alloc (.cells #[.string u.flows[i].name, .int .i64 u.flows[i].params, .int .i64 (m : Int), .slice Ab u.flows[i].blocks.length kb, .slice (some ⟨wc.heap.size, 0, none⟩) m m, .int .i64 0, .int .i64 0, .int .i64 into] 126)).alloc (.cells #[.pointer (some ⟨w2.heap.size, 0, none⟩)] 124)).drew (w2.heap.size + 1) 124 #[.pointer (some ⟨w2.heap.size, 0, none⟩)] := Blk.drew (Blk.new_at _ _ _ (by simp))
  have hb3 : Below w2.heap.size w2 ((w2.alloc (.cells #[.string u.flows[i].name, .int .i64 u.flows[i].params, .int .i64 (m : Int), .slice Ab u.flows[i].blocks.length kb, .slice (some ⟨wc.heap.size, 0, none⟩) m m, .int .i64 0, .int .i64 0, .int .i64 into] 126)).alloc (.cells #[.pointer (some ⟨w2.heap.size, 0, none⟩)] 124)).drew := (((Below.refl _ _).alloc (Nat.le_refl _) _).alloc (by simp) _).drew
  have hsz3 : (((w2.alloc (.cells #[.string u.flows[i].name, .int .i64 u.flows[i].params, .int .i64 (m : Int), .slice Ab u.flows[i].blocks.length kb, .slice (some ⟨wc.heap.size, 0, none⟩) m m, .int .i64 0, .int .i64 0, .int .i64 into] 126)).alloc (.cells #[.pointer (some ⟨w2.heap.size, 0, none⟩)] 124)).drew).heap.size = w2.heap.size + 2 := by simp
  generalize ((w2.alloc (.cells #[.string u.flows[i].name, .int .i64 u.flows[i].params, .int .i64 (m : Int), .slice Ab u.flows[i].blocks.length kb, .slice (some ⟨wc.heap.size, 0, none⟩) m m, .int .i64 0, .int .i64 0, .int .i64 into] 126)).alloc (.cells #[.pointer (some ⟨w2.heap.size, 0, none⟩)] 124)).drew = w3 at *
  have HCL := Lib.hid hcall
  have HB3 := Lib.hid hb3
  have HS3 := Lib.hid hsz3
  have hr3 := HR2.out.kept (grown_below' (row := none) hb3) (Classical.em _)
  have hbase3 : base ≤ w3.heap.size := by omega
  have hg3 : w2.heap.size + 2 = w3.heap.size := hsz3.symm
  have HG3 := Lib.hid hg3
  clear hcall hb3 hsz3 hg3
  refine wpAnyL_ready (rs := [11]) (by kernel_rfl) (by simp) ?_
  refine AllReadyL.cons rfl (fun K hK => ?_) AllReadyL.nil
  refine step_append_lies _ (by rfl) _ _ _ (by rfl) base 124 z0 _ 1 8 Tryz.underlying85 hi0 hz0 hz1 hz2 rfl (by omega) (.slice Av n cv) n xs (by rfl) hr3 ⟨w2.heap.size + 1, 0, none⟩ 1 1 [.pointer (some ⟨w2.heap.size, 0, none⟩)] (by rfl) (by rfl) (World.news_of_block hnew) (by simp [Value.oneCell']) (by omega) (by unfold maxLen; omega) (by omega) hbase3 w3.heap.size rfl ?_
  intro g cap w4 hown4 hgrow hat hlt4
  have hrb4 : w4.heap[rb]? = w3.heap[rb]? := hgrow.block rb (Nat.lt_of_lt_of_le lt3 HB3.out.size) hne0
  have hfb4 : w4.heap[fb]? = w3.heap[fb]? := hgrow.block fb (Nat.lt_of_lt_of_le lt4 HB3.out.size) hne1
  have HRB4 := Lib.hid hrb4
  have HG4 := Lib.hid hgrow
  have HOWN4 := Lib.hid hown4
  have HAT := Lib.hid hat
  refine hK.out _ _ (SO.out _ ⟨rfl, hrb4.trans (HB3.out.block rb lt3), hfb4.trans (HB3.out.block fb lt4)⟩) (fun hHeld => ?_)
  have HS3 := Lib.hid hHeld
  clear hK K hHeld
  try simp only [setIfInBounds_toArray, set_cons_zero, set_cons_succ]
  refine tL 12 41 (.pointer (some ⟨rb, 0, none⟩)) HS3.out rfl rfl ?_ ?_
  ·intro w2; go_simp
  simp only [setIfInBounds_toArray, set_cons_zero, set_cons_succ]
  refine tL 13 42 (.pointer (some ⟨rb, 4, none⟩)) HS3.out rfl rfl ?_ ?_
  ·intro w2; go_simp
  simp only [setIfInBounds_toArray, set_cons_zero, set_cons_succ]
  have hh4 : RunBlk w4 rb (.slice A1 u.arrays.length c1) (.slice (some ⟨bf, off, none⟩) u.flows.length c2) vm vin (.slice Av n cv) st co vout sp := ⟨(HH2.out.blk.below HB3.out lt3).keep HRB4.out⟩
  have HH4 := Lib.hid hh4
  have k4 : w4.cell? ⟨rb, 4, none⟩ = some (.slice Av n cv) := hh4.blk.cell 4
  have f4 := hh4.blk.frozen 4
  clear hh4 hown4 hgrow hat hnew hr3
  refine wpAnyL_ready (rs := [14]) (by kernel_rfl) (by simp) ?_
  refine AllReadyL.last rfl (by kernel_rfl) (fun K hK => ?_)
  go_simp
  refine hK.out _ _ ?_
  clear hK K
  try simp only [setIfInBounds_toArray, set_cons_zero, set_cons_succ]
  refine wpAnyL_done (by kernel_rfl) ?_ _
  go_wp2_with fail
  go_end0
  have hcap := own_room HOWN4.out
  have hgb : Blk w4 w2.heap.size 126 #[.string u.flows[i].name, .int .i64 u.flows[i].params, .int .i64 (m : Int), .slice Ab u.flows[i].blocks.length kb, .slice (some ⟨wc.heap.size, 0, none⟩) m m, .int .i64 0, .int .i64 0, .int .i64 into] := HCL.out.grown HG4.out (fun e => by have := (HR2.out.lt _ e).2; omega)
  have hvb : Blk w4 wc.heap.size 3 ((argVals (m : Int) args).map (Value.int .i64)).toArray := (HV2.out.below HB3.out hvl).grown HG4.out (own_ne HR2.out HV2.out (by decide)).symm
  have hgne : ∀ g', (Value.slice (some ⟨g, 0, none⟩) (n + 1) cap).ownBlock = some g' → g' ≠ rb := fun g' e e' => own_ne HOWN4.out HH4.out.blk (by decide) (by rw [e, e'])
  refine ⟨rfl, w2.heap.size, wc.heap.size, g, cap, Ab, kb, ?_, ?_, ?_, ?_, ?_, ?_, hsb, hws, ?_, ?_⟩
  ·exact ⟨HH4.out.blk.set_ 4 _⟩
  ·exact own_keep HOWN4.out (fun g' e => Below.heap_setCell w4 _ _ g' (hgne g' e))
  ·rcases HAT.out with h | h
   ·exact .inl h
   ·exact .inr (by rw [h]; have := HB3.out.size; omega)
  ·rw [HM.out]; exact hgb.far (p := ⟨rb, 4, none⟩) (by show w2.heap.size ≠ rb; omega) _
  ·refine HBL.out.imp (fun _ h => h) (fun b h => ?_) (fun _ _ _ r => r.imp (fun _ h => h) (fun b h => ?_))
   all_goals exact (chg4 HBB.out HB3.out HG4.out rb (.slice (some ⟨g, 0, none⟩) (n + 1) cap)).block b (Nat.lt_of_lt_of_le h hbw) (fun e => e.elim (fun e => by omega) (fun e => by have := (HR.out.lt _ e).1; omega))
  ·rw [HM.out]; exact hvb.far (p := ⟨rb, 4, none⟩) (by show wc.heap.size ≠ rb; omega) _
  ·exact chg4 HBB.out HB3.out HG4.out rb (.slice (some ⟨g, 0, none⟩) (n + 1) cap)
  ·exact hcap
end
end Go.Proofs.YtkpigkopjfkepaaGreatDoor
