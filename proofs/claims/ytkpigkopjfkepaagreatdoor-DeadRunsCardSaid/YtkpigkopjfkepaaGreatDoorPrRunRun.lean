/- What irrun.Run does at a unit that may be: so many steps of the plain run. -/
import Derived.Test.YtkpigkopjfkepaaGreatDoorPrRunOkS
import Derived.Deep.LoopGhost
namespace Go.Proofs.YtkpigkopjfkepaaGreatDoor
open List (setIfInBounds_toArray set_cons_zero set_cons_succ)
open Go.RowKit
def zeroArrs (l : List (ByteArray × Int)) : List (ByteArray × List Int) := l.map fun a => (a.1, List.replicate a.2.toNat 0)
def preRun (u : LUnit) (inp : List Int) : MRun := ⟨zeroArrs u.arrays, inp, [], 0, 0, [], 0⟩
def startRun (u : LUnit) (inp : List Int) : MRun := (preRun u inp).push u sMain [] 0
def runU (u : LUnit) (inp : List Int) (n : Nat) : MRun := runM u n (startRun u inp)
theorem main_find {u : LUnit} (hu : UnitOk u) : ∃ f, u.flows.find? (fun f => decide (f.name = sMain)) = some f ∧ f ∈ u.flows := by
 obtain ⟨i, hi, hp, _⟩ := hu.main
 unfold placeU findI at hp
 have hany : u.flows.any (fun f => decide (f.name = sMain)) = true := by
  by_cases h : u.flows.any (fun f => decide (f.name = sMain)) = true
  ·exact h
  ·rw [if_neg h] at hp; omega
 rw [List.any_eq_true] at hany
 obtain ⟨f, hf, hn⟩ := hany
 cases h : u.flows.find? (fun f => decide (f.name = sMain)) with
 | none => rw [List.find?_eq_none] at h; exact absurd hn (h f hf)
 | some g => exact ⟨g, rfl, List.mem_of_find?_eq_some h⟩
theorem startRun_eq {u : LUnit} {f : LFlow} (h : u.flows.find? (fun f => decide (f.name = sMain)) = some f) (inp : List Int) : startRun u inp = { preRun u inp with calls := [newCall f [] 0] } := by
 unfold startRun MRun.push; rw [h]; rfl
theorem startRun_ok {u : LUnit} (hu : UnitOk u) (inp : List Int) : MOk u (startRun u inp) := by
 obtain ⟨f, hf, hmem⟩ := main_find hu
 rw [startRun_eq hf]
 refine ⟨fun c hc => ?_, trivial, by simp, fun _ => by simp, ?_, fun a ha => ?_, by simp [preRun]⟩
 ·obtain rfl : c = newCall f [] 0 := by simpa using hc
  exact newCall_ok hu hmem _ _
 ·show (zeroArrs u.arrays).map (·.1) = _
  simp [zeroArrs]
 ·obtain ⟨b, hb, rfl⟩ := List.mem_map.1 (show a ∈ u.arrays.map fun a => (a.1, List.replicate a.2.toNat 0) from ha)
  have := hu.sizes b hb
  simp
  omega
theorem runM_snoc (u : LUnit) (k : Nat) (m : MRun) (h : (runM u k m).status = 0) : runM u (k + 1) m = stepM u { runM u k m with steps := (runM u k m).steps + 1 } := by
 rw [runM_add, runM_succ, if_pos h]; rfl
theorem runU_ok {u : LUnit} (hu : UnitOk u) (inp : List Int) : ∀ k, MOk u (runU u inp k)
 | 0 => startRun_ok hu inp
 | k + 1 => by
  by_cases h : (runU u inp k).status = 0
  ·unfold runU at h ⊢
   rw [runM_snoc u k _ h]
   exact (runU_ok hu inp k).round hu
  ·have e : runU u inp (k + 1) = runU u inp k := by unfold runU at h ⊢; rw [runM_add, runM_end h]
   rw [e]; exact runU_ok hu inp k
theorem runU_steps {u : LUnit} (hu : UnitOk u) (inp : List Int) (k : Nat) : (runU u inp k).steps ≤ k ∧ ((runU u inp k).status = 0 → (runU u inp k).steps = k) := by
 obtain ⟨f, hf, _⟩ := main_find hu
 have e : (startRun u inp).steps = 0 := by rw [startRun_eq hf]; rfl
 refine ⟨?_, fun h => ?_⟩
 ·have := (runM_steps u k (startRun u inp)).2
  unfold runU; omega
 ·have := runM_going u k (startRun u inp) h
  unfold runU; omega
theorem take_zero (l : List (ByteArray × Int)) (k : Nat) (h : k < l.length) : zeroArrs (l.take (k + 1)) = zeroArrs (l.take k) ++ [(l[k].1, List.replicate l[k].2.toNat 0)] := by
 unfold zeroArrs; rw [List.take_succ_eq_append_getElem h, List.map_append]; rfl
theorem own_base {w : World} {base base' : Nat} {e : TypeId} {size : Nat} {v : Value} {n : Nat} {xs : List Value} (hb : base' ≤ base) (h : w.ownsRow base e size v n xs) : w.ownsRow base' e size v n xs := by
 refine ⟨h.1, ?_⟩
 rcases h.2 with hn | ⟨g, cap, cur, hv, h1, rest⟩
 ·exact .inl hn
 ·exact .inr ⟨g, cap, cur, hv, Nat.le_trans hb h1, rest⟩
theorem made_ints (n : Nat) : madeCells #[Value.int .i64 0] n = ((List.replicate n (0 : Int)).map (Value.int .i64)).toArray := by rw [made_one2, List.map_replicate]
structure ArrLoop (u : LUnit) (A1 A2 : Option Addr) (c1 c2 : Nat) (vin : Value) (W wr : World) (rb mb k : Nat) (gs : List Nat) (D : DataW Value) : Prop where
 below : Below W.heap.size W wr
 run : RunBlk wr rb (.slice A1 u.arrays.length c1) (.slice A2 u.flows.length c2) (.map (some mb)) vin (.slice none 0 0) 0 0 (.slice none 0 0) 0
 arrs : ArrsAt wr W.heap.size mb k D gs (zeroArrs (u.arrays.take k))
section
set_option maxHeartbeats 8000000
set_option maxRecDepth 100000
theorem run_any (u : LUnit) (hu : UnitOk u) (inp : List Int) (n : Nat) (hn : n ≤ 20000) (A1 A2 : Option Addr) (c1 c2 : Nat) (vin : Value) (w : World) (ha : SlR w (· < w.heap.size) 2 RArr (.slice A1 u.arrays.length c1) u.arrays) (hf : SlR w (· < w.heap.size) 4 (RFlow w (· < w.heap.size)) (.slice A2 u.flows.length c2) u.flows) (hin : SlR w (· < w.heap.size) 1 RInt vin inp) :
  Calls Tryz.prog 18 #[.agg #[.slice A1 u.arrays.length c1, .slice A2 u.flows.length c2], vin, .int .i64 (n : Int)] w fun e w' => ∃ vout, e = .returned (.agg #[.int .i64 (runU u inp n).status, .int .i64 (runU u inp n).code, vout, .int .i64 (runU u inp n).steps]) ∧ Below w.heap.size w w' ∧ w'.ownsRow w.heap.size 3 1 vout (runU u inp n).out.length ((runU u inp n).out.map (Value.int .i64)) := by
 obtain ⟨Ai, ci, hvi, _, _⟩ := hin.val
 subst hvi
 have HCK := Lib.hid (fun (W : World) (hb : Below w.heap.size w W) => check_ok u hu A1 A2 c1 c2 W (ha.imp (fun _ h => Nat.lt_of_lt_of_le h hb.size) (fun b h => hb.block b h) (fun _ _ _ r => r)) (hf.imp (fun _ h => Nat.lt_of_lt_of_le h hb.size) (fun b h => hb.block b h) (fun _ _ _ r => r.imp (fun _ h => Nat.lt_of_lt_of_le h hb.size) (fun b h => hb.block b h))))
 have HU := Lib.hid hu
 have HA := Lib.hid ha
 have HF := Lib.hid hf
 have HI := Lib.hid hin
 have hal := hu.arrs
 have hb2 : Below w.heap.size w ((w.alloc (.cells #[.slice A1 u.arrays.length c1, .slice A2 u.flows.length c2] 27)).alloc (.cells #[.int .i64 0, .int .i64 0, .slice none 0 0, .int .i64 0] 57)) := ((Below.refl _ _).alloc (Nat.le_refl _) _).alloc (by simp) _
 have HB2 := Lib.hid hb2
 clear hu ha hf hin hb2
 go_enter Tryz.func18, Tryz.ntmps18
 go_wp2
 go_step3
 go_upto_region 4 with (go_at_call 11; refine (HCK.out _ HB2.out).mono ?_; rintro e w' ⟨rfl, hbc⟩)
 refine wp_world ?_
 intro W hW
 have hB : Below w.heap.size w W := by rw [← hW]; exact (HB2.out.trans (hbc.mono (by simp; omega))).alloc (Nat.le_trans (by simp; omega) hbc.size) _
 have hX : Blk W w.heap.size 27 #[.slice A1 u.arrays.length c1, .slice A2 u.flows.length c2] := by rw [← hW]; exact (((Blk.new w _ _).alloc _).below hbc (by simp; omega)).alloc _
 have hR : Blk W (w.heap.size + 1) 57 #[.int .i64 0, .int .i64 0, .slice none 0 0, .int .i64 0] := by rw [← hW]; exact ((Blk.new_at (w.alloc _) _ _ (by simp)).below hbc (by simp)).alloc _
 clear hW hbc
 have x0 : W.cell? ⟨w.heap.size, 0, none⟩ = some (.slice A1 u.arrays.length c1) := hX.cell 0
 have x1 : W.cell? ⟨w.heap.size, 1, none⟩ = some (.slice A2 u.flows.length c2) := hX.cell 1
 have hmm := @run_makeMap Tryz.prog
 have HB := Lib.hid hB
 have HX := Lib.hid hX
 have HR := Lib.hid hR
 have hxl := hX.lt
 have hrl := hR.lt
 have hbs := hB.size
 clear hB hX hR HCK
 go_upto_region 5 with fail
 refine wp_world ?_
 intro W1 hW1
 have hL : ArrLoop u A1 A2 c1 c2 (.slice Ai inp.length ci) W W1 (W.heap.size + 1) W.heap.size 0 [] (.map []) := by
  rw [← hW1]
  refine ⟨((Below.refl _ _).alloc (Nat.le_refl _) _).alloc (by simp) _, ⟨Blk.new_at _ _ _ (by simp)⟩, ?_⟩
  exact ArrsAt.start ((World.ownsMap_made W _ _ _).alloc _) (Nat.le_refl _)
 clear hW1 x1 hmm
 have HL0 := Lib.hid hL
 have x0' : W1.cell? ⟨w.heap.size, 0, none⟩ = some (.slice A1 u.arrays.length c1) := (hL.below.cell (p := ⟨w.heap.size, 0, none⟩) hxl).trans x0
 clear hL x0
 go_wp2_with fail
 clear x0'
 go_loopw [28] (fun i wr => ∃ k : Nat, k ≤ u.arrays.length ∧ i = .int .i64 k ∧ ∃ gs D, ArrLoop u A1 A2 c1 c2 (.slice Ai inp.length ci) W wr (W.heap.size + 1) W.heap.size k gs D) (fun i _ => u.arrays.length - (intOf i).toNat)
 case atStart => exact ⟨0, by omega, rfl, _, _, HL0.out⟩
 case round =>
  obtain ⟨k, hk, rfl, gs, D, hl⟩ := hrel
  by_cases hlt : k < u.arrays.length
  ·have e1 : decide ((k : Int) < (u.arrays.length : Int)) = true := decide_eq_true (by omega)
   obtain ⟨b3, o3, c3, f3, _, _, hb3, q3⟩ := HA.out.form (by omega)
   obtain rfl : A1 = some ⟨b3, o3, none⟩ := by injection f3
   obtain ⟨cs, _, hcs, hcell⟩ := q3 k hlt
   unfold RArr at hcs
   subst hcs
   obtain ⟨hs1, hs2⟩ := HU.out.sizes _ (List.getElem_mem hlt)
   obtain ⟨sz, hsz⟩ : ∃ sz : Nat, u.arrays[k].2 = (sz : Int) := ⟨u.arrays[k].2.toNat, by omega⟩
   have hnl := name_len HU.out hlt
   have hzt := take_zero u.arrays k hlt
   rw [hsz] at hcell hs1 hs2 hzt
   rw [Int.toNat_natCast] at hzt
   have hsn : u.arrays[k].1 ∉ (zeroArrs (u.arrays.take k)).map (·.1) := by
    have hnd := HU.out.nodup
    unfold allNames at hnd
    have hnd := (List.nodup_append.1 hnd).1
    intro hmem
    have e2 : (zeroArrs (u.arrays.take k)).map (·.1) = (u.arrays.map (·.1)).take k := by unfold zeroArrs; rw [List.map_map, List.map_take]; rfl
    rw [e2] at hmem
    obtain ⟨j, hj, hje⟩ := List.getElem_of_mem hmem
    have hj' : j < k := by simp at hj; omega
    have hjl : j < (u.arrays.map (·.1)).length := by simp; omega
    have hkl : k < (u.arrays.map (·.1)).length := by simpa using hlt
    have e3 : (u.arrays.map (·.1))[j] = (u.arrays.map (·.1))[k] := by
     rw [List.getElem_take] at hje
     rw [hje]; simp
    have := (List.getElem_inj hnd).1 e3
    omega
   generalize hnm : u.arrays[k].1 = nm at *
   have hcw := hcell.keep ((hl.below.block b3 (by omega)).trans (HB.out.block b3 hb3))
   have i0 : wr.cell? ⟨b3, o3 + k * 2, none⟩ = some (.string nm) := by have h := hcw.at_ (j := 0) rfl; rw [Nat.add_zero] at h; exact h
   have i1 : wr.cell? ⟨b3, o3 + k * 2 + 1, none⟩ = some (.int .i64 (sz : Int)) := hcw.at_ (j := 1) rfl
   have HZT := Lib.hid hzt
   have HSN := Lib.hid hsn
   have HL := Lib.hid hl
   have hrl2 := hl.run.blk.lt
   have hml2 := hl.arrs.map.lt
   have hbs2 := hl.below.size
   have lt3 : b3 < wr.heap.size := by omega
   clear f3 q3 hcell hcw hl hsz hzt hsn hnm
   go_upto_region 8 with fail
   refine wp_world ?_
   intro W2 hW2
   have hB2 : Below wr.heap.size wr W2 := by rw [← hW2]; first | exact (Below.refl _ _).alloc (Nat.le_refl _) _ | exact (((Below.refl _ _).alloc (Nat.le_refl _) _).setCell (Nat.le_refl _) _).setCell (Nat.le_refl _) _
   have hE : Blk W2 wr.heap.size 63 #[.string nm, .int .i64 (sz : Int)] := by rw [← hW2]; first | exact Blk.new wr _ _ | exact ((Blk.new wr _ _).set_ 0 _).set_ 1 _
   clear hW2 i0 i1
   have g2 : W2.cell? ⟨W.heap.size + 1, 2, none⟩ = some (.map (some W.heap.size)) := (HL.out.run.blk.below hB2 hrl2).cell 2
   have g0 : W2.cell? ⟨wr.heap.size, 0, none⟩ = some (.string nm) := hE.cell 0
   have g1 : W2.cell? ⟨wr.heap.size, 1, none⟩ = some (.int .i64 (sz : Int)) := hE.cell 1
   have HB2' := Lib.hid hB2
   have hel := hE.lt
   have hrw2 : W.heap.size + 1 < W2.heap.size := (HL.out.run.blk.below hB2 hrl2).lt
   have SO := Lib.hid (fun (w2 : World) (hb2 : Below W2.heap.size W2 w2) => (⟨(hb2.cell (p := ⟨W.heap.size + 1, 2, none⟩) hrw2).trans g2, (hb2.cell (p := ⟨wr.heap.size, 0, none⟩) hel).trans g0, (hb2.cell (p := ⟨wr.heap.size, 1, none⟩) hel).trans g1⟩ : (fun w2 => w2.cell? ⟨W.heap.size + 1, 2, none⟩ = some (.map (some W.heap.size)) ∧ w2.cell? ⟨wr.heap.size, 0, none⟩ = some (.string nm) ∧ w2.cell? ⟨wr.heap.size, 1, none⟩ = some (.int .i64 (sz : Int))) w2))
   have hbs3 := hB2.size
   clear hB2 hE
   have hmk := run_make_row' (P := Tryz.prog) 38 3 (.int .i64 0) 8 Tryz.underlying38 info_int1 rfl .i64 .i64 sz (by omega) (by omega)
   refine wp_region_L (by kernel_rfl) 9 (fun w2 => w2.cell? ⟨W.heap.size + 1, 2, none⟩ = some (.map (some W.heap.size)) ∧ w2.cell? ⟨wr.heap.size, 0, none⟩ = some (.string nm) ∧ w2.cell? ⟨wr.heap.size, 1, none⟩ = some (.int .i64 (sz : Int))) (⟨g2, g0, g1⟩) (fun hHeld => ?_)
   have HS0 := Lib.hid hHeld
   clear hHeld
   change wpAnyL _ _ _ _ _ 9 10 (Array.replicate 10 false) _ _
   refine tL 0 32 (.pointer (some ⟨W.heap.size + 1, 0, none⟩)) HS0.out rfl rfl ?_ ?_
   ·intro w2; go_simp
   simp only [setIfInBounds_toArray, set_cons_zero, set_cons_succ]
   refine tL 1 33 (.pointer (some ⟨W.heap.size + 1, 0, none⟩)) HS0.out rfl rfl ?_ ?_
   ·intro w2; go_simp
   simp only [setIfInBounds_toArray, set_cons_zero, set_cons_succ]
   refine tL 2 34 (.pointer (some ⟨W.heap.size + 1, 2, none⟩)) HS0.out rfl rfl ?_ ?_
   ·intro w2; go_simp
   simp only [setIfInBounds_toArray, set_cons_zero, set_cons_succ]
   refine tS 3 35 (.map (some W.heap.size)) [9] HS0.out rfl rfl ?_ ?_
   ·intro w2 hSw; obtain ⟨g0, g1, g2⟩ := hSw; go_simp
   simp only [setIfInBounds_toArray, set_cons_zero, set_cons_succ]
   refine tL 4 36 (.pointer (some ⟨wr.heap.size, 0, none⟩)) HS0.out rfl rfl ?_ ?_
   ·intro w2; go_simp
   simp only [setIfInBounds_toArray, set_cons_zero, set_cons_succ]
   refine tS 5 37 (.string nm) [9] HS0.out rfl rfl ?_ ?_
   ·intro w2 hSw; obtain ⟨g0, g1, g2⟩ := hSw; go_simp
   simp only [setIfInBounds_toArray, set_cons_zero, set_cons_succ]
   refine tL 6 38 (.pointer (some ⟨wr.heap.size, 1, none⟩)) HS0.out rfl rfl ?_ ?_
   ·intro w2; go_simp
   simp only [setIfInBounds_toArray, set_cons_zero, set_cons_succ]
   refine tS 7 39 (.int .i64 (sz : Int)) [9] HS0.out rfl rfl ?_ ?_
   ·intro w2 hSw; obtain ⟨g0, g1, g2⟩ := hSw; go_simp
   simp only [setIfInBounds_toArray, set_cons_zero, set_cons_succ]
   refine wpAnyL_ready (rs := [8]) (by kernel_rfl) (by simp) ?_
   refine AllReadyL.cons rfl (fun K hK => ?_) AllReadyL.nil
   go_simp
   refine hK.out _ _ (SO.out _ ((Below.refl _ _).alloc (Nat.le_refl _) _).drew) (fun hHeld => ?_)
   have HS1 := Lib.hid hHeld
   clear hK K hHeld
   try simp only [setIfInBounds_toArray, set_cons_zero, set_cons_succ]
   have hG3 : Blk (W2.alloc (.cells (madeCells #[.int .i64 0] sz) 3)).drew W2.heap.size 3 ((List.replicate sz (0 : Int)).map (Value.int .i64)).toArray := by rw [← made_ints]; exact Blk.drew (Blk.new W2 _ _)
   have hb3 : Below W2.heap.size W2 (W2.alloc (.cells (madeCells #[.int .i64 0] sz) 3)).drew := ((Below.refl _ _).alloc (Nat.le_refl _) _).drew
   generalize (W2.alloc (.cells (madeCells #[.int .i64 0] sz) 3)).drew = W3 at *
   have hA3 := HL.out.arrs.keep (row := none) (grown_below' (HB2'.out.trans (hb3.mono hbs3))) (by simp) (fun g _ => by simp)
   have HA3 := Lib.hid hA3
   have HG3 := Lib.hid hG3
   have HB3 := Lib.hid hb3
   obtain ⟨W4, hrun4, hown4, hg4⟩ := hA3.map.update (t := 84) (e := 38) (Maps.string_keyed Tryz.underlying9) Tryz.underlying84 (by unfold maxLen; omega) (key := .string nm) (val := .slice (some ⟨W2.heap.size, 0, none⟩) sz sz) (kl := keyLit nm) (d := .held (.slice (some ⟨W2.heap.size, 0, none⟩) sz sz)) (ps := []) (WideMaps.keyOf_string_mk Tryz.underlying9 hnl) rfl
   have HO4 := Lib.hid hown4
   have HG4 := Lib.hid hg4
   clear hA3 hG3 hb3 hown4 hg4
   refine wpAnyL_ready (rs := [9]) (by kernel_rfl) (by simp) ?_
   refine AllReadyL.last rfl (by kernel_rfl) (fun K hK => ?_)
   go_simp
   refine hK.out _ _ ?_
   clear hK K
   try simp only [setIfInBounds_toArray, set_cons_zero, set_cons_succ]
   refine wpAnyL_done (by kernel_rfl) ?_ _
   go_wp2_with fail
   go_roundw
   case rel =>
    refine ⟨k + 1, by omega, by go_num, gs ++ [W2.heap.size], D.put (keyLit nm) (.held (.slice (some ⟨W2.heap.size, 0, none⟩) sz sz)), ?_⟩
    have e5 : (List.replicate sz (0 : Int)).length = sz := by simp
    have hgs : W2.heap.size ∉ gs := fun hm => by obtain ⟨_, cs, hb⟩ := HL.out.arrs.mem_blk hm; have := hb.lt; omega
    have h5 := HA3.out.put (s := nm) (l := List.replicate sz (0 : Int)) HG3.out (by omega) hgs HSN.out (by rw [e5]; exact HO4.out) HG4.out
    rw [e5, ← HZT.out] at h5
    have hB3 : Below wr.heap.size wr W3 := HB2'.out.trans (HB3.out.mono hbs3)
    refine ⟨(HL.out.below.trans (hB3.mono hbs2)).grown HG4.out (by have := HB3.out.size; omega) (fun k e => by injection e with e; omega), ⟨((HL.out.run.blk.below hB3 hrl2).grown HG4.out (fun e => by injection e with e; omega))⟩, h5⟩
   case measure => simp [intOf]; omega
  ·obtain rfl : k = u.arrays.length := by omega
   obtain ⟨f, hfm, hfmem⟩ := main_find HU.out
   obtain ⟨_, _, f3, _, _, _⟩ := flow_ok HU.out hfmem
   obtain ⟨f1, _, _, _, _, _⟩ := flow_ok HU.out hfmem
   have hlA := hl.arrs
   rw [List.take_length] at hlA
   have kp : Keeps (· < w.heap.size) w wr := fun b hb => (hl.below.block b (by omega)).trans (HB.out.block b hb)
   have kb : ∀ b, b < w.heap.size → b < W.heap.size := fun b h => by omega
   have hX : RunAtX wr W.heap.size (W.heap.size + 1) W.heap.size u A1 A2 c1 c2 (preRun u inp) (.slice Ai inp.length ci) (.slice none 0 0) (.slice none 0 0) [] [] gs u.arrays.length D :=
    ⟨hl.run, ⟨HA.out.imp kb kp (fun _ _ _ r => r), HF.out.imp kb kp (fun _ _ _ r => r.imp kb kp), HI.out.imp kb kp (fun _ _ _ r => r), World.ownsRow_nil _ _ _ _, World.ownsRow_nil _ _ _ _, rfl, rfl, fun i hi => absurd hi (by simp [preRun]), by simp, by simp, fun g e => by simp⟩, hlA, fun g _ => by simp, fun g _ => by simp [Value.ownBlock], Nat.le_succ _, hl.below.size⟩
   have HP := Lib.hid (push_at HU.out hX (by simp [preRun]) hfm [] none 0 0 (SlR.nil_ _ _ _ _) (by simp; omega))
   have HLB := Lib.hid hl.below
   have e1 : decide ((u.arrays.length : Int) < (u.arrays.length : Int)) = false := decide_eq_false (by omega)
   clear hl hlA hX kp kb
   go_wp2_with (go_at_call 36; refine HP.out.mono ?_; rintro e w4 ⟨rfl, hr4, hc4⟩)
   have hr4' : RunAt w4 W.heap.size (W.heap.size + 1) W.heap.size u A1 A2 c1 c2 (runU u inp 0) := hr4
   have hchg4 : Chg W w4 (W.heap.size ≤ ·) := (Chg.of_below HLB.out).trans hc4
   have HR4 := Lib.hid hr4'
   have HC4 := Lib.hid hchg4
   clear hr4 hc4 hr4' hchg4
   go_step3
   go_wp2_with fail
   go_loopg [] n (fun gk wr => ∃ k, k + gk = n ∧ RunAt wr W.heap.size (W.heap.size + 1) W.heap.size u A1 A2 c1 c2 (runU u inp k) ∧ Chg W wr (W.heap.size ≤ ·))
   case atStart => exact ⟨0, by omega, HR4.out, HC4.out⟩
   case round =>
    obtain ⟨k, hkn, ⟨vin', vcalls, vout, cbs, vbs, gs, nD, D, hx⟩, hchg⟩ := hrel
    have hok := runU_ok HU.out inp k
    obtain ⟨hst1, hst2⟩ := runU_steps HU.out inp k
    obtain ⟨m, hm⟩ : ∃ m, m = runU u inp k := ⟨_, rfl⟩
    rw [← hm] at hx hok hst1 hst2
    obtain ⟨Ao, co, hvo⟩ := own_form hx.rest.out
    subst hvo
    have q5 : wr.cell? ⟨W.heap.size + 1, 5, none⟩ = some (.int .i64 m.status) := hx.run.blk.cell 5
    have q6 : wr.cell? ⟨W.heap.size + 1, 6, none⟩ = some (.int .i64 m.code) := hx.run.blk.cell 6
    have q7 : wr.cell? ⟨W.heap.size + 1, 7, none⟩ = some (.slice Ao m.out.length co) := hx.run.blk.cell 7
    have q8 : wr.cell? ⟨W.heap.size + 1, 8, none⟩ = some (.int .i64 m.steps) := hx.run.blk.cell 8
    have hRw : Blk wr (w.heap.size + 1) 57 #[.int .i64 0, .int .i64 0, .slice none 0 0, .int .i64 0] := HR.out.keep (hchg.block _ hrl (by omega))
    have r0 : wr.cell? ⟨w.heap.size + 1, 0, none⟩ = some (.int .i64 0) := hRw.cell 0
    have r1 : wr.cell? ⟨w.heap.size + 1, 1, none⟩ = some (.int .i64 0) := hRw.cell 1
    have r2 : wr.cell? ⟨w.heap.size + 1, 2, none⟩ = some (.slice none 0 0) := hRw.cell 2
    have r3 : wr.cell? ⟨w.heap.size + 1, 3, none⟩ = some (.int .i64 0) := hRw.cell 3
    have t0 := hRw.frozen 0
    have t1 := hRw.frozen 1
    have t2 := hRw.frozen 2
    have t3 := hRw.frozen 3
    have HXX := Lib.hid hx
    have HMM := Lib.hid hm
    have HOK := Lib.hid hok
    have HCH := Lib.hid hchg
    have HRW := Lib.hid hRw
    have hne : w.heap.size + 1 ≠ W.heap.size + 1 := by omega
    clear hm hRw hchg
    by_cases hs : m.status = 0
    ·have hst := hst2 hs
     by_cases hlt2 : k < n
     ·have e0 : (m.status == 0) = true := by rw [beq_dec]; exact decide_eq_true hs
      have e2 : decide (m.steps ≥ (n : Int)) = false := decide_eq_false (by omega)
      have e3 : decide ((n : Int) ≤ m.steps) = false := decide_eq_false (by omega)
      have w1 : IntKind.i64.wrap (m.steps + 1) = m.steps + 1 := by rw [IntKind.wrap_i64]; omega
      have z8 := hx.run.blk.frozen 8
      have hx2 := (hx.own (w' := wr.setCell ⟨W.heap.size + 1, 8, none⟩ (.int .i64 (m.steps + 1))) (grown_set1 wr ⟨W.heap.size + 1, 8, none⟩ _) (m' := { m with steps := m.steps + 1 }) (vin' := vin') ⟨hx.run.blk.set_ 8 _⟩ rfl rfl rfl (hx.rest.inp.imp (fun _ h => h) (fun b hb => Below.heap_setCell wr _ _ b (by have hb' : b < W.heap.size := hb; show b ≠ W.heap.size + 1; omega)) (fun _ _ _ r => r)))
      have hok2 : MOk u { m with steps := m.steps + 1 } := ⟨hok.calls, hok.linked, hok.deep, hok.ne, hok.names, hok.sizes, by have := hok.out; show (m.out.length : Int) ≤ m.steps + 1; omega⟩
      have HS := Lib.hid (step_at HU.out hx2.1.at' hok2 hs (by have := hok.out; show m.out.length ≤ 100000; omega))
      have HC2 := Lib.hid hx2.2
      have HSS := Lib.hid hs
      clear hx hok hx2 hok2 hs hst hst1 hst2 q6 q7 r0 r1 r2 r3 t0 t1 t2 t3
      go_wp2_with (go_at_call 37; refine HS.out.mono ?_; rintro e w5 ⟨rfl, hr5, hc5⟩)
      go_roundg (gk - 1)
      case measure => omega
      case rel =>
       refine ⟨k + 1, by omega, ?_, (HCH.out.trans HC2.out).trans hc5⟩
       have e6 : runU u inp (k + 1) = stepM u { m with steps := m.steps + 1 } := by
        have h0 := HSS.out
        rw [HMM.out] at h0 ⊢
        exact runM_snoc u k _ h0
       rw [e6]
       exact hr5
     ·have e0 : (m.status == 0) = true := by rw [beq_dec]; exact decide_eq_true hs
      have e2 : decide (m.steps ≥ (n : Int)) = true := decide_eq_true (by omega)
      have e3 : decide ((n : Int) ≤ m.steps) = true := decide_eq_true (by omega)
      obtain rfl : k = n := by omega
      have HEND := HMM
      clear hx hok hs hst hst1 hst2
      go_wp2_with fail
      rw [Exit.noGoto_ret]
      have y0 := (HRW.out.set_ 0 (.int .i64 m.status)).cell 0
      have y1 := ((HRW.out.set_ 0 (.int .i64 m.status)).set_ 1 (.int .i64 m.code)).cell 1
      have y2 := (((HRW.out.set_ 0 (.int .i64 m.status)).set_ 1 (.int .i64 m.code)).set_ 2 (.slice Ao m.out.length co)).cell 2
      have y3 := ((((HRW.out.set_ 0 (.int .i64 m.status)).set_ 1 (.int .i64 m.code)).set_ 2 (.slice Ao m.out.length co)).set_ 3 (.int .i64 m.steps)).cell 3
      refine bodyPost_ret (v := .agg #[.int .i64 m.status, .int .i64 m.code, .slice Ao m.out.length co, .int .i64 m.steps]) (by simp at y0 y1 y2 y3; simp [results, Tryz.results18, go_sem, y0, y1, y2, y3]) rfl ?_
      rw [← HEND.out]
      have hB9 : Below W.heap.size W wr := ⟨HCH.out.os, HCH.out.tape, HCH.out.output, HCH.out.size, fun b hb => HCH.out.block b hb (by omega)⟩
      have hB10 := (((HB.out.trans (hB9.mono hbs)).setCell (p := ⟨w.heap.size + 1, 0, none⟩) (Nat.le_succ _) (.int .i64 m.status)).setCell (p := ⟨w.heap.size + 1, 1, none⟩) (Nat.le_succ _) (.int .i64 m.code)).setCell (p := ⟨w.heap.size + 1, 2, none⟩) (Nat.le_succ _) (.slice Ao m.out.length co)
      refine ⟨_, rfl, hB10.setCell (p := ⟨w.heap.size + 1, 3, none⟩) (Nat.le_succ _) _, ?_⟩
      have hfar : ∀ g, (Value.slice Ao m.out.length co).ownBlock = some g → g ≠ w.heap.size + 1 := fun g e => by have := (HXX.out.rest.out.lt g e).1; omega
      refine own_base (Nat.le_trans (by omega) hbs) (own_keep HXX.out.rest.out (fun g e => ?_))
      rw [Below.heap_setCell _ _ _ g (hfar g e), Below.heap_setCell _ _ _ g (hfar g e), Below.heap_setCell _ _ _ g (hfar g e), Below.heap_setCell _ _ _ g (hfar g e)]
    ·have e0 : (m.status == 0) = false := by rw [beq_dec]; exact decide_eq_false hs
     have hend : m = runU u inp n := by
      have h0 := hs
      rw [HMM.out] at h0 ⊢
      unfold runU at h0 ⊢
      rw [← hkn, runM_add, runM_end h0]
     have HEND := Lib.hid hend
     clear hx hok hs hst1 hst2 hend
     go_wp2_with fail
     rw [Exit.noGoto_ret]
     have y0 := (HRW.out.set_ 0 (.int .i64 m.status)).cell 0
     have y1 := ((HRW.out.set_ 0 (.int .i64 m.status)).set_ 1 (.int .i64 m.code)).cell 1
     have y2 := (((HRW.out.set_ 0 (.int .i64 m.status)).set_ 1 (.int .i64 m.code)).set_ 2 (.slice Ao m.out.length co)).cell 2
     have y3 := ((((HRW.out.set_ 0 (.int .i64 m.status)).set_ 1 (.int .i64 m.code)).set_ 2 (.slice Ao m.out.length co)).set_ 3 (.int .i64 m.steps)).cell 3
     refine bodyPost_ret (v := .agg #[.int .i64 m.status, .int .i64 m.code, .slice Ao m.out.length co, .int .i64 m.steps]) (by simp at y0 y1 y2 y3; simp [results, Tryz.results18, go_sem, y0, y1, y2, y3]) rfl ?_
     rw [← HEND.out]
     have hB9 : Below W.heap.size W wr := ⟨HCH.out.os, HCH.out.tape, HCH.out.output, HCH.out.size, fun b hb => HCH.out.block b hb (by omega)⟩
     have hB10 := (((HB.out.trans (hB9.mono hbs)).setCell (p := ⟨w.heap.size + 1, 0, none⟩) (Nat.le_succ _) (.int .i64 m.status)).setCell (p := ⟨w.heap.size + 1, 1, none⟩) (Nat.le_succ _) (.int .i64 m.code)).setCell (p := ⟨w.heap.size + 1, 2, none⟩) (Nat.le_succ _) (.slice Ao m.out.length co)
     refine ⟨_, rfl, hB10.setCell (p := ⟨w.heap.size + 1, 3, none⟩) (Nat.le_succ _) _, ?_⟩
     have hfar : ∀ g, (Value.slice Ao m.out.length co).ownBlock = some g → g ≠ w.heap.size + 1 := fun g e => by have := (HXX.out.rest.out.lt g e).1; omega
     refine own_base (Nat.le_trans (by omega) hbs) (own_keep HXX.out.rest.out (fun g e => ?_))
     rw [Below.heap_setCell _ _ _ g (hfar g e), Below.heap_setCell _ _ _ g (hfar g e), Below.heap_setCell _ _ _ g (hfar g e), Below.heap_setCell _ _ _ g (hfar g e)]
end
end Go.Proofs.YtkpigkopjfkepaaGreatDoor
