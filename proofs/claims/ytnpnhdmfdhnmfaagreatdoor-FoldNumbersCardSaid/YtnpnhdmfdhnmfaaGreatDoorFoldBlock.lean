/- What (fold.facts).learn and (fold.facts).term do. Printed by wip/gen_foldlearn.py. What fold.block makes of a block. Printed by wip/gen_foldblock.py. -/
import Derived.Test.YtnpnhdmfdhnmfaaGreatDoorFoldKnown
import Derived.Test.YtnpnhdmfdhnmfaaGreatDoorFoldIns
import Derived.Carry
namespace Go.Proofs.YtnpnhdmfdhnmfaaGreatDoor
open Go.RowKit Go.Maps

section
set_option maxRecDepth 100000
set_option maxHeartbeats 4000000
theorem learn_no {b : Nat} {E : Env} (kind d a bb op n : Int) (nm : ByteArray) (A : Option Addr) (l c : Nat) (w : World) (hM : MFacts w b E)
    (HS : Hid (∀ X, Below w.heap.size w X → Calls Tryz.prog 18 #[.agg #[.int .i64 kind, .int .i64 d, .int .i64 a, .int .i64 bb, .int .i64 op, .int .i64 n, .string nm, .slice A l c]] X fun e w' => e = .returned (.int .i64 (-1)) ∧ Below X.heap.size X w')) :
    Calls Tryz.prog 70 #[.map (some b), .agg #[.int .i64 kind, .int .i64 d, .int .i64 a, .int .i64 bb, .int .i64 op, .int .i64 n, .string nm, .slice A l c]] w fun e w' => e = .returned (.tuple #[]) ∧ MFacts w' b (E) ∧ w.grownBy w' (some b) := by
  have hbl := hM.lt
  go_enter Tryz.func70, Tryz.ntmps70
  go_wp2_with (first | (go_at_call 18; refine (HS.out _ (below1 _ _)).mono ?_; rintro e w4 ⟨rfl, hb4⟩; have hx4 : Blk w4 w.heap.size 36 #[.int .i64 kind, .int .i64 d, .int .i64 a, .int .i64 bb, .int .i64 op, .int .i64 n, .string nm, .slice A l c] := Blk.below (Blk.new w _ _) hb4 (by simp); have m0 : w4.cell? ⟨w.heap.size, 0, none⟩ = some (.int .i64 kind) := hx4.cell 0; have m2 : w4.cell? ⟨w.heap.size, 2, none⟩ = some (.int .i64 a) := hx4.cell 2))
  refine bodyPost_ret (results_none rfl _ _ _) rfl ⟨rfl, ?_, ?_⟩
  · exact hM.below ((below1 w _).trans (hb4.mono (by simp))) hbl
  · exact (World.grownBy_alloc w _ (some b)).trans (grown_below' hb4)
theorem learn_same {b : Nat} {E : Env} (kind d a bb op n : Int) (nm : ByteArray) (A : Option Addr) (l c : Nat) (w : World) (hM : MFacts w b E) (hd : 0 ≤ d) (h2 : kind = 2) (had : a = d)
    (HS : Hid (∀ X, Below w.heap.size w X → Calls Tryz.prog 18 #[.agg #[.int .i64 kind, .int .i64 d, .int .i64 a, .int .i64 bb, .int .i64 op, .int .i64 n, .string nm, .slice A l c]] X fun e w' => e = .returned (.int .i64 (d)) ∧ Below X.heap.size X w')) :
    Calls Tryz.prog 70 #[.map (some b), .agg #[.int .i64 kind, .int .i64 d, .int .i64 a, .int .i64 bb, .int .i64 op, .int .i64 n, .string nm, .slice A l c]] w fun e w' => e = .returned (.tuple #[]) ∧ MFacts w' b (E) ∧ w.grownBy w' (some b) := by
  have hbl := hM.lt
  have d0 : decide (d < 0) = false := decide_eq_false (by omega)
  subst h2 had
  go_enter Tryz.func70, Tryz.ntmps70
  go_wp2_with (first | (go_at_call 18; refine (HS.out _ (below1 _ _)).mono ?_; rintro e w4 ⟨rfl, hb4⟩; have hx4 : Blk w4 w.heap.size 36 #[.int .i64 2, .int .i64 a, .int .i64 a, .int .i64 bb, .int .i64 op, .int .i64 n, .string nm, .slice A l c] := Blk.below (Blk.new w _ _) hb4 (by simp); have m0 : w4.cell? ⟨w.heap.size, 0, none⟩ = some (.int .i64 2) := hx4.cell 0; have m2 : w4.cell? ⟨w.heap.size, 2, none⟩ = some (.int .i64 a) := hx4.cell 2))
  refine bodyPost_ret (results_none rfl _ _ _) rfl ⟨rfl, ?_, ?_⟩
  · exact hM.below ((below1 w _).trans (hb4.mono (by simp))) hbl
  · exact (World.grownBy_alloc w _ (some b)).trans (grown_below' hb4)
theorem learn_num {b : Nat} {E : Env} (kind d a bb op n : Int) (nm : ByteArray) (A : Option Addr) (l c : Nat) (w : World) (hM : MFacts w b E) (hd : 0 ≤ d) (hd2 : d < 50000) (h1 : kind = 1)
    (HS : Hid (∀ X, Below w.heap.size w X → Calls Tryz.prog 18 #[.agg #[.int .i64 kind, .int .i64 d, .int .i64 a, .int .i64 bb, .int .i64 op, .int .i64 n, .string nm, .slice A l c]] X fun e w' => e = .returned (.int .i64 d) ∧ Below X.heap.size X w')) (HF : Hid (∀ X, MFacts X b E → Calls Tryz.prog 94 #[.map (some b), .int .i64 d] X fun e w' => e = .returned (.tuple #[]) ∧ MFacts w' b (forgetE E d) ∧ X.grownBy w' (some b))) :
    Calls Tryz.prog 70 #[.map (some b), .agg #[.int .i64 kind, .int .i64 d, .int .i64 a, .int .i64 bb, .int .i64 op, .int .i64 n, .string nm, .slice A l c]] w fun e w' => e = .returned (.tuple #[]) ∧ MFacts w' b (putE (forgetE E d) d (.num n)) ∧ w.grownBy w' (some b) := by
  have hbl := hM.lt
  have d0 : decide (d < 0) = false := decide_eq_false (by omega)
  subst h1
  have HMF := Lib.hid (fun (X : World) (hb : Below w.heap.size w X) => hM.below hb hbl)
  clear hM
  go_enter Tryz.func70, Tryz.ntmps70
  go_upto_region 4 with (first | (go_at_call 18; refine (HS.out _ (below1 _ _)).mono ?_; rintro e w4 ⟨rfl, hb4⟩; have hx4 : Blk w4 w.heap.size 36 #[.int .i64 1, .int .i64 d, .int .i64 a, .int .i64 bb, .int .i64 op, .int .i64 n, .string nm, .slice A l c] := Blk.below (Blk.new w _ _) hb4 (by simp); have m0 : w4.cell? ⟨w.heap.size, 0, none⟩ = some (.int .i64 1) := hx4.cell 0; have m2 : w4.cell? ⟨w.heap.size, 2, none⟩ = some (.int .i64 a) := hx4.cell 2) | (go_at_call 94; refine (HF.out _ (HMF.out w4 ((below1 w _).trans (hb4.mono (by simp))))).mono ?_; rintro e w5 ⟨rfl, hm5, hg5⟩))
  have hx5 := hx4.grown hg5 (by intro e; injection e with e; omega)
  have hgw : w.grownBy w5 (some b) := ((World.grownBy_alloc w _ (some b)).trans (grown_below' hb4)).trans hg5
  have k0 : w5.cell? ⟨w.heap.size, 0, none⟩ = some (.int .i64 1) := hx5.cell 0
  have k2 : w5.cell? ⟨w.heap.size, 2, none⟩ = some (.int .i64 a) := hx5.cell 2
  have k5 : w5.cell? ⟨w.heap.size, 5, none⟩ = some (.int .i64 n) := hx5.cell 5
  obtain ⟨nn, D, ho5, hn5, ha5, hh5, hp5⟩ := hm5
  have HA := Lib.hid ha5
  have HH := Lib.hid hh5
  have HP := Lib.hid hp5
  have HGW := Lib.hid hgw
  have hdp : inPlace d = true := by unfold inPlace; exact decide_eq_true ⟨hd, hd2⟩
  have hkey := key_i64 (k := d) (by omega)
  have HDP := Lib.hid hdp
  clear hx4 hx5 hg5 hb4 m0 m2 ha5 hh5 hp5 hgw hdp
  go_wp2_with (at_mapUpdate; (refine wpList_mapUpdate_own _ rfl _ _ _ 120 rfl 3 152 keyF Tryz.underlying120 factElem b nn D rfl ho5 (by unfold maxLen; omega) _ _ _ rfl rfl hkey (factD (some (.num n))) [] rfl ?_); intro w6 hown6 hgrow6)
  first
    | exact bodyPost_end (results_none rfl _ _ _) rfl ⟨rfl, MFacts.put ho5 HA.out HH.out HP.out HDP.out hown6, HGW.out.trans hgrow6⟩
    | exact bodyPost_ret (results_none rfl _ _ _) rfl ⟨rfl, MFacts.put ho5 HA.out HH.out HP.out HDP.out hown6, HGW.out.trans hgrow6⟩
theorem learn_move {b : Nat} {E : Env} (kind d a bb op n : Int) (nm : ByteArray) (A : Option Addr) (l c : Nat) (w : World) (hM : MFacts w b E) (hd : 0 ≤ d) (hd2 : d < 50000) (h2 : kind = 2) (had : a ≠ d)
    (HS : Hid (∀ X, Below w.heap.size w X → Calls Tryz.prog 18 #[.agg #[.int .i64 kind, .int .i64 d, .int .i64 a, .int .i64 bb, .int .i64 op, .int .i64 n, .string nm, .slice A l c]] X fun e w' => e = .returned (.int .i64 d) ∧ Below X.heap.size X w')) (HF : Hid (∀ X, MFacts X b E → Calls Tryz.prog 94 #[.map (some b), .int .i64 d] X fun e w' => e = .returned (.tuple #[]) ∧ MFacts w' b (forgetE E d) ∧ X.grownBy w' (some b))) :
    Calls Tryz.prog 70 #[.map (some b), .agg #[.int .i64 kind, .int .i64 d, .int .i64 a, .int .i64 bb, .int .i64 op, .int .i64 n, .string nm, .slice A l c]] w fun e w' => e = .returned (.tuple #[]) ∧ MFacts w' b (putE (forgetE E d) d (.val a)) ∧ w.grownBy w' (some b) := by
  have hbl := hM.lt
  have d0 : decide (d < 0) = false := decide_eq_false (by omega)
  subst h2
  have a1 : (a == d) = false := by simpa using had
  have HMF := Lib.hid (fun (X : World) (hb : Below w.heap.size w X) => hM.below hb hbl)
  clear hM
  go_enter Tryz.func70, Tryz.ntmps70
  go_upto_region 4 with (first | (go_at_call 18; refine (HS.out _ (below1 _ _)).mono ?_; rintro e w4 ⟨rfl, hb4⟩; have hx4 : Blk w4 w.heap.size 36 #[.int .i64 2, .int .i64 d, .int .i64 a, .int .i64 bb, .int .i64 op, .int .i64 n, .string nm, .slice A l c] := Blk.below (Blk.new w _ _) hb4 (by simp); have m0 : w4.cell? ⟨w.heap.size, 0, none⟩ = some (.int .i64 2) := hx4.cell 0; have m2 : w4.cell? ⟨w.heap.size, 2, none⟩ = some (.int .i64 a) := hx4.cell 2) | (go_at_call 94; refine (HF.out _ (HMF.out w4 ((below1 w _).trans (hb4.mono (by simp))))).mono ?_; rintro e w5 ⟨rfl, hm5, hg5⟩))
  have hx5 := hx4.grown hg5 (by intro e; injection e with e; omega)
  have hgw : w.grownBy w5 (some b) := ((World.grownBy_alloc w _ (some b)).trans (grown_below' hb4)).trans hg5
  have k0 : w5.cell? ⟨w.heap.size, 0, none⟩ = some (.int .i64 2) := hx5.cell 0
  have k2 : w5.cell? ⟨w.heap.size, 2, none⟩ = some (.int .i64 a) := hx5.cell 2
  have k5 : w5.cell? ⟨w.heap.size, 5, none⟩ = some (.int .i64 n) := hx5.cell 5
  obtain ⟨nn, D, ho5, hn5, ha5, hh5, hp5⟩ := hm5
  have HA := Lib.hid ha5
  have HH := Lib.hid hh5
  have HP := Lib.hid hp5
  have HGW := Lib.hid hgw
  have hdp : inPlace d = true := by unfold inPlace; exact decide_eq_true ⟨hd, hd2⟩
  have hkey := key_i64 (k := d) (by omega)
  have HDP := Lib.hid hdp
  clear hx4 hx5 hg5 hb4 m0 m2 ha5 hh5 hp5 hgw hdp
  go_wp2_with (at_mapUpdate; (refine wpList_mapUpdate_own _ rfl _ _ _ 120 rfl 3 152 keyF Tryz.underlying120 factElem b nn D rfl ho5 (by unfold maxLen; omega) _ _ _ rfl rfl hkey (factD (some (.val a))) [] rfl ?_); intro w6 hown6 hgrow6)
  first
    | exact bodyPost_end (results_none rfl _ _ _) rfl ⟨rfl, MFacts.put ho5 HA.out HH.out HP.out HDP.out hown6, HGW.out.trans hgrow6⟩
    | exact bodyPost_ret (results_none rfl _ _ _) rfl ⟨rfl, MFacts.put ho5 HA.out HH.out HP.out HDP.out hown6, HGW.out.trans hgrow6⟩
theorem learn_else {b : Nat} {E : Env} (kind d a bb op n : Int) (nm : ByteArray) (A : Option Addr) (l c : Nat) (w : World) (hM : MFacts w b E) (hd : 0 ≤ d) (hd2 : d < 50000) (h1 : kind ≠ 1) (h2 : kind ≠ 2)
    (HS : Hid (∀ X, Below w.heap.size w X → Calls Tryz.prog 18 #[.agg #[.int .i64 kind, .int .i64 d, .int .i64 a, .int .i64 bb, .int .i64 op, .int .i64 n, .string nm, .slice A l c]] X fun e w' => e = .returned (.int .i64 d) ∧ Below X.heap.size X w')) (HF : Hid (∀ X, MFacts X b E → Calls Tryz.prog 94 #[.map (some b), .int .i64 d] X fun e w' => e = .returned (.tuple #[]) ∧ MFacts w' b (forgetE E d) ∧ X.grownBy w' (some b))) :
    Calls Tryz.prog 70 #[.map (some b), .agg #[.int .i64 kind, .int .i64 d, .int .i64 a, .int .i64 bb, .int .i64 op, .int .i64 n, .string nm, .slice A l c]] w fun e w' => e = .returned (.tuple #[]) ∧ MFacts w' b (forgetE E d) ∧ w.grownBy w' (some b) := by
  have hbl := hM.lt
  have d0 : decide (d < 0) = false := decide_eq_false (by omega)
  have e1 : (kind == 1) = false := by simpa using h1
  have e2 : (kind == 2) = false := by simpa using h2
  have HMF := Lib.hid (fun (X : World) (hb : Below w.heap.size w X) => hM.below hb hbl)
  clear hM
  go_enter Tryz.func70, Tryz.ntmps70
  go_upto_region 4 with (first | (go_at_call 18; refine (HS.out _ (below1 _ _)).mono ?_; rintro e w4 ⟨rfl, hb4⟩; have hx4 : Blk w4 w.heap.size 36 #[.int .i64 kind, .int .i64 d, .int .i64 a, .int .i64 bb, .int .i64 op, .int .i64 n, .string nm, .slice A l c] := Blk.below (Blk.new w _ _) hb4 (by simp); have m0 : w4.cell? ⟨w.heap.size, 0, none⟩ = some (.int .i64 kind) := hx4.cell 0; have m2 : w4.cell? ⟨w.heap.size, 2, none⟩ = some (.int .i64 a) := hx4.cell 2) | (go_at_call 94; refine (HF.out _ (HMF.out w4 ((below1 w _).trans (hb4.mono (by simp))))).mono ?_; rintro e w5 ⟨rfl, hm5, hg5⟩))
  have hx5 := hx4.grown hg5 (by intro e; injection e with e; omega)
  have hgw : w.grownBy w5 (some b) := ((World.grownBy_alloc w _ (some b)).trans (grown_below' hb4)).trans hg5
  have k0 : w5.cell? ⟨w.heap.size, 0, none⟩ = some (.int .i64 kind) := hx5.cell 0
  have k2 : w5.cell? ⟨w.heap.size, 2, none⟩ = some (.int .i64 a) := hx5.cell 2
  have k5 : w5.cell? ⟨w.heap.size, 5, none⟩ = some (.int .i64 n) := hx5.cell 5
  clear hx4 hx5 hg5 hb4 m0 m2
  go_wp2
  first
    | exact bodyPost_end (results_none rfl _ _ _) rfl ⟨rfl, hm5, hgw⟩
    | exact bodyPost_ret (results_none rfl _ _ _) rfl ⟨rfl, hm5, hgw⟩

theorem learn_any {b : Nat} {E : Env} (x : LIns) (hk : 1 ≤ x.kind ∧ x.kind ≤ 9) (hd : hasD x.kind = true → 0 ≤ x.d ∧ x.d < 50000) (A : Option Addr) (l c : Nat) (w : World) (hM : MFacts w b E) :
    Calls Tryz.prog 70 #[.map (some b), .agg #[.int .i64 x.kind, .int .i64 x.d, .int .i64 x.a, .int .i64 x.b, .int .i64 x.op, .int .i64 x.n, .string x.name, .slice A l c]] w fun e w' => e = .returned (.tuple #[]) ∧ MFacts w' b (learnE E x) ∧ w.grownBy w' (some b) := by
  have HS := Lib.hid (fun (X : World) (_ : Below w.heap.size w X) => sets_ir x (.slice A l c) ⟨_, _, _, rfl⟩ X hk)
  unfold learnE setsE
  obtain ⟨kind, d, a, bb, op, n, nm, args⟩ := x
  replace hd : hasD kind = true → 0 ≤ d ∧ d < 50000 := hd
  by_cases hh : hasD kind = true
  · obtain ⟨d0, d1⟩ := hd hh
    have e : (if hasD kind = true then d else -1) = d := if_pos hh
    replace HS : Hid (∀ X, Below w.heap.size w X → Calls Tryz.prog 18 #[.agg #[.int .i64 kind, .int .i64 d, .int .i64 a, .int .i64 bb, .int .i64 op, .int .i64 n, .string nm, .slice A l c]] X fun e w' => e = .returned (.int .i64 (if hasD kind = true then d else -1)) ∧ Below X.heap.size X w') := HS
    show Calls Tryz.prog 70 #[.map (some b), .agg #[.int .i64 kind, .int .i64 d, .int .i64 a, .int .i64 bb, .int .i64 op, .int .i64 n, .string nm, .slice A l c]] w fun e w' => e = .returned (.tuple #[]) ∧ MFacts w' b (if (if hasD kind = true then d else -1) < 0 ∨ (kind = 2 ∧ a = (if hasD kind = true then d else -1)) then E else if kind = 1 then putE (forgetE E (if hasD kind = true then d else -1)) (if hasD kind = true then d else -1) (.num n) else if kind = 2 then putE (forgetE E (if hasD kind = true then d else -1)) (if hasD kind = true then d else -1) (.val a) else forgetE E (if hasD kind = true then d else -1)) ∧ w.grownBy w' (some b)
    rw [e] at HS ⊢
    have HF := Lib.hid (fun (X : World) (h : MFacts X b E) => forget_any (d := d) (by omega) X h)
    by_cases h2 : kind = 2 ∧ a = d
    · rw [if_pos (.inr h2)]
      exact learn_same kind d a bb op n nm A l c w hM d0 h2.1 h2.2 HS
    · rw [if_neg (by omega)]
      by_cases h1 : kind = 1
      · rw [if_pos h1]; exact learn_num kind d a bb op n nm A l c w hM d0 d1 h1 HS HF
      · rw [if_neg h1]
        by_cases h3 : kind = 2
        · rw [if_pos h3]; exact learn_move kind d a bb op n nm A l c w hM d0 d1 h3 (fun e => h2 ⟨h3, e⟩) HS HF
        · rw [if_neg h3]; exact learn_else kind d a bb op n nm A l c w hM d0 d1 h1 h3 HS HF
  · have e : (if hasD kind = true then d else -1) = -1 := if_neg hh
    replace HS : Hid (∀ X, Below w.heap.size w X → Calls Tryz.prog 18 #[.agg #[.int .i64 kind, .int .i64 d, .int .i64 a, .int .i64 bb, .int .i64 op, .int .i64 n, .string nm, .slice A l c]] X fun e w' => e = .returned (.int .i64 (if hasD kind = true then d else -1)) ∧ Below X.heap.size X w') := HS
    show Calls Tryz.prog 70 #[.map (some b), .agg #[.int .i64 kind, .int .i64 d, .int .i64 a, .int .i64 bb, .int .i64 op, .int .i64 n, .string nm, .slice A l c]] w fun e w' => e = .returned (.tuple #[]) ∧ MFacts w' b (if (if hasD kind = true then d else -1) < 0 ∨ (kind = 2 ∧ a = (if hasD kind = true then d else -1)) then E else if kind = 1 then putE (forgetE E (if hasD kind = true then d else -1)) (if hasD kind = true then d else -1) (.num n) else if kind = 2 then putE (forgetE E (if hasD kind = true then d else -1)) (if hasD kind = true then d else -1) (.val a) else forgetE E (if hasD kind = true then d else -1)) ∧ w.grownBy w' (some b)
    rw [e] at HS ⊢
    rw [if_pos (.inl (by omega))]
    exact learn_no kind d a bb op n nm A l c w hM HS
theorem tmE_jump {b : Nat} (a to_ els : Int) (w : World) :
    Calls Tryz.prog 71 #[.map (some b), .agg #[.int .i64 1, .int .i64 a, .int .i64 to_, .int .i64 els]] w fun e w' => e = .returned (.agg #[.int .i64 1, .int .i64 a, .int .i64 to_, .int .i64 els]) ∧ Below w.heap.size w w' := by
  go_enter Tryz.func71, Tryz.ntmps71
  go_wp2_with fail
  have hfin : Blk ((w.alloc (.cells #[.int .i64 1, .int .i64 a, .int .i64 to_, .int .i64 els] 41)).alloc (.cells #[.int .i64 1, .int .i64 a, .int .i64 to_, .int .i64 els] 41)) (w.heap.size + 1) 41 #[.int .i64 1, .int .i64 a, .int .i64 to_, .int .i64 els] := Blk.new_at _ _ _ (by simp)
  exact bodyPost_ret (v := .agg #[.int .i64 1, .int .i64 a, .int .i64 to_, .int .i64 els]) (results_cell_row (p := 4) (ty := 41) (by kernel_rfl) _ _ (w.heap.size + 1) 41 _ (0, 0) _ rfl hfin Tryz.underlying41 rfl (by kernel_rfl)) rfl ⟨rfl, below2 w _ _⟩
theorem tmE_no {b : Nat} (kind a to_ els : Int) (w : World) (na nn : Int) (HV : Hid (∀ X, Below w.heap.size w X → Calls Tryz.prog 92 #[.map (some b), .int .i64 a] X fun e w' => e = .returned (.int .i64 na) ∧ w' = X)) (HN : Hid (∀ X, Below w.heap.size w X → Calls Tryz.prog 95 #[.map (some b), .int .i64 na] X fun e w' => e = .returned (.tuple #[.int .i64 nn, .bool false]) ∧ w' = X)) (h1 : kind ≠ 1) :
    Calls Tryz.prog 71 #[.map (some b), .agg #[.int .i64 kind, .int .i64 a, .int .i64 to_, .int .i64 els]] w fun e w' => e = .returned (.agg #[.int .i64 kind, .int .i64 na, .int .i64 to_, .int .i64 els]) ∧ Below w.heap.size w w' := by
  have e1 : (kind == 1) = false := by simpa using h1
  go_enter Tryz.func71, Tryz.ntmps71
  go_wp2_with (first | (go_at_call 92; refine (HV.out _ (below2 _ _ _)).mono ?_; rintro e w' ⟨rfl, rfl⟩) | (go_at_call 95; refine (HN.out _ (below2 _ _ _)).mono ?_; rintro e w' ⟨rfl, rfl⟩))
  have hfin : Blk ((w.alloc (.cells #[.int .i64 kind, .int .i64 na, .int .i64 to_, .int .i64 els] 41)).alloc (.cells #[.int .i64 kind, .int .i64 na, .int .i64 to_, .int .i64 els] 41)) (w.heap.size + 1) 41 #[.int .i64 kind, .int .i64 na, .int .i64 to_, .int .i64 els] := Blk.new_at _ _ _ (by simp)
  exact bodyPost_ret (v := .agg #[.int .i64 kind, .int .i64 na, .int .i64 to_, .int .i64 els]) (results_cell_row (p := 4) (ty := 41) (by kernel_rfl) _ _ (w.heap.size + 1) 41 _ (0, 0) _ rfl hfin Tryz.underlying41 rfl (by kernel_rfl)) rfl ⟨rfl, below2 w _ _⟩
theorem tmE_other {b : Nat} (kind a to_ els : Int) (w : World) (na nn : Int) (HV : Hid (∀ X, Below w.heap.size w X → Calls Tryz.prog 92 #[.map (some b), .int .i64 a] X fun e w' => e = .returned (.int .i64 na) ∧ w' = X)) (HN : Hid (∀ X, Below w.heap.size w X → Calls Tryz.prog 95 #[.map (some b), .int .i64 na] X fun e w' => e = .returned (.tuple #[.int .i64 nn, .bool true]) ∧ w' = X)) (h1 : kind ≠ 1) (h2 : kind ≠ 2) :
    Calls Tryz.prog 71 #[.map (some b), .agg #[.int .i64 kind, .int .i64 a, .int .i64 to_, .int .i64 els]] w fun e w' => e = .returned (.agg #[.int .i64 kind, .int .i64 na, .int .i64 to_, .int .i64 els]) ∧ Below w.heap.size w w' := by
  have e1 : (kind == 1) = false := by simpa using h1
  have e2 : (kind != 2) = true := by simpa using h2
  go_enter Tryz.func71, Tryz.ntmps71
  go_wp2_with (first | (go_at_call 92; refine (HV.out _ (below2 _ _ _)).mono ?_; rintro e w' ⟨rfl, rfl⟩) | (go_at_call 95; refine (HN.out _ (below2 _ _ _)).mono ?_; rintro e w' ⟨rfl, rfl⟩))
  have hfin : Blk ((w.alloc (.cells #[.int .i64 kind, .int .i64 na, .int .i64 to_, .int .i64 els] 41)).alloc (.cells #[.int .i64 kind, .int .i64 na, .int .i64 to_, .int .i64 els] 41)) (w.heap.size + 1) 41 #[.int .i64 kind, .int .i64 na, .int .i64 to_, .int .i64 els] := Blk.new_at _ _ _ (by simp)
  exact bodyPost_ret (v := .agg #[.int .i64 kind, .int .i64 na, .int .i64 to_, .int .i64 els]) (results_cell_row (p := 4) (ty := 41) (by kernel_rfl) _ _ (w.heap.size + 1) 41 _ (0, 0) _ rfl hfin Tryz.underlying41 rfl (by kernel_rfl)) rfl ⟨rfl, below2 w _ _⟩
theorem tmE_zero {b : Nat} (a to_ els : Int) (w : World) (na nn : Int) (HV : Hid (∀ X, Below w.heap.size w X → Calls Tryz.prog 92 #[.map (some b), .int .i64 a] X fun e w' => e = .returned (.int .i64 na) ∧ w' = X)) (HN : Hid (∀ X, Below w.heap.size w X → Calls Tryz.prog 95 #[.map (some b), .int .i64 na] X fun e w' => e = .returned (.tuple #[.int .i64 nn, .bool true]) ∧ w' = X)) (hz : nn = 0) :
    Calls Tryz.prog 71 #[.map (some b), .agg #[.int .i64 2, .int .i64 a, .int .i64 to_, .int .i64 els]] w fun e w' => e = .returned (.agg #[.int .i64 1, .int .i64 0, .int .i64 els, .int .i64 0]) ∧ Below w.heap.size w w' := by
  subst hz
  go_enter Tryz.func71, Tryz.ntmps71
  go_wp2_with (first | (go_at_call 92; refine (HV.out _ (below2 _ _ _)).mono ?_; rintro e w' ⟨rfl, rfl⟩) | (go_at_call 95; refine (HN.out _ (below2 _ _ _)).mono ?_; rintro e w' ⟨rfl, rfl⟩))
  have hfin : Blk ((w.alloc (.cells #[.int .i64 2, .int .i64 na, .int .i64 to_, .int .i64 els] 41)).alloc (.cells #[.int .i64 1, .int .i64 0, .int .i64 els, .int .i64 0] 41)) (w.heap.size + 1) 41 #[.int .i64 1, .int .i64 0, .int .i64 els, .int .i64 0] := Blk.new_at _ _ _ (by simp)
  exact bodyPost_ret (v := .agg #[.int .i64 1, .int .i64 0, .int .i64 els, .int .i64 0]) (results_cell_row (p := 4) (ty := 41) (by kernel_rfl) _ _ (w.heap.size + 1) 41 _ (0, 0) _ rfl hfin Tryz.underlying41 rfl (by kernel_rfl)) rfl ⟨rfl, below2 w _ _⟩
theorem tmE_one {b : Nat} (a to_ els : Int) (w : World) (na nn : Int) (HV : Hid (∀ X, Below w.heap.size w X → Calls Tryz.prog 92 #[.map (some b), .int .i64 a] X fun e w' => e = .returned (.int .i64 na) ∧ w' = X)) (HN : Hid (∀ X, Below w.heap.size w X → Calls Tryz.prog 95 #[.map (some b), .int .i64 na] X fun e w' => e = .returned (.tuple #[.int .i64 nn, .bool true]) ∧ w' = X)) (hz : nn ≠ 0) :
    Calls Tryz.prog 71 #[.map (some b), .agg #[.int .i64 2, .int .i64 a, .int .i64 to_, .int .i64 els]] w fun e w' => e = .returned (.agg #[.int .i64 1, .int .i64 0, .int .i64 to_, .int .i64 0]) ∧ Below w.heap.size w w' := by
  have ez : (nn != 0) = true := by simpa using hz
  go_enter Tryz.func71, Tryz.ntmps71
  go_wp2_with (first | (go_at_call 92; refine (HV.out _ (below2 _ _ _)).mono ?_; rintro e w' ⟨rfl, rfl⟩) | (go_at_call 95; refine (HN.out _ (below2 _ _ _)).mono ?_; rintro e w' ⟨rfl, rfl⟩))
  have hfin : Blk ((w.alloc (.cells #[.int .i64 2, .int .i64 na, .int .i64 to_, .int .i64 els] 41)).alloc (.cells #[.int .i64 1, .int .i64 0, .int .i64 to_, .int .i64 0] 41)) (w.heap.size + 1) 41 #[.int .i64 1, .int .i64 0, .int .i64 to_, .int .i64 0] := Blk.new_at _ _ _ (by simp)
  exact bodyPost_ret (v := .agg #[.int .i64 1, .int .i64 0, .int .i64 to_, .int .i64 0]) (results_cell_row (p := 4) (ty := 41) (by kernel_rfl) _ _ (w.heap.size + 1) 41 _ (0, 0) _ rfl hfin Tryz.underlying41 rfl (by kernel_rfl)) rfl ⟨rfl, below2 w _ _⟩
theorem termE_any {b : Nat} {E : Env} (hE : ∀ k o, E k = some (.val o) → In64 o) (t : LTerm) (ha : In64 t.a) (w : World) (h : MFacts w b E) :
    Calls Tryz.prog 71 #[.map (some b), .agg #[.int .i64 t.kind, .int .i64 t.a, .int .i64 t.to, .int .i64 t.els]] w fun e w' => e = .returned (.agg #[.int .i64 (termE E t).kind, .int .i64 (termE E t).a, .int .i64 (termE E t).to, .int .i64 (termE E t).els]) ∧ Below w.heap.size w w' := by
  have hbl := h.lt
  have hva : In64 (valueE E t.a) := by
    unfold valueE
    cases e : E t.a with
    | none => exact ha
    | some f =>
      cases f with
      | num m => exact ha
      | val o => exact hE _ _ e
  have HV := Lib.hid (fun (X : World) (hb : Below w.heap.size w X) => value_any (k := t.a) ha X (h.below hb hbl))
  have HN := Lib.hid (fun (X : World) (hb : Below w.heap.size w X) => number_any (k := valueE E t.a) hva X (h.below hb hbl))
  unfold termE
  by_cases h1 : t.kind = 1
  · rw [if_pos h1, h1]; exact tmE_jump t.a t.to t.els w
  · rw [if_neg h1]
    generalize isNum (E (valueE E t.a)) = is at HN ⊢
    generalize numOf (E (valueE E t.a)) = nn at HN ⊢
    generalize valueE E t.a = na at HV HN ⊢
    cases is
    · rw [if_neg (by simp)]
      exact tmE_no t.kind t.a t.to t.els w na nn HV HN h1
    · by_cases h2 : t.kind = 2
      · rw [if_pos ⟨rfl, h2⟩, h2]
        by_cases hz : nn = 0
        · rw [if_pos hz]; exact tmE_zero t.a t.to t.els w na nn HV HN hz
        · rw [if_neg hz]; exact tmE_one t.a t.to t.els w na nn HV HN hz
      · rw [if_neg (fun e => h2 e.2)]
        exact tmE_other t.kind t.a t.to t.els w na nn HV HN h1 h2
end
end Go.Proofs.YtnpnhdmfdhnmfaaGreatDoor

namespace Go.Proofs.YtnpnhdmfdhnmfaaGreatDoor
open Go.RowKit
open Go.Deep

/-! ### plain -/
theorem envE_snoc (x : LIns) : ∀ (E : Env) (l : List LIns), envE E (l ++ [x]) = learnE (envE E l) (insE (envE E l) x)
  | _, [] => rfl
  | E, y :: r => envE_snoc x (learnE E (insE E y)) r
theorem insL_snoc (x : LIns) : ∀ (E : Env) (l : List LIns), insL E (l ++ [x]) = insL E l ++ [insE (envE E l) x]
  | _, [] => rfl
  | E, y :: r => by
    show insE E y :: insL _ (r ++ [x]) = _
    rw [insL_snoc x (learnE E (insE E y)) r]; rfl
theorem insL_len : ∀ (E : Env) (l : List LIns), (insL E l).length = l.length
  | _, [] => rfl
  | E, y :: r => by show (insL _ r).length + 1 = r.length + 1; rw [insL_len]
def Val64 (E : Env) : Prop := ∀ k o, E k = some (.val o) → In64 o
/-- an instruction that fold may meet -/
structure FoldI (x : LIns) : Prop where
  kind : 1 ≤ x.kind ∧ x.kind ≤ 9
  a : In64 x.a
  b : In64 x.b
  args : ∀ k ∈ x.args, In64 k
  len : x.args.length ≤ 1000
  d : hasD x.kind = true → 0 ≤ x.d ∧ x.d < 50000
structure FoldB (b : LBlock) : Prop where
  ins : ∀ x ∈ b.ins, FoldI x
  len : b.ins.length ≤ 1000
  a : In64 b.term.a
theorem valueE_64 {E : Env} (hE : Val64 E) {v : Int} (hv : In64 v) : In64 (valueE E v) := by
  unfold valueE
  cases e : E v with
  | none => exact hv
  | some f =>
    cases f with
    | num m => exact hv
    | val o => exact hE v o e
theorem insE_cases (E : Env) (x : LIns) : insE E x = ⟨1, x.d, 0, 0, 0, knownN E (subE E x), ⟨#[]⟩, []⟩ ∨ insE E x = subE E x := by
  unfold insE
  by_cases h : isKnown E (subE E x) = true
  · rw [if_pos h]; exact .inl rfl
  · rw [if_neg h]; exact .inr rfl
theorem insE_ok {E : Env} (hE : Val64 E) {x : LIns} (hx : FoldI x) : FoldI (insE E x) := by
  have hsub : FoldI (subE E x) := by
    rcases subE_cases E x with e | e | e | e
    · rw [e]; exact ⟨hx.kind, valueE_64 hE hx.a, hx.b, hx.args, hx.len, hx.d⟩
    · rw [e]; exact ⟨hx.kind, valueE_64 hE hx.a, valueE_64 hE hx.b, hx.args, hx.len, hx.d⟩
    · rw [e]
      refine ⟨hx.kind, hx.a, hx.b, fun k hk => ?_, by show (x.args.map _).length ≤ 1000; rw [List.length_map]; exact hx.len, hx.d⟩
      obtain ⟨v, hv, rfl⟩ := List.mem_map.1 hk
      exact valueE_64 hE (hx.args v hv)
    · rw [e]; exact hx
  rcases insE_cases E x with e | e
  · unfold insE at e ⊢
    by_cases h : isKnown E (subE E x) = true
    · rw [if_pos h]
      refine ⟨⟨by show (1 : Int) ≤ 1; decide, by show (1 : Int) ≤ 9; decide⟩, ⟨by show (-9223372036854775808 : Int) ≤ 0; decide, by show (0 : Int) ≤ 9223372036854775807; decide⟩, ⟨by show (-9223372036854775808 : Int) ≤ 0; decide, by show (0 : Int) ≤ 9223372036854775807; decide⟩, fun k hk => by simp at hk, by show 0 ≤ 1000; omega, fun _ => ?_⟩
      refine hx.d ?_
      have hk : x.kind = 2 ∨ x.kind = 3 ∨ x.kind = 4 := by
        have hkk : (subE E x).kind = x.kind := by rcases subE_cases E x with e | e | e | e <;> rw [e]
        unfold isKnown at h
        rw [hkk] at h
        by_cases h0 : isNum (E (subE E x).a) = true
        · rw [if_pos h0] at h
          by_cases h2 : x.kind = 2
          · exact .inl h2
          · rw [if_neg h2] at h
            by_cases h3 : x.kind = 3
            · exact .inr (.inl h3)
            · rw [if_neg h3] at h
              by_cases h4 : x.kind = 4
              · exact .inr (.inr h4)
              · rw [if_neg h4] at h; cases h
        · rw [if_neg h0] at h; cases h
      rcases hk with h | h | h <;> rw [h] <;> decide
    · rw [if_neg h]; exact hsub
  · rw [e]; exact hsub
theorem forget_64 {E : Env} (hE : Val64 E) (d : Int) : Val64 (forgetE E d) := fun k o h => by
  unfold forgetE at h
  by_cases h1 : k = d
  · rw [if_pos h1] at h; cases h
  · rw [if_neg h1] at h
    by_cases h2 : E k = some (.val d)
    · rw [if_pos h2] at h; cases h
    · rw [if_neg h2] at h; exact hE k o h
theorem learn_64 {E : Env} (hE : Val64 E) {x : LIns} (ha : In64 x.a) : Val64 (learnE E x) := by
  unfold learnE
  split
  · exact hE
  · split
    · intro k o h
      unfold putE at h
      split at h
      · cases h
      · exact forget_64 hE _ k o h
    · split
      · intro k o h
        unfold putE at h
        split at h
        · injection h with h; injection h with h; rw [← h]; exact ha
        · exact forget_64 hE _ k o h
      · exact forget_64 hE _
theorem envE_64 : ∀ {l : List LIns} {E : Env}, Val64 E → (∀ x ∈ l, FoldI x) → Val64 (envE E l)
  | [], _, h, _ => h
  | x :: r, E, h, hl => envE_64 (l := r) (learn_64 h (insE_ok h (hl x (by simp))).a) fun y hy => hl y (by simp [hy])
theorem E0_64 : Val64 E0 := fun _ _ h => by cases h
theorem insL_ok : ∀ {l : List LIns} {E : Env}, Val64 E → (∀ x ∈ l, FoldI x) → ∀ y ∈ insL E l, FoldI y
  | [], _, _, _, y, hy => by cases hy
  | x :: r, E, h, hl, y, hy => by
    have hx := insE_ok h (hl x (by simp))
    rcases List.mem_cons.1 hy with rfl | hy
    · exact hx
    · exact insL_ok (l := r) (learn_64 h hx.a) (fun z hz => hl z (by simp [hz])) y hy

theorem MFacts.setCell {w : World} {b : Nat} {E : Env} (h : MFacts w b E) {p : Addr} (hne : b ≠ p.block) (u : Value) : MFacts (w.setCell p u) b E := by
  obtain ⟨n, D, h1, h2⟩ := h
  exact ⟨n, D, h1.setCell hne u, h2⟩

/-! ### the walk -/
theorem mono_ins8 : MonoR RIns := fun _ _ _ _ _ _ h a b => RIns.imp h a b
/-- the world in the loop over the instructions -/
structure FB (x : LBlock) (vi : Value) (w : World) (j : Nat) (v : Value) (css : List (List Value)) (wr : World) : Prop where
  below : Below w.heap.size w wr
  raw : Blk wr w.heap.size 43 #[vi, .int .i64 x.term.kind, .int .i64 x.term.a, .int .i64 x.term.to, .int .i64 x.term.els]
  res : Blk wr (w.heap.size + 1) 43 #[v, .int .i64 0, .int .i64 0, .int .i64 0, .int .i64 0]
  facts : MFacts wr (w.heap.size + 1 + 1) (envE E0 (x.ins.take j))
  own : OwnL wr (w.heap.size + 3) 36 8 RIns v (insL E0 (x.ins.take j)) css
/-- what fold.block hands back -/
def FoldBPost (x : LBlock) (w : World) (e : Ending) (w' : World) : Prop :=
  ∃ v, e = .returned (.agg #[v, .int .i64 (blockE x).term.kind, .int .i64 (blockE x).term.a, .int .i64 (blockE x).term.to, .int .i64 (blockE x).term.els]) ∧ Below w.heap.size w w' ∧ SlR w' (fun b => w.heap.size ≤ b ∧ b < w'.heap.size) 8 (RIns w' (fun b => w.heap.size ≤ b ∧ b < w'.heap.size)) v (blockE x).ins

set_option maxRecDepth 100000 in
set_option maxHeartbeats 8000000 in
theorem foldblock_any (x : LBlock) (hx : FoldB x) (vi : Value) (w : World) (hv : SlR w (· < w.heap.size) 8 (RIns w (· < w.heap.size)) vi x.ins) :
    Calls Tryz.prog 48 #[.agg #[vi, .int .i64 x.term.kind, .int .i64 x.term.a, .int .i64 x.term.to, .int .i64 x.term.els]] w (FoldBPost x w) := by
  obtain ⟨A, c, hvi, hlc, hcm⟩ := hv.val
  have HV := Lib.hid hv
  have HX := Lib.hid hx
  clear hv hx
  subst hvi
  have hlen : x.ins.length ≤ 1000 := HX.out.len
  have hmm := @run_makeMap Tryz.prog
  go_enter Tryz.func48, Tryz.ntmps48
  go_wp2_with fail
  refine wp_world ?_
  intro W hW
  have hst : FB x (.slice A x.ins.length c) w 0 (.slice none 0 0) [] W := by
    rw [← hW]
    refine ⟨(below2 w _ _).alloc (by simp; omega) _, ((Blk.new w _ _).alloc _).alloc _, (Blk.new_at _ _ _ (by simp)).alloc _, ?_, OwnL.nil_ _ _ _ _ _⟩
    have h := MFacts.made ((w.alloc (.cells #[.slice A x.ins.length c, .int .i64 x.term.kind, .int .i64 x.term.a, .int .i64 x.term.to, .int .i64 x.term.els] 43)).alloc (.cells #[.slice none 0 0, .int .i64 0, .int .i64 0, .int .i64 0, .int .i64 0] 43))
    have e : ((w.alloc (.cells #[.slice A x.ins.length c, .int .i64 x.term.kind, .int .i64 x.term.a, .int .i64 x.term.to, .int .i64 x.term.els] 43)).alloc (.cells #[.slice none 0 0, .int .i64 0, .int .i64 0, .int .i64 0, .int .i64 0] 43)).heap.size = w.heap.size + 2 := by simp
    rw [e] at h
    exact h
  clear hW hmm
  go_loopw [10] (fun s wr => ∃ j : Nat, j ≤ x.ins.length ∧ s = .int .i64 j ∧ ∃ v css, FB x (.slice A x.ins.length c) w j v css wr) (fun s _ => x.ins.length - (intOf s).toNat)
  case atStart => exact ⟨0, by omega, rfl, _, _, hst⟩
  case round =>
    obtain ⟨j, hj, rfl, v, css, hl⟩ := hrel
    have hrl := hl.res.lt
    have hwr := hl.below.size
    by_cases hlt : j < x.ins.length
    · have d0 : decide ((j : Int) < (x.ins.length : Int)) = true := decide_eq_true (by omega)
      have hlti : (j : Int) < (x.ins.length : Int) := by omega
      obtain ⟨b, off, c', hform, _, _, hb, hel⟩ := HV.out.form (by omega)
      obtain ⟨cs, hcl, ⟨va, hcs, hsl⟩, hcell⟩ := hel j hlt
      subst hcs
      obtain ⟨rfl, rfl⟩ : A = some ⟨b, off, none⟩ ∧ c = c' := by injection hform with h1 _ h2; exact ⟨h1, h2⟩
      have hcw : Cells wr b (off + j * 8) (insCells x.ins[j] va) := hcell.keep (hl.below.block b hb)
      have i0 : wr.cell? ⟨b, off + j * 8, none⟩ = some (.int .i64 x.ins[j].kind) := hcw.at_ (j := 0) rfl
      have i1 : wr.cell? ⟨b, off + j * 8 + 1, none⟩ = some (.int .i64 x.ins[j].d) := hcw.at_ (j := 1) rfl
      have i2 : wr.cell? ⟨b, off + j * 8 + 2, none⟩ = some (.int .i64 x.ins[j].a) := hcw.at_ (j := 2) rfl
      have i3 : wr.cell? ⟨b, off + j * 8 + 3, none⟩ = some (.int .i64 x.ins[j].b) := hcw.at_ (j := 3) rfl
      have i4 : wr.cell? ⟨b, off + j * 8 + 4, none⟩ = some (.int .i64 x.ins[j].op) := hcw.at_ (j := 4) rfl
      have i5 : wr.cell? ⟨b, off + j * 8 + 5, none⟩ = some (.int .i64 x.ins[j].n) := hcw.at_ (j := 5) rfl
      have i6 : wr.cell? ⟨b, off + j * 8 + 6, none⟩ = some (.string x.ins[j].name) := hcw.at_ (j := 6) rfl
      have i7 : wr.cell? ⟨b, off + j * 8 + 7, none⟩ = some (va) := hcw.at_ (j := 7) rfl
      obtain ⟨A', c2, hva, _, _⟩ := hsl.val
      subst hva
      have hI : FoldI x.ins[j] := HX.out.ins _ (List.getElem_mem _)
      have hE : Val64 (envE E0 (x.ins.take j)) := envE_64 E0_64 fun y hy => HX.out.ins y (List.mem_of_mem_take hy)
      have hsn : x.ins.take (j + 1) = x.ins.take j ++ [x.ins[j]] := List.take_succ_eq_append_getElem hlt
      obtain ⟨vlen, hvl⟩ : ∃ A n c, v = .slice A n c := by
        obtain ⟨A, c, h⟩ := own_form hl.own.row
        exact ⟨A, _, c, h⟩
      obtain ⟨E, hEE⟩ : ∃ E, E = envE E0 (x.ins.take j) := ⟨_, rfl⟩
      obtain ⟨xi, hxi⟩ : ∃ xi, xi = x.ins[j] := ⟨_, rfl⟩
      have hsn1 : envE E0 (x.ins.take (j + 1)) = learnE E (insE E xi) := by rw [hsn, envE_snoc, ← hEE, ← hxi]
      have hsn2 : insL E0 (x.ins.take (j + 1)) = insL E0 (x.ins.take j) ++ [insE E xi] := by rw [hsn, insL_snoc, ← hEE, ← hxi]
      rw [← hEE] at hE
      rw [← hxi] at hI hsl i0 i1 i2 i3 i4 i5 i6 i7
      have HSN1 := Lib.hid hsn1
      have HSN2 := Lib.hid hsn2
      have HE := Lib.hid hE
      have HI := Lib.hid hI
      have HEE := Lib.hid hEE
      have HSL := Lib.hid hsl
      have HL := Lib.hid hl
      clear hsn1 hsn2 hsn hE hI hEE hsl hl hcw hcell hel hform hcl hxi
      go_upto_region 5 with fail
      refine wp_world ?_
      intro W1 hW1
      have hB1 : Below wr.heap.size wr W1 := by rw [← hW1]; exact below1 _ _
      have hX1 : Blk W1 wr.heap.size 36 #[.int .i64 xi.kind, .int .i64 xi.d, .int .i64 xi.a, .int .i64 xi.b, .int .i64 xi.op, .int .i64 xi.n, .string xi.name, .slice A' xi.args.length c2] := by rw [← hW1]; exact Blk.new wr _ _
      have hM1 : MFacts W1 (w.heap.size + 1 + 1) E := by
        have h := HL.out.facts
        rw [← HEE.out] at h
        exact h.below hB1 h.lt
      have hml := HL.out.facts.lt
      have hl1 := hX1.lt
      have hS1 : SlR W1 (· < W1.heap.size) 1 RInt (.slice A' xi.args.length c2) xi.args := HSL.out.imp (fun k hk => by have h1 := hB1.size; have hk' : k < w.heap.size := hk; omega) (fun k hk => ((Keeps.of_below (HL.out.below.trans (hB1.mono hwr))) k hk)) (fun _ _ _ r => r)
      obtain ⟨y, hy⟩ : ∃ y, y = insE E xi := ⟨_, rfl⟩
      have hyI : FoldI y := by rw [hy]; exact insE_ok HE.out HI.out
      have HIN : Hid (Calls Tryz.prog 69 #[.map (some (w.heap.size + 1 + 1)), .agg #[.int .i64 xi.kind, .int .i64 xi.d, .int .i64 xi.a, .int .i64 xi.b, .int .i64 xi.op, .int .i64 xi.n, .string xi.name, .slice A' xi.args.length c2]] W1 fun e w' => ∃ Ay cy, e = .returned (.agg #[.int .i64 y.kind, .int .i64 y.d, .int .i64 y.a, .int .i64 y.b, .int .i64 y.op, .int .i64 y.n, .string y.name, .slice Ay y.args.length cy]) ∧ Below W1.heap.size W1 w' ∧ SlR w' (fun k => W1.heap.size ≤ k ∧ k < w'.heap.size) 1 RInt (.slice Ay y.args.length cy) y.args) := Lib.hid ((ins_fold HE.out xi HI.out.kind HI.out.a HI.out.b HI.out.args HI.out.len _ W1 hM1 hS1).mono fun e w' ⟨va', he, h1, h2⟩ => by
        rw [← hy] at he h2
        obtain ⟨Ay, cy, hva, _, _⟩ := h2.val
        subst hva
        exact ⟨Ay, cy, he, h1, h2⟩)
      have HY := Lib.hid hy
      have HYI := Lib.hid hyI
      have HB1 := Lib.hid hB1
      have HX1 := Lib.hid hX1
      have hs1 : wr.heap.size < W1.heap.size := hl1
      have q0 : W1.cell? ⟨wr.heap.size, 0, none⟩ = some (.int .i64 xi.kind) := HX1.out.cell 0
      have q1 : W1.cell? ⟨wr.heap.size, 1, none⟩ = some (.int .i64 xi.d) := HX1.out.cell 1
      have q2 : W1.cell? ⟨wr.heap.size, 2, none⟩ = some (.int .i64 xi.a) := HX1.out.cell 2
      have q3 : W1.cell? ⟨wr.heap.size, 3, none⟩ = some (.int .i64 xi.b) := HX1.out.cell 3
      have q4 : W1.cell? ⟨wr.heap.size, 4, none⟩ = some (.int .i64 xi.op) := HX1.out.cell 4
      have q5 : W1.cell? ⟨wr.heap.size, 5, none⟩ = some (.int .i64 xi.n) := HX1.out.cell 5
      have q6 : W1.cell? ⟨wr.heap.size, 6, none⟩ = some (.string xi.name) := HX1.out.cell 6
      have q7 : W1.cell? ⟨wr.heap.size, 7, none⟩ = some (.slice A' xi.args.length c2) := HX1.out.cell 7
      clear hW1 hB1 hX1 hM1 hS1 hy hyI hl1 i0 i1 i2 i3 i4 i5 i6 i7
      go_upto_region 6 with (go_at_call 69; refine HIN.out.mono ?_; rintro e w2 ⟨Ay, cy, rfl, hb2, hs2⟩; have hx2 := HX1.out.below hb2 hs1; have z0 := hx2.frozen 0; have y0 : w2.cell? ⟨wr.heap.size, 0, none⟩ = some (.int .i64 xi.kind) := hx2.cell 0; have z1 := hx2.frozen 1; have y1 : w2.cell? ⟨wr.heap.size, 1, none⟩ = some (.int .i64 xi.d) := hx2.cell 1; have z2 := hx2.frozen 2; have y2 : w2.cell? ⟨wr.heap.size, 2, none⟩ = some (.int .i64 xi.a) := hx2.cell 2; have z3 := hx2.frozen 3; have y3 : w2.cell? ⟨wr.heap.size, 3, none⟩ = some (.int .i64 xi.b) := hx2.cell 3; have z4 := hx2.frozen 4; have y4 : w2.cell? ⟨wr.heap.size, 4, none⟩ = some (.int .i64 xi.op) := hx2.cell 4; have z5 := hx2.frozen 5; have y5 : w2.cell? ⟨wr.heap.size, 5, none⟩ = some (.int .i64 xi.n) := hx2.cell 5; have z6 := hx2.frozen 6; have y6 : w2.cell? ⟨wr.heap.size, 6, none⟩ = some (.string xi.name) := hx2.cell 6; have z7 := hx2.frozen 7; have y7 : w2.cell? ⟨wr.heap.size, 7, none⟩ = some (.slice A' xi.args.length c2) := hx2.cell 7)
      refine wp_world ?_
      intro W3 hW3
      have hs12 : W1.heap.size ≤ w2.heap.size := hb2.size
      have hszW3 : W3.heap.size = w2.heap.size := by rw [← hW3]; simp [World.setCell]
      have hX3 : Blk W3 wr.heap.size 36 #[.int .i64 y.kind, .int .i64 y.d, .int .i64 y.a, .int .i64 y.b, .int .i64 y.op, .int .i64 y.n, .string y.name, .slice Ay y.args.length cy] := by rw [← hW3]; exact ((((((((hx2.set_ 0 _).set_ 1 _).set_ 2 _).set_ 3 _).set_ 4 _).set_ 5 _).set_ 6 _).set_ 7 _)
      have hB3 : Below wr.heap.size wr W3 := by
        have h := HB1.out.trans (hb2.mono (by omega))
        rw [← hW3]; exact ((((((((h.setCell (Nat.le_refl _) _).setCell (Nat.le_refl _) _).setCell (Nat.le_refl _) _).setCell (Nat.le_refl _) _).setCell (Nat.le_refl _) _).setCell (Nat.le_refl _) _).setCell (Nat.le_refl _) _).setCell (Nat.le_refl _) _)
      have hne3 : ∀ (q b : Nat), b ≠ wr.heap.size → b ≠ (⟨wr.heap.size, q, none⟩ : Addr).block := fun _ _ h => h
      have hK3 : Keeps (fun k => k ≠ wr.heap.size) w2 W3 := by
        rw [← hW3]; exact (((((((((Keeps.refl _ _).set (hne3 _) _).set (hne3 _) _).set (hne3 _) _).set (hne3 _) _).set (hne3 _) _).set (hne3 _) _).set (hne3 _) _).set (hne3 _) _)
      have hS3 : SlR W3 (fun k => W1.heap.size ≤ k ∧ k < W3.heap.size) 1 RInt (.slice Ay y.args.length cy) y.args := hs2.imp (fun k hk => ⟨hk.1, by rw [hszW3]; exact hk.2⟩) (hK3.mono fun k hk => by have := hk.1; omega) (fun _ _ _ r => r)
      have hM3 : MFacts W3 (w.heap.size + 1 + 1) E := by
        have h := HL.out.facts
        rw [← HEE.out] at h
        exact h.below hB3 h.lt
      have hR3 := HL.out.res.below hB3 hrl
      have hO3 := HL.out.own.below mono_ins8 hB3
      have HLN := Lib.hid (learn_any y HYI.out.kind HYI.out.d Ay y.args.length cy W3 hM3)
      have hsw3 : wr.heap.size < W3.heap.size := hX3.lt
      have HX3 := Lib.hid hX3
      have HB3 := Lib.hid hB3
      have HS3 := Lib.hid hS3
      have HR3 := Lib.hid hR3
      have HO3 := Lib.hid hO3
      have p0 : W3.cell? ⟨wr.heap.size, 0, none⟩ = some (.int .i64 y.kind) := HX3.out.cell 0
      have p1 : W3.cell? ⟨wr.heap.size, 1, none⟩ = some (.int .i64 y.d) := HX3.out.cell 1
      have p2 : W3.cell? ⟨wr.heap.size, 2, none⟩ = some (.int .i64 y.a) := HX3.out.cell 2
      have p3 : W3.cell? ⟨wr.heap.size, 3, none⟩ = some (.int .i64 y.b) := HX3.out.cell 3
      have p4 : W3.cell? ⟨wr.heap.size, 4, none⟩ = some (.int .i64 y.op) := HX3.out.cell 4
      have p5 : W3.cell? ⟨wr.heap.size, 5, none⟩ = some (.int .i64 y.n) := HX3.out.cell 5
      have p6 : W3.cell? ⟨wr.heap.size, 6, none⟩ = some (.string y.name) := HX3.out.cell 6
      have p7 : W3.cell? ⟨wr.heap.size, 7, none⟩ = some (.slice Ay y.args.length cy) := HX3.out.cell 7
      clear hW3 hX3 hB3 hK3 hS3 hM3 hR3 hO3 hs2 hx2 hb2 hszW3 z0 y0 q0 z1 y1 q1 z2 y2 q2 z3 y3 q3 z4 y4 q4 z5 y5 q5 z6 y6 q6 z7 y7 q7
      go_upto_region 7 with (go_at_call 70; refine HLN.out.mono ?_; rintro e w4 ⟨rfl, hm4, hg4⟩)
      have hne : ∀ k, v.ownBlock = some k → w.heap.size + 3 ≤ k := fun k e => (HO3.out.lt k e).1
      have hX4 := HX3.out.grown hg4 (by intro e; injection e with e; omega)
      have hR4 := HR3.out.grown hg4 (by intro e; injection e with e; omega)
      have hO4 : w4.ownsRow (w.heap.size + 3) 36 8 v j css.flatten := by
        have h := fown_keep HO3.out.row (w' := w4) fun k e => hg4.block k (HO3.out.lt k e).2 (by intro e2; injection e2 with e2; have := hne k e; omega)
        have hlj : (insL E0 (x.ins.take j)).length = j := by rw [insL_len, List.length_take]; omega
        rw [hlj] at h
        exact h
      have hr0 : w4.cell? ⟨w.heap.size + 1, 0, none⟩ = some v := hR4.cell 0
      have hz0 := hR4.frozen 0
      have t0 : w4.cell? ⟨wr.heap.size, 0, none⟩ = some (.int .i64 y.kind) := hX4.cell 0
      have t1 : w4.cell? ⟨wr.heap.size, 1, none⟩ = some (.int .i64 y.d) := hX4.cell 1
      have t2 : w4.cell? ⟨wr.heap.size, 2, none⟩ = some (.int .i64 y.a) := hX4.cell 2
      have t3 : w4.cell? ⟨wr.heap.size, 3, none⟩ = some (.int .i64 y.b) := hX4.cell 3
      have t4 : w4.cell? ⟨wr.heap.size, 4, none⟩ = some (.int .i64 y.op) := hX4.cell 4
      have t5 : w4.cell? ⟨wr.heap.size, 5, none⟩ = some (.int .i64 y.n) := hX4.cell 5
      have t6 : w4.cell? ⟨wr.heap.size, 6, none⟩ = some (.string y.name) := hX4.cell 6
      have t7 : w4.cell? ⟨wr.heap.size, 7, none⟩ = some (.slice Ay y.args.length cy) := hX4.cell 7
      have hsw4 : W3.heap.size ≤ w4.heap.size := hg4.size
      have hnb : v.ownBlock ≠ some (w.heap.size + 1) := fun e => by have := hne _ e; omega
      obtain ⟨z0, hi0, hzz0, hz1, hz2⟩ := info_parts info_ins
      have HX4 := Lib.hid hX4
      have HR4 := Lib.hid hR4
      have HO4 := Lib.hid hO4
      have HG4 := Lib.hid hg4
      have HM4 := Lib.hid hm4
      clear hX4 hR4 hO4 hg4 hm4 p0 p1 p2 p3 p4 p5 p6 p7
      go_wp2_with (at_builtin; refine wpList_append_lies _ rfl _ _ _ rfl (w.heap.size + 3) 36 z0 _ 8 88 Tryz.underlying39 hi0 hzz0 hz1 hz2 rfl (by decide) v j css.flatten rfl (HO4.out.alloc _) ⟨w4.heap.size, 0, none⟩ 1 1 [.int .i64 y.kind, .int .i64 y.d, .int .i64 y.a, .int .i64 y.b, .int .i64 y.op, .int .i64 y.n, .string y.name, .slice Ay y.args.length cy] rfl rfl (World.news_of_block (Blk.new w4 _ _)) (by simp [Value.oneCell']) (by decide) (by unfold maxLen; omega) (by omega) (by simp; omega) (w4.heap.size + 1) (by simp) ?_; intro g cap w5 hown5 hgrow hat hlt5; have hR5 := (HR4.out.alloc (.cells #[.int .i64 y.kind, .int .i64 y.d, .int .i64 y.a, .int .i64 y.b, .int .i64 y.op, .int .i64 y.n, .string y.name, .slice Ay y.args.length cy] 36)).grown hgrow hnb; have k5 : w5.cell? ⟨w.heap.size + 1, 0, none⟩ = some v := hR5.cell 0; have z5 := hR5.frozen 0)
      go_roundw
      case rel =>
        have hlj : (insL E0 (x.ins.take j)).length = j := by rw [insL_len, List.length_take]; omega
        have hb4 : Below w.heap.size w w4 := (HL.out.below.trans (HB3.out.mono hwr)).grown HG4.out (by omega) (fun k e => by injection e with e; omega)
        have hb5 : Below w.heap.size w w5 := (hb4.alloc hb4.size (.cells #[.int .i64 y.kind, .int .i64 y.d, .int .i64 y.a, .int .i64 y.b, .int .i64 y.op, .int .i64 y.n, .string y.name, .slice Ay y.args.length cy] 36)).grown hgrow (by simp; omega) (fun k e => by have := hne k e; omega)
        have hraw3 := HL.out.raw.below HB3.out HL.out.raw.lt
        have hraw4 := hraw3.grown HG4.out (by intro e; injection e with e; omega)
        have hraw5 := (hraw4.alloc (.cells #[.int .i64 y.kind, .int .i64 y.d, .int .i64 y.a, .int .i64 y.b, .int .i64 y.op, .int .i64 y.n, .string y.name, .slice Ay y.args.length cy] 36)).grown hgrow (fun e => by have := hne _ e; omega)
        have hm5 : MFacts w5 (w.heap.size + 1 + 1) (learnE E y) := (HM4.out.kept (World.grownBy_alloc w4 (.cells #[.int .i64 y.kind, .int .i64 y.d, .int .i64 y.a, .int .i64 y.b, .int .i64 y.op, .int .i64 y.n, .string y.name, .slice Ay y.args.length cy] 36) none) (by simp)).kept hgrow (fun e => by have := hne _ e.symm; omega)
        have hrow : w5.ownsRow (w.heap.size + 3) 36 8 (.slice (some ⟨g, 0, none⟩) ((insL E0 (x.ins.take j)).length + 1) cap) ((insL E0 (x.ins.take j)).length + 1) (css.flatten ++ insCells y (.slice Ay y.args.length cy)) := by rw [hlj]; exact hown5
        have hkeep : Keeps (fun k => w.heap.size + 3 ≤ k ∧ k < wr.heap.size) wr (w4.alloc (.cells #[.int .i64 y.kind, .int .i64 y.d, .int .i64 y.a, .int .i64 y.b, .int .i64 y.op, .int .i64 y.n, .string y.name, .slice Ay y.args.length cy] 36)) := fun k hk => by
          have e1 := HB3.out.block k hk.2
          have e2 := HG4.out.block k (by omega) (by intro e; injection e with e; omega)
          have e3 := Below.heap_alloc w4 (.cells #[.int .i64 y.kind, .int .i64 y.d, .int .i64 y.a, .int .i64 y.b, .int .i64 y.op, .int .i64 y.n, .string y.name, .slice Ay y.args.length cy] 36) k (by omega)
          exact e3.trans (e2.trans e1)
        have hsub : ∀ k, (W1.heap.size ≤ k ∧ k < W3.heap.size) → (w.heap.size + 3 ≤ k ∧ k < (w4.alloc (.cells #[.int .i64 y.kind, .int .i64 y.d, .int .i64 y.a, .int .i64 y.b, .int .i64 y.op, .int .i64 y.n, .string y.name, .slice Ay y.args.length cy] 36)).heap.size ∧ v.ownBlock ≠ some k) := fun k hk => ⟨by omega, by simp; omega, fun e => by have := (HO3.out.lt k e); have := (HL.out.own.lt k e).2; omega⟩
        have hk34 : Keeps (fun k => W1.heap.size ≤ k ∧ k < W3.heap.size) W3 (w4.alloc (.cells #[.int .i64 y.kind, .int .i64 y.d, .int .i64 y.a, .int .i64 y.b, .int .i64 y.op, .int .i64 y.n, .string y.name, .slice Ay y.args.length cy] 36)) := fun k hk => by
          have e2 := HG4.out.block k hk.2 (by intro e; injection e with e; omega)
          have e3 := Below.heap_alloc w4 (.cells #[.int .i64 y.kind, .int .i64 y.d, .int .i64 y.a, .int .i64 y.b, .int .i64 y.op, .int .i64 y.n, .string y.name, .slice Ay y.args.length cy] 36) k (by omega)
          exact e3.trans e2
        have hsn := OwnL.snoc (x := y) (cs := insCells y (.slice Ay y.args.length cy)) mono_ins8 HL.out.own hkeep (by simp; omega) rfl hrow hgrow (hat.imp id fun h => by simp; omega) ⟨_, rfl, HS3.out.imp hsub hk34 (fun _ _ _ r => r)⟩
        rw [hlj] at hsn
        refine ⟨j + 1, by omega, by go_num, .slice (some ⟨g, 0, none⟩) (j + 1) cap, css ++ [insCells y (.slice Ay y.args.length cy)], hb5.setCell (by show w.heap.size ≤ w.heap.size + 1; omega) _, hraw5.far (by show w.heap.size ≠ w.heap.size + 1; omega) _, hR5.set_ 0 _, ?_, ?_⟩
        · rw [HSN1.out, ← HY.out]
          exact hm5.setCell (by show w.heap.size + 1 + 1 ≠ w.heap.size + 1; omega) _
        · rw [HSN2.out, ← HY.out]
          exact hsn.keep mono_ins8 ((Keeps.refl _ _).set (fun k hk => by show k ≠ w.heap.size + 1; omega) _) (by simp [World.setCell])
      case measure => simp [intOf]; omega
    · have d0 : decide ((j : Int) < (x.ins.length : Int)) = false := decide_eq_false (by omega)
      obtain rfl : j = x.ins.length := by omega
      have htake : x.ins.take x.ins.length = x.ins := List.take_length
      have hfc := hl.facts
      rw [htake] at hfc
      have hown := hl.own
      rw [htake] at hown
      obtain ⟨A3, c3, hv3⟩ := own_form hown.row
      subst hv3
      have HOW := Lib.hid hown
      have hE : Val64 (envE E0 x.ins) := envE_64 E0_64 HX.out.ins
      have HL := Lib.hid hl
      have HTM := Lib.hid (termE_any hE x.term HX.out.a wr hfc)
      have t0 : wr.cell? ⟨w.heap.size, 1, none⟩ = some (.int .i64 x.term.kind) := hl.raw.cell 1
      have t1 : wr.cell? ⟨w.heap.size, 2, none⟩ = some (.int .i64 x.term.a) := hl.raw.cell 2
      have t2 : wr.cell? ⟨w.heap.size, 3, none⟩ = some (.int .i64 x.term.to) := hl.raw.cell 3
      have t3 : wr.cell? ⟨w.heap.size, 4, none⟩ = some (.int .i64 x.term.els) := hl.raw.cell 4
      have htt : blockE x = ⟨insL E0 x.ins, termE (envE E0 x.ins) x.term⟩ := rfl
      obtain ⟨tt, htte⟩ : ∃ tt, tt = termE (envE E0 x.ins) x.term := ⟨_, rfl⟩
      rw [← htte] at HTM htt
      have HTT := Lib.hid htt
      clear hl hE htake htt htte hfc hown
      go_wp2_with (go_at_call 71; refine HTM.out.mono ?_; rintro e w2 ⟨rfl, hb2⟩; have hr2 := HL.out.res.below hb2 hrl; have z1 := hr2.frozen 1; have y1 : w2.cell? ⟨w.heap.size + 1, 1, none⟩ = some (.int .i64 0) := hr2.cell 1; have z2 := hr2.frozen 2; have y2 : w2.cell? ⟨w.heap.size + 1, 2, none⟩ = some (.int .i64 0) := hr2.cell 2; have z3 := hr2.frozen 3; have y3 : w2.cell? ⟨w.heap.size + 1, 3, none⟩ = some (.int .i64 0) := hr2.cell 3; have z4 := hr2.frozen 4; have y4 : w2.cell? ⟨w.heap.size + 1, 4, none⟩ = some (.int .i64 0) := hr2.cell 4)
      have hw2 : wr.heap.size ≤ w2.heap.size := hb2.size
      have hfin : Blk ((((w2.setCell ⟨w.heap.size + 1, 1, none⟩ (.int .i64 tt.kind)).setCell ⟨w.heap.size + 1, 2, none⟩ (.int .i64 tt.a)).setCell ⟨w.heap.size + 1, 3, none⟩ (.int .i64 tt.to)).setCell ⟨w.heap.size + 1, 4, none⟩ (.int .i64 tt.els)) (w.heap.size + 1) 43 #[.slice A3 (insL E0 x.ins).length c3, .int .i64 tt.kind, .int .i64 tt.a, .int .i64 tt.to, .int .i64 tt.els] := (((hr2.set_ 1 _).set_ 2 _).set_ 3 _).set_ 4 _
      have hbel : Below w.heap.size w ((((w2.setCell ⟨w.heap.size + 1, 1, none⟩ (.int .i64 tt.kind)).setCell ⟨w.heap.size + 1, 2, none⟩ (.int .i64 tt.a)).setCell ⟨w.heap.size + 1, 3, none⟩ (.int .i64 tt.to)).setCell ⟨w.heap.size + 1, 4, none⟩ (.int .i64 tt.els)) := by
        have h := HL.out.below.trans (hb2.mono hwr)
        exact (((h.setCell (Nat.le_succ _) _).setCell (Nat.le_succ _) _).setCell (Nat.le_succ _) _).setCell (Nat.le_succ _) _
      have hneq : ∀ (q b : Nat), b ≠ w.heap.size + 1 → b ≠ (⟨w.heap.size + 1, q, none⟩ : Addr).block := fun _ _ h => h
      have hkf : Keeps (fun k => w.heap.size + 3 ≤ k ∧ k < wr.heap.size) wr ((((w2.setCell ⟨w.heap.size + 1, 1, none⟩ (.int .i64 tt.kind)).setCell ⟨w.heap.size + 1, 2, none⟩ (.int .i64 tt.a)).setCell ⟨w.heap.size + 1, 3, none⟩ (.int .i64 tt.to)).setCell ⟨w.heap.size + 1, 4, none⟩ (.int .i64 tt.els)) :=
        (((((Keeps.of_below hb2).mono fun k hk => hk.2).set (fun k hk => hneq 1 k (by omega)) _).set (fun k hk => hneq 2 k (by omega)) _).set (fun k hk => hneq 3 k (by omega)) _).set (fun k hk => hneq 4 k (by omega)) _
      have hszf : ((((w2.setCell ⟨w.heap.size + 1, 1, none⟩ (.int .i64 tt.kind)).setCell ⟨w.heap.size + 1, 2, none⟩ (.int .i64 tt.a)).setCell ⟨w.heap.size + 1, 3, none⟩ (.int .i64 tt.to)).setCell ⟨w.heap.size + 1, 4, none⟩ (.int .i64 tt.els)).heap.size = w2.heap.size := by simp [World.setCell]
      have hslr := (HOW.out.keep mono_ins8 hkf (by rw [hszf]; exact hw2)).slr mono_ins8
      refine bodyPost_ret (v := .agg #[.slice A3 (insL E0 x.ins).length c3, .int .i64 tt.kind, .int .i64 tt.a, .int .i64 tt.to, .int .i64 tt.els]) (results_cell_row (p := 2) (ty := 43) (by kernel_rfl) _ _ (w.heap.size + 1) 43 _ (0, 0) _ rfl hfin Tryz.underlying43 rfl (by kernel_rfl)) rfl ?_
      refine ⟨.slice A3 (insL E0 x.ins).length c3, ?_, hbel, ?_⟩
      · rw [HTT.out]
      · rw [HTT.out]
        exact hslr.imp (fun k hk => ⟨by omega, hk.2⟩) (Keeps.refl _ _) (fun _ _ _ r => r.imp (fun k hk => ⟨by omega, hk.2⟩) (Keeps.refl _ _))
end Go.Proofs.YtnpnhdmfdhnmfaaGreatDoor
