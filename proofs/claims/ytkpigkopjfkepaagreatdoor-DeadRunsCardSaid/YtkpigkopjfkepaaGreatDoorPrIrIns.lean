/- What (*checker).ins does. -/
import Derived.Test.YtkpigkopjfkepaaGreatDoorPrIrNamed
namespace Go.Proofs.YtkpigkopjfkepaaGreatDoor
open List (setIfInBounds_toArray set_cons_zero set_cons_succ)
open Go.RowKit
theorem below_step {W w1 w2 : World} (h : Below W.heap.size W w1) (hb : Below w1.heap.size w1 w2) : Below W.heap.size W w2 := h.trans (hb.mono h.size)
theorem quiet_of {h m : Int} {b : Bool} (H : ∀ w, Calls Tryz.prog 97 #[.int .i64 h, .int .i64 m] w fun e w' => e = .returned (.bool b) ∧ w = w') (w : World) (n : Nat) : Calls Tryz.prog 97 #[.int .i64 h, .int .i64 m] (w.drewN n) fun e w'' => e = .returned (.bool b) ∧ ∃ m, w'' = w.drewN m :=
 (H (w.drewN n)).mono fun _ _ ⟨he, hw⟩ => ⟨he, n, hw.symm⟩
theorem quiet_pl {cb : Nat} {n top : Int} {is b : Bool} (H : ∀ w, w.cell? ⟨cb, 4, none⟩ = some (.int .i64 top) → Calls Tryz.prog 94 #[.pointer (some ⟨cb, 0, none⟩), .int .i64 n, .bool is] w fun e w' => e = .returned (.bool b) ∧ w = w') (w : World) (hc : w.cell? ⟨cb, 4, none⟩ = some (.int .i64 top)) (m : Nat) : Calls Tryz.prog 94 #[.pointer (some ⟨cb, 0, none⟩), .int .i64 n, .bool is] (w.drewN m) fun e w'' => e = .returned (.bool b) ∧ ∃ m, w'' = w.drewN m :=
 (H (w.drewN m) hc).mono fun _ _ ⟨he, hw⟩ => ⟨he, m, hw.symm⟩
theorem take_at {P : Program} {ops : Array Oper} {Q : Exit → Act → World → Prop} {md : Region.Mode} {S : World → Prop} {oi : Oper} {fuel : Nat} {listed : Array Bool} {tm : Array Value} {df : List Deferred} {w : World} (i n : Nat) (v : Value) (hi : ops[i]? = some oi) (hd : oi.dst = some n)
  (hs : Region.noSelect ops = true) (hf : Region.free md ops listed i = true) (hr : (Region.ready md ops listed).contains i = true)
  (hQ : ∀ c a w, Q (.panic c) (a.put oi.dst v) w → Q (.panic c) a w) (hw : Region.wanted oi (yielded ops tm) = true) (hS : S w) (hy : ∀ w, S w → (execOp (Act.eval ⟨tm, df⟩) oi).run P w = .ok (.value v) w)
  (h : wpAnyH P md ops Q S fuel (listed.setIfInBounds i true) ⟨tm.setIfInBounds n v, df⟩ w) : wpAnyH P md ops Q S (fuel + 1) listed ⟨tm, df⟩ w := by
 refine wpAnyH_take hi hs hf hr hQ (Or.inl ⟨hw, hy⟩) hS ?_
 rw [hd]
 exact h
theorem tA {P : Program} {ops : Array Oper} {Q : Exit → Act → World → Prop} {md : Region.Mode} {S : World → Prop} {oi : Oper} {fuel : Nat} {listed : Array Bool} {tm : Array Value} {df : List Deferred} {w : World} (i n : Nat) (v : Value) (hi : ops[i]? = some oi) (hd : oi.dst = some n) (hS : S w) (hy : ∀ w, S w → (execOp (Act.eval ⟨tm, df⟩) oi).run P w = .ok (.value v) w)
  (h : wpAnyH P md ops Q S fuel (listed.setIfInBounds i true) ⟨tm.setIfInBounds n v, df⟩ w)
  (hs : Region.noSelect ops = true := by kernel_rfl) (hf : Region.free md ops listed i = true := by kernel_rfl) (hr : (Region.ready md ops listed).contains i = true := by kernel_rfl)
  (hQ : ∀ c a w, Q (.panic c) (a.put oi.dst v) w → Q (.panic c) a w := by exact fun _ _ _ h => h) (hw : Region.wanted oi (yielded ops tm) = true := by kernel_rfl) : wpAnyH P md ops Q S (fuel + 1) listed ⟨tm, df⟩ w :=
 take_at i n v hi hd hs hf hr hQ hw hS hy h
theorem take_no {P : Program} {ops : Array Oper} {Q : Exit → Act → World → Prop} {md : Region.Mode} {S : World → Prop} {oi : Oper} {fuel : Nat} {listed : Array Bool} {tm : Array Value} {df : List Deferred} {w : World} (i n : Nat) (hi : ops[i]? = some oi) (hd : oi.dst = some n)
  (hs : Region.noSelect ops = true) (hf : Region.free md ops listed i = true) (hr : (Region.ready md ops listed).contains i = true)
  (hQ : ∀ c a w, Q (.panic c) (a.put oi.dst undef) w → Q (.panic c) a w) (hw : Region.wanted oi (yielded ops tm) = false) (hS : S w)
  (h : wpAnyH P md ops Q S fuel (listed.setIfInBounds i true) ⟨tm.setIfInBounds n undef, df⟩ w) : wpAnyH P md ops Q S (fuel + 1) listed ⟨tm, df⟩ w := by
 refine wpAnyH_take hi hs hf hr hQ (Or.inr ⟨hw, rfl⟩) hS ?_
 rw [hd]
 exact h
section
set_option maxHeartbeats 8000000
set_option maxRecDepth 100000
theorem ins_any (x : LIns) (u : LUnit) (f : LFlow) (Aa A1 A2 : Option Addr) (ca c1 c2 cb : Nat) (vb : Value) (w : World) (hc : ChkR w cb u f A1 c1 A2 c2 vb) (hargs : SlR w (· < w.heap.size) 1 RInt (.slice Aa x.args.length ca) x.args) :
  Calls Tryz.prog 67 #[.pointer (some ⟨cb, 0, none⟩), .agg #[.int .i64 x.kind, .int .i64 x.d, .int .i64 x.a, .int .i64 x.b, .int .i64 x.op, .int .i64 x.n, .string x.name, .slice Aa x.args.length ca]] w fun e w' => e = .returned (.bool (insOk u f.values x)) ∧ Below w.heap.size w w' := by
 obtain ⟨k, d, a, b, op, nn, nm, args⟩ := x
 have HC := Lib.hid hc
 have HA := Lib.hid hargs
 have hne := having_ne k
 have HH1 := Lib.hid (fun w => hh_any k 1 w)
 have HH2 := Lib.hid (fun w => hh_any k 2 w)
 have HH4 := Lib.hid (fun w => hh_any k 4 w)
 have HH32 := Lib.hid (fun w => hh_any k 32 w)
 have HOP := Lib.hid (op_any ⟨k, d, a, b, op, nn, nm, args⟩ (.slice Aa args.length ca) ⟨_, _, _, rfl⟩)
 have HNM := Lib.hid (fun w => named_any ⟨k, d, a, b, op, nn, nm, args⟩ u f Aa A1 A2 ca c1 c2 cb vb w)
 have HHV := Lib.hid (fun w => having_any k w)
 have HN : Hid (insOk u f.values ⟨k, d, a, b, op, nn, nm, args⟩ = (decide (1 ≤ k ∧ k ≤ 9) && placeIf d f.values (hbit k 1) && placeIf a f.values (hbit k 2) && placeIf b f.values (hbit k 4) && opOk k op && (hbit k 32 || decide (nn = 0)) && namedOk u f.values ⟨k, d, a, b, op, nn, nm, args⟩)) := Lib.hid (by rw [hbit_D, hbit_A, hbit_B, hbit_N]; rfl)
 generalize insOk u f.values ⟨k, d, a, b, op, nn, nm, args⟩ = R at *
 clear hc hargs
 rw [← hne] at HN
 show Calls _ _ #[_, .agg #[.int .i64 k, .int .i64 d, .int .i64 a, .int .i64 b, .int .i64 op, .int .i64 nn, .string nm, .slice Aa args.length ca]] _ _
 clear hne
 generalize hbit k 1 = b1 at *
 generalize hbit k 2 = b2 at *
 generalize hbit k 4 = b4 at *
 generalize hbit k 32 = b32 at *
 generalize havingL k = h at *
 generalize opOk k op = OK at *
 have HP1 := Lib.hid (fun w => cplace_any cb d f.values b1 w)
 have HP2 := Lib.hid (fun w => cplace_any cb a f.values b2 w)
 have HP3 := Lib.hid (fun w => cplace_any cb b f.values b4 w)
 generalize placeIf d f.values b1 = q1 at *
 generalize placeIf a f.values b2 = q2 at *
 generalize placeIf b f.values b4 = q3 at *
 go_enter Tryz.func67, Tryz.ntmps67
 go_upto_region 2 with (go_at_call 96; refine (HHV.out _).mono ?_; rintro e w' ⟨rfl, rfl⟩)
 refine wp_world ?_
 intro W hW
 have hB : Below w.heap.size w W := by rw [← hW]; exact below1 _ _
 have hX : Blk W w.heap.size 44 #[.int .i64 k, .int .i64 d, .int .i64 a, .int .i64 b, .int .i64 op, .int .i64 nn, .string nm, .slice Aa args.length ca] := by rw [← hW]; exact Blk.new_at _ _ _ (by simp)
 clear hW
 have HC1 := Lib.hid (HC.out.below hB)
 have HA1 := Lib.hid (HA.out.imp (ok' := (· < W.heap.size)) (R' := RInt) (fun _ h => Nat.lt_of_lt_of_le h hB.size) (fun b h => hB.block b h) (fun _ _ _ r => r))
 have HB := Lib.hid hB
 have HX := Lib.hid hX
 have x0 : W.cell? ⟨w.heap.size, 0, none⟩ = some (.int .i64 k) := hX.cell 0
 have x1 : W.cell? ⟨w.heap.size, 1, none⟩ = some (.int .i64 d) := hX.cell 1
 have x2 : W.cell? ⟨w.heap.size, 2, none⟩ = some (.int .i64 a) := hX.cell 2
 have x3 : W.cell? ⟨w.heap.size, 3, none⟩ = some (.int .i64 b) := hX.cell 3
 have x4 : W.cell? ⟨w.heap.size, 4, none⟩ = some (.int .i64 op) := hX.cell 4
 have x5 : W.cell? ⟨w.heap.size, 5, none⟩ = some (.int .i64 nn) := hX.cell 5
 have x6 : W.cell? ⟨w.heap.size, 6, none⟩ = some (.string nm) := hX.cell 6
 have x7 : W.cell? ⟨w.heap.size, 7, none⟩ = some (.slice Aa args.length ca) := hX.cell 7
 have c4 : W.cell? ⟨cb, 4, none⟩ = some (.int .i64 f.values) := HC1.out.at_.c4
 clear hB hX HC HA HHV
 generalize namedOk u f.values ⟨k, d, a, b, op, nn, nm, args⟩ = NM at *
 cases p0 : (h != 0) with
 | false =>
  have HR := Lib.hid (show R = false from by rw [HN.out, p0]; simp)
  go_quiet (fail)
  go_wp2
  go_ret
  exact ⟨by rw [HR.out]; rfl, below_drewN HB.out _⟩
 | true =>
 cases q1 with
 | false =>
  have HR := Lib.hid (show R = false from by rw [HN.out]; simp)
  go_quiet ((first | (go_at_call 97; first | with_reducible exact quiet_of HH1.out _ _ | with_reducible exact quiet_of HH2.out _ _ | with_reducible exact quiet_of HH4.out _ _ | with_reducible exact quiet_of HH32.out _ _) | (go_at_call 94; with_reducible exact quiet_pl HP1.out W c4 _)))
  go_wp2
  go_ret
  exact ⟨by rw [HR.out]; rfl, below_drewN HB.out _⟩
 | true =>
 cases q2 with
 | false =>
  have HR := Lib.hid (show R = false from by rw [HN.out]; simp)
  go_quiet ((first | (go_at_call 97; first | with_reducible exact quiet_of HH1.out _ _ | with_reducible exact quiet_of HH2.out _ _ | with_reducible exact quiet_of HH4.out _ _ | with_reducible exact quiet_of HH32.out _ _) | (go_at_call 94; with_reducible exact quiet_pl HP1.out W c4 _) | (go_at_call 94; with_reducible exact quiet_pl HP2.out W c4 _)))
  go_wp2
  go_ret
  exact ⟨by rw [HR.out]; rfl, below_drewN HB.out _⟩
 | true =>
 cases q3 with
 | false =>
  have HR := Lib.hid (show R = false from by rw [HN.out]; simp)
  go_quiet ((first | (go_at_call 97; first | with_reducible exact quiet_of HH1.out _ _ | with_reducible exact quiet_of HH2.out _ _ | with_reducible exact quiet_of HH4.out _ _ | with_reducible exact quiet_of HH32.out _ _) | (go_at_call 94; with_reducible exact quiet_pl HP1.out W c4 _) | (go_at_call 94; with_reducible exact quiet_pl HP2.out W c4 _) | (go_at_call 94; with_reducible exact quiet_pl HP3.out W c4 _)))
  go_wp2
  go_ret
  exact ⟨by rw [HR.out]; rfl, below_drewN HB.out _⟩
 | true =>
 have S_of : Hid (∀ w2, Below W.heap.size W w2 → (Below W.heap.size W w2 ∧ w2.cell? ⟨w.heap.size, 0, none⟩ = some (.int .i64 k) ∧ w2.cell? ⟨w.heap.size, 1, none⟩ = some (.int .i64 d) ∧ w2.cell? ⟨w.heap.size, 2, none⟩ = some (.int .i64 a) ∧ w2.cell? ⟨w.heap.size, 3, none⟩ = some (.int .i64 b) ∧ w2.cell? ⟨w.heap.size, 4, none⟩ = some (.int .i64 op) ∧ w2.cell? ⟨w.heap.size, 5, none⟩ = some (.int .i64 nn) ∧ w2.cell? ⟨w.heap.size, 6, none⟩ = some (.string nm) ∧ w2.cell? ⟨w.heap.size, 7, none⟩ = some (.slice Aa args.length ca) ∧ w2.cell? ⟨cb, 4, none⟩ = some (.int .i64 f.values))) :=
  Lib.hid fun w2 h => ⟨h, (HX.out.below h HX.out.lt).cell 0, (HX.out.below h HX.out.lt).cell 1, (HX.out.below h HX.out.lt).cell 2, (HX.out.below h HX.out.lt).cell 3, (HX.out.below h HX.out.lt).cell 4, (HX.out.below h HX.out.lt).cell 5, (HX.out.below h HX.out.lt).cell 6, (HX.out.below h HX.out.lt).cell 7, ((HC1.out.below h).at_).c4⟩
 have HRE := Lib.hid (Below.refl W.heap.size W)
 have HR := Lib.hid (show R = (OK && (b32 || decide (nn = 0)) && NM) from by rw [HN.out, p0]; simp)
 clear x0 x1 x2 x3 x4 x5 x6 x7 c4
 cases OK with
 | false =>
  have HR2 := Lib.hid (show R = false from by rw [HR.out]; simp)
  refine wp_region_held_drew (S := (fun w2 => Below W.heap.size W w2 ∧ w2.cell? ⟨w.heap.size, 0, none⟩ = some (.int .i64 k) ∧ w2.cell? ⟨w.heap.size, 1, none⟩ = some (.int .i64 d) ∧ w2.cell? ⟨w.heap.size, 2, none⟩ = some (.int .i64 a) ∧ w2.cell? ⟨w.heap.size, 3, none⟩ = some (.int .i64 b) ∧ w2.cell? ⟨w.heap.size, 4, none⟩ = some (.int .i64 op) ∧ w2.cell? ⟨w.heap.size, 5, none⟩ = some (.int .i64 nn) ∧ w2.cell? ⟨w.heap.size, 6, none⟩ = some (.string nm) ∧ w2.cell? ⟨w.heap.size, 7, none⟩ = some (.slice Aa args.length ca) ∧ w2.cell? ⟨cb, 4, none⟩ = some (.int .i64 f.values))) (by kernel_rfl) (S_of.out _ HRE.out.drew) (fun hHeld => ?_)
  have HH0 := Lib.hid hHeld.1
  clear hHeld
  change wpAnyH _ _ _ _ _ 47 (Array.replicate 47 false) _ _
  refine tA 0 9 (.int .i64 h) rfl rfl (S_of.out _ HH0.out) ?_ ?_
  ·intro w2 hSw
   clear hSw
   go_simp
  simp only [setIfInBounds_toArray, set_cons_zero, set_cons_succ]
  refine tA 1 10 (.bool true) rfl rfl (S_of.out _ HH0.out) ?_ ?_
  ·intro w2 hSw
   clear hSw
   go_simp
  simp only [setIfInBounds_toArray, set_cons_zero, set_cons_succ]
  refine tA 2 11 (.bool true) rfl rfl (S_of.out _ HH0.out) ?_ ?_
  ·intro w2 hSw
   clear hSw
   go_simp
  simp only [setIfInBounds_toArray, set_cons_zero, set_cons_succ]
  refine tA 3 12 (.pointer (some ⟨cb, 0, none⟩)) rfl rfl (S_of.out _ HH0.out) ?_ ?_
  ·intro w2 hSw
   clear hSw
   go_simp
  simp only [setIfInBounds_toArray, set_cons_zero, set_cons_succ]
  refine tA 4 13 (.pointer (some ⟨w.heap.size, 1, none⟩)) rfl rfl (S_of.out _ HH0.out) ?_ ?_
  ·intro w2 hSw
   clear hSw
   go_simp
  simp only [setIfInBounds_toArray, set_cons_zero, set_cons_succ]
  refine tA 5 14 (.int .i64 d) rfl rfl (S_of.out _ HH0.out) ?_ ?_
  ·intro w2 hSw
   obtain ⟨_, g0, g1, g2, g3, g4, g5, g6, g7, _⟩ := hSw
   go_simp
  simp only [setIfInBounds_toArray, set_cons_zero, set_cons_succ]
  refine tA 6 15 (.int .i64 h) rfl rfl (S_of.out _ HH0.out) ?_ ?_
  ·intro w2 hSw
   clear hSw
   go_simp
  simp only [setIfInBounds_toArray, set_cons_zero, set_cons_succ]
  refine wpAnyH_ready (rs := [7]) (by kernel_rfl) (by simp) ?_
  refine AllReadyH.cons rfl (fun K hK => ?_) AllReadyH.nil
  go_simp
  refine (HH1.out _).mono ?_
  rintro e w' ⟨rfl, rfl⟩
  refine hK.out _ _ (S_of.out _ HH0.out) (fun hHeld => ?_)
  clear hK K hHeld
  refine wpAnyH_ready (rs := [8]) (by kernel_rfl) (by simp) ?_
  refine AllReadyH.cons rfl (fun K hK => ?_) AllReadyH.nil
  go_simp
  refine (HP1.out _ (HC1.out.below HH0.out).at_.c4).mono ?_
  rintro e w' ⟨rfl, rfl⟩
  refine hK.out _ _ (S_of.out _ HH0.out) (fun hHeld => ?_)
  clear hK K hHeld
  refine tA 9 18 (.bool true) rfl rfl (S_of.out _ HH0.out) ?_ ?_
  ·intro w2 hSw
   clear hSw
   go_simp
  simp only [setIfInBounds_toArray, set_cons_zero, set_cons_succ]
  refine tA 10 19 (.bool true) rfl rfl (S_of.out _ HH0.out) ?_ ?_
  ·intro w2 hSw
   clear hSw
   go_simp
  simp only [setIfInBounds_toArray, set_cons_zero, set_cons_succ]
  refine tA 11 20 (.pointer (some ⟨cb, 0, none⟩)) rfl rfl (S_of.out _ HH0.out) ?_ ?_
  ·intro w2 hSw
   clear hSw
   go_simp
  simp only [setIfInBounds_toArray, set_cons_zero, set_cons_succ]
  refine tA 12 21 (.pointer (some ⟨w.heap.size, 2, none⟩)) rfl rfl (S_of.out _ HH0.out) ?_ ?_
  ·intro w2 hSw
   clear hSw
   go_simp
  simp only [setIfInBounds_toArray, set_cons_zero, set_cons_succ]
  refine tA 13 22 (.int .i64 a) rfl rfl (S_of.out _ HH0.out) ?_ ?_
  ·intro w2 hSw
   obtain ⟨_, g0, g1, g2, g3, g4, g5, g6, g7, _⟩ := hSw
   go_simp
  simp only [setIfInBounds_toArray, set_cons_zero, set_cons_succ]
  refine tA 14 23 (.int .i64 h) rfl rfl (S_of.out _ HH0.out) ?_ ?_
  ·intro w2 hSw
   clear hSw
   go_simp
  simp only [setIfInBounds_toArray, set_cons_zero, set_cons_succ]
  refine wpAnyH_ready (rs := [15]) (by kernel_rfl) (by simp) ?_
  refine AllReadyH.cons rfl (fun K hK => ?_) AllReadyH.nil
  go_simp
  refine (HH2.out _).mono ?_
  rintro e w' ⟨rfl, rfl⟩
  refine hK.out _ _ (S_of.out _ HH0.out) (fun hHeld => ?_)
  clear hK K hHeld
  refine wpAnyH_ready (rs := [16]) (by kernel_rfl) (by simp) ?_
  refine AllReadyH.cons rfl (fun K hK => ?_) AllReadyH.nil
  go_simp
  refine (HP2.out _ (HC1.out.below HH0.out).at_.c4).mono ?_
  rintro e w' ⟨rfl, rfl⟩
  refine hK.out _ _ (S_of.out _ HH0.out) (fun hHeld => ?_)
  clear hK K hHeld
  refine tA 17 26 (.bool true) rfl rfl (S_of.out _ HH0.out) ?_ ?_
  ·intro w2 hSw
   clear hSw
   go_simp
  simp only [setIfInBounds_toArray, set_cons_zero, set_cons_succ]
  refine tA 18 27 (.bool true) rfl rfl (S_of.out _ HH0.out) ?_ ?_
  ·intro w2 hSw
   clear hSw
   go_simp
  simp only [setIfInBounds_toArray, set_cons_zero, set_cons_succ]
  refine tA 19 28 (.pointer (some ⟨cb, 0, none⟩)) rfl rfl (S_of.out _ HH0.out) ?_ ?_
  ·intro w2 hSw
   clear hSw
   go_simp
  simp only [setIfInBounds_toArray, set_cons_zero, set_cons_succ]
  refine tA 20 29 (.pointer (some ⟨w.heap.size, 3, none⟩)) rfl rfl (S_of.out _ HH0.out) ?_ ?_
  ·intro w2 hSw
   clear hSw
   go_simp
  simp only [setIfInBounds_toArray, set_cons_zero, set_cons_succ]
  refine tA 21 30 (.int .i64 b) rfl rfl (S_of.out _ HH0.out) ?_ ?_
  ·intro w2 hSw
   obtain ⟨_, g0, g1, g2, g3, g4, g5, g6, g7, _⟩ := hSw
   go_simp
  simp only [setIfInBounds_toArray, set_cons_zero, set_cons_succ]
  refine tA 22 31 (.int .i64 h) rfl rfl (S_of.out _ HH0.out) ?_ ?_
  ·intro w2 hSw
   clear hSw
   go_simp
  simp only [setIfInBounds_toArray, set_cons_zero, set_cons_succ]
  refine wpAnyH_ready (rs := [23]) (by kernel_rfl) (by simp) ?_
  refine AllReadyH.cons rfl (fun K hK => ?_) AllReadyH.nil
  go_simp
  refine (HH4.out _).mono ?_
  rintro e w' ⟨rfl, rfl⟩
  refine hK.out _ _ (S_of.out _ HH0.out) (fun hHeld => ?_)
  clear hK K hHeld
  refine wpAnyH_ready (rs := [24]) (by kernel_rfl) (by simp) ?_
  refine AllReadyH.cons rfl (fun K hK => ?_) AllReadyH.nil
  go_simp
  refine (HP3.out _ (HC1.out.below HH0.out).at_.c4).mono ?_
  rintro e w' ⟨rfl, rfl⟩
  refine hK.out _ _ (S_of.out _ HH0.out) (fun hHeld => ?_)
  clear hK K hHeld
  refine tA 25 34 (.bool true) rfl rfl (S_of.out _ HH0.out) ?_ ?_
  ·intro w2 hSw
   clear hSw
   go_simp
  simp only [setIfInBounds_toArray, set_cons_zero, set_cons_succ]
  refine tA 26 35 (.bool true) rfl rfl (S_of.out _ HH0.out) ?_ ?_
  ·intro w2 hSw
   clear hSw
   go_simp
  simp only [setIfInBounds_toArray, set_cons_zero, set_cons_succ]
  refine tA 27 36 (.agg #[.int .i64 k, .int .i64 d, .int .i64 a, .int .i64 b, .int .i64 op, .int .i64 nn, .string nm, .slice Aa args.length ca]) rfl rfl (S_of.out _ HH0.out) ?_ ?_
  ·intro w2 hSw
   obtain ⟨_, g0, g1, g2, g3, g4, g5, g6, g7, _⟩ := hSw
   go_simp
  simp only [setIfInBounds_toArray, set_cons_zero, set_cons_succ]
  refine tA 28 37 (.int .i64 h) rfl rfl (S_of.out _ HH0.out) ?_ ?_
  ·intro w2 hSw
   clear hSw
   go_simp
  simp only [setIfInBounds_toArray, set_cons_zero, set_cons_succ]
  refine wpAnyH_ready (rs := [29]) (by kernel_rfl) (by simp) ?_
  refine AllReadyH.cons rfl (fun K hK => ?_) AllReadyH.nil
  go_simp
  refine (HOP.out _).mono ?_
  rintro e w5 ⟨rfl, hbo⟩
  have HH5 := Lib.hid (below_step HH0.out hbo)
  refine hK.out _ _ (S_of.out _ HH5.out) (fun hHeld => ?_)
  clear hK K hHeld
  refine tA 30 39 (.bool false) rfl rfl (S_of.out _ HH5.out) ?_ ?_
  ·intro w2 hSw
   clear hSw
   go_simp
  simp only [setIfInBounds_toArray, set_cons_zero, set_cons_succ]
  refine tA 31 40 (.bool false) rfl rfl (S_of.out _ HH5.out) ?_ ?_
  ·intro w2 hSw
   clear hSw
   go_simp
  simp only [setIfInBounds_toArray, set_cons_zero, set_cons_succ]
  refine take_no 32 41 rfl rfl (by kernel_rfl) (by kernel_rfl) (by kernel_rfl) (fun _ _ _ h => h) (by kernel_rfl) (S_of.out _ HH5.out) ?_
  simp only [setIfInBounds_toArray, set_cons_zero, set_cons_succ]
  refine take_no 33 42 rfl rfl (by kernel_rfl) (by kernel_rfl) (by kernel_rfl) (fun _ _ _ h => h) (by kernel_rfl) (S_of.out _ HH5.out) ?_
  simp only [setIfInBounds_toArray, set_cons_zero, set_cons_succ]
  refine take_no 34 43 rfl rfl (by kernel_rfl) (by kernel_rfl) (by kernel_rfl) (fun _ _ _ h => h) (by kernel_rfl) (S_of.out _ HH5.out) ?_
  simp only [setIfInBounds_toArray, set_cons_zero, set_cons_succ]
  refine take_no 35 44 rfl rfl (by kernel_rfl) (by kernel_rfl) (by kernel_rfl) (fun _ _ _ h => h) (by kernel_rfl) (S_of.out _ HH5.out) ?_
  simp only [setIfInBounds_toArray, set_cons_zero, set_cons_succ]
  refine take_no 36 45 rfl rfl (by kernel_rfl) (by kernel_rfl) (by kernel_rfl) (fun _ _ _ h => h) (by kernel_rfl) (S_of.out _ HH5.out) ?_
  simp only [setIfInBounds_toArray, set_cons_zero, set_cons_succ]
  refine take_no 37 46 rfl rfl (by kernel_rfl) (by kernel_rfl) (by kernel_rfl) (fun _ _ _ h => h) (by kernel_rfl) (S_of.out _ HH5.out) ?_
  simp only [setIfInBounds_toArray, set_cons_zero, set_cons_succ]
  refine take_no 38 47 rfl rfl (by kernel_rfl) (by kernel_rfl) (by kernel_rfl) (fun _ _ _ h => h) (by kernel_rfl) (S_of.out _ HH5.out) ?_
  simp only [setIfInBounds_toArray, set_cons_zero, set_cons_succ]
  refine tA 39 48 (.bool false) rfl rfl (S_of.out _ HH5.out) ?_ ?_
  ·intro w2 hSw
   clear hSw
   go_simp
  simp only [setIfInBounds_toArray, set_cons_zero, set_cons_succ]
  refine tA 40 49 (.bool false) rfl rfl (S_of.out _ HH5.out) ?_ ?_
  ·intro w2 hSw
   clear hSw
   go_simp
  simp only [setIfInBounds_toArray, set_cons_zero, set_cons_succ]
  refine take_no 41 50 rfl rfl (by kernel_rfl) (by kernel_rfl) (by kernel_rfl) (fun _ _ _ h => h) (by kernel_rfl) (S_of.out _ HH5.out) ?_
  simp only [setIfInBounds_toArray, set_cons_zero, set_cons_succ]
  refine take_no 42 51 rfl rfl (by kernel_rfl) (by kernel_rfl) (by kernel_rfl) (fun _ _ _ h => h) (by kernel_rfl) (S_of.out _ HH5.out) ?_
  simp only [setIfInBounds_toArray, set_cons_zero, set_cons_succ]
  refine take_no 43 52 rfl rfl (by kernel_rfl) (by kernel_rfl) (by kernel_rfl) (fun _ _ _ h => h) (by kernel_rfl) (S_of.out _ HH5.out) ?_
  simp only [setIfInBounds_toArray, set_cons_zero, set_cons_succ]
  refine take_no 44 53 rfl rfl (by kernel_rfl) (by kernel_rfl) (by kernel_rfl) (fun _ _ _ h => h) (by kernel_rfl) (S_of.out _ HH5.out) ?_
  simp only [setIfInBounds_toArray, set_cons_zero, set_cons_succ]
  refine tA 45 54 (.bool false) rfl rfl (S_of.out _ HH5.out) ?_ ?_
  ·intro w2 hSw
   clear hSw
   go_simp
  simp only [setIfInBounds_toArray, set_cons_zero, set_cons_succ]
  refine tA 46 4 (.bool false) rfl rfl (S_of.out _ HH5.out) ?_ ?_
  ·intro w2 hSw
   clear hSw
   go_simp
  simp only [setIfInBounds_toArray, set_cons_zero, set_cons_succ]
  refine wpAnyH_done (by kernel_rfl) ?_ _
  go_wp2
  go_ret
  exact ⟨by rw [HR2.out]; rfl, HB.out.trans (HH5.out.mono HB.out.size)⟩
 | true =>
  cases b32 with
  | true =>
   have HR2 := Lib.hid (show R = NM from by rw [HR.out]; simp)
   refine wp_region_held_drew (S := (fun w2 => Below W.heap.size W w2 ∧ w2.cell? ⟨w.heap.size, 0, none⟩ = some (.int .i64 k) ∧ w2.cell? ⟨w.heap.size, 1, none⟩ = some (.int .i64 d) ∧ w2.cell? ⟨w.heap.size, 2, none⟩ = some (.int .i64 a) ∧ w2.cell? ⟨w.heap.size, 3, none⟩ = some (.int .i64 b) ∧ w2.cell? ⟨w.heap.size, 4, none⟩ = some (.int .i64 op) ∧ w2.cell? ⟨w.heap.size, 5, none⟩ = some (.int .i64 nn) ∧ w2.cell? ⟨w.heap.size, 6, none⟩ = some (.string nm) ∧ w2.cell? ⟨w.heap.size, 7, none⟩ = some (.slice Aa args.length ca) ∧ w2.cell? ⟨cb, 4, none⟩ = some (.int .i64 f.values))) (by kernel_rfl) (S_of.out _ HRE.out.drew) (fun hHeld => ?_)
   have HH0 := Lib.hid hHeld.1
   clear hHeld
   change wpAnyH _ _ _ _ _ 47 (Array.replicate 47 false) _ _
   refine tA 0 9 (.int .i64 h) rfl rfl (S_of.out _ HH0.out) ?_ ?_
   ·intro w2 hSw
    clear hSw
    go_simp
   simp only [setIfInBounds_toArray, set_cons_zero, set_cons_succ]
   refine tA 1 10 (.bool true) rfl rfl (S_of.out _ HH0.out) ?_ ?_
   ·intro w2 hSw
    clear hSw
    go_simp
   simp only [setIfInBounds_toArray, set_cons_zero, set_cons_succ]
   refine tA 2 11 (.bool true) rfl rfl (S_of.out _ HH0.out) ?_ ?_
   ·intro w2 hSw
    clear hSw
    go_simp
   simp only [setIfInBounds_toArray, set_cons_zero, set_cons_succ]
   refine tA 3 12 (.pointer (some ⟨cb, 0, none⟩)) rfl rfl (S_of.out _ HH0.out) ?_ ?_
   ·intro w2 hSw
    clear hSw
    go_simp
   simp only [setIfInBounds_toArray, set_cons_zero, set_cons_succ]
   refine tA 4 13 (.pointer (some ⟨w.heap.size, 1, none⟩)) rfl rfl (S_of.out _ HH0.out) ?_ ?_
   ·intro w2 hSw
    clear hSw
    go_simp
   simp only [setIfInBounds_toArray, set_cons_zero, set_cons_succ]
   refine tA 5 14 (.int .i64 d) rfl rfl (S_of.out _ HH0.out) ?_ ?_
   ·intro w2 hSw
    obtain ⟨_, g0, g1, g2, g3, g4, g5, g6, g7, _⟩ := hSw
    go_simp
   simp only [setIfInBounds_toArray, set_cons_zero, set_cons_succ]
   refine tA 6 15 (.int .i64 h) rfl rfl (S_of.out _ HH0.out) ?_ ?_
   ·intro w2 hSw
    clear hSw
    go_simp
   simp only [setIfInBounds_toArray, set_cons_zero, set_cons_succ]
   refine wpAnyH_ready (rs := [7]) (by kernel_rfl) (by simp) ?_
   refine AllReadyH.cons rfl (fun K hK => ?_) AllReadyH.nil
   go_simp
   refine (HH1.out _).mono ?_
   rintro e w' ⟨rfl, rfl⟩
   refine hK.out _ _ (S_of.out _ HH0.out) (fun hHeld => ?_)
   clear hK K hHeld
   refine wpAnyH_ready (rs := [8]) (by kernel_rfl) (by simp) ?_
   refine AllReadyH.cons rfl (fun K hK => ?_) AllReadyH.nil
   go_simp
   refine (HP1.out _ (HC1.out.below HH0.out).at_.c4).mono ?_
   rintro e w' ⟨rfl, rfl⟩
   refine hK.out _ _ (S_of.out _ HH0.out) (fun hHeld => ?_)
   clear hK K hHeld
   refine tA 9 18 (.bool true) rfl rfl (S_of.out _ HH0.out) ?_ ?_
   ·intro w2 hSw
    clear hSw
    go_simp
   simp only [setIfInBounds_toArray, set_cons_zero, set_cons_succ]
   refine tA 10 19 (.bool true) rfl rfl (S_of.out _ HH0.out) ?_ ?_
   ·intro w2 hSw
    clear hSw
    go_simp
   simp only [setIfInBounds_toArray, set_cons_zero, set_cons_succ]
   refine tA 11 20 (.pointer (some ⟨cb, 0, none⟩)) rfl rfl (S_of.out _ HH0.out) ?_ ?_
   ·intro w2 hSw
    clear hSw
    go_simp
   simp only [setIfInBounds_toArray, set_cons_zero, set_cons_succ]
   refine tA 12 21 (.pointer (some ⟨w.heap.size, 2, none⟩)) rfl rfl (S_of.out _ HH0.out) ?_ ?_
   ·intro w2 hSw
    clear hSw
    go_simp
   simp only [setIfInBounds_toArray, set_cons_zero, set_cons_succ]
   refine tA 13 22 (.int .i64 a) rfl rfl (S_of.out _ HH0.out) ?_ ?_
   ·intro w2 hSw
    obtain ⟨_, g0, g1, g2, g3, g4, g5, g6, g7, _⟩ := hSw
    go_simp
   simp only [setIfInBounds_toArray, set_cons_zero, set_cons_succ]
   refine tA 14 23 (.int .i64 h) rfl rfl (S_of.out _ HH0.out) ?_ ?_
   ·intro w2 hSw
    clear hSw
    go_simp
   simp only [setIfInBounds_toArray, set_cons_zero, set_cons_succ]
   refine wpAnyH_ready (rs := [15]) (by kernel_rfl) (by simp) ?_
   refine AllReadyH.cons rfl (fun K hK => ?_) AllReadyH.nil
   go_simp
   refine (HH2.out _).mono ?_
   rintro e w' ⟨rfl, rfl⟩
   refine hK.out _ _ (S_of.out _ HH0.out) (fun hHeld => ?_)
   clear hK K hHeld
   refine wpAnyH_ready (rs := [16]) (by kernel_rfl) (by simp) ?_
   refine AllReadyH.cons rfl (fun K hK => ?_) AllReadyH.nil
   go_simp
   refine (HP2.out _ (HC1.out.below HH0.out).at_.c4).mono ?_
   rintro e w' ⟨rfl, rfl⟩
   refine hK.out _ _ (S_of.out _ HH0.out) (fun hHeld => ?_)
   clear hK K hHeld
   refine tA 17 26 (.bool true) rfl rfl (S_of.out _ HH0.out) ?_ ?_
   ·intro w2 hSw
    clear hSw
    go_simp
   simp only [setIfInBounds_toArray, set_cons_zero, set_cons_succ]
   refine tA 18 27 (.bool true) rfl rfl (S_of.out _ HH0.out) ?_ ?_
   ·intro w2 hSw
    clear hSw
    go_simp
   simp only [setIfInBounds_toArray, set_cons_zero, set_cons_succ]
   refine tA 19 28 (.pointer (some ⟨cb, 0, none⟩)) rfl rfl (S_of.out _ HH0.out) ?_ ?_
   ·intro w2 hSw
    clear hSw
    go_simp
   simp only [setIfInBounds_toArray, set_cons_zero, set_cons_succ]
   refine tA 20 29 (.pointer (some ⟨w.heap.size, 3, none⟩)) rfl rfl (S_of.out _ HH0.out) ?_ ?_
   ·intro w2 hSw
    clear hSw
    go_simp
   simp only [setIfInBounds_toArray, set_cons_zero, set_cons_succ]
   refine tA 21 30 (.int .i64 b) rfl rfl (S_of.out _ HH0.out) ?_ ?_
   ·intro w2 hSw
    obtain ⟨_, g0, g1, g2, g3, g4, g5, g6, g7, _⟩ := hSw
    go_simp
   simp only [setIfInBounds_toArray, set_cons_zero, set_cons_succ]
   refine tA 22 31 (.int .i64 h) rfl rfl (S_of.out _ HH0.out) ?_ ?_
   ·intro w2 hSw
    clear hSw
    go_simp
   simp only [setIfInBounds_toArray, set_cons_zero, set_cons_succ]
   refine wpAnyH_ready (rs := [23]) (by kernel_rfl) (by simp) ?_
   refine AllReadyH.cons rfl (fun K hK => ?_) AllReadyH.nil
   go_simp
   refine (HH4.out _).mono ?_
   rintro e w' ⟨rfl, rfl⟩
   refine hK.out _ _ (S_of.out _ HH0.out) (fun hHeld => ?_)
   clear hK K hHeld
   refine wpAnyH_ready (rs := [24]) (by kernel_rfl) (by simp) ?_
   refine AllReadyH.cons rfl (fun K hK => ?_) AllReadyH.nil
   go_simp
   refine (HP3.out _ (HC1.out.below HH0.out).at_.c4).mono ?_
   rintro e w' ⟨rfl, rfl⟩
   refine hK.out _ _ (S_of.out _ HH0.out) (fun hHeld => ?_)
   clear hK K hHeld
   refine tA 25 34 (.bool true) rfl rfl (S_of.out _ HH0.out) ?_ ?_
   ·intro w2 hSw
    clear hSw
    go_simp
   simp only [setIfInBounds_toArray, set_cons_zero, set_cons_succ]
   refine tA 26 35 (.bool true) rfl rfl (S_of.out _ HH0.out) ?_ ?_
   ·intro w2 hSw
    clear hSw
    go_simp
   simp only [setIfInBounds_toArray, set_cons_zero, set_cons_succ]
   refine tA 27 36 (.agg #[.int .i64 k, .int .i64 d, .int .i64 a, .int .i64 b, .int .i64 op, .int .i64 nn, .string nm, .slice Aa args.length ca]) rfl rfl (S_of.out _ HH0.out) ?_ ?_
   ·intro w2 hSw
    obtain ⟨_, g0, g1, g2, g3, g4, g5, g6, g7, _⟩ := hSw
    go_simp
   simp only [setIfInBounds_toArray, set_cons_zero, set_cons_succ]
   refine tA 28 37 (.int .i64 h) rfl rfl (S_of.out _ HH0.out) ?_ ?_
   ·intro w2 hSw
    clear hSw
    go_simp
   simp only [setIfInBounds_toArray, set_cons_zero, set_cons_succ]
   refine wpAnyH_ready (rs := [29]) (by kernel_rfl) (by simp) ?_
   refine AllReadyH.cons rfl (fun K hK => ?_) AllReadyH.nil
   go_simp
   refine (HOP.out _).mono ?_
   rintro e w5 ⟨rfl, hbo⟩
   have HH5 := Lib.hid (below_step HH0.out hbo)
   refine hK.out _ _ (S_of.out _ HH5.out) (fun hHeld => ?_)
   clear hK K hHeld
   refine tA 30 39 (.bool true) rfl rfl (S_of.out _ HH5.out) ?_ ?_
   ·intro w2 hSw
    clear hSw
    go_simp
   simp only [setIfInBounds_toArray, set_cons_zero, set_cons_succ]
   refine tA 31 40 (.bool true) rfl rfl (S_of.out _ HH5.out) ?_ ?_
   ·intro w2 hSw
    clear hSw
    go_simp
   simp only [setIfInBounds_toArray, set_cons_zero, set_cons_succ]
   refine tA 32 41 (.int .i64 h) rfl rfl (S_of.out _ HH5.out) ?_ ?_
   ·intro w2 hSw
    clear hSw
    go_simp
   simp only [setIfInBounds_toArray, set_cons_zero, set_cons_succ]
   refine wpAnyH_ready (rs := [33]) (by kernel_rfl) (by simp) ?_
   refine AllReadyH.cons rfl (fun K hK => ?_) AllReadyH.nil
   go_simp
   refine (HH32.out _).mono ?_
   rintro e w' ⟨rfl, rfl⟩
   refine hK.out _ _ (S_of.out _ HH5.out) (fun hHeld => ?_)
   clear hK K hHeld
   refine tA 34 43 (.bool true) rfl rfl (S_of.out _ HH5.out) ?_ ?_
   ·intro w2 hSw
    clear hSw
    go_simp
   simp only [setIfInBounds_toArray, set_cons_zero, set_cons_succ]
   refine take_no 35 44 rfl rfl (by kernel_rfl) (by kernel_rfl) (by kernel_rfl) (fun _ _ _ h => h) (by kernel_rfl) (S_of.out _ HH5.out) ?_
   simp only [setIfInBounds_toArray, set_cons_zero, set_cons_succ]
   refine take_no 36 45 rfl rfl (by kernel_rfl) (by kernel_rfl) (by kernel_rfl) (fun _ _ _ h => h) (by kernel_rfl) (S_of.out _ HH5.out) ?_
   simp only [setIfInBounds_toArray, set_cons_zero, set_cons_succ]
   refine take_no 37 46 rfl rfl (by kernel_rfl) (by kernel_rfl) (by kernel_rfl) (fun _ _ _ h => h) (by kernel_rfl) (S_of.out _ HH5.out) ?_
   simp only [setIfInBounds_toArray, set_cons_zero, set_cons_succ]
   refine tA 38 47 (.bool true) rfl rfl (S_of.out _ HH5.out) ?_ ?_
   ·intro w2 hSw
    clear hSw
    go_simp
   simp only [setIfInBounds_toArray, set_cons_zero, set_cons_succ]
   refine tA 39 48 (.bool true) rfl rfl (S_of.out _ HH5.out) ?_ ?_
   ·intro w2 hSw
    clear hSw
    go_simp
   simp only [setIfInBounds_toArray, set_cons_zero, set_cons_succ]
   refine tA 40 49 (.bool true) rfl rfl (S_of.out _ HH5.out) ?_ ?_
   ·intro w2 hSw
    clear hSw
    go_simp
   simp only [setIfInBounds_toArray, set_cons_zero, set_cons_succ]
   refine tA 41 50 (.pointer (some ⟨cb, 0, none⟩)) rfl rfl (S_of.out _ HH5.out) ?_ ?_
   ·intro w2 hSw
    clear hSw
    go_simp
   simp only [setIfInBounds_toArray, set_cons_zero, set_cons_succ]
   refine tA 42 51 (.agg #[.int .i64 k, .int .i64 d, .int .i64 a, .int .i64 b, .int .i64 op, .int .i64 nn, .string nm, .slice Aa args.length ca]) rfl rfl (S_of.out _ HH5.out) ?_ ?_
   ·intro w2 hSw
    obtain ⟨_, g0, g1, g2, g3, g4, g5, g6, g7, _⟩ := hSw
    go_simp
   simp only [setIfInBounds_toArray, set_cons_zero, set_cons_succ]
   refine tA 43 52 (.int .i64 h) rfl rfl (S_of.out _ HH5.out) ?_ ?_
   ·intro w2 hSw
    clear hSw
    go_simp
   simp only [setIfInBounds_toArray, set_cons_zero, set_cons_succ]
   refine wpAnyH_ready (rs := [44]) (by kernel_rfl) (by simp) ?_
   refine AllReadyH.cons rfl (fun K hK => ?_) AllReadyH.nil
   go_simp
   refine (HNM.out _ (HC1.out.below HH5.out) (HA1.out.imp (fun _ h => Nat.lt_of_lt_of_le h (HH5.out).size) (fun b h => (HH5.out).block b h) (fun _ _ _ r => r))).mono ?_
   rintro e w6 ⟨rfl, hbo⟩
   have HH6 := Lib.hid (below_step HH5.out hbo)
   refine hK.out _ _ (S_of.out _ HH6.out) (fun hHeld => ?_)
   clear hK K hHeld
   refine tA 45 54 (.bool NM) rfl rfl (S_of.out _ HH6.out) ?_ ?_
   ·intro w2 hSw
    clear hSw
    go_simp
   simp only [setIfInBounds_toArray, set_cons_zero, set_cons_succ]
   refine tA 46 4 (.bool NM) rfl rfl (S_of.out _ HH6.out) ?_ ?_
   ·intro w2 hSw
    clear hSw
    go_simp
   simp only [setIfInBounds_toArray, set_cons_zero, set_cons_succ]
   refine wpAnyH_done (by kernel_rfl) ?_ _
   go_wp2
   go_ret
   exact ⟨by rw [HR2.out]; rfl, HB.out.trans (HH6.out.mono HB.out.size)⟩
  | false =>
   by_cases hn : nn = 0
   ·have n0 : (nn == 0) = true := by simp [hn]
    have HR2 := Lib.hid (show R = NM from by rw [HR.out, decide_eq_true hn]; simp)
    clear hn
    refine wp_region_held_drew (S := (fun w2 => Below W.heap.size W w2 ∧ w2.cell? ⟨w.heap.size, 0, none⟩ = some (.int .i64 k) ∧ w2.cell? ⟨w.heap.size, 1, none⟩ = some (.int .i64 d) ∧ w2.cell? ⟨w.heap.size, 2, none⟩ = some (.int .i64 a) ∧ w2.cell? ⟨w.heap.size, 3, none⟩ = some (.int .i64 b) ∧ w2.cell? ⟨w.heap.size, 4, none⟩ = some (.int .i64 op) ∧ w2.cell? ⟨w.heap.size, 5, none⟩ = some (.int .i64 nn) ∧ w2.cell? ⟨w.heap.size, 6, none⟩ = some (.string nm) ∧ w2.cell? ⟨w.heap.size, 7, none⟩ = some (.slice Aa args.length ca) ∧ w2.cell? ⟨cb, 4, none⟩ = some (.int .i64 f.values))) (by kernel_rfl) (S_of.out _ HRE.out.drew) (fun hHeld => ?_)
    have HH0 := Lib.hid hHeld.1
    clear hHeld
    change wpAnyH _ _ _ _ _ 47 (Array.replicate 47 false) _ _
    refine tA 0 9 (.int .i64 h) rfl rfl (S_of.out _ HH0.out) ?_ ?_
    ·intro w2 hSw
     clear hSw
     go_simp
    simp only [setIfInBounds_toArray, set_cons_zero, set_cons_succ]
    refine tA 1 10 (.bool true) rfl rfl (S_of.out _ HH0.out) ?_ ?_
    ·intro w2 hSw
     clear hSw
     go_simp
    simp only [setIfInBounds_toArray, set_cons_zero, set_cons_succ]
    refine tA 2 11 (.bool true) rfl rfl (S_of.out _ HH0.out) ?_ ?_
    ·intro w2 hSw
     clear hSw
     go_simp
    simp only [setIfInBounds_toArray, set_cons_zero, set_cons_succ]
    refine tA 3 12 (.pointer (some ⟨cb, 0, none⟩)) rfl rfl (S_of.out _ HH0.out) ?_ ?_
    ·intro w2 hSw
     clear hSw
     go_simp
    simp only [setIfInBounds_toArray, set_cons_zero, set_cons_succ]
    refine tA 4 13 (.pointer (some ⟨w.heap.size, 1, none⟩)) rfl rfl (S_of.out _ HH0.out) ?_ ?_
    ·intro w2 hSw
     clear hSw
     go_simp
    simp only [setIfInBounds_toArray, set_cons_zero, set_cons_succ]
    refine tA 5 14 (.int .i64 d) rfl rfl (S_of.out _ HH0.out) ?_ ?_
    ·intro w2 hSw
     obtain ⟨_, g0, g1, g2, g3, g4, g5, g6, g7, _⟩ := hSw
     go_simp
    simp only [setIfInBounds_toArray, set_cons_zero, set_cons_succ]
    refine tA 6 15 (.int .i64 h) rfl rfl (S_of.out _ HH0.out) ?_ ?_
    ·intro w2 hSw
     clear hSw
     go_simp
    simp only [setIfInBounds_toArray, set_cons_zero, set_cons_succ]
    refine wpAnyH_ready (rs := [7]) (by kernel_rfl) (by simp) ?_
    refine AllReadyH.cons rfl (fun K hK => ?_) AllReadyH.nil
    go_simp
    refine (HH1.out _).mono ?_
    rintro e w' ⟨rfl, rfl⟩
    refine hK.out _ _ (S_of.out _ HH0.out) (fun hHeld => ?_)
    clear hK K hHeld
    refine wpAnyH_ready (rs := [8]) (by kernel_rfl) (by simp) ?_
    refine AllReadyH.cons rfl (fun K hK => ?_) AllReadyH.nil
    go_simp
    refine (HP1.out _ (HC1.out.below HH0.out).at_.c4).mono ?_
    rintro e w' ⟨rfl, rfl⟩
    refine hK.out _ _ (S_of.out _ HH0.out) (fun hHeld => ?_)
    clear hK K hHeld
    refine tA 9 18 (.bool true) rfl rfl (S_of.out _ HH0.out) ?_ ?_
    ·intro w2 hSw
     clear hSw
     go_simp
    simp only [setIfInBounds_toArray, set_cons_zero, set_cons_succ]
    refine tA 10 19 (.bool true) rfl rfl (S_of.out _ HH0.out) ?_ ?_
    ·intro w2 hSw
     clear hSw
     go_simp
    simp only [setIfInBounds_toArray, set_cons_zero, set_cons_succ]
    refine tA 11 20 (.pointer (some ⟨cb, 0, none⟩)) rfl rfl (S_of.out _ HH0.out) ?_ ?_
    ·intro w2 hSw
     clear hSw
     go_simp
    simp only [setIfInBounds_toArray, set_cons_zero, set_cons_succ]
    refine tA 12 21 (.pointer (some ⟨w.heap.size, 2, none⟩)) rfl rfl (S_of.out _ HH0.out) ?_ ?_
    ·intro w2 hSw
     clear hSw
     go_simp
    simp only [setIfInBounds_toArray, set_cons_zero, set_cons_succ]
    refine tA 13 22 (.int .i64 a) rfl rfl (S_of.out _ HH0.out) ?_ ?_
    ·intro w2 hSw
     obtain ⟨_, g0, g1, g2, g3, g4, g5, g6, g7, _⟩ := hSw
     go_simp
    simp only [setIfInBounds_toArray, set_cons_zero, set_cons_succ]
    refine tA 14 23 (.int .i64 h) rfl rfl (S_of.out _ HH0.out) ?_ ?_
    ·intro w2 hSw
     clear hSw
     go_simp
    simp only [setIfInBounds_toArray, set_cons_zero, set_cons_succ]
    refine wpAnyH_ready (rs := [15]) (by kernel_rfl) (by simp) ?_
    refine AllReadyH.cons rfl (fun K hK => ?_) AllReadyH.nil
    go_simp
    refine (HH2.out _).mono ?_
    rintro e w' ⟨rfl, rfl⟩
    refine hK.out _ _ (S_of.out _ HH0.out) (fun hHeld => ?_)
    clear hK K hHeld
    refine wpAnyH_ready (rs := [16]) (by kernel_rfl) (by simp) ?_
    refine AllReadyH.cons rfl (fun K hK => ?_) AllReadyH.nil
    go_simp
    refine (HP2.out _ (HC1.out.below HH0.out).at_.c4).mono ?_
    rintro e w' ⟨rfl, rfl⟩
    refine hK.out _ _ (S_of.out _ HH0.out) (fun hHeld => ?_)
    clear hK K hHeld
    refine tA 17 26 (.bool true) rfl rfl (S_of.out _ HH0.out) ?_ ?_
    ·intro w2 hSw
     clear hSw
     go_simp
    simp only [setIfInBounds_toArray, set_cons_zero, set_cons_succ]
    refine tA 18 27 (.bool true) rfl rfl (S_of.out _ HH0.out) ?_ ?_
    ·intro w2 hSw
     clear hSw
     go_simp
    simp only [setIfInBounds_toArray, set_cons_zero, set_cons_succ]
    refine tA 19 28 (.pointer (some ⟨cb, 0, none⟩)) rfl rfl (S_of.out _ HH0.out) ?_ ?_
    ·intro w2 hSw
     clear hSw
     go_simp
    simp only [setIfInBounds_toArray, set_cons_zero, set_cons_succ]
    refine tA 20 29 (.pointer (some ⟨w.heap.size, 3, none⟩)) rfl rfl (S_of.out _ HH0.out) ?_ ?_
    ·intro w2 hSw
     clear hSw
     go_simp
    simp only [setIfInBounds_toArray, set_cons_zero, set_cons_succ]
    refine tA 21 30 (.int .i64 b) rfl rfl (S_of.out _ HH0.out) ?_ ?_
    ·intro w2 hSw
     obtain ⟨_, g0, g1, g2, g3, g4, g5, g6, g7, _⟩ := hSw
     go_simp
    simp only [setIfInBounds_toArray, set_cons_zero, set_cons_succ]
    refine tA 22 31 (.int .i64 h) rfl rfl (S_of.out _ HH0.out) ?_ ?_
    ·intro w2 hSw
     clear hSw
     go_simp
    simp only [setIfInBounds_toArray, set_cons_zero, set_cons_succ]
    refine wpAnyH_ready (rs := [23]) (by kernel_rfl) (by simp) ?_
    refine AllReadyH.cons rfl (fun K hK => ?_) AllReadyH.nil
    go_simp
    refine (HH4.out _).mono ?_
    rintro e w' ⟨rfl, rfl⟩
    refine hK.out _ _ (S_of.out _ HH0.out) (fun hHeld => ?_)
    clear hK K hHeld
    refine wpAnyH_ready (rs := [24]) (by kernel_rfl) (by simp) ?_
    refine AllReadyH.cons rfl (fun K hK => ?_) AllReadyH.nil
    go_simp
    refine (HP3.out _ (HC1.out.below HH0.out).at_.c4).mono ?_
    rintro e w' ⟨rfl, rfl⟩
    refine hK.out _ _ (S_of.out _ HH0.out) (fun hHeld => ?_)
    clear hK K hHeld
    refine tA 25 34 (.bool true) rfl rfl (S_of.out _ HH0.out) ?_ ?_
    ·intro w2 hSw
     clear hSw
     go_simp
    simp only [setIfInBounds_toArray, set_cons_zero, set_cons_succ]
    refine tA 26 35 (.bool true) rfl rfl (S_of.out _ HH0.out) ?_ ?_
    ·intro w2 hSw
     clear hSw
     go_simp
    simp only [setIfInBounds_toArray, set_cons_zero, set_cons_succ]
    refine tA 27 36 (.agg #[.int .i64 k, .int .i64 d, .int .i64 a, .int .i64 b, .int .i64 op, .int .i64 nn, .string nm, .slice Aa args.length ca]) rfl rfl (S_of.out _ HH0.out) ?_ ?_
    ·intro w2 hSw
     obtain ⟨_, g0, g1, g2, g3, g4, g5, g6, g7, _⟩ := hSw
     go_simp
    simp only [setIfInBounds_toArray, set_cons_zero, set_cons_succ]
    refine tA 28 37 (.int .i64 h) rfl rfl (S_of.out _ HH0.out) ?_ ?_
    ·intro w2 hSw
     clear hSw
     go_simp
    simp only [setIfInBounds_toArray, set_cons_zero, set_cons_succ]
    refine wpAnyH_ready (rs := [29]) (by kernel_rfl) (by simp) ?_
    refine AllReadyH.cons rfl (fun K hK => ?_) AllReadyH.nil
    go_simp
    refine (HOP.out _).mono ?_
    rintro e w5 ⟨rfl, hbo⟩
    have HH5 := Lib.hid (below_step HH0.out hbo)
    refine hK.out _ _ (S_of.out _ HH5.out) (fun hHeld => ?_)
    clear hK K hHeld
    refine tA 30 39 (.bool true) rfl rfl (S_of.out _ HH5.out) ?_ ?_
    ·intro w2 hSw
     clear hSw
     go_simp
    simp only [setIfInBounds_toArray, set_cons_zero, set_cons_succ]
    refine tA 31 40 (.bool true) rfl rfl (S_of.out _ HH5.out) ?_ ?_
    ·intro w2 hSw
     clear hSw
     go_simp
    simp only [setIfInBounds_toArray, set_cons_zero, set_cons_succ]
    refine tA 32 41 (.int .i64 h) rfl rfl (S_of.out _ HH5.out) ?_ ?_
    ·intro w2 hSw
     clear hSw
     go_simp
    simp only [setIfInBounds_toArray, set_cons_zero, set_cons_succ]
    refine wpAnyH_ready (rs := [33]) (by kernel_rfl) (by simp) ?_
    refine AllReadyH.cons rfl (fun K hK => ?_) AllReadyH.nil
    go_simp
    refine (HH32.out _).mono ?_
    rintro e w' ⟨rfl, rfl⟩
    refine hK.out _ _ (S_of.out _ HH5.out) (fun hHeld => ?_)
    clear hK K hHeld
    refine tA 34 43 (.bool false) rfl rfl (S_of.out _ HH5.out) ?_ ?_
    ·intro w2 hSw
     clear hSw
     go_simp
    simp only [setIfInBounds_toArray, set_cons_zero, set_cons_succ]
    refine tA 35 44 (.pointer (some ⟨w.heap.size, 5, none⟩)) rfl rfl (S_of.out _ HH5.out) ?_ ?_
    ·intro w2 hSw
     clear hSw
     go_simp
    simp only [setIfInBounds_toArray, set_cons_zero, set_cons_succ]
    refine tA 36 45 (.int .i64 nn) rfl rfl (S_of.out _ HH5.out) ?_ ?_
    ·intro w2 hSw
     obtain ⟨_, g0, g1, g2, g3, g4, g5, g6, g7, _⟩ := hSw
     go_simp
    simp only [setIfInBounds_toArray, set_cons_zero, set_cons_succ]
    refine tA 37 46 (.bool true) rfl rfl (S_of.out _ HH5.out) ?_ ?_
    ·intro w2 hSw
     clear hSw
     go_simp
    simp only [setIfInBounds_toArray, set_cons_zero, set_cons_succ]
    refine tA 38 47 (.bool true) rfl rfl (S_of.out _ HH5.out) ?_ ?_
    ·intro w2 hSw
     clear hSw
     go_simp
    simp only [setIfInBounds_toArray, set_cons_zero, set_cons_succ]
    refine tA 39 48 (.bool true) rfl rfl (S_of.out _ HH5.out) ?_ ?_
    ·intro w2 hSw
     clear hSw
     go_simp
    simp only [setIfInBounds_toArray, set_cons_zero, set_cons_succ]
    refine tA 40 49 (.bool true) rfl rfl (S_of.out _ HH5.out) ?_ ?_
    ·intro w2 hSw
     clear hSw
     go_simp
    simp only [setIfInBounds_toArray, set_cons_zero, set_cons_succ]
    refine tA 41 50 (.pointer (some ⟨cb, 0, none⟩)) rfl rfl (S_of.out _ HH5.out) ?_ ?_
    ·intro w2 hSw
     clear hSw
     go_simp
    simp only [setIfInBounds_toArray, set_cons_zero, set_cons_succ]
    refine tA 42 51 (.agg #[.int .i64 k, .int .i64 d, .int .i64 a, .int .i64 b, .int .i64 op, .int .i64 nn, .string nm, .slice Aa args.length ca]) rfl rfl (S_of.out _ HH5.out) ?_ ?_
    ·intro w2 hSw
     obtain ⟨_, g0, g1, g2, g3, g4, g5, g6, g7, _⟩ := hSw
     go_simp
    simp only [setIfInBounds_toArray, set_cons_zero, set_cons_succ]
    refine tA 43 52 (.int .i64 h) rfl rfl (S_of.out _ HH5.out) ?_ ?_
    ·intro w2 hSw
     clear hSw
     go_simp
    simp only [setIfInBounds_toArray, set_cons_zero, set_cons_succ]
    refine wpAnyH_ready (rs := [44]) (by kernel_rfl) (by simp) ?_
    refine AllReadyH.cons rfl (fun K hK => ?_) AllReadyH.nil
    go_simp
    refine (HNM.out _ (HC1.out.below HH5.out) (HA1.out.imp (fun _ h => Nat.lt_of_lt_of_le h (HH5.out).size) (fun b h => (HH5.out).block b h) (fun _ _ _ r => r))).mono ?_
    rintro e w6 ⟨rfl, hbo⟩
    have HH6 := Lib.hid (below_step HH5.out hbo)
    refine hK.out _ _ (S_of.out _ HH6.out) (fun hHeld => ?_)
    clear hK K hHeld
    refine tA 45 54 (.bool NM) rfl rfl (S_of.out _ HH6.out) ?_ ?_
    ·intro w2 hSw
     clear hSw
     go_simp
    simp only [setIfInBounds_toArray, set_cons_zero, set_cons_succ]
    refine tA 46 4 (.bool NM) rfl rfl (S_of.out _ HH6.out) ?_ ?_
    ·intro w2 hSw
     clear hSw
     go_simp
    simp only [setIfInBounds_toArray, set_cons_zero, set_cons_succ]
    refine wpAnyH_done (by kernel_rfl) ?_ _
    go_wp2
    go_ret
    exact ⟨by rw [HR2.out]; rfl, HB.out.trans (HH6.out.mono HB.out.size)⟩
   ·have n0 : (nn == 0) = false := by simp [hn]
    have HR2 := Lib.hid (show R = false from by rw [HR.out, decide_eq_false hn]; simp)
    clear hn
    refine wp_region_held_drew (S := (fun w2 => Below W.heap.size W w2 ∧ w2.cell? ⟨w.heap.size, 0, none⟩ = some (.int .i64 k) ∧ w2.cell? ⟨w.heap.size, 1, none⟩ = some (.int .i64 d) ∧ w2.cell? ⟨w.heap.size, 2, none⟩ = some (.int .i64 a) ∧ w2.cell? ⟨w.heap.size, 3, none⟩ = some (.int .i64 b) ∧ w2.cell? ⟨w.heap.size, 4, none⟩ = some (.int .i64 op) ∧ w2.cell? ⟨w.heap.size, 5, none⟩ = some (.int .i64 nn) ∧ w2.cell? ⟨w.heap.size, 6, none⟩ = some (.string nm) ∧ w2.cell? ⟨w.heap.size, 7, none⟩ = some (.slice Aa args.length ca) ∧ w2.cell? ⟨cb, 4, none⟩ = some (.int .i64 f.values))) (by kernel_rfl) (S_of.out _ HRE.out.drew) (fun hHeld => ?_)
    have HH0 := Lib.hid hHeld.1
    clear hHeld
    change wpAnyH _ _ _ _ _ 47 (Array.replicate 47 false) _ _
    refine tA 0 9 (.int .i64 h) rfl rfl (S_of.out _ HH0.out) ?_ ?_
    ·intro w2 hSw
     clear hSw
     go_simp
    simp only [setIfInBounds_toArray, set_cons_zero, set_cons_succ]
    refine tA 1 10 (.bool true) rfl rfl (S_of.out _ HH0.out) ?_ ?_
    ·intro w2 hSw
     clear hSw
     go_simp
    simp only [setIfInBounds_toArray, set_cons_zero, set_cons_succ]
    refine tA 2 11 (.bool true) rfl rfl (S_of.out _ HH0.out) ?_ ?_
    ·intro w2 hSw
     clear hSw
     go_simp
    simp only [setIfInBounds_toArray, set_cons_zero, set_cons_succ]
    refine tA 3 12 (.pointer (some ⟨cb, 0, none⟩)) rfl rfl (S_of.out _ HH0.out) ?_ ?_
    ·intro w2 hSw
     clear hSw
     go_simp
    simp only [setIfInBounds_toArray, set_cons_zero, set_cons_succ]
    refine tA 4 13 (.pointer (some ⟨w.heap.size, 1, none⟩)) rfl rfl (S_of.out _ HH0.out) ?_ ?_
    ·intro w2 hSw
     clear hSw
     go_simp
    simp only [setIfInBounds_toArray, set_cons_zero, set_cons_succ]
    refine tA 5 14 (.int .i64 d) rfl rfl (S_of.out _ HH0.out) ?_ ?_
    ·intro w2 hSw
     obtain ⟨_, g0, g1, g2, g3, g4, g5, g6, g7, _⟩ := hSw
     go_simp
    simp only [setIfInBounds_toArray, set_cons_zero, set_cons_succ]
    refine tA 6 15 (.int .i64 h) rfl rfl (S_of.out _ HH0.out) ?_ ?_
    ·intro w2 hSw
     clear hSw
     go_simp
    simp only [setIfInBounds_toArray, set_cons_zero, set_cons_succ]
    refine wpAnyH_ready (rs := [7]) (by kernel_rfl) (by simp) ?_
    refine AllReadyH.cons rfl (fun K hK => ?_) AllReadyH.nil
    go_simp
    refine (HH1.out _).mono ?_
    rintro e w' ⟨rfl, rfl⟩
    refine hK.out _ _ (S_of.out _ HH0.out) (fun hHeld => ?_)
    clear hK K hHeld
    refine wpAnyH_ready (rs := [8]) (by kernel_rfl) (by simp) ?_
    refine AllReadyH.cons rfl (fun K hK => ?_) AllReadyH.nil
    go_simp
    refine (HP1.out _ (HC1.out.below HH0.out).at_.c4).mono ?_
    rintro e w' ⟨rfl, rfl⟩
    refine hK.out _ _ (S_of.out _ HH0.out) (fun hHeld => ?_)
    clear hK K hHeld
    refine tA 9 18 (.bool true) rfl rfl (S_of.out _ HH0.out) ?_ ?_
    ·intro w2 hSw
     clear hSw
     go_simp
    simp only [setIfInBounds_toArray, set_cons_zero, set_cons_succ]
    refine tA 10 19 (.bool true) rfl rfl (S_of.out _ HH0.out) ?_ ?_
    ·intro w2 hSw
     clear hSw
     go_simp
    simp only [setIfInBounds_toArray, set_cons_zero, set_cons_succ]
    refine tA 11 20 (.pointer (some ⟨cb, 0, none⟩)) rfl rfl (S_of.out _ HH0.out) ?_ ?_
    ·intro w2 hSw
     clear hSw
     go_simp
    simp only [setIfInBounds_toArray, set_cons_zero, set_cons_succ]
    refine tA 12 21 (.pointer (some ⟨w.heap.size, 2, none⟩)) rfl rfl (S_of.out _ HH0.out) ?_ ?_
    ·intro w2 hSw
     clear hSw
     go_simp
    simp only [setIfInBounds_toArray, set_cons_zero, set_cons_succ]
    refine tA 13 22 (.int .i64 a) rfl rfl (S_of.out _ HH0.out) ?_ ?_
    ·intro w2 hSw
     obtain ⟨_, g0, g1, g2, g3, g4, g5, g6, g7, _⟩ := hSw
     go_simp
    simp only [setIfInBounds_toArray, set_cons_zero, set_cons_succ]
    refine tA 14 23 (.int .i64 h) rfl rfl (S_of.out _ HH0.out) ?_ ?_
    ·intro w2 hSw
     clear hSw
     go_simp
    simp only [setIfInBounds_toArray, set_cons_zero, set_cons_succ]
    refine wpAnyH_ready (rs := [15]) (by kernel_rfl) (by simp) ?_
    refine AllReadyH.cons rfl (fun K hK => ?_) AllReadyH.nil
    go_simp
    refine (HH2.out _).mono ?_
    rintro e w' ⟨rfl, rfl⟩
    refine hK.out _ _ (S_of.out _ HH0.out) (fun hHeld => ?_)
    clear hK K hHeld
    refine wpAnyH_ready (rs := [16]) (by kernel_rfl) (by simp) ?_
    refine AllReadyH.cons rfl (fun K hK => ?_) AllReadyH.nil
    go_simp
    refine (HP2.out _ (HC1.out.below HH0.out).at_.c4).mono ?_
    rintro e w' ⟨rfl, rfl⟩
    refine hK.out _ _ (S_of.out _ HH0.out) (fun hHeld => ?_)
    clear hK K hHeld
    refine tA 17 26 (.bool true) rfl rfl (S_of.out _ HH0.out) ?_ ?_
    ·intro w2 hSw
     clear hSw
     go_simp
    simp only [setIfInBounds_toArray, set_cons_zero, set_cons_succ]
    refine tA 18 27 (.bool true) rfl rfl (S_of.out _ HH0.out) ?_ ?_
    ·intro w2 hSw
     clear hSw
     go_simp
    simp only [setIfInBounds_toArray, set_cons_zero, set_cons_succ]
    refine tA 19 28 (.pointer (some ⟨cb, 0, none⟩)) rfl rfl (S_of.out _ HH0.out) ?_ ?_
    ·intro w2 hSw
     clear hSw
     go_simp
    simp only [setIfInBounds_toArray, set_cons_zero, set_cons_succ]
    refine tA 20 29 (.pointer (some ⟨w.heap.size, 3, none⟩)) rfl rfl (S_of.out _ HH0.out) ?_ ?_
    ·intro w2 hSw
     clear hSw
     go_simp
    simp only [setIfInBounds_toArray, set_cons_zero, set_cons_succ]
    refine tA 21 30 (.int .i64 b) rfl rfl (S_of.out _ HH0.out) ?_ ?_
    ·intro w2 hSw
     obtain ⟨_, g0, g1, g2, g3, g4, g5, g6, g7, _⟩ := hSw
     go_simp
    simp only [setIfInBounds_toArray, set_cons_zero, set_cons_succ]
    refine tA 22 31 (.int .i64 h) rfl rfl (S_of.out _ HH0.out) ?_ ?_
    ·intro w2 hSw
     clear hSw
     go_simp
    simp only [setIfInBounds_toArray, set_cons_zero, set_cons_succ]
    refine wpAnyH_ready (rs := [23]) (by kernel_rfl) (by simp) ?_
    refine AllReadyH.cons rfl (fun K hK => ?_) AllReadyH.nil
    go_simp
    refine (HH4.out _).mono ?_
    rintro e w' ⟨rfl, rfl⟩
    refine hK.out _ _ (S_of.out _ HH0.out) (fun hHeld => ?_)
    clear hK K hHeld
    refine wpAnyH_ready (rs := [24]) (by kernel_rfl) (by simp) ?_
    refine AllReadyH.cons rfl (fun K hK => ?_) AllReadyH.nil
    go_simp
    refine (HP3.out _ (HC1.out.below HH0.out).at_.c4).mono ?_
    rintro e w' ⟨rfl, rfl⟩
    refine hK.out _ _ (S_of.out _ HH0.out) (fun hHeld => ?_)
    clear hK K hHeld
    refine tA 25 34 (.bool true) rfl rfl (S_of.out _ HH0.out) ?_ ?_
    ·intro w2 hSw
     clear hSw
     go_simp
    simp only [setIfInBounds_toArray, set_cons_zero, set_cons_succ]
    refine tA 26 35 (.bool true) rfl rfl (S_of.out _ HH0.out) ?_ ?_
    ·intro w2 hSw
     clear hSw
     go_simp
    simp only [setIfInBounds_toArray, set_cons_zero, set_cons_succ]
    refine tA 27 36 (.agg #[.int .i64 k, .int .i64 d, .int .i64 a, .int .i64 b, .int .i64 op, .int .i64 nn, .string nm, .slice Aa args.length ca]) rfl rfl (S_of.out _ HH0.out) ?_ ?_
    ·intro w2 hSw
     obtain ⟨_, g0, g1, g2, g3, g4, g5, g6, g7, _⟩ := hSw
     go_simp
    simp only [setIfInBounds_toArray, set_cons_zero, set_cons_succ]
    refine tA 28 37 (.int .i64 h) rfl rfl (S_of.out _ HH0.out) ?_ ?_
    ·intro w2 hSw
     clear hSw
     go_simp
    simp only [setIfInBounds_toArray, set_cons_zero, set_cons_succ]
    refine wpAnyH_ready (rs := [29]) (by kernel_rfl) (by simp) ?_
    refine AllReadyH.cons rfl (fun K hK => ?_) AllReadyH.nil
    go_simp
    refine (HOP.out _).mono ?_
    rintro e w5 ⟨rfl, hbo⟩
    have HH5 := Lib.hid (below_step HH0.out hbo)
    refine hK.out _ _ (S_of.out _ HH5.out) (fun hHeld => ?_)
    clear hK K hHeld
    refine tA 30 39 (.bool true) rfl rfl (S_of.out _ HH5.out) ?_ ?_
    ·intro w2 hSw
     clear hSw
     go_simp
    simp only [setIfInBounds_toArray, set_cons_zero, set_cons_succ]
    refine tA 31 40 (.bool true) rfl rfl (S_of.out _ HH5.out) ?_ ?_
    ·intro w2 hSw
     clear hSw
     go_simp
    simp only [setIfInBounds_toArray, set_cons_zero, set_cons_succ]
    refine tA 32 41 (.int .i64 h) rfl rfl (S_of.out _ HH5.out) ?_ ?_
    ·intro w2 hSw
     clear hSw
     go_simp
    simp only [setIfInBounds_toArray, set_cons_zero, set_cons_succ]
    refine wpAnyH_ready (rs := [33]) (by kernel_rfl) (by simp) ?_
    refine AllReadyH.cons rfl (fun K hK => ?_) AllReadyH.nil
    go_simp
    refine (HH32.out _).mono ?_
    rintro e w' ⟨rfl, rfl⟩
    refine hK.out _ _ (S_of.out _ HH5.out) (fun hHeld => ?_)
    clear hK K hHeld
    refine tA 34 43 (.bool false) rfl rfl (S_of.out _ HH5.out) ?_ ?_
    ·intro w2 hSw
     clear hSw
     go_simp
    simp only [setIfInBounds_toArray, set_cons_zero, set_cons_succ]
    refine tA 35 44 (.pointer (some ⟨w.heap.size, 5, none⟩)) rfl rfl (S_of.out _ HH5.out) ?_ ?_
    ·intro w2 hSw
     clear hSw
     go_simp
    simp only [setIfInBounds_toArray, set_cons_zero, set_cons_succ]
    refine tA 36 45 (.int .i64 nn) rfl rfl (S_of.out _ HH5.out) ?_ ?_
    ·intro w2 hSw
     obtain ⟨_, g0, g1, g2, g3, g4, g5, g6, g7, _⟩ := hSw
     go_simp
    simp only [setIfInBounds_toArray, set_cons_zero, set_cons_succ]
    refine tA 37 46 (.bool false) rfl rfl (S_of.out _ HH5.out) ?_ ?_
    ·intro w2 hSw
     clear hSw
     go_simp
    simp only [setIfInBounds_toArray, set_cons_zero, set_cons_succ]
    refine tA 38 47 (.bool false) rfl rfl (S_of.out _ HH5.out) ?_ ?_
    ·intro w2 hSw
     clear hSw
     go_simp
    simp only [setIfInBounds_toArray, set_cons_zero, set_cons_succ]
    refine tA 39 48 (.bool false) rfl rfl (S_of.out _ HH5.out) ?_ ?_
    ·intro w2 hSw
     clear hSw
     go_simp
    simp only [setIfInBounds_toArray, set_cons_zero, set_cons_succ]
    refine tA 40 49 (.bool false) rfl rfl (S_of.out _ HH5.out) ?_ ?_
    ·intro w2 hSw
     clear hSw
     go_simp
    simp only [setIfInBounds_toArray, set_cons_zero, set_cons_succ]
    refine take_no 41 50 rfl rfl (by kernel_rfl) (by kernel_rfl) (by kernel_rfl) (fun _ _ _ h => h) (by kernel_rfl) (S_of.out _ HH5.out) ?_
    simp only [setIfInBounds_toArray, set_cons_zero, set_cons_succ]
    refine take_no 42 51 rfl rfl (by kernel_rfl) (by kernel_rfl) (by kernel_rfl) (fun _ _ _ h => h) (by kernel_rfl) (S_of.out _ HH5.out) ?_
    simp only [setIfInBounds_toArray, set_cons_zero, set_cons_succ]
    refine take_no 43 52 rfl rfl (by kernel_rfl) (by kernel_rfl) (by kernel_rfl) (fun _ _ _ h => h) (by kernel_rfl) (S_of.out _ HH5.out) ?_
    simp only [setIfInBounds_toArray, set_cons_zero, set_cons_succ]
    refine take_no 44 53 rfl rfl (by kernel_rfl) (by kernel_rfl) (by kernel_rfl) (fun _ _ _ h => h) (by kernel_rfl) (S_of.out _ HH5.out) ?_
    simp only [setIfInBounds_toArray, set_cons_zero, set_cons_succ]
    refine tA 45 54 (.bool false) rfl rfl (S_of.out _ HH5.out) ?_ ?_
    ·intro w2 hSw
     clear hSw
     go_simp
    simp only [setIfInBounds_toArray, set_cons_zero, set_cons_succ]
    refine tA 46 4 (.bool false) rfl rfl (S_of.out _ HH5.out) ?_ ?_
    ·intro w2 hSw
     clear hSw
     go_simp
    simp only [setIfInBounds_toArray, set_cons_zero, set_cons_succ]
    refine wpAnyH_done (by kernel_rfl) ?_ _
    go_wp2
    go_ret
    exact ⟨by rw [HR2.out]; rfl, HB.out.trans (HH5.out.mono HB.out.size)⟩
end
end Go.Proofs.YtkpigkopjfkepaaGreatDoor
