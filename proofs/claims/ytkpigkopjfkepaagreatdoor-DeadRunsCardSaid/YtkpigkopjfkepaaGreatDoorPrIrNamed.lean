/- What ir.Place and (*checker).named do. -/
import Derived.Test.YtkpigkopjfkepaaGreatDoorPrIrSmall
import Derived.Deep.RegionHeld3
import Derived.StillTailTactics
import Derived.Deep.QuietTactic
import Derived.BigQuiet
namespace Go.Proofs.YtkpigkopjfkepaaGreatDoor
open Go.RowKit
theorem find_at {α : Type} {p : α → Bool} : ∀ {l : List α}, l.any p = true → ∃ (i : Nat) (hi : i < l.length), findI p l = (i : Int) ∧ l.find? p = some l[i] := by
 intro l h
 have hlt : l.findIdx p < l.length := List.findIdx_lt_length.2 (List.any_eq_true.1 h)
 refine ⟨l.findIdx p, hlt, (findI_lt h).2.2, ?_⟩
 clear h
 induction l with
 | nil => simp at hlt
 | cons x l ih =>
  rw [List.find?_cons]
  cases hx : p x with
  | true => simp [List.findIdx_cons, hx]
  | false =>
   simp only [List.findIdx_cons, hx, cond_false, List.length_cons] at hlt ⊢
   rw [ih (by omega)]
   simp
theorem find_none {α : Type} {p : α → Bool} {l : List α} (h : l.any p = false) : l.find? p = none := by
 rw [List.find?_eq_none]
 intro x hx hp
 have : l.any p = true := List.any_eq_true.2 ⟨x, hx, hp⟩
 rw [h] at this
 cases this
theorem str_eq (a b : ByteArray) : (a.toList == b.toList) = decide (a = b) := by
 rw [Bool.eq_iff_iff, beq_iff_eq, decide_eq_true_iff, ByteArray.toList_eq, ByteArray.toList_eq]
 exact ⟨fun h => ByteArray.ext (Array.ext' h), fun h => by rw [h]⟩
set_option maxHeartbeats 1000000 in
theorem place1_pred (s : ByteArray) (sb : Nat) (l : List LFlow) (w : World) (h : w.cell? ⟨sb, 0, none⟩ = some (.string s)) : Pred_flow 54 #[.pointer (some ⟨sb, 0, none⟩)] (fun f => decide (f.name = s)) l w := by
 intro W x A c _ hb _
 have h' : W.cell? ⟨sb, 0, none⟩ = some (.string s) := (hb.cell (p := ⟨sb, 0, none⟩) (World.block_lt_of_cell? w _ h)).trans h
 have hs : sb < W.heap.size := World.block_lt_of_cell? W _ h'
 go_enter Tryz.func54, Tryz.ntmps54
 go_wp2
 go_ret
 exact ⟨by simp [str_eq], hb.alloc hb.size _⟩
set_option maxHeartbeats 1000000 in
theorem place_u (u : LUnit) (s : ByteArray) (A : Option Addr) (n c : Nat) (vf : Value) (w : World) (hf : SlR w (· < w.heap.size) 4 (RFlow w (· < w.heap.size)) vf u.flows) :
  Calls Tryz.prog 26 #[.agg #[.slice A n c, vf], .string s] w fun e w' => e = .returned (.int .i64 (placeU u s)) ∧ Below w.heap.size w w' := by
 obtain ⟨A2, c2, hvf, _, _⟩ := hf.val
 subst hvf
 have hb2 := below2 w (.cells #[.slice A n c, .slice A2 u.flows.length c2] 27) (.cells #[.string s] 9)
 have HI := Lib.hid (idx_place u.flows (.slice A2 u.flows.length c2) (w.heap.size + 1) (fun f => decide (f.name = s)) ((w.alloc (.cells #[.slice A n c, .slice A2 u.flows.length c2] 27)).alloc (.cells #[.string s] 9))
  (hf.imp (fun _ h => Nat.lt_of_lt_of_le h hb2.size) (fun b h => hb2.block b h) (fun _ _ _ r => r.imp (fun _ h => Nat.lt_of_lt_of_le h hb2.size) (fun b h => hb2.block b h)))
  (place1_pred s (w.heap.size + 1) u.flows _ ((Blk.new_at (w.alloc _) _ _ (by simp)).cell 0)))
 have HB2 := Lib.hid hb2
 clear hf hb2
 unfold placeU
 go_enter Tryz.func26, Tryz.ntmps26
 go_wp2_with (go_at_call 53; refine HI.out.mono ?_; rintro e w' ⟨rfl, hb'⟩)
 go_ret
 exact ⟨rfl, HB2.out.trans (hb'.mono HB2.out.size)⟩
set_option maxHeartbeats 1000000 in
theorem named1_pred (s : ByteArray) (xb : Nat) (l : List (ByteArray × Int)) (w : World) (h : w.cell? ⟨xb, 6, none⟩ = some (.string s)) : Pred_arr 132 #[.pointer (some ⟨xb, 0, none⟩)] (fun a => decide (a.1 = s)) l w := by
 intro W x _ hb
 have h' : W.cell? ⟨xb, 6, none⟩ = some (.string s) := (hb.cell (p := ⟨xb, 6, none⟩) (World.block_lt_of_cell? w _ h)).trans h
 have hs : xb < W.heap.size := World.block_lt_of_cell? W _ h'
 go_enter Tryz.func132, Tryz.ntmps132
 go_wp2
 go_ret
 exact ⟨by simp [str_eq], hb.alloc hb.size _⟩
set_option maxHeartbeats 1000000 in
theorem named2_pred (top : Int) (cc cb : Nat) (l : List Int) (w : World) (h : w.cell? ⟨cc, 0, none⟩ = some (.pointer (some ⟨cb, 0, none⟩))) (h4 : w.cell? ⟨cb, 4, none⟩ = some (.int .i64 top)) : PredZ 133 #[.pointer (some ⟨cc, 0, none⟩)] (fun n => !placeIf n top true) l w := by
 intro W x _ hb
 have h' : W.cell? ⟨cc, 0, none⟩ = some (.pointer (some ⟨cb, 0, none⟩)) := (hb.cell (p := ⟨cc, 0, none⟩) (World.block_lt_of_cell? w _ h)).trans h
 have h4' : W.cell? ⟨cb, 4, none⟩ = some (.int .i64 top) := (hb.cell (p := ⟨cb, 4, none⟩) (World.block_lt_of_cell? w _ h4)).trans h4
 go_enter Tryz.func133, Tryz.ntmps133
 go_wp2_with (go_at_call 94; refine (cplace_any cb x top true _ h4').mono ?_; rintro e w' ⟨rfl, rfl⟩)
 go_ret
 exact ⟨rfl, hb⟩
structure ChkR (w : World) (cb : Nat) (u : LUnit) (f : LFlow) (A1 : Option Addr) (c1 : Nat) (A2 : Option Addr) (c2 : Nat) (vb : Value) : Prop where
 at_ : ChkAt w cb (.slice A1 u.arrays.length c1) (.slice A2 u.flows.length c2) f vb
 arrs : SlR w (· < w.heap.size) 2 RArr (.slice A1 u.arrays.length c1) u.arrays
 flows : SlR w (· < w.heap.size) 4 (RFlow w (· < w.heap.size)) (.slice A2 u.flows.length c2) u.flows
theorem ChkR.below {w w' : World} {cb : Nat} {u : LUnit} {f : LFlow} {A1 A2 : Option Addr} {c1 c2 : Nat} {vb : Value} (h : ChkR w cb u f A1 c1 A2 c2 vb) (hb : Below w.heap.size w w') : ChkR w' cb u f A1 c1 A2 c2 vb :=
 ⟨h.at_.below hb h.at_.lt, h.arrs.imp (fun _ h => Nat.lt_of_lt_of_le h hb.size) (fun b h => hb.block b h) (fun _ _ _ r => r),
  h.flows.imp (fun _ h => Nat.lt_of_lt_of_le h hb.size) (fun b h => hb.block b h) (fun _ _ _ r => r.imp (fun _ h => Nat.lt_of_lt_of_le h hb.size) (fun b h => hb.block b h))⟩
section
set_option maxHeartbeats 4000000
set_option maxRecDepth 100000
theorem named_any (x : LIns) (u : LUnit) (f : LFlow) (Aa A1 A2 : Option Addr) (ca c1 c2 cb : Nat) (vb : Value) (w : World) (hc : ChkR w cb u f A1 c1 A2 c2 vb) (hargs : SlR w (· < w.heap.size) 1 RInt (.slice Aa x.args.length ca) x.args) :
  Calls Tryz.prog 99 #[.pointer (some ⟨cb, 0, none⟩), .agg #[.int .i64 x.kind, .int .i64 x.d, .int .i64 x.a, .int .i64 x.b, .int .i64 x.op, .int .i64 x.n, .string x.name, .slice Aa x.args.length ca], .int .i64 (havingL x.kind)] w fun e w' => e = .returned (.bool (namedOk u f.values x)) ∧ Below w.heap.size w w' := by
 obtain ⟨k, d, a, b, op, nn, nm, args⟩ := x
 have hl := hargs.len_le
 unfold maxLen at hl
 have HC := Lib.hid hc
 have HA := Lib.hid hargs
 have H1 := hbit_arr k
 have H2 := hbit_call k
 have HH := Lib.hid (fun m w => hh_any k m w)
 have HN : Hid (namedOk u f.values ⟨k, d, a, b, op, nn, nm, args⟩ = if k = 5 ∨ k = 6 then decide (args.length = 0) && u.arrays.any (fun a => decide (a.1 = nm)) else if k = 9 then callOk u f.values nm args else decide (nm = ⟨#[]⟩) && decide (args.length = 0)) := Lib.hid rfl
 generalize namedOk u f.values ⟨k, d, a, b, op, nn, nm, args⟩ = R at *
 clear hc hargs
 have h9 : k = 9 → ¬ (k = 5 ∨ k = 6) := by omega
 generalize havingL k = h at *
 show Calls _ _ #[_, .agg #[.int .i64 k, .int .i64 d, .int .i64 a, .int .i64 b, .int .i64 op, .int .i64 nn, .string nm, .slice Aa args.length ca], _] _ _
 go_enter Tryz.func99, Tryz.ntmps99
 clear H1 H2 h9
 go_upto_region 1 with fail
 refine wp_world ?_
 intro W hW
 have hB : Below w.heap.size w W := by rw [← hW]; exact below2 _ _ _
 have hX : Blk W (w.heap.size + 1) 44 #[.int .i64 k, .int .i64 d, .int .i64 a, .int .i64 b, .int .i64 op, .int .i64 nn, .string nm, .slice Aa args.length ca] := by rw [← hW]; exact Blk.new_at _ _ _ (by simp)
 have hK : Blk W w.heap.size 74 #[.pointer (some ⟨cb, 0, none⟩)] := by rw [← hW]; exact (Blk.new_at _ _ _ rfl).alloc _
 clear hW
 have up : ∀ b, b < w.heap.size → b < W.heap.size := fun b h => Nat.lt_of_lt_of_le h hB.size
 have HC1 := Lib.hid (HC.out.below hB)
 have HA1 := Lib.hid (HA.out.imp (ok' := (· < W.heap.size)) (R' := RInt) up (fun b h => hB.block b h) (fun _ _ _ r => r))
 have HB := Lib.hid hB
 have HX := Lib.hid hX
 have HK := Lib.hid hK
 have k0 : W.cell? ⟨w.heap.size, 0, none⟩ = some (.pointer (some ⟨cb, 0, none⟩)) := hK.cell 0
 have x6 : W.cell? ⟨w.heap.size + 1, 6, none⟩ = some (.string nm) := hX.cell 6
 have x7 : W.cell? ⟨w.heap.size + 1, 7, none⟩ = some (.slice Aa args.length ca) := hX.cell 7
 have y0 : W.cell? ⟨cb, 0, none⟩ = some (.slice A1 u.arrays.length c1) := HC1.out.at_.c0
 have y1 : W.cell? ⟨cb, 1, none⟩ = some (.slice A2 u.flows.length c2) := HC1.out.at_.c1
 clear up hB hX hK HC HA
 by_cases h5 : k = 5 ∨ k = 6
 ·have g : hbit k 64 = true := by rw [hbit_arr, decide_eq_true h5]
  have hR := HN.out
  rw [if_pos h5] at hR
  have HR := Lib.hid hR
  have HM := Lib.hid (con_named1 u.arrays (.slice A1 u.arrays.length c1) (w.heap.size + 1) (fun a => decide (a.1 = nm)) W HC1.out.arrs (named1_pred nm _ _ _ x6))
  clear hR h5
  by_cases h0 : args.length = 0
  ·have d0 : ((args.length : Int) == 0) = true := by simp [h0]
   have HR2 := Lib.hid (show R = u.arrays.any (fun a => decide (a.1 = nm)) from by rw [HR.out, decide_eq_true h0, Bool.true_and])
   clear h0
   go_wp2_with (first | (go_at_call 97; refine (HH.out _ _).mono ?_; rintro e w' ⟨rfl, rfl⟩) | (go_at_call 27; refine HM.out.mono ?_; rintro e w' ⟨rfl, hb'⟩))
   go_ret
   exact ⟨by rw [HR2.out]; rfl, HB.out.trans (hb'.mono HB.out.size)⟩
  ·have d0 : ((args.length : Int) == 0) = false := by rw [beq_dec]; exact decide_eq_false (fun e => h0 (by omega))
   have HR2 := Lib.hid (show R = false from by rw [HR.out, decide_eq_false h0, Bool.false_and])
   clear h0
   go_wp2_with (go_at_call 97; refine (HH.out _ _).mono ?_; rintro e w' ⟨rfl, rfl⟩)
   go_ret
   exact ⟨by rw [HR2.out]; rfl, HB.out⟩
 have g : hbit k 64 = false := by rw [hbit_arr, decide_eq_false h5]
 by_cases h9 : k = 9
 ·have g9 : hbit k 128 = true := by rw [hbit_call, decide_eq_true h9]
  have hR := HN.out
  rw [if_neg h5, if_pos h9] at hR
  have HR := Lib.hid hR
  clear hR h5 h9
  obtain ⟨W2, hW2⟩ : ∃ W2, W2 = W.drew := ⟨_, rfl⟩
  have hb2 : Below W.heap.size W W2 := by rw [hW2]; exact below_drewN (Below.refl W.heap.size W) 1
  have HC2 := Lib.hid (HC1.out.below hb2)
  have HP := Lib.hid (place_u u nm A1 u.arrays.length c1 (.slice A2 u.flows.length c2) W2 HC2.out.flows)
  have HA2 := Lib.hid (HA1.out.imp (ok' := (· < W2.heap.size)) (R' := RInt) (fun _ h => Nat.lt_of_lt_of_le h hb2.size) (fun b h => hb2.block b h) (fun _ _ _ r => r))
  have HX2 := Lib.hid (HX.out.below hb2 HX.out.lt)
  have HK2 := Lib.hid (HK.out.below hb2 HK.out.lt)
  have HB2 := Lib.hid (HB.out.trans (hb2.mono HB.out.size))
  clear hb2
  go_upto_region 4 with (go_at_call 97; refine (HH.out _ _).mono ?_; rintro e w' ⟨rfl, rfl⟩)
  go_still_tail 6, (by kernel_rfl)
  change wpList _ _ _ _ _ W.drew
  rw [← hW2]
  clear hW2 k0 x6 x7 y0 y1
  go_upto_region 5 with (go_at_call 26; refine HP.out.mono ?_; rintro e w3 ⟨rfl, hb3⟩)
  have HC3 := Lib.hid (HC2.out.below hb3)
  have HA3 := Lib.hid (HA2.out.imp (ok' := (· < w3.heap.size)) (R' := RInt) (fun _ h => Nat.lt_of_lt_of_le h hb3.size) (fun b h => hb3.block b h) (fun _ _ _ r => r))
  have HX3 := Lib.hid (HX2.out.below hb3 HX2.out.lt)
  have HK3 := Lib.hid (HK2.out.below hb3 HK2.out.lt)
  have HB3 := Lib.hid (HB2.out.trans (hb3.mono HB2.out.size))
  clear hb3 HC1 HC2 HA1 HA2 HX HX2 HK HK2 HB HB2 HP
  have k0 : w3.cell? ⟨w.heap.size, 0, none⟩ = some (.pointer (some ⟨cb, 0, none⟩)) := HK3.out.cell 0
  have x7 : w3.cell? ⟨w.heap.size + 1, 7, none⟩ = some (.slice Aa args.length ca) := HX3.out.cell 7
  have y1 : w3.cell? ⟨cb, 1, none⟩ = some (.slice A2 u.flows.length c2) := HC3.out.at_.c1
  cases hany : u.flows.any (fun f => decide (f.name = nm)) with
  | false =>
   have hP : placeU u nm = -1 := findI_none hany
   have HR2 := Lib.hid (show R = false from by rw [HR.out]; unfold callOk; rw [find_none hany])
   rw [hP]
   clear hP hany
   go_quiet (fail)
   go_wp2
   go_ret
   exact ⟨by rw [HR2.out]; rfl, below_drewN HB3.out _⟩
  | true =>
   obtain ⟨i, hi, hP, hfind⟩ := find_at hany
   have hP' : placeU u nm = (i : Int) := hP
   rw [hP']
   obtain ⟨bf, of_, cf, hff, _, _, hbf, hel⟩ := HC3.out.flows.form (by omega)
   obtain rfl : A2 = some ⟨bf, of_, none⟩ := by injection hff
   obtain ⟨cs, _, ⟨vb2, hcs, _⟩, hcell⟩ := hel i hi
   subst hcs
   obtain ⟨g, hg⟩ : ∃ g, g = u.flows[i] := ⟨_, rfl⟩
   rw [← hg] at hcell hfind
   have f1 : w3.cell? ⟨bf, of_ + i * 4 + 1, none⟩ = some (.int .i64 g.params) := hcell.at_ (j := 1) rfl
   have hR3 : R = (decide ((args.length : Int) = g.params) && !args.any (fun n => !placeIf n f.values true)) := by rw [HR.out]; unfold callOk; rw [hfind]
   have p1 : (i : Int) < (u.flows.length : Int) := by omega
   have d1 : decide (0 ≤ (i : Int)) = true := decide_eq_true (by omega)
   have d2 : decide ((i : Int) ≥ 0) = true := decide_eq_true (by omega)
   have HR3 := Lib.hid hR3
   clear hP hP' hff hel hcell hfind hR3 hg hany hbf
   by_cases hpar : (args.length : Int) = g.params
   ·have e1 : ((args.length : Int) == g.params) = true := by simp [hpar]
    have HR4 := Lib.hid (show R = !args.any (fun n => !placeIf n f.values true) from by rw [HR3.out, decide_eq_true hpar, Bool.true_and])
    obtain ⟨W4, hW4⟩ : ∃ W4, W4 = w3.drew := ⟨_, rfl⟩
    have hb4 : Below w3.heap.size w3 W4 := by rw [hW4]; exact below_drewN (Below.refl w3.heap.size w3) 1
    have HC4 := Lib.hid (HC3.out.below hb4)
    have HA4 := Lib.hid (HA3.out.imp (ok' := (· < W4.heap.size)) (R' := RInt) (fun _ h => Nat.lt_of_lt_of_le h hb4.size) (fun b h => hb4.block b h) (fun _ _ _ r => r))
    have HM := Lib.hid (con_named2 args (.slice Aa args.length ca) w.heap.size (fun n => !placeIf n f.values true) W4 HA4.out (named2_pred f.values _ cb _ _ ((HK3.out.below hb4 HK3.out.lt).cell 0) HC4.out.at_.c4))
    have HB4 := Lib.hid (HB3.out.trans (hb4.mono HB3.out.size))
    clear hb4 hpar
    go_still_tail 21, (by kernel_rfl)
    change wpList _ _ _ _ _ w3.drew
    rw [← hW4]
    clear hW4 k0 x7 y1 f1
    go_wp2_with (go_at_call 70; refine HM.out.mono ?_; rintro e w' ⟨rfl, hb'⟩)
    go_ret
    exact ⟨by rw [HR4.out]; rfl, HB4.out.trans (hb'.mono HB4.out.size)⟩
   ·have e1 : ((args.length : Int) == g.params) = false := by simp [hpar]
    have HR4 := Lib.hid (show R = false from by rw [HR3.out, decide_eq_false hpar, Bool.false_and])
    clear hpar
    go_quiet (fail)
    go_wp2
    go_ret
    exact ⟨by rw [HR4.out]; rfl, below_drewN HB3.out _⟩
 ·have g9 : hbit k 128 = false := by rw [hbit_call, decide_eq_false h9]
  have hR := HN.out
  rw [if_neg h5, if_neg h9] at hR
  have HR := Lib.hid hR
  clear hR h5 h9
  by_cases hn : nm = ⟨#[]⟩
  ·subst hn
   have HR2 := Lib.hid (show R = ((args.length : Int) == 0) from by rw [HR.out, beq_dec]; simp)
   go_wp2_with (go_at_call 97; refine (HH.out _ _).mono ?_; rintro e w' ⟨rfl, rfl⟩)
   go_ret
   exact ⟨by rw [HR2.out]; rfl, HB.out⟩
  ·have dn : ¬ nm.toList = [] := fun e => hn (by rw [ByteArray.toList_eq] at e; exact ByteArray.ext (Array.ext' e))
   have dn2 : nm.toList.isEmpty = false := by rw [List.isEmpty_eq_false_iff]; exact dn
   have dn3 : (nm.toList == []) = false := by simp [dn]
   have HR2 := Lib.hid (show R = false from by rw [HR.out, decide_eq_false hn, Bool.false_and])
   clear hn
   go_wp2_with (go_at_call 97; refine (HH.out _ _).mono ?_; rintro e w' ⟨rfl, rfl⟩)
   go_ret
   exact ⟨by rw [HR2.out]; rfl, HB.out⟩
end
end Go.Proofs.YtkpigkopjfkepaaGreatDoor
