/- What (*checker).own, exprs and stmt tell: what is wrong first. Printed by wip/gen_trown.py. -/
import Derived.Test.YtmignlclfbaifaaGreatTrChk
import Derived.Test.YtmignlclfbaifaaGreatRegion
namespace Go.Proofs.YtmignlclfbaifaaGreat
open Go.RowKit

theorem find_place {α : Type} (q : α → Bool) (l : List α) : (findP q l = -1 ∧ l.find? q = none) ∨ ∃ (i : Nat) (hi : i < l.length), findP q l = (i : Int) ∧ l.find? q = some l[i] := by
  rcases findP_lt (q := q) (l := l) with h | ⟨i, hi, h1, h2⟩
  · exact .inl ⟨findP_none h, List.find?_eq_none.2 fun x hx => by rw [h x hx]; decide⟩
  · refine .inr ⟨i, hi, findP_at hi h1 h2, ?_⟩
    rw [List.find?_eq_some_iff_getElem]
    exact ⟨h1, i, hi, rfl, fun j hj => by rw [h2 j (by omega) hj]; rfl⟩
section
variable {d : Nat} {w : World} {cb : Nat} {p : LProg} {vars : List ByteArray} {A1 A2 A3 : Option Addr} {c1 c2 c3 : Nat}
set_option maxHeartbeats 4000000
theorem own_var (h : CkAt d w cb p vars A1 A2 A3 c1 c2 c3) (op n : Int) (nm : ByteArray) (A : Option Addr) (na c : Nat) :
    Calls Tryz.prog 94 #[.pointer (some ⟨cb, 0, none⟩), .agg #[.int .i64 2, .int .i64 op, .int .i64 n, .string nm, .slice A na c]] w fun r w' => r = .returned (.int .i64 (if hasS vars nm then 0 else 51)) ∧ Below w.heap.size w w' := by
  have HK := Lib.hid (fun (X : World) (hx : Below w.heap.size w X) => known_any (h.below hx) nm)
  clear h
  obtain ⟨q, hq⟩ : ∃ q, q = hasS vars nm := ⟨_, rfl⟩
  rw [← hq] at HK ⊢
  clear hq
  cases q
  all_goals
    go_enter Tryz.func94, Tryz.ntmps94
    go_wp2_with (first
      | (go_at_call 75; refine (HK.out _ (below1 _ _)).mono ?_; rintro e w1 ⟨rfl, hb⟩; have HB := Lib.hid ((below1 w _).trans (hb.mono (by simp))); clear hb)
      | (go_at_call 74; refine (flag_any _ _ _).mono ?_; rintro e w2 ⟨rfl, rfl⟩))
    go_ret
    exact ⟨rfl, HB.out⟩
theorem own_index (h : CkAt d w cb p vars A1 A2 A3 c1 c2 c3) (op n : Int) (nm : ByteArray) (A : Option Addr) (na c : Nat) :
    Calls Tryz.prog 94 #[.pointer (some ⟨cb, 0, none⟩), .agg #[.int .i64 6, .int .i64 op, .int .i64 n, .string nm, .slice A na c]] w fun r w' => r = .returned (.int .i64 (if p.arrays.any (fun a => decide (a.1 = nm)) then 0 else 51)) ∧ Below w.heap.size w w' := by
  have HK := Lib.hid (fun (X : World) (hx : Below w.heap.size w X) => array_any (h.below hx) nm)
  clear h
  obtain ⟨q, hq⟩ : ∃ q, q = p.arrays.any (fun a => decide (a.1 = nm)) := ⟨_, rfl⟩
  rw [← hq] at HK ⊢
  clear hq
  cases q
  all_goals
    go_enter Tryz.func94, Tryz.ntmps94
    go_wp2_with (first
      | (go_at_call 76; refine (HK.out _ (below1 _ _)).mono ?_; rintro e w1 ⟨rfl, hb⟩; have HB := Lib.hid ((below1 w _).trans (hb.mono (by simp))); clear hb)
      | (go_at_call 74; refine (flag_any _ _ _).mono ?_; rintro e w2 ⟨rfl, rfl⟩))
    go_ret
    exact ⟨rfl, HB.out⟩
theorem own_other (k op n : Int) (nm : ByteArray) (A : Option Addr) (na c : Nat) (h2 : (k == 2) = false) (h6 : (k == 6) = false) (h5 : (k == 5) = false) :
    Calls Tryz.prog 94 #[.pointer (some ⟨cb, 0, none⟩), .agg #[.int .i64 k, .int .i64 op, .int .i64 n, .string nm, .slice A na c]] w fun r w' => r = .returned (.int .i64 0) ∧ Below w.heap.size w w' := by
  go_enter Tryz.func94, Tryz.ntmps94
  go_wp2
  go_ret
  exact ⟨rfl, below1 _ _⟩
theorem own_call (h : CkAt d w cb p vars A1 A2 A3 c1 c2 c3) (op n : Int) (nm : ByteArray) (A : Option Addr) (na c : Nat) (e0 : Int) (he : e0 = match p.funcs.find? (fun f => decide (f.name = nm)) with
    | none => 51
    | some f => if f.params.length = na then 0 else 52) :
    Calls Tryz.prog 94 #[.pointer (some ⟨cb, 0, none⟩), .agg #[.int .i64 5, .int .i64 op, .int .i64 n, .string nm, .slice A na c]] w fun r w' => r = .returned (.int .i64 e0) ∧ Below w.heap.size w w' := by
  have HPL := fun (X : World) (hx : Below w.heap.size w X) => place_any d p A1 A2 p.arrays.length c1 c2 nm X (h.below hx).funs
  have hfuns := h.funs
  have hblk := h.blk
  clear h
  go_enter Tryz.func94, Tryz.ntmps94
  go_upto_region 7 with fail
  refine wp_world ?_
  intro W hW
  have hG : Blk W w.heap.size 42 #[.int .i64 5, .int .i64 op, .int .i64 n, .string nm, .slice A na c] := by rw [← hW]; exact Blk.new _ _ _
  have hB : Below w.heap.size w W := by rw [← hW]; exact below1 _ _
  have hC : Blk W cb 90 #[.slice A1 p.arrays.length c1, .slice A2 p.funcs.length c2, .slice A3 vars.length c3] := hblk.below hB hblk.lt
  have HPL := Lib.hid (fun (X : World) (hx : Below W.heap.size W X) => HPL X (hB.trans (hx.mono hB.size)))
  have HX0 : Hid (Below W.heap.size W W.drew) := Lib.hid (Below.refl _ _).drew
  have SO : Hid (∀ X, Below W.heap.size W X → (fun X => X.cell? ⟨cb, 0, none⟩ = some (.slice A1 p.arrays.length c1) ∧ X.cell? ⟨cb, 1, none⟩ = some (.slice A2 p.funcs.length c2) ∧ X.cell? ⟨w.heap.size, 3, none⟩ = some (.string nm)) X) := Lib.hid (fun X hx => ⟨(hC.below hx hC.lt).cell 0, (hC.below hx hC.lt).cell 1, (hG.below hx hG.lt).cell 3⟩)
  have HB := Lib.hid hB
  have HG := Lib.hid hG
  have HC := Lib.hid hC
  have HFN := Lib.hid hfuns
  clear hW hG hB hC hblk hfuns
  have HE := Lib.hid he
  clear he
  rcases find_place (fun f : LFunc => decide (f.name = nm)) p.funcs with ⟨h1, h2⟩ | ⟨k, hk, h1, h2⟩
  · have hpl : placeL p nm = -1 := h1
    have HE0 : Hid (e0 = 51) := Lib.hid (by rw [HE.out, h2])
    rw [hpl] at HPL
    clear h1 h2 HE
    refine wp_region_L (by kernel_rfl) 7 (fun X => X.cell? ⟨cb, 0, none⟩ = some (.slice A1 p.arrays.length c1) ∧ X.cell? ⟨cb, 1, none⟩ = some (.slice A2 p.funcs.length c2) ∧ X.cell? ⟨w.heap.size, 3, none⟩ = some (.string nm)) (SO.out _ HX0.out) (fun hHeld => ?_)
    have HS0 := Lib.hid hHeld
    clear hHeld
    change wpAnyL _ _ _ _ _ 7 8 (Array.replicate 8 false) _ _
    obtain ⟨X0, hX0⟩ : ∃ X0, W.drew = X0 := ⟨_, rfl⟩
    rw [hX0] at HX0 HS0 ⊢
    clear hX0
    refine takeL 0 24 (.pointer (some ⟨cb, 0, none⟩)) HS0.out rfl rfl (by kernel_rfl) (by kernel_rfl) (by kernel_rfl) (by decide) (fun _ _ _ h => h) (by kernel_rfl) ?_ ?_
    · intro w2; go_simp
    try simp only [sA, sB, sC]
    refine takeL 1 25 (.pointer (some ⟨cb, 0, none⟩)) HS0.out rfl rfl (by kernel_rfl) (by kernel_rfl) (by kernel_rfl) (by decide) (fun _ _ _ h => h) (by kernel_rfl) ?_ ?_
    · intro w2; go_simp
    try simp only [sA, sB, sC]
    refine takeL 2 26 (.pointer (some ⟨cb, 0, none⟩)) HS0.out rfl rfl (by kernel_rfl) (by kernel_rfl) (by kernel_rfl) (by decide) (fun _ _ _ h => h) (by kernel_rfl) ?_ ?_
    · intro w2; go_simp
    try simp only [sA, sB, sC]
    refine takeL_S 3 27 (.agg #[.slice A1 p.arrays.length c1, .slice A2 p.funcs.length c2]) [7] HS0.out rfl rfl (by kernel_rfl) (by kernel_rfl) (by kernel_rfl) (by decide) (by kernel_rfl) (fun _ _ _ h => h) (by kernel_rfl) ?_ ?_
    · intro w2 hSw; obtain ⟨g0, g1, g2⟩ := hSw; go_simp
    try simp only [sA, sB, sC]
    refine takeL 4 28 (.pointer (some ⟨w.heap.size, 3, none⟩)) HS0.out rfl rfl (by kernel_rfl) (by kernel_rfl) (by kernel_rfl) (by decide) (fun _ _ _ h => h) (by kernel_rfl) ?_ ?_
    · intro w2; go_simp
    try simp only [sA, sB, sC]
    refine takeL_S 5 29 (.string nm) [7] HS0.out rfl rfl (by kernel_rfl) (by kernel_rfl) (by kernel_rfl) (by decide) (by kernel_rfl) (fun _ _ _ h => h) (by kernel_rfl) ?_ ?_
    · intro w2 hSw; obtain ⟨g0, g1, g2⟩ := hSw; go_simp
    try simp only [sA, sB, sC]
    refine wpAnyL_ready (rs := [6]) (by kernel_rfl) (by simp) ?_
    refine AllReadyL.cons rfl (fun K hK => ?_) AllReadyL.nil
    go_simp
    refine (HPL.out X0 HX0.out).mono ?_
    rintro e X1 ⟨rfl, hx1⟩
    have HX1 : Hid (Below W.heap.size W X1) := Lib.hid (HX0.out.trans (hx1.mono HX0.out.size))
    clear hx1
    refine hK.out _ _ (SO.out _ HX1.out) (fun hHeld => ?_)
    have HS1 := Lib.hid hHeld
    clear hK K hHeld
    try simp only [sA, sB, sC]
    refine wpAnyL_ready (rs := [7]) (by kernel_rfl) (by simp) ?_
    refine AllReadyL.last rfl (by kernel_rfl) (fun K hK => ?_)
    go_simp
    refine hK.out _ _ ?_
    clear hK K
    try simp only [sA, sB, sC]
    refine wpAnyL_done (by kernel_rfl) ?_ _
    go_wp2
    go_ret
    exact ⟨by rw [HE0.out]; rfl, HB.out.trans (HX1.out.mono HB.out.size)⟩
  · have hpl : placeL p nm = (k : Int) := h1
    have HE0 : Hid (e0 = if p.funcs[k].params.length = na then 0 else 52) := Lib.hid (by rw [HE.out, h2])
    rw [hpl] at HPL
    clear h1 h2 HE
    have d1 : decide ((k : Int) < 0) = false := decide_eq_false (by omega)
    refine wp_region_L (by kernel_rfl) 7 (fun X => X.cell? ⟨cb, 0, none⟩ = some (.slice A1 p.arrays.length c1) ∧ X.cell? ⟨cb, 1, none⟩ = some (.slice A2 p.funcs.length c2) ∧ X.cell? ⟨w.heap.size, 3, none⟩ = some (.string nm)) (SO.out _ HX0.out) (fun hHeld => ?_)
    have HS0 := Lib.hid hHeld
    clear hHeld
    change wpAnyL _ _ _ _ _ 7 8 (Array.replicate 8 false) _ _
    obtain ⟨X0, hX0⟩ : ∃ X0, W.drew = X0 := ⟨_, rfl⟩
    rw [hX0] at HX0 HS0 ⊢
    clear hX0
    refine takeL 0 24 (.pointer (some ⟨cb, 0, none⟩)) HS0.out rfl rfl (by kernel_rfl) (by kernel_rfl) (by kernel_rfl) (by decide) (fun _ _ _ h => h) (by kernel_rfl) ?_ ?_
    · intro w2; go_simp
    try simp only [sA, sB, sC]
    refine takeL 1 25 (.pointer (some ⟨cb, 0, none⟩)) HS0.out rfl rfl (by kernel_rfl) (by kernel_rfl) (by kernel_rfl) (by decide) (fun _ _ _ h => h) (by kernel_rfl) ?_ ?_
    · intro w2; go_simp
    try simp only [sA, sB, sC]
    refine takeL 2 26 (.pointer (some ⟨cb, 0, none⟩)) HS0.out rfl rfl (by kernel_rfl) (by kernel_rfl) (by kernel_rfl) (by decide) (fun _ _ _ h => h) (by kernel_rfl) ?_ ?_
    · intro w2; go_simp
    try simp only [sA, sB, sC]
    refine takeL_S 3 27 (.agg #[.slice A1 p.arrays.length c1, .slice A2 p.funcs.length c2]) [7] HS0.out rfl rfl (by kernel_rfl) (by kernel_rfl) (by kernel_rfl) (by decide) (by kernel_rfl) (fun _ _ _ h => h) (by kernel_rfl) ?_ ?_
    · intro w2 hSw; obtain ⟨g0, g1, g2⟩ := hSw; go_simp
    try simp only [sA, sB, sC]
    refine takeL 4 28 (.pointer (some ⟨w.heap.size, 3, none⟩)) HS0.out rfl rfl (by kernel_rfl) (by kernel_rfl) (by kernel_rfl) (by decide) (fun _ _ _ h => h) (by kernel_rfl) ?_ ?_
    · intro w2; go_simp
    try simp only [sA, sB, sC]
    refine takeL_S 5 29 (.string nm) [7] HS0.out rfl rfl (by kernel_rfl) (by kernel_rfl) (by kernel_rfl) (by decide) (by kernel_rfl) (fun _ _ _ h => h) (by kernel_rfl) ?_ ?_
    · intro w2 hSw; obtain ⟨g0, g1, g2⟩ := hSw; go_simp
    try simp only [sA, sB, sC]
    refine wpAnyL_ready (rs := [6]) (by kernel_rfl) (by simp) ?_
    refine AllReadyL.cons rfl (fun K hK => ?_) AllReadyL.nil
    go_simp
    refine (HPL.out X0 HX0.out).mono ?_
    rintro e X1 ⟨rfl, hx1⟩
    have HX1 : Hid (Below W.heap.size W X1) := Lib.hid (HX0.out.trans (hx1.mono HX0.out.size))
    clear hx1
    refine hK.out _ _ (SO.out _ HX1.out) (fun hHeld => ?_)
    have HS1 := Lib.hid hHeld
    clear hK K hHeld
    try simp only [sA, sB, sC]
    refine wpAnyL_ready (rs := [7]) (by kernel_rfl) (by simp) ?_
    refine AllReadyL.last rfl (by kernel_rfl) (fun K hK => ?_)
    go_simp
    refine hK.out _ _ ?_
    clear hK K
    try simp only [sA, sB, sC]
    refine wpAnyL_done (by kernel_rfl) ?_ _
    obtain ⟨b, off, c', hform, _, _, hbl, hel⟩ := HFN.out.form (by omega)
    obtain ⟨cs, hcl, ⟨vp, vl, vb, hcs, hsp, _, _⟩, hcell⟩ := hel k hk
    obtain ⟨rfl, rfl⟩ : A2 = some ⟨b, off, none⟩ ∧ c2 = c' := by injection hform with h1 _ h2; exact ⟨h1, h2⟩
    obtain ⟨Ap, cp, rfl, _, _⟩ := hsp.val
    subst hcs
    obtain ⟨np, hnp⟩ : ∃ np, np = p.funcs[k].params.length := ⟨_, rfl⟩
    rw [← hnp] at HE0 hcell
    have hb1 : Below w.heap.size w X1 := HB.out.trans (HX1.out.mono HB.out.size)
    have SO2 : Hid (∀ X, Below X1.heap.size X1 X → (fun X => X.cell? ⟨cb, 1, none⟩ = some (.slice (some ⟨b, off, none⟩) p.funcs.length c2) ∧ X.cell? ⟨b, off + k * 4 + 1, none⟩ = some (.slice Ap np cp) ∧ X.cell? ⟨w.heap.size, 4, none⟩ = some (.slice A na c)) X) := Lib.hid (fun X hx => by
      have hX : Below W.heap.size W X := HX1.out.trans (hx.mono HX1.out.size)
      have hw : Below w.heap.size w X := HB.out.trans (hX.mono HB.out.size)
      have hcw := hcell.keep (hw.block b hbl)
      exact ⟨(HC.out.below hX HC.out.lt).cell 1, by have h := hcw.at_ (j := 1) rfl; simpa using h, (HG.out.below hX HG.out.lt).cell 4⟩)
    have HX2 : Hid (Below X1.heap.size X1 X1.drew) := Lib.hid (Below.refl _ _).drew
    obtain ⟨bq, hbq⟩ : ∃ q, q = ((np : Int) == (na : Int)) := ⟨_, rfl⟩
    have HBQ := Lib.hid hbq
    have HB1 := Lib.hid hb1
    have hk2 : k < p.funcs.length := hk
    have d2 : ((np : Int) == (na : Int)) = bq := hbq.symm
    have HR : Hid (e0 = if bq then 0 else 52) := Lib.hid (by
      rw [HE0.out, hbq, beq_dec]
      by_cases h : np = na
      · rw [if_pos h, decide_eq_true (by omega), if_pos rfl]
      · rw [if_neg h, decide_eq_false (by omega)]; rfl)
    clear hcell hel hform hb1 hbq hnp hbl hcl hsp HE0 hpl HC HG SO HS0 HS1 HX0 HB
    go_upto_region 10 with fail
    refine wp_region_L (by kernel_rfl) 15 (fun X => X.cell? ⟨cb, 1, none⟩ = some (.slice (some ⟨b, off, none⟩) p.funcs.length c2) ∧ X.cell? ⟨b, off + k * 4 + 1, none⟩ = some (.slice Ap np cp) ∧ X.cell? ⟨w.heap.size, 4, none⟩ = some (.slice A na c)) (SO2.out _ HX2.out) (fun hHeld => ?_)
    have HS0 := Lib.hid hHeld
    clear hHeld
    change wpAnyL _ _ _ _ _ 15 16 (Array.replicate 16 false) _ _
    obtain ⟨X2, hX2⟩ : ∃ X2, X1.drew = X2 := ⟨_, rfl⟩
    rw [hX2] at HX2 HS0 ⊢
    clear hX2 HX1
    refine takeL 0 33 (.pointer (some ⟨cb, 0, none⟩)) HS0.out rfl rfl (by kernel_rfl) (by kernel_rfl) (by kernel_rfl) (by decide) (fun _ _ _ h => h) (by kernel_rfl) ?_ ?_
    · intro w2; go_simp
    try simp only [sA, sB, sC]
    refine takeL 1 34 (.pointer (some ⟨cb, 0, none⟩)) HS0.out rfl rfl (by kernel_rfl) (by kernel_rfl) (by kernel_rfl) (by decide) (fun _ _ _ h => h) (by kernel_rfl) ?_ ?_
    · intro w2; go_simp
    try simp only [sA, sB, sC]
    refine takeL 2 35 (.pointer (some ⟨cb, 0, none⟩)) HS0.out rfl rfl (by kernel_rfl) (by kernel_rfl) (by kernel_rfl) (by decide) (fun _ _ _ h => h) (by kernel_rfl) ?_ ?_
    · intro w2; go_simp
    try simp only [sA, sB, sC]
    refine takeL 3 36 (.pointer (some ⟨cb, 1, none⟩)) HS0.out rfl rfl (by kernel_rfl) (by kernel_rfl) (by kernel_rfl) (by decide) (fun _ _ _ h => h) (by kernel_rfl) ?_ ?_
    · intro w2; go_simp
    try simp only [sA, sB, sC]
    refine takeL_S 4 37 (.slice (some ⟨b, off, none⟩) p.funcs.length c2) [15] HS0.out rfl rfl (by kernel_rfl) (by kernel_rfl) (by kernel_rfl) (by decide) (by kernel_rfl) (fun _ _ _ h => h) (by kernel_rfl) ?_ ?_
    · intro w2 hSw; obtain ⟨g0, g1, g2⟩ := hSw; go_simp
    try simp only [sA, sB, sC]
    refine takeL 5 38 (.int .i64 (k : Int)) HS0.out rfl rfl (by kernel_rfl) (by kernel_rfl) (by kernel_rfl) (by decide) (fun _ _ _ h => h) (by kernel_rfl) ?_ ?_
    · intro w2; go_simp
    try simp only [sA, sB, sC]
    refine takeL 6 39 (.pointer (some ⟨b, off + k * 4, none⟩)) HS0.out rfl rfl (by kernel_rfl) (by kernel_rfl) (by kernel_rfl) (by decide) (fun _ _ _ h => h) (by kernel_rfl) ?_ ?_
    · intro w2; go_simp
    try simp only [sA, sB, sC]
    refine takeL 7 40 (.pointer (some ⟨b, off + k * 4 + 1, none⟩)) HS0.out rfl rfl (by kernel_rfl) (by kernel_rfl) (by kernel_rfl) (by decide) (fun _ _ _ h => h) (by kernel_rfl) ?_ ?_
    · intro w2; go_simp
    try simp only [sA, sB, sC]
    refine takeL_S 8 41 (.slice Ap np cp) [15] HS0.out rfl rfl (by kernel_rfl) (by kernel_rfl) (by kernel_rfl) (by decide) (by kernel_rfl) (fun _ _ _ h => h) (by kernel_rfl) ?_ ?_
    · intro w2 hSw; obtain ⟨g0, g1, g2⟩ := hSw; go_simp
    try simp only [sA, sB, sC]
    refine takeL 9 42 (.int .i64 (np : Int)) HS0.out rfl rfl (by kernel_rfl) (by kernel_rfl) (by kernel_rfl) (by decide) (fun _ _ _ h => h) (by kernel_rfl) ?_ ?_
    · intro w2; go_simp
    try simp only [sA, sB, sC]
    refine takeL 10 43 (.pointer (some ⟨w.heap.size, 4, none⟩)) HS0.out rfl rfl (by kernel_rfl) (by kernel_rfl) (by kernel_rfl) (by decide) (fun _ _ _ h => h) (by kernel_rfl) ?_ ?_
    · intro w2; go_simp
    try simp only [sA, sB, sC]
    refine takeL_S 11 44 (.slice A na c) [15] HS0.out rfl rfl (by kernel_rfl) (by kernel_rfl) (by kernel_rfl) (by decide) (by kernel_rfl) (fun _ _ _ h => h) (by kernel_rfl) ?_ ?_
    · intro w2 hSw; obtain ⟨g0, g1, g2⟩ := hSw; go_simp
    try simp only [sA, sB, sC]
    refine takeL 12 45 (.int .i64 (na : Int)) HS0.out rfl rfl (by kernel_rfl) (by kernel_rfl) (by kernel_rfl) (by decide) (fun _ _ _ h => h) (by kernel_rfl) ?_ ?_
    · intro w2; go_simp
    try simp only [sA, sB, sC]
    refine takeL 13 46 (.bool bq) HS0.out rfl rfl (by kernel_rfl) (by kernel_rfl) (by kernel_rfl) (by decide) (fun _ _ _ h => h) (by kernel_rfl) ?_ ?_
    · intro w2; go_simp
    try simp only [sA, sB, sC]
    refine wpAnyL_ready (rs := [14]) (by kernel_rfl) (by simp) ?_
    refine AllReadyL.cons rfl (fun K hK => ?_) AllReadyL.nil
    go_simp
    refine (flag_any bq 52 X2).mono ?_
    rintro e X3 ⟨rfl, rfl⟩
    refine hK.out _ _ (SO2.out _ HX2.out) (fun hHeld => ?_)
    have HS1 := Lib.hid hHeld
    clear hK K hHeld
    try simp only [sA, sB, sC]
    refine wpAnyL_ready (rs := [15]) (by kernel_rfl) (by simp) ?_
    refine AllReadyL.last rfl (by kernel_rfl) (fun K hK => ?_)
    go_simp
    refine hK.out _ _ ?_
    clear hK K
    try simp only [sA, sB, sC]
    refine wpAnyL_done (by kernel_rfl) ?_ _
    cases bq
    all_goals
      go_wp2
      go_ret
      exact ⟨by rw [HR.out]; rfl, HB1.out.trans (HX2.out.mono HB1.out.size)⟩
end
end Go.Proofs.YtmignlclfbaifaaGreat
