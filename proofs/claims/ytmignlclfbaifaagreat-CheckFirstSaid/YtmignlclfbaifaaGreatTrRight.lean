/- What tree.Right tells of programs of bounded depth. Printed by wip/gen_trright.py. -/
import Derived.Test.YtmignlclfbaifaaGreatTrStmts
namespace Go.Proofs.YtmignlclfbaifaaGreat
open Go.RowKit

def arrB (a : ByteArray × Int) : Bool := nameB a.1 && decide (1 ≤ a.2 ∧ a.2 ≤ 1048576)
theorem arrB_low {x : ByteArray × Int} (h : x.2 < 1) : arrB x = false := by
  unfold arrB
  rw [Bool.and_eq_false_iff]
  exact .inr (decide_eq_false fun h2 => by have := h2.1; omega)
theorem arrB_high {x : ByteArray × Int} (h : 1048576 < x.2) : arrB x = false := by
  unfold arrB
  rw [Bool.and_eq_false_iff]
  exact .inr (decide_eq_false fun h2 => by have := h2.2; omega)
theorem arrB_ok {x : ByteArray × Int} (hn : true = nameB x.1) (h1 : ¬ x.2 < 1) (h2 : ¬ 1048576 < x.2) : arrB x = true := by
  unfold arrB
  rw [← hn, Bool.true_and]
  exact decide_eq_true ⟨by omega, by omega⟩
theorem right_eq (D : Nat) (p : LProg) : rightB D p = (p.arrays.all arrB && p.funcs.all (funcB D)) := rfl
theorem all_false {α : Type} {q : α → Bool} {l : List α} {i : Nat} (hi : i < l.length) (h : q l[i] = false) : l.all q = false := by
  rw [List.all_eq_false]
  exact ⟨_, List.getElem_mem hi, by rw [h]; decide⟩
theorem all_true {α : Type} {q : α → Bool} {l : List α} (h : ∀ (j : Nat) (hj : j < l.length), q l[j] = true) : l.all q = true := by
  rw [List.all_eq_true]
  intro x hx
  obtain ⟨i, hi, rfl⟩ := List.getElem_of_mem hx
  exact h i hi
theorem named_one (s : ByteArray) (W : World) (g : Nat) (t : TypeId) (h : Blk W g t #[.string s]) : Calls Tryz.prog 43 #[.slice (some ⟨g, 0, none⟩) 1 1] W fun e w' => e = .returned (.bool (nameB s)) ∧ Below W.heap.size W w' := by
  refine (named_any [s] _ W (SlR.lit [[.string s]] h rfl ⟨⟨rfl, rfl⟩, trivial⟩ rfl h.lt (by simp))).mono ?_
  rintro e w' ⟨rfl, hb⟩
  exact ⟨by simp, hb⟩
set_option maxRecDepth 100000 in
set_option maxHeartbeats 1000000 in
theorem right_any (d : Nat) (p : LProg) (A1 A2 : Option Addr) (c1 c2 : Nat) (w : World) (ha : SlR w (· < w.heap.size) 2 RArr (.slice A1 p.arrays.length c1) p.arrays) (hf : SlR w (· < w.heap.size) 4 (RFunc (d + 1) w (· < w.heap.size)) (.slice A2 p.funcs.length c2) p.funcs) :
    Calls Tryz.prog 27 #[.agg #[.slice A1 p.arrays.length c1, .slice A2 p.funcs.length c2]] w fun e w' => e = .returned (.bool (rightB (d + 1) p)) ∧ Below w.heap.size w w' := by
  have hlen1 : p.arrays.length ≤ maxLen := by obtain ⟨_, _, h, h1, h2⟩ := ha.val; injection h with _ _ e; subst e; omega
  have hlen2 : p.funcs.length ≤ maxLen := by obtain ⟨_, _, h, h1, h2⟩ := hf.val; injection h with _ _ e; subst e; omega
  unfold maxLen at hlen1 hlen2
  have HA := Lib.hid ha
  have HF := Lib.hid hf
  clear ha hf
  go_enter Tryz.func27, Tryz.ntmps27
  go_upto_region 1 with fail
  refine wp_world ?_
  intro W hW
  have hG : Blk W w.heap.size 27 #[.slice A1 p.arrays.length c1, .slice A2 p.funcs.length c2] := by rw [← hW]; exact Blk.new _ _ _
  have hB : Below w.heap.size w W := by rw [← hW]; exact below1 _ _
  have a0 : W.cell? ⟨w.heap.size, 0, none⟩ = some (.slice A1 p.arrays.length c1) := hG.cell 0
  have hlt : w.heap.size < W.heap.size := hG.lt
  have HG := Lib.hid hG
  have HB := Lib.hid hB
  clear hW hG hB
  go_wp2
  go_loopw [4, 10] (fun _ i wr => ∃ k : Nat, k ≤ p.arrays.length ∧ i = .int .i64 k ∧ (∀ j (h : j < p.arrays.length), j < k → arrB p.arrays[j] = true) ∧ Below W.heap.size W wr) (fun _ i _ => p.arrays.length - (intOf i).toNat)
  case atStart => exact ⟨0, by omega, rfl, fun j _ h => by omega, Below.refl _ _⟩
  case round =>
    obtain ⟨k, hk, rfl, hno, hb⟩ := hrel
    have HNO := Lib.hid hno
    clear hno
    by_cases hlt2 : k < p.arrays.length
    · have d1 : decide ((k : Int) < (p.arrays.length : Int)) = true := decide_eq_true (by omega)
      obtain ⟨b, off, c', hform, _, _, hbl, hel⟩ := HA.out.form (by omega)
      obtain ⟨cs, hcl, hcs, hcell⟩ := hel k hlt2
      obtain ⟨rfl, rfl⟩ : A1 = some ⟨b, off, none⟩ ∧ c1 = c' := by injection hform with h1 _ h2; exact ⟨h1, h2⟩
      obtain ⟨x, hx⟩ : ∃ x, x = p.arrays[k] := ⟨_, rfl⟩
      rw [← hx] at hcs
      obtain rfl : cs = [.string x.1, .int .i64 x.2] := hcs
      have hbw : Below w.heap.size w wr := HB.out.trans (hb.mono HB.out.size)
      have hcw := hcell.keep (hbw.block b hbl)
      have i0 : wr.cell? ⟨b, off + k * 2, none⟩ = some (.string x.1) := by have h := hcw.at_ (j := 0) rfl; simpa using h
      have i1 : wr.cell? ⟨b, off + k * 2 + 1, none⟩ = some (.int .i64 x.2) := by have h := hcw.at_ (j := 1) rfl; simpa using h
      obtain ⟨bn, hbn⟩ : ∃ b, b = nameB x.1 := ⟨_, rfl⟩
      have HN : Hid (∀ (W : World) (g : Nat) (t : TypeId), Blk W g t #[.string x.1] → Calls Tryz.prog 43 #[.slice (some ⟨g, 0, none⟩) 1 1] W fun e w' => e = .returned (.bool bn) ∧ Below W.heap.size W w') := Lib.hid (fun W g t h => by rw [hbn]; exact named_one x.1 W g t h)
      have HX := Lib.hid hx
      have HBN := Lib.hid hbn
      have HB2 := Lib.hid hb
      have HBW := Lib.hid hbw
      have hwr : W.heap.size ≤ wr.heap.size := hb.size
      clear hcell hcw hel hform hx hbn hb hbw
      have HFIN : Hid (∀ X, arrB x = false → Below wr.heap.size wr X → Ending.returned (.bool false) = Ending.returned (.bool (rightB (d + 1) p)) ∧ Below w.heap.size w X) := Lib.hid (fun X h hX => by
        refine ⟨?_, HBW.out.trans (hX.mono HBW.out.size)⟩
        rw [right_eq, all_false hlt2 (by rw [← HX.out]; exact h)]
        rfl)

      cases bn with
      | false =>
        go_wp2_with (go_at_call 43; refine (HN.out _ _ _ (Blk.new_at _ _ _ (by simp))).mono ?_; rintro e w1 ⟨rfl, hb1⟩; have HB1 := Lib.hid ((below2 wr _ _).trans (hb1.mono (by simp; omega))); have e1 := (hb1.cell (p := ⟨wr.heap.size, 1, none⟩) (by simp; omega)).trans (((Blk.new wr 53 #[.string x.1, .int .i64 x.2]).alloc _).cell 1); clear hb1)
        go_ret
        exact HFIN.out _ (by unfold arrB; rw [← HBN.out, Bool.false_and]) HB1.out
      | true =>
      by_cases h1 : x.2 < 1
      case pos =>
        have d2 : decide (x.2 < 1) = true := decide_eq_true h1
        have HR : Hid (arrB x = false) := Lib.hid (arrB_low h1)
        clear h1
        go_wp2_with (go_at_call 43; refine (HN.out _ _ _ (Blk.new_at _ _ _ (by simp))).mono ?_; rintro e w1 ⟨rfl, hb1⟩; have HB1 := Lib.hid ((below2 wr _ _).trans (hb1.mono (by simp; omega))); have e1 := (hb1.cell (p := ⟨wr.heap.size, 1, none⟩) (by simp; omega)).trans (((Blk.new wr 53 #[.string x.1, .int .i64 x.2]).alloc _).cell 1); clear hb1)
        go_ret
        exact HFIN.out _ HR.out HB1.out
      have d2 : decide (x.2 < 1) = false := decide_eq_false h1
      by_cases h2 : 1048576 < x.2
      case pos =>
        have d3 : decide (x.2 > 1048576) = true := decide_eq_true h2
        have d4 : decide (1048576 < x.2) = true := decide_eq_true h2
        have HR : Hid (arrB x = false) := Lib.hid (arrB_high h2)
        clear h1 h2
        go_wp2_with (go_at_call 43; refine (HN.out _ _ _ (Blk.new_at _ _ _ (by simp))).mono ?_; rintro e w1 ⟨rfl, hb1⟩; have HB1 := Lib.hid ((below2 wr _ _).trans (hb1.mono (by simp; omega))); have e1 := (hb1.cell (p := ⟨wr.heap.size, 1, none⟩) (by simp; omega)).trans (((Blk.new wr 53 #[.string x.1, .int .i64 x.2]).alloc _).cell 1); clear hb1)
        go_ret
        exact HFIN.out _ HR.out HB1.out
      have d3 : decide (x.2 > 1048576) = false := decide_eq_false h2
      have d4 : decide (1048576 < x.2) = false := decide_eq_false h2
      have HR : Hid (arrB x = true) := Lib.hid (arrB_ok HBN.out h1 h2)
      clear h1 h2
      go_wp2_with (go_at_call 43; refine (HN.out _ _ _ (Blk.new_at _ _ _ (by simp))).mono ?_; rintro e w1 ⟨rfl, hb1⟩; have HB1 := Lib.hid ((below2 wr _ _).trans (hb1.mono (by simp; omega))); have e1 := (hb1.cell (p := ⟨wr.heap.size, 1, none⟩) (by simp; omega)).trans (((Blk.new wr 53 #[.string x.1, .int .i64 x.2]).alloc _).cell 1); clear hb1)
      go_roundw
      case rel =>
        refine ⟨k + 1, by omega, by go_num, ?_, HB2.out.trans (HB1.out.mono HB2.out.size)⟩
        intro j hj hjk
        by_cases e : j < k
        · exact HNO.out j hj e
        · obtain rfl : j = k := by omega
          rw [← HX.out]; exact HR.out
      case measure => simp [intOf]; omega
    · obtain rfl : k = p.arrays.length := by omega
      have HAR : Hid (p.arrays.all arrB = true) := Lib.hid (all_true fun j hj => HNO.out j hj hj)
      have a1 : wr.cell? ⟨w.heap.size, 1, none⟩ = some (.slice A2 p.funcs.length c2) := (hb.cell (p := ⟨w.heap.size, 1, none⟩) hlt).trans (HG.out.cell 1)
      have HB3 := Lib.hid (HB.out.trans (hb.mono HB.out.size))
      clear hb HNO HG a0 hlt HB
      obtain ⟨wo, hwo⟩ : ∃ wo, wo = wr := ⟨_, rfl⟩
      subst hwo
      go_wp2
      have HLEN := Lib.hid hlen2
      go_loopw [6, 33] (fun _ i wr => ∃ k : Nat, k ≤ p.funcs.length ∧ i = .int .i64 k ∧ (∀ j (h : j < p.funcs.length), j < k → funcB (d + 1) p.funcs[j] = true) ∧ Below wo.heap.size wo wr) (fun _ i _ => p.funcs.length - (intOf i).toNat)
      case atStart => exact ⟨0, by omega, rfl, fun j _ h => by omega, Below.refl _ _⟩
      case round =>
        obtain ⟨k, hk, rfl, hno, hb⟩ := hrel
        have HNO := Lib.hid hno
        clear hno
        by_cases hlt2 : k < p.funcs.length
        · have d1 : decide ((k : Int) < (p.funcs.length : Int)) = true := decide_eq_true (by omega)
          obtain ⟨b, off, c', hform, _, _, hbl, hel⟩ := HF.out.form (by omega)
          obtain ⟨cs, hcl, hcs, hcell⟩ := hel k hlt2
          obtain ⟨rfl, rfl⟩ : A2 = some ⟨b, off, none⟩ ∧ c2 = c' := by injection hform with h1 _ h2; exact ⟨h1, h2⟩
          obtain ⟨x, hx⟩ : ∃ x, x = p.funcs[k] := ⟨_, rfl⟩
          rw [← hx] at hcs
          obtain ⟨vp, vl, vb, rfl, h1, h2, h3⟩ := hcs
          obtain ⟨Ap, cp, rfl, _, _⟩ := h1.val
          obtain ⟨Al, cl, rfl, _, _⟩ := h2.val
          obtain ⟨Ab, cb, rfl, _, _⟩ := h3.val
          have hbw : Below w.heap.size w wr := HB3.out.trans (hb.mono HB3.out.size)
          have hcw := hcell.keep (hbw.block b hbl)
          have i0 : wr.cell? ⟨b, off + k * 4, none⟩ = some (.string x.name) := by have h := hcw.at_ (j := 0) rfl; simpa using h
          have i1 : wr.cell? ⟨b, off + k * 4 + 1, none⟩ = some (.slice Ap x.params.length cp) := by have h := hcw.at_ (j := 1) rfl; simpa using h
          have i2 : wr.cell? ⟨b, off + k * 4 + 2, none⟩ = some (.slice Al x.locals.length cl) := by have h := hcw.at_ (j := 2) rfl; simpa using h
          have i3 : wr.cell? ⟨b, off + k * 4 + 3, none⟩ = some (.slice Ab x.body.length cb) := by have h := hcw.at_ (j := 3) rfl; simpa using h
          obtain ⟨bn, hbn⟩ : ∃ b, b = nameB x.name := ⟨_, rfl⟩
          obtain ⟨bp, hbp⟩ : ∃ b, b = x.params.all nameB := ⟨_, rfl⟩
          obtain ⟨bl, hbl2⟩ : ∃ b, b = x.locals.all nameB := ⟨_, rfl⟩
          obtain ⟨bs, hbs⟩ : ∃ b, b = x.body.all (stmtB (d + 1) 40) := ⟨_, rfl⟩
          obtain ⟨np, hnp⟩ : ∃ n, n = x.params.length := ⟨_, rfl⟩
          have HFB : Hid (funcB (d + 1) x = (bn && bp && bl && decide (np ≤ 6) && bs)) := Lib.hid (by rw [hbn, hbp, hbl2, hbs, hnp]; rfl)
          have HN : Hid (∀ (W : World) (g : Nat) (t : TypeId), Blk W g t #[.string x.name] → Calls Tryz.prog 43 #[.slice (some ⟨g, 0, none⟩) 1 1] W fun e w' => e = .returned (.bool bn) ∧ Below W.heap.size W w') := Lib.hid (fun W g t h => by rw [hbn]; exact named_one x.name W g t h)
          rw [← hnp] at i1
          have HP : Hid (∀ X, Below w.heap.size w X → Calls Tryz.prog 43 #[.slice Ap np cp] X fun e w' => e = .returned (.bool bp) ∧ Below X.heap.size X w') := Lib.hid (fun X hX => by rw [hbp, hnp]; exact named_any x.params _ X (h1.imp (fun b h => Nat.lt_of_lt_of_le h hX.size) (fun b h => hX.block b h) fun _ _ _ r => r))
          have HL : Hid (∀ X, Below w.heap.size w X → Calls Tryz.prog 43 #[.slice Al x.locals.length cl] X fun e w' => e = .returned (.bool bl) ∧ Below X.heap.size X w') := Lib.hid (fun X hX => by rw [hbl2]; exact named_any x.locals _ X (h2.imp (fun b h => Nat.lt_of_lt_of_le h hX.size) (fun b h => hX.block b h) fun _ _ _ r => r))
          have HS : Hid (∀ X, Below w.heap.size w X → Calls Tryz.prog 44 #[.slice Ab x.body.length cb, .int .i64 40] X fun e w' => e = .returned (.bool bs) ∧ Below X.heap.size X w') := Lib.hid (fun X hX => by rw [hbs]; exact stmts_any d 40 (stmt_any d 40 (by decide)) x.body _ X (h3.imp (fun b h => Nat.lt_of_lt_of_le h hX.size) (fun b h => hX.block b h) fun _ _ _ r => RStmt.imp (fun b h => Nat.lt_of_lt_of_le h hX.size) (fun b h => hX.block b h) _ r))
          have HX := Lib.hid hx
          have HB4 := Lib.hid hb
          have HBW := Lib.hid hbw
          have hwr : w.heap.size ≤ wr.heap.size := hbw.size
          clear hcell hcw hel hform hx hb hbw h1 h2 h3 hbn hbp hbl2 hbs hnp
          have HFIN : Hid (∀ X, funcB (d + 1) x = false → Below wr.heap.size wr X → Ending.returned (.bool false) = Ending.returned (.bool (rightB (d + 1) p)) ∧ Below w.heap.size w X) := Lib.hid (fun X h hX => by
            refine ⟨?_, HBW.out.trans (hX.mono HBW.out.size)⟩
            rw [right_eq, HAR.out, all_false hlt2 (by rw [← HX.out]; exact h)]
            rfl)
          have tok0 : Hid True := Lib.hid trivial
          have ef : ∀ X, Below wr.heap.size wr X → Below w.heap.size w X := fun X hX => HBW.out.trans (hX.mono HBW.out.size)
          have EF := Lib.hid ef
          clear ef
          cases bn with
          | false =>
            have HR : Hid (funcB (d + 1) x = false) := Lib.hid (by rw [HFB.out]; simp)
            go_wp2_with (first | (have _t := tok0; go_at_call 43; refine (HN.out _ _ _ (Blk.new_at _ _ _ (by simp))).mono ?_; clear _t tok0; rintro e w1 ⟨rfl, hb1⟩; have HB1 := Lib.hid ((below2 wr _ _).trans (hb1.mono (by simp; omega))); have HSZ1 : Hid (wr.heap.size + 1 ≤ w1.heap.size) := Lib.hid (by have := hb1.size; simp at this; omega); have c11 := (hb1.cell (p := ⟨wr.heap.size, 1, none⟩) (by simp; omega)).trans (((Blk.new wr 49 #[.string x.name, .slice Ap np cp, .slice Al x.locals.length cl, .slice Ab x.body.length cb]).alloc _).cell 1); have c21 := (hb1.cell (p := ⟨wr.heap.size, 2, none⟩) (by simp; omega)).trans (((Blk.new wr 49 #[.string x.name, .slice Ap np cp, .slice Al x.locals.length cl, .slice Ab x.body.length cb]).alloc _).cell 2); have c31 := (hb1.cell (p := ⟨wr.heap.size, 3, none⟩) (by simp; omega)).trans (((Blk.new wr 49 #[.string x.name, .slice Ap np cp, .slice Al x.locals.length cl, .slice Ab x.body.length cb]).alloc _).cell 3); have tok1 : Hid True := Lib.hid trivial; clear hb1))
            go_ret
            exact HFIN.out _ HR.out HB1.out
          | true =>
          cases bp with
          | false =>
            have HR : Hid (funcB (d + 1) x = false) := Lib.hid (by rw [HFB.out]; simp)
            go_wp2_with (first | (have _t := tok0; go_at_call 43; refine (HN.out _ _ _ (Blk.new_at _ _ _ (by simp))).mono ?_; clear _t tok0; rintro e w1 ⟨rfl, hb1⟩; have HB1 := Lib.hid ((below2 wr _ _).trans (hb1.mono (by simp; omega))); have HSZ1 : Hid (wr.heap.size + 1 ≤ w1.heap.size) := Lib.hid (by have := hb1.size; simp at this; omega); have c11 := (hb1.cell (p := ⟨wr.heap.size, 1, none⟩) (by simp; omega)).trans (((Blk.new wr 49 #[.string x.name, .slice Ap np cp, .slice Al x.locals.length cl, .slice Ab x.body.length cb]).alloc _).cell 1); have c21 := (hb1.cell (p := ⟨wr.heap.size, 2, none⟩) (by simp; omega)).trans (((Blk.new wr 49 #[.string x.name, .slice Ap np cp, .slice Al x.locals.length cl, .slice Ab x.body.length cb]).alloc _).cell 2); have c31 := (hb1.cell (p := ⟨wr.heap.size, 3, none⟩) (by simp; omega)).trans (((Blk.new wr 49 #[.string x.name, .slice Ap np cp, .slice Al x.locals.length cl, .slice Ab x.body.length cb]).alloc _).cell 3); have tok1 : Hid True := Lib.hid trivial; clear hb1) | (have _t := tok1; go_at_call 43; refine (HP.out _ (EF.out _ HB1.out)).mono ?_; clear _t tok1; rintro e w2 ⟨rfl, hb2⟩; have HB2 := Lib.hid (HB1.out.trans (hb2.mono HB1.out.size)); have HSZ2 : Hid (wr.heap.size + 1 ≤ w2.heap.size) := Lib.hid (Nat.le_trans HSZ1.out hb2.size); have c12 := (hb2.cell (p := ⟨wr.heap.size, 1, none⟩) HSZ1.out).trans c11; have c22 := (hb2.cell (p := ⟨wr.heap.size, 2, none⟩) HSZ1.out).trans c21; have c32 := (hb2.cell (p := ⟨wr.heap.size, 3, none⟩) HSZ1.out).trans c31; have tok2 : Hid True := Lib.hid trivial; clear hb2))
            go_ret
            exact HFIN.out _ HR.out HB2.out
          | true =>
          cases bl with
          | false =>
            have HR : Hid (funcB (d + 1) x = false) := Lib.hid (by rw [HFB.out]; simp)
            go_wp2_with (first | (have _t := tok0; go_at_call 43; refine (HN.out _ _ _ (Blk.new_at _ _ _ (by simp))).mono ?_; clear _t tok0; rintro e w1 ⟨rfl, hb1⟩; have HB1 := Lib.hid ((below2 wr _ _).trans (hb1.mono (by simp; omega))); have HSZ1 : Hid (wr.heap.size + 1 ≤ w1.heap.size) := Lib.hid (by have := hb1.size; simp at this; omega); have c11 := (hb1.cell (p := ⟨wr.heap.size, 1, none⟩) (by simp; omega)).trans (((Blk.new wr 49 #[.string x.name, .slice Ap np cp, .slice Al x.locals.length cl, .slice Ab x.body.length cb]).alloc _).cell 1); have c21 := (hb1.cell (p := ⟨wr.heap.size, 2, none⟩) (by simp; omega)).trans (((Blk.new wr 49 #[.string x.name, .slice Ap np cp, .slice Al x.locals.length cl, .slice Ab x.body.length cb]).alloc _).cell 2); have c31 := (hb1.cell (p := ⟨wr.heap.size, 3, none⟩) (by simp; omega)).trans (((Blk.new wr 49 #[.string x.name, .slice Ap np cp, .slice Al x.locals.length cl, .slice Ab x.body.length cb]).alloc _).cell 3); have tok1 : Hid True := Lib.hid trivial; clear hb1) | (have _t := tok1; go_at_call 43; refine (HP.out _ (EF.out _ HB1.out)).mono ?_; clear _t tok1; rintro e w2 ⟨rfl, hb2⟩; have HB2 := Lib.hid (HB1.out.trans (hb2.mono HB1.out.size)); have HSZ2 : Hid (wr.heap.size + 1 ≤ w2.heap.size) := Lib.hid (Nat.le_trans HSZ1.out hb2.size); have c12 := (hb2.cell (p := ⟨wr.heap.size, 1, none⟩) HSZ1.out).trans c11; have c22 := (hb2.cell (p := ⟨wr.heap.size, 2, none⟩) HSZ1.out).trans c21; have c32 := (hb2.cell (p := ⟨wr.heap.size, 3, none⟩) HSZ1.out).trans c31; have tok2 : Hid True := Lib.hid trivial; clear hb2) | (have _t := tok2; go_at_call 43; refine (HL.out _ (EF.out _ HB2.out)).mono ?_; clear _t tok2; rintro e w3 ⟨rfl, hb3⟩; have HB3_ := Lib.hid (HB2.out.trans (hb3.mono HB2.out.size)); have HSZ3 : Hid (wr.heap.size + 1 ≤ w3.heap.size) := Lib.hid (Nat.le_trans HSZ2.out hb3.size); have c13 := (hb3.cell (p := ⟨wr.heap.size, 1, none⟩) HSZ2.out).trans c12; have c23 := (hb3.cell (p := ⟨wr.heap.size, 2, none⟩) HSZ2.out).trans c22; have c33 := (hb3.cell (p := ⟨wr.heap.size, 3, none⟩) HSZ2.out).trans c32; clear hb3))
            go_ret
            exact HFIN.out _ HR.out HB3_.out
          | true =>
          by_cases hn6 : np ≤ 6
          case neg =>
            have d2 : decide ((np : Int) > 6) = true := decide_eq_true (by omega)
            have d3 : decide (6 < (np : Int)) = true := decide_eq_true (by omega)
            have HR : Hid (funcB (d + 1) x = false) := Lib.hid (by rw [HFB.out]; simp [hn6])
            have hn7 : 6 < np := by omega
            clear hn6
            go_wp2_with (first | (have _t := tok0; go_at_call 43; refine (HN.out _ _ _ (Blk.new_at _ _ _ (by simp))).mono ?_; clear _t tok0; rintro e w1 ⟨rfl, hb1⟩; have HB1 := Lib.hid ((below2 wr _ _).trans (hb1.mono (by simp; omega))); have HSZ1 : Hid (wr.heap.size + 1 ≤ w1.heap.size) := Lib.hid (by have := hb1.size; simp at this; omega); have c11 := (hb1.cell (p := ⟨wr.heap.size, 1, none⟩) (by simp; omega)).trans (((Blk.new wr 49 #[.string x.name, .slice Ap np cp, .slice Al x.locals.length cl, .slice Ab x.body.length cb]).alloc _).cell 1); have c21 := (hb1.cell (p := ⟨wr.heap.size, 2, none⟩) (by simp; omega)).trans (((Blk.new wr 49 #[.string x.name, .slice Ap np cp, .slice Al x.locals.length cl, .slice Ab x.body.length cb]).alloc _).cell 2); have c31 := (hb1.cell (p := ⟨wr.heap.size, 3, none⟩) (by simp; omega)).trans (((Blk.new wr 49 #[.string x.name, .slice Ap np cp, .slice Al x.locals.length cl, .slice Ab x.body.length cb]).alloc _).cell 3); have tok1 : Hid True := Lib.hid trivial; clear hb1) | (have _t := tok1; go_at_call 43; refine (HP.out _ (EF.out _ HB1.out)).mono ?_; clear _t tok1; rintro e w2 ⟨rfl, hb2⟩; have HB2 := Lib.hid (HB1.out.trans (hb2.mono HB1.out.size)); have HSZ2 : Hid (wr.heap.size + 1 ≤ w2.heap.size) := Lib.hid (Nat.le_trans HSZ1.out hb2.size); have c12 := (hb2.cell (p := ⟨wr.heap.size, 1, none⟩) HSZ1.out).trans c11; have c22 := (hb2.cell (p := ⟨wr.heap.size, 2, none⟩) HSZ1.out).trans c21; have c32 := (hb2.cell (p := ⟨wr.heap.size, 3, none⟩) HSZ1.out).trans c31; have tok2 : Hid True := Lib.hid trivial; clear hb2) | (have _t := tok2; go_at_call 43; refine (HL.out _ (EF.out _ HB2.out)).mono ?_; clear _t tok2; rintro e w3 ⟨rfl, hb3⟩; have HB3_ := Lib.hid (HB2.out.trans (hb3.mono HB2.out.size)); have HSZ3 : Hid (wr.heap.size + 1 ≤ w3.heap.size) := Lib.hid (Nat.le_trans HSZ2.out hb3.size); have c13 := (hb3.cell (p := ⟨wr.heap.size, 1, none⟩) HSZ2.out).trans c12; have c23 := (hb3.cell (p := ⟨wr.heap.size, 2, none⟩) HSZ2.out).trans c22; have c33 := (hb3.cell (p := ⟨wr.heap.size, 3, none⟩) HSZ2.out).trans c32; clear hb3))
            go_ret
            exact HFIN.out _ HR.out HB3_.out
          have d2 : decide ((np : Int) > 6) = false := decide_eq_false (by omega)
          have d3 : decide (6 < (np : Int)) = false := decide_eq_false (by omega)
          have hn7 : ¬ 6 < np := by omega
          have HFB2 : Hid (funcB (d + 1) x = bs) := Lib.hid (by rw [HFB.out]; simp [hn6])
          clear hn6 HFB
          cases bs with
          | false =>
            go_wp2_with (first | (have _t := tok0; go_at_call 43; refine (HN.out _ _ _ (Blk.new_at _ _ _ (by simp))).mono ?_; clear _t tok0; rintro e w1 ⟨rfl, hb1⟩; have HB1 := Lib.hid ((below2 wr _ _).trans (hb1.mono (by simp; omega))); have HSZ1 : Hid (wr.heap.size + 1 ≤ w1.heap.size) := Lib.hid (by have := hb1.size; simp at this; omega); have c11 := (hb1.cell (p := ⟨wr.heap.size, 1, none⟩) (by simp; omega)).trans (((Blk.new wr 49 #[.string x.name, .slice Ap np cp, .slice Al x.locals.length cl, .slice Ab x.body.length cb]).alloc _).cell 1); have c21 := (hb1.cell (p := ⟨wr.heap.size, 2, none⟩) (by simp; omega)).trans (((Blk.new wr 49 #[.string x.name, .slice Ap np cp, .slice Al x.locals.length cl, .slice Ab x.body.length cb]).alloc _).cell 2); have c31 := (hb1.cell (p := ⟨wr.heap.size, 3, none⟩) (by simp; omega)).trans (((Blk.new wr 49 #[.string x.name, .slice Ap np cp, .slice Al x.locals.length cl, .slice Ab x.body.length cb]).alloc _).cell 3); have tok1 : Hid True := Lib.hid trivial; clear hb1) | (have _t := tok1; go_at_call 43; refine (HP.out _ (EF.out _ HB1.out)).mono ?_; clear _t tok1; rintro e w2 ⟨rfl, hb2⟩; have HB2 := Lib.hid (HB1.out.trans (hb2.mono HB1.out.size)); have HSZ2 : Hid (wr.heap.size + 1 ≤ w2.heap.size) := Lib.hid (Nat.le_trans HSZ1.out hb2.size); have c12 := (hb2.cell (p := ⟨wr.heap.size, 1, none⟩) HSZ1.out).trans c11; have c22 := (hb2.cell (p := ⟨wr.heap.size, 2, none⟩) HSZ1.out).trans c21; have c32 := (hb2.cell (p := ⟨wr.heap.size, 3, none⟩) HSZ1.out).trans c31; have tok2 : Hid True := Lib.hid trivial; clear hb2) | (have _t := tok2; go_at_call 43; refine (HL.out _ (EF.out _ HB2.out)).mono ?_; clear _t tok2; rintro e w3 ⟨rfl, hb3⟩; have HB3_ := Lib.hid (HB2.out.trans (hb3.mono HB2.out.size)); have HSZ3 : Hid (wr.heap.size + 1 ≤ w3.heap.size) := Lib.hid (Nat.le_trans HSZ2.out hb3.size); have c13 := (hb3.cell (p := ⟨wr.heap.size, 1, none⟩) HSZ2.out).trans c12; have c23 := (hb3.cell (p := ⟨wr.heap.size, 2, none⟩) HSZ2.out).trans c22; have c33 := (hb3.cell (p := ⟨wr.heap.size, 3, none⟩) HSZ2.out).trans c32; clear hb3) | (go_at_call 44; refine (HS.out _ (EF.out _ HB3_.out)).mono ?_; rintro e w4 ⟨rfl, hb4⟩; have HB4_ := Lib.hid (HB3_.out.trans (hb4.mono HB3_.out.size)); clear hb4))
            go_ret
            exact HFIN.out _ HFB2.out HB4_.out
          | true =>
            go_wp2_with (first | (have _t := tok0; go_at_call 43; refine (HN.out _ _ _ (Blk.new_at _ _ _ (by simp))).mono ?_; clear _t tok0; rintro e w1 ⟨rfl, hb1⟩; have HB1 := Lib.hid ((below2 wr _ _).trans (hb1.mono (by simp; omega))); have HSZ1 : Hid (wr.heap.size + 1 ≤ w1.heap.size) := Lib.hid (by have := hb1.size; simp at this; omega); have c11 := (hb1.cell (p := ⟨wr.heap.size, 1, none⟩) (by simp; omega)).trans (((Blk.new wr 49 #[.string x.name, .slice Ap np cp, .slice Al x.locals.length cl, .slice Ab x.body.length cb]).alloc _).cell 1); have c21 := (hb1.cell (p := ⟨wr.heap.size, 2, none⟩) (by simp; omega)).trans (((Blk.new wr 49 #[.string x.name, .slice Ap np cp, .slice Al x.locals.length cl, .slice Ab x.body.length cb]).alloc _).cell 2); have c31 := (hb1.cell (p := ⟨wr.heap.size, 3, none⟩) (by simp; omega)).trans (((Blk.new wr 49 #[.string x.name, .slice Ap np cp, .slice Al x.locals.length cl, .slice Ab x.body.length cb]).alloc _).cell 3); have tok1 : Hid True := Lib.hid trivial; clear hb1) | (have _t := tok1; go_at_call 43; refine (HP.out _ (EF.out _ HB1.out)).mono ?_; clear _t tok1; rintro e w2 ⟨rfl, hb2⟩; have HB2 := Lib.hid (HB1.out.trans (hb2.mono HB1.out.size)); have HSZ2 : Hid (wr.heap.size + 1 ≤ w2.heap.size) := Lib.hid (Nat.le_trans HSZ1.out hb2.size); have c12 := (hb2.cell (p := ⟨wr.heap.size, 1, none⟩) HSZ1.out).trans c11; have c22 := (hb2.cell (p := ⟨wr.heap.size, 2, none⟩) HSZ1.out).trans c21; have c32 := (hb2.cell (p := ⟨wr.heap.size, 3, none⟩) HSZ1.out).trans c31; have tok2 : Hid True := Lib.hid trivial; clear hb2) | (have _t := tok2; go_at_call 43; refine (HL.out _ (EF.out _ HB2.out)).mono ?_; clear _t tok2; rintro e w3 ⟨rfl, hb3⟩; have HB3_ := Lib.hid (HB2.out.trans (hb3.mono HB2.out.size)); have HSZ3 : Hid (wr.heap.size + 1 ≤ w3.heap.size) := Lib.hid (Nat.le_trans HSZ2.out hb3.size); have c13 := (hb3.cell (p := ⟨wr.heap.size, 1, none⟩) HSZ2.out).trans c12; have c23 := (hb3.cell (p := ⟨wr.heap.size, 2, none⟩) HSZ2.out).trans c22; have c33 := (hb3.cell (p := ⟨wr.heap.size, 3, none⟩) HSZ2.out).trans c32; clear hb3) | (go_at_call 44; refine (HS.out _ (EF.out _ HB3_.out)).mono ?_; rintro e w4 ⟨rfl, hb4⟩; have HB4_ := Lib.hid (HB3_.out.trans (hb4.mono HB3_.out.size)); clear hb4))
            go_roundw
            case rel =>
              refine ⟨k + 1, by omega, by go_num, ?_, HB4.out.trans (HB4_.out.mono HB4.out.size)⟩
              intro j hj hjk
              by_cases e : j < k
              · exact HNO.out j hj e
              · obtain rfl : j = k := by omega
                rw [← HX.out]; exact HFB2.out
            case measure => simp [intOf]; omega
        · obtain rfl : k = p.funcs.length := by omega
          have HR : Hid (rightB (d + 1) p = true) := Lib.hid (by rw [right_eq, HAR.out, all_true fun j hj => HNO.out j hj hj]; rfl)
          have HB5 := Lib.hid (HB3.out.trans (hb.mono HB3.out.size))
          clear hb HNO HAR
          go_wp2
          go_ret
          exact ⟨by rw [HR.out]; rfl, HB5.out⟩
end Go.Proofs.YtmignlclfbaifaaGreat
