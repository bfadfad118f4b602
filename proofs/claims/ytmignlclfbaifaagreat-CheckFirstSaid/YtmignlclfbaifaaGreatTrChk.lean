/- What the checker's small parts tell: slices.Index and Contains at texts, flag, known, array. -/
import Derived.Test.YtmignlclfbaifaaGreatTrSmall
import Derived.Test.YtmignlclfbaifaaGreatTrTwice
namespace Go.Proofs.YtmignlclfbaifaaGreat
open Go.RowKit

section
set_option maxHeartbeats 1000000
theorem index_text (l : List ByteArray) (s : ByteArray) (v : Value) (w : World) (hv : SlR w (· < w.heap.size) 1 RStr v l) :
    Calls Tryz.prog 71 #[v, .string s] w fun e w' => e = .returned (.int .i64 (findP (fun x => decide (x = s)) l)) ∧ Below w.heap.size w w' := by
  obtain ⟨A, c, hvv, hlc, hcm⟩ := hv.val
  have HV := Lib.hid hv
  clear hv
  subst hvv
  have hlen := Nat.le_trans hlc hcm
  unfold maxLen at hlen
  go_enter Tryz.func71, Tryz.ntmps71
  go_wp2
  go_loopw [5, 8] (fun _ i wr => ∃ k : Nat, k ≤ l.length ∧ i = .int .i64 k ∧ (∀ j (h : j < l.length), j < k → decide (l[j] = s) = false) ∧ Below w.heap.size w wr) (fun _ i _ => l.length - (intOf i).toNat)
  case atStart => exact ⟨0, by omega, rfl, fun j _ h => by omega, Below.refl _ _⟩
  case round =>
    obtain ⟨k, hk, rfl, hno, hb⟩ := hrel
    have HNO := Lib.hid hno
    clear hno
    by_cases hlt : k < l.length
    · have d1 : decide ((k : Int) < (l.length : Int)) = true := decide_eq_true (by omega)
      obtain ⟨b, off, c', hform, _, _, hbl, hel⟩ := HV.out.form (by omega)
      obtain ⟨cs, hcl, hcs, hcell⟩ := hel k hlt
      obtain ⟨rfl, rfl⟩ : A = some ⟨b, off, none⟩ ∧ c = c' := by injection hform with h1 _ h2; exact ⟨h1, h2⟩
      obtain ⟨x, hx⟩ : ∃ x, x = l[k] := ⟨_, rfl⟩
      rw [← hx] at hcs
      obtain rfl : cs = [.string x] := hcs
      have hcw := hcell.keep (hb.block b hbl)
      have i0 : wr.cell? ⟨b, off + k, none⟩ = some (.string x) := by have h := hcw.at_ (j := 0) rfl; simpa using h
      have HX := Lib.hid hx
      have HB := Lib.hid hb
      clear hcell hcw hel hform hx hb
      by_cases hq : x = s
      · have e1 : (s.toList == x.toList) = true := by rw [tl_beq]; exact decide_eq_true hq.symm
        have HQ := Lib.hid hq
        clear hq
        go_wp2
        go_ret
        refine ⟨?_, HB.out⟩
        rw [findP_at (q := fun x => decide (x = s)) hlt (by rw [← HX.out]; exact decide_eq_true HQ.out) HNO.out]
        rfl
      · have e1 : (s.toList == x.toList) = false := by rw [tl_beq]; exact decide_eq_false fun h => hq h.symm
        have HQ := Lib.hid hq
        clear hq
        go_wp2
        go_roundw
        case rel =>
          refine ⟨k + 1, by omega, by go_num, ?_, HB.out⟩
          intro j hj hjk
          by_cases e : j < k
          · exact HNO.out j hj e
          · obtain rfl : j = k := by omega
            rw [← HX.out]; exact decide_eq_false HQ.out
        case measure => simp [intOf]; omega
    · obtain rfl : k = l.length := by omega
      have HB := Lib.hid hb
      clear hb
      go_wp2
      go_ret
      refine ⟨?_, HB.out⟩
      rw [findP_none fun x hx => by obtain ⟨i, hi, rfl⟩ := List.getElem_of_mem hx; exact HNO.out i hi hi]
      rfl
theorem contains_text (l : List ByteArray) (s : ByteArray) (v : Value) (w : World) (hv : SlR w (· < w.heap.size) 1 RStr v l) :
    Calls Tryz.prog 52 #[v, .string s] w fun e w' => e = .returned (.bool (hasS l s)) ∧ Below w.heap.size w w' := by
  have HI := Lib.hid (index_text l s v w hv)
  have hn := findP_nonneg (fun x => decide (x = s)) l
  have HN := Lib.hid hn
  obtain ⟨A, c, rfl, _, _⟩ := hv.val
  clear hv hn
  go_enter Tryz.func52, Tryz.ntmps52
  go_wp2_with (go_at_call 71; refine HI.out.mono ?_; rintro e w' ⟨rfl, hb⟩)
  go_ret
  exact ⟨by unfold hasS; rw [← HN.out]; rfl, hb⟩
end
theorem flag_any (b : Bool) (e : Int) (w : World) : Calls Tryz.prog 74 #[.bool b, .int .i64 e] w fun r w' => r = .returned (.int .i64 (if b then 0 else e)) ∧ w = w' := by
  cases b
  all_goals
    go_enter Tryz.func74, Tryz.ntmps74
    go_wp2
    go_ret
    exact ⟨rfl, rfl⟩
/-- the checker in a block of its own: a program, and the variables of a function -/
structure CkAt (d : Nat) (w : World) (cb : Nat) (p : LProg) (vars : List ByteArray) (A1 A2 A3 : Option Addr) (c1 c2 c3 : Nat) : Prop where
  blk : Blk w cb 90 #[.slice A1 p.arrays.length c1, .slice A2 p.funcs.length c2, .slice A3 vars.length c3]
  arrs : SlR w (· < w.heap.size) 2 RArr (.slice A1 p.arrays.length c1) p.arrays
  funs : SlR w (· < w.heap.size) 4 (RFunc d w (· < w.heap.size)) (.slice A2 p.funcs.length c2) p.funcs
  vrs : SlR w (· < w.heap.size) 1 RStr (.slice A3 vars.length c3) vars
theorem CkAt.below {d : Nat} {w w' : World} {cb : Nat} {p : LProg} {vars : List ByteArray} {A1 A2 A3 : Option Addr} {c1 c2 c3 : Nat} (h : CkAt d w cb p vars A1 A2 A3 c1 c2 c3) (hb : Below w.heap.size w w') : CkAt d w' cb p vars A1 A2 A3 c1 c2 c3 :=
  have up : ∀ b, b < w.heap.size → b < w'.heap.size := fun _ h => Nat.lt_of_lt_of_le h hb.size
  have kp : Keeps (· < w.heap.size) w w' := fun b h => hb.block b h
  ⟨h.blk.below hb h.blk.lt, h.arrs.imp up kp fun _ _ _ r => r, h.funs.imp up kp fun _ _ _ r => r.imp up kp, h.vrs.imp up kp fun _ _ _ r => r⟩
section
variable {d : Nat} {w : World} {cb : Nat} {p : LProg} {vars : List ByteArray} {A1 A2 A3 : Option Addr} {c1 c2 c3 : Nat}
theorem known_any (h : CkAt d w cb p vars A1 A2 A3 c1 c2 c3) (s : ByteArray) : Calls Tryz.prog 75 #[.pointer (some ⟨cb, 0, none⟩), .string s] w fun e w' => e = .returned (.bool (hasS vars s)) ∧ Below w.heap.size w w' := by
  have HC := Lib.hid (contains_text vars s _ w h.vrs)
  have b2 : w.cell? ⟨cb, 2, none⟩ = some (.slice A3 vars.length c3) := h.blk.cell 2
  clear h
  go_enter Tryz.func75, Tryz.ntmps75
  go_wp2_with (go_at_call 52; refine HC.out.mono ?_; rintro e w' ⟨rfl, hb⟩)
  go_ret
  exact ⟨rfl, hb⟩
theorem array_any (h : CkAt d w cb p vars A1 A2 A3 c1 c2 c3) (s : ByteArray) : Calls Tryz.prog 76 #[.pointer (some ⟨cb, 0, none⟩), .string s] w fun e w' => e = .returned (.bool (p.arrays.any fun a => decide (a.1 = s))) ∧ Below w.heap.size w w' := by
  have HC := Lib.hid (arrayL_any p A1 A2 p.funcs.length c1 c2 s w h.arrs)
  have b0 : w.cell? ⟨cb, 0, none⟩ = some (.slice A1 p.arrays.length c1) := h.blk.cell 0
  have b1 : w.cell? ⟨cb, 1, none⟩ = some (.slice A2 p.funcs.length c2) := h.blk.cell 1
  have hn : decide (0 ≤ arrayL p s) = p.arrays.any fun a => decide (a.1 = s) := findP_nonneg _ _
  have HN := Lib.hid hn
  clear h hn
  go_enter Tryz.func76, Tryz.ntmps76
  go_wp2_with (go_at_call 17; refine HC.out.mono ?_; rintro e w' ⟨rfl, hb⟩)
  go_ret
  exact ⟨by rw [← HN.out]; rfl, hb⟩
end
end Go.Proofs.YtmignlclfbaifaaGreat
