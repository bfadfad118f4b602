/- What flow.may does, at any function that may be: it says so. -/
import Derived.Test.YtknccacfhknnaaaGreatFlowUses
namespace Go.Proofs.YtknccacfhknnaaaGreat
open Go.RowKit

structure GoodIns (x : LIns) : Prop where
  uses : ∀ n ∈ usesL x, placeP n = true
  sets : ∀ n ∈ setsL x, placeP n = true
  args : x.args.length ≤ 1000
structure GoodB (n : Nat) (b : LBlock) : Prop where
  next : ∀ k ∈ nextL b.term, 0 ≤ k ∧ k < n
  wants : ∀ k ∈ wantsL b.term, placeP k = true
  ins : ∀ x ∈ b.ins, GoodIns x
def GoodF (f : LFlow) : Prop := ∀ b ∈ f.blocks, GoodB f.blocks.length b

theorem any_false {p : Int → Bool} {l : List Int} (h : ∀ n ∈ l, p n = false) : l.any p = false := by
  rw [Bool.eq_false_iff]
  intro e
  obtain ⟨x, hx, hp⟩ := List.any_eq_true.1 e
  rw [h x hx] at hp
  cases hp
theorem con_odd_no (l : List Int) (h : ∀ n ∈ l, placeP n = true) (v : Value) (ok : Nat → Prop) (w : World) (hok : ∀ b, ok b → b < w.heap.size) (hv : SlR w ok 1 RInt v l) :
    Calls Tryz.prog 45 #[v, .func (.func 43) #[] #[]] w fun e w' => e = .returned (.bool false) ∧ Below w.heap.size w w' := by
  have h1 := con_odd l v (fun n => !placeP n) w (hv.imp hok (Keeps.refl _ _) (fun _ _ _ r => r)) (odd_pred l w)
  rw [any_false (fun n hn => by rw [h n hn]; rfl)] at h1
  exact h1
theorem con_far_no (l : List Int) (fb m c : Nat) (A : Option Addr) (h : ∀ n ∈ l, 0 ≤ n ∧ n < m) (v : Value) (ok : Nat → Prop) (w : World) (hok : ∀ b, ok b → b < w.heap.size) (hv : SlR w ok 1 RInt v l) (hf : w.cell? ⟨fb, 3, none⟩ = some (.slice A m c)) :
    Calls Tryz.prog 45 #[v, .func (.func 46) #[] #[.pointer (some ⟨fb, 0, none⟩)]] w fun e w' => e = .returned (.bool false) ∧ Below w.heap.size w w' := by
  have h1 := con_far l v fb (fun n => decide (n < 0 ∨ (m : Int) ≤ n)) w (hv.imp hok (Keeps.refl _ _) (fun _ _ _ r => r)) (far_pred l fb A m c w hf)
  rw [any_false (fun n hn => decide_eq_false (by have := h n hn; omega))] at h1
  exact h1

set_option maxRecDepth 100000 in
set_option maxHeartbeats 4000000 in
theorem may_any (f : LFlow) (hg : GoodF f) (vb : Value) (w : World) (hv : SlR w (· < w.heap.size) 5 (RBlock w (· < w.heap.size)) vb f.blocks) :
    Calls Tryz.prog 26 #[.agg #[.string f.name, .int .i64 f.params, .int .i64 f.values, vb]] w fun e w' => e = .returned (.bool true) ∧ Below w.heap.size w w' := by
  obtain ⟨A, c, hvr, hlc, hcm⟩ := hv.val
  have HV := Lib.hid hv
  have HG := Lib.hid hg
  clear hv hg
  subst hvr
  have hlen := Nat.le_trans hlc hcm
  unfold maxLen at hlen
  generalize hn : f.blocks.length = n at *
  have HN := Lib.hid hn
  clear hn
  go_enter Tryz.func26, Tryz.ntmps26
  go_wp2_with fail
  refine wp_world ?_
  intro W hW
  have hst : Below w.heap.size w W ∧ Blk W w.heap.size 35 #[.string f.name, .int .i64 f.params, .int .i64 f.values, .slice A n c] := by
    rw [← hW]
    exact ⟨below1 _ _, Blk.new_at _ _ _ rfl⟩
  clear hW
  have c3 := hst.2.cell 3
  go_wp2_with fail
  go_loopw [11] (fun i wr => ∃ k : Nat, k ≤ n ∧ i = .int .i64 k ∧ Below w.heap.size w wr ∧ Blk wr w.heap.size 35 #[.string f.name, .int .i64 f.params, .int .i64 f.values, .slice A n c]) (fun i _ => n - (intOf i).toNat)
  case atStart => exact ⟨0, by omega, rfl, hst.1, hst.2⟩
  case round =>
    obtain ⟨k, hk, rfl, hb, hF⟩ := hrel
    clear hst c3
    obtain ⟨wo, hwo⟩ : ∃ wo, wo = wr := ⟨_, rfl⟩
    subst hwo
    by_cases hlt : k < n
    · have d0 : decide ((k : Int) < (n : Int)) = true := decide_eq_true (by omega)
      have hlt' : k < f.blocks.length := by rw [HN.out]; exact hlt
      obtain ⟨b, off, c', hform, _, _, hbl, hel⟩ := HV.out.form (by omega)
      obtain ⟨cs, hcl, ⟨vi, hcs, hsl⟩, hcell⟩ := hel k hlt'
      subst hcs
      obtain ⟨rfl, rfl⟩ : A = some ⟨b, off, none⟩ ∧ c = c' := by injection hform with h1 _ h2; exact ⟨h1, h2⟩
      obtain ⟨x, hx⟩ : ∃ x, x = f.blocks[k] := ⟨_, rfl⟩
      rw [← hx] at hcell hsl
      have hG : GoodB n x := by rw [hx, ← HN.out]; exact HG.out _ (List.getElem_mem _)
      have HX := Lib.hid hx
      have hcw : Cells wo b (off + k * 5) (vi :: termCells x.term) := hcell.keep (hb.block b hbl)
      have i0 : wo.cell? ⟨b, off + k * 5, none⟩ = some vi := hcw.at_ (j := 0) rfl
      have i1 : wo.cell? ⟨b, off + k * 5 + 1, none⟩ = some (.int .i64 x.term.kind) := hcw.at_ (j := 1) rfl
      have i2 : wo.cell? ⟨b, off + k * 5 + 2, none⟩ = some (.int .i64 x.term.a) := hcw.at_ (j := 2) rfl
      have i3 : wo.cell? ⟨b, off + k * 5 + 3, none⟩ = some (.int .i64 x.term.to) := hcw.at_ (j := 3) rfl
      have i4 : wo.cell? ⟨b, off + k * 5 + 4, none⟩ = some (.int .i64 x.term.els) := hcw.at_ (j := 4) rfl
      obtain ⟨A2, c2, hvi, h21, h22⟩ := hsl.val
      subst hvi
      have HSL := Lib.hid hsl
      clear hcell hel hform hcw hcl hx hsl
      go_upto_region 5 with fail
      refine wp_world ?_
      intro W1 hW1
      have hB1 : Below wo.heap.size wo W1 := by rw [← hW1]; exact below1 _ _
      have hF1 : Blk W1 w.heap.size 35 #[.string f.name, .int .i64 f.params, .int .i64 f.values, .slice (some ⟨b, off, none⟩) n c] := by rw [← hW1]; exact hF.alloc _
      have hK1 : Blk W1 wo.heap.size 48 #[.slice A2 x.ins.length c2, .int .i64 x.term.kind, .int .i64 x.term.a, .int .i64 x.term.to, .int .i64 x.term.els] := by rw [← hW1]; exact Blk.new_at _ _ _ rfl
      clear hW1 i0 i1 i2 i3 i4
      have j0 := hK1.cell 0
      have j1 : W1.cell? ⟨wo.heap.size, 1, none⟩ = some (.int .i64 x.term.kind) := hK1.cell 1
      have j2 : W1.cell? ⟨wo.heap.size, 2, none⟩ = some (.int .i64 x.term.a) := hK1.cell 2
      have j3 : W1.cell? ⟨wo.heap.size, 3, none⟩ = some (.int .i64 x.term.to) := hK1.cell 3
      have j4 : W1.cell? ⟨wo.heap.size, 4, none⟩ = some (.int .i64 x.term.els) := hK1.cell 4
      go_wp2_with (first | (go_at_call 31; refine (next_any x.term _).mono ?_; rintro e w1 ⟨v1, rfl, hb1, hs1⟩; have F2 := hF1.below hb1 hF1.lt; have K2 := hK1.below hb1 hK1.lt; have C1 := con_far_no (nextL x.term) w.heap.size n c (some ⟨b, off, none⟩) hG.next v1 _ w1 (fun _ h => h.2) hs1 (F2.cell 3)) | (go_at_call 47; refine (wants_any x.term _).mono ?_; rintro e w3 ⟨v3, rfl, hb3, hs3⟩; have F4 := F3.below hb3 F3.lt; have K4 := K3.below hb3 K3.lt; have C2 := con_odd_no (wantsL x.term) hG.wants v3 _ w3 (fun _ h => h.2) hs3) | (go_at_call 45; refine C2.mono ?_; clear C2; rintro e w4 ⟨rfl, hb4⟩; have F5 := F4.below hb4 F4.lt; have K5 := K4.below hb4 K4.lt; have l0 := K5.cell 0) | (go_at_call 45; refine C1.mono ?_; clear C1; rintro e w2 ⟨rfl, hb2⟩; have F3 := F2.below hb2 F2.lt; have K3 := K2.below hb2 K2.lt; have k1 : w2.cell? ⟨wo.heap.size, 1, none⟩ = some (.int .i64 x.term.kind) := K3.cell 1; have k2 : w2.cell? ⟨wo.heap.size, 2, none⟩ = some (.int .i64 x.term.a) := K3.cell 2; have k3 : w2.cell? ⟨wo.heap.size, 3, none⟩ = some (.int .i64 x.term.to) := K3.cell 3; have k4 : w2.cell? ⟨wo.heap.size, 4, none⟩ = some (.int .i64 x.term.els) := K3.cell 4))
      have q1 := hb.trans (hB1.mono hb.size)
      have q2 := q1.trans (hb1.mono q1.size)
      have q3 := q2.trans (hb2.mono q2.size)
      have q4 := q3.trans (hb3.mono q3.size)
      have q5 := q4.trans (hb4.mono q4.size)
      have HGI := Lib.hid hG.ins
      clear hb hB1 hb1 hb2 hb3 hb4 q1 q2 q3 q4 hF hF1 F2 F3 F4 hK1 K2 K3 K4 K5 j0 j1 j2 j3 j4 k1 k2 k3 k4 l0 hs1 hs3 hG
      go_loopw [30] (fun i wr => ∃ j : Nat, j ≤ x.ins.length ∧ i = .int .i64 j ∧ Below w.heap.size w wr ∧ Blk wr w.heap.size 35 #[.string f.name, .int .i64 f.params, .int .i64 f.values, .slice (some ⟨b, off, none⟩) n c]) (fun i _ => x.ins.length - (intOf i).toNat)
      case atStart => exact ⟨0, by omega, rfl, q5, F5⟩
      case round =>
        obtain ⟨j, hj, rfl, hb, hF⟩ := hrel
        clear q5 F5
        have hil := Nat.le_trans h21 h22
        unfold maxLen at hil
        by_cases hlt2 : j < x.ins.length
        · have d1 : decide ((j : Int) < (x.ins.length : Int)) = true := decide_eq_true (by omega)
          obtain ⟨b2, off2, c2', hform, _, _, hbl2, hel⟩ := HSL.out.form (by omega)
          obtain ⟨cs, hcl, ⟨va, hcs, hsa⟩, hcell⟩ := hel j hlt2
          subst hcs
          obtain ⟨rfl, rfl⟩ : A2 = some ⟨b2, off2, none⟩ ∧ c2 = c2' := by injection hform with h1 _ h2; exact ⟨h1, h2⟩
          have hgi := HGI.out x.ins[j] (List.getElem_mem _)
          obtain ⟨y, hy⟩ : ∃ y, y = x.ins[j] := ⟨_, rfl⟩
          rw [← hy] at hcell hsa hgi
          have hcw : Cells wr b2 (off2 + j * 8) (insCells y va) := hcell.keep (hb.block b2 hbl2)
          have i0 : wr.cell? ⟨b2, off2 + j * 8, none⟩ = some (.int .i64 y.kind) := hcw.at_ (j := 0) rfl
          have i1 : wr.cell? ⟨b2, off2 + j * 8 + 1, none⟩ = some (.int .i64 y.d) := hcw.at_ (j := 1) rfl
          have i2 : wr.cell? ⟨b2, off2 + j * 8 + 2, none⟩ = some (.int .i64 y.a) := hcw.at_ (j := 2) rfl
          have i3 : wr.cell? ⟨b2, off2 + j * 8 + 3, none⟩ = some (.int .i64 y.b) := hcw.at_ (j := 3) rfl
          have i4 : wr.cell? ⟨b2, off2 + j * 8 + 4, none⟩ = some (.int .i64 y.op) := hcw.at_ (j := 4) rfl
          have i5 : wr.cell? ⟨b2, off2 + j * 8 + 5, none⟩ = some (.int .i64 y.n) := hcw.at_ (j := 5) rfl
          have i6 : wr.cell? ⟨b2, off2 + j * 8 + 6, none⟩ = some (.string y.name) := hcw.at_ (j := 6) rfl
          have i7 : wr.cell? ⟨b2, off2 + j * 8 + 7, none⟩ = some va := hcw.at_ (j := 7) rfl
          obtain ⟨A3, n3, c3, hva⟩ : ∃ A n c, va = .slice A n c := by obtain ⟨A3, c3, h, _, _⟩ := hsa.val; exact ⟨_, _, _, h⟩
          subst hva
          clear hcell hel hform hcw hcl hy
          go_upto_region 10 with fail
          refine wp_world ?_
          intro W1 hW1
          have hB1 : Below wr.heap.size wr W1 := by rw [← hW1]; exact below1 _ _
          have hF1 : Blk W1 w.heap.size 35 #[.string f.name, .int .i64 f.params, .int .i64 f.values, .slice (some ⟨b, off, none⟩) n c] := by rw [← hW1]; exact hF.alloc _
          have hK1 : Blk W1 wr.heap.size 44 #[.int .i64 y.kind, .int .i64 y.d, .int .i64 y.a, .int .i64 y.b, .int .i64 y.op, .int .i64 y.n, .string y.name, .slice A3 n3 c3] := by rw [← hW1]; exact Blk.new_at _ _ _ rfl
          have hbW := hb.trans (hB1.mono hb.size)
          have hsa1 : SlR W1 (· < W1.heap.size) 1 RInt (.slice A3 n3 c3) y.args := hsa.imp (fun _ h => Nat.lt_of_lt_of_le h hbW.size) (fun b h => hbW.block b h) (fun _ _ _ r => r)
          have HU := Lib.hid (uses_any y (.slice A3 n3 c3) W1 hsa1 (by have := hgi.args; omega))
          clear hW1 i0 i1 i2 i3 i4 i5 i6 i7 hsa hsa1
          have j0 : W1.cell? ⟨wr.heap.size, 0, none⟩ = some (.int .i64 y.kind) := hK1.cell 0
          have j1 : W1.cell? ⟨wr.heap.size, 1, none⟩ = some (.int .i64 y.d) := hK1.cell 1
          have j2 : W1.cell? ⟨wr.heap.size, 2, none⟩ = some (.int .i64 y.a) := hK1.cell 2
          have j3 : W1.cell? ⟨wr.heap.size, 3, none⟩ = some (.int .i64 y.b) := hK1.cell 3
          have j4 : W1.cell? ⟨wr.heap.size, 4, none⟩ = some (.int .i64 y.op) := hK1.cell 4
          have j5 : W1.cell? ⟨wr.heap.size, 5, none⟩ = some (.int .i64 y.n) := hK1.cell 5
          have j6 : W1.cell? ⟨wr.heap.size, 6, none⟩ = some (.string y.name) := hK1.cell 6
          have j7 : W1.cell? ⟨wr.heap.size, 7, none⟩ = some (.slice A3 n3 c3) := hK1.cell 7
          go_wp2_with (first | (go_at_call 48; refine HU.out.mono ?_; rintro e w1 ⟨v1, rfl, hb1, hs1⟩; have F2 := hF1.below hb1 hF1.lt; have K2 := hK1.below hb1 hK1.lt; have C1 := con_odd_no (usesL y) hgi.uses v1 _ w1 (fun _ h => h.2) hs1) | (go_at_call 49; refine (sets_any y _ _).mono ?_; rintro e w3 ⟨v3, rfl, hb3, hs3⟩; have F4 := F3.below hb3 F3.lt; have C2 := con_odd_no (setsL y) hgi.sets v3 _ w3 (fun _ h => h.2) hs3) | (go_at_call 45; refine C2.mono ?_; clear C2; rintro e w4 ⟨rfl, hb4⟩; have F5 := F4.below hb4 F4.lt) | (go_at_call 45; refine C1.mono ?_; clear C1; rintro e w2 ⟨rfl, hb2⟩; have F3 := F2.below hb2 F2.lt; have K3 := K2.below hb2 K2.lt; have k0 : w2.cell? ⟨wr.heap.size, 0, none⟩ = some (.int .i64 y.kind) := K3.cell 0; have k1 : w2.cell? ⟨wr.heap.size, 1, none⟩ = some (.int .i64 y.d) := K3.cell 1; have k2 : w2.cell? ⟨wr.heap.size, 2, none⟩ = some (.int .i64 y.a) := K3.cell 2; have k3 : w2.cell? ⟨wr.heap.size, 3, none⟩ = some (.int .i64 y.b) := K3.cell 3; have k4 : w2.cell? ⟨wr.heap.size, 4, none⟩ = some (.int .i64 y.op) := K3.cell 4; have k5 : w2.cell? ⟨wr.heap.size, 5, none⟩ = some (.int .i64 y.n) := K3.cell 5; have k6 : w2.cell? ⟨wr.heap.size, 6, none⟩ = some (.string y.name) := K3.cell 6; have k7 : w2.cell? ⟨wr.heap.size, 7, none⟩ = some (.slice A3 n3 c3) := K3.cell 7))
          have q2 := hbW.trans (hb1.mono hbW.size)
          have q3 := q2.trans (hb2.mono q2.size)
          have q4 := q3.trans (hb3.mono q3.size)
          have q5 := q4.trans (hb4.mono q4.size)
          go_roundw
          case rel => exact ⟨j + 1, by omega, by go_num, q5, F5⟩
          case measure => simp [intOf]; omega
        · have d1 : decide ((j : Int) < (x.ins.length : Int)) = false := decide_eq_false (by omega)
          go_wp2
          go_roundw
          case rel => exact ⟨k + 1, by omega, by go_num, hb, hF⟩
          case measure => simp [intOf]; omega
    · have d0 : decide ((k : Int) < (n : Int)) = false := decide_eq_false (by omega)
      go_wp2
      go_ret
      exact ⟨rfl, hb⟩
end Go.Proofs.YtknccacfhknnaaaGreat
