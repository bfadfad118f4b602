/- What (flow.set).step does: what an instruction sets is taken out, what it uses is put in. -/
import Derived.Test.YtknccacfhknnaaaGreatSetAdd
namespace Go.Proofs.YtknccacfhknnaaaGreat
open Go.RowKit Go.Maps

def delS (S : Int → Bool) (l : List Int) : Int → Bool := l.foldl del1 S
def stepS (S : Int → Bool) (x : LIns) : Int → Bool := addS (delS S (setsL x)) (usesL x)
theorem delS_snoc (S : Int → Bool) (l : List Int) (k : Int) : delS S (l ++ [k]) = del1 (delS S l) k := by simp [delS]

set_option maxRecDepth 100000 in
set_option maxHeartbeats 4000000 in
theorem step_any (b : Nat) (S : Int → Bool) (x : LIns) (hx : GoodIns x) (A : Option Addr) (n c : Nat) (w : World) (hS : MSet w b S) (hv : SlR w (fun x => x < w.heap.size ∧ x ≠ b) 1 RInt (.slice A n c) x.args) :
    Calls Tryz.prog 53 #[.map (some b), .agg #[.int .i64 x.kind, .int .i64 x.d, .int .i64 x.a, .int .i64 x.b, .int .i64 x.op, .int .i64 x.n, .string x.name, .slice A n c]] w fun e w' => e = .returned (.tuple #[]) ∧ w.grownBy w' (some b) ∧ MSet w' b (stepS S x) := by
  have HX := Lib.hid hx
  have HV := Lib.hid hv
  have hbw := hS.lt
  have HS := Lib.hid hS
  clear hx hv hS
  go_enter Tryz.func53, Tryz.ntmps53
  go_upto_region 1 with fail
  refine wp_world ?_
  intro W hW
  have hg1 : w.grownBy W (some b) := by rw [← hW]; exact World.grownBy_alloc _ _ _
  have hK : Blk W w.heap.size 44 #[.int .i64 x.kind, .int .i64 x.d, .int .i64 x.a, .int .i64 x.b, .int .i64 x.op, .int .i64 x.n, .string x.name, .slice A n c] := by rw [← hW]; exact Blk.new_at _ _ _ rfl
  have hM1 : MSet W b S := by rw [← hW]; exact HS.out.kept (World.grownBy_alloc _ _ none) (by simp)
  clear hW
  have c0 : W.cell? ⟨w.heap.size, 0, none⟩ = some (.int .i64 x.kind) := hK.cell 0
  have c1 : W.cell? ⟨w.heap.size, 1, none⟩ = some (.int .i64 x.d) := hK.cell 1
  have c2 : W.cell? ⟨w.heap.size, 2, none⟩ = some (.int .i64 x.a) := hK.cell 2
  have c3 : W.cell? ⟨w.heap.size, 3, none⟩ = some (.int .i64 x.b) := hK.cell 3
  have c4 : W.cell? ⟨w.heap.size, 4, none⟩ = some (.int .i64 x.op) := hK.cell 4
  have c5 : W.cell? ⟨w.heap.size, 5, none⟩ = some (.int .i64 x.n) := hK.cell 5
  have c6 : W.cell? ⟨w.heap.size, 6, none⟩ = some (.string x.name) := hK.cell 6
  have c7 : W.cell? ⟨w.heap.size, 7, none⟩ = some (.slice A n c) := hK.cell 7
  go_wp2_with (go_at_call 49; refine (sets_any x _ _).mono ?_; rintro e w1 ⟨v1, rfl, hb1, hs1⟩; obtain ⟨A1, c1', hv1, hl1, hm1⟩ := hs1.val; subst hv1)
  have hM2 : MSet w1 b S := hM1.kept (grown_of_below (row := none) hb1) (by simp)
  have hK2 := hK.below hb1 hK.lt
  have hg2 : w.grownBy w1 (some b) := hg1.trans (grown_of_below hb1)
  have HS1 := Lib.hid hs1
  have HST := Lib.hid HX.out.sets
  have hbW : b < W.heap.size := hM1.lt
  have hne0 : w.heap.size ≠ b := by omega
  clear hs1 hM1 hK c0 c1 c2 c3 c4 c5 c6 c7 hg1
  generalize hl : setsL x = l at *
  have HLL := Lib.hid hl
  clear hl
  go_loopw [9] (fun s wr => ∃ i : Nat, i ≤ l.length ∧ s = .int .i64 i ∧ w.grownBy wr (some b) ∧ w1.grownBy wr (some b) ∧ MSet wr b (delS S (l.take i))) (fun s _ => l.length - (RowKit.intOf s).toNat)
  case atStart => exact ⟨0, by omega, rfl, hg2, World.grownBy.refl _ _, hM2⟩
  case round =>
    obtain ⟨i, hi, rfl, hg, hg', hm⟩ := hrel
    have hln : l.length ≤ 9223372036854775807 := by have := Nat.le_trans hl1 hm1; unfold maxLen at this; omega
    by_cases hlt : i < l.length
    · have d0 : decide ((i : Int) < (l.length : Int)) = true := decide_eq_true (by omega)
      obtain ⟨b2, off, c', hform, _, _, hbl, hel⟩ := HS1.out.form (by omega)
      obtain ⟨cs, hcl, hcs, hcell⟩ := hel i hlt
      subst hcs
      obtain ⟨rfl, rfl⟩ : A1 = some ⟨b2, off, none⟩ ∧ c1' = c' := by injection hform with h1 _ h2; exact ⟨h1, h2⟩
      have hk := HST.out l[i] (List.getElem_mem _)
      obtain ⟨k, hkk⟩ : ∃ k, k = l[i] := ⟨_, rfl⟩
      rw [← hkk] at hcell hk
      have i0 : wr.cell? ⟨b2, off + i, none⟩ = some (.int .i64 k) := by
        have h := (hcell.keep (hg'.block b2 hbl.2 (by intro e; injection e with e; have := hbl.1; omega))).at_ (j := 0) rfl
        simpa using h
      obtain ⟨n3, D, hown, hn, hsz, hh, hp⟩ := hm
      have hkey : keyOf Tryz.prog 3 (.int .i64 k) = some (.int .i64 k) := Maps.keyOf_int_mk Tryz.underlying3 (by unfold placeP at hk; simp at hk; exact WalkArith.wf_i64 (by omega))
      have HE : Hid (l.take (i + 1) = l.take i ++ [k]) := Lib.hid (by rw [List.take_succ_eq_append_getElem hlt, hkk])
      clear hcell hel hform hcl hkk
      go_wp2_with (at_delete; refine wpList_delete_own _ rfl _ _ 74 3 rfl 111 keyI Tryz.underlying74 _ b n3 D rfl hown _ _ rfl hkey ?_; intro w2 hown1 hturn)
      go_roundw
      case rel => exact ⟨i + 1, by omega, by go_num, hg.trans hturn.grown, hg'.trans hturn.grown, by rw [HE.out, delS_snoc]; exact MSet.del hh hp hown1⟩
      case measure => simp [RowKit.intOf]; omega
    · have d0 : decide ((i : Int) < (l.length : Int)) = false := decide_eq_false (by omega)
      obtain rfl : i = l.length := by omega
      rw [List.take_length] at hm
      have hK3 := hK2.grown hg' (by intro e; injection e with e; exact hne0 e.symm)
      have c0 : wr.cell? ⟨w.heap.size, 0, none⟩ = some (.int .i64 x.kind) := hK3.cell 0
      have c1 : wr.cell? ⟨w.heap.size, 1, none⟩ = some (.int .i64 x.d) := hK3.cell 1
      have c2 : wr.cell? ⟨w.heap.size, 2, none⟩ = some (.int .i64 x.a) := hK3.cell 2
      have c3 : wr.cell? ⟨w.heap.size, 3, none⟩ = some (.int .i64 x.b) := hK3.cell 3
      have c4 : wr.cell? ⟨w.heap.size, 4, none⟩ = some (.int .i64 x.op) := hK3.cell 4
      have c5 : wr.cell? ⟨w.heap.size, 5, none⟩ = some (.int .i64 x.n) := hK3.cell 5
      have c6 : wr.cell? ⟨w.heap.size, 6, none⟩ = some (.string x.name) := hK3.cell 6
      have c7 : wr.cell? ⟨w.heap.size, 7, none⟩ = some (.slice A n c) := hK3.cell 7
      have HU := Lib.hid (uses_any x (.slice A n c) wr (HV.out.imp (fun b3 h => Nat.lt_of_lt_of_le h.1 hg.size) (fun b3 h => hg.block b3 h.1 (by intro e; injection e with e; exact h.2 e)) (fun _ _ _ r => r)) (by have := HX.out.args; omega))
      have hbr := hm.lt
      go_wp2_with (first | (go_at_call 48; refine HU.out.mono ?_; rintro e w3 ⟨v3, rfl, hb3, hs3⟩; have hm3 := hm.kept (grown_of_below (row := none) hb3) (by simp); have HA := Lib.hid (add_any b (delS S l) (usesL x) HX.out.uses v3 w3 hm3 (hs3.imp (fun b3 h => ⟨h.2, by omega⟩) (Keeps.refl _ _) (fun _ _ _ r => r)))) | (go_at_call 54; refine HA.out.mono ?_; rintro e w4 ⟨rfl, hg4, hm4⟩))
      refine bodyPost_end (results_none rfl _ _ _) rfl ⟨rfl, (hg.trans (grown_of_below hb3)).trans hg4, ?_⟩
      unfold stepS
      rw [HLL.out]
      exact hm4
end Go.Proofs.YtknccacfhknnaaaGreat
