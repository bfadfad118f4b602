/- What (flow.set).add does: it puts numbers in, and tells whether one is new. -/
import Derived.Test.YtknccacfhknnaaaGreatSets
namespace Go.Proofs.YtknccacfhknnaaaGreat
open Go.RowKit Go.Maps

def addS (S : Int → Bool) (l : List Int) : Int → Bool := l.foldl put1 S
theorem addS_snoc (S : Int → Bool) (l : List Int) (k : Int) : addS S (l ++ [k]) = put1 (addS S l) k := by simp [addS]

set_option maxRecDepth 100000 in
set_option maxHeartbeats 4000000 in
theorem add_any (b : Nat) (S : Int → Bool) (l : List Int) (hl : ∀ k ∈ l, placeP k = true) (v : Value) (w : World) (hS : MSet w b S) (hv : SlR w (fun x => x < w.heap.size ∧ x ≠ b) 1 RInt v l) :
    Calls Tryz.prog 54 #[.map (some b), v] w fun e w' => e = .returned (.bool (decide (cnt S < cnt (addS S l)))) ∧ w.grownBy w' (some b) ∧ MSet w' b (addS S l) := by
  obtain ⟨A, c, hvr, hlc, hcm⟩ := hv.val
  have HV := Lib.hid hv
  have HS := Lib.hid hS
  have HL := Lib.hid hl
  subst hvr
  have hlen := Nat.le_trans hlc hcm
  unfold maxLen at hlen
  obtain ⟨n0, D0, ho0, _, hs0, _⟩ := hS
  have hc0 := cnt_le S
  clear hv hl
  go_enter Tryz.func54, Tryz.ntmps54
  go_wp2_with (at_len; refine wpList_len_own _ rfl _ 74 rfl 3 _ Tryz.underlying74 _ b n0 D0 rfl ho0 ?_; rw [hs0]; clear ho0)
  clear hs0
  go_loopw [12] (fun s wr => ∃ i : Nat, i ≤ l.length ∧ s = .int .i64 i ∧ w.grownBy wr (some b) ∧ MSet wr b (addS S (l.take i))) (fun s _ => l.length - (RowKit.intOf s).toNat)
  case atStart => exact ⟨0, by omega, rfl, World.grownBy.refl _ _, HS.out⟩
  case round =>
    obtain ⟨i, hi, rfl, hg, hm⟩ := hrel
    by_cases hlt : i < l.length
    · have d0 : decide ((i : Int) < (l.length : Int)) = true := decide_eq_true (by omega)
      obtain ⟨b2, off, c', hform, _, _, hbl, hel⟩ := HV.out.form (by omega)
      obtain ⟨cs, hcl, hcs, hcell⟩ := hel i hlt
      subst hcs
      obtain ⟨rfl, rfl⟩ : A = some ⟨b2, off, none⟩ ∧ c = c' := by injection hform with h1 _ h2; exact ⟨h1, h2⟩
      have hk := HL.out l[i] (List.getElem_mem _)
      obtain ⟨k, hkk⟩ : ∃ k, k = l[i] := ⟨_, rfl⟩
      rw [← hkk] at hcell hk
      have i0 : wr.cell? ⟨b2, off + i, none⟩ = some (.int .i64 k) := by
        have h := (hcell.keep (hg.block b2 hbl.1 (by intro e; injection e with e; exact hbl.2 e))).at_ (j := 0) rfl
        simpa using h
      obtain ⟨n, D, hown, hn, hsz, hh, hp⟩ := hm
      have hkey : keyOf Tryz.prog 3 (.int .i64 k) = some (.int .i64 k) := Maps.keyOf_int_mk Tryz.underlying3 (by unfold placeP at hk; simp at hk; exact WalkArith.wf_i64 (by omega))
      have HE : Hid (l.take (i + 1) = l.take i ++ [k]) := Lib.hid (by rw [List.take_succ_eq_append_getElem hlt, hkk])
      clear hcell hel hform hcl hkk
      go_wp2_with (at_mapUpdate; (refine wpList_mapUpdate_own _ rfl _ _ _ 74 rfl 3 _ keyI Tryz.underlying74 _ b n D rfl hown (by unfold maxLen; omega) _ _ _ rfl rfl hkey (.agg []) [] unitElem_mk ?_); intro w1 hown1 hgrow1)
      go_roundw
      case rel => exact ⟨i + 1, by omega, by go_num, hg.trans hgrow1, by rw [HE.out, addS_snoc]; exact MSet.put hown hh hp hk hown1⟩
      case measure => simp [RowKit.intOf]; omega
    · have d0 : decide ((i : Int) < (l.length : Int)) = false := decide_eq_false (by omega)
      obtain rfl : i = l.length := by omega
      rw [List.take_length] at hm
      have HM := Lib.hid hm
      obtain ⟨n, D, hown, hn, hsz, hh, hp⟩ := hm
      go_wp2_with (at_len; refine wpList_len_own _ rfl _ 74 rfl 3 _ Tryz.underlying74 _ b n D rfl hown ?_; rw [hsz])
      go_ret
      refine ⟨?_, hg, HM.out⟩
      generalize cnt S = p
      generalize cnt (addS S l) = q
      have e : decide ((p : Int) < (q : Int)) = decide (p < q) := by by_cases h : p < q <;> simp [h]
      rw [← e]
      rfl
end Go.Proofs.YtknccacfhknnaaaGreat
