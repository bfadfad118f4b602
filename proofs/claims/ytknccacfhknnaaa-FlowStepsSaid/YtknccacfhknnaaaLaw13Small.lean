/- What the small functions of chapter 13's statements do: has, lists; and flow.After at a place that is none. -/
import Derived.Test.YtknccacfhknnaaaFlowAfter
import Derived.Deep.QuietTactic
import Derived.BigQuiet
namespace Go.Proofs.Ytknccacfhknnaaa
open Go.RowKit Go.Maps

set_option maxHeartbeats 1000000 in
theorem has_any (l : List Int) (n : Int) (v : Value) (ok : Nat → Prop) (w : World) (hv : SlR w ok 1 RInt v l) :
    Calls Try.prog 16 #[v, .int .i64 n] w fun e w' => e = .returned (.bool (decide (n ∈ l))) ∧ w = w' := by
  obtain ⟨A, c, hvr, hlc, hcm⟩ := hv.val
  have HV := Lib.hid hv
  clear hv
  subst hvr
  have hlen := Nat.le_trans hlc hcm
  unfold maxLen at hlen
  go_enter Try.func16, Try.ntmps16
  go_wp2
  go_loop [5] (fun s => ∃ i : Nat, i ≤ l.length ∧ s = .int .i64 i ∧ Hid (n ∉ l.take i)) (fun s => l.length - (RowKit.intOf s).toNat)
  case atStart => exact ⟨0, by omega, rfl, Lib.hid (by simp)⟩
  case round =>
    obtain ⟨i, hi, rfl, hnot⟩ := hrel
    by_cases hlt : i < l.length
    · have d0 : decide ((i : Int) < (l.length : Int)) = true := decide_eq_true (by omega)
      obtain ⟨b2, off, c', hform, _, _, hbl, hel⟩ := HV.out.form (by omega)
      obtain ⟨cs, hcl, hcs, hcell⟩ := hel i hlt
      subst hcs
      obtain ⟨rfl, rfl⟩ : A = some ⟨b2, off, none⟩ ∧ c = c' := by injection hform with h1 _ h2; exact ⟨h1, h2⟩
      obtain ⟨k, hk⟩ : ∃ k, k = l[i] := ⟨_, rfl⟩
      rw [← hk] at hcell
      have i0 : w.cell? ⟨b2, off + i, none⟩ = some (.int .i64 k) := by
        have h := hcell.at_ (j := 0) rfl
        simpa using h
      have HE : Hid (l.take (i + 1) = l.take i ++ [k]) := Lib.hid (by rw [List.take_succ_eq_append_getElem hlt, hk])
      have HM : Hid (k ∈ l) := Lib.hid (by rw [hk]; exact List.getElem_mem _)
      clear hcell hel hform hcl hk
      by_cases he : k = n
      · subst he
        have be : (k == k) = true := by simp
        have de : decide (k = k) = true := by simp
        have hm := decide_eq_true HM.out
        have HH := Lib.hid hm
        clear hm
        go_wp2
        go_ret
        exact ⟨by rw [HH.out]; rfl, rfl⟩
      · have be : (k == n) = false := by simp [he]
        have de : decide (k = n) = false := decide_eq_false he
        have HNE := Lib.hid he
        clear he
        go_wp2
        go_round
        case rel =>
          refine ⟨i + 1, by omega, by go_num, Lib.hid ?_⟩
          rw [HE.out, List.mem_append]
          rintro (h | h)
          · exact hnot.out h
          · exact HNE.out (List.mem_singleton.1 h).symm
        case measure => simp [RowKit.intOf]; omega
    · have d0 : decide ((i : Int) < (l.length : Int)) = false := decide_eq_false (by omega)
      obtain rfl : i = l.length := by omega
      go_wp2
      go_ret
      have h := hnot.out
      rw [List.take_length] at h
      exact ⟨by rw [decide_eq_false h]; rfl, rfl⟩

set_option maxHeartbeats 1000000 in
theorem After_out (f : LFlow) (hg : GoodF f) (k : Nat) (hk : f.blocks.length ≤ k) (hk2 : k ≤ 1000) (vb : Value) (w : World) (hv : SlR w (· < w.heap.size) 5 (RBlock w (· < w.heap.size)) vb f.blocks) :
    Calls Try.prog 15 #[.agg #[.string f.name, .int .i64 f.params, .int .i64 f.values, vb], .int .i64 k] w fun e w' => e = .returned (.slice none 0 0) ∧ Below w.heap.size w w' := by
  obtain ⟨A, c, hvr, hlc, hcm⟩ := hv.val
  have HV := Lib.hid hv
  have HG := Lib.hid hg
  clear hv hg
  subst hvr
  go_enter Try.func15, Try.ntmps15
  go_upto_region 1 with fail
  refine wp_world ?_
  intro W hW
  have hB : Below w.heap.size w W := by rw [← hW]; exact below1 _ _
  have hF : Blk W w.heap.size 25 #[.string f.name, .int .i64 f.params, .int .i64 f.values, .slice A f.blocks.length c] := by rw [← hW]; exact Blk.new_at _ _ _ rfl
  clear hW
  have c0 : W.cell? ⟨w.heap.size, 0, none⟩ = some (.string f.name) := hF.cell 0
  have c1 : W.cell? ⟨w.heap.size, 1, none⟩ = some (.int .i64 f.params) := hF.cell 1
  have c2 : W.cell? ⟨w.heap.size, 2, none⟩ = some (.int .i64 f.values) := hF.cell 2
  have c3 : W.cell? ⟨w.heap.size, 3, none⟩ = some (.slice A f.blocks.length c) := hF.cell 3
  have d0 : decide ((k : Int) < 0) = false := decide_eq_false (by omega)
  have d1 : decide ((f.blocks.length : Int) ≤ (k : Int)) = true := decide_eq_true (by omega)
  have d2 : decide (f.blocks.length ≤ k) = true := decide_eq_true (by omega)
  have HM := Lib.hid (may_any f HG.out (.slice A f.blocks.length c) W (HV.out.imp (fun _ h => Nat.lt_of_lt_of_le h hB.size) (fun b h => hB.block b h) (fun _ _ _ r => r.imp (fun _ h => Nat.lt_of_lt_of_le h hB.size) (fun b h => hB.block b h))))
  go_wp2_with (go_at_call 27; refine HM.out.mono ?_; rintro e w1 ⟨rfl, hb1⟩; have e3 : w1.cell? ⟨w.heap.size, 3, none⟩ = some (.slice A f.blocks.length c) := (hF.below hb1 hF.lt).cell 3)
  go_ret
  exact ⟨rfl, hB.trans (hb1.mono hB.size)⟩

theorem form_ints {w : World} {ok : Nat → Prop} {v : Value} {ls : List (List Int)} (h : SlR w ok 1 (RInts w ok) v ls) {i : Nat} (hi : i < ls.length) : ∃ b off A c, w.cell? ⟨b, off + i, none⟩ = some (.slice A ls[i].length c) ∧ (∃ n c', v = .slice (some ⟨b, off, none⟩) n c') ∧ SlR w ok 1 RInt (.slice A ls[i].length c) ls[i] := by
  obtain ⟨b, off, c', hform, _, _, hbl, hel⟩ := h.form (by omega)
  obtain ⟨cs, hcl, ⟨u, hcs, hs⟩, hcell⟩ := hel i hi
  obtain ⟨A, c, hu, _, _⟩ := hs.val
  subst hu
  subst hcs
  have h0 := hcell.at_ (j := 0) rfl
  exact ⟨b, off, A, c, by simpa using h0, ⟨_, _, hform⟩, hs⟩

set_option maxRecDepth 100000 in
set_option maxHeartbeats 4000000 in
theorem lists_same (ls : List (List Int)) (v u : Value) (ok : Nat → Prop) (w : World) (hv : SlR w ok 1 (RInts w ok) v ls) (hu : SlR w ok 1 (RInts w ok) u ls) :
    Calls Try.prog 25 #[v, u] w fun e w' => e = .returned (.bool true) ∧ Below w.heap.size w w' := by
  obtain ⟨A, c, hvr, hlc, hcm⟩ := hv.val
  obtain ⟨B, d, hur, hld, hdm⟩ := hu.val
  have HV := Lib.hid hv
  have HU := Lib.hid hu
  clear hv hu
  subst hvr
  subst hur
  have hlen := Nat.le_trans hlc hcm
  unfold maxLen at hlen
  have b0 : ((ls.length : Int) != (ls.length : Int)) = false := by simp
  go_enter Try.func25, Try.ntmps25
  go_wp2
  go_loopw [5] (fun s wr => ∃ i : Nat, i ≤ ls.length ∧ s = .int .i64 i ∧ ∃ nq, wr = w.drewN nq) (fun s _ => ls.length - (RowKit.intOf s).toNat)
  case atStart => exact ⟨0, by omega, rfl, 0, rfl⟩
  case round =>
    obtain ⟨i, hi, rfl, nq, rfl⟩ := hrel
    by_cases hlt : i < ls.length
    · have d0 : decide ((i : Int) < (ls.length : Int)) = true := decide_eq_true (by omega)
      obtain ⟨b1, o1, A1, c1, e1, ⟨_, _, f1⟩, g1⟩ := form_ints HV.out hlt
      obtain ⟨b2, o2, A2, c2, e2, ⟨_, _, f2⟩, g2⟩ := form_ints HU.out hlt
      obtain rfl : A = some ⟨b1, o1, none⟩ := by injection f1
      obtain rfl : B = some ⟨b2, o2, none⟩ := by injection f2
      obtain ⟨l, hl⟩ : ∃ l, l = ls[i] := ⟨_, rfl⟩
      rw [← hl] at e1 e2 g1 g2
      have hll := g1.len_le
      unfold maxLen at hll
      have b3 : ((l.length : Int) != (l.length : Int)) = false := by simp
      have G1 := Lib.hid g1
      have G2 := Lib.hid g2
      have p1 : (i : Int) < (ls.length : Int) := by omega
      clear f1 f2 g1 g2 hl
      go_wp2
      go_quiet (fail)
      go_wp2
      go_loopw [6] (fun s wr => ∃ j : Nat, j ≤ l.length ∧ s = .int .i64 j ∧ ∃ nq, wr = w.drewN nq) (fun s _ => l.length - (RowKit.intOf s).toNat)
      case atStart => exact ⟨0, by omega, rfl, _, World.drewN_drewN _ _ _⟩
      case round =>
        obtain ⟨j, hj, rfl, nq2, rfl⟩ := hrel
        by_cases hlt2 : j < l.length
        · have d1 : decide ((j : Int) < (l.length : Int)) = true := decide_eq_true (by omega)
          obtain ⟨b3, o3, c3, f3, _, _, _, q3⟩ := G1.out.form (by omega)
          obtain ⟨b4, o4, c4, f4, _, _, _, q4⟩ := G2.out.form (by omega)
          obtain rfl : A1 = some ⟨b3, o3, none⟩ := by injection f3
          obtain rfl : A2 = some ⟨b4, o4, none⟩ := by injection f4
          obtain ⟨cs3, _, r3, s3⟩ := q3 j hlt2
          obtain ⟨cs4, _, r4, s4⟩ := q4 j hlt2
          subst r3
          subst r4
          obtain ⟨k, hk⟩ : ∃ k, k = l[j] := ⟨_, rfl⟩
          rw [← hk] at s3 s4
          have i3 : w.cell? ⟨b3, o3 + j, none⟩ = some (.int .i64 k) := by have h := s3.at_ (j := 0) rfl; simpa using h
          have i4 : w.cell? ⟨b4, o4 + j, none⟩ = some (.int .i64 k) := by have h := s4.at_ (j := 0) rfl; simpa using h
          have b5 : (k != k) = false := by simp
          have p2 : (j : Int) < (l.length : Int) := by omega
          clear f3 f4 q3 q4 s3 s4 hk
          go_wp2
          go_quiet (fail)
          go_wp2
          go_roundw
          case rel => exact ⟨j + 1, by omega, by go_num, _, rfl⟩
          case measure => simp [RowKit.intOf]; omega
        · have d1 : decide ((j : Int) < (l.length : Int)) = false := decide_eq_false (by omega)
          go_wp2
          go_roundw
          case rel => exact ⟨i + 1, by omega, by go_num, _, rfl⟩
          case measure => simp [RowKit.intOf]; omega
    · have d0 : decide ((i : Int) < (ls.length : Int)) = false := decide_eq_false (by omega)
      go_wp2
      go_ret
      exact ⟨rfl, ⟨rfl, rfl, rfl, Nat.le_refl _, fun _ _ => rfl⟩⟩
end Go.Proofs.Ytknccacfhknnaaa
