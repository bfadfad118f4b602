/- A unit's text has a line for each array, function, block, instruction and end: the walk of 'IrLinesSaid'. -/
import Derived.Test.YtnpnhdmfdhnmfaaGreatDoorAw10
import Derived.Test.YtnpnhdmfdhnmfaaGreatDoorFitPrint
import Derived.Test.YtnpnhdmfdhnmfaaGreatDoorArgs
namespace Go.Proofs.YtnpnhdmfdhnmfaaGreatDoor
open Go.RowKit

def lnB (l : List LBlock) : Nat := (l.map fun b => 2 + b.ins.length).sum
def lnF (l : List LFlow) : Nat := (l.map fun f => 1 + lnB f.blocks).sum
theorem lnB_succ (l : List LBlock) (k : Nat) (h : k < l.length) : lnB (l.take (k + 1)) = lnB (l.take k) + (2 + l[k].ins.length) := by
  unfold lnB
  rw [List.take_succ_eq_append_getElem h, List.map_append, List.sum_append]
  simp
theorem lnF_succ (l : List LFlow) (k : Nat) (h : k < l.length) : lnF (l.take (k + 1)) = lnF (l.take k) + (1 + lnB l[k].blocks) := by
  unfold lnF
  rw [List.take_succ_eq_append_getElem h, List.map_append, List.sum_append]
  simp
theorem take_sum_le {α : Type} (f : α → Nat) (l : List α) (k : Nat) : ((l.take k).map f).sum ≤ (l.map f).sum := by
  conv => rhs; rw [← List.take_append_drop k l, List.map_append, List.sum_append]
  omega
theorem lnF_le (raw : List LBlock) (k : Nat) : lnF ((fitU raw).flows.take k) ≤ 1000 := by
  have h1 := take_sum_le (fun f : LFlow => 1 + lnB f.blocks) (fitU raw).flows k
  have h2 := fit_wants raw
  have e : wantLines (fitU raw) = (fitU raw).arrays.length + ((fitU raw).flows.map fun f => 1 + lnB f.blocks).sum := rfl
  unfold lnF
  omega
theorem lnB_le (raw : List LBlock) (i k : Nat) : lnB ((fitFl raw i).blocks.take k) ≤ 1000 := by
  have h1 := take_sum_le (fun b : LBlock => 2 + b.ins.length) (fitFl raw i).blocks k
  have h2 := sum_le (fun b : LBlock => 2 + b.ins.length) 8 (fitFl raw i).blocks fun b hb => by have := fit_ins raw i b hb; omega
  have h3 := fit_le raw i
  unfold lnB
  omega
theorem count_succ (l : List UInt8) (i : Nat) (h : i < l.length) : (l.take (i + 1)).count 10 = (l.take i).count 10 + (if l[i] = 10 then 1 else 0) := by
  rw [List.take_succ_eq_append_getElem h, List.count_append]
  by_cases h10 : l[i] = 10
  · rw [if_pos h10, h10]; simp
  · have h0 : [l[i]].count 10 = 0 := List.count_eq_zero.2 (by simpa using fun e : (10 : UInt8) = l[i] => h10 e.symm)
    rw [if_neg h10, h0]
theorem index_at (l : List UInt8) (i : Nat) (h : i < l.length) (W : World) : (Instr.index 9 (.string (S8 l)) (.int .i64 (i : Int))).run Tryz.prog W = .ok (.int .u8 (l[i].toNat : Int)) W := by
  rw [run_index_string W 9 (S8 l) .i64 (i : Int) Tryz.underlying9]
  have hs : 0 ≤ (i : Int) ∧ (i : Int) < ((S8 l).size : Int) := ⟨by omega, by rw [S8_size]; omega⟩
  rw [dif_pos hs]
  rfl

set_option maxRecDepth 100000 in
set_option maxHeartbeats 8000000 in
theorem irLines_walk (vr : Value) (raw : List LBlock) (hI : ∀ x ∈ raw, x.I) (w : World) (htab : TabAt w) (hsl : SlR w (· < w.heap.size) 5 (RBlock w (· < w.heap.size)) vr raw) :
    Calls Tryz.prog 7 #[vr] w fun e w' => e = .returned (.bool true) ∧ Below w.heap.size w w' := by
  obtain ⟨Ar, cr, hvr, _, _⟩ := hsl.val
  subst hvr
  have HAW := Lib.hid (awake10_any w)
  have HFIT := Lib.hid (fun (X : World) (hb : Below w.heap.size w X) => fit_any raw hI (.slice Ar raw.length cr) X (hsl.imp (fun _ h => Nat.lt_of_lt_of_le h hb.size) (fun b h => hb.block b h) (fun _ _ _ r => r.imp (fun _ h => Nat.lt_of_lt_of_le h hb.size) (fun b h => hb.block b h))))
  have HTAB := Lib.hid htab
  have HI := Lib.hid hI
  clear hsl hI htab
  go_enter Tryz.func7, Tryz.ntmps7
  go_upto_region 3 with (first | (go_at_call 13; refine HAW.out.mono ?_; rintro e w2 ⟨rfl, hb2⟩) | (go_at_call 14; refine (HFIT.out _ hb2).mono ?_; rintro e w3 ⟨va, vf, css, rfl, hb3, hsa, hof⟩; obtain ⟨Aa, ca, hva, _, _⟩ := hsa.val; obtain ⟨Af, cf, hvf, _, _⟩ := (slr_flows hof).val; subst hva hvf))
  refine wp_world ?_
  intro W hW
  have hB : Below w.heap.size w W := by
    have h := hb2.trans (hb3.mono hb2.size)
    rw [← hW]; exact h.alloc h.size _
  have hU : Blk W w3.heap.size 27 #[.slice Aa (fitU raw).arrays.length ca, .slice Af (fitU raw).flows.length cf] := by rw [← hW]; exact Blk.new w3 _ _
  have hF : SlR W (· < W.heap.size) 4 (RFlow W (· < W.heap.size)) (.slice Af (fitU raw).flows.length cf) (fitU raw).flows := by
    rw [← hW]
    exact slr_flows (hof.below mono_flow (below1 w3 _))
  have hA : SlR W (· < W.heap.size) 2 RArr (.slice Aa (fitU raw).arrays.length ca) (fitU raw).arrays := by rw [← hW]; exact hsa.imp (fun b hb => by have hb' := hb.2; simp; omega) (fun b hb => Below.heap_alloc w3 _ b hb.2) (fun _ _ _ r => r)
  obtain ⟨ub, hub⟩ : ∃ ub, ub = w3.heap.size := ⟨_, rfl⟩
  rw [← hub] at hU ⊢
  have hul := hU.lt
  obtain ⟨gf, of_, cf', hform, _, _, hgl, hq⟩ := hF.form (by show 0 < 3; decide)
  obtain ⟨rfl, rfl⟩ : Af = some ⟨gf, of_, none⟩ ∧ cf = cf' := by injection hform with h1 _ h2; exact ⟨h1, h2⟩
  have HPR := Lib.hid (print_fit raw HI.out Aa (some ⟨gf, of_, none⟩) ca cf W (HTAB.out.below hB) hA hF)
  have HQ := Lib.hid hq
  have HU := Lib.hid hU
  have HB := Lib.hid hB
  have u0 : W.cell? ⟨ub, 0, none⟩ = some (.slice Aa 2 ca) := hU.cell 0
  have u1 : W.cell? ⟨ub, 1, none⟩ = some (.slice (some ⟨gf, of_, none⟩) 3 cf) := hU.cell 1
  obtain ⟨T, hT⟩ : ∃ T, T = unitT (fitU raw) := ⟨_, rfl⟩
  have hTl : T.length ≤ 1000000000 := by rw [hT]; exact (fit_printOk raw HI.out).len
  have hTc : T.count 10 = 2 + lnF (fitU raw).flows := by rw [hT, fit_lines]; rfl
  have hTp : 0 < T.length := by
    rcases Nat.eq_zero_or_pos T.length with h | h
    · have := fit_last raw
      rw [← hT, List.length_eq_zero_iff.1 h] at this
      cases this
    · exact h
  have hTx : T[T.length - 1]'(by omega) = 10 := by
    have h := fit_last raw
    rw [← hT, List.getLast?_eq_getElem?, List.getElem?_eq_getElem (by omega)] at h
    injection h
  rw [← hT] at HPR
  have HTC := Lib.hid hTc
  have HTX := Lib.hid hTx
  have hss : (S8 T).size = T.length := rfl
  clear hW hB hU hF hA hform hq hb2 hb3 hsa hof HAW HFIT hub hT hTc hTx
  go_upto_region 4 with (go_at_call 15; refine HPR.out.mono ?_; rintro e w4 ⟨rfl, hb4⟩)
  have HB4 := Lib.hid hb4
  have hU4 := HU.out.below hb4 hul
  have u04 : w4.cell? ⟨ub, 0, none⟩ = some (.slice Aa 2 ca) := hU4.cell 0
  have u14 : w4.cell? ⟨ub, 1, none⟩ = some (.slice (some ⟨gf, of_, none⟩) 3 cf) := hU4.cell 1
  clear u0 u1 hb4 hU4 HPR
  go_wp2
  go_loopw [7, 8] (fun n s wr => ∃ i : Nat, i ≤ 3 ∧ s = .int .i64 i ∧ n = .int .i64 (((2 + lnF ((fitU raw).flows.take i) : Nat)) : Int) ∧ wr = w4) (fun _ s _ => 3 - (RowKit.intOf s).toNat)
  case atStart => exact ⟨0, by omega, rfl, rfl, rfl⟩
  case round =>
    obtain ⟨i, hi, rfl, rfl, hwe⟩ := hrel
    subst hwe
    by_cases hlt : i < 3
    · have e1 : decide ((i : Int) < 3) = true := decide_eq_true (by omega)
      have hi3 : (i : Int) < 3 := by omega
      obtain ⟨cs, _, ⟨vb, hcs, hsb⟩, hcell⟩ := HQ.out i hlt
      have hfe : (fitU raw).flows[i] = fitFl raw i := by
        rcases (by omega : i = 0 ∨ i = 1 ∨ i = 2) with rfl | rfl | rfl <;> rfl
      rw [hfe] at hcs hsb
      obtain ⟨Ab, cb, hvb, hlb, hlc⟩ := hsb.val
      subst hvb
      subst hcs
      have hcw := hcell.keep (HB4.out.block gf hgl)
      have i3 : wr.cell? ⟨gf, of_ + i * 4 + 3, none⟩ = some (.slice Ab (fitFl raw i).blocks.length cb) := hcw.at_ (j := 3) rfl
      have hsucc := lnF_succ (fitU raw).flows i hlt
      rw [hfe] at hsucc
      have HSU := Lib.hid hsucc
      have HSB := Lib.hid hsb
      have hle := fit_le raw i
      have hlf := lnF_le raw i
      clear hcw hcell hsb hfe hsucc
      generalize lnF ((fitU raw).flows.take i) = nf at *
      go_wp2
      go_loopw [7, 9] (fun n s wr2 => ∃ k : Nat, k ≤ (fitFl raw i).blocks.length ∧ s = .int .i64 k ∧ n = .int .i64 (((2 + nf + 1 + lnB ((fitFl raw i).blocks.take k) : Nat)) : Int) ∧ wr2 = wr) (fun _ s _ => (fitFl raw i).blocks.length - (RowKit.intOf s).toNat)
      case atStart => exact ⟨0, by omega, rfl, by go_num, by first | rfl | trivial⟩
      case round =>
        obtain ⟨k, hk, rfl, rfl, hwe⟩ := hrel
        subst hwe
        have hlb := lnB_le raw i k
        by_cases hlt2 : k < (fitFl raw i).blocks.length
        · have d2 : decide ((k : Int) < ((fitFl raw i).blocks.length : Int)) = true := decide_eq_true (by omega)
          have hk3 : (k : Int) < ((fitFl raw i).blocks.length : Int) := by omega
          obtain ⟨b4, o4, c4, f4, _, _, hb4, q4⟩ := HSB.out.form (by omega)
          obtain rfl : Ab = some ⟨b4, o4, none⟩ := by injection f4
          obtain ⟨cs, _, ⟨vi, hcs, hsi⟩, hcell⟩ := q4 k hlt2
          have hins := fit_ins raw i _ (List.getElem_mem hlt2)
          have hs2 := lnB_succ (fitFl raw i).blocks k hlt2
          obtain ⟨b, hbe⟩ : ∃ b, b = (fitFl raw i).blocks[k] := ⟨_, rfl⟩
          rw [← hbe] at hcs hsi hins hs2
          obtain ⟨Ai, ci, hvi, _, _⟩ := hsi.val
          subst hvi
          subst hcs
          have hcw := hcell.keep (HB4.out.block b4 hb4)
          have i0 : wr.cell? ⟨b4, o4 + k * 5, none⟩ = some (.slice Ai b.ins.length ci) := by have h := hcw.at_ (j := 0) rfl; simpa using h
          have HS2 := Lib.hid hs2
          clear f4 q4 hcell hcw hsi hb4 hbe hs2
          generalize lnB ((fitFl raw i).blocks.take k) = nb at *
          go_wp2
          go_roundw
          case rel => exact ⟨k + 1, by omega, by go_num, by rw [HS2.out]; go_num, by first | rfl | trivial⟩
          case measure => simp [RowKit.intOf]; omega
        · obtain rfl : k = (fitFl raw i).blocks.length := by omega
          have d2 : decide (((fitFl raw i).blocks.length : Int) < ((fitFl raw i).blocks.length : Int)) = false := decide_eq_false (by omega)
          rw [List.take_length] at hlb ⊢
          have HSU2 := Lib.hid HSU.out
          generalize lnB (fitFl raw i).blocks = nb at *
          go_wp2
          go_roundw
          case rel => exact ⟨i + 1, by omega, by go_num, by rw [HSU2.out]; go_num, by first | rfl | trivial⟩
          case measure => simp [RowKit.intOf]; omega
    · obtain rfl : i = 3 := by omega
      have e1 : decide (((3 : Nat) : Int) < 3) = false := decide_eq_false (by omega)
      have htk : (fitU raw).flows.take 3 = (fitU raw).flows := rfl
      rw [htk]
      have hlf := lnF_le raw 3
      rw [htk] at hlf
      generalize lnF (fitU raw).flows = nf at *
      go_wp2
      go_loopw [10, 11] (fun n s wr2 => ∃ k : Nat, k ≤ T.length ∧ s = .int .i64 k ∧ n = .int .i64 (((T.take k).count 10 : Nat) : Int) ∧ wr2 = wr) (fun _ s _ => T.length - (RowKit.intOf s).toNat)
      case atStart => exact ⟨0, by omega, rfl, by simp, by first | rfl | trivial⟩
      case round =>
        obtain ⟨k, hk, rfl, rfl, hwe⟩ := hrel
        subst hwe
        have hcl : (T.take k).count 10 ≤ k := by
          have h1 := List.count_le_length (a := (10 : UInt8)) (l := T.take k)
          rw [List.length_take] at h1
          omega
        by_cases hlt2 : k < T.length
        · have d2 : decide ((k : Int) < (T.length : Int)) = true := decide_eq_true (by omega)
          have hix := index_at T k hlt2
          have hcs := count_succ T k hlt2
          by_cases h10 : T[k] = 10
          · rw [if_pos h10] at hcs
            rw [h10] at hix
            have HCS := Lib.hid hcs
            clear hcs
            generalize (T.take k).count 10 = c at *
            go_wp2
            go_roundw
            case rel => exact ⟨k + 1, by omega, by go_num, by rw [HCS.out]; go_num, by first | rfl | trivial⟩
            case measure => simp [RowKit.intOf]; omega
          · rw [if_neg h10] at hcs
            have hne : ((T[k].toNat : Int) == 10) = false := by
              have : T[k].toNat ≠ 10 := fun e => h10 (UInt8.toNat_inj.1 (by rw [e]; decide))
              simp; omega
            have hne2 : decide ((T[k].toNat : Int) = 10) = false := by
              have : T[k].toNat ≠ 10 := fun e => h10 (UInt8.toNat_inj.1 (by rw [e]; decide))
              simp; omega
            have HCS := Lib.hid hcs
            clear hcs
            generalize (T.take k).count 10 = c at *
            generalize T[k].toNat = tk at *
            go_wp2
            go_roundw
            case rel => exact ⟨k + 1, by omega, by go_num, by rw [HCS.out]; go_num, by first | rfl | trivial⟩
            case measure => simp [RowKit.intOf]; omega
        · obtain rfl : k = T.length := by omega
          have d2 : decide ((T.length : Int) < (T.length : Int)) = false := decide_eq_false (by omega)
          rw [List.take_length, HTC.out]
          have hix := index_at T (T.length - 1) (by omega)
          rw [HTX.out] at hix
          have d3 : decide ((T.length : Int) > 0) = true := decide_eq_true (by omega)
          have d4 : decide (0 < (T.length : Int)) = true := decide_eq_true (by omega)
          have hsub : ((T.length - 1 : Nat) : Int) = (T.length : Int) - 1 := by omega
          rw [hsub] at hix
          go_wp2
          go_ret
          exact ⟨rfl, HB.out.trans (HB4.out.mono HB.out.size)⟩
end Go.Proofs.YtnpnhdmfdhnmfaaGreatDoor
