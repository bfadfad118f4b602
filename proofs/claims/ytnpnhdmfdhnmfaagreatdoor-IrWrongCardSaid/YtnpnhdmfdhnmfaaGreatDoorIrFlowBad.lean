/- What (*checker).bad does at a function whose numbers may be. -/
import Derived.Test.YtnpnhdmfdhnmfaaGreatDoorIrBad
namespace Go.Proofs.YtnpnhdmfdhnmfaaGreatDoor
open Go.RowKit

theorem insCount_succ (l : List LBlock) (k : Nat) (h : k < l.length) : insCount (l.take (k + 1)) = insCount (l.take k) + l[k].ins.length := by
  unfold insCount
  rw [List.take_succ_eq_append_getElem h, List.map_append, List.sum_append]
  simp
theorem insCount_le {l : List LBlock} (h : ∀ b ∈ l, b.ins.length ≤ 1000) : insCount l ≤ 1000 * l.length := by
  unfold insCount
  induction l with
  | nil => simp
  | cons a r ih =>
    have h1 := h a (by simp)
    have h2 := ih fun b hb => h b (by simp [hb])
    simp only [List.map_cons, List.sum_cons, List.length_cons]
    omega
theorem flowBad_false {f : LFlow} (h : flowBad f = false) : 0 ≤ f.params ∧ f.params ≤ 6 ∧ f.params ≤ f.values ∧ f.values ≤ 50000 ∧ 0 < f.blocks.length ∧ f.blocks.length ≤ 20000 ∧ insCount f.blocks ≤ 200000 := by
  unfold flowBad at h
  have := of_decide_eq_false h
  omega

section
set_option maxRecDepth 100000
set_option maxHeartbeats 4000000
theorem bad_any (u : LUnit) (f : LFlow) (cb : Nat) (A1 A2 : Option Addr) (c1 c2 : Nat) (A : Option Addr) (c : Nat) (w : World) (hc : ChkR w cb u f A1 c1 A2 c2 (.slice A f.blocks.length c)) (hbl : SlR w (· < w.heap.size) 5 (RBlock w (· < w.heap.size)) (.slice A f.blocks.length c) f.blocks) (hfb : flowBad f = false) (hin : ∀ b ∈ f.blocks, b.ins.length ≤ 1000) :
    Calls Tryz.prog 44 #[.pointer (some ⟨cb, 0, none⟩)] w fun e w' => e = .returned (.tuple #[.int .i64 (findI (blockBad u f) f.blocks), .bool true]) ∧ Below w.heap.size w w' := by
  obtain ⟨g1, g2, g3, g4, g5, g6, g7⟩ := flowBad_false hfb
  have HC := Lib.hid hc
  have HBL := Lib.hid hbl
  have HIN := Lib.hid hin
  have c0 : w.cell? ⟨cb, 2, none⟩ = some (.string f.name) := hc.at_.c2
  have c1' : w.cell? ⟨cb, 3, none⟩ = some (.int .i64 f.params) := hc.at_.c3
  have c2' : w.cell? ⟨cb, 4, none⟩ = some (.int .i64 f.values) := hc.at_.c4
  have c3' : w.cell? ⟨cb, 5, none⟩ = some (.slice A f.blocks.length c) := hc.at_.c5
  have hcb := hc.at_.lt
  clear hc hbl hfb hin
  go_enter Tryz.func44, Tryz.ntmps44
  go_upto_region 2 with fail
  refine wp_world ?_
  intro W hW
  have hB : Below w.heap.size w W := by rw [← hW]; exact below2 _ _ _
  have hK : Blk W w.heap.size 91 #[.pointer (some ⟨cb, 0, none⟩)] := by rw [← hW]; exact (Blk.new_at _ _ _ rfl).alloc _
  have hF : Blk W (w.heap.size + 1) 45 #[.string f.name, .int .i64 f.params, .int .i64 f.values, .slice A f.blocks.length c] := by rw [← hW]; exact Blk.new_at _ _ _ (by simp)
  clear hW
  have up : ∀ b, b < w.heap.size → b < W.heap.size := fun b h => Nat.lt_of_lt_of_le h hB.size
  have kp : Keeps (· < w.heap.size) w W := fun b h => hB.block b h
  have HC1 := Lib.hid (HC.out.below hB)
  have HBL1 := Lib.hid (HBL.out.imp (ok' := (· < W.heap.size)) (R' := RBlock W (· < W.heap.size)) up kp (fun _ _ _ r => r.imp up kp))
  have HB := Lib.hid hB
  have HK := Lib.hid hK
  have HF := Lib.hid hF
  have f3 : W.cell? ⟨w.heap.size + 1, 3, none⟩ = some (.slice A f.blocks.length c) := hF.cell 3
  clear up kp hB hK hF HC HBL c0 c1' c2' c3'
  go_wp2
  clear f3
  go_loopw [5, 15] (fun n i wr => ∃ k : Nat, k ≤ f.blocks.length ∧ i = .int .i64 k ∧ n = .int .i64 (insCount (f.blocks.take k) : Int) ∧ Below W.heap.size W wr) (fun _ i _ => f.blocks.length - (RowKit.intOf i).toNat)
  case atStart => exact ⟨0, by omega, rfl, rfl, Below.refl _ _⟩
  case round =>
    obtain ⟨k, hk, rfl, rfl, hbr⟩ := hrel
    have hsz := hbr.size
    by_cases hlt : k < f.blocks.length
    · have d1 : decide ((k : Int) < (f.blocks.length : Int)) = true := decide_eq_true (by omega)
      obtain ⟨b3, o3, c3, fm, _, _, hb3, q3⟩ := HBL1.out.form (by omega)
      obtain rfl : A = some ⟨b3, o3, none⟩ := by injection fm
      obtain ⟨cs, _, ⟨vi, hcs, hsx⟩, hcell⟩ := q3 k hlt
      have hcnt := insCount_succ f.blocks k hlt
      have hle := insCount_le (l := f.blocks.take k) (fun b hb => HIN.out b (List.mem_of_mem_take hb))
      have hlen : (f.blocks.take k).length = k := by simp; omega
      have hil := HIN.out _ (List.getElem_mem hlt)
      obtain ⟨x, hx⟩ : ∃ x, x = f.blocks[k] := ⟨_, rfl⟩
      rw [← hx] at hcs hsx hcnt hil
      obtain ⟨Ax, cx, hvx, _, _⟩ := hsx.val
      subst hvx
      obtain ⟨xi, xt⟩ := x
      subst hcs
      have hcw := hcell.keep (hbr.block b3 hb3)
      have i0 : wr.cell? ⟨b3, o3 + k * 5, none⟩ = some (.slice Ax xi.length cx) := by have h := hcw.at_ (j := 0) rfl; simpa using h
      have i1 : wr.cell? ⟨b3, o3 + k * 5 + 1, none⟩ = some (.int .i64 xt.kind) := hcw.at_ (j := 1) rfl
      have i2 : wr.cell? ⟨b3, o3 + k * 5 + 2, none⟩ = some (.int .i64 xt.a) := hcw.at_ (j := 2) rfl
      have i3 : wr.cell? ⟨b3, o3 + k * 5 + 3, none⟩ = some (.int .i64 xt.to) := hcw.at_ (j := 3) rfl
      have i4 : wr.cell? ⟨b3, o3 + k * 5 + 4, none⟩ = some (.int .i64 xt.els) := hcw.at_ (j := 4) rfl
      replace hcnt : insCount (f.blocks.take (k + 1)) = insCount (f.blocks.take k) + xi.length := hcnt
      replace hil : xi.length ≤ 1000 := hil
      rw [hlen] at hle
      have HCN := Lib.hid hcnt
      have HBR := Lib.hid hbr
      generalize insCount (f.blocks.take k) = s at *
      have hs1 : s ≤ 20000000 := by omega
      clear fm q3 hcell hcw hx hsx hb3 hcnt hbr hle hlen
      go_wp2
      go_roundw
      case rel => exact ⟨k + 1, by omega, by go_num, by rw [HCN.out]; go_num, HBR.out.alloc HBR.out.size _⟩
      case measure => simp [RowKit.intOf]; omega
    · have d1 : decide ((k : Int) < (f.blocks.length : Int)) = false := decide_eq_false (by omega)
      have htk : f.blocks.take k = f.blocks := List.take_of_length_le (by omega)
      rw [htk]
      have h1 : wr.cell? ⟨w.heap.size + 1, 1, none⟩ = some (.int .i64 f.params) := (HF.out.below hbr HF.out.lt).cell 1
      have h2 : wr.cell? ⟨w.heap.size + 1, 2, none⟩ = some (.int .i64 f.values) := (HF.out.below hbr HF.out.lt).cell 2
      have h3 : wr.cell? ⟨w.heap.size + 1, 3, none⟩ = some (.slice A f.blocks.length c) := (HF.out.below hbr HF.out.lt).cell 3
      have up : ∀ b, b < W.heap.size → b < wr.heap.size := fun b h => Nat.lt_of_lt_of_le h hbr.size
      have kp : Keeps (· < W.heap.size) W wr := fun b h => hbr.block b h
      have HBL2 := HBL1.out.imp (ok' := (· < wr.heap.size)) (R' := RBlock wr (· < wr.heap.size)) up kp (fun _ _ _ r => r.imp up kp)
      have HI := Lib.hid (idx_bad1 f.blocks (.slice A f.blocks.length c) w.heap.size (blockBad u f) wr HBL2 (bad1_pred u f w.heap.size cb A1 A2 c1 c2 A c f.blocks wr ((HK.out.below hbr HK.out.lt).cell 0) (HC1.out.below hbr)))
      have HBR := Lib.hid hbr
      clear htk up kp HBL2 hbr hsz
      generalize insCount f.blocks = s at *
      have e1 : decide (f.params < 0) = false := decide_eq_false (by omega)
      have e2 : decide (f.params > 6) = false := decide_eq_false (by omega)
      have e2' : decide (6 < f.params) = false := decide_eq_false (by omega)
      have e3 : decide (f.values < f.params) = false := decide_eq_false (by omega)
      have e4 : decide (f.values > 50000) = false := decide_eq_false (by omega)
      have e4' : decide (50000 < f.values) = false := decide_eq_false (by omega)
      have e5 : ((f.blocks.length : Int) == 0) = false := by rw [beq_dec]; exact decide_eq_false (by omega)
      have e6 : decide ((f.blocks.length : Int) > 20000) = false := decide_eq_false (by omega)
      have e6' : decide (20000 < (f.blocks.length : Int)) = false := decide_eq_false (by omega)
      have e7 : decide ((s : Int) > 200000) = false := decide_eq_false (by omega)
      have e7' : decide (200000 < (s : Int)) = false := decide_eq_false (by omega)
      go_wp2_with (go_at_call 63; refine HI.out.mono ?_; rintro e w2 ⟨rfl, hb2⟩)
      go_ret2
      exact ⟨rfl, HB.out.trans ((HBR.out.trans (hb2.mono HBR.out.size)).mono HB.out.size)⟩
end
end Go.Proofs.YtnpnhdmfdhnmfaaGreatDoor
