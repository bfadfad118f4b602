/- Are two units the same: counterproofref10.Same tells just that. Printed by wip/gen_same.py. -/
import Derived.Test.YtkpigkopjfkepaaGreatDoorPbFlowSm
import Derived.Test.YtkpigkopjfkepaaGreatDoorPbIrNamed
import Derived.Test.YtkpigkopjfkepaaGreatDoorPbRegion
import Derived.Deep.QuietTactic
import Derived.BigQuiet
import Derived.Laws.StructEq
namespace Go.Proofs.YtkpigkopjfkepaaGreatDoor
open Go.RowKit

open Classical in
/-- is it so? -/
noncomputable def isSo (p : Prop) : Bool := decide p
theorem isSo_yes {p : Prop} (h : p) : isSo p = true := by unfold isSo; simp [h]
theorem isSo_no {p : Prop} (h : ¬ p) : isSo p = false := by unfold isSo; simp [h]
theorem ret_so {b c : Bool} (h : c = b) : Ending.returned (.bool b) = .returned (.bool c) := by rw [h]
theorem below_dn {B : Nat} {a w : World} (h : Below B a w) (n : Nat) : Below B a (w.drewN n) := ⟨h.os, h.tape, h.output, h.size, h.block⟩
theorem take_ext {α : Type} {l m : List α} (hl : l.length = m.length) (h : l.take l.length = m.take l.length) : l = m := by
  rw [List.take_length, hl, List.take_length] at h
  exact h
theorem take_step {α : Type} {l m : List α} {k : Nat} (h1 : k < l.length) (h2 : k < m.length) (h : l.take k = m.take k) (he : l[k] = m[k]) : l.take (k + 1) = m.take (k + 1) := by
  rw [List.take_succ_eq_append_getElem h1, List.take_succ_eq_append_getElem h2, h, he]

section
set_option maxHeartbeats 4000000
set_option maxRecDepth 100000
theorem sameIns_any (x y : LIns) (va vb : Value) (w : World) (hv : SlR w (· < w.heap.size) 1 RInt va x.args) (hu : SlR w (· < w.heap.size) 1 RInt vb y.args) :
    Calls Tryz.prog 31 #[.agg #[.int .i64 x.kind, .int .i64 x.d, .int .i64 x.a, .int .i64 x.b, .int .i64 x.op, .int .i64 x.n, .string x.name, va], .agg #[.int .i64 y.kind, .int .i64 y.d, .int .i64 y.a, .int .i64 y.b, .int .i64 y.op, .int .i64 y.n, .string y.name, vb]] w fun e w' => e = .returned (.bool (isSo (x = y))) ∧ Below w.heap.size w w' := by
  obtain ⟨R, hR⟩ : ∃ R, R = isSo (x = y) := ⟨_, rfl⟩
  rw [← hR]
  have HR := Lib.hid hR
  clear hR
  obtain ⟨k, d, a, b, op, n, nm, l⟩ := x
  obtain ⟨k', d', a', b', op', n', nm', l'⟩ := y
  obtain ⟨Aa, ca, hva, hlc, hcm⟩ := hv.val
  obtain ⟨Ab, cb, hvb, hlc2, hcm2⟩ := hu.val
  subst hva hvb
  have hll := Nat.le_trans hlc hcm
  have hll2 := Nat.le_trans hlc2 hcm2
  unfold maxLen at hll hll2
  have HV := Lib.hid hv
  have HU := Lib.hid hu
  clear hv hu
  go_enter Tryz.func31, Tryz.ntmps31
  go_upto_region 1 with fail
  refine wp_world ?_
  intro W hW
  have hB : Below w.heap.size w W := by rw [← hW]; exact below2 _ _ _
  have hX : Blk W w.heap.size 44 #[.int .i64 k, .int .i64 d, .int .i64 a, .int .i64 b, .int .i64 op, .int .i64 n, .string nm, .slice Aa l.length ca] := by rw [← hW]; exact (Blk.new_at _ _ _ rfl).alloc _
  have hY : Blk W (w.heap.size + 1) 44 #[.int .i64 k', .int .i64 d', .int .i64 a', .int .i64 b', .int .i64 op', .int .i64 n', .string nm', .slice Ab l'.length cb] := by rw [← hW]; exact Blk.new_at _ _ _ (by simp)
  clear hW
  have x0 : W.cell? ⟨w.heap.size, 0, none⟩ = some (.int .i64 k) := hX.cell 0
  have y0 : W.cell? ⟨w.heap.size + 1, 0, none⟩ = some (.int .i64 k') := hY.cell 0
  have x1 : W.cell? ⟨w.heap.size, 1, none⟩ = some (.int .i64 d) := hX.cell 1
  have y1 : W.cell? ⟨w.heap.size + 1, 1, none⟩ = some (.int .i64 d') := hY.cell 1
  have x2 : W.cell? ⟨w.heap.size, 2, none⟩ = some (.int .i64 a) := hX.cell 2
  have y2 : W.cell? ⟨w.heap.size + 1, 2, none⟩ = some (.int .i64 a') := hY.cell 2
  have x3 : W.cell? ⟨w.heap.size, 3, none⟩ = some (.int .i64 b) := hX.cell 3
  have y3 : W.cell? ⟨w.heap.size + 1, 3, none⟩ = some (.int .i64 b') := hY.cell 3
  have x4 : W.cell? ⟨w.heap.size, 4, none⟩ = some (.int .i64 op) := hX.cell 4
  have y4 : W.cell? ⟨w.heap.size + 1, 4, none⟩ = some (.int .i64 op') := hY.cell 4
  have x5 : W.cell? ⟨w.heap.size, 5, none⟩ = some (.int .i64 n) := hX.cell 5
  have y5 : W.cell? ⟨w.heap.size + 1, 5, none⟩ = some (.int .i64 n') := hY.cell 5
  have x6 : W.cell? ⟨w.heap.size, 6, none⟩ = some (.string nm) := hX.cell 6
  have y6 : W.cell? ⟨w.heap.size + 1, 6, none⟩ = some (.string nm') := hY.cell 6
  have x7 : W.cell? ⟨w.heap.size, 7, none⟩ = some (.slice Aa l.length ca) := hX.cell 7
  have y7 : W.cell? ⟨w.heap.size + 1, 7, none⟩ = some (.slice Ab l'.length cb) := hY.cell 7
  have HB := Lib.hid hB
  clear hX hY hB
  by_cases h0 : k = k'
  rotate_left
  · have hne : isSo ((⟨k, d, a, b, op, n, nm, l⟩ : LIns) = ⟨k', d', a', b', op', n', nm', l'⟩) = false := isSo_no fun e => h0 (by injection e)
    have e1 : (k == k') = false := by simp [h0]
    have e2 : decide (k = k') = false := decide_eq_false h0
    have e3 : (k != k') = true := by simp [h0]
    have HNE := Lib.hid hne
    clear HV HU hne
    go_wp2
    go_ret
    exact ⟨ret_so (HR.out.trans HNE.out), HB.out⟩
  subst h0
  by_cases h1 : d = d'
  rotate_left
  · have hne : isSo ((⟨k, d, a, b, op, n, nm, l⟩ : LIns) = ⟨k, d', a', b', op', n', nm', l'⟩) = false := isSo_no fun e => h1 (by injection e)
    have e1 : (d == d') = false := by simp [h1]
    have e2 : decide (d = d') = false := decide_eq_false h1
    have e3 : (d != d') = true := by simp [h1]
    have HNE := Lib.hid hne
    clear HV HU hne
    go_wp2
    go_ret
    exact ⟨ret_so (HR.out.trans HNE.out), HB.out⟩
  subst h1
  by_cases h2 : a = a'
  rotate_left
  · have hne : isSo ((⟨k, d, a, b, op, n, nm, l⟩ : LIns) = ⟨k, d, a', b', op', n', nm', l'⟩) = false := isSo_no fun e => h2 (by injection e)
    have e1 : (a == a') = false := by simp [h2]
    have e2 : decide (a = a') = false := decide_eq_false h2
    have e3 : (a != a') = true := by simp [h2]
    have HNE := Lib.hid hne
    clear HV HU hne
    go_wp2
    go_ret
    exact ⟨ret_so (HR.out.trans HNE.out), HB.out⟩
  subst h2
  by_cases h3 : b = b'
  rotate_left
  · have hne : isSo ((⟨k, d, a, b, op, n, nm, l⟩ : LIns) = ⟨k, d, a, b', op', n', nm', l'⟩) = false := isSo_no fun e => h3 (by injection e)
    have e1 : (b == b') = false := by simp [h3]
    have e2 : decide (b = b') = false := decide_eq_false h3
    have e3 : (b != b') = true := by simp [h3]
    have HNE := Lib.hid hne
    clear HV HU hne
    go_wp2
    go_ret
    exact ⟨ret_so (HR.out.trans HNE.out), HB.out⟩
  subst h3
  by_cases h4 : op = op'
  rotate_left
  · have hne : isSo ((⟨k, d, a, b, op, n, nm, l⟩ : LIns) = ⟨k, d, a, b, op', n', nm', l'⟩) = false := isSo_no fun e => h4 (by injection e)
    have e1 : (op == op') = false := by simp [h4]
    have e2 : decide (op = op') = false := decide_eq_false h4
    have e3 : (op != op') = true := by simp [h4]
    have HNE := Lib.hid hne
    clear HV HU hne
    go_wp2
    go_ret
    exact ⟨ret_so (HR.out.trans HNE.out), HB.out⟩
  subst h4
  by_cases h5 : n = n'
  rotate_left
  · have hne : isSo ((⟨k, d, a, b, op, n, nm, l⟩ : LIns) = ⟨k, d, a, b, op, n', nm', l'⟩) = false := isSo_no fun e => h5 (by injection e)
    have e1 : (n == n') = false := by simp [h5]
    have e2 : decide (n = n') = false := decide_eq_false h5
    have e3 : (n != n') = true := by simp [h5]
    have HNE := Lib.hid hne
    clear HV HU hne
    go_wp2
    go_ret
    exact ⟨ret_so (HR.out.trans HNE.out), HB.out⟩
  subst h5
  by_cases h6 : nm = nm'
  rotate_left
  · have hne : isSo ((⟨k, d, a, b, op, n, nm, l⟩ : LIns) = ⟨k, d, a, b, op, n, nm', l'⟩) = false := isSo_no fun e => h6 (by injection e)
    have e1 : (nm.toList == nm'.toList) = false := by rw [str_eq]; exact decide_eq_false h6
    have e2 : decide (nm = nm') = false := decide_eq_false h6
    have e3 : (nm.toList != nm'.toList) = true := by rw [bne, e1]; rfl
    have HNE := Lib.hid hne
    clear HV HU hne
    go_wp2
    go_ret
    exact ⟨ret_so (HR.out.trans HNE.out), HB.out⟩
  subst h6
  by_cases h7 : l.length = l'.length
  rotate_left
  · have hne : isSo ((⟨k, d, a, b, op, n, nm, l⟩ : LIns) = ⟨k, d, a, b, op, n, nm, l'⟩) = false := isSo_no fun e => h7 (by injection e with _ _ _ _ _ _ _ e; rw [e])
    have e1 : ((l.length : Int) == (l'.length : Int)) = false := by simp; omega
    have e2 : decide ((l.length : Int) = (l'.length : Int)) = false := decide_eq_false (by omega)
    have e3 : ((l.length : Int) != (l'.length : Int)) = true := by rw [bne, e1]; rfl
    have HNE := Lib.hid hne
    clear HV HU hne
    go_wp2
    go_ret
    exact ⟨ret_so (HR.out.trans HNE.out), HB.out⟩
  have HVW := Lib.hid (HV.out.imp (ok' := (· < W.heap.size)) (R' := RInt) (fun _ h => Nat.lt_of_lt_of_le h HB.out.size) (fun b h => HB.out.block b h) (fun _ _ _ r => r))
  have HUW := Lib.hid (HU.out.imp (ok' := (· < W.heap.size)) (R' := RInt) (fun _ h => Nat.lt_of_lt_of_le h HB.out.size) (fun b h => HB.out.block b h) (fun _ _ _ r => r))
  clear HV HU
  have e3 : ((l.length : Int) != (l'.length : Int)) = false := by simp [h7]
  have H7 := Lib.hid h7
  rw [← h7] at y7 e3
  clear h7
  go_wp2
  go_loopw [5] (fun s wr => ∃ i : Nat, i ≤ l.length ∧ s = .int .i64 i ∧ l.take i = l'.take i ∧ ∃ nq, wr = W.drewN nq) (fun s _ => l.length - (RowKit.intOf s).toNat)
  case atStart => exact ⟨0, by omega, rfl, rfl, 0, rfl⟩
  case round =>
    obtain ⟨i, hi, rfl, htk, nq, rfl⟩ := hrel
    by_cases hlt : i < l.length
    · have hlt2 : i < l'.length := by rw [← H7.out]; exact hlt
      have d0 : decide ((i : Int) < (l.length : Int)) = true := decide_eq_true (by omega)
      have hil : (i : Int) < (l.length : Int) := by omega
      obtain ⟨b3, o3, c3, f3, _, _, _, q3⟩ := HVW.out.form (by omega)
      obtain ⟨b4, o4, c4, f4, _, _, _, q4⟩ := HUW.out.form (by omega)
      obtain rfl : Aa = some ⟨b3, o3, none⟩ := by injection f3
      obtain rfl : Ab = some ⟨b4, o4, none⟩ := by injection f4
      obtain ⟨cs3, _, r3, s3⟩ := q3 i hlt
      obtain ⟨cs4, _, r4, s4⟩ := q4 i hlt2
      subst r3 r4
      obtain ⟨p, hp⟩ : ∃ p, p = l[i] := ⟨_, rfl⟩
      obtain ⟨q, hq⟩ : ∃ q, q = l'[i] := ⟨_, rfl⟩
      rw [← hp] at s3
      rw [← hq] at s4
      have i3 : W.cell? ⟨b3, o3 + i, none⟩ = some (.int .i64 p) := by have h := s3.at_ (j := 0) rfl; simpa using h
      have i4 : W.cell? ⟨b4, o4 + i, none⟩ = some (.int .i64 q) := by have h := s4.at_ (j := 0) rfl; simpa using h
      have HTK := Lib.hid htk
      have HP := Lib.hid hp
      have HQ := Lib.hid hq
      clear f3 f4 q3 q4 s3 s4 hp hq htk
      by_cases hpq : p = q
      · subst hpq
        go_wp2
        go_quiet (fail)
        go_wp2
        go_roundw
        case rel => exact ⟨i + 1, by omega, by go_num, take_step hlt hlt2 HTK.out (by rw [← HP.out, ← HQ.out]), _, rfl⟩
        case measure => simp [RowKit.intOf]; omega
      · have hne : isSo ((⟨k, d, a, b, op, n, nm, l⟩ : LIns) = ⟨k, d, a, b, op, n, nm, l'⟩) = false := isSo_no fun e => hpq (by
          injection e with _ _ _ _ _ _ _ e
          subst e
          rw [HP.out, HQ.out])
        have e1 : (p == q) = false := by simp [hpq]
        have e2 : decide (p = q) = false := decide_eq_false hpq
        have e4 : (p != q) = true := by simp [hpq]
        have HNE := Lib.hid hne
        clear hne
        go_wp2
        go_quiet (fail)
        go_wp2
        go_ret
        exact ⟨ret_so (HR.out.trans HNE.out), below_dn (below_dn HB.out _) _⟩
    · obtain rfl : i = l.length := by omega
      have d0 : decide ((l.length : Int) < (l.length : Int)) = false := decide_eq_false (by omega)
      have heq : l = l' := take_ext H7.out htk
      have HNE := Lib.hid (isSo_yes (by rw [heq] : (⟨k, d, a, b, op, n, nm, l⟩ : LIns) = ⟨k, d, a, b, op, n, nm, l'⟩))
      clear htk heq
      go_wp2
      go_ret
      exact ⟨ret_so (HR.out.trans HNE.out), below_dn HB.out _⟩
theorem tl_inj {a b : ByteArray} (h : a.toList = b.toList) : a = b := by
  have h2 := str_eq a b
  rw [h] at h2
  simp at h2
  exact h2
theorem unit_ne_flow {u v : LUnit} {i : Nat} (h1 : i < u.flows.length) (h2 : i < v.flows.length) (h : u.flows[i] ≠ v.flows[i]) : ¬ u = v := fun e => h (by subst e; rfl)
theorem flow_ne_block {u v : LUnit} {i j : Nat} {h1 : i < u.flows.length} {h2 : i < v.flows.length} {n1 n2 : ByteArray} {p1 p2 v1 v2 : Int} {l1 l2 : List LBlock} (hf : (⟨n1, p1, v1, l1⟩ : LFlow) = u.flows[i]) (hg : (⟨n2, p2, v2, l2⟩ : LFlow) = v.flows[i]) (j1 : j < l1.length) (j2 : j < l2.length) (h : l1[j] ≠ l2[j]) : u.flows[i] ≠ v.flows[i] := fun e => by
  rw [← hf, ← hg] at e
  injection e with _ _ _ e
  subst e
  exact h rfl
theorem so_no {p : Prop} (h : false = isSo p) : ¬ p := fun hp => by rw [isSo_yes hp] at h; cases h
theorem so_yes {p : Prop} (h : true = isSo p) : p := by
  by_cases hp : p
  · exact hp
  · rw [isSo_no hp] at h; cases h
theorem unit_ne_arr {u v : LUnit} {i : Nat} (h1 : i < u.arrays.length) (h2 : i < v.arrays.length) (h : u.arrays[i] ≠ v.arrays[i]) : ¬ u = v := fun e => h (by subst e; rfl)
theorem slr_at {α : Type} {w w' : World} {sz : Nat} {R : World → (Nat → Prop) → List Value → α → Prop} {v : Value} {l : List α} (hm : MonoR R) (h : SlR w (· < w.heap.size) sz (R w (· < w.heap.size)) v l) (hb : Below w.heap.size w w') : SlR w' (· < w'.heap.size) sz (R w' (· < w'.heap.size)) v l :=
  h.imp (fun _ g => Nat.lt_of_lt_of_le g hb.size) (fun b g => hb.block b g) (fun _ _ _ r => hm _ _ _ _ _ _ r (fun _ g => Nat.lt_of_lt_of_le g hb.size) (fun b g => hb.block b g))
set_option maxHeartbeats 40000000 in
theorem same_any (u v : LUnit) (A1 A2 B1 B2 : Option Addr) (c1 c2 d1 d2 : Nat) (w : World) (ha : SlR w (· < w.heap.size) 2 RArr (.slice A1 u.arrays.length c1) u.arrays) (hf : SlR w (· < w.heap.size) 4 (RFlow w (· < w.heap.size)) (.slice A2 u.flows.length c2) u.flows) (hb : SlR w (· < w.heap.size) 2 RArr (.slice B1 v.arrays.length d1) v.arrays) (hg : SlR w (· < w.heap.size) 4 (RFlow w (· < w.heap.size)) (.slice B2 v.flows.length d2) v.flows) :
    Calls Tryz.prog 13 #[.agg #[.slice A1 u.arrays.length c1, .slice A2 u.flows.length c2], .agg #[.slice B1 v.arrays.length d1, .slice B2 v.flows.length d2]] w fun e w' => e = .returned (.bool (isSo (u = v))) ∧ Below w.heap.size w w' := by
  obtain ⟨R, hR⟩ : ∃ R, R = isSo (u = v) := ⟨_, rfl⟩
  rw [← hR]
  have HR := Lib.hid hR
  have lna := ha.len_le
  have lnf := hf.len_le
  have lnb := hb.len_le
  have lng := hg.len_le
  unfold maxLen at lna lnf lnb lng
  have HAA := Lib.hid ha
  have HFF := Lib.hid hf
  have HBB := Lib.hid hb
  have HGG := Lib.hid hg
  clear hR ha hf hb hg
  go_enter Tryz.func13, Tryz.ntmps13
  go_upto_region 1 with fail
  refine wp_world ?_
  intro W hW
  have hB : Below w.heap.size w W := by rw [← hW]; exact below2 _ _ _
  have hX : Blk W w.heap.size 27 #[.slice A1 u.arrays.length c1, .slice A2 u.flows.length c2] := by rw [← hW]; exact (Blk.new_at _ _ _ rfl).alloc _
  have hY : Blk W (w.heap.size + 1) 27 #[.slice B1 v.arrays.length d1, .slice B2 v.flows.length d2] := by rw [← hW]; exact Blk.new_at _ _ _ (by simp)
  clear hW
  have HA := Lib.hid (HAA.out.imp (ok' := (· < W.heap.size)) (R' := RArr) (fun _ h => Nat.lt_of_lt_of_le h hB.size) (fun b h => hB.block b h) (fun _ _ _ r => r))
  have HBA := Lib.hid (HBB.out.imp (ok' := (· < W.heap.size)) (R' := RArr) (fun _ h => Nat.lt_of_lt_of_le h hB.size) (fun b h => hB.block b h) (fun _ _ _ r => r))
  have HF := Lib.hid (slr_at mono_flow HFF.out hB)
  have HG := Lib.hid (slr_at mono_flow HGG.out hB)
  have HX := Lib.hid hX
  have HY := Lib.hid hY
  have HB := Lib.hid hB
  have hxl := hX.lt
  have hyl := hY.lt
  have x0 : W.cell? ⟨w.heap.size, 0, none⟩ = some (.slice A1 u.arrays.length c1) := hX.cell 0
  have x1 : W.cell? ⟨w.heap.size, 1, none⟩ = some (.slice A2 u.flows.length c2) := hX.cell 1
  have y0 : W.cell? ⟨w.heap.size + 1, 0, none⟩ = some (.slice B1 v.arrays.length d1) := hY.cell 0
  have y1 : W.cell? ⟨w.heap.size + 1, 1, none⟩ = some (.slice B2 v.flows.length d2) := hY.cell 1
  clear hX hY hB HAA HFF HBB HGG
  by_cases hla : u.arrays.length = v.arrays.length
  rotate_left
  · have HNE := Lib.hid (isSo_no (p := u = v) fun e => hla (by rw [e]))
    have e1 : ((u.arrays.length : Int) == (v.arrays.length : Int)) = false := by simp; omega
    have e2 : decide ((u.arrays.length : Int) = (v.arrays.length : Int)) = false := decide_eq_false (by omega)
    have e3 : ((u.arrays.length : Int) != (v.arrays.length : Int)) = true := by rw [bne, e1]; rfl
    go_wp2
    go_ret
    exact ⟨ret_so (HR.out.trans HNE.out), HB.out⟩
  have ea : ((u.arrays.length : Int) != (v.arrays.length : Int)) = false := by simp [hla]
  have ea2 : decide ((u.arrays.length : Int) = (v.arrays.length : Int)) = true := decide_eq_true (by omega)
  by_cases hlf : u.flows.length = v.flows.length
  rotate_left
  · have HNE := Lib.hid (isSo_no (p := u = v) fun e => hlf (by rw [e]))
    have e1 : ((u.flows.length : Int) == (v.flows.length : Int)) = false := by simp; omega
    have e2 : decide ((u.flows.length : Int) = (v.flows.length : Int)) = false := decide_eq_false (by omega)
    have e3 : ((u.flows.length : Int) != (v.flows.length : Int)) = true := by rw [bne, e1]; rfl
    clear hla
    go_wp2
    go_ret
    exact ⟨ret_so (HR.out.trans HNE.out), HB.out⟩
  have ef : ((u.flows.length : Int) != (v.flows.length : Int)) = false := by simp [hlf]
  have ef2 : decide ((u.flows.length : Int) = (v.flows.length : Int)) = true := decide_eq_true (by omega)
  have HLA := Lib.hid hla
  have HLF := Lib.hid hlf
  clear hla hlf
  go_wp2
  go_loopw [5] (fun s wr => ∃ i : Nat, i ≤ u.arrays.length ∧ s = .int .i64 i ∧ u.arrays.take i = v.arrays.take i ∧ ∃ nq, wr = W.drewN nq) (fun s _ => u.arrays.length - (RowKit.intOf s).toNat)
  case atStart => exact ⟨0, by omega, rfl, rfl, 0, rfl⟩
  case round =>
    obtain ⟨i, hi, rfl, htk, nq, rfl⟩ := hrel
    by_cases hlt : i < u.arrays.length
    · have hlt2 : i < v.arrays.length := by rw [← HLA.out]; exact hlt
      have d0 : decide ((i : Int) < (u.arrays.length : Int)) = true := decide_eq_true (by omega)
      have hil : (i : Int) < (u.arrays.length : Int) := by omega
      have hil2 : (i : Int) < (v.arrays.length : Int) := by omega
      obtain ⟨b3, o3, c3, f3, _, _, _, q3⟩ := HA.out.form (by omega)
      obtain ⟨b4, o4, c4, f4, _, _, _, q4⟩ := HBA.out.form (by omega)
      obtain rfl : A1 = some ⟨b3, o3, none⟩ := by injection f3
      obtain rfl : B1 = some ⟨b4, o4, none⟩ := by injection f4
      obtain ⟨cs3, _, r3, s3⟩ := q3 i hlt
      obtain ⟨cs4, _, r4, s4⟩ := q4 i hlt2
      obtain ⟨p, hp⟩ : ∃ p, p = u.arrays[i] := ⟨_, rfl⟩
      obtain ⟨q, hq⟩ : ∃ q, q = v.arrays[i] := ⟨_, rfl⟩
      rw [← hp] at r3
      rw [← hq] at r4
      obtain ⟨n1, s1⟩ := p
      obtain ⟨n2, s2⟩ := q
      subst r3 r4
      have i0 : W.cell? ⟨b3, o3 + i * 2, none⟩ = some (.string n1) := by have h := s3.at_ (j := 0) rfl; simpa using h
      have i1 : W.cell? ⟨b3, o3 + i * 2 + 1, none⟩ = some (.int .i64 s1) := s3.at_ (j := 1) rfl
      have j0 : W.cell? ⟨b4, o4 + i * 2, none⟩ = some (.string n2) := by have h := s4.at_ (j := 0) rfl; simpa using h
      have j1 : W.cell? ⟨b4, o4 + i * 2 + 1, none⟩ = some (.int .i64 s2) := s4.at_ (j := 1) rfl
      have HTK := Lib.hid htk
      have HP := Lib.hid hp
      have HQ := Lib.hid hq
      clear f3 f4 q3 q4 s3 s4 hp hq htk ea ea2 ef ef2
      by_cases h1 : n1 = n2
      · subst h1
        by_cases h2 : s1 = s2
        · subst h2
          go_wp2
          go_quiet (fail)
          go_wp2
          go_roundw
          case rel => exact ⟨i + 1, by omega, by go_num, take_step hlt hlt2 HTK.out (by rw [← HP.out, ← HQ.out]), _, rfl⟩
          case measure => simp [RowKit.intOf]; omega
        · have HNE := Lib.hid (isSo_no (unit_ne_arr hlt hlt2 fun e => h2 (by rw [← HP.out, ← HQ.out] at e; injection e)))
          go_wp2
          go_quiet (fail)
          go_wp2
          go_ret
          exact ⟨ret_so (HR.out.trans HNE.out), below_dn (below_dn HB.out _) _⟩
      · have HNE := Lib.hid (isSo_no (unit_ne_arr hlt hlt2 fun e => h1 (by rw [← HP.out, ← HQ.out] at e; injection e)))
        have h2 : ¬ n1.toList = n2.toList := fun e => h1 (tl_inj e)
        go_wp2
        go_quiet (fail)
        go_wp2
        go_ret
        exact ⟨ret_so (HR.out.trans HNE.out), below_dn (below_dn HB.out _) _⟩
    · obtain rfl : i = u.arrays.length := by omega
      have d0 : decide ((u.arrays.length : Int) < (u.arrays.length : Int)) = false := decide_eq_false (by omega)
      have HEA := Lib.hid (take_ext HLA.out htk)
      have hB1 : Below W.heap.size W (W.drewN nq) := below_dn (Below.refl _ _) nq
      generalize W.drewN nq = W1 at *
      have HF1 := Lib.hid (slr_at mono_flow HF.out hB1)
      have HG1 := Lib.hid (slr_at mono_flow HG.out hB1)
      have HBW := Lib.hid (HB.out.trans (hB1.mono HB.out.size))
      have HX1 := Lib.hid (HX.out.below hB1 hxl)
      have HY1 := Lib.hid (HY.out.below hB1 hyl)
      have hxl1 := HX1.out.lt
      have hyl1 := HY1.out.lt
      have w0 : W1.cell? ⟨w.heap.size, 0, none⟩ = some (.slice A1 u.arrays.length c1) := HX1.out.cell 0
      clear htk x0 x1 y0 y1 ea ea2 ef ef2 HA HBA HF HG hB1 HX HY hxl hyl
      go_wp2
      clear w0
      go_loopw [6] (fun s wr => ∃ i : Nat, i ≤ u.flows.length ∧ s = .int .i64 i ∧ u.flows.take i = v.flows.take i ∧ Below W1.heap.size W1 wr) (fun s _ => u.flows.length - (RowKit.intOf s).toNat)
      case atStart => exact ⟨0, by omega, rfl, rfl, Below.refl _ _⟩
      case round =>
        obtain ⟨wk, hwk⟩ : ∃ wk, wk = wr := ⟨_, rfl⟩
        subst hwk
        obtain ⟨i, hi, rfl, htk, hbr⟩ := hrel
        have HTK := Lib.hid htk
        have HBR := Lib.hid hbr
        have x1 : wk.cell? ⟨w.heap.size, 1, none⟩ = some (.slice A2 u.flows.length c2) := (HX1.out.below hbr hxl1).cell 1
        have y1 : wk.cell? ⟨w.heap.size + 1, 1, none⟩ = some (.slice B2 v.flows.length d2) := (HY1.out.below hbr hyl1).cell 1
        by_cases hlt : i < u.flows.length
        · have hlt2 : i < v.flows.length := by rw [← HLF.out]; exact hlt
          have d0 : decide ((i : Int) < (u.flows.length : Int)) = true := decide_eq_true (by omega)
          have hil : (i : Int) < (u.flows.length : Int) := by omega
          have hil2 : (i : Int) < (v.flows.length : Int) := by omega
          obtain ⟨b3, o3, c3, f3, _, _, hb3, q3⟩ := HF1.out.form (by omega)
          obtain ⟨b4, o4, c4, f4, _, _, hb4, q4⟩ := HG1.out.form (by omega)
          obtain rfl : A2 = some ⟨b3, o3, none⟩ := by injection f3
          obtain rfl : B2 = some ⟨b4, o4, none⟩ := by injection f4
          obtain ⟨cs3, _, ⟨vb3, r3, t3⟩, s3⟩ := q3 i hlt
          obtain ⟨cs4, _, ⟨vb4, r4, t4⟩, s4⟩ := q4 i hlt2
          obtain ⟨f, hfe⟩ : ∃ f, f = u.flows[i] := ⟨_, rfl⟩
          obtain ⟨g, hge⟩ : ∃ g, g = v.flows[i] := ⟨_, rfl⟩
          rw [← hfe] at r3 t3
          rw [← hge] at r4 t4
          obtain ⟨n1, p1, v1, l1⟩ := f
          obtain ⟨n2, p2, v2, l2⟩ := g
          obtain ⟨E1, e1c, hv1, _, _⟩ := t3.val
          obtain ⟨E2, e2c, hv2, _, _⟩ := t4.val
          subst hv1 hv2 r3 r4
          have s3w := s3.keep (hbr.block b3 hb3)
          have s4w := s4.keep (hbr.block b4 hb4)
          have i0 : wk.cell? ⟨b3, o3 + i * 4, none⟩ = some (.string n1) := by have h := s3w.at_ (j := 0) rfl; simpa using h
          have i1 : wk.cell? ⟨b3, o3 + i * 4 + 1, none⟩ = some (.int .i64 p1) := s3w.at_ (j := 1) rfl
          have i2 : wk.cell? ⟨b3, o3 + i * 4 + 2, none⟩ = some (.int .i64 v1) := s3w.at_ (j := 2) rfl
          have i3 : wk.cell? ⟨b3, o3 + i * 4 + 3, none⟩ = some (.slice E1 l1.length e1c) := s3w.at_ (j := 3) rfl
          have j0 : wk.cell? ⟨b4, o4 + i * 4, none⟩ = some (.string n2) := by have h := s4w.at_ (j := 0) rfl; simpa using h
          have j1 : wk.cell? ⟨b4, o4 + i * 4 + 1, none⟩ = some (.int .i64 p2) := s4w.at_ (j := 1) rfl
          have j2 : wk.cell? ⟨b4, o4 + i * 4 + 2, none⟩ = some (.int .i64 v2) := s4w.at_ (j := 2) rfl
          have j3 : wk.cell? ⟨b4, o4 + i * 4 + 3, none⟩ = some (.slice E2 l2.length e2c) := s4w.at_ (j := 3) rfl
          have HT3 := Lib.hid t3
          have HT4 := Lib.hid t4
          have HFE := Lib.hid hfe
          have HGE := Lib.hid hge
          have hy1l : w.heap.size + 1 < wk.heap.size := Nat.lt_of_lt_of_le hyl1 hbr.size
          have hb4l : b4 < wk.heap.size := Nat.lt_of_lt_of_le hb4 hbr.size
          clear f3 f4 q3 q4 s3 s4 s3w s4w t3 t4 hfe hge htk hbr
          go_upto_region 12 with fail
          refine wp_world ?_
          intro W12 hW12
          have h12 : Below wk.heap.size wk W12 := by rw [← hW12]; exact below1 _ _
          have x7 : Blk W12 wk.heap.size 41 #[.string n1, .int .i64 p1, .int .i64 v1, .slice E1 l1.length e1c] := by rw [← hW12]; exact Blk.new_at _ _ _ rfl
          have hsz : W12.heap.size = wk.heap.size + 1 := by rw [← hW12]; simp
          have k1 : W12.cell? ⟨w.heap.size + 1, 1, none⟩ = some (.slice (some ⟨b4, o4, none⟩) v.flows.length d2) := (h12.cell hy1l).trans y1
          have k2 : W12.cell? ⟨b4, o4 + i * 4, none⟩ = some (.string n2) := (h12.cell hb4l).trans j0
          have k3 : W12.cell? ⟨b4, o4 + i * 4 + 1, none⟩ = some (.int .i64 p2) := (h12.cell hb4l).trans j1
          have k4 : W12.cell? ⟨b4, o4 + i * 4 + 2, none⟩ = some (.int .i64 v2) := (h12.cell hb4l).trans j2
          have k5 : W12.cell? ⟨b4, o4 + i * 4 + 3, none⟩ = some (.slice E2 l2.length e2c) := (h12.cell hb4l).trans j3
          clear hW12 i0 i1 i2 i3 j0 j1 j2 j3 x1 y1
          go_upto_region 13 with fail
          refine wp_world ?_
          intro W13 hW13
          have h13 : Below wk.heap.size wk W13 := by rw [← hW13]; exact h12.alloc h12.size _
          replace x7 : Blk W13 wk.heap.size 41 #[.string n1, .int .i64 p1, .int .i64 v1, .slice E1 l1.length e1c] := by rw [← hW13]; exact x7.alloc _
          have x8 : Blk W13 (wk.heap.size + 1) 41 #[.string n2, .int .i64 p2, .int .i64 v2, .slice E2 l2.length e2c] := by rw [← hW13]; exact Blk.new_at _ _ _ hsz.symm
          try rw [hsz]
          have z0 : W13.cell? ⟨wk.heap.size, 0, none⟩ = some (.string n1) := x7.cell 0
          have z1 : W13.cell? ⟨wk.heap.size, 1, none⟩ = some (.int .i64 p1) := x7.cell 1
          have z2 : W13.cell? ⟨wk.heap.size, 2, none⟩ = some (.int .i64 v1) := x7.cell 2
          have z3 : W13.cell? ⟨wk.heap.size, 3, none⟩ = some (.slice E1 l1.length e1c) := x7.cell 3
          have m0 : W13.cell? ⟨wk.heap.size + 1, 0, none⟩ = some (.string n2) := x8.cell 0
          have m1 : W13.cell? ⟨wk.heap.size + 1, 1, none⟩ = some (.int .i64 p2) := x8.cell 1
          have m2 : W13.cell? ⟨wk.heap.size + 1, 2, none⟩ = some (.int .i64 v2) := x8.cell 2
          have m3 : W13.cell? ⟨wk.heap.size + 1, 3, none⟩ = some (.slice E2 l2.length e2c) := x8.cell 3
          have H13 := Lib.hid (HBR.out.trans (h13.mono HBR.out.size))
          have HB13 := Lib.hid (HBW.out.trans (H13.out.mono HBW.out.size))
          have HX7 := Lib.hid x7
          have HX8 := Lib.hid x8
          clear hW13 h13 h12 hsz x7 x8 k1 k2 k3 k4 k5
          by_cases h1 : n1 = n2
          rotate_left
          · have HNE := Lib.hid (isSo_no (unit_ne_flow hlt hlt2 fun e => h1 (by rw [← HFE.out, ← HGE.out] at e; injection e)))
            have h2 : ¬ n1.toList = n2.toList := fun e => h1 (tl_inj e)
            have h3 : (n1.toList != n2.toList) = true := by simp [h2]
            have h4 : (n1.toList == n2.toList) = false := by simp [h2]
            go_wp2
            go_ret
            exact ⟨ret_so (HR.out.trans HNE.out), HB13.out⟩
          subst h1
          by_cases h1 : p1 = p2
          rotate_left
          · have HNE := Lib.hid (isSo_no (unit_ne_flow hlt hlt2 fun e => h1 (by rw [← HFE.out, ← HGE.out] at e; injection e)))
            have h3 : (p1 != p2) = true := by simp [h1]
            have h4 : (p1 == p2) = false := by simp [h1]
            go_wp2
            go_ret
            exact ⟨ret_so (HR.out.trans HNE.out), HB13.out⟩
          subst h1
          by_cases h1 : v1 = v2
          rotate_left
          · have HNE := Lib.hid (isSo_no (unit_ne_flow hlt hlt2 fun e => h1 (by rw [← HFE.out, ← HGE.out] at e; injection e)))
            have h3 : (v1 != v2) = true := by simp [h1]
            have h4 : (v1 == v2) = false := by simp [h1]
            go_wp2
            go_ret
            exact ⟨ret_so (HR.out.trans HNE.out), HB13.out⟩
          subst h1
          by_cases h1 : l1.length = l2.length
          rotate_left
          · have HNE := Lib.hid (isSo_no (unit_ne_flow hlt hlt2 fun e => h1 (by rw [← HFE.out, ← HGE.out] at e; injection e with _ _ _ e; rw [e])))
            have h3 : ((l1.length : Int) == (l2.length : Int)) = false := by simp; omega
            have h4 : ((l1.length : Int) != (l2.length : Int)) = true := by rw [bne, h3]; rfl
            have h5 : decide ((l1.length : Int) = (l2.length : Int)) = false := decide_eq_false (by omega)
            go_wp2
            go_ret
            exact ⟨ret_so (HR.out.trans HNE.out), HB13.out⟩
          have hbl : ((l1.length : Int) != (l2.length : Int)) = false := by simp [h1]
          have HLL := Lib.hid h1
          have ln1 := HT3.out.len_le
          have ln2 := HT4.out.len_le
          unfold maxLen at ln1 ln2
          clear h1
          have HL1 := Lib.hid (slr_at mono_block HT3.out H13.out)
          have HL2 := Lib.hid (slr_at mono_block HT4.out H13.out)
          go_wp2
          clear hbl z0 z1 z2 z3 m0 m1 m2 m3 HT3 HT4
          go_loopw [9] (fun s wq => ∃ j : Nat, j ≤ l1.length ∧ s = .int .i64 j ∧ l1.take j = l2.take j ∧ Below W13.heap.size W13 wq) (fun s _ => l1.length - (RowKit.intOf s).toNat)
          case atStart => exact ⟨0, by omega, rfl, rfl, Below.refl _ _⟩
          case round =>
            obtain ⟨wq, hwq⟩ : ∃ wq, wq = wr := ⟨_, rfl⟩
            subst hwq
            obtain ⟨j, hj, rfl, htj, hbq⟩ := hrel
            have HTJ := Lib.hid htj
            have HBQ := Lib.hid hbq
            have z3 : wq.cell? ⟨wk.heap.size, 3, none⟩ = some (.slice E1 l1.length e1c) := (HX7.out.below hbq HX7.out.lt).cell 3
            have m3 : wq.cell? ⟨wk.heap.size + 1, 3, none⟩ = some (.slice E2 l2.length e2c) := (HX8.out.below hbq HX8.out.lt).cell 3
            by_cases hlj : j < l1.length
            · have hlj2 : j < l2.length := by rw [← HLL.out]; exact hlj
              have d1 : decide ((j : Int) < (l1.length : Int)) = true := decide_eq_true (by omega)
              have hjl : (j : Int) < (l1.length : Int) := by omega
              have hjl2 : (j : Int) < (l2.length : Int) := by omega
              obtain ⟨b5, o5, c5, f5, _, _, hb5, q5⟩ := HL1.out.form (by omega)
              obtain ⟨b6, o6, c6, f6, _, _, hb6, q6⟩ := HL2.out.form (by omega)
              obtain rfl : E1 = some ⟨b5, o5, none⟩ := by injection f5
              obtain rfl : E2 = some ⟨b6, o6, none⟩ := by injection f6
              obtain ⟨cs5, _, ⟨va5, r5, t5⟩, s5⟩ := q5 j hlj
              obtain ⟨cs6, _, ⟨va6, r6, t6⟩, s6⟩ := q6 j hlj2
              obtain ⟨b, hbe⟩ : ∃ b, b = l1[j] := ⟨_, rfl⟩
              obtain ⟨c, hce⟩ : ∃ c, c = l2[j] := ⟨_, rfl⟩
              rw [← hbe] at r5 t5
              rw [← hce] at r6 t6
              obtain ⟨x1, k1, a1, to1, e1⟩ := b
              obtain ⟨x2, k2, a2, to2, e2⟩ := c
              obtain ⟨G1, g1c, hw1, _, _⟩ := t5.val
              obtain ⟨G2, g2c, hw2, _, _⟩ := t6.val
              subst hw1 hw2 r5 r6
              have s5w := s5.keep (hbq.block b5 hb5)
              have s6w := s6.keep (hbq.block b6 hb6)
              have i0 : wq.cell? ⟨b5, o5 + j * 5, none⟩ = some (.slice G1 x1.length g1c) := by have h := s5w.at_ (j := 0) rfl; simpa using h
              have i1 : wq.cell? ⟨b5, o5 + j * 5 + 1, none⟩ = some (.int .i64 k1) := s5w.at_ (j := 1) rfl
              have i2 : wq.cell? ⟨b5, o5 + j * 5 + 2, none⟩ = some (.int .i64 a1) := s5w.at_ (j := 2) rfl
              have i3 : wq.cell? ⟨b5, o5 + j * 5 + 3, none⟩ = some (.int .i64 to1) := s5w.at_ (j := 3) rfl
              have i4 : wq.cell? ⟨b5, o5 + j * 5 + 4, none⟩ = some (.int .i64 e1) := s5w.at_ (j := 4) rfl
              have j0 : wq.cell? ⟨b6, o6 + j * 5, none⟩ = some (.slice G2 x2.length g2c) := by have h := s6w.at_ (j := 0) rfl; simpa using h
              have j1 : wq.cell? ⟨b6, o6 + j * 5 + 1, none⟩ = some (.int .i64 k2) := s6w.at_ (j := 1) rfl
              have j2 : wq.cell? ⟨b6, o6 + j * 5 + 2, none⟩ = some (.int .i64 a2) := s6w.at_ (j := 2) rfl
              have j3 : wq.cell? ⟨b6, o6 + j * 5 + 3, none⟩ = some (.int .i64 to2) := s6w.at_ (j := 3) rfl
              have j4 : wq.cell? ⟨b6, o6 + j * 5 + 4, none⟩ = some (.int .i64 e2) := s6w.at_ (j := 4) rfl
              have hm3l : wk.heap.size + 1 < wq.heap.size := Nat.lt_of_lt_of_le HX8.out.lt hbq.size
              have hb6l : b6 < wq.heap.size := Nat.lt_of_lt_of_le hb6 hbq.size
              have HT5 := Lib.hid t5
              have HT6 := Lib.hid t6
              have HBE := Lib.hid hbe
              have HCE := Lib.hid hce
              clear f5 f6 q5 q6 s5 s6 s5w s6w t5 t6 hbe hce htj hbq
              go_upto_region 19 with fail
              refine wp_world ?_
              intro W18 hW18
              have h18 : Below wq.heap.size wq W18 := by rw [← hW18]; exact below1 _ _
              have x10 : Blk W18 wq.heap.size 48 #[.slice G1 x1.length g1c, .int .i64 k1, .int .i64 a1, .int .i64 to1, .int .i64 e1] := by rw [← hW18]; exact Blk.new_at _ _ _ rfl
              have hsz : W18.heap.size = wq.heap.size + 1 := by rw [← hW18]; simp
              have p0 : W18.cell? ⟨wk.heap.size + 1, 3, none⟩ = some (.slice (some ⟨b6, o6, none⟩) l2.length e2c) := (h18.cell hm3l).trans m3
              have p1 : W18.cell? ⟨b6, o6 + j * 5, none⟩ = some (.slice G2 x2.length g2c) := (h18.cell hb6l).trans j0
              have p2 : W18.cell? ⟨b6, o6 + j * 5 + 1, none⟩ = some (.int .i64 k2) := (h18.cell hb6l).trans j1
              have p3 : W18.cell? ⟨b6, o6 + j * 5 + 2, none⟩ = some (.int .i64 a2) := (h18.cell hb6l).trans j2
              have p4 : W18.cell? ⟨b6, o6 + j * 5 + 3, none⟩ = some (.int .i64 to2) := (h18.cell hb6l).trans j3
              have p5 : W18.cell? ⟨b6, o6 + j * 5 + 4, none⟩ = some (.int .i64 e2) := (h18.cell hb6l).trans j4
              clear hW18 i0 i1 i2 i3 i4 j0 j1 j2 j3 j4 z3 m3
              go_upto_region 20 with fail
              refine wp_world ?_
              intro W19 hW19
              have h19 : Below wq.heap.size wq W19 := by rw [← hW19]; exact h18.alloc h18.size _
              replace x10 : Blk W19 wq.heap.size 48 #[.slice G1 x1.length g1c, .int .i64 k1, .int .i64 a1, .int .i64 to1, .int .i64 e1] := by rw [← hW19]; exact x10.alloc _
              have x11 : Blk W19 (wq.heap.size + 1) 48 #[.slice G2 x2.length g2c, .int .i64 k2, .int .i64 a2, .int .i64 to2, .int .i64 e2] := by rw [← hW19]; exact Blk.new_at _ _ _ hsz.symm
              try rw [hsz]
              have z0 : W19.cell? ⟨wq.heap.size, 0, none⟩ = some (.slice G1 x1.length g1c) := x10.cell 0
              have z1 : W19.cell? ⟨wq.heap.size, 1, none⟩ = some (.int .i64 k1) := x10.cell 1
              have z2 : W19.cell? ⟨wq.heap.size, 2, none⟩ = some (.int .i64 a1) := x10.cell 2
              have z3 : W19.cell? ⟨wq.heap.size, 3, none⟩ = some (.int .i64 to1) := x10.cell 3
              have z4 : W19.cell? ⟨wq.heap.size, 4, none⟩ = some (.int .i64 e1) := x10.cell 4
              have m0 : W19.cell? ⟨wq.heap.size + 1, 0, none⟩ = some (.slice G2 x2.length g2c) := x11.cell 0
              have m1 : W19.cell? ⟨wq.heap.size + 1, 1, none⟩ = some (.int .i64 k2) := x11.cell 1
              have m2 : W19.cell? ⟨wq.heap.size + 1, 2, none⟩ = some (.int .i64 a2) := x11.cell 2
              have m3 : W19.cell? ⟨wq.heap.size + 1, 3, none⟩ = some (.int .i64 to2) := x11.cell 3
              have m4 : W19.cell? ⟨wq.heap.size + 1, 4, none⟩ = some (.int .i64 e2) := x11.cell 4
              have H19 := Lib.hid (HBQ.out.trans (h19.mono HBQ.out.size))
              have HB19 := Lib.hid (HB13.out.trans (H19.out.mono HB13.out.size))
              have HX10 := Lib.hid x10
              have HX11 := Lib.hid x11
              clear hW19 h19 h18 hsz x10 x11 p0 p1 p2 p3 p4 p5
              by_cases h1 : k1 = k2
              rotate_left
              · have HNE := Lib.hid (isSo_no (unit_ne_flow hlt hlt2 (flow_ne_block HFE.out HGE.out hlj hlj2 fun e => h1 (by rw [← HBE.out, ← HCE.out] at e; injection e with _ e; injection e))))
                go_wp2
                go_ret
                exact ⟨ret_so (HR.out.trans HNE.out), HB19.out⟩
              subst h1
              by_cases h1 : a1 = a2
              rotate_left
              · have HNE := Lib.hid (isSo_no (unit_ne_flow hlt hlt2 (flow_ne_block HFE.out HGE.out hlj hlj2 fun e => h1 (by rw [← HBE.out, ← HCE.out] at e; injection e with _ e; injection e))))
                go_wp2
                go_ret
                exact ⟨ret_so (HR.out.trans HNE.out), HB19.out⟩
              subst h1
              by_cases h1 : to1 = to2
              rotate_left
              · have HNE := Lib.hid (isSo_no (unit_ne_flow hlt hlt2 (flow_ne_block HFE.out HGE.out hlj hlj2 fun e => h1 (by rw [← HBE.out, ← HCE.out] at e; injection e with _ e; injection e))))
                go_wp2
                go_ret
                exact ⟨ret_so (HR.out.trans HNE.out), HB19.out⟩
              subst h1
              by_cases h1 : e1 = e2
              rotate_left
              · have HNE := Lib.hid (isSo_no (unit_ne_flow hlt hlt2 (flow_ne_block HFE.out HGE.out hlj hlj2 fun e => h1 (by rw [← HBE.out, ← HCE.out] at e; injection e with _ e; injection e))))
                go_wp2
                go_ret
                exact ⟨ret_so (HR.out.trans HNE.out), HB19.out⟩
              subst h1
              by_cases h1 : x1.length = x2.length
              rotate_left
              · have HNE := Lib.hid (isSo_no (unit_ne_flow hlt hlt2 (flow_ne_block HFE.out HGE.out hlj hlj2 fun e => h1 (by rw [← HBE.out, ← HCE.out] at e; injection e with e _; rw [e]))))
                have h3 : ((x1.length : Int) == (x2.length : Int)) = false := by simp; omega
                have h4 : ((x1.length : Int) != (x2.length : Int)) = true := by rw [bne, h3]; rfl
                have h5 : decide ((x1.length : Int) = (x2.length : Int)) = false := decide_eq_false (by omega)
                go_wp2
                go_ret
                exact ⟨ret_so (HR.out.trans HNE.out), HB19.out⟩
              have hxl : ((x1.length : Int) != (x2.length : Int)) = false := by simp [h1]
              have HLX := Lib.hid h1
              have lx1 := HT5.out.len_le
              have lx2 := HT6.out.len_le
              unfold maxLen at lx1 lx2
              clear h1
              have HI1 := Lib.hid (slr_at mono_ins HT5.out H19.out)
              have HI2 := Lib.hid (slr_at mono_ins HT6.out H19.out)
              go_wp2
              clear hxl z0 z1 z2 z3 z4 m0 m1 m2 m3 m4 HT5 HT6
              go_loopw [12] (fun s wz => ∃ m : Nat, m ≤ x1.length ∧ s = .int .i64 m ∧ x1.take m = x2.take m ∧ Below W19.heap.size W19 wz) (fun s _ => x1.length - (RowKit.intOf s).toNat)
              case atStart => exact ⟨0, by omega, rfl, rfl, Below.refl _ _⟩
              case round =>
                obtain ⟨wz, hwz⟩ : ∃ wz, wz = wr := ⟨_, rfl⟩
                subst hwz
                obtain ⟨m, hm, rfl, htm, hbz⟩ := hrel
                have HTM := Lib.hid htm
                have HBZ := Lib.hid hbz
                have HBZ0 := Lib.hid (HB19.out.trans (hbz.mono HB19.out.size))
                have hx10l : wq.heap.size < wz.heap.size := (HX10.out.below hbz HX10.out.lt).lt
                have hx11l : wq.heap.size + 1 < wz.heap.size := (HX11.out.below hbz HX11.out.lt).lt
                have z0 : wz.cell? ⟨wq.heap.size, 0, none⟩ = some (.slice G1 x1.length g1c) := (HX10.out.below hbz HX10.out.lt).cell 0
                have m0 : wz.cell? ⟨wq.heap.size + 1, 0, none⟩ = some (.slice G2 x2.length g2c) := (HX11.out.below hbz HX11.out.lt).cell 0
                by_cases hlm : m < x1.length
                · have hlm2 : m < x2.length := by rw [← HLX.out]; exact hlm
                  have d2 : decide ((m : Int) < (x1.length : Int)) = true := decide_eq_true (by omega)
                  have hml : (m : Int) < (x1.length : Int) := by omega
                  have hml2 : (m : Int) < (x2.length : Int) := by omega
                  obtain ⟨b7, o7, c7, f7, _, _, hb7, q7⟩ := HI1.out.form (by omega)
                  obtain ⟨b8, o8, c8, f8, _, _, hb8, q8⟩ := HI2.out.form (by omega)
                  obtain rfl : G1 = some ⟨b7, o7, none⟩ := by injection f7
                  obtain rfl : G2 = some ⟨b8, o8, none⟩ := by injection f8
                  obtain ⟨cs7, _, ⟨va7, r7, t7⟩, s7⟩ := q7 m hlm
                  obtain ⟨cs8, _, ⟨va8, r8, t8⟩, s8⟩ := q8 m hlm2
                  obtain ⟨x, hxe⟩ : ∃ x, x = x1[m] := ⟨_, rfl⟩
                  obtain ⟨y, hye⟩ : ∃ y, y = x2[m] := ⟨_, rfl⟩
                  rw [← hxe] at r7 t7
                  rw [← hye] at r8 t8
                  obtain ⟨Q1, q1c, hq1, _, _⟩ := t7.val
                  obtain ⟨Q2, q2c, hq2, _, _⟩ := t8.val
                  subst hq1 hq2
                  subst r7 r8
                  have s7w := s7.keep (hbz.block b7 hb7)
                  have s8w := s8.keep (hbz.block b8 hb8)
                  have hb7l : b7 < wz.heap.size := Nat.lt_of_lt_of_le hb7 hbz.size
                  have hb8l : b8 < wz.heap.size := Nat.lt_of_lt_of_le hb8 hbz.size
                  have SO : Hid (∀ X, Below wz.heap.size wz X → (fun w2 => w2.cell? ⟨wq.heap.size, 0, none⟩ = some (.slice (some ⟨b7, o7, none⟩) x1.length g1c) ∧ w2.cell? ⟨wq.heap.size + 1, 0, none⟩ = some (.slice (some ⟨b8, o8, none⟩) x2.length g2c) ∧ w2.cell? ⟨b7, o7 + m * 8, none⟩ = some (.int .i64 x.kind) ∧ w2.cell? ⟨b7, o7 + m * 8 + 1, none⟩ = some (.int .i64 x.d) ∧ w2.cell? ⟨b7, o7 + m * 8 + 2, none⟩ = some (.int .i64 x.a) ∧ w2.cell? ⟨b7, o7 + m * 8 + 3, none⟩ = some (.int .i64 x.b) ∧ w2.cell? ⟨b7, o7 + m * 8 + 4, none⟩ = some (.int .i64 x.op) ∧ w2.cell? ⟨b7, o7 + m * 8 + 5, none⟩ = some (.int .i64 x.n) ∧ w2.cell? ⟨b7, o7 + m * 8 + 6, none⟩ = some (.string x.name) ∧ w2.cell? ⟨b7, o7 + m * 8 + 7, none⟩ = some (.slice Q1 x.args.length q1c) ∧ w2.cell? ⟨b8, o8 + m * 8, none⟩ = some (.int .i64 y.kind) ∧ w2.cell? ⟨b8, o8 + m * 8 + 1, none⟩ = some (.int .i64 y.d) ∧ w2.cell? ⟨b8, o8 + m * 8 + 2, none⟩ = some (.int .i64 y.a) ∧ w2.cell? ⟨b8, o8 + m * 8 + 3, none⟩ = some (.int .i64 y.b) ∧ w2.cell? ⟨b8, o8 + m * 8 + 4, none⟩ = some (.int .i64 y.op) ∧ w2.cell? ⟨b8, o8 + m * 8 + 5, none⟩ = some (.int .i64 y.n) ∧ w2.cell? ⟨b8, o8 + m * 8 + 6, none⟩ = some (.string y.name) ∧ w2.cell? ⟨b8, o8 + m * 8 + 7, none⟩ = some (.slice Q2 y.args.length q2c)) X) := Lib.hid (fun X hb => ⟨(hb.cell (p := ⟨wq.heap.size, 0, none⟩) hx10l).trans z0, (hb.cell (p := ⟨wq.heap.size + 1, 0, none⟩) hx11l).trans m0,
                    (hb.cell (p := ⟨b7, o7 + m * 8, none⟩) hb7l).trans (by have h := s7w.at_ (j := 0) rfl; simpa using h), (hb.cell (p := ⟨b7, o7 + m * 8 + 1, none⟩) hb7l).trans (s7w.at_ (j := 1) rfl), (hb.cell (p := ⟨b7, o7 + m * 8 + 2, none⟩) hb7l).trans (s7w.at_ (j := 2) rfl), (hb.cell (p := ⟨b7, o7 + m * 8 + 3, none⟩) hb7l).trans (s7w.at_ (j := 3) rfl), (hb.cell (p := ⟨b7, o7 + m * 8 + 4, none⟩) hb7l).trans (s7w.at_ (j := 4) rfl), (hb.cell (p := ⟨b7, o7 + m * 8 + 5, none⟩) hb7l).trans (s7w.at_ (j := 5) rfl), (hb.cell (p := ⟨b7, o7 + m * 8 + 6, none⟩) hb7l).trans (s7w.at_ (j := 6) rfl), (hb.cell (p := ⟨b7, o7 + m * 8 + 7, none⟩) hb7l).trans (s7w.at_ (j := 7) rfl),
                    (hb.cell (p := ⟨b8, o8 + m * 8, none⟩) hb8l).trans (by have h := s8w.at_ (j := 0) rfl; simpa using h), (hb.cell (p := ⟨b8, o8 + m * 8 + 1, none⟩) hb8l).trans (s8w.at_ (j := 1) rfl), (hb.cell (p := ⟨b8, o8 + m * 8 + 2, none⟩) hb8l).trans (s8w.at_ (j := 2) rfl), (hb.cell (p := ⟨b8, o8 + m * 8 + 3, none⟩) hb8l).trans (s8w.at_ (j := 3) rfl), (hb.cell (p := ⟨b8, o8 + m * 8 + 4, none⟩) hb8l).trans (s8w.at_ (j := 4) rfl), (hb.cell (p := ⟨b8, o8 + m * 8 + 5, none⟩) hb8l).trans (s8w.at_ (j := 5) rfl), (hb.cell (p := ⟨b8, o8 + m * 8 + 6, none⟩) hb8l).trans (s8w.at_ (j := 6) rfl), (hb.cell (p := ⟨b8, o8 + m * 8 + 7, none⟩) hb8l).trans (s8w.at_ (j := 7) rfl)⟩)
                  obtain ⟨rr, hrr⟩ : ∃ rr, rr = isSo (x = y) := ⟨_, rfl⟩
                  have HSI0 : Hid (∀ X, Below wz.heap.size wz X → Calls Tryz.prog 31 #[.agg #[.int .i64 x.kind, .int .i64 x.d, .int .i64 x.a, .int .i64 x.b, .int .i64 x.op, .int .i64 x.n, .string x.name, .slice Q1 x.args.length q1c], .agg #[.int .i64 y.kind, .int .i64 y.d, .int .i64 y.a, .int .i64 y.b, .int .i64 y.op, .int .i64 y.n, .string y.name, .slice Q2 y.args.length q2c]] X fun e w' => e = .returned (.bool rr) ∧ Below X.heap.size X w') := Lib.hid (fun X hb => by
                    have hbX := HBZ.out.trans (hb.mono HBZ.out.size)
                    rw [hrr]
                    exact sameIns_any x y _ _ X (t7.imp (fun _ h => Nat.lt_of_lt_of_le h hbX.size) (fun b h => hbX.block b h) (fun _ _ _ r => r)) (t8.imp (fun _ h => Nat.lt_of_lt_of_le h hbX.size) (fun b h => hbX.block b h) (fun _ _ _ r => r)))
                  have HXE := Lib.hid hxe
                  have HYE := Lib.hid hye
                  have HRR := Lib.hid hrr
                  clear f7 f8 q7 q8 s7 s8 s7w s8w t7 t8 hxe hye hrr htm hbz
                  go_upto_region 25 with fail
                  clear z0 m0
                  refine wp_region_L (by kernel_rfl) 11 (fun w2 => w2.cell? ⟨wq.heap.size, 0, none⟩ = some (.slice (some ⟨b7, o7, none⟩) x1.length g1c) ∧ w2.cell? ⟨wq.heap.size + 1, 0, none⟩ = some (.slice (some ⟨b8, o8, none⟩) x2.length g2c) ∧ w2.cell? ⟨b7, o7 + m * 8, none⟩ = some (.int .i64 x.kind) ∧ w2.cell? ⟨b7, o7 + m * 8 + 1, none⟩ = some (.int .i64 x.d) ∧ w2.cell? ⟨b7, o7 + m * 8 + 2, none⟩ = some (.int .i64 x.a) ∧ w2.cell? ⟨b7, o7 + m * 8 + 3, none⟩ = some (.int .i64 x.b) ∧ w2.cell? ⟨b7, o7 + m * 8 + 4, none⟩ = some (.int .i64 x.op) ∧ w2.cell? ⟨b7, o7 + m * 8 + 5, none⟩ = some (.int .i64 x.n) ∧ w2.cell? ⟨b7, o7 + m * 8 + 6, none⟩ = some (.string x.name) ∧ w2.cell? ⟨b7, o7 + m * 8 + 7, none⟩ = some (.slice Q1 x.args.length q1c) ∧ w2.cell? ⟨b8, o8 + m * 8, none⟩ = some (.int .i64 y.kind) ∧ w2.cell? ⟨b8, o8 + m * 8 + 1, none⟩ = some (.int .i64 y.d) ∧ w2.cell? ⟨b8, o8 + m * 8 + 2, none⟩ = some (.int .i64 y.a) ∧ w2.cell? ⟨b8, o8 + m * 8 + 3, none⟩ = some (.int .i64 y.b) ∧ w2.cell? ⟨b8, o8 + m * 8 + 4, none⟩ = some (.int .i64 y.op) ∧ w2.cell? ⟨b8, o8 + m * 8 + 5, none⟩ = some (.int .i64 y.n) ∧ w2.cell? ⟨b8, o8 + m * 8 + 6, none⟩ = some (.string y.name) ∧ w2.cell? ⟨b8, o8 + m * 8 + 7, none⟩ = some (.slice Q2 y.args.length q2c)) (SO.out _ (Below.refl _ _).drew) (fun hHeld => ?_)
                  have HS0 := Lib.hid hHeld
                  clear hHeld
                  change wpAnyL _ _ _ _ _ 11 12 (Array.replicate 12 false) _ _
                  refine takeL 0 131 (.pointer (some ⟨wq.heap.size, 0, none⟩)) HS0.out rfl rfl (by kernel_rfl) (by kernel_rfl) (by kernel_rfl) (by decide) (fun _ _ _ h => h) (by kernel_rfl) ?_ ?_
                  · intro w2; go_simp
                  simp only [List.setIfInBounds_toArray, List.set_cons_zero, List.set_cons_succ]
                  refine takeL_S 1 132 (.slice (some ⟨b7, o7, none⟩) x1.length g1c) [11] HS0.out rfl rfl (by kernel_rfl) (by kernel_rfl) (by kernel_rfl) (by decide) (by kernel_rfl) (fun _ _ _ h => h) (by kernel_rfl) ?_ ?_
                  · intro w2 hSw; obtain ⟨g0, g1, g2, g3, g4, g5, g6, g7, g8, g9, g10, g11, g12, g13, g14, g15, g16, g17⟩ := hSw; go_simp
                  simp only [List.setIfInBounds_toArray, List.set_cons_zero, List.set_cons_succ]
                  refine takeL 2 133 (.int .i64 (m : Int)) HS0.out rfl rfl (by kernel_rfl) (by kernel_rfl) (by kernel_rfl) (by decide) (fun _ _ _ h => h) (by kernel_rfl) ?_ ?_
                  · intro w2; go_simp
                  simp only [List.setIfInBounds_toArray, List.set_cons_zero, List.set_cons_succ]
                  refine takeL 3 134 (.pointer (some ⟨b7, o7 + m * 8, none⟩)) HS0.out rfl rfl (by kernel_rfl) (by kernel_rfl) (by kernel_rfl) (by decide) (fun _ _ _ h => h) (by kernel_rfl) ?_ ?_
                  · intro w2; go_simp
                  simp only [List.setIfInBounds_toArray, List.set_cons_zero, List.set_cons_succ]
                  refine takeL_S 4 135 (.agg #[.int .i64 x.kind, .int .i64 x.d, .int .i64 x.a, .int .i64 x.b, .int .i64 x.op, .int .i64 x.n, .string x.name, .slice Q1 x.args.length q1c]) [11] HS0.out rfl rfl (by kernel_rfl) (by kernel_rfl) (by kernel_rfl) (by decide) (by kernel_rfl) (fun _ _ _ h => h) (by kernel_rfl) ?_ ?_
                  · intro w2 hSw; obtain ⟨g0, g1, g2, g3, g4, g5, g6, g7, g8, g9, g10, g11, g12, g13, g14, g15, g16, g17⟩ := hSw; go_simp
                  simp only [List.setIfInBounds_toArray, List.set_cons_zero, List.set_cons_succ]
                  refine takeL 5 136 (.pointer (some ⟨wq.heap.size + 1, 0, none⟩)) HS0.out rfl rfl (by kernel_rfl) (by kernel_rfl) (by kernel_rfl) (by decide) (fun _ _ _ h => h) (by kernel_rfl) ?_ ?_
                  · intro w2; go_simp
                  simp only [List.setIfInBounds_toArray, List.set_cons_zero, List.set_cons_succ]
                  refine takeL_S 6 137 (.slice (some ⟨b8, o8, none⟩) x2.length g2c) [11] HS0.out rfl rfl (by kernel_rfl) (by kernel_rfl) (by kernel_rfl) (by decide) (by kernel_rfl) (fun _ _ _ h => h) (by kernel_rfl) ?_ ?_
                  · intro w2 hSw; obtain ⟨g0, g1, g2, g3, g4, g5, g6, g7, g8, g9, g10, g11, g12, g13, g14, g15, g16, g17⟩ := hSw; go_simp
                  simp only [List.setIfInBounds_toArray, List.set_cons_zero, List.set_cons_succ]
                  refine takeL 7 138 (.int .i64 (m : Int)) HS0.out rfl rfl (by kernel_rfl) (by kernel_rfl) (by kernel_rfl) (by decide) (fun _ _ _ h => h) (by kernel_rfl) ?_ ?_
                  · intro w2; go_simp
                  simp only [List.setIfInBounds_toArray, List.set_cons_zero, List.set_cons_succ]
                  refine takeL 8 139 (.pointer (some ⟨b8, o8 + m * 8, none⟩)) HS0.out rfl rfl (by kernel_rfl) (by kernel_rfl) (by kernel_rfl) (by decide) (fun _ _ _ h => h) (by kernel_rfl) ?_ ?_
                  · intro w2; go_simp
                  simp only [List.setIfInBounds_toArray, List.set_cons_zero, List.set_cons_succ]
                  refine takeL_S 9 140 (.agg #[.int .i64 y.kind, .int .i64 y.d, .int .i64 y.a, .int .i64 y.b, .int .i64 y.op, .int .i64 y.n, .string y.name, .slice Q2 y.args.length q2c]) [11] HS0.out rfl rfl (by kernel_rfl) (by kernel_rfl) (by kernel_rfl) (by decide) (by kernel_rfl) (fun _ _ _ h => h) (by kernel_rfl) ?_ ?_
                  · intro w2 hSw; obtain ⟨g0, g1, g2, g3, g4, g5, g6, g7, g8, g9, g10, g11, g12, g13, g14, g15, g16, g17⟩ := hSw; go_simp
                  simp only [List.setIfInBounds_toArray, List.set_cons_zero, List.set_cons_succ]
                  refine wpAnyL_ready (rs := [10]) (by kernel_rfl) (by simp) ?_
                  refine AllReadyL.cons rfl (fun K hK => ?_) AllReadyL.nil
                  go_simp
                  refine (HSI0.out wz.drew (Below.refl _ _).drew).mono ?_
                  rintro e X1 ⟨rfl, hx1⟩
                  have HX1' : Hid (Below wz.heap.size wz X1) := Lib.hid ((Below.refl wz.heap.size wz).drew.trans hx1)
                  clear hx1
                  refine hK.out _ _ (SO.out _ HX1'.out) (fun hHeld => ?_)
                  have HS1 := Lib.hid hHeld
                  clear hK K hHeld
                  try simp only [List.setIfInBounds_toArray, List.set_cons_zero, List.set_cons_succ]
                  refine wpAnyL_ready (rs := [11]) (by kernel_rfl) (by simp) ?_
                  refine AllReadyL.last rfl (by kernel_rfl) (fun K hK => ?_)
                  go_simp
                  refine hK.out _ _ ?_
                  clear hK K
                  try simp only [List.setIfInBounds_toArray, List.set_cons_zero, List.set_cons_succ]
                  refine wpAnyL_done (by kernel_rfl) ?_ _
                  have HBX := Lib.hid (HBZ.out.trans (HX1'.out.mono HBZ.out.size))
                  cases rr with
                  | false =>
                    have HNE := Lib.hid (isSo_no (unit_ne_flow hlt hlt2 (flow_ne_block HFE.out HGE.out hlj hlj2 fun e => so_no HRR.out (by rw [← HBE.out, ← HCE.out] at e; injection e with e _; subst e; rw [HXE.out, HYE.out]))))
                    go_wp2
                    go_ret
                    exact ⟨ret_so (HR.out.trans HNE.out), HB19.out.trans (HBX.out.mono HB19.out.size)⟩
                  | true =>
                    go_wp2
                    go_roundw
                    case rel => exact ⟨m + 1, by omega, by go_num, take_step hlm hlm2 HTM.out (by rw [← HXE.out, ← HYE.out]; exact so_yes HRR.out), HBX.out⟩
                    case measure => simp [RowKit.intOf]; omega
                · obtain rfl : m = x1.length := by omega
                  have d2 : decide ((x1.length : Int) < (x1.length : Int)) = false := decide_eq_false (by omega)
                  have HEX := Lib.hid (take_ext HLX.out htm)
                  have HBJ := Lib.hid (H19.out.trans (hbz.mono H19.out.size))
                  clear htm hbz
                  go_wp2
                  go_roundw
                  case rel => exact ⟨j + 1, by omega, by go_num, take_step hlj hlj2 HTJ.out (by rw [← HBE.out, ← HCE.out, HEX.out]), HBJ.out⟩
                  case measure => simp [RowKit.intOf]; omega
            · obtain rfl : j = l1.length := by omega
              have d1 : decide ((l1.length : Int) < (l1.length : Int)) = false := decide_eq_false (by omega)
              have HEL := Lib.hid (take_ext HLL.out htj)
              have HBJ := Lib.hid (H13.out.trans (hbq.mono H13.out.size))
              clear htj hbq
              go_wp2
              go_roundw
              case rel => exact ⟨i + 1, by omega, by go_num, take_step hlt hlt2 HTK.out (by rw [← HFE.out, ← HGE.out, HEL.out]), HBJ.out⟩
              case measure => simp [RowKit.intOf]; omega
        · obtain rfl : i = u.flows.length := by omega
          have d0 : decide ((u.flows.length : Int) < (u.flows.length : Int)) = false := decide_eq_false (by omega)
          have HEF := Lib.hid (take_ext HLF.out htk)
          have HNE := Lib.hid (isSo_yes (p := u = v) (by obtain ⟨ua, uf⟩ := u; obtain ⟨va, vf⟩ := v; rw [show ua = va from HEA.out, show uf = vf from HEF.out]))
          go_wp2
          go_ret
          exact ⟨ret_so (HR.out.trans HNE.out), HBW.out.trans (HBR.out.mono HBW.out.size)⟩

end
end Go.Proofs.YtkpigkopjfkepaaGreatDoor
