/- The innermost loop of FlowSteps: what is wanted behind each instruction, from the last one back, of one number. Printed by wip/gen_steps8.py. -/
import Derived.Test.YtknccacfhknnaaaStepsT
namespace Go.Proofs.Ytknccacfhknnaaa
open Go.ChangeShapes Go.WideShapes Go.ChangeAt Go.RowKit Go.Maps

/-- row m of the rows that flow.After hands back -/
theorem row_at {Y : World} {lb lo lc : Nat} {ins : List LIns} {E : Int → Bool} (h : SlR Y (· < Y.heap.size) 1 (RInts Y (· < Y.heap.size)) (.slice (some ⟨lb, lo, none⟩) (ins.length + 1) lc) (afterL ins E)) {m : Nat} (hm : m < ins.length + 1) :
    ∃ A c, lb < Y.heap.size ∧ Y.cell? ⟨lb, lo + m, none⟩ = some (.slice A (riseL (stepsS (ins.drop (m + 1)) E)).length c) ∧ SlR Y (· < Y.heap.size) 1 RInt (.slice A (riseL (stepsS (ins.drop (m + 1)) E)).length c) (riseL (stepsS (ins.drop (m + 1)) E)) := by
  have hl := afterL_len ins E
  obtain ⟨b', o', c', hf, _, _, hb, hel⟩ := h.form (by omega)
  obtain ⟨rfl, rfl⟩ : lb = b' ∧ lo = o' := by injection hf with h1 _ _; injection h1 with h1; injection h1 with h1 h2; exact ⟨h1, h2⟩
  obtain ⟨cs, _, ⟨u, hcs, hu⟩, hc⟩ := hel m (by omega)
  rw [afterL_get] at hu
  obtain ⟨A, c, hv, _, _⟩ := hu.val
  subst hcs
  subst hv
  exact ⟨A, c, hb, by have h := hc.at_ (j := 0) rfl; simpa using h, hu⟩

set_option maxRecDepth 100000 in
set_option maxHeartbeats 8000000 in
theorem blk8 (c : Code) (hc : (Try.f3.body.bind (blkOf 8)) = some c) (v : Nat) (hv10 : v < 10) (ins : List LIns) (E : Int → Bool) (B lb lo lc ci : Nat) (Ai : Option Addr) (z0 : Int) (hz0 : z0 = (ins.length : Int) - 1) (hlen : ins.length ≤ 900) (Y : World)
    (hrows : SlR Y (· < Y.heap.size) 1 (RInts Y (· < Y.heap.size)) (.slice (some ⟨lb, lo, none⟩) (ins.length + 1) lc) (afterL ins E)) (hins : SlR Y (· < Y.heap.size) 8 (RIns Y (· < Y.heap.size)) (.slice Ai ins.length ci) ins) (hlaw : ∀ x ∈ ins, LawIns x)
    (b0 : Y.cell? ⟨B, 0, none⟩ = some (.slice Ai ins.length ci)) (K : Act → World → Prop) (Q' : Exit → Act → World → Prop) (u0 u1 u2 u3 u4 u5 u6 u7 u8 u11 u12 u13 u14 u18 u19 u20 u21 u22 u23 u24 u25 u26 u27 u28 u29 u30 u31 u32 u33 u34 u35 u36 u37 u38 u39 u40 u41 u42 u43 u44 u45 u46 u47 u48 u49 u50 u51 u52 u53 u54 u55 u56 u57 u58 u59 u60 u61 u62 u63 u64 u65 u66 u67 u68 u69 u70 u71 u72 u73 u74 u75 u76 u77 u78 u79 u80 u81 u82 u83 u84 u85 u86 u87 u88 u89 u90 u91 u92 u93 u94 u95 u96 u97 u98 u99 u100 u101 u102 u103 u104 u105 u106 u107 u108 u109 u110 u111 u112 u113 u114 u115 u116 u117 u118 u119 u120 u121 u122 u123 u124 u125 u126 u127 u128 u129 u130 u131 u132 u133 u134 u135 u136 u137 u138 u139 u140 u141 u142 u143 u144 u145 u146 u147 u148 u149 u150 u151 u152 u153 u154 u155 u156 u157 u158 u159 u160 u161 u162 u163 u164 u165 u166 u167 u168 u169 u170 u171 u172 u173 u174 u175 u176 u177 u178 u179 u180 u181 u182 u183 u184 u185 u186 u187 u188 u189 u190 u191 u192 u193 u194 u195 u196 u197 u198 u199 u200 u201 u202 u203 u204 u205 u206 u207 u208 u209 u210 u211 u212 u213 u214 u215 u216 u217 u218 u219 u220 u221 u222 u223 u224 u225 u226 u227 u228 u229 u230 u231 u232 u233 u234 : Value)
    (hK : ∀ (x4 x17 x18 x19 x20 x147 x148 x149 x150 x151 x152 x153 x154 x155 x156 x157 x158 x159 x160 x161 x162 x163 x164 x165 x166 x167 x168 x169 x170 x171 x172 x173 x174 x175 x176 x177 x178 x179 x180 x181 x182 x183 x184 x185 x186 x187 x188 x189 x190 x191 x192 x193 x194 x195 x196 x197 x198 x199 x200 x201 x202 x203 x204 x205 x206 x207 x208 x209 x210 x211 x212 x213 x214 x215 x216 x217 x218 x219 x220 x221 x222 x223 x224 x225 x226 : Value) (w' : World), Below Y.heap.size Y w' → K { tmps := #[u0, u1, u2, u3, x4, u5, u6, u7, u8, .pointer (some ⟨B, 0, none⟩), .slice (some ⟨lb, lo, none⟩) (ins.length + 1) lc, u11, u12, u13, u14, .int .i64 (v : Int), .bool (stepsS ins E v), x17, x18, x19, x20, u21, u22, u23, u24, u25, u26, u27, u28, u29, u30, u31, u32, u33, u34, u35, u36, u37, u38, u39, u40, u41, u42, u43, u44, u45, u46, u47, u48, u49, u50, u51, u52, u53, u54, u55, u56, u57, u58, u59, u60, u61, u62, u63, u64, u65, u66, u67, u68, u69, u70, u71, u72, u73, u74, u75, u76, u77, u78, u79, u80, u81, u82, u83, u84, u85, u86, u87, u88, u89, u90, u91, u92, u93, u94, u95, u96, u97, u98, u99, u100, u101, u102, u103, u104, u105, u106, u107, u108, u109, u110, u111, u112, u113, u114, u115, u116, u117, u118, u119, u120, u121, u122, u123, u124, u125, u126, u127, u128, u129, u130, u131, u132, u133, u134, u135, u136, u137, u138, u139, u140, u141, u142, u143, u144, u145, u146, x147, x148, x149, x150, x151, x152, x153, x154, x155, x156, x157, x158, x159, x160, x161, x162, x163, x164, x165, x166, x167, x168, x169, x170, x171, x172, x173, x174, x175, x176, x177, x178, x179, x180, x181, x182, x183, x184, x185, x186, x187, x188, x189, x190, x191, x192, x193, x194, x195, x196, x197, x198, x199, x200, x201, x202, x203, x204, x205, x206, x207, x208, x209, x210, x211, x212, x213, x214, x215, x216, x217, x218, x219, x220, x221, x222, x223, x224, x225, x226, u227, u228, u229, u230, u231, u232, u233, u234], defers := [] } w') :
    (Code.block 8 c).wp Try.prog (Exit.then K Q') { tmps := #[u0, u1, u2, u3, u4, u5, u6, u7, u8, .pointer (some ⟨B, 0, none⟩), .slice (some ⟨lb, lo, none⟩) (ins.length + 1) lc, u11, u12, u13, u14, .int .i64 (v : Int), .bool (E v), .int .i64 z0, u18, u19, u20, u21, u22, u23, u24, u25, u26, u27, u28, u29, u30, u31, u32, u33, u34, u35, u36, u37, u38, u39, u40, u41, u42, u43, u44, u45, u46, u47, u48, u49, u50, u51, u52, u53, u54, u55, u56, u57, u58, u59, u60, u61, u62, u63, u64, u65, u66, u67, u68, u69, u70, u71, u72, u73, u74, u75, u76, u77, u78, u79, u80, u81, u82, u83, u84, u85, u86, u87, u88, u89, u90, u91, u92, u93, u94, u95, u96, u97, u98, u99, u100, u101, u102, u103, u104, u105, u106, u107, u108, u109, u110, u111, u112, u113, u114, u115, u116, u117, u118, u119, u120, u121, u122, u123, u124, u125, u126, u127, u128, u129, u130, u131, u132, u133, u134, u135, u136, u137, u138, u139, u140, u141, u142, u143, u144, u145, u146, u147, u148, u149, u150, u151, u152, u153, u154, u155, u156, u157, u158, u159, u160, u161, u162, u163, u164, u165, u166, u167, u168, u169, u170, u171, u172, u173, u174, u175, u176, u177, u178, u179, u180, u181, u182, u183, u184, u185, u186, u187, u188, u189, u190, u191, u192, u193, u194, u195, u196, u197, u198, u199, u200, u201, u202, u203, u204, u205, u206, u207, u208, u209, u210, u211, u212, u213, u214, u215, u216, u217, u218, u219, u220, u221, u222, u223, u224, u225, u226, u227, u228, u229, u230, u231, u232, u233, u234], defers := [] } Y := by
  have hBl : B < Y.heap.size := World.block_lt_of_cell? Y _ b0
  have HKK := Lib.hid hK
  have HZ0 := Lib.hid hz0
  have HR := Lib.hid hrows
  have HI := Lib.hid hins
  have HL := Lib.hid hlaw
  have hcc : Try.f3.body.bind (blkOf 8) = some c := hc
  simp only [Try.f3, blkOf, Option.bind_some, Nat.reduceEqDiff, ↓reduceIte, Option.none_or, Option.or_none, Option.some.injEq] at hcc
  subst hcc
  clear hc hK hz0 hrows hins hlaw
  go_wp2
  go_loopw [16, 17] (fun s16 s17 wr => ∃ (i : Nat) (z : Int), i ≤ ins.length ∧ s17 = .int .i64 z ∧ z = (i : Int) - 1 ∧ s16 = .bool (stepsS (ins.drop i) E v) ∧ Below Y.heap.size Y wr) (fun _ s _ => (RowKit.intOf s + 1).toNat)
  case atStart =>
    refine ⟨ins.length, _, Nat.le_refl _, rfl, HZ0.out, ?_, Below.refl _ _⟩
    rw [List.drop_length]
    rfl
  case round =>
    obtain ⟨i, z, hi, rfl, hz, rfl, hbr⟩ := hrel
    have e0 : wr.cell? ⟨B, 0, none⟩ = some (.slice Ai ins.length ci) := (hbr.cell (p := ⟨B, 0, none⟩) hBl).trans b0
    cases i with
    | zero =>
      have dm : decide (z ≥ 0) = false := decide_eq_false (by omega)
      have HBR := Lib.hid hbr
      clear hz hbr
      go_wp2
      exact HKK.out _ _ _ _ _ _ _ _ _ _ _ _ _ _ _ _ _ _ _ _ _ _ _ _ _ _ _ _ _ _ _ _ _ _ _ _ _ _ _ _ _ _ _ _ _ _ _ _ _ _ _ _ _ _ _ _ _ _ _ _ _ _ _ _ _ _ _ _ _ _ _ _ _ _ _ _ _ _ _ _ _ _ _ _ _ _ HBR.out
    | succ m =>
      have hzm : z = (m : Int) := by omega
      have dm : decide (z ≥ 0) = true := decide_eq_true (by omega)
      have p0 : 0 ≤ z := by omega
      have hzn : z.toNat = m := by omega
      have HZ := Lib.hid hzm
      clear hz
      have him : m < ins.length := by omega
      have p1 : z < (ins.length : Int) := by omega
      have p2 : z < ((ins.length + 1 : Nat) : Int) := by omega
      have p3 : z < (ins.length : Int) + 1 := by omega
      clear hzm
      have hst := steps_drop him E
      have hst2 := congrFun hst (v : Int)
      obtain ⟨bi, oi, ci2, hfi, _, _, hbi, hell⟩ := HI.out.form (by omega)
      obtain rfl : Ai = some ⟨bi, oi, none⟩ := by injection hfi
      obtain ⟨cs, _, ⟨va, hcs, hargs⟩, hcell⟩ := hell m him
      subst hcs
      have hlaw := HL.out _ (List.getElem_mem him)
      obtain ⟨x, hx⟩ : ∃ x, x = ins[m] := ⟨_, rfl⟩
      rw [← hx] at hargs hcell hlaw hst2
      obtain ⟨k, d, a', b', op, nn, nm, args⟩ := x
      obtain ⟨Aa, ca2, hva, _, _⟩ := hargs.val
      subst hva
      have hcw := hcell.keep (hbr.block bi hbi)
      have j0 : wr.cell? ⟨bi, oi + z.toNat * 8, none⟩ = some (.int .i64 k) := by rw [hzn]; have h := hcw.at_ (j := 0) rfl; simpa using h
      have j1 : wr.cell? ⟨bi, oi + z.toNat * 8 + 1, none⟩ = some (.int .i64 d) := by rw [hzn]; exact hcw.at_ (j := 1) rfl
      have j2 : wr.cell? ⟨bi, oi + z.toNat * 8 + 2, none⟩ = some (.int .i64 a') := by rw [hzn]; exact hcw.at_ (j := 2) rfl
      have j3 : wr.cell? ⟨bi, oi + z.toNat * 8 + 3, none⟩ = some (.int .i64 b') := by rw [hzn]; exact hcw.at_ (j := 3) rfl
      have j4 : wr.cell? ⟨bi, oi + z.toNat * 8 + 4, none⟩ = some (.int .i64 op) := by rw [hzn]; exact hcw.at_ (j := 4) rfl
      have j5 : wr.cell? ⟨bi, oi + z.toNat * 8 + 5, none⟩ = some (.int .i64 nn) := by rw [hzn]; exact hcw.at_ (j := 5) rfl
      have j6 : wr.cell? ⟨bi, oi + z.toNat * 8 + 6, none⟩ = some (.string nm) := by rw [hzn]; exact hcw.at_ (j := 6) rfl
      have j7 : wr.cell? ⟨bi, oi + z.toNat * 8 + 7, none⟩ = some (.slice Aa args.length ca2) := by rw [hzn]; exact hcw.at_ (j := 7) rfl
      obtain ⟨Ar, cr, hlb, hr0, hrow⟩ := row_at HR.out (m := m) (by omega)
      have r0 : wr.cell? ⟨lb, lo + z.toNat, none⟩ = some (.slice Ar (riseL (stepsS (ins.drop (m + 1)) E)).length cr) := by rw [hzn]; exact (hbr.cell (p := ⟨lb, lo + m, none⟩) hlb).trans hr0
      have hrb := rise_bool (S := stepsS (ins.drop (m + 1)) E) (v := (v : Int)) (place_of_small ⟨by omega, by omega⟩)
      have HAR := Lib.hid (hargs.imp (ok' := fun b => b < Y.heap.size) (R' := RInt) (w' := wr) (fun _ h => h) (fun b h => hbr.block b h) (fun _ _ _ r => r))
      have HRW := Lib.hid (hrow.imp (ok' := fun b => b < Y.heap.size) (R' := RInt) (w' := wr) (fun _ h => h) (fun b h => hbr.block b h) (fun _ _ _ r => r))
      have hwr4 := hbr.size
      have hlbw : lb < wr.heap.size := Nat.lt_of_lt_of_le hlb hwr4
      have HBR2 := Lib.hid hbr
      clear hrow hr0 hlb
      generalize stepsS (ins.drop (m + 1)) E = T at *
      rw [newW_eq] at hst2
      have HST := Lib.hid hst2
      obtain ⟨q, hq⟩ : ∃ q, q = T v := ⟨_, rfl⟩
      have hrb2 : decide ((v : Int) ∈ riseL T) = q := hrb.trans hq.symm
      rw [← hq]
      have HQ := Lib.hid hq
      have HRB := Lib.hid hrb2
      have hno := hlaw.args
      have hlo : 1 ≤ k := hlaw.lo
      have hhi : k ≤ 9 := hlaw.hi
      have HNO := Lib.hid hno
      have hqq : (q != q) = false := by simp
      clear hzn hell hcell hcw hargs hbr hst hst2 hx hq hlaw hfi hrb hrb2 hno
      go_upto_region 36 with (go_at_call 16; refine (has_any _ _ _ _ _ (HRW.out.imp (fun _ h => h) (fun b h => Below.heap_alloc _ _ b (Nat.lt_of_lt_of_le h hwr4)) (fun _ _ _ r => r))).mono ?_; rintro e w' ⟨he, rfl⟩; rw [HRB.out] at he; subst he)
      refine tail_any v q wr.heap.size ca2 Aa ⟨k, d, a', b', op, nn, nm, args⟩ hlo hhi _ (by go_simp) (by go_simp) (by go_simp) (by go_simp) (by go_simp) (HAR.out.imp (fun _ h => by have := hwr4; simp; omega) (fun b h => Below.heap_alloc _ _ b (Nat.lt_of_lt_of_le h hwr4)) (fun _ _ _ r => r)) HNO.out _ _ _ _ _ _ _ _ _ _ _ _ _ _ _ _ _ _ _ _ _ _ _ _ _ _ _ _ _ _ _ _ _ _ _ _ _ _ _ _ _ _ _ _ _ _ _ _ _ _ _ _ _ _ _ _ _ _ _ _ _ _ _ _ _ _ _ _ _ _ _ _ _ _ _ _ _ _ _ _ _ _ _ _ _ _ _ _ _ _ _ _ _ _ _ _ _ _ _ _ _ _ _ _ _ _ _ _ _ _ _ _ _ _ _ _ _ _ _ _ _ _ _ _ _ _ _ _ _ _ _ _ _ _ _ _ _ _ _ _ _ _ _ _ _ _ _ _ _ _ _ _ _ _ _ _ _ _ _ _ _ _ _ _ _ _ _ _ _ _ _ _ _ _ _ _ _ _ _ _ _ _ _ _ _ _ _ _ _ _ _ _ _ _ _ _ _ _ _ _ _ _ _ _ _ _ _ _ _ _ _ _ _ _ _ _ _ _ _ _ _ _ _ _ _ _ _ _ _ _ _ _ _ _ _ _ _ _ (by assumption) (by kernel_rfl) (by kernel_rfl) (by kernel_rfl) ?_
      intro r hr x19 x20 x164 x165 x166 x167 x168 x169 x170 x171 x172 x173 x174 x175 x176 x177 x178 x179 x180 x181 x182 x183 x184 x185 x186 x187 x188 x189 x190 x191 x192 x193 x194 x195 x196 x197 x198 x199 x200 x201 x202 x203 x204 x205 x206 x207 x208 x209 x210 x211 x212 x213 x214 x215 x216 x217 x218 x219 x220 x221 x222 x223 x224 x225 x226
      have HRR := Lib.hid hr
      clear hr hqq
      go_wp2
      go_roundw
      case rel => exact ⟨m, z - 1, by omega, by go_num, by rw [HZ.out], by rw [HRR.out, HST.out, HQ.out], HBR2.out.alloc HBR2.out.size _⟩
      case measure => simp only [RowKit.intOf]; omega
end Go.Proofs.Ytknccacfhknnaaa
