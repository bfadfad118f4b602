/- The tail of a round of FlowSteps' innermost loop: what is wanted ahead of an instruction. Printed by wip/gen_stepst.py. -/
import Derived.Test.YtknccacfhknnaaaStepPlain
namespace Go.Proofs.Ytknccacfhknnaaa
open Go.ChangeShapes Go.WideShapes Go.ChangeAt Go.RowKit Go.Maps

theorem afterL_len (l : List LIns) (S : Int → Bool) : (afterL l S).length = l.length + 1 := by simp [afterL]
theorem afterL_get (l : List LIns) (S : Int → Bool) {j : Nat} (h : j < (afterL l S).length) : (afterL l S)[j] = riseL (stepsS (l.drop (j + 1)) S) := by simp [afterL]

/-- what stands in block k of a code -/
def blkOf (k : Nat) : Code → Option Code
  | .block i b => if i = k then some b else blkOf k b
  | .seq a b => (blkOf k a).or (blkOf k b)
  | .cond _ a b => (blkOf k a).or (blkOf k b)
  | .loop b => blkOf k b
  | .scope b => blkOf k b
  | _ => none
/-- the news of a step at one number -/
def newW (x : LIns) (v : Int) (q : Bool) : Bool := decide (v ∈ usesL x) || (!decide (v ∈ setsL x) && q)
theorem newW_eq (T : Int → Bool) (x : LIns) (v : Int) : stepS T x v = newW x v (T v) := stepS_eq T x v

set_option maxRecDepth 100000 in
set_option maxHeartbeats 8000000 in
theorem tail1 (v : Nat) (q : Bool) (xb ca : Nat) (Aa : Option Addr) (x : LIns) (hk : x.kind = 1) (Y : World)
    (k0 : Y.cell? ⟨xb, 0, none⟩ = some (.int .i64 1)) (k1 : Y.cell? ⟨xb, 1, none⟩ = some (.int .i64 x.d)) (k2 : Y.cell? ⟨xb, 2, none⟩ = some (.int .i64 x.a)) (k3 : Y.cell? ⟨xb, 3, none⟩ = some (.int .i64 x.b)) (k7 : Y.cell? ⟨xb, 7, none⟩ = some (.slice Aa x.args.length ca))
    (hargs : SlR Y (· < Y.heap.size) 1 RInt (.slice Aa x.args.length ca) x.args) (hno : x.kind ≠ 9 → x.args = [])
    (c36 c37 c38 : Code) (K1 : Act → World → Prop) (Q1 Q2 : Exit → Act → World → Prop) (u0 u1 u2 u3 u4 u5 u6 u7 u8 u9 u10 u11 u12 u13 u14 u17 u19 u20 u21 u22 u23 u24 u25 u26 u27 u28 u29 u30 u31 u32 u33 u34 u35 u36 u37 u38 u39 u40 u41 u42 u43 u44 u45 u46 u47 u48 u49 u50 u51 u52 u53 u54 u55 u56 u57 u58 u59 u60 u61 u62 u63 u64 u65 u66 u67 u68 u69 u70 u71 u72 u73 u74 u75 u76 u77 u78 u79 u80 u81 u82 u83 u84 u85 u86 u87 u88 u89 u90 u91 u92 u93 u94 u95 u96 u97 u98 u99 u100 u101 u102 u103 u104 u105 u106 u107 u108 u109 u110 u111 u112 u113 u114 u115 u116 u117 u118 u119 u120 u121 u122 u123 u124 u125 u126 u127 u128 u129 u130 u131 u132 u133 u134 u135 u136 u137 u138 u139 u140 u141 u142 u143 u144 u145 u146 u147 u148 u149 u150 u151 u152 u153 u154 u155 u156 u157 u158 u159 u160 u161 u162 u163 u164 u165 u166 u167 u168 u169 u170 u171 u172 u173 u174 u175 u176 u177 u178 u179 u180 u181 u182 u183 u184 u185 u186 u187 u188 u189 u190 u191 u192 u193 u194 u195 u196 u197 u198 u199 u200 u201 u202 u203 u204 u205 u206 u207 u208 u209 u210 u211 u212 u213 u214 u215 u216 u217 u218 u219 u220 u221 u222 u223 u224 u225 u226 u227 u228 u229 u230 u231 u232 u233 u234 : Value) (hK1 : ∀ a w, (Code.seq c37 c38).wp Try.prog Q2 a w → K1 a w)
    (h36 : (Try.f3.body.bind (regOf 36)) = some c36) (h37 : (Try.f3.body.bind (regOf 37)) = some c37) (h38 : (Try.f3.body.bind (regOf 38)) = some c38)
    (hfin : ∀ (r : Bool), r = newW x v q → ∀ (x19 x20 x164 x165 x166 x167 x168 x169 x170 x171 x172 x173 x174 x175 x176 x177 x178 x179 x180 x181 x182 x183 x184 x185 x186 x187 x188 x189 x190 x191 x192 x193 x194 x195 x196 x197 x198 x199 x200 x201 x202 x203 x204 x205 x206 x207 x208 x209 x210 x211 x212 x213 x214 x215 x216 x217 x218 x219 x220 x221 x222 x223 x224 x225 x226 : Value), Q2 .normal { tmps := #[u0, u1, u2, u3, u4, u5, u6, u7, u8, u9, u10, u11, u12, u13, u14, .int .i64 (v : Int), .bool r, u17, .pointer (some ⟨xb, 0, none⟩), x19, x20, u21, u22, u23, u24, u25, u26, u27, u28, u29, u30, u31, u32, u33, u34, u35, u36, u37, u38, u39, u40, u41, u42, u43, u44, u45, u46, u47, u48, u49, u50, u51, u52, u53, u54, u55, u56, u57, u58, u59, u60, u61, u62, u63, u64, u65, u66, u67, u68, u69, u70, u71, u72, u73, u74, u75, u76, u77, u78, u79, u80, u81, u82, u83, u84, u85, u86, u87, u88, u89, u90, u91, u92, u93, u94, u95, u96, u97, u98, u99, u100, u101, u102, u103, u104, u105, u106, u107, u108, u109, u110, u111, u112, u113, u114, u115, u116, u117, u118, u119, u120, u121, u122, u123, u124, u125, u126, u127, u128, u129, u130, u131, u132, u133, u134, u135, u136, u137, u138, u139, u140, u141, u142, u143, u144, u145, u146, u147, u148, u149, u150, u151, u152, u153, u154, u155, u156, u157, u158, u159, u160, u161, u162, u163, x164, x165, x166, x167, x168, x169, x170, x171, x172, x173, x174, x175, x176, x177, x178, x179, x180, x181, x182, x183, x184, x185, x186, x187, x188, x189, x190, x191, x192, x193, x194, x195, x196, x197, x198, x199, x200, x201, x202, x203, x204, x205, x206, x207, x208, x209, x210, x211, x212, x213, x214, x215, x216, x217, x218, x219, x220, x221, x222, x223, x224, x225, x226, u227, u228, u229, u230, u231, u232, u233, u234], defers := [] } Y) :
    c36.wp Try.prog (Exit.then K1 Q1) { tmps := #[u0, u1, u2, u3, u4, u5, u6, u7, u8, u9, u10, u11, u12, u13, u14, .int .i64 (v : Int), .bool q, u17, .pointer (some ⟨xb, 0, none⟩), u19, u20, u21, u22, u23, u24, u25, u26, u27, u28, u29, u30, u31, u32, u33, u34, u35, u36, u37, u38, u39, u40, u41, u42, u43, u44, u45, u46, u47, u48, u49, u50, u51, u52, u53, u54, u55, u56, u57, u58, u59, u60, u61, u62, u63, u64, u65, u66, u67, u68, u69, u70, u71, u72, u73, u74, u75, u76, u77, u78, u79, u80, u81, u82, u83, u84, u85, u86, u87, u88, u89, u90, u91, u92, u93, u94, u95, u96, u97, u98, u99, u100, u101, u102, u103, u104, u105, u106, u107, u108, u109, u110, u111, u112, u113, u114, u115, u116, u117, u118, u119, u120, u121, u122, u123, u124, u125, u126, u127, u128, u129, u130, u131, u132, u133, u134, u135, u136, u137, u138, u139, u140, u141, u142, u143, u144, u145, u146, u147, u148, u149, u150, u151, u152, u153, u154, u155, u156, u157, u158, u159, u160, u161, u162, u163, u164, u165, u166, u167, u168, u169, u170, u171, u172, u173, u174, u175, u176, u177, u178, u179, u180, u181, u182, u183, u184, u185, u186, u187, u188, u189, u190, u191, u192, u193, u194, u195, u196, u197, u198, u199, u200, u201, u202, u203, u204, u205, u206, u207, u208, u209, u210, u211, u212, u213, u214, u215, u216, u217, u218, u219, u220, u221, u222, u223, u224, u225, u226, u227, u228, u229, u230, u231, u232, u233, u234], defers := [] } Y := by
  have HFIN := Lib.hid hfin
  have HAR := Lib.hid hargs
  have hcc36 : Try.f3.body.bind (regOf 36) = some c36 := h36
  have hcc37 : Try.f3.body.bind (regOf 37) = some c37 := h37
  have hcc38 : Try.f3.body.bind (regOf 38) = some c38 := h38
  simp only [Try.f3, regOf, Option.bind_some, Nat.reduceEqDiff, ↓reduceIte, Option.none_or, Option.or_none, Option.some.injEq] at hcc36 hcc37 hcc38
  subst hcc36
  subst hcc37
  subst hcc38
  obtain ⟨kd, d, a', b', op, nn, nm, args⟩ := x
  replace hk : kd = 1 := hk
  subst hk
  have HNO := Lib.hid hno
  clear h36 h37 h38 hfin hargs hno
  obtain rfl : args = [] := HNO.out (by show (1 : Int) ≠ 9; decide)
  have hm : decide ((v : Int) ∈ ([] : List Int)) = false := by simp
  cases q with
  | false =>
    have hv : false = newW ⟨1, d, a', b', op, nn, nm, []⟩ (v : Int) false := by simp [newW, usesL, setsL, hasA, hasB]
    have HV9 := Lib.hid hv
    clear hv 
    go_wp2_with (go_at_call 16; refine (has_any _ _ _ _ _ HAR.out).mono ?_; rintro e w' ⟨he, rfl⟩; rw [hm] at he; subst he)
    exact HFIN.out _ HV9.out _ _ _ _ _ _ _ _ _ _ _ _ _ _ _ _ _ _ _ _ _ _ _ _ _ _ _ _ _ _ _ _ _ _ _ _ _ _ _ _ _ _ _ _ _ _ _ _ _ _ _ _ _ _ _ _ _ _ _ _ _ _ _ _ _
  | true =>
    by_cases hd : d = (v : Int)
    · have hde : (d == (v : Int)) = true := beq_iff_eq.2 hd
      have hdd : decide (d = (v : Int)) = true := decide_eq_true hd
      have hds : (v : Int) = d := hd.symm
      have hv : false = newW ⟨1, d, a', b', op, nn, nm, []⟩ (v : Int) true := by simp [newW, usesL, setsL, hasA, hasB, hd]
      have HV9 := Lib.hid hv
      clear hv hd hds
      go_wp2_with (go_at_call 16; refine (has_any _ _ _ _ _ HAR.out).mono ?_; rintro e w' ⟨he, rfl⟩; rw [hm] at he; subst he)
      exact HFIN.out _ HV9.out _ _ _ _ _ _ _ _ _ _ _ _ _ _ _ _ _ _ _ _ _ _ _ _ _ _ _ _ _ _ _ _ _ _ _ _ _ _ _ _ _ _ _ _ _ _ _ _ _ _ _ _ _ _ _ _ _ _ _ _ _ _ _ _ _
    · have hde : (d == (v : Int)) = false := by simp [hd]
      have hdd : decide (d = (v : Int)) = false := decide_eq_false hd
      have hds : ¬ (v : Int) = d := fun h => hd h.symm
      have hv : true = newW ⟨1, d, a', b', op, nn, nm, []⟩ (v : Int) true := by simp [newW, usesL, setsL, hasA, hasB, hds]
      have HV9 := Lib.hid hv
      clear hv hd hds
      go_wp2_with (go_at_call 16; refine (has_any _ _ _ _ _ HAR.out).mono ?_; rintro e w' ⟨he, rfl⟩; rw [hm] at he; subst he)
      exact HFIN.out _ HV9.out _ _ _ _ _ _ _ _ _ _ _ _ _ _ _ _ _ _ _ _ _ _ _ _ _ _ _ _ _ _ _ _ _ _ _ _ _ _ _ _ _ _ _ _ _ _ _ _ _ _ _ _ _ _ _ _ _ _ _ _ _ _ _ _ _
set_option maxRecDepth 100000 in
set_option maxHeartbeats 8000000 in
theorem tail2 (v : Nat) (q : Bool) (xb ca : Nat) (Aa : Option Addr) (x : LIns) (hk : x.kind = 2) (Y : World)
    (k0 : Y.cell? ⟨xb, 0, none⟩ = some (.int .i64 2)) (k1 : Y.cell? ⟨xb, 1, none⟩ = some (.int .i64 x.d)) (k2 : Y.cell? ⟨xb, 2, none⟩ = some (.int .i64 x.a)) (k3 : Y.cell? ⟨xb, 3, none⟩ = some (.int .i64 x.b)) (k7 : Y.cell? ⟨xb, 7, none⟩ = some (.slice Aa x.args.length ca))
    (hargs : SlR Y (· < Y.heap.size) 1 RInt (.slice Aa x.args.length ca) x.args) (hno : x.kind ≠ 9 → x.args = [])
    (c36 c37 c38 : Code) (K1 : Act → World → Prop) (Q1 Q2 : Exit → Act → World → Prop) (u0 u1 u2 u3 u4 u5 u6 u7 u8 u9 u10 u11 u12 u13 u14 u17 u19 u20 u21 u22 u23 u24 u25 u26 u27 u28 u29 u30 u31 u32 u33 u34 u35 u36 u37 u38 u39 u40 u41 u42 u43 u44 u45 u46 u47 u48 u49 u50 u51 u52 u53 u54 u55 u56 u57 u58 u59 u60 u61 u62 u63 u64 u65 u66 u67 u68 u69 u70 u71 u72 u73 u74 u75 u76 u77 u78 u79 u80 u81 u82 u83 u84 u85 u86 u87 u88 u89 u90 u91 u92 u93 u94 u95 u96 u97 u98 u99 u100 u101 u102 u103 u104 u105 u106 u107 u108 u109 u110 u111 u112 u113 u114 u115 u116 u117 u118 u119 u120 u121 u122 u123 u124 u125 u126 u127 u128 u129 u130 u131 u132 u133 u134 u135 u136 u137 u138 u139 u140 u141 u142 u143 u144 u145 u146 u147 u148 u149 u150 u151 u152 u153 u154 u155 u156 u157 u158 u159 u160 u161 u162 u163 u164 u165 u166 u167 u168 u169 u170 u171 u172 u173 u174 u175 u176 u177 u178 u179 u180 u181 u182 u183 u184 u185 u186 u187 u188 u189 u190 u191 u192 u193 u194 u195 u196 u197 u198 u199 u200 u201 u202 u203 u204 u205 u206 u207 u208 u209 u210 u211 u212 u213 u214 u215 u216 u217 u218 u219 u220 u221 u222 u223 u224 u225 u226 u227 u228 u229 u230 u231 u232 u233 u234 : Value) (hK1 : ∀ a w, (Code.seq c37 c38).wp Try.prog Q2 a w → K1 a w)
    (h36 : (Try.f3.body.bind (regOf 36)) = some c36) (h37 : (Try.f3.body.bind (regOf 37)) = some c37) (h38 : (Try.f3.body.bind (regOf 38)) = some c38)
    (hfin : ∀ (r : Bool), r = newW x v q → ∀ (x19 x20 x164 x165 x166 x167 x168 x169 x170 x171 x172 x173 x174 x175 x176 x177 x178 x179 x180 x181 x182 x183 x184 x185 x186 x187 x188 x189 x190 x191 x192 x193 x194 x195 x196 x197 x198 x199 x200 x201 x202 x203 x204 x205 x206 x207 x208 x209 x210 x211 x212 x213 x214 x215 x216 x217 x218 x219 x220 x221 x222 x223 x224 x225 x226 : Value), Q2 .normal { tmps := #[u0, u1, u2, u3, u4, u5, u6, u7, u8, u9, u10, u11, u12, u13, u14, .int .i64 (v : Int), .bool r, u17, .pointer (some ⟨xb, 0, none⟩), x19, x20, u21, u22, u23, u24, u25, u26, u27, u28, u29, u30, u31, u32, u33, u34, u35, u36, u37, u38, u39, u40, u41, u42, u43, u44, u45, u46, u47, u48, u49, u50, u51, u52, u53, u54, u55, u56, u57, u58, u59, u60, u61, u62, u63, u64, u65, u66, u67, u68, u69, u70, u71, u72, u73, u74, u75, u76, u77, u78, u79, u80, u81, u82, u83, u84, u85, u86, u87, u88, u89, u90, u91, u92, u93, u94, u95, u96, u97, u98, u99, u100, u101, u102, u103, u104, u105, u106, u107, u108, u109, u110, u111, u112, u113, u114, u115, u116, u117, u118, u119, u120, u121, u122, u123, u124, u125, u126, u127, u128, u129, u130, u131, u132, u133, u134, u135, u136, u137, u138, u139, u140, u141, u142, u143, u144, u145, u146, u147, u148, u149, u150, u151, u152, u153, u154, u155, u156, u157, u158, u159, u160, u161, u162, u163, x164, x165, x166, x167, x168, x169, x170, x171, x172, x173, x174, x175, x176, x177, x178, x179, x180, x181, x182, x183, x184, x185, x186, x187, x188, x189, x190, x191, x192, x193, x194, x195, x196, x197, x198, x199, x200, x201, x202, x203, x204, x205, x206, x207, x208, x209, x210, x211, x212, x213, x214, x215, x216, x217, x218, x219, x220, x221, x222, x223, x224, x225, x226, u227, u228, u229, u230, u231, u232, u233, u234], defers := [] } Y) :
    c36.wp Try.prog (Exit.then K1 Q1) { tmps := #[u0, u1, u2, u3, u4, u5, u6, u7, u8, u9, u10, u11, u12, u13, u14, .int .i64 (v : Int), .bool q, u17, .pointer (some ⟨xb, 0, none⟩), u19, u20, u21, u22, u23, u24, u25, u26, u27, u28, u29, u30, u31, u32, u33, u34, u35, u36, u37, u38, u39, u40, u41, u42, u43, u44, u45, u46, u47, u48, u49, u50, u51, u52, u53, u54, u55, u56, u57, u58, u59, u60, u61, u62, u63, u64, u65, u66, u67, u68, u69, u70, u71, u72, u73, u74, u75, u76, u77, u78, u79, u80, u81, u82, u83, u84, u85, u86, u87, u88, u89, u90, u91, u92, u93, u94, u95, u96, u97, u98, u99, u100, u101, u102, u103, u104, u105, u106, u107, u108, u109, u110, u111, u112, u113, u114, u115, u116, u117, u118, u119, u120, u121, u122, u123, u124, u125, u126, u127, u128, u129, u130, u131, u132, u133, u134, u135, u136, u137, u138, u139, u140, u141, u142, u143, u144, u145, u146, u147, u148, u149, u150, u151, u152, u153, u154, u155, u156, u157, u158, u159, u160, u161, u162, u163, u164, u165, u166, u167, u168, u169, u170, u171, u172, u173, u174, u175, u176, u177, u178, u179, u180, u181, u182, u183, u184, u185, u186, u187, u188, u189, u190, u191, u192, u193, u194, u195, u196, u197, u198, u199, u200, u201, u202, u203, u204, u205, u206, u207, u208, u209, u210, u211, u212, u213, u214, u215, u216, u217, u218, u219, u220, u221, u222, u223, u224, u225, u226, u227, u228, u229, u230, u231, u232, u233, u234], defers := [] } Y := by
  have HFIN := Lib.hid hfin
  have HAR := Lib.hid hargs
  have hcc36 : Try.f3.body.bind (regOf 36) = some c36 := h36
  have hcc37 : Try.f3.body.bind (regOf 37) = some c37 := h37
  have hcc38 : Try.f3.body.bind (regOf 38) = some c38 := h38
  simp only [Try.f3, regOf, Option.bind_some, Nat.reduceEqDiff, ↓reduceIte, Option.none_or, Option.or_none, Option.some.injEq] at hcc36 hcc37 hcc38
  subst hcc36
  subst hcc37
  subst hcc38
  obtain ⟨kd, d, a', b', op, nn, nm, args⟩ := x
  replace hk : kd = 2 := hk
  subst hk
  have HNO := Lib.hid hno
  clear h36 h37 h38 hfin hargs hno
  obtain rfl : args = [] := HNO.out (by show (2 : Int) ≠ 9; decide)
  have hm : decide ((v : Int) ∈ ([] : List Int)) = false := by simp
  cases q with
  | false =>
    by_cases ha : a' = (v : Int)
    · have hae : (a' == (v : Int)) = true := beq_iff_eq.2 ha
      have had : decide (a' = (v : Int)) = true := decide_eq_true ha
      have has : (v : Int) = a' := ha.symm
      have hv : true = newW ⟨2, d, a', b', op, nn, nm, []⟩ (v : Int) false := by simp [newW, usesL, setsL, hasA, hasB, ha]
      have HV9 := Lib.hid hv
      clear hv ha has
      go_wp2
      exact HFIN.out _ HV9.out _ _ _ _ _ _ _ _ _ _ _ _ _ _ _ _ _ _ _ _ _ _ _ _ _ _ _ _ _ _ _ _ _ _ _ _ _ _ _ _ _ _ _ _ _ _ _ _ _ _ _ _ _ _ _ _ _ _ _ _ _ _ _ _ _
    · have hae : (a' == (v : Int)) = false := by simp [ha]
      have had : decide (a' = (v : Int)) = false := decide_eq_false ha
      have has : ¬ (v : Int) = a' := fun h => ha h.symm
      have hv : false = newW ⟨2, d, a', b', op, nn, nm, []⟩ (v : Int) false := by simp [newW, usesL, setsL, hasA, hasB, has]
      have HV9 := Lib.hid hv
      clear hv ha has
      go_wp2_with (go_at_call 16; refine (has_any _ _ _ _ _ HAR.out).mono ?_; rintro e w' ⟨he, rfl⟩; rw [hm] at he; subst he)
      exact HFIN.out _ HV9.out _ _ _ _ _ _ _ _ _ _ _ _ _ _ _ _ _ _ _ _ _ _ _ _ _ _ _ _ _ _ _ _ _ _ _ _ _ _ _ _ _ _ _ _ _ _ _ _ _ _ _ _ _ _ _ _ _ _ _ _ _ _ _ _ _
  | true =>
    by_cases ha : a' = (v : Int)
    · have hae : (a' == (v : Int)) = true := beq_iff_eq.2 ha
      have had : decide (a' = (v : Int)) = true := decide_eq_true ha
      have has : (v : Int) = a' := ha.symm
      have hv : true = newW ⟨2, d, a', b', op, nn, nm, []⟩ (v : Int) true := by simp [newW, usesL, setsL, hasA, hasB, ha]
      have HV9 := Lib.hid hv
      clear hv ha has
      go_wp2
      exact HFIN.out _ HV9.out _ _ _ _ _ _ _ _ _ _ _ _ _ _ _ _ _ _ _ _ _ _ _ _ _ _ _ _ _ _ _ _ _ _ _ _ _ _ _ _ _ _ _ _ _ _ _ _ _ _ _ _ _ _ _ _ _ _ _ _ _ _ _ _ _
    · have hae : (a' == (v : Int)) = false := by simp [ha]
      have had : decide (a' = (v : Int)) = false := decide_eq_false ha
      have has : ¬ (v : Int) = a' := fun h => ha h.symm
      by_cases hd : d = (v : Int)
      · have hde : (d == (v : Int)) = true := beq_iff_eq.2 hd
        have hdd : decide (d = (v : Int)) = true := decide_eq_true hd
        have hds : (v : Int) = d := hd.symm
        have hv : false = newW ⟨2, d, a', b', op, nn, nm, []⟩ (v : Int) true := by simp [newW, usesL, setsL, hasA, hasB, has, hd]
        have HV9 := Lib.hid hv
        clear hv ha has hd hds
        go_wp2_with (go_at_call 16; refine (has_any _ _ _ _ _ HAR.out).mono ?_; rintro e w' ⟨he, rfl⟩; rw [hm] at he; subst he)
        exact HFIN.out _ HV9.out _ _ _ _ _ _ _ _ _ _ _ _ _ _ _ _ _ _ _ _ _ _ _ _ _ _ _ _ _ _ _ _ _ _ _ _ _ _ _ _ _ _ _ _ _ _ _ _ _ _ _ _ _ _ _ _ _ _ _ _ _ _ _ _ _
      · have hde : (d == (v : Int)) = false := by simp [hd]
        have hdd : decide (d = (v : Int)) = false := decide_eq_false hd
        have hds : ¬ (v : Int) = d := fun h => hd h.symm
        have hv : true = newW ⟨2, d, a', b', op, nn, nm, []⟩ (v : Int) true := by simp [newW, usesL, setsL, hasA, hasB, has, hds]
        have HV9 := Lib.hid hv
        clear hv ha has hd hds
        go_wp2_with (go_at_call 16; refine (has_any _ _ _ _ _ HAR.out).mono ?_; rintro e w' ⟨he, rfl⟩; rw [hm] at he; subst he)
        exact HFIN.out _ HV9.out _ _ _ _ _ _ _ _ _ _ _ _ _ _ _ _ _ _ _ _ _ _ _ _ _ _ _ _ _ _ _ _ _ _ _ _ _ _ _ _ _ _ _ _ _ _ _ _ _ _ _ _ _ _ _ _ _ _ _ _ _ _ _ _ _
set_option maxRecDepth 100000 in
set_option maxHeartbeats 8000000 in
theorem tail3 (v : Nat) (q : Bool) (xb ca : Nat) (Aa : Option Addr) (x : LIns) (hk : x.kind = 3) (Y : World)
    (k0 : Y.cell? ⟨xb, 0, none⟩ = some (.int .i64 3)) (k1 : Y.cell? ⟨xb, 1, none⟩ = some (.int .i64 x.d)) (k2 : Y.cell? ⟨xb, 2, none⟩ = some (.int .i64 x.a)) (k3 : Y.cell? ⟨xb, 3, none⟩ = some (.int .i64 x.b)) (k7 : Y.cell? ⟨xb, 7, none⟩ = some (.slice Aa x.args.length ca))
    (hargs : SlR Y (· < Y.heap.size) 1 RInt (.slice Aa x.args.length ca) x.args) (hno : x.kind ≠ 9 → x.args = [])
    (c36 c37 c38 : Code) (K1 : Act → World → Prop) (Q1 Q2 : Exit → Act → World → Prop) (u0 u1 u2 u3 u4 u5 u6 u7 u8 u9 u10 u11 u12 u13 u14 u17 u19 u20 u21 u22 u23 u24 u25 u26 u27 u28 u29 u30 u31 u32 u33 u34 u35 u36 u37 u38 u39 u40 u41 u42 u43 u44 u45 u46 u47 u48 u49 u50 u51 u52 u53 u54 u55 u56 u57 u58 u59 u60 u61 u62 u63 u64 u65 u66 u67 u68 u69 u70 u71 u72 u73 u74 u75 u76 u77 u78 u79 u80 u81 u82 u83 u84 u85 u86 u87 u88 u89 u90 u91 u92 u93 u94 u95 u96 u97 u98 u99 u100 u101 u102 u103 u104 u105 u106 u107 u108 u109 u110 u111 u112 u113 u114 u115 u116 u117 u118 u119 u120 u121 u122 u123 u124 u125 u126 u127 u128 u129 u130 u131 u132 u133 u134 u135 u136 u137 u138 u139 u140 u141 u142 u143 u144 u145 u146 u147 u148 u149 u150 u151 u152 u153 u154 u155 u156 u157 u158 u159 u160 u161 u162 u163 u164 u165 u166 u167 u168 u169 u170 u171 u172 u173 u174 u175 u176 u177 u178 u179 u180 u181 u182 u183 u184 u185 u186 u187 u188 u189 u190 u191 u192 u193 u194 u195 u196 u197 u198 u199 u200 u201 u202 u203 u204 u205 u206 u207 u208 u209 u210 u211 u212 u213 u214 u215 u216 u217 u218 u219 u220 u221 u222 u223 u224 u225 u226 u227 u228 u229 u230 u231 u232 u233 u234 : Value) (hK1 : ∀ a w, (Code.seq c37 c38).wp Try.prog Q2 a w → K1 a w)
    (h36 : (Try.f3.body.bind (regOf 36)) = some c36) (h37 : (Try.f3.body.bind (regOf 37)) = some c37) (h38 : (Try.f3.body.bind (regOf 38)) = some c38)
    (hfin : ∀ (r : Bool), r = newW x v q → ∀ (x19 x20 x164 x165 x166 x167 x168 x169 x170 x171 x172 x173 x174 x175 x176 x177 x178 x179 x180 x181 x182 x183 x184 x185 x186 x187 x188 x189 x190 x191 x192 x193 x194 x195 x196 x197 x198 x199 x200 x201 x202 x203 x204 x205 x206 x207 x208 x209 x210 x211 x212 x213 x214 x215 x216 x217 x218 x219 x220 x221 x222 x223 x224 x225 x226 : Value), Q2 .normal { tmps := #[u0, u1, u2, u3, u4, u5, u6, u7, u8, u9, u10, u11, u12, u13, u14, .int .i64 (v : Int), .bool r, u17, .pointer (some ⟨xb, 0, none⟩), x19, x20, u21, u22, u23, u24, u25, u26, u27, u28, u29, u30, u31, u32, u33, u34, u35, u36, u37, u38, u39, u40, u41, u42, u43, u44, u45, u46, u47, u48, u49, u50, u51, u52, u53, u54, u55, u56, u57, u58, u59, u60, u61, u62, u63, u64, u65, u66, u67, u68, u69, u70, u71, u72, u73, u74, u75, u76, u77, u78, u79, u80, u81, u82, u83, u84, u85, u86, u87, u88, u89, u90, u91, u92, u93, u94, u95, u96, u97, u98, u99, u100, u101, u102, u103, u104, u105, u106, u107, u108, u109, u110, u111, u112, u113, u114, u115, u116, u117, u118, u119, u120, u121, u122, u123, u124, u125, u126, u127, u128, u129, u130, u131, u132, u133, u134, u135, u136, u137, u138, u139, u140, u141, u142, u143, u144, u145, u146, u147, u148, u149, u150, u151, u152, u153, u154, u155, u156, u157, u158, u159, u160, u161, u162, u163, x164, x165, x166, x167, x168, x169, x170, x171, x172, x173, x174, x175, x176, x177, x178, x179, x180, x181, x182, x183, x184, x185, x186, x187, x188, x189, x190, x191, x192, x193, x194, x195, x196, x197, x198, x199, x200, x201, x202, x203, x204, x205, x206, x207, x208, x209, x210, x211, x212, x213, x214, x215, x216, x217, x218, x219, x220, x221, x222, x223, x224, x225, x226, u227, u228, u229, u230, u231, u232, u233, u234], defers := [] } Y) :
    c36.wp Try.prog (Exit.then K1 Q1) { tmps := #[u0, u1, u2, u3, u4, u5, u6, u7, u8, u9, u10, u11, u12, u13, u14, .int .i64 (v : Int), .bool q, u17, .pointer (some ⟨xb, 0, none⟩), u19, u20, u21, u22, u23, u24, u25, u26, u27, u28, u29, u30, u31, u32, u33, u34, u35, u36, u37, u38, u39, u40, u41, u42, u43, u44, u45, u46, u47, u48, u49, u50, u51, u52, u53, u54, u55, u56, u57, u58, u59, u60, u61, u62, u63, u64, u65, u66, u67, u68, u69, u70, u71, u72, u73, u74, u75, u76, u77, u78, u79, u80, u81, u82, u83, u84, u85, u86, u87, u88, u89, u90, u91, u92, u93, u94, u95, u96, u97, u98, u99, u100, u101, u102, u103, u104, u105, u106, u107, u108, u109, u110, u111, u112, u113, u114, u115, u116, u117, u118, u119, u120, u121, u122, u123, u124, u125, u126, u127, u128, u129, u130, u131, u132, u133, u134, u135, u136, u137, u138, u139, u140, u141, u142, u143, u144, u145, u146, u147, u148, u149, u150, u151, u152, u153, u154, u155, u156, u157, u158, u159, u160, u161, u162, u163, u164, u165, u166, u167, u168, u169, u170, u171, u172, u173, u174, u175, u176, u177, u178, u179, u180, u181, u182, u183, u184, u185, u186, u187, u188, u189, u190, u191, u192, u193, u194, u195, u196, u197, u198, u199, u200, u201, u202, u203, u204, u205, u206, u207, u208, u209, u210, u211, u212, u213, u214, u215, u216, u217, u218, u219, u220, u221, u222, u223, u224, u225, u226, u227, u228, u229, u230, u231, u232, u233, u234], defers := [] } Y := by
  have HFIN := Lib.hid hfin
  have HAR := Lib.hid hargs
  have hcc36 : Try.f3.body.bind (regOf 36) = some c36 := h36
  have hcc37 : Try.f3.body.bind (regOf 37) = some c37 := h37
  have hcc38 : Try.f3.body.bind (regOf 38) = some c38 := h38
  simp only [Try.f3, regOf, Option.bind_some, Nat.reduceEqDiff, ↓reduceIte, Option.none_or, Option.or_none, Option.some.injEq] at hcc36 hcc37 hcc38
  subst hcc36
  subst hcc37
  subst hcc38
  obtain ⟨kd, d, a', b', op, nn, nm, args⟩ := x
  replace hk : kd = 3 := hk
  subst hk
  have HNO := Lib.hid hno
  clear h36 h37 h38 hfin hargs hno
  obtain rfl : args = [] := HNO.out (by show (3 : Int) ≠ 9; decide)
  have hm : decide ((v : Int) ∈ ([] : List Int)) = false := by simp
  cases q with
  | false =>
    by_cases ha : a' = (v : Int)
    · have hae : (a' == (v : Int)) = true := beq_iff_eq.2 ha
      have had : decide (a' = (v : Int)) = true := decide_eq_true ha
      have has : (v : Int) = a' := ha.symm
      have hv : true = newW ⟨3, d, a', b', op, nn, nm, []⟩ (v : Int) false := by simp [newW, usesL, setsL, hasA, hasB, ha]
      have HV9 := Lib.hid hv
      clear hv ha has
      go_wp2
      exact HFIN.out _ HV9.out _ _ _ _ _ _ _ _ _ _ _ _ _ _ _ _ _ _ _ _ _ _ _ _ _ _ _ _ _ _ _ _ _ _ _ _ _ _ _ _ _ _ _ _ _ _ _ _ _ _ _ _ _ _ _ _ _ _ _ _ _ _ _ _ _
    · have hae : (a' == (v : Int)) = false := by simp [ha]
      have had : decide (a' = (v : Int)) = false := decide_eq_false ha
      have has : ¬ (v : Int) = a' := fun h => ha h.symm
      have hv : false = newW ⟨3, d, a', b', op, nn, nm, []⟩ (v : Int) false := by simp [newW, usesL, setsL, hasA, hasB, has]
      have HV9 := Lib.hid hv
      clear hv ha has
      go_wp2_with (go_at_call 16; refine (has_any _ _ _ _ _ HAR.out).mono ?_; rintro e w' ⟨he, rfl⟩; rw [hm] at he; subst he)
      exact HFIN.out _ HV9.out _ _ _ _ _ _ _ _ _ _ _ _ _ _ _ _ _ _ _ _ _ _ _ _ _ _ _ _ _ _ _ _ _ _ _ _ _ _ _ _ _ _ _ _ _ _ _ _ _ _ _ _ _ _ _ _ _ _ _ _ _ _ _ _ _
  | true =>
    by_cases ha : a' = (v : Int)
    · have hae : (a' == (v : Int)) = true := beq_iff_eq.2 ha
      have had : decide (a' = (v : Int)) = true := decide_eq_true ha
      have has : (v : Int) = a' := ha.symm
      have hv : true = newW ⟨3, d, a', b', op, nn, nm, []⟩ (v : Int) true := by simp [newW, usesL, setsL, hasA, hasB, ha]
      have HV9 := Lib.hid hv
      clear hv ha has
      go_wp2
      exact HFIN.out _ HV9.out _ _ _ _ _ _ _ _ _ _ _ _ _ _ _ _ _ _ _ _ _ _ _ _ _ _ _ _ _ _ _ _ _ _ _ _ _ _ _ _ _ _ _ _ _ _ _ _ _ _ _ _ _ _ _ _ _ _ _ _ _ _ _ _ _
    · have hae : (a' == (v : Int)) = false := by simp [ha]
      have had : decide (a' = (v : Int)) = false := decide_eq_false ha
      have has : ¬ (v : Int) = a' := fun h => ha h.symm
      by_cases hd : d = (v : Int)
      · have hde : (d == (v : Int)) = true := beq_iff_eq.2 hd
        have hdd : decide (d = (v : Int)) = true := decide_eq_true hd
        have hds : (v : Int) = d := hd.symm
        have hv : false = newW ⟨3, d, a', b', op, nn, nm, []⟩ (v : Int) true := by simp [newW, usesL, setsL, hasA, hasB, has, hd]
        have HV9 := Lib.hid hv
        clear hv ha has hd hds
        go_wp2_with (go_at_call 16; refine (has_any _ _ _ _ _ HAR.out).mono ?_; rintro e w' ⟨he, rfl⟩; rw [hm] at he; subst he)
        exact HFIN.out _ HV9.out _ _ _ _ _ _ _ _ _ _ _ _ _ _ _ _ _ _ _ _ _ _ _ _ _ _ _ _ _ _ _ _ _ _ _ _ _ _ _ _ _ _ _ _ _ _ _ _ _ _ _ _ _ _ _ _ _ _ _ _ _ _ _ _ _
      · have hde : (d == (v : Int)) = false := by simp [hd]
        have hdd : decide (d = (v : Int)) = false := decide_eq_false hd
        have hds : ¬ (v : Int) = d := fun h => hd h.symm
        have hv : true = newW ⟨3, d, a', b', op, nn, nm, []⟩ (v : Int) true := by simp [newW, usesL, setsL, hasA, hasB, has, hds]
        have HV9 := Lib.hid hv
        clear hv ha has hd hds
        go_wp2_with (go_at_call 16; refine (has_any _ _ _ _ _ HAR.out).mono ?_; rintro e w' ⟨he, rfl⟩; rw [hm] at he; subst he)
        exact HFIN.out _ HV9.out _ _ _ _ _ _ _ _ _ _ _ _ _ _ _ _ _ _ _ _ _ _ _ _ _ _ _ _ _ _ _ _ _ _ _ _ _ _ _ _ _ _ _ _ _ _ _ _ _ _ _ _ _ _ _ _ _ _ _ _ _ _ _ _ _
set_option maxRecDepth 100000 in
set_option maxHeartbeats 8000000 in
theorem tail4 (v : Nat) (q : Bool) (xb ca : Nat) (Aa : Option Addr) (x : LIns) (hk : x.kind = 4) (Y : World)
    (k0 : Y.cell? ⟨xb, 0, none⟩ = some (.int .i64 4)) (k1 : Y.cell? ⟨xb, 1, none⟩ = some (.int .i64 x.d)) (k2 : Y.cell? ⟨xb, 2, none⟩ = some (.int .i64 x.a)) (k3 : Y.cell? ⟨xb, 3, none⟩ = some (.int .i64 x.b)) (k7 : Y.cell? ⟨xb, 7, none⟩ = some (.slice Aa x.args.length ca))
    (hargs : SlR Y (· < Y.heap.size) 1 RInt (.slice Aa x.args.length ca) x.args) (hno : x.kind ≠ 9 → x.args = [])
    (c36 c37 c38 : Code) (K1 : Act → World → Prop) (Q1 Q2 : Exit → Act → World → Prop) (u0 u1 u2 u3 u4 u5 u6 u7 u8 u9 u10 u11 u12 u13 u14 u17 u19 u20 u21 u22 u23 u24 u25 u26 u27 u28 u29 u30 u31 u32 u33 u34 u35 u36 u37 u38 u39 u40 u41 u42 u43 u44 u45 u46 u47 u48 u49 u50 u51 u52 u53 u54 u55 u56 u57 u58 u59 u60 u61 u62 u63 u64 u65 u66 u67 u68 u69 u70 u71 u72 u73 u74 u75 u76 u77 u78 u79 u80 u81 u82 u83 u84 u85 u86 u87 u88 u89 u90 u91 u92 u93 u94 u95 u96 u97 u98 u99 u100 u101 u102 u103 u104 u105 u106 u107 u108 u109 u110 u111 u112 u113 u114 u115 u116 u117 u118 u119 u120 u121 u122 u123 u124 u125 u126 u127 u128 u129 u130 u131 u132 u133 u134 u135 u136 u137 u138 u139 u140 u141 u142 u143 u144 u145 u146 u147 u148 u149 u150 u151 u152 u153 u154 u155 u156 u157 u158 u159 u160 u161 u162 u163 u164 u165 u166 u167 u168 u169 u170 u171 u172 u173 u174 u175 u176 u177 u178 u179 u180 u181 u182 u183 u184 u185 u186 u187 u188 u189 u190 u191 u192 u193 u194 u195 u196 u197 u198 u199 u200 u201 u202 u203 u204 u205 u206 u207 u208 u209 u210 u211 u212 u213 u214 u215 u216 u217 u218 u219 u220 u221 u222 u223 u224 u225 u226 u227 u228 u229 u230 u231 u232 u233 u234 : Value) (hK1 : ∀ a w, (Code.seq c37 c38).wp Try.prog Q2 a w → K1 a w)
    (h36 : (Try.f3.body.bind (regOf 36)) = some c36) (h37 : (Try.f3.body.bind (regOf 37)) = some c37) (h38 : (Try.f3.body.bind (regOf 38)) = some c38)
    (hfin : ∀ (r : Bool), r = newW x v q → ∀ (x19 x20 x164 x165 x166 x167 x168 x169 x170 x171 x172 x173 x174 x175 x176 x177 x178 x179 x180 x181 x182 x183 x184 x185 x186 x187 x188 x189 x190 x191 x192 x193 x194 x195 x196 x197 x198 x199 x200 x201 x202 x203 x204 x205 x206 x207 x208 x209 x210 x211 x212 x213 x214 x215 x216 x217 x218 x219 x220 x221 x222 x223 x224 x225 x226 : Value), Q2 .normal { tmps := #[u0, u1, u2, u3, u4, u5, u6, u7, u8, u9, u10, u11, u12, u13, u14, .int .i64 (v : Int), .bool r, u17, .pointer (some ⟨xb, 0, none⟩), x19, x20, u21, u22, u23, u24, u25, u26, u27, u28, u29, u30, u31, u32, u33, u34, u35, u36, u37, u38, u39, u40, u41, u42, u43, u44, u45, u46, u47, u48, u49, u50, u51, u52, u53, u54, u55, u56, u57, u58, u59, u60, u61, u62, u63, u64, u65, u66, u67, u68, u69, u70, u71, u72, u73, u74, u75, u76, u77, u78, u79, u80, u81, u82, u83, u84, u85, u86, u87, u88, u89, u90, u91, u92, u93, u94, u95, u96, u97, u98, u99, u100, u101, u102, u103, u104, u105, u106, u107, u108, u109, u110, u111, u112, u113, u114, u115, u116, u117, u118, u119, u120, u121, u122, u123, u124, u125, u126, u127, u128, u129, u130, u131, u132, u133, u134, u135, u136, u137, u138, u139, u140, u141, u142, u143, u144, u145, u146, u147, u148, u149, u150, u151, u152, u153, u154, u155, u156, u157, u158, u159, u160, u161, u162, u163, x164, x165, x166, x167, x168, x169, x170, x171, x172, x173, x174, x175, x176, x177, x178, x179, x180, x181, x182, x183, x184, x185, x186, x187, x188, x189, x190, x191, x192, x193, x194, x195, x196, x197, x198, x199, x200, x201, x202, x203, x204, x205, x206, x207, x208, x209, x210, x211, x212, x213, x214, x215, x216, x217, x218, x219, x220, x221, x222, x223, x224, x225, x226, u227, u228, u229, u230, u231, u232, u233, u234], defers := [] } Y) :
    c36.wp Try.prog (Exit.then K1 Q1) { tmps := #[u0, u1, u2, u3, u4, u5, u6, u7, u8, u9, u10, u11, u12, u13, u14, .int .i64 (v : Int), .bool q, u17, .pointer (some ⟨xb, 0, none⟩), u19, u20, u21, u22, u23, u24, u25, u26, u27, u28, u29, u30, u31, u32, u33, u34, u35, u36, u37, u38, u39, u40, u41, u42, u43, u44, u45, u46, u47, u48, u49, u50, u51, u52, u53, u54, u55, u56, u57, u58, u59, u60, u61, u62, u63, u64, u65, u66, u67, u68, u69, u70, u71, u72, u73, u74, u75, u76, u77, u78, u79, u80, u81, u82, u83, u84, u85, u86, u87, u88, u89, u90, u91, u92, u93, u94, u95, u96, u97, u98, u99, u100, u101, u102, u103, u104, u105, u106, u107, u108, u109, u110, u111, u112, u113, u114, u115, u116, u117, u118, u119, u120, u121, u122, u123, u124, u125, u126, u127, u128, u129, u130, u131, u132, u133, u134, u135, u136, u137, u138, u139, u140, u141, u142, u143, u144, u145, u146, u147, u148, u149, u150, u151, u152, u153, u154, u155, u156, u157, u158, u159, u160, u161, u162, u163, u164, u165, u166, u167, u168, u169, u170, u171, u172, u173, u174, u175, u176, u177, u178, u179, u180, u181, u182, u183, u184, u185, u186, u187, u188, u189, u190, u191, u192, u193, u194, u195, u196, u197, u198, u199, u200, u201, u202, u203, u204, u205, u206, u207, u208, u209, u210, u211, u212, u213, u214, u215, u216, u217, u218, u219, u220, u221, u222, u223, u224, u225, u226, u227, u228, u229, u230, u231, u232, u233, u234], defers := [] } Y := by
  have HFIN := Lib.hid hfin
  have HAR := Lib.hid hargs
  have hcc36 : Try.f3.body.bind (regOf 36) = some c36 := h36
  have hcc37 : Try.f3.body.bind (regOf 37) = some c37 := h37
  have hcc38 : Try.f3.body.bind (regOf 38) = some c38 := h38
  simp only [Try.f3, regOf, Option.bind_some, Nat.reduceEqDiff, ↓reduceIte, Option.none_or, Option.or_none, Option.some.injEq] at hcc36 hcc37 hcc38
  subst hcc36
  subst hcc37
  subst hcc38
  obtain ⟨kd, d, a', b', op, nn, nm, args⟩ := x
  replace hk : kd = 4 := hk
  subst hk
  have HNO := Lib.hid hno
  clear h36 h37 h38 hfin hargs hno
  obtain rfl : args = [] := HNO.out (by show (4 : Int) ≠ 9; decide)
  have hm : decide ((v : Int) ∈ ([] : List Int)) = false := by simp
  cases q with
  | false =>
    by_cases ha : a' = (v : Int)
    · have hae : (a' == (v : Int)) = true := beq_iff_eq.2 ha
      have had : decide (a' = (v : Int)) = true := decide_eq_true ha
      have has : (v : Int) = a' := ha.symm
      have hv : true = newW ⟨4, d, a', b', op, nn, nm, []⟩ (v : Int) false := by simp [newW, usesL, setsL, hasA, hasB, ha]
      have HV9 := Lib.hid hv
      clear hv ha has
      go_wp2
      exact HFIN.out _ HV9.out _ _ _ _ _ _ _ _ _ _ _ _ _ _ _ _ _ _ _ _ _ _ _ _ _ _ _ _ _ _ _ _ _ _ _ _ _ _ _ _ _ _ _ _ _ _ _ _ _ _ _ _ _ _ _ _ _ _ _ _ _ _ _ _ _
    · have hae : (a' == (v : Int)) = false := by simp [ha]
      have had : decide (a' = (v : Int)) = false := decide_eq_false ha
      have has : ¬ (v : Int) = a' := fun h => ha h.symm
      by_cases hb : b' = (v : Int)
      · have hbe : (b' == (v : Int)) = true := beq_iff_eq.2 hb
        have hbd : decide (b' = (v : Int)) = true := decide_eq_true hb
        have hbs : (v : Int) = b' := hb.symm
        have hv : true = newW ⟨4, d, a', b', op, nn, nm, []⟩ (v : Int) false := by simp [newW, usesL, setsL, hasA, hasB, has, hb]
        have HV9 := Lib.hid hv
        clear hv ha has hb hbs
        go_wp2
        exact HFIN.out _ HV9.out _ _ _ _ _ _ _ _ _ _ _ _ _ _ _ _ _ _ _ _ _ _ _ _ _ _ _ _ _ _ _ _ _ _ _ _ _ _ _ _ _ _ _ _ _ _ _ _ _ _ _ _ _ _ _ _ _ _ _ _ _ _ _ _ _
      · have hbe : (b' == (v : Int)) = false := by simp [hb]
        have hbd : decide (b' = (v : Int)) = false := decide_eq_false hb
        have hbs : ¬ (v : Int) = b' := fun h => hb h.symm
        have hv : false = newW ⟨4, d, a', b', op, nn, nm, []⟩ (v : Int) false := by simp [newW, usesL, setsL, hasA, hasB, has, hbs]
        have HV9 := Lib.hid hv
        clear hv ha has hb hbs
        go_wp2_with (go_at_call 16; refine (has_any _ _ _ _ _ HAR.out).mono ?_; rintro e w' ⟨he, rfl⟩; rw [hm] at he; subst he)
        exact HFIN.out _ HV9.out _ _ _ _ _ _ _ _ _ _ _ _ _ _ _ _ _ _ _ _ _ _ _ _ _ _ _ _ _ _ _ _ _ _ _ _ _ _ _ _ _ _ _ _ _ _ _ _ _ _ _ _ _ _ _ _ _ _ _ _ _ _ _ _ _
  | true =>
    by_cases ha : a' = (v : Int)
    · have hae : (a' == (v : Int)) = true := beq_iff_eq.2 ha
      have had : decide (a' = (v : Int)) = true := decide_eq_true ha
      have has : (v : Int) = a' := ha.symm
      have hv : true = newW ⟨4, d, a', b', op, nn, nm, []⟩ (v : Int) true := by simp [newW, usesL, setsL, hasA, hasB, ha]
      have HV9 := Lib.hid hv
      clear hv ha has
      go_wp2
      exact HFIN.out _ HV9.out _ _ _ _ _ _ _ _ _ _ _ _ _ _ _ _ _ _ _ _ _ _ _ _ _ _ _ _ _ _ _ _ _ _ _ _ _ _ _ _ _ _ _ _ _ _ _ _ _ _ _ _ _ _ _ _ _ _ _ _ _ _ _ _ _
    · have hae : (a' == (v : Int)) = false := by simp [ha]
      have had : decide (a' = (v : Int)) = false := decide_eq_false ha
      have has : ¬ (v : Int) = a' := fun h => ha h.symm
      by_cases hb : b' = (v : Int)
      · have hbe : (b' == (v : Int)) = true := beq_iff_eq.2 hb
        have hbd : decide (b' = (v : Int)) = true := decide_eq_true hb
        have hbs : (v : Int) = b' := hb.symm
        have hv : true = newW ⟨4, d, a', b', op, nn, nm, []⟩ (v : Int) true := by simp [newW, usesL, setsL, hasA, hasB, has, hb]
        have HV9 := Lib.hid hv
        clear hv ha has hb hbs
        go_wp2
        exact HFIN.out _ HV9.out _ _ _ _ _ _ _ _ _ _ _ _ _ _ _ _ _ _ _ _ _ _ _ _ _ _ _ _ _ _ _ _ _ _ _ _ _ _ _ _ _ _ _ _ _ _ _ _ _ _ _ _ _ _ _ _ _ _ _ _ _ _ _ _ _
      · have hbe : (b' == (v : Int)) = false := by simp [hb]
        have hbd : decide (b' = (v : Int)) = false := decide_eq_false hb
        have hbs : ¬ (v : Int) = b' := fun h => hb h.symm
        by_cases hd : d = (v : Int)
        · have hde : (d == (v : Int)) = true := beq_iff_eq.2 hd
          have hdd : decide (d = (v : Int)) = true := decide_eq_true hd
          have hds : (v : Int) = d := hd.symm
          have hv : false = newW ⟨4, d, a', b', op, nn, nm, []⟩ (v : Int) true := by simp [newW, usesL, setsL, hasA, hasB, has, hbs, hd]
          have HV9 := Lib.hid hv
          clear hv ha has hb hbs hd hds
          go_wp2_with (go_at_call 16; refine (has_any _ _ _ _ _ HAR.out).mono ?_; rintro e w' ⟨he, rfl⟩; rw [hm] at he; subst he)
          exact HFIN.out _ HV9.out _ _ _ _ _ _ _ _ _ _ _ _ _ _ _ _ _ _ _ _ _ _ _ _ _ _ _ _ _ _ _ _ _ _ _ _ _ _ _ _ _ _ _ _ _ _ _ _ _ _ _ _ _ _ _ _ _ _ _ _ _ _ _ _ _
        · have hde : (d == (v : Int)) = false := by simp [hd]
          have hdd : decide (d = (v : Int)) = false := decide_eq_false hd
          have hds : ¬ (v : Int) = d := fun h => hd h.symm
          have hv : true = newW ⟨4, d, a', b', op, nn, nm, []⟩ (v : Int) true := by simp [newW, usesL, setsL, hasA, hasB, has, hbs, hds]
          have HV9 := Lib.hid hv
          clear hv ha has hb hbs hd hds
          go_wp2_with (go_at_call 16; refine (has_any _ _ _ _ _ HAR.out).mono ?_; rintro e w' ⟨he, rfl⟩; rw [hm] at he; subst he)
          exact HFIN.out _ HV9.out _ _ _ _ _ _ _ _ _ _ _ _ _ _ _ _ _ _ _ _ _ _ _ _ _ _ _ _ _ _ _ _ _ _ _ _ _ _ _ _ _ _ _ _ _ _ _ _ _ _ _ _ _ _ _ _ _ _ _ _ _ _ _ _ _
set_option maxRecDepth 100000 in
set_option maxHeartbeats 8000000 in
theorem tail5 (v : Nat) (q : Bool) (xb ca : Nat) (Aa : Option Addr) (x : LIns) (hk : x.kind = 5) (Y : World)
    (k0 : Y.cell? ⟨xb, 0, none⟩ = some (.int .i64 5)) (k1 : Y.cell? ⟨xb, 1, none⟩ = some (.int .i64 x.d)) (k2 : Y.cell? ⟨xb, 2, none⟩ = some (.int .i64 x.a)) (k3 : Y.cell? ⟨xb, 3, none⟩ = some (.int .i64 x.b)) (k7 : Y.cell? ⟨xb, 7, none⟩ = some (.slice Aa x.args.length ca))
    (hargs : SlR Y (· < Y.heap.size) 1 RInt (.slice Aa x.args.length ca) x.args) (hno : x.kind ≠ 9 → x.args = [])
    (c36 c37 c38 : Code) (K1 : Act → World → Prop) (Q1 Q2 : Exit → Act → World → Prop) (u0 u1 u2 u3 u4 u5 u6 u7 u8 u9 u10 u11 u12 u13 u14 u17 u19 u20 u21 u22 u23 u24 u25 u26 u27 u28 u29 u30 u31 u32 u33 u34 u35 u36 u37 u38 u39 u40 u41 u42 u43 u44 u45 u46 u47 u48 u49 u50 u51 u52 u53 u54 u55 u56 u57 u58 u59 u60 u61 u62 u63 u64 u65 u66 u67 u68 u69 u70 u71 u72 u73 u74 u75 u76 u77 u78 u79 u80 u81 u82 u83 u84 u85 u86 u87 u88 u89 u90 u91 u92 u93 u94 u95 u96 u97 u98 u99 u100 u101 u102 u103 u104 u105 u106 u107 u108 u109 u110 u111 u112 u113 u114 u115 u116 u117 u118 u119 u120 u121 u122 u123 u124 u125 u126 u127 u128 u129 u130 u131 u132 u133 u134 u135 u136 u137 u138 u139 u140 u141 u142 u143 u144 u145 u146 u147 u148 u149 u150 u151 u152 u153 u154 u155 u156 u157 u158 u159 u160 u161 u162 u163 u164 u165 u166 u167 u168 u169 u170 u171 u172 u173 u174 u175 u176 u177 u178 u179 u180 u181 u182 u183 u184 u185 u186 u187 u188 u189 u190 u191 u192 u193 u194 u195 u196 u197 u198 u199 u200 u201 u202 u203 u204 u205 u206 u207 u208 u209 u210 u211 u212 u213 u214 u215 u216 u217 u218 u219 u220 u221 u222 u223 u224 u225 u226 u227 u228 u229 u230 u231 u232 u233 u234 : Value) (hK1 : ∀ a w, (Code.seq c37 c38).wp Try.prog Q2 a w → K1 a w)
    (h36 : (Try.f3.body.bind (regOf 36)) = some c36) (h37 : (Try.f3.body.bind (regOf 37)) = some c37) (h38 : (Try.f3.body.bind (regOf 38)) = some c38)
    (hfin : ∀ (r : Bool), r = newW x v q → ∀ (x19 x20 x164 x165 x166 x167 x168 x169 x170 x171 x172 x173 x174 x175 x176 x177 x178 x179 x180 x181 x182 x183 x184 x185 x186 x187 x188 x189 x190 x191 x192 x193 x194 x195 x196 x197 x198 x199 x200 x201 x202 x203 x204 x205 x206 x207 x208 x209 x210 x211 x212 x213 x214 x215 x216 x217 x218 x219 x220 x221 x222 x223 x224 x225 x226 : Value), Q2 .normal { tmps := #[u0, u1, u2, u3, u4, u5, u6, u7, u8, u9, u10, u11, u12, u13, u14, .int .i64 (v : Int), .bool r, u17, .pointer (some ⟨xb, 0, none⟩), x19, x20, u21, u22, u23, u24, u25, u26, u27, u28, u29, u30, u31, u32, u33, u34, u35, u36, u37, u38, u39, u40, u41, u42, u43, u44, u45, u46, u47, u48, u49, u50, u51, u52, u53, u54, u55, u56, u57, u58, u59, u60, u61, u62, u63, u64, u65, u66, u67, u68, u69, u70, u71, u72, u73, u74, u75, u76, u77, u78, u79, u80, u81, u82, u83, u84, u85, u86, u87, u88, u89, u90, u91, u92, u93, u94, u95, u96, u97, u98, u99, u100, u101, u102, u103, u104, u105, u106, u107, u108, u109, u110, u111, u112, u113, u114, u115, u116, u117, u118, u119, u120, u121, u122, u123, u124, u125, u126, u127, u128, u129, u130, u131, u132, u133, u134, u135, u136, u137, u138, u139, u140, u141, u142, u143, u144, u145, u146, u147, u148, u149, u150, u151, u152, u153, u154, u155, u156, u157, u158, u159, u160, u161, u162, u163, x164, x165, x166, x167, x168, x169, x170, x171, x172, x173, x174, x175, x176, x177, x178, x179, x180, x181, x182, x183, x184, x185, x186, x187, x188, x189, x190, x191, x192, x193, x194, x195, x196, x197, x198, x199, x200, x201, x202, x203, x204, x205, x206, x207, x208, x209, x210, x211, x212, x213, x214, x215, x216, x217, x218, x219, x220, x221, x222, x223, x224, x225, x226, u227, u228, u229, u230, u231, u232, u233, u234], defers := [] } Y) :
    c36.wp Try.prog (Exit.then K1 Q1) { tmps := #[u0, u1, u2, u3, u4, u5, u6, u7, u8, u9, u10, u11, u12, u13, u14, .int .i64 (v : Int), .bool q, u17, .pointer (some ⟨xb, 0, none⟩), u19, u20, u21, u22, u23, u24, u25, u26, u27, u28, u29, u30, u31, u32, u33, u34, u35, u36, u37, u38, u39, u40, u41, u42, u43, u44, u45, u46, u47, u48, u49, u50, u51, u52, u53, u54, u55, u56, u57, u58, u59, u60, u61, u62, u63, u64, u65, u66, u67, u68, u69, u70, u71, u72, u73, u74, u75, u76, u77, u78, u79, u80, u81, u82, u83, u84, u85, u86, u87, u88, u89, u90, u91, u92, u93, u94, u95, u96, u97, u98, u99, u100, u101, u102, u103, u104, u105, u106, u107, u108, u109, u110, u111, u112, u113, u114, u115, u116, u117, u118, u119, u120, u121, u122, u123, u124, u125, u126, u127, u128, u129, u130, u131, u132, u133, u134, u135, u136, u137, u138, u139, u140, u141, u142, u143, u144, u145, u146, u147, u148, u149, u150, u151, u152, u153, u154, u155, u156, u157, u158, u159, u160, u161, u162, u163, u164, u165, u166, u167, u168, u169, u170, u171, u172, u173, u174, u175, u176, u177, u178, u179, u180, u181, u182, u183, u184, u185, u186, u187, u188, u189, u190, u191, u192, u193, u194, u195, u196, u197, u198, u199, u200, u201, u202, u203, u204, u205, u206, u207, u208, u209, u210, u211, u212, u213, u214, u215, u216, u217, u218, u219, u220, u221, u222, u223, u224, u225, u226, u227, u228, u229, u230, u231, u232, u233, u234], defers := [] } Y := by
  have HFIN := Lib.hid hfin
  have HAR := Lib.hid hargs
  have hcc36 : Try.f3.body.bind (regOf 36) = some c36 := h36
  have hcc37 : Try.f3.body.bind (regOf 37) = some c37 := h37
  have hcc38 : Try.f3.body.bind (regOf 38) = some c38 := h38
  simp only [Try.f3, regOf, Option.bind_some, Nat.reduceEqDiff, ↓reduceIte, Option.none_or, Option.or_none, Option.some.injEq] at hcc36 hcc37 hcc38
  subst hcc36
  subst hcc37
  subst hcc38
  obtain ⟨kd, d, a', b', op, nn, nm, args⟩ := x
  replace hk : kd = 5 := hk
  subst hk
  have HNO := Lib.hid hno
  clear h36 h37 h38 hfin hargs hno
  obtain rfl : args = [] := HNO.out (by show (5 : Int) ≠ 9; decide)
  have hm : decide ((v : Int) ∈ ([] : List Int)) = false := by simp
  cases q with
  | false =>
    by_cases ha : a' = (v : Int)
    · have hae : (a' == (v : Int)) = true := beq_iff_eq.2 ha
      have had : decide (a' = (v : Int)) = true := decide_eq_true ha
      have has : (v : Int) = a' := ha.symm
      have hv : true = newW ⟨5, d, a', b', op, nn, nm, []⟩ (v : Int) false := by simp [newW, usesL, setsL, hasA, hasB, ha]
      have HV9 := Lib.hid hv
      clear hv ha has
      go_wp2
      exact HFIN.out _ HV9.out _ _ _ _ _ _ _ _ _ _ _ _ _ _ _ _ _ _ _ _ _ _ _ _ _ _ _ _ _ _ _ _ _ _ _ _ _ _ _ _ _ _ _ _ _ _ _ _ _ _ _ _ _ _ _ _ _ _ _ _ _ _ _ _ _
    · have hae : (a' == (v : Int)) = false := by simp [ha]
      have had : decide (a' = (v : Int)) = false := decide_eq_false ha
      have has : ¬ (v : Int) = a' := fun h => ha h.symm
      have hv : false = newW ⟨5, d, a', b', op, nn, nm, []⟩ (v : Int) false := by simp [newW, usesL, setsL, hasA, hasB, has]
      have HV9 := Lib.hid hv
      clear hv ha has
      go_wp2_with (go_at_call 16; refine (has_any _ _ _ _ _ HAR.out).mono ?_; rintro e w' ⟨he, rfl⟩; rw [hm] at he; subst he)
      exact HFIN.out _ HV9.out _ _ _ _ _ _ _ _ _ _ _ _ _ _ _ _ _ _ _ _ _ _ _ _ _ _ _ _ _ _ _ _ _ _ _ _ _ _ _ _ _ _ _ _ _ _ _ _ _ _ _ _ _ _ _ _ _ _ _ _ _ _ _ _ _
  | true =>
    by_cases ha : a' = (v : Int)
    · have hae : (a' == (v : Int)) = true := beq_iff_eq.2 ha
      have had : decide (a' = (v : Int)) = true := decide_eq_true ha
      have has : (v : Int) = a' := ha.symm
      have hv : true = newW ⟨5, d, a', b', op, nn, nm, []⟩ (v : Int) true := by simp [newW, usesL, setsL, hasA, hasB, ha]
      have HV9 := Lib.hid hv
      clear hv ha has
      go_wp2
      exact HFIN.out _ HV9.out _ _ _ _ _ _ _ _ _ _ _ _ _ _ _ _ _ _ _ _ _ _ _ _ _ _ _ _ _ _ _ _ _ _ _ _ _ _ _ _ _ _ _ _ _ _ _ _ _ _ _ _ _ _ _ _ _ _ _ _ _ _ _ _ _
    · have hae : (a' == (v : Int)) = false := by simp [ha]
      have had : decide (a' = (v : Int)) = false := decide_eq_false ha
      have has : ¬ (v : Int) = a' := fun h => ha h.symm
      by_cases hd : d = (v : Int)
      · have hde : (d == (v : Int)) = true := beq_iff_eq.2 hd
        have hdd : decide (d = (v : Int)) = true := decide_eq_true hd
        have hds : (v : Int) = d := hd.symm
        have hv : false = newW ⟨5, d, a', b', op, nn, nm, []⟩ (v : Int) true := by simp [newW, usesL, setsL, hasA, hasB, has, hd]
        have HV9 := Lib.hid hv
        clear hv ha has hd hds
        go_wp2_with (go_at_call 16; refine (has_any _ _ _ _ _ HAR.out).mono ?_; rintro e w' ⟨he, rfl⟩; rw [hm] at he; subst he)
        exact HFIN.out _ HV9.out _ _ _ _ _ _ _ _ _ _ _ _ _ _ _ _ _ _ _ _ _ _ _ _ _ _ _ _ _ _ _ _ _ _ _ _ _ _ _ _ _ _ _ _ _ _ _ _ _ _ _ _ _ _ _ _ _ _ _ _ _ _ _ _ _
      · have hde : (d == (v : Int)) = false := by simp [hd]
        have hdd : decide (d = (v : Int)) = false := decide_eq_false hd
        have hds : ¬ (v : Int) = d := fun h => hd h.symm
        have hv : true = newW ⟨5, d, a', b', op, nn, nm, []⟩ (v : Int) true := by simp [newW, usesL, setsL, hasA, hasB, has, hds]
        have HV9 := Lib.hid hv
        clear hv ha has hd hds
        go_wp2_with (go_at_call 16; refine (has_any _ _ _ _ _ HAR.out).mono ?_; rintro e w' ⟨he, rfl⟩; rw [hm] at he; subst he)
        exact HFIN.out _ HV9.out _ _ _ _ _ _ _ _ _ _ _ _ _ _ _ _ _ _ _ _ _ _ _ _ _ _ _ _ _ _ _ _ _ _ _ _ _ _ _ _ _ _ _ _ _ _ _ _ _ _ _ _ _ _ _ _ _ _ _ _ _ _ _ _ _
set_option maxRecDepth 100000 in
set_option maxHeartbeats 8000000 in
theorem tail6 (v : Nat) (q : Bool) (xb ca : Nat) (Aa : Option Addr) (x : LIns) (hk : x.kind = 6) (Y : World)
    (k0 : Y.cell? ⟨xb, 0, none⟩ = some (.int .i64 6)) (k1 : Y.cell? ⟨xb, 1, none⟩ = some (.int .i64 x.d)) (k2 : Y.cell? ⟨xb, 2, none⟩ = some (.int .i64 x.a)) (k3 : Y.cell? ⟨xb, 3, none⟩ = some (.int .i64 x.b)) (k7 : Y.cell? ⟨xb, 7, none⟩ = some (.slice Aa x.args.length ca))
    (hargs : SlR Y (· < Y.heap.size) 1 RInt (.slice Aa x.args.length ca) x.args) (hno : x.kind ≠ 9 → x.args = [])
    (c36 c37 c38 : Code) (K1 : Act → World → Prop) (Q1 Q2 : Exit → Act → World → Prop) (u0 u1 u2 u3 u4 u5 u6 u7 u8 u9 u10 u11 u12 u13 u14 u17 u19 u20 u21 u22 u23 u24 u25 u26 u27 u28 u29 u30 u31 u32 u33 u34 u35 u36 u37 u38 u39 u40 u41 u42 u43 u44 u45 u46 u47 u48 u49 u50 u51 u52 u53 u54 u55 u56 u57 u58 u59 u60 u61 u62 u63 u64 u65 u66 u67 u68 u69 u70 u71 u72 u73 u74 u75 u76 u77 u78 u79 u80 u81 u82 u83 u84 u85 u86 u87 u88 u89 u90 u91 u92 u93 u94 u95 u96 u97 u98 u99 u100 u101 u102 u103 u104 u105 u106 u107 u108 u109 u110 u111 u112 u113 u114 u115 u116 u117 u118 u119 u120 u121 u122 u123 u124 u125 u126 u127 u128 u129 u130 u131 u132 u133 u134 u135 u136 u137 u138 u139 u140 u141 u142 u143 u144 u145 u146 u147 u148 u149 u150 u151 u152 u153 u154 u155 u156 u157 u158 u159 u160 u161 u162 u163 u164 u165 u166 u167 u168 u169 u170 u171 u172 u173 u174 u175 u176 u177 u178 u179 u180 u181 u182 u183 u184 u185 u186 u187 u188 u189 u190 u191 u192 u193 u194 u195 u196 u197 u198 u199 u200 u201 u202 u203 u204 u205 u206 u207 u208 u209 u210 u211 u212 u213 u214 u215 u216 u217 u218 u219 u220 u221 u222 u223 u224 u225 u226 u227 u228 u229 u230 u231 u232 u233 u234 : Value) (hK1 : ∀ a w, (Code.seq c37 c38).wp Try.prog Q2 a w → K1 a w)
    (h36 : (Try.f3.body.bind (regOf 36)) = some c36) (h37 : (Try.f3.body.bind (regOf 37)) = some c37) (h38 : (Try.f3.body.bind (regOf 38)) = some c38)
    (hfin : ∀ (r : Bool), r = newW x v q → ∀ (x19 x20 x164 x165 x166 x167 x168 x169 x170 x171 x172 x173 x174 x175 x176 x177 x178 x179 x180 x181 x182 x183 x184 x185 x186 x187 x188 x189 x190 x191 x192 x193 x194 x195 x196 x197 x198 x199 x200 x201 x202 x203 x204 x205 x206 x207 x208 x209 x210 x211 x212 x213 x214 x215 x216 x217 x218 x219 x220 x221 x222 x223 x224 x225 x226 : Value), Q2 .normal { tmps := #[u0, u1, u2, u3, u4, u5, u6, u7, u8, u9, u10, u11, u12, u13, u14, .int .i64 (v : Int), .bool r, u17, .pointer (some ⟨xb, 0, none⟩), x19, x20, u21, u22, u23, u24, u25, u26, u27, u28, u29, u30, u31, u32, u33, u34, u35, u36, u37, u38, u39, u40, u41, u42, u43, u44, u45, u46, u47, u48, u49, u50, u51, u52, u53, u54, u55, u56, u57, u58, u59, u60, u61, u62, u63, u64, u65, u66, u67, u68, u69, u70, u71, u72, u73, u74, u75, u76, u77, u78, u79, u80, u81, u82, u83, u84, u85, u86, u87, u88, u89, u90, u91, u92, u93, u94, u95, u96, u97, u98, u99, u100, u101, u102, u103, u104, u105, u106, u107, u108, u109, u110, u111, u112, u113, u114, u115, u116, u117, u118, u119, u120, u121, u122, u123, u124, u125, u126, u127, u128, u129, u130, u131, u132, u133, u134, u135, u136, u137, u138, u139, u140, u141, u142, u143, u144, u145, u146, u147, u148, u149, u150, u151, u152, u153, u154, u155, u156, u157, u158, u159, u160, u161, u162, u163, x164, x165, x166, x167, x168, x169, x170, x171, x172, x173, x174, x175, x176, x177, x178, x179, x180, x181, x182, x183, x184, x185, x186, x187, x188, x189, x190, x191, x192, x193, x194, x195, x196, x197, x198, x199, x200, x201, x202, x203, x204, x205, x206, x207, x208, x209, x210, x211, x212, x213, x214, x215, x216, x217, x218, x219, x220, x221, x222, x223, x224, x225, x226, u227, u228, u229, u230, u231, u232, u233, u234], defers := [] } Y) :
    c36.wp Try.prog (Exit.then K1 Q1) { tmps := #[u0, u1, u2, u3, u4, u5, u6, u7, u8, u9, u10, u11, u12, u13, u14, .int .i64 (v : Int), .bool q, u17, .pointer (some ⟨xb, 0, none⟩), u19, u20, u21, u22, u23, u24, u25, u26, u27, u28, u29, u30, u31, u32, u33, u34, u35, u36, u37, u38, u39, u40, u41, u42, u43, u44, u45, u46, u47, u48, u49, u50, u51, u52, u53, u54, u55, u56, u57, u58, u59, u60, u61, u62, u63, u64, u65, u66, u67, u68, u69, u70, u71, u72, u73, u74, u75, u76, u77, u78, u79, u80, u81, u82, u83, u84, u85, u86, u87, u88, u89, u90, u91, u92, u93, u94, u95, u96, u97, u98, u99, u100, u101, u102, u103, u104, u105, u106, u107, u108, u109, u110, u111, u112, u113, u114, u115, u116, u117, u118, u119, u120, u121, u122, u123, u124, u125, u126, u127, u128, u129, u130, u131, u132, u133, u134, u135, u136, u137, u138, u139, u140, u141, u142, u143, u144, u145, u146, u147, u148, u149, u150, u151, u152, u153, u154, u155, u156, u157, u158, u159, u160, u161, u162, u163, u164, u165, u166, u167, u168, u169, u170, u171, u172, u173, u174, u175, u176, u177, u178, u179, u180, u181, u182, u183, u184, u185, u186, u187, u188, u189, u190, u191, u192, u193, u194, u195, u196, u197, u198, u199, u200, u201, u202, u203, u204, u205, u206, u207, u208, u209, u210, u211, u212, u213, u214, u215, u216, u217, u218, u219, u220, u221, u222, u223, u224, u225, u226, u227, u228, u229, u230, u231, u232, u233, u234], defers := [] } Y := by
  have HFIN := Lib.hid hfin
  have HAR := Lib.hid hargs
  have hcc36 : Try.f3.body.bind (regOf 36) = some c36 := h36
  have hcc37 : Try.f3.body.bind (regOf 37) = some c37 := h37
  have hcc38 : Try.f3.body.bind (regOf 38) = some c38 := h38
  simp only [Try.f3, regOf, Option.bind_some, Nat.reduceEqDiff, ↓reduceIte, Option.none_or, Option.or_none, Option.some.injEq] at hcc36 hcc37 hcc38
  subst hcc36
  subst hcc37
  subst hcc38
  obtain ⟨kd, d, a', b', op, nn, nm, args⟩ := x
  replace hk : kd = 6 := hk
  subst hk
  have HNO := Lib.hid hno
  clear h36 h37 h38 hfin hargs hno
  obtain rfl : args = [] := HNO.out (by show (6 : Int) ≠ 9; decide)
  have hm : decide ((v : Int) ∈ ([] : List Int)) = false := by simp
  cases q with
  | false =>
    by_cases ha : a' = (v : Int)
    · have hae : (a' == (v : Int)) = true := beq_iff_eq.2 ha
      have had : decide (a' = (v : Int)) = true := decide_eq_true ha
      have has : (v : Int) = a' := ha.symm
      have hv : true = newW ⟨6, d, a', b', op, nn, nm, []⟩ (v : Int) false := by simp [newW, usesL, setsL, hasA, hasB, ha]
      have HV9 := Lib.hid hv
      clear hv ha has
      go_wp2
      exact HFIN.out _ HV9.out _ _ _ _ _ _ _ _ _ _ _ _ _ _ _ _ _ _ _ _ _ _ _ _ _ _ _ _ _ _ _ _ _ _ _ _ _ _ _ _ _ _ _ _ _ _ _ _ _ _ _ _ _ _ _ _ _ _ _ _ _ _ _ _ _
    · have hae : (a' == (v : Int)) = false := by simp [ha]
      have had : decide (a' = (v : Int)) = false := decide_eq_false ha
      have has : ¬ (v : Int) = a' := fun h => ha h.symm
      by_cases hb : b' = (v : Int)
      · have hbe : (b' == (v : Int)) = true := beq_iff_eq.2 hb
        have hbd : decide (b' = (v : Int)) = true := decide_eq_true hb
        have hbs : (v : Int) = b' := hb.symm
        have hv : true = newW ⟨6, d, a', b', op, nn, nm, []⟩ (v : Int) false := by simp [newW, usesL, setsL, hasA, hasB, has, hb]
        have HV9 := Lib.hid hv
        clear hv ha has hb hbs
        go_wp2
        exact HFIN.out _ HV9.out _ _ _ _ _ _ _ _ _ _ _ _ _ _ _ _ _ _ _ _ _ _ _ _ _ _ _ _ _ _ _ _ _ _ _ _ _ _ _ _ _ _ _ _ _ _ _ _ _ _ _ _ _ _ _ _ _ _ _ _ _ _ _ _ _
      · have hbe : (b' == (v : Int)) = false := by simp [hb]
        have hbd : decide (b' = (v : Int)) = false := decide_eq_false hb
        have hbs : ¬ (v : Int) = b' := fun h => hb h.symm
        have hv : false = newW ⟨6, d, a', b', op, nn, nm, []⟩ (v : Int) false := by simp [newW, usesL, setsL, hasA, hasB, has, hbs]
        have HV9 := Lib.hid hv
        clear hv ha has hb hbs
        go_wp2_with (go_at_call 16; refine (has_any _ _ _ _ _ HAR.out).mono ?_; rintro e w' ⟨he, rfl⟩; rw [hm] at he; subst he)
        exact HFIN.out _ HV9.out _ _ _ _ _ _ _ _ _ _ _ _ _ _ _ _ _ _ _ _ _ _ _ _ _ _ _ _ _ _ _ _ _ _ _ _ _ _ _ _ _ _ _ _ _ _ _ _ _ _ _ _ _ _ _ _ _ _ _ _ _ _ _ _ _
  | true =>
    by_cases ha : a' = (v : Int)
    · have hae : (a' == (v : Int)) = true := beq_iff_eq.2 ha
      have had : decide (a' = (v : Int)) = true := decide_eq_true ha
      have has : (v : Int) = a' := ha.symm
      have hv : true = newW ⟨6, d, a', b', op, nn, nm, []⟩ (v : Int) true := by simp [newW, usesL, setsL, hasA, hasB, ha]
      have HV9 := Lib.hid hv
      clear hv ha has
      go_wp2
      exact HFIN.out _ HV9.out _ _ _ _ _ _ _ _ _ _ _ _ _ _ _ _ _ _ _ _ _ _ _ _ _ _ _ _ _ _ _ _ _ _ _ _ _ _ _ _ _ _ _ _ _ _ _ _ _ _ _ _ _ _ _ _ _ _ _ _ _ _ _ _ _
    · have hae : (a' == (v : Int)) = false := by simp [ha]
      have had : decide (a' = (v : Int)) = false := decide_eq_false ha
      have has : ¬ (v : Int) = a' := fun h => ha h.symm
      by_cases hb : b' = (v : Int)
      · have hbe : (b' == (v : Int)) = true := beq_iff_eq.2 hb
        have hbd : decide (b' = (v : Int)) = true := decide_eq_true hb
        have hbs : (v : Int) = b' := hb.symm
        have hv : true = newW ⟨6, d, a', b', op, nn, nm, []⟩ (v : Int) true := by simp [newW, usesL, setsL, hasA, hasB, has, hb]
        have HV9 := Lib.hid hv
        clear hv ha has hb hbs
        go_wp2
        exact HFIN.out _ HV9.out _ _ _ _ _ _ _ _ _ _ _ _ _ _ _ _ _ _ _ _ _ _ _ _ _ _ _ _ _ _ _ _ _ _ _ _ _ _ _ _ _ _ _ _ _ _ _ _ _ _ _ _ _ _ _ _ _ _ _ _ _ _ _ _ _
      · have hbe : (b' == (v : Int)) = false := by simp [hb]
        have hbd : decide (b' = (v : Int)) = false := decide_eq_false hb
        have hbs : ¬ (v : Int) = b' := fun h => hb h.symm
        have hv : true = newW ⟨6, d, a', b', op, nn, nm, []⟩ (v : Int) true := by simp [newW, usesL, setsL, hasA, hasB, has, hbs]
        have HV9 := Lib.hid hv
        clear hv ha has hb hbs
        go_wp2_with (go_at_call 16; refine (has_any _ _ _ _ _ HAR.out).mono ?_; rintro e w' ⟨he, rfl⟩; rw [hm] at he; subst he)
        exact HFIN.out _ HV9.out _ _ _ _ _ _ _ _ _ _ _ _ _ _ _ _ _ _ _ _ _ _ _ _ _ _ _ _ _ _ _ _ _ _ _ _ _ _ _ _ _ _ _ _ _ _ _ _ _ _ _ _ _ _ _ _ _ _ _ _ _ _ _ _ _
set_option maxRecDepth 100000 in
set_option maxHeartbeats 8000000 in
theorem tail7 (v : Nat) (q : Bool) (xb ca : Nat) (Aa : Option Addr) (x : LIns) (hk : x.kind = 7) (Y : World)
    (k0 : Y.cell? ⟨xb, 0, none⟩ = some (.int .i64 7)) (k1 : Y.cell? ⟨xb, 1, none⟩ = some (.int .i64 x.d)) (k2 : Y.cell? ⟨xb, 2, none⟩ = some (.int .i64 x.a)) (k3 : Y.cell? ⟨xb, 3, none⟩ = some (.int .i64 x.b)) (k7 : Y.cell? ⟨xb, 7, none⟩ = some (.slice Aa x.args.length ca))
    (hargs : SlR Y (· < Y.heap.size) 1 RInt (.slice Aa x.args.length ca) x.args) (hno : x.kind ≠ 9 → x.args = [])
    (c36 c37 c38 : Code) (K1 : Act → World → Prop) (Q1 Q2 : Exit → Act → World → Prop) (u0 u1 u2 u3 u4 u5 u6 u7 u8 u9 u10 u11 u12 u13 u14 u17 u19 u20 u21 u22 u23 u24 u25 u26 u27 u28 u29 u30 u31 u32 u33 u34 u35 u36 u37 u38 u39 u40 u41 u42 u43 u44 u45 u46 u47 u48 u49 u50 u51 u52 u53 u54 u55 u56 u57 u58 u59 u60 u61 u62 u63 u64 u65 u66 u67 u68 u69 u70 u71 u72 u73 u74 u75 u76 u77 u78 u79 u80 u81 u82 u83 u84 u85 u86 u87 u88 u89 u90 u91 u92 u93 u94 u95 u96 u97 u98 u99 u100 u101 u102 u103 u104 u105 u106 u107 u108 u109 u110 u111 u112 u113 u114 u115 u116 u117 u118 u119 u120 u121 u122 u123 u124 u125 u126 u127 u128 u129 u130 u131 u132 u133 u134 u135 u136 u137 u138 u139 u140 u141 u142 u143 u144 u145 u146 u147 u148 u149 u150 u151 u152 u153 u154 u155 u156 u157 u158 u159 u160 u161 u162 u163 u164 u165 u166 u167 u168 u169 u170 u171 u172 u173 u174 u175 u176 u177 u178 u179 u180 u181 u182 u183 u184 u185 u186 u187 u188 u189 u190 u191 u192 u193 u194 u195 u196 u197 u198 u199 u200 u201 u202 u203 u204 u205 u206 u207 u208 u209 u210 u211 u212 u213 u214 u215 u216 u217 u218 u219 u220 u221 u222 u223 u224 u225 u226 u227 u228 u229 u230 u231 u232 u233 u234 : Value) (hK1 : ∀ a w, (Code.seq c37 c38).wp Try.prog Q2 a w → K1 a w)
    (h36 : (Try.f3.body.bind (regOf 36)) = some c36) (h37 : (Try.f3.body.bind (regOf 37)) = some c37) (h38 : (Try.f3.body.bind (regOf 38)) = some c38)
    (hfin : ∀ (r : Bool), r = newW x v q → ∀ (x19 x20 x164 x165 x166 x167 x168 x169 x170 x171 x172 x173 x174 x175 x176 x177 x178 x179 x180 x181 x182 x183 x184 x185 x186 x187 x188 x189 x190 x191 x192 x193 x194 x195 x196 x197 x198 x199 x200 x201 x202 x203 x204 x205 x206 x207 x208 x209 x210 x211 x212 x213 x214 x215 x216 x217 x218 x219 x220 x221 x222 x223 x224 x225 x226 : Value), Q2 .normal { tmps := #[u0, u1, u2, u3, u4, u5, u6, u7, u8, u9, u10, u11, u12, u13, u14, .int .i64 (v : Int), .bool r, u17, .pointer (some ⟨xb, 0, none⟩), x19, x20, u21, u22, u23, u24, u25, u26, u27, u28, u29, u30, u31, u32, u33, u34, u35, u36, u37, u38, u39, u40, u41, u42, u43, u44, u45, u46, u47, u48, u49, u50, u51, u52, u53, u54, u55, u56, u57, u58, u59, u60, u61, u62, u63, u64, u65, u66, u67, u68, u69, u70, u71, u72, u73, u74, u75, u76, u77, u78, u79, u80, u81, u82, u83, u84, u85, u86, u87, u88, u89, u90, u91, u92, u93, u94, u95, u96, u97, u98, u99, u100, u101, u102, u103, u104, u105, u106, u107, u108, u109, u110, u111, u112, u113, u114, u115, u116, u117, u118, u119, u120, u121, u122, u123, u124, u125, u126, u127, u128, u129, u130, u131, u132, u133, u134, u135, u136, u137, u138, u139, u140, u141, u142, u143, u144, u145, u146, u147, u148, u149, u150, u151, u152, u153, u154, u155, u156, u157, u158, u159, u160, u161, u162, u163, x164, x165, x166, x167, x168, x169, x170, x171, x172, x173, x174, x175, x176, x177, x178, x179, x180, x181, x182, x183, x184, x185, x186, x187, x188, x189, x190, x191, x192, x193, x194, x195, x196, x197, x198, x199, x200, x201, x202, x203, x204, x205, x206, x207, x208, x209, x210, x211, x212, x213, x214, x215, x216, x217, x218, x219, x220, x221, x222, x223, x224, x225, x226, u227, u228, u229, u230, u231, u232, u233, u234], defers := [] } Y) :
    c36.wp Try.prog (Exit.then K1 Q1) { tmps := #[u0, u1, u2, u3, u4, u5, u6, u7, u8, u9, u10, u11, u12, u13, u14, .int .i64 (v : Int), .bool q, u17, .pointer (some ⟨xb, 0, none⟩), u19, u20, u21, u22, u23, u24, u25, u26, u27, u28, u29, u30, u31, u32, u33, u34, u35, u36, u37, u38, u39, u40, u41, u42, u43, u44, u45, u46, u47, u48, u49, u50, u51, u52, u53, u54, u55, u56, u57, u58, u59, u60, u61, u62, u63, u64, u65, u66, u67, u68, u69, u70, u71, u72, u73, u74, u75, u76, u77, u78, u79, u80, u81, u82, u83, u84, u85, u86, u87, u88, u89, u90, u91, u92, u93, u94, u95, u96, u97, u98, u99, u100, u101, u102, u103, u104, u105, u106, u107, u108, u109, u110, u111, u112, u113, u114, u115, u116, u117, u118, u119, u120, u121, u122, u123, u124, u125, u126, u127, u128, u129, u130, u131, u132, u133, u134, u135, u136, u137, u138, u139, u140, u141, u142, u143, u144, u145, u146, u147, u148, u149, u150, u151, u152, u153, u154, u155, u156, u157, u158, u159, u160, u161, u162, u163, u164, u165, u166, u167, u168, u169, u170, u171, u172, u173, u174, u175, u176, u177, u178, u179, u180, u181, u182, u183, u184, u185, u186, u187, u188, u189, u190, u191, u192, u193, u194, u195, u196, u197, u198, u199, u200, u201, u202, u203, u204, u205, u206, u207, u208, u209, u210, u211, u212, u213, u214, u215, u216, u217, u218, u219, u220, u221, u222, u223, u224, u225, u226, u227, u228, u229, u230, u231, u232, u233, u234], defers := [] } Y := by
  have HFIN := Lib.hid hfin
  have HAR := Lib.hid hargs
  have hcc36 : Try.f3.body.bind (regOf 36) = some c36 := h36
  have hcc37 : Try.f3.body.bind (regOf 37) = some c37 := h37
  have hcc38 : Try.f3.body.bind (regOf 38) = some c38 := h38
  simp only [Try.f3, regOf, Option.bind_some, Nat.reduceEqDiff, ↓reduceIte, Option.none_or, Option.or_none, Option.some.injEq] at hcc36 hcc37 hcc38
  subst hcc36
  subst hcc37
  subst hcc38
  obtain ⟨kd, d, a', b', op, nn, nm, args⟩ := x
  replace hk : kd = 7 := hk
  subst hk
  have HNO := Lib.hid hno
  clear h36 h37 h38 hfin hargs hno
  obtain rfl : args = [] := HNO.out (by show (7 : Int) ≠ 9; decide)
  have hm : decide ((v : Int) ∈ ([] : List Int)) = false := by simp
  cases q with
  | false =>
    have hv : false = newW ⟨7, d, a', b', op, nn, nm, []⟩ (v : Int) false := by simp [newW, usesL, setsL, hasA, hasB]
    have HV9 := Lib.hid hv
    clear hv 
    go_wp2_with (go_at_call 16; refine (has_any _ _ _ _ _ HAR.out).mono ?_; rintro e w' ⟨he, rfl⟩; rw [hm] at he; subst he)
    exact HFIN.out _ HV9.out _ _ _ _ _ _ _ _ _ _ _ _ _ _ _ _ _ _ _ _ _ _ _ _ _ _ _ _ _ _ _ _ _ _ _ _ _ _ _ _ _ _ _ _ _ _ _ _ _ _ _ _ _ _ _ _ _ _ _ _ _ _ _ _ _
  | true =>
    by_cases hd : d = (v : Int)
    · have hde : (d == (v : Int)) = true := beq_iff_eq.2 hd
      have hdd : decide (d = (v : Int)) = true := decide_eq_true hd
      have hds : (v : Int) = d := hd.symm
      have hv : false = newW ⟨7, d, a', b', op, nn, nm, []⟩ (v : Int) true := by simp [newW, usesL, setsL, hasA, hasB, hd]
      have HV9 := Lib.hid hv
      clear hv hd hds
      go_wp2_with (go_at_call 16; refine (has_any _ _ _ _ _ HAR.out).mono ?_; rintro e w' ⟨he, rfl⟩; rw [hm] at he; subst he)
      exact HFIN.out _ HV9.out _ _ _ _ _ _ _ _ _ _ _ _ _ _ _ _ _ _ _ _ _ _ _ _ _ _ _ _ _ _ _ _ _ _ _ _ _ _ _ _ _ _ _ _ _ _ _ _ _ _ _ _ _ _ _ _ _ _ _ _ _ _ _ _ _
    · have hde : (d == (v : Int)) = false := by simp [hd]
      have hdd : decide (d = (v : Int)) = false := decide_eq_false hd
      have hds : ¬ (v : Int) = d := fun h => hd h.symm
      have hv : true = newW ⟨7, d, a', b', op, nn, nm, []⟩ (v : Int) true := by simp [newW, usesL, setsL, hasA, hasB, hds]
      have HV9 := Lib.hid hv
      clear hv hd hds
      go_wp2_with (go_at_call 16; refine (has_any _ _ _ _ _ HAR.out).mono ?_; rintro e w' ⟨he, rfl⟩; rw [hm] at he; subst he)
      exact HFIN.out _ HV9.out _ _ _ _ _ _ _ _ _ _ _ _ _ _ _ _ _ _ _ _ _ _ _ _ _ _ _ _ _ _ _ _ _ _ _ _ _ _ _ _ _ _ _ _ _ _ _ _ _ _ _ _ _ _ _ _ _ _ _ _ _ _ _ _ _
set_option maxRecDepth 100000 in
set_option maxHeartbeats 8000000 in
theorem tail8 (v : Nat) (q : Bool) (xb ca : Nat) (Aa : Option Addr) (x : LIns) (hk : x.kind = 8) (Y : World)
    (k0 : Y.cell? ⟨xb, 0, none⟩ = some (.int .i64 8)) (k1 : Y.cell? ⟨xb, 1, none⟩ = some (.int .i64 x.d)) (k2 : Y.cell? ⟨xb, 2, none⟩ = some (.int .i64 x.a)) (k3 : Y.cell? ⟨xb, 3, none⟩ = some (.int .i64 x.b)) (k7 : Y.cell? ⟨xb, 7, none⟩ = some (.slice Aa x.args.length ca))
    (hargs : SlR Y (· < Y.heap.size) 1 RInt (.slice Aa x.args.length ca) x.args) (hno : x.kind ≠ 9 → x.args = [])
    (c36 c37 c38 : Code) (K1 : Act → World → Prop) (Q1 Q2 : Exit → Act → World → Prop) (u0 u1 u2 u3 u4 u5 u6 u7 u8 u9 u10 u11 u12 u13 u14 u17 u19 u20 u21 u22 u23 u24 u25 u26 u27 u28 u29 u30 u31 u32 u33 u34 u35 u36 u37 u38 u39 u40 u41 u42 u43 u44 u45 u46 u47 u48 u49 u50 u51 u52 u53 u54 u55 u56 u57 u58 u59 u60 u61 u62 u63 u64 u65 u66 u67 u68 u69 u70 u71 u72 u73 u74 u75 u76 u77 u78 u79 u80 u81 u82 u83 u84 u85 u86 u87 u88 u89 u90 u91 u92 u93 u94 u95 u96 u97 u98 u99 u100 u101 u102 u103 u104 u105 u106 u107 u108 u109 u110 u111 u112 u113 u114 u115 u116 u117 u118 u119 u120 u121 u122 u123 u124 u125 u126 u127 u128 u129 u130 u131 u132 u133 u134 u135 u136 u137 u138 u139 u140 u141 u142 u143 u144 u145 u146 u147 u148 u149 u150 u151 u152 u153 u154 u155 u156 u157 u158 u159 u160 u161 u162 u163 u164 u165 u166 u167 u168 u169 u170 u171 u172 u173 u174 u175 u176 u177 u178 u179 u180 u181 u182 u183 u184 u185 u186 u187 u188 u189 u190 u191 u192 u193 u194 u195 u196 u197 u198 u199 u200 u201 u202 u203 u204 u205 u206 u207 u208 u209 u210 u211 u212 u213 u214 u215 u216 u217 u218 u219 u220 u221 u222 u223 u224 u225 u226 u227 u228 u229 u230 u231 u232 u233 u234 : Value) (hK1 : ∀ a w, (Code.seq c37 c38).wp Try.prog Q2 a w → K1 a w)
    (h36 : (Try.f3.body.bind (regOf 36)) = some c36) (h37 : (Try.f3.body.bind (regOf 37)) = some c37) (h38 : (Try.f3.body.bind (regOf 38)) = some c38)
    (hfin : ∀ (r : Bool), r = newW x v q → ∀ (x19 x20 x164 x165 x166 x167 x168 x169 x170 x171 x172 x173 x174 x175 x176 x177 x178 x179 x180 x181 x182 x183 x184 x185 x186 x187 x188 x189 x190 x191 x192 x193 x194 x195 x196 x197 x198 x199 x200 x201 x202 x203 x204 x205 x206 x207 x208 x209 x210 x211 x212 x213 x214 x215 x216 x217 x218 x219 x220 x221 x222 x223 x224 x225 x226 : Value), Q2 .normal { tmps := #[u0, u1, u2, u3, u4, u5, u6, u7, u8, u9, u10, u11, u12, u13, u14, .int .i64 (v : Int), .bool r, u17, .pointer (some ⟨xb, 0, none⟩), x19, x20, u21, u22, u23, u24, u25, u26, u27, u28, u29, u30, u31, u32, u33, u34, u35, u36, u37, u38, u39, u40, u41, u42, u43, u44, u45, u46, u47, u48, u49, u50, u51, u52, u53, u54, u55, u56, u57, u58, u59, u60, u61, u62, u63, u64, u65, u66, u67, u68, u69, u70, u71, u72, u73, u74, u75, u76, u77, u78, u79, u80, u81, u82, u83, u84, u85, u86, u87, u88, u89, u90, u91, u92, u93, u94, u95, u96, u97, u98, u99, u100, u101, u102, u103, u104, u105, u106, u107, u108, u109, u110, u111, u112, u113, u114, u115, u116, u117, u118, u119, u120, u121, u122, u123, u124, u125, u126, u127, u128, u129, u130, u131, u132, u133, u134, u135, u136, u137, u138, u139, u140, u141, u142, u143, u144, u145, u146, u147, u148, u149, u150, u151, u152, u153, u154, u155, u156, u157, u158, u159, u160, u161, u162, u163, x164, x165, x166, x167, x168, x169, x170, x171, x172, x173, x174, x175, x176, x177, x178, x179, x180, x181, x182, x183, x184, x185, x186, x187, x188, x189, x190, x191, x192, x193, x194, x195, x196, x197, x198, x199, x200, x201, x202, x203, x204, x205, x206, x207, x208, x209, x210, x211, x212, x213, x214, x215, x216, x217, x218, x219, x220, x221, x222, x223, x224, x225, x226, u227, u228, u229, u230, u231, u232, u233, u234], defers := [] } Y) :
    c36.wp Try.prog (Exit.then K1 Q1) { tmps := #[u0, u1, u2, u3, u4, u5, u6, u7, u8, u9, u10, u11, u12, u13, u14, .int .i64 (v : Int), .bool q, u17, .pointer (some ⟨xb, 0, none⟩), u19, u20, u21, u22, u23, u24, u25, u26, u27, u28, u29, u30, u31, u32, u33, u34, u35, u36, u37, u38, u39, u40, u41, u42, u43, u44, u45, u46, u47, u48, u49, u50, u51, u52, u53, u54, u55, u56, u57, u58, u59, u60, u61, u62, u63, u64, u65, u66, u67, u68, u69, u70, u71, u72, u73, u74, u75, u76, u77, u78, u79, u80, u81, u82, u83, u84, u85, u86, u87, u88, u89, u90, u91, u92, u93, u94, u95, u96, u97, u98, u99, u100, u101, u102, u103, u104, u105, u106, u107, u108, u109, u110, u111, u112, u113, u114, u115, u116, u117, u118, u119, u120, u121, u122, u123, u124, u125, u126, u127, u128, u129, u130, u131, u132, u133, u134, u135, u136, u137, u138, u139, u140, u141, u142, u143, u144, u145, u146, u147, u148, u149, u150, u151, u152, u153, u154, u155, u156, u157, u158, u159, u160, u161, u162, u163, u164, u165, u166, u167, u168, u169, u170, u171, u172, u173, u174, u175, u176, u177, u178, u179, u180, u181, u182, u183, u184, u185, u186, u187, u188, u189, u190, u191, u192, u193, u194, u195, u196, u197, u198, u199, u200, u201, u202, u203, u204, u205, u206, u207, u208, u209, u210, u211, u212, u213, u214, u215, u216, u217, u218, u219, u220, u221, u222, u223, u224, u225, u226, u227, u228, u229, u230, u231, u232, u233, u234], defers := [] } Y := by
  have HFIN := Lib.hid hfin
  have HAR := Lib.hid hargs
  have hcc36 : Try.f3.body.bind (regOf 36) = some c36 := h36
  have hcc37 : Try.f3.body.bind (regOf 37) = some c37 := h37
  have hcc38 : Try.f3.body.bind (regOf 38) = some c38 := h38
  simp only [Try.f3, regOf, Option.bind_some, Nat.reduceEqDiff, ↓reduceIte, Option.none_or, Option.or_none, Option.some.injEq] at hcc36 hcc37 hcc38
  subst hcc36
  subst hcc37
  subst hcc38
  obtain ⟨kd, d, a', b', op, nn, nm, args⟩ := x
  replace hk : kd = 8 := hk
  subst hk
  have HNO := Lib.hid hno
  clear h36 h37 h38 hfin hargs hno
  obtain rfl : args = [] := HNO.out (by show (8 : Int) ≠ 9; decide)
  have hm : decide ((v : Int) ∈ ([] : List Int)) = false := by simp
  cases q with
  | false =>
    by_cases ha : a' = (v : Int)
    · have hae : (a' == (v : Int)) = true := beq_iff_eq.2 ha
      have had : decide (a' = (v : Int)) = true := decide_eq_true ha
      have has : (v : Int) = a' := ha.symm
      have hv : true = newW ⟨8, d, a', b', op, nn, nm, []⟩ (v : Int) false := by simp [newW, usesL, setsL, hasA, hasB, ha]
      have HV9 := Lib.hid hv
      clear hv ha has
      go_wp2
      exact HFIN.out _ HV9.out _ _ _ _ _ _ _ _ _ _ _ _ _ _ _ _ _ _ _ _ _ _ _ _ _ _ _ _ _ _ _ _ _ _ _ _ _ _ _ _ _ _ _ _ _ _ _ _ _ _ _ _ _ _ _ _ _ _ _ _ _ _ _ _ _
    · have hae : (a' == (v : Int)) = false := by simp [ha]
      have had : decide (a' = (v : Int)) = false := decide_eq_false ha
      have has : ¬ (v : Int) = a' := fun h => ha h.symm
      have hv : false = newW ⟨8, d, a', b', op, nn, nm, []⟩ (v : Int) false := by simp [newW, usesL, setsL, hasA, hasB, has]
      have HV9 := Lib.hid hv
      clear hv ha has
      go_wp2_with (go_at_call 16; refine (has_any _ _ _ _ _ HAR.out).mono ?_; rintro e w' ⟨he, rfl⟩; rw [hm] at he; subst he)
      exact HFIN.out _ HV9.out _ _ _ _ _ _ _ _ _ _ _ _ _ _ _ _ _ _ _ _ _ _ _ _ _ _ _ _ _ _ _ _ _ _ _ _ _ _ _ _ _ _ _ _ _ _ _ _ _ _ _ _ _ _ _ _ _ _ _ _ _ _ _ _ _
  | true =>
    by_cases ha : a' = (v : Int)
    · have hae : (a' == (v : Int)) = true := beq_iff_eq.2 ha
      have had : decide (a' = (v : Int)) = true := decide_eq_true ha
      have has : (v : Int) = a' := ha.symm
      have hv : true = newW ⟨8, d, a', b', op, nn, nm, []⟩ (v : Int) true := by simp [newW, usesL, setsL, hasA, hasB, ha]
      have HV9 := Lib.hid hv
      clear hv ha has
      go_wp2
      exact HFIN.out _ HV9.out _ _ _ _ _ _ _ _ _ _ _ _ _ _ _ _ _ _ _ _ _ _ _ _ _ _ _ _ _ _ _ _ _ _ _ _ _ _ _ _ _ _ _ _ _ _ _ _ _ _ _ _ _ _ _ _ _ _ _ _ _ _ _ _ _
    · have hae : (a' == (v : Int)) = false := by simp [ha]
      have had : decide (a' = (v : Int)) = false := decide_eq_false ha
      have has : ¬ (v : Int) = a' := fun h => ha h.symm
      have hv : true = newW ⟨8, d, a', b', op, nn, nm, []⟩ (v : Int) true := by simp [newW, usesL, setsL, hasA, hasB, has]
      have HV9 := Lib.hid hv
      clear hv ha has
      go_wp2_with (go_at_call 16; refine (has_any _ _ _ _ _ HAR.out).mono ?_; rintro e w' ⟨he, rfl⟩; rw [hm] at he; subst he)
      exact HFIN.out _ HV9.out _ _ _ _ _ _ _ _ _ _ _ _ _ _ _ _ _ _ _ _ _ _ _ _ _ _ _ _ _ _ _ _ _ _ _ _ _ _ _ _ _ _ _ _ _ _ _ _ _ _ _ _ _ _ _ _ _ _ _ _ _ _ _ _ _
set_option maxRecDepth 100000 in
set_option maxHeartbeats 8000000 in
theorem tail9 (v : Nat) (q : Bool) (xb ca : Nat) (Aa : Option Addr) (x : LIns) (hk : x.kind = 9) (Y : World)
    (k0 : Y.cell? ⟨xb, 0, none⟩ = some (.int .i64 9)) (k1 : Y.cell? ⟨xb, 1, none⟩ = some (.int .i64 x.d)) (k2 : Y.cell? ⟨xb, 2, none⟩ = some (.int .i64 x.a)) (k3 : Y.cell? ⟨xb, 3, none⟩ = some (.int .i64 x.b)) (k7 : Y.cell? ⟨xb, 7, none⟩ = some (.slice Aa x.args.length ca))
    (hargs : SlR Y (· < Y.heap.size) 1 RInt (.slice Aa x.args.length ca) x.args) (hno : x.kind ≠ 9 → x.args = [])
    (c36 c37 c38 : Code) (K1 : Act → World → Prop) (Q1 Q2 : Exit → Act → World → Prop) (u0 u1 u2 u3 u4 u5 u6 u7 u8 u9 u10 u11 u12 u13 u14 u17 u19 u20 u21 u22 u23 u24 u25 u26 u27 u28 u29 u30 u31 u32 u33 u34 u35 u36 u37 u38 u39 u40 u41 u42 u43 u44 u45 u46 u47 u48 u49 u50 u51 u52 u53 u54 u55 u56 u57 u58 u59 u60 u61 u62 u63 u64 u65 u66 u67 u68 u69 u70 u71 u72 u73 u74 u75 u76 u77 u78 u79 u80 u81 u82 u83 u84 u85 u86 u87 u88 u89 u90 u91 u92 u93 u94 u95 u96 u97 u98 u99 u100 u101 u102 u103 u104 u105 u106 u107 u108 u109 u110 u111 u112 u113 u114 u115 u116 u117 u118 u119 u120 u121 u122 u123 u124 u125 u126 u127 u128 u129 u130 u131 u132 u133 u134 u135 u136 u137 u138 u139 u140 u141 u142 u143 u144 u145 u146 u147 u148 u149 u150 u151 u152 u153 u154 u155 u156 u157 u158 u159 u160 u161 u162 u163 u164 u165 u166 u167 u168 u169 u170 u171 u172 u173 u174 u175 u176 u177 u178 u179 u180 u181 u182 u183 u184 u185 u186 u187 u188 u189 u190 u191 u192 u193 u194 u195 u196 u197 u198 u199 u200 u201 u202 u203 u204 u205 u206 u207 u208 u209 u210 u211 u212 u213 u214 u215 u216 u217 u218 u219 u220 u221 u222 u223 u224 u225 u226 u227 u228 u229 u230 u231 u232 u233 u234 : Value) (hK1 : ∀ a w, (Code.seq c37 c38).wp Try.prog Q2 a w → K1 a w)
    (h36 : (Try.f3.body.bind (regOf 36)) = some c36) (h37 : (Try.f3.body.bind (regOf 37)) = some c37) (h38 : (Try.f3.body.bind (regOf 38)) = some c38)
    (hfin : ∀ (r : Bool), r = newW x v q → ∀ (x19 x20 x164 x165 x166 x167 x168 x169 x170 x171 x172 x173 x174 x175 x176 x177 x178 x179 x180 x181 x182 x183 x184 x185 x186 x187 x188 x189 x190 x191 x192 x193 x194 x195 x196 x197 x198 x199 x200 x201 x202 x203 x204 x205 x206 x207 x208 x209 x210 x211 x212 x213 x214 x215 x216 x217 x218 x219 x220 x221 x222 x223 x224 x225 x226 : Value), Q2 .normal { tmps := #[u0, u1, u2, u3, u4, u5, u6, u7, u8, u9, u10, u11, u12, u13, u14, .int .i64 (v : Int), .bool r, u17, .pointer (some ⟨xb, 0, none⟩), x19, x20, u21, u22, u23, u24, u25, u26, u27, u28, u29, u30, u31, u32, u33, u34, u35, u36, u37, u38, u39, u40, u41, u42, u43, u44, u45, u46, u47, u48, u49, u50, u51, u52, u53, u54, u55, u56, u57, u58, u59, u60, u61, u62, u63, u64, u65, u66, u67, u68, u69, u70, u71, u72, u73, u74, u75, u76, u77, u78, u79, u80, u81, u82, u83, u84, u85, u86, u87, u88, u89, u90, u91, u92, u93, u94, u95, u96, u97, u98, u99, u100, u101, u102, u103, u104, u105, u106, u107, u108, u109, u110, u111, u112, u113, u114, u115, u116, u117, u118, u119, u120, u121, u122, u123, u124, u125, u126, u127, u128, u129, u130, u131, u132, u133, u134, u135, u136, u137, u138, u139, u140, u141, u142, u143, u144, u145, u146, u147, u148, u149, u150, u151, u152, u153, u154, u155, u156, u157, u158, u159, u160, u161, u162, u163, x164, x165, x166, x167, x168, x169, x170, x171, x172, x173, x174, x175, x176, x177, x178, x179, x180, x181, x182, x183, x184, x185, x186, x187, x188, x189, x190, x191, x192, x193, x194, x195, x196, x197, x198, x199, x200, x201, x202, x203, x204, x205, x206, x207, x208, x209, x210, x211, x212, x213, x214, x215, x216, x217, x218, x219, x220, x221, x222, x223, x224, x225, x226, u227, u228, u229, u230, u231, u232, u233, u234], defers := [] } Y) :
    c36.wp Try.prog (Exit.then K1 Q1) { tmps := #[u0, u1, u2, u3, u4, u5, u6, u7, u8, u9, u10, u11, u12, u13, u14, .int .i64 (v : Int), .bool q, u17, .pointer (some ⟨xb, 0, none⟩), u19, u20, u21, u22, u23, u24, u25, u26, u27, u28, u29, u30, u31, u32, u33, u34, u35, u36, u37, u38, u39, u40, u41, u42, u43, u44, u45, u46, u47, u48, u49, u50, u51, u52, u53, u54, u55, u56, u57, u58, u59, u60, u61, u62, u63, u64, u65, u66, u67, u68, u69, u70, u71, u72, u73, u74, u75, u76, u77, u78, u79, u80, u81, u82, u83, u84, u85, u86, u87, u88, u89, u90, u91, u92, u93, u94, u95, u96, u97, u98, u99, u100, u101, u102, u103, u104, u105, u106, u107, u108, u109, u110, u111, u112, u113, u114, u115, u116, u117, u118, u119, u120, u121, u122, u123, u124, u125, u126, u127, u128, u129, u130, u131, u132, u133, u134, u135, u136, u137, u138, u139, u140, u141, u142, u143, u144, u145, u146, u147, u148, u149, u150, u151, u152, u153, u154, u155, u156, u157, u158, u159, u160, u161, u162, u163, u164, u165, u166, u167, u168, u169, u170, u171, u172, u173, u174, u175, u176, u177, u178, u179, u180, u181, u182, u183, u184, u185, u186, u187, u188, u189, u190, u191, u192, u193, u194, u195, u196, u197, u198, u199, u200, u201, u202, u203, u204, u205, u206, u207, u208, u209, u210, u211, u212, u213, u214, u215, u216, u217, u218, u219, u220, u221, u222, u223, u224, u225, u226, u227, u228, u229, u230, u231, u232, u233, u234], defers := [] } Y := by
  have HFIN := Lib.hid hfin
  have HAR := Lib.hid hargs
  have hcc36 : Try.f3.body.bind (regOf 36) = some c36 := h36
  have hcc37 : Try.f3.body.bind (regOf 37) = some c37 := h37
  have hcc38 : Try.f3.body.bind (regOf 38) = some c38 := h38
  simp only [Try.f3, regOf, Option.bind_some, Nat.reduceEqDiff, ↓reduceIte, Option.none_or, Option.or_none, Option.some.injEq] at hcc36 hcc37 hcc38
  subst hcc36
  subst hcc37
  subst hcc38
  obtain ⟨kd, d, a', b', op, nn, nm, args⟩ := x
  replace hk : kd = 9 := hk
  subst hk
  have HNO := Lib.hid hno
  clear h36 h37 h38 hfin hargs hno
  cases q with
  | false =>
    by_cases hmm : (v : Int) ∈ args
    · have hm : decide ((v : Int) ∈ args) = true := decide_eq_true hmm
      have hv : true = newW ⟨9, d, a', b', op, nn, nm, args⟩ (v : Int) false := by simp [newW, usesL, setsL, hasA, hasB, hmm]
      have HV9 := Lib.hid hv
      clear hv  hmm
      go_wp2_with (go_at_call 16; refine (has_any _ _ _ _ _ HAR.out).mono ?_; rintro e w' ⟨he, rfl⟩; rw [hm] at he; subst he)
      exact HFIN.out _ HV9.out _ _ _ _ _ _ _ _ _ _ _ _ _ _ _ _ _ _ _ _ _ _ _ _ _ _ _ _ _ _ _ _ _ _ _ _ _ _ _ _ _ _ _ _ _ _ _ _ _ _ _ _ _ _ _ _ _ _ _ _ _ _ _ _ _
    · have hm : decide ((v : Int) ∈ args) = false := decide_eq_false hmm
      have hv : false = newW ⟨9, d, a', b', op, nn, nm, args⟩ (v : Int) false := by simp [newW, usesL, setsL, hasA, hasB, hmm]
      have HV9 := Lib.hid hv
      clear hv  hmm
      go_wp2_with (go_at_call 16; refine (has_any _ _ _ _ _ HAR.out).mono ?_; rintro e w' ⟨he, rfl⟩; rw [hm] at he; subst he)
      exact HFIN.out _ HV9.out _ _ _ _ _ _ _ _ _ _ _ _ _ _ _ _ _ _ _ _ _ _ _ _ _ _ _ _ _ _ _ _ _ _ _ _ _ _ _ _ _ _ _ _ _ _ _ _ _ _ _ _ _ _ _ _ _ _ _ _ _ _ _ _ _
  | true =>
    by_cases hmm : (v : Int) ∈ args
    · have hm : decide ((v : Int) ∈ args) = true := decide_eq_true hmm
      have hv : true = newW ⟨9, d, a', b', op, nn, nm, args⟩ (v : Int) true := by simp [newW, usesL, setsL, hasA, hasB, hmm]
      have HV9 := Lib.hid hv
      clear hv  hmm
      go_wp2_with (go_at_call 16; refine (has_any _ _ _ _ _ HAR.out).mono ?_; rintro e w' ⟨he, rfl⟩; rw [hm] at he; subst he)
      exact HFIN.out _ HV9.out _ _ _ _ _ _ _ _ _ _ _ _ _ _ _ _ _ _ _ _ _ _ _ _ _ _ _ _ _ _ _ _ _ _ _ _ _ _ _ _ _ _ _ _ _ _ _ _ _ _ _ _ _ _ _ _ _ _ _ _ _ _ _ _ _
    · have hm : decide ((v : Int) ∈ args) = false := decide_eq_false hmm
      by_cases hd : d = (v : Int)
      · have hde : (d == (v : Int)) = true := beq_iff_eq.2 hd
        have hdd : decide (d = (v : Int)) = true := decide_eq_true hd
        have hds : (v : Int) = d := hd.symm
        have hv : false = newW ⟨9, d, a', b', op, nn, nm, args⟩ (v : Int) true := by simp [newW, usesL, setsL, hasA, hasB, hd, hmm]
        have HV9 := Lib.hid hv
        clear hv hd hds hmm
        go_wp2_with (go_at_call 16; refine (has_any _ _ _ _ _ HAR.out).mono ?_; rintro e w' ⟨he, rfl⟩; rw [hm] at he; subst he)
        exact HFIN.out _ HV9.out _ _ _ _ _ _ _ _ _ _ _ _ _ _ _ _ _ _ _ _ _ _ _ _ _ _ _ _ _ _ _ _ _ _ _ _ _ _ _ _ _ _ _ _ _ _ _ _ _ _ _ _ _ _ _ _ _ _ _ _ _ _ _ _ _
      · have hde : (d == (v : Int)) = false := by simp [hd]
        have hdd : decide (d = (v : Int)) = false := decide_eq_false hd
        have hds : ¬ (v : Int) = d := fun h => hd h.symm
        have hv : true = newW ⟨9, d, a', b', op, nn, nm, args⟩ (v : Int) true := by simp [newW, usesL, setsL, hasA, hasB, hds, hmm]
        have HV9 := Lib.hid hv
        clear hv hd hds hmm
        go_wp2_with (go_at_call 16; refine (has_any _ _ _ _ _ HAR.out).mono ?_; rintro e w' ⟨he, rfl⟩; rw [hm] at he; subst he)
        exact HFIN.out _ HV9.out _ _ _ _ _ _ _ _ _ _ _ _ _ _ _ _ _ _ _ _ _ _ _ _ _ _ _ _ _ _ _ _ _ _ _ _ _ _ _ _ _ _ _ _ _ _ _ _ _ _ _ _ _ _ _ _ _ _ _ _ _ _ _ _ _
set_option maxRecDepth 100000 in
set_option maxHeartbeats 8000000 in
theorem tail_any (v : Nat) (q : Bool) (xb ca : Nat) (Aa : Option Addr) (x : LIns) (hlo : 1 ≤ x.kind) (hhi : x.kind ≤ 9) (Y : World)
    (k0 : Y.cell? ⟨xb, 0, none⟩ = some (.int .i64 x.kind)) (k1 : Y.cell? ⟨xb, 1, none⟩ = some (.int .i64 x.d)) (k2 : Y.cell? ⟨xb, 2, none⟩ = some (.int .i64 x.a)) (k3 : Y.cell? ⟨xb, 3, none⟩ = some (.int .i64 x.b)) (k7 : Y.cell? ⟨xb, 7, none⟩ = some (.slice Aa x.args.length ca))
    (hargs : SlR Y (· < Y.heap.size) 1 RInt (.slice Aa x.args.length ca) x.args) (hno : x.kind ≠ 9 → x.args = [])
    (c36 c37 c38 : Code) (K1 : Act → World → Prop) (Q1 Q2 : Exit → Act → World → Prop) (u0 u1 u2 u3 u4 u5 u6 u7 u8 u9 u10 u11 u12 u13 u14 u17 u19 u20 u21 u22 u23 u24 u25 u26 u27 u28 u29 u30 u31 u32 u33 u34 u35 u36 u37 u38 u39 u40 u41 u42 u43 u44 u45 u46 u47 u48 u49 u50 u51 u52 u53 u54 u55 u56 u57 u58 u59 u60 u61 u62 u63 u64 u65 u66 u67 u68 u69 u70 u71 u72 u73 u74 u75 u76 u77 u78 u79 u80 u81 u82 u83 u84 u85 u86 u87 u88 u89 u90 u91 u92 u93 u94 u95 u96 u97 u98 u99 u100 u101 u102 u103 u104 u105 u106 u107 u108 u109 u110 u111 u112 u113 u114 u115 u116 u117 u118 u119 u120 u121 u122 u123 u124 u125 u126 u127 u128 u129 u130 u131 u132 u133 u134 u135 u136 u137 u138 u139 u140 u141 u142 u143 u144 u145 u146 u147 u148 u149 u150 u151 u152 u153 u154 u155 u156 u157 u158 u159 u160 u161 u162 u163 u164 u165 u166 u167 u168 u169 u170 u171 u172 u173 u174 u175 u176 u177 u178 u179 u180 u181 u182 u183 u184 u185 u186 u187 u188 u189 u190 u191 u192 u193 u194 u195 u196 u197 u198 u199 u200 u201 u202 u203 u204 u205 u206 u207 u208 u209 u210 u211 u212 u213 u214 u215 u216 u217 u218 u219 u220 u221 u222 u223 u224 u225 u226 u227 u228 u229 u230 u231 u232 u233 u234 : Value) (hK1 : ∀ a w, (Code.seq c37 c38).wp Try.prog Q2 a w → K1 a w)
    (h36 : (Try.f3.body.bind (regOf 36)) = some c36) (h37 : (Try.f3.body.bind (regOf 37)) = some c37) (h38 : (Try.f3.body.bind (regOf 38)) = some c38)
    (hfin : ∀ (r : Bool), r = newW x v q → ∀ (x19 x20 x164 x165 x166 x167 x168 x169 x170 x171 x172 x173 x174 x175 x176 x177 x178 x179 x180 x181 x182 x183 x184 x185 x186 x187 x188 x189 x190 x191 x192 x193 x194 x195 x196 x197 x198 x199 x200 x201 x202 x203 x204 x205 x206 x207 x208 x209 x210 x211 x212 x213 x214 x215 x216 x217 x218 x219 x220 x221 x222 x223 x224 x225 x226 : Value), Q2 .normal { tmps := #[u0, u1, u2, u3, u4, u5, u6, u7, u8, u9, u10, u11, u12, u13, u14, .int .i64 (v : Int), .bool r, u17, .pointer (some ⟨xb, 0, none⟩), x19, x20, u21, u22, u23, u24, u25, u26, u27, u28, u29, u30, u31, u32, u33, u34, u35, u36, u37, u38, u39, u40, u41, u42, u43, u44, u45, u46, u47, u48, u49, u50, u51, u52, u53, u54, u55, u56, u57, u58, u59, u60, u61, u62, u63, u64, u65, u66, u67, u68, u69, u70, u71, u72, u73, u74, u75, u76, u77, u78, u79, u80, u81, u82, u83, u84, u85, u86, u87, u88, u89, u90, u91, u92, u93, u94, u95, u96, u97, u98, u99, u100, u101, u102, u103, u104, u105, u106, u107, u108, u109, u110, u111, u112, u113, u114, u115, u116, u117, u118, u119, u120, u121, u122, u123, u124, u125, u126, u127, u128, u129, u130, u131, u132, u133, u134, u135, u136, u137, u138, u139, u140, u141, u142, u143, u144, u145, u146, u147, u148, u149, u150, u151, u152, u153, u154, u155, u156, u157, u158, u159, u160, u161, u162, u163, x164, x165, x166, x167, x168, x169, x170, x171, x172, x173, x174, x175, x176, x177, x178, x179, x180, x181, x182, x183, x184, x185, x186, x187, x188, x189, x190, x191, x192, x193, x194, x195, x196, x197, x198, x199, x200, x201, x202, x203, x204, x205, x206, x207, x208, x209, x210, x211, x212, x213, x214, x215, x216, x217, x218, x219, x220, x221, x222, x223, x224, x225, x226, u227, u228, u229, u230, u231, u232, u233, u234], defers := [] } Y) :
    c36.wp Try.prog (Exit.then K1 Q1) { tmps := #[u0, u1, u2, u3, u4, u5, u6, u7, u8, u9, u10, u11, u12, u13, u14, .int .i64 (v : Int), .bool q, u17, .pointer (some ⟨xb, 0, none⟩), u19, u20, u21, u22, u23, u24, u25, u26, u27, u28, u29, u30, u31, u32, u33, u34, u35, u36, u37, u38, u39, u40, u41, u42, u43, u44, u45, u46, u47, u48, u49, u50, u51, u52, u53, u54, u55, u56, u57, u58, u59, u60, u61, u62, u63, u64, u65, u66, u67, u68, u69, u70, u71, u72, u73, u74, u75, u76, u77, u78, u79, u80, u81, u82, u83, u84, u85, u86, u87, u88, u89, u90, u91, u92, u93, u94, u95, u96, u97, u98, u99, u100, u101, u102, u103, u104, u105, u106, u107, u108, u109, u110, u111, u112, u113, u114, u115, u116, u117, u118, u119, u120, u121, u122, u123, u124, u125, u126, u127, u128, u129, u130, u131, u132, u133, u134, u135, u136, u137, u138, u139, u140, u141, u142, u143, u144, u145, u146, u147, u148, u149, u150, u151, u152, u153, u154, u155, u156, u157, u158, u159, u160, u161, u162, u163, u164, u165, u166, u167, u168, u169, u170, u171, u172, u173, u174, u175, u176, u177, u178, u179, u180, u181, u182, u183, u184, u185, u186, u187, u188, u189, u190, u191, u192, u193, u194, u195, u196, u197, u198, u199, u200, u201, u202, u203, u204, u205, u206, u207, u208, u209, u210, u211, u212, u213, u214, u215, u216, u217, u218, u219, u220, u221, u222, u223, u224, u225, u226, u227, u228, u229, u230, u231, u232, u233, u234], defers := [] } Y := by
  rcases kinds9 hlo hhi with h | h | h | h | h | h | h | h | h
  · exact tail1 v q xb ca Aa x h Y (by rw [k0, h]) k1 k2 k3 k7 hargs hno c36 c37 c38 K1 Q1 Q2 _ _ _ _ _ _ _ _ _ _ _ _ _ _ _ _ _ _ _ _ _ _ _ _ _ _ _ _ _ _ _ _ _ _ _ _ _ _ _ _ _ _ _ _ _ _ _ _ _ _ _ _ _ _ _ _ _ _ _ _ _ _ _ _ _ _ _ _ _ _ _ _ _ _ _ _ _ _ _ _ _ _ _ _ _ _ _ _ _ _ _ _ _ _ _ _ _ _ _ _ _ _ _ _ _ _ _ _ _ _ _ _ _ _ _ _ _ _ _ _ _ _ _ _ _ _ _ _ _ _ _ _ _ _ _ _ _ _ _ _ _ _ _ _ _ _ _ _ _ _ _ _ _ _ _ _ _ _ _ _ _ _ _ _ _ _ _ _ _ _ _ _ _ _ _ _ _ _ _ _ _ _ _ _ _ _ _ _ _ _ _ _ _ _ _ _ _ _ _ _ _ _ _ _ _ _ _ _ _ _ _ _ _ _ _ _ _ _ _ _ _ _ _ _ _ _ _ _ _ _ _ _ hK1 h36 h37 h38 hfin
  · exact tail2 v q xb ca Aa x h Y (by rw [k0, h]) k1 k2 k3 k7 hargs hno c36 c37 c38 K1 Q1 Q2 _ _ _ _ _ _ _ _ _ _ _ _ _ _ _ _ _ _ _ _ _ _ _ _ _ _ _ _ _ _ _ _ _ _ _ _ _ _ _ _ _ _ _ _ _ _ _ _ _ _ _ _ _ _ _ _ _ _ _ _ _ _ _ _ _ _ _ _ _ _ _ _ _ _ _ _ _ _ _ _ _ _ _ _ _ _ _ _ _ _ _ _ _ _ _ _ _ _ _ _ _ _ _ _ _ _ _ _ _ _ _ _ _ _ _ _ _ _ _ _ _ _ _ _ _ _ _ _ _ _ _ _ _ _ _ _ _ _ _ _ _ _ _ _ _ _ _ _ _ _ _ _ _ _ _ _ _ _ _ _ _ _ _ _ _ _ _ _ _ _ _ _ _ _ _ _ _ _ _ _ _ _ _ _ _ _ _ _ _ _ _ _ _ _ _ _ _ _ _ _ _ _ _ _ _ _ _ _ _ _ _ _ _ _ _ _ _ _ _ _ _ _ _ _ _ _ _ _ _ _ _ _ hK1 h36 h37 h38 hfin
  · exact tail3 v q xb ca Aa x h Y (by rw [k0, h]) k1 k2 k3 k7 hargs hno c36 c37 c38 K1 Q1 Q2 _ _ _ _ _ _ _ _ _ _ _ _ _ _ _ _ _ _ _ _ _ _ _ _ _ _ _ _ _ _ _ _ _ _ _ _ _ _ _ _ _ _ _ _ _ _ _ _ _ _ _ _ _ _ _ _ _ _ _ _ _ _ _ _ _ _ _ _ _ _ _ _ _ _ _ _ _ _ _ _ _ _ _ _ _ _ _ _ _ _ _ _ _ _ _ _ _ _ _ _ _ _ _ _ _ _ _ _ _ _ _ _ _ _ _ _ _ _ _ _ _ _ _ _ _ _ _ _ _ _ _ _ _ _ _ _ _ _ _ _ _ _ _ _ _ _ _ _ _ _ _ _ _ _ _ _ _ _ _ _ _ _ _ _ _ _ _ _ _ _ _ _ _ _ _ _ _ _ _ _ _ _ _ _ _ _ _ _ _ _ _ _ _ _ _ _ _ _ _ _ _ _ _ _ _ _ _ _ _ _ _ _ _ _ _ _ _ _ _ _ _ _ _ _ _ _ _ _ _ _ _ _ hK1 h36 h37 h38 hfin
  · exact tail4 v q xb ca Aa x h Y (by rw [k0, h]) k1 k2 k3 k7 hargs hno c36 c37 c38 K1 Q1 Q2 _ _ _ _ _ _ _ _ _ _ _ _ _ _ _ _ _ _ _ _ _ _ _ _ _ _ _ _ _ _ _ _ _ _ _ _ _ _ _ _ _ _ _ _ _ _ _ _ _ _ _ _ _ _ _ _ _ _ _ _ _ _ _ _ _ _ _ _ _ _ _ _ _ _ _ _ _ _ _ _ _ _ _ _ _ _ _ _ _ _ _ _ _ _ _ _ _ _ _ _ _ _ _ _ _ _ _ _ _ _ _ _ _ _ _ _ _ _ _ _ _ _ _ _ _ _ _ _ _ _ _ _ _ _ _ _ _ _ _ _ _ _ _ _ _ _ _ _ _ _ _ _ _ _ _ _ _ _ _ _ _ _ _ _ _ _ _ _ _ _ _ _ _ _ _ _ _ _ _ _ _ _ _ _ _ _ _ _ _ _ _ _ _ _ _ _ _ _ _ _ _ _ _ _ _ _ _ _ _ _ _ _ _ _ _ _ _ _ _ _ _ _ _ _ _ _ _ _ _ _ _ _ hK1 h36 h37 h38 hfin
  · exact tail5 v q xb ca Aa x h Y (by rw [k0, h]) k1 k2 k3 k7 hargs hno c36 c37 c38 K1 Q1 Q2 _ _ _ _ _ _ _ _ _ _ _ _ _ _ _ _ _ _ _ _ _ _ _ _ _ _ _ _ _ _ _ _ _ _ _ _ _ _ _ _ _ _ _ _ _ _ _ _ _ _ _ _ _ _ _ _ _ _ _ _ _ _ _ _ _ _ _ _ _ _ _ _ _ _ _ _ _ _ _ _ _ _ _ _ _ _ _ _ _ _ _ _ _ _ _ _ _ _ _ _ _ _ _ _ _ _ _ _ _ _ _ _ _ _ _ _ _ _ _ _ _ _ _ _ _ _ _ _ _ _ _ _ _ _ _ _ _ _ _ _ _ _ _ _ _ _ _ _ _ _ _ _ _ _ _ _ _ _ _ _ _ _ _ _ _ _ _ _ _ _ _ _ _ _ _ _ _ _ _ _ _ _ _ _ _ _ _ _ _ _ _ _ _ _ _ _ _ _ _ _ _ _ _ _ _ _ _ _ _ _ _ _ _ _ _ _ _ _ _ _ _ _ _ _ _ _ _ _ _ _ _ _ hK1 h36 h37 h38 hfin
  · exact tail6 v q xb ca Aa x h Y (by rw [k0, h]) k1 k2 k3 k7 hargs hno c36 c37 c38 K1 Q1 Q2 _ _ _ _ _ _ _ _ _ _ _ _ _ _ _ _ _ _ _ _ _ _ _ _ _ _ _ _ _ _ _ _ _ _ _ _ _ _ _ _ _ _ _ _ _ _ _ _ _ _ _ _ _ _ _ _ _ _ _ _ _ _ _ _ _ _ _ _ _ _ _ _ _ _ _ _ _ _ _ _ _ _ _ _ _ _ _ _ _ _ _ _ _ _ _ _ _ _ _ _ _ _ _ _ _ _ _ _ _ _ _ _ _ _ _ _ _ _ _ _ _ _ _ _ _ _ _ _ _ _ _ _ _ _ _ _ _ _ _ _ _ _ _ _ _ _ _ _ _ _ _ _ _ _ _ _ _ _ _ _ _ _ _ _ _ _ _ _ _ _ _ _ _ _ _ _ _ _ _ _ _ _ _ _ _ _ _ _ _ _ _ _ _ _ _ _ _ _ _ _ _ _ _ _ _ _ _ _ _ _ _ _ _ _ _ _ _ _ _ _ _ _ _ _ _ _ _ _ _ _ _ _ hK1 h36 h37 h38 hfin
  · exact tail7 v q xb ca Aa x h Y (by rw [k0, h]) k1 k2 k3 k7 hargs hno c36 c37 c38 K1 Q1 Q2 _ _ _ _ _ _ _ _ _ _ _ _ _ _ _ _ _ _ _ _ _ _ _ _ _ _ _ _ _ _ _ _ _ _ _ _ _ _ _ _ _ _ _ _ _ _ _ _ _ _ _ _ _ _ _ _ _ _ _ _ _ _ _ _ _ _ _ _ _ _ _ _ _ _ _ _ _ _ _ _ _ _ _ _ _ _ _ _ _ _ _ _ _ _ _ _ _ _ _ _ _ _ _ _ _ _ _ _ _ _ _ _ _ _ _ _ _ _ _ _ _ _ _ _ _ _ _ _ _ _ _ _ _ _ _ _ _ _ _ _ _ _ _ _ _ _ _ _ _ _ _ _ _ _ _ _ _ _ _ _ _ _ _ _ _ _ _ _ _ _ _ _ _ _ _ _ _ _ _ _ _ _ _ _ _ _ _ _ _ _ _ _ _ _ _ _ _ _ _ _ _ _ _ _ _ _ _ _ _ _ _ _ _ _ _ _ _ _ _ _ _ _ _ _ _ _ _ _ _ _ _ _ hK1 h36 h37 h38 hfin
  · exact tail8 v q xb ca Aa x h Y (by rw [k0, h]) k1 k2 k3 k7 hargs hno c36 c37 c38 K1 Q1 Q2 _ _ _ _ _ _ _ _ _ _ _ _ _ _ _ _ _ _ _ _ _ _ _ _ _ _ _ _ _ _ _ _ _ _ _ _ _ _ _ _ _ _ _ _ _ _ _ _ _ _ _ _ _ _ _ _ _ _ _ _ _ _ _ _ _ _ _ _ _ _ _ _ _ _ _ _ _ _ _ _ _ _ _ _ _ _ _ _ _ _ _ _ _ _ _ _ _ _ _ _ _ _ _ _ _ _ _ _ _ _ _ _ _ _ _ _ _ _ _ _ _ _ _ _ _ _ _ _ _ _ _ _ _ _ _ _ _ _ _ _ _ _ _ _ _ _ _ _ _ _ _ _ _ _ _ _ _ _ _ _ _ _ _ _ _ _ _ _ _ _ _ _ _ _ _ _ _ _ _ _ _ _ _ _ _ _ _ _ _ _ _ _ _ _ _ _ _ _ _ _ _ _ _ _ _ _ _ _ _ _ _ _ _ _ _ _ _ _ _ _ _ _ _ _ _ _ _ _ _ _ _ _ hK1 h36 h37 h38 hfin
  · exact tail9 v q xb ca Aa x h Y (by rw [k0, h]) k1 k2 k3 k7 hargs hno c36 c37 c38 K1 Q1 Q2 _ _ _ _ _ _ _ _ _ _ _ _ _ _ _ _ _ _ _ _ _ _ _ _ _ _ _ _ _ _ _ _ _ _ _ _ _ _ _ _ _ _ _ _ _ _ _ _ _ _ _ _ _ _ _ _ _ _ _ _ _ _ _ _ _ _ _ _ _ _ _ _ _ _ _ _ _ _ _ _ _ _ _ _ _ _ _ _ _ _ _ _ _ _ _ _ _ _ _ _ _ _ _ _ _ _ _ _ _ _ _ _ _ _ _ _ _ _ _ _ _ _ _ _ _ _ _ _ _ _ _ _ _ _ _ _ _ _ _ _ _ _ _ _ _ _ _ _ _ _ _ _ _ _ _ _ _ _ _ _ _ _ _ _ _ _ _ _ _ _ _ _ _ _ _ _ _ _ _ _ _ _ _ _ _ _ _ _ _ _ _ _ _ _ _ _ _ _ _ _ _ _ _ _ _ _ _ _ _ _ _ _ _ _ _ _ _ _ _ _ _ _ _ _ _ _ _ _ _ _ _ _ hK1 h36 h37 h38 hfin
end Go.Proofs.Ytknccacfhknnaaa
