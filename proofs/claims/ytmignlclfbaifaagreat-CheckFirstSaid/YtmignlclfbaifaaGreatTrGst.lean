/- The generator's statements: (scope).stmts, where the scope is not free: up to four that are made of what there is. Printed by wip/gen_trgst.py. -/
import Derived.Test.YtmignlclfbaifaaGreatTrGsf
import Derived.Test.YtmignlclfbaifaaGreatTrCall
import Derived.Test.YtmignlclfbaifaaGreatTrExpr
namespace Go.Proofs.YtmignlclfbaifaaGreat
open Go.RowKit

def condOf (k : Nat) : Code → Option Code
  | .seq a b => (condOf k a).or (condOf k b)
  | .cond (.tmp s) a b => if s = k then some (.cond (.tmp s) a b) else (condOf k a).or (condOf k b)
  | .cond _ a b => (condOf k a).or (condOf k b)
  | .block _ b => condOf k b
  | .loop b => condOf k b
  | .rangeFunc _ _ a b => (condOf k a).or (condOf k b)
  | .scope b => condOf k b
  | _ => none
def regOf (k : Nat) : Code → Option Code
  | .region i ops d => if i = k then some (.region i ops d) else none
  | .seq a b => (regOf k a).or (regOf k b)
  | .cond _ a b => (regOf k a).or (regOf k b)
  | .block _ b => regOf k b
  | .loop b => regOf k b
  | .rangeFunc _ _ a b => (regOf k a).or (regOf k b)
  | .scope b => regOf k b
  | _ => none

set_option maxRecDepth 100000 in
set_option maxHeartbeats 8000000 in
theorem sw_any (cc : Code) (hc : (Tryz.f26.body.bind (blkOf 2)) = some cc) {w : World} {sb : Nat} {c : Scp} {Av Aa Af : Option Addr} {nv na nf cv ca cf : Nat} {loop : Bool} {d : Nat} (G : GCtx w sb c Av Aa Af nv na nf cv ca cf loop d) {w1 : World} (hgw : w.grownBy w1 (some sb)) (hsc : Blk w1 w.heap.size 61 #[.slice Av nv cv, .slice Aa na ca, .slice Af nf cf, .bool false, .bool loop]) (Y : World) (j : Int) (ba bv : Bool)
    (hb : BoxS w1 sb Y (w1.heap.size + 1) w1.heap.size 45 #[.int .i64 8, .string ⟨#[]⟩, .slice none 0 0, .slice none 0 0, .slice none 0 0] (d + 4) (madeE c 4) (.slice none 0 0) []) (hj0 : 0 ≤ j) (hj14 : j < 14) (hjd : j < 7 ∨ 11 ≤ j ∨ 2 ≤ d) (hba : ba = decide (0 < na)) (hbv : bv = decide (0 < nv))
    (Q : Exit → Act → World → Prop) (hQ : ∀ p (a : Act) t (v : Value) (w' : World), Q (Exit.panic p) (a.put t v) w' → Q (Exit.panic p) a w') (u0 u4 u5 u6 u7 u8 u9 u15 u16 u17 u18 u19 u20 u21 u22 u23 u24 u25 u26 u27 u28 u29 u30 u31 u32 u33 u34 u35 u36 u37 u38 u39 u40 u41 u42 u43 u44 u45 u46 u47 u48 u49 u50 u51 u52 u53 u54 u55 u56 u57 u58 u59 u60 u61 u62 u63 u64 u65 u66 u67 u68 u69 u70 u71 u72 u73 u74 u75 u76 u77 u78 u79 u80 u81 u82 u83 u84 u85 u86 u87 u88 u89 u90 u91 u92 u93 u94 u95 u96 u97 u98 u99 u100 u101 u102 u103 u104 u105 u106 u107 u108 u109 u110 u111 u112 u113 u114 u115 u116 u117 u118 u119 u120 u121 u122 u123 u124 u125 u126 u127 u128 u129 u130 u131 u132 u133 u134 u135 u136 u137 u138 u139 u140 u141 u142 u143 u144 u145 u146 u147 u148 u149 u150 u151 u152 u153 u154 u155 u156 u157 u158 u159 u160 u161 u162 u163 u164 u165 u166 u167 u168 u169 u170 u171 u172 u173 u174 u175 u176 u177 u178 u179 u180 u181 u182 u183 u184 u185 u186 u187 u188 u189 u190 u191 u192 u193 u194 u195 u196 u197 u198 u199 u200 u201 u202 u203 u204 u205 u206 u207 u208 u209 u210 u211 u212 u213 u214 u215 u216 u217 u218 u219 u220 u221 u222 u223 u224 u225 : Value)
    (hK : ∀ (x15 x61 x62 x63 x64 x65 x66 x67 x68 x69 x70 x71 x72 x73 x74 x75 x76 x77 x78 x79 x80 x81 x82 x83 x84 x85 x86 x87 x88 x89 x90 x91 x92 x93 x94 x95 x96 x97 x98 x99 x100 x101 x102 x103 x104 x105 x106 x107 x108 x109 x110 x111 x112 x113 x114 x115 x116 x117 x118 x119 x120 x121 x122 x123 x124 x125 x126 x127 x128 x129 x130 x131 x132 x133 x134 x135 x136 x137 x138 x139 x140 x141 x142 x143 x144 x145 x146 x147 x148 x149 x150 x151 x152 x153 x154 x155 x156 x157 x158 x159 x160 x161 x162 x163 x164 x165 x166 x167 x168 x169 x170 x171 x172 x173 x174 x175 x176 x177 x178 x179 x180 x181 x182 x183 x184 x185 x186 x187 x188 x189 x190 x191 x192 x193 x194 x195 x196 : Value) (w' : World), MidS w1 sb w' w1.heap.size c d loop → Q .normal { tmps := #[u0, .pointer (some ⟨sb, 0, none⟩), .int .i64 (d : Int), .pointer (some ⟨w.heap.size, 0, none⟩), u4, u5, u6, u7, u8, u9, .int .i64 j, .pointer (some ⟨w1.heap.size, 0, none⟩), .bool ba, .bool bv, .bool true, x15, u16, u17, u18, u19, u20, u21, u22, u23, u24, u25, u26, u27, u28, u29, u30, u31, u32, u33, u34, u35, u36, u37, u38, u39, u40, u41, u42, u43, u44, u45, u46, u47, u48, u49, u50, u51, u52, u53, u54, u55, u56, u57, u58, u59, u60, x61, x62, x63, x64, x65, x66, x67, x68, x69, x70, x71, x72, x73, x74, x75, x76, x77, x78, x79, x80, x81, x82, x83, x84, x85, x86, x87, x88, x89, x90, x91, x92, x93, x94, x95, x96, x97, x98, x99, x100, x101, x102, x103, x104, x105, x106, x107, x108, x109, x110, x111, x112, x113, x114, x115, x116, x117, x118, x119, x120, x121, x122, x123, x124, x125, x126, x127, x128, x129, x130, x131, x132, x133, x134, x135, x136, x137, x138, x139, x140, x141, x142, x143, x144, x145, x146, x147, x148, x149, x150, x151, x152, x153, x154, x155, x156, x157, x158, x159, x160, x161, x162, x163, x164, x165, x166, x167, x168, x169, x170, x171, x172, x173, x174, x175, x176, x177, x178, x179, x180, x181, x182, x183, x184, x185, x186, x187, x188, x189, x190, x191, x192, x193, x194, x195, x196, u197, u198, u199, u200, u201, u202, u203, u204, u205, u206, u207, u208, u209, u210, u211, u212, u213, u214, u215, u216, u217, u218, u219, u220, u221, u222, u223, u224, u225], defers := [] } w') :
    (Code.block 2 cc).wp Tryz.prog Q { tmps := #[u0, .pointer (some ⟨sb, 0, none⟩), .int .i64 (d : Int), .pointer (some ⟨w.heap.size, 0, none⟩), u4, u5, u6, u7, u8, u9, .int .i64 j, .pointer (some ⟨w1.heap.size, 0, none⟩), .bool ba, .bool bv, .bool true, u15, u16, u17, u18, u19, u20, u21, u22, u23, u24, u25, u26, u27, u28, u29, u30, u31, u32, u33, u34, u35, u36, u37, u38, u39, u40, u41, u42, u43, u44, u45, u46, u47, u48, u49, u50, u51, u52, u53, u54, u55, u56, u57, u58, u59, u60, u61, u62, u63, u64, u65, u66, u67, u68, u69, u70, u71, u72, u73, u74, u75, u76, u77, u78, u79, u80, u81, u82, u83, u84, u85, u86, u87, u88, u89, u90, u91, u92, u93, u94, u95, u96, u97, u98, u99, u100, u101, u102, u103, u104, u105, u106, u107, u108, u109, u110, u111, u112, u113, u114, u115, u116, u117, u118, u119, u120, u121, u122, u123, u124, u125, u126, u127, u128, u129, u130, u131, u132, u133, u134, u135, u136, u137, u138, u139, u140, u141, u142, u143, u144, u145, u146, u147, u148, u149, u150, u151, u152, u153, u154, u155, u156, u157, u158, u159, u160, u161, u162, u163, u164, u165, u166, u167, u168, u169, u170, u171, u172, u173, u174, u175, u176, u177, u178, u179, u180, u181, u182, u183, u184, u185, u186, u187, u188, u189, u190, u191, u192, u193, u194, u195, u196, u197, u198, u199, u200, u201, u202, u203, u204, u205, u206, u207, u208, u209, u210, u211, u212, u213, u214, u215, u216, u217, u218, u219, u220, u221, u222, u223, u224, u225], defers := [] } Y := by
  have HKK := Lib.hid hK
  have HQ := Lib.hid hQ
  have hwx : w.heap.size < w1.heap.size := hsc.lt
  have hwn : w.heap.size ≠ w1.heap.size := Nat.ne_of_lt hwx
  have hwm : w1.heap.size ≠ w.heap.size := Nat.ne_of_gt hwx
  have hcc : Tryz.f26.body.bind (blkOf 2) = some cc := hc
  simp only [Tryz.f26, blkOf, Option.bind_some, Nat.reduceEqDiff, ↓reduceIte, Option.none_or, Option.or_none, Option.some.injEq] at hcc
  subst hcc
  have HBX := Lib.hid hb
  have HSCB := Lib.hid hsc
  have HGW := Lib.hid hgw
  have HG := Lib.hid G
  have HNE : Hid (sb ≠ w.heap.size) := Lib.hid (by have := G.sb; omega)
  have hd := G.hd
  have hd2 := G.hd2
  have HSB := Lib.hid G.sb
  have HOK := Lib.hid G.ok
  have HBA := Lib.hid hba
  have HBV := Lib.hid hbv
  have HJD := Lib.hid hjd
  clear hc hK hQ hb hsc hgw G hba hbv hjd
  have ab0 : Y.cell? ⟨w.heap.size, 0, none⟩ = some (.slice Av nv cv) := (HBX.out.sc HSCB.out HNE.out).cell 0
  have ab1 : Y.cell? ⟨w.heap.size, 1, none⟩ = some (.slice Aa na ca) := (HBX.out.sc HSCB.out HNE.out).cell 1
  have ab2 : Y.cell? ⟨w.heap.size, 2, none⟩ = some (.slice Af nf cf) := (HBX.out.sc HSCB.out HNE.out).cell 2
  have ab3 : Y.cell? ⟨w.heap.size, 3, none⟩ = some (.bool false) := (HBX.out.sc HSCB.out HNE.out).cell 3
  have ab4 : Y.cell? ⟨w.heap.size, 4, none⟩ = some (.bool loop) := (HBX.out.sc HSCB.out HNE.out).cell 4
  have ax0 : Y.cell? ⟨w1.heap.size, 0, none⟩ = some (.int .i64 8) := HBX.out.blk.cell 0
  have ax1 : Y.cell? ⟨w1.heap.size, 1, none⟩ = some (.string ⟨#[]⟩) := HBX.out.blk.cell 1
  have ax2 : Y.cell? ⟨w1.heap.size, 2, none⟩ = some (.slice none 0 0) := HBX.out.blk.cell 2
  have ax3 : Y.cell? ⟨w1.heap.size, 3, none⟩ = some (.slice none 0 0) := HBX.out.blk.cell 3
  have ax4 : Y.cell? ⟨w1.heap.size, 4, none⟩ = some (.slice none 0 0) := HBX.out.blk.cell 4
  have az0 : Y.frozen? ⟨w1.heap.size, 0, none⟩ = false := HBX.out.blk.frozen 0
  have az1 : Y.frozen? ⟨w1.heap.size, 1, none⟩ = false := HBX.out.blk.frozen 1
  have az2 : Y.frozen? ⟨w1.heap.size, 2, none⟩ = false := HBX.out.blk.frozen 2
  have az3 : Y.frozen? ⟨w1.heap.size, 3, none⟩ = false := HBX.out.blk.frozen 3
  have az4 : Y.frozen? ⟨w1.heap.size, 4, none⟩ = false := HBX.out.blk.frozen 4
  have alt : w1.heap.size < Y.heap.size := HBX.out.bs
  rcases (by omega : j < 4 ∨ j = 4 ∨ j = 5 ∨ j = 6 ∨ j = 7 ∨ j = 8 ∨ j = 9 ∨ j = 10 ∨ j = 11 ∨ (11 < j)) with h | rfl | rfl | rfl | rfl | rfl | rfl | rfl | rfl | h
  case inl =>
    have d1 : decide (j < 4) = true := decide_eq_true h
    have e4 : (j == 4) = false := beq_eq_false_iff_ne.2 (by omega)
    have e5 : (j == 5) = false := beq_eq_false_iff_ne.2 (by omega)
    have e6 : (j == 6) = false := beq_eq_false_iff_ne.2 (by omega)
    have e7 : (j == 7) = false := beq_eq_false_iff_ne.2 (by omega)
    have e8 : (j == 8) = false := beq_eq_false_iff_ne.2 (by omega)
    have e9 : (j == 9) = false := beq_eq_false_iff_ne.2 (by omega)
    have e10 : (j == 10) = false := beq_eq_false_iff_ne.2 (by omega)
    have e11 : (j == 11) = false := beq_eq_false_iff_ne.2 (by omega)
    cases bv with
    | true =>
      have hn0 : 0 < nv := of_decide_eq_true HBV.out.symm
      have HN := Lib.hid hn0
      clear hn0
      go_upto_if 61 with fail
      refine wp_cond_true (by rfl) ?_
      refine form_set _ (by kernel_rfl) HG.out HGW.out HSCB.out Y HBX.out HN.out _ (by exact fun p a t v w' h => HQ.out p a t v w' h) _ _ _ _ _ _ _ _ _ _ _ _ _ _ _ _ _ _ _ _ _ _ _ _ _ _ _ _ _ _ _ _ _ _ _ _ _ _ _ _ _ _ _ _ _ _ _ _ _ _ _ _ _ _ _ _ _ _ _ _ _ _ _ _ _ _ _ _ _ _ _ _ _ _ _ _ _ _ _ _ _ _ _ _ _ _ _ _ _ _ _ _ _ _ _ _ _ _ _ _ _ _ _ _ _ _ _ _ _ _ _ _ _ _ _ _ _ _ _ _ _ _ _ _ _ _ _ _ _ _ _ _ _ _ _ _ _ _ _ _ _ _ _ _ _ _ _ _ _ _ _ _ _ _ _ _ _ _ _ _ _ _ _ _ _ _ _ _ _ _ _ _ _ _ _ _ _ _ _ _ _ _ _ _ _ _ _ _ _ _ _ _ _ _ _ _ _ _ _ _ _ _ _ _ _ _ _ _ _ _ _ _ _ _ _ _ _ _ _ _ _ _ ?_
      intros
      rename_i w' hm
      go_wp2
      exact HKK.out _ _ _ _ _ _ _ _ _ _ _ _ _ _ _ _ _ _ _ _ _ _ _ _ _ _ _ _ _ _ _ _ _ _ _ _ _ _ _ _ _ _ _ _ _ _ _ _ _ _ _ _ _ _ _ _ _ _ _ _ _ _ _ _ _ _ _ _ _ _ _ _ _ _ _ _ _ _ _ _ _ _ _ _ _ _ _ _ _ _ _ _ _ _ _ _ _ _ _ _ _ _ _ _ _ _ _ _ _ _ _ _ _ _ _ _ _ _ _ _ _ _ _ _ _ _ _ _ _ _ _ _ _ _ _ _ _ _ hm
    | false =>
      go_wp2
      exact HKK.out _ _ _ _ _ _ _ _ _ _ _ _ _ _ _ _ _ _ _ _ _ _ _ _ _ _ _ _ _ _ _ _ _ _ _ _ _ _ _ _ _ _ _ _ _ _ _ _ _ _ _ _ _ _ _ _ _ _ _ _ _ _ _ _ _ _ _ _ _ _ _ _ _ _ _ _ _ _ _ _ _ _ _ _ _ _ _ _ _ _ _ _ _ _ _ _ _ _ _ _ _ _ _ _ _ _ _ _ _ _ _ _ _ _ _ _ _ _ _ _ _ _ _ _ _ _ _ _ _ _ _ _ _ _ _ _ _ _ (⟨8, ⟨#[]⟩, _, _, _, [], [], [], HBX.out, half_one hd (.inr (.inl rfl)), .inl ⟨rfl, rfl, rfl, rfl⟩⟩)
  case inr.inl =>
    cases ba with
    | true =>
      have hn0 : 0 < na := of_decide_eq_true HBA.out.symm
      have HN := Lib.hid hn0
      clear hn0
      go_upto_if 74 with fail
      refine wp_cond_true (by rfl) ?_
      refine form_store _ (by kernel_rfl) HG.out HGW.out HSCB.out Y HBX.out HN.out _ (by exact fun p a t v w' h => HQ.out p a t v w' h) _ _ _ _ _ _ _ _ _ _ _ _ _ _ _ _ _ _ _ _ _ _ _ _ _ _ _ _ _ _ _ _ _ _ _ _ _ _ _ _ _ _ _ _ _ _ _ _ _ _ _ _ _ _ _ _ _ _ _ _ _ _ _ _ _ _ _ _ _ _ _ _ _ _ _ _ _ _ _ _ _ _ _ _ _ _ _ _ _ _ _ _ _ _ _ _ _ _ _ _ _ _ _ _ _ _ _ _ _ _ _ _ _ _ _ _ _ _ _ _ _ _ _ _ _ _ _ _ _ _ _ _ _ _ _ _ _ _ _ _ _ _ _ _ _ _ _ _ _ _ _ _ _ _ _ _ _ _ _ _ _ _ _ _ _ _ _ _ _ _ _ _ _ _ _ _ _ _ _ _ _ _ _ _ _ _ _ _ _ _ _ _ _ _ _ _ _ _ _ _ _ _ _ _ _ _ _ _ _ _ _ _ _ _ _ _ _ _ _ _ _ _ ?_
      intros
      rename_i w' hm
      go_wp2
      exact HKK.out _ _ _ _ _ _ _ _ _ _ _ _ _ _ _ _ _ _ _ _ _ _ _ _ _ _ _ _ _ _ _ _ _ _ _ _ _ _ _ _ _ _ _ _ _ _ _ _ _ _ _ _ _ _ _ _ _ _ _ _ _ _ _ _ _ _ _ _ _ _ _ _ _ _ _ _ _ _ _ _ _ _ _ _ _ _ _ _ _ _ _ _ _ _ _ _ _ _ _ _ _ _ _ _ _ _ _ _ _ _ _ _ _ _ _ _ _ _ _ _ _ _ _ _ _ _ _ _ _ _ _ _ _ _ _ _ _ _ hm
    | false =>
      go_wp2
      exact HKK.out _ _ _ _ _ _ _ _ _ _ _ _ _ _ _ _ _ _ _ _ _ _ _ _ _ _ _ _ _ _ _ _ _ _ _ _ _ _ _ _ _ _ _ _ _ _ _ _ _ _ _ _ _ _ _ _ _ _ _ _ _ _ _ _ _ _ _ _ _ _ _ _ _ _ _ _ _ _ _ _ _ _ _ _ _ _ _ _ _ _ _ _ _ _ _ _ _ _ _ _ _ _ _ _ _ _ _ _ _ _ _ _ _ _ _ _ _ _ _ _ _ _ _ _ _ _ _ _ _ _ _ _ _ _ _ _ _ _ (⟨8, ⟨#[]⟩, _, _, _, [], [], [], HBX.out, half_one hd (.inr (.inl rfl)), .inl ⟨rfl, rfl, rfl, rfl⟩⟩)
  case inr.inr.inl =>
    go_upto_if 94 with fail
    refine wp_cond_true (by rfl) ?_
    refine form_call _ (by kernel_rfl) HG.out HGW.out HSCB.out Y HBX.out  _ (by exact fun p a t v w' h => HQ.out p a t v w' h) _ _ _ _ _ _ _ _ _ _ _ _ _ _ _ _ _ _ _ _ _ _ _ _ _ _ _ _ _ _ _ _ _ _ _ _ _ _ _ _ _ _ _ _ _ _ _ _ _ _ _ _ _ _ _ _ _ _ _ _ _ _ _ _ _ _ _ _ _ _ _ _ _ _ _ _ _ _ _ _ _ _ _ _ _ _ _ _ _ _ _ _ _ _ _ _ _ _ _ _ _ _ _ _ _ _ _ _ _ _ _ _ _ _ _ _ _ _ _ _ _ _ _ _ _ _ _ _ _ _ _ _ _ _ _ _ _ _ _ _ _ _ _ _ _ _ _ _ _ _ _ _ _ _ _ _ _ _ _ _ _ _ _ _ _ _ _ _ _ _ _ _ _ _ _ _ _ _ _ _ _ _ _ _ _ _ _ _ _ _ _ _ _ _ _ _ _ _ _ _ _ _ _ _ _ _ _ _ _ _ _ _ _ _ _ _ _ _ _ _ _ _ ?_
    intros
    rename_i w' hm
    go_wp2
    exact HKK.out _ _ _ _ _ _ _ _ _ _ _ _ _ _ _ _ _ _ _ _ _ _ _ _ _ _ _ _ _ _ _ _ _ _ _ _ _ _ _ _ _ _ _ _ _ _ _ _ _ _ _ _ _ _ _ _ _ _ _ _ _ _ _ _ _ _ _ _ _ _ _ _ _ _ _ _ _ _ _ _ _ _ _ _ _ _ _ _ _ _ _ _ _ _ _ _ _ _ _ _ _ _ _ _ _ _ _ _ _ _ _ _ _ _ _ _ _ _ _ _ _ _ _ _ _ _ _ _ _ _ _ _ _ _ _ _ _ _ hm
  case inr.inr.inr.inl =>
    go_upto_if 109 with (go_at_call 21; refine (next_any _ sb 3 (by omega) HBX.out.src).mono ?_; rintro e X2 ⟨⟨q3, hq3, rfl⟩, hs1, hg1⟩; have HB2 := Lib.hid (HBX.out.step hg1 hs1); clear hs1 hg1; have cb0 : X2.cell? ⟨w.heap.size, 0, none⟩ = some (.slice Av nv cv) := (HB2.out.sc HSCB.out HNE.out).cell 0; have cb1 : X2.cell? ⟨w.heap.size, 1, none⟩ = some (.slice Aa na ca) := (HB2.out.sc HSCB.out HNE.out).cell 1; have cb2 : X2.cell? ⟨w.heap.size, 2, none⟩ = some (.slice Af nf cf) := (HB2.out.sc HSCB.out HNE.out).cell 2; have cb3 : X2.cell? ⟨w.heap.size, 3, none⟩ = some (.bool false) := (HB2.out.sc HSCB.out HNE.out).cell 3; have cb4 : X2.cell? ⟨w.heap.size, 4, none⟩ = some (.bool loop) := (HB2.out.sc HSCB.out HNE.out).cell 4; have cx0 : X2.cell? ⟨w1.heap.size, 0, none⟩ = some (.int .i64 8) := HB2.out.blk.cell 0; have cx1 : X2.cell? ⟨w1.heap.size, 1, none⟩ = some (.string ⟨#[]⟩) := HB2.out.blk.cell 1; have cx2 : X2.cell? ⟨w1.heap.size, 2, none⟩ = some (.slice none 0 0) := HB2.out.blk.cell 2; have cx3 : X2.cell? ⟨w1.heap.size, 3, none⟩ = some (.slice none 0 0) := HB2.out.blk.cell 3; have cx4 : X2.cell? ⟨w1.heap.size, 4, none⟩ = some (.slice none 0 0) := HB2.out.blk.cell 4; have cz0 : X2.frozen? ⟨w1.heap.size, 0, none⟩ = false := HB2.out.blk.frozen 0; have cz1 : X2.frozen? ⟨w1.heap.size, 1, none⟩ = false := HB2.out.blk.frozen 1; have cz2 : X2.frozen? ⟨w1.heap.size, 2, none⟩ = false := HB2.out.blk.frozen 2; have cz3 : X2.frozen? ⟨w1.heap.size, 3, none⟩ = false := HB2.out.blk.frozen 3; have cz4 : X2.frozen? ⟨w1.heap.size, 4, none⟩ = false := HB2.out.blk.frozen 4; have clt : w1.heap.size < X2.heap.size := HB2.out.bs)
    rcases (by omega : q3 = 0 ∨ q3 = 1 ∨ q3 = 2) with rfl | rfl | rfl
    case inr.inr =>
      refine wp_cond_true (by rfl) ?_
      refine form_ret _ (by kernel_rfl) HG.out HGW.out HSCB.out X2 HB2.out  _ (by exact fun p a t v w' h => HQ.out p a t v w' h) _ _ _ _ _ _ _ _ _ _ _ _ _ _ _ _ _ _ _ _ _ _ _ _ _ _ _ _ _ _ _ _ _ _ _ _ _ _ _ _ _ _ _ _ _ _ _ _ _ _ _ _ _ _ _ _ _ _ _ _ _ _ _ _ _ _ _ _ _ _ _ _ _ _ _ _ _ _ _ _ _ _ _ _ _ _ _ _ _ _ _ _ _ _ _ _ _ _ _ _ _ _ _ _ _ _ _ _ _ _ _ _ _ _ _ _ _ _ _ _ _ _ _ _ _ _ _ _ _ _ _ _ _ _ _ _ _ _ _ _ _ _ _ _ _ _ _ _ _ _ _ _ _ _ _ _ _ _ _ _ _ _ _ _ _ _ _ _ _ _ _ _ _ _ _ _ _ _ _ _ _ _ _ _ _ _ _ _ _ _ _ _ _ _ _ _ _ _ _ _ _ _ _ _ _ _ _ _ _ _ _ _ _ _ _ _ _ _ _ _ _ _ ?_
      intros
      rename_i w' hm
      go_wp2
      exact HKK.out _ _ _ _ _ _ _ _ _ _ _ _ _ _ _ _ _ _ _ _ _ _ _ _ _ _ _ _ _ _ _ _ _ _ _ _ _ _ _ _ _ _ _ _ _ _ _ _ _ _ _ _ _ _ _ _ _ _ _ _ _ _ _ _ _ _ _ _ _ _ _ _ _ _ _ _ _ _ _ _ _ _ _ _ _ _ _ _ _ _ _ _ _ _ _ _ _ _ _ _ _ _ _ _ _ _ _ _ _ _ _ _ _ _ _ _ _ _ _ _ _ _ _ _ _ _ _ _ _ _ _ _ _ _ _ _ _ _ hm
    case inl =>
      clear ab0 ab1 ab2 ab3 ab4 ax0 ax1 ax2 ax3 ax4 az0 az1 az2 az3 az4 alt
      go_wp2
      exact HKK.out _ _ _ _ _ _ _ _ _ _ _ _ _ _ _ _ _ _ _ _ _ _ _ _ _ _ _ _ _ _ _ _ _ _ _ _ _ _ _ _ _ _ _ _ _ _ _ _ _ _ _ _ _ _ _ _ _ _ _ _ _ _ _ _ _ _ _ _ _ _ _ _ _ _ _ _ _ _ _ _ _ _ _ _ _ _ _ _ _ _ _ _ _ _ _ _ _ _ _ _ _ _ _ _ _ _ _ _ _ _ _ _ _ _ _ _ _ _ _ _ _ _ _ _ _ _ _ _ _ _ _ _ _ _ _ _ _ _ (⟨8, ⟨#[]⟩, _, _, _, [], [], [], HB2.out, half_one hd (.inr (.inl rfl)), .inl ⟨rfl, rfl, rfl, rfl⟩⟩)
    case inr.inl =>
      clear ab0 ab1 ab2 ab3 ab4 ax0 ax1 ax2 ax3 ax4 az0 az1 az2 az3 az4 alt
      go_wp2
      exact HKK.out _ _ _ _ _ _ _ _ _ _ _ _ _ _ _ _ _ _ _ _ _ _ _ _ _ _ _ _ _ _ _ _ _ _ _ _ _ _ _ _ _ _ _ _ _ _ _ _ _ _ _ _ _ _ _ _ _ _ _ _ _ _ _ _ _ _ _ _ _ _ _ _ _ _ _ _ _ _ _ _ _ _ _ _ _ _ _ _ _ _ _ _ _ _ _ _ _ _ _ _ _ _ _ _ _ _ _ _ _ _ _ _ _ _ _ _ _ _ _ _ _ _ _ _ _ _ _ _ _ _ _ _ _ _ _ _ _ _ (⟨8, ⟨#[]⟩, _, _, _, [], [], [], HB2.out, half_one hd (.inr (.inl rfl)), .inl ⟨rfl, rfl, rfl, rfl⟩⟩)
  case inr.inr.inr.inr.inl =>
    have h2d : 2 ≤ d := by have h := HJD.out; omega
    have H2 := Lib.hid h2d
    clear h2d
    go_upto_if 123 with fail
    refine wp_cond_true (by rfl) ?_
    refine form_if _ (by kernel_rfl) HG.out HGW.out HSCB.out Y HBX.out H2.out _ (by exact fun p a t v w' h => HQ.out p a t v w' h) _ _ _ _ _ _ _ _ _ _ _ _ _ _ _ _ _ _ _ _ _ _ _ _ _ _ _ _ _ _ _ _ _ _ _ _ _ _ _ _ _ _ _ _ _ _ _ _ _ _ _ _ _ _ _ _ _ _ _ _ _ _ _ _ _ _ _ _ _ _ _ _ _ _ _ _ _ _ _ _ _ _ _ _ _ _ _ _ _ _ _ _ _ _ _ _ _ _ _ _ _ _ _ _ _ _ _ _ _ _ _ _ _ _ _ _ _ _ _ _ _ _ _ _ _ _ _ _ _ _ _ _ _ _ _ _ _ _ _ _ _ _ _ _ _ _ _ _ _ _ _ _ _ _ _ _ _ _ _ _ _ _ _ _ _ _ _ _ _ _ _ _ _ _ _ _ _ _ _ _ _ _ _ _ _ _ _ _ _ _ _ _ _ _ _ _ _ _ _ _ _ _ _ _ _ _ _ _ _ _ _ _ _ _ _ _ _ _ _ _ _ _ ?_
    intros
    rename_i w' hm
    go_wp2
    exact HKK.out _ _ _ _ _ _ _ _ _ _ _ _ _ _ _ _ _ _ _ _ _ _ _ _ _ _ _ _ _ _ _ _ _ _ _ _ _ _ _ _ _ _ _ _ _ _ _ _ _ _ _ _ _ _ _ _ _ _ _ _ _ _ _ _ _ _ _ _ _ _ _ _ _ _ _ _ _ _ _ _ _ _ _ _ _ _ _ _ _ _ _ _ _ _ _ _ _ _ _ _ _ _ _ _ _ _ _ _ _ _ _ _ _ _ _ _ _ _ _ _ _ _ _ _ _ _ _ _ _ _ _ _ _ _ _ _ _ _ hm
  case inr.inr.inr.inr.inr.inl =>
    have h2d : 2 ≤ d := by have h := HJD.out; omega
    have H2 := Lib.hid h2d
    clear h2d
    go_upto_if 123 with fail
    refine wp_cond_true (by rfl) ?_
    refine form_if _ (by kernel_rfl) HG.out HGW.out HSCB.out Y HBX.out H2.out _ (by exact fun p a t v w' h => HQ.out p a t v w' h) _ _ _ _ _ _ _ _ _ _ _ _ _ _ _ _ _ _ _ _ _ _ _ _ _ _ _ _ _ _ _ _ _ _ _ _ _ _ _ _ _ _ _ _ _ _ _ _ _ _ _ _ _ _ _ _ _ _ _ _ _ _ _ _ _ _ _ _ _ _ _ _ _ _ _ _ _ _ _ _ _ _ _ _ _ _ _ _ _ _ _ _ _ _ _ _ _ _ _ _ _ _ _ _ _ _ _ _ _ _ _ _ _ _ _ _ _ _ _ _ _ _ _ _ _ _ _ _ _ _ _ _ _ _ _ _ _ _ _ _ _ _ _ _ _ _ _ _ _ _ _ _ _ _ _ _ _ _ _ _ _ _ _ _ _ _ _ _ _ _ _ _ _ _ _ _ _ _ _ _ _ _ _ _ _ _ _ _ _ _ _ _ _ _ _ _ _ _ _ _ _ _ _ _ _ _ _ _ _ _ _ _ _ _ _ _ _ _ _ _ _ _ ?_
    intros
    rename_i w' hm
    go_wp2
    exact HKK.out _ _ _ _ _ _ _ _ _ _ _ _ _ _ _ _ _ _ _ _ _ _ _ _ _ _ _ _ _ _ _ _ _ _ _ _ _ _ _ _ _ _ _ _ _ _ _ _ _ _ _ _ _ _ _ _ _ _ _ _ _ _ _ _ _ _ _ _ _ _ _ _ _ _ _ _ _ _ _ _ _ _ _ _ _ _ _ _ _ _ _ _ _ _ _ _ _ _ _ _ _ _ _ _ _ _ _ _ _ _ _ _ _ _ _ _ _ _ _ _ _ _ _ _ _ _ _ _ _ _ _ _ _ _ _ _ _ _ hm
  case inr.inr.inr.inr.inr.inr.inl =>
    have h2d : 2 ≤ d := by have h := HJD.out; omega
    have H2 := Lib.hid h2d
    clear h2d
    go_upto_if 151 with fail
    refine wp_cond_true (by rfl) ?_
    refine form_while _ (by kernel_rfl) HG.out HGW.out HSCB.out Y HBX.out H2.out _ (by exact fun p a t v w' h => HQ.out p a t v w' h) _ _ _ _ _ _ _ _ _ _ _ _ _ _ _ _ _ _ _ _ _ _ _ _ _ _ _ _ _ _ _ _ _ _ _ _ _ _ _ _ _ _ _ _ _ _ _ _ _ _ _ _ _ _ _ _ _ _ _ _ _ _ _ _ _ _ _ _ _ _ _ _ _ _ _ _ _ _ _ _ _ _ _ _ _ _ _ _ _ _ _ _ _ _ _ _ _ _ _ _ _ _ _ _ _ _ _ _ _ _ _ _ _ _ _ _ _ _ _ _ _ _ _ _ _ _ _ _ _ _ _ _ _ _ _ _ _ _ _ _ _ _ _ _ _ _ _ _ _ _ _ _ _ _ _ _ _ _ _ _ _ _ _ _ _ _ _ _ _ _ _ _ _ _ _ _ _ _ _ _ _ _ _ _ _ _ _ _ _ _ _ _ _ _ _ _ _ _ _ _ _ _ _ _ _ _ _ _ _ _ _ _ _ _ _ _ _ _ _ _ _ _ ?_
    intros
    rename_i w' hm
    go_wp2
    exact HKK.out _ _ _ _ _ _ _ _ _ _ _ _ _ _ _ _ _ _ _ _ _ _ _ _ _ _ _ _ _ _ _ _ _ _ _ _ _ _ _ _ _ _ _ _ _ _ _ _ _ _ _ _ _ _ _ _ _ _ _ _ _ _ _ _ _ _ _ _ _ _ _ _ _ _ _ _ _ _ _ _ _ _ _ _ _ _ _ _ _ _ _ _ _ _ _ _ _ _ _ _ _ _ _ _ _ _ _ _ _ _ _ _ _ _ _ _ _ _ _ _ _ _ _ _ _ _ _ _ _ _ _ _ _ _ _ _ _ _ hm
  case inr.inr.inr.inr.inr.inr.inr.inl =>
    have h2d : 2 ≤ d := by have h := HJD.out; omega
    have H2 := Lib.hid h2d
    clear h2d
    go_upto_if 151 with fail
    refine wp_cond_true (by rfl) ?_
    refine form_while _ (by kernel_rfl) HG.out HGW.out HSCB.out Y HBX.out H2.out _ (by exact fun p a t v w' h => HQ.out p a t v w' h) _ _ _ _ _ _ _ _ _ _ _ _ _ _ _ _ _ _ _ _ _ _ _ _ _ _ _ _ _ _ _ _ _ _ _ _ _ _ _ _ _ _ _ _ _ _ _ _ _ _ _ _ _ _ _ _ _ _ _ _ _ _ _ _ _ _ _ _ _ _ _ _ _ _ _ _ _ _ _ _ _ _ _ _ _ _ _ _ _ _ _ _ _ _ _ _ _ _ _ _ _ _ _ _ _ _ _ _ _ _ _ _ _ _ _ _ _ _ _ _ _ _ _ _ _ _ _ _ _ _ _ _ _ _ _ _ _ _ _ _ _ _ _ _ _ _ _ _ _ _ _ _ _ _ _ _ _ _ _ _ _ _ _ _ _ _ _ _ _ _ _ _ _ _ _ _ _ _ _ _ _ _ _ _ _ _ _ _ _ _ _ _ _ _ _ _ _ _ _ _ _ _ _ _ _ _ _ _ _ _ _ _ _ _ _ _ _ _ _ _ _ _ ?_
    intros
    rename_i w' hm
    go_wp2
    exact HKK.out _ _ _ _ _ _ _ _ _ _ _ _ _ _ _ _ _ _ _ _ _ _ _ _ _ _ _ _ _ _ _ _ _ _ _ _ _ _ _ _ _ _ _ _ _ _ _ _ _ _ _ _ _ _ _ _ _ _ _ _ _ _ _ _ _ _ _ _ _ _ _ _ _ _ _ _ _ _ _ _ _ _ _ _ _ _ _ _ _ _ _ _ _ _ _ _ _ _ _ _ _ _ _ _ _ _ _ _ _ _ _ _ _ _ _ _ _ _ _ _ _ _ _ _ _ _ _ _ _ _ _ _ _ _ _ _ _ _ hm
  case inr.inr.inr.inr.inr.inr.inr.inr.inl =>
    cases loop with
    | false =>
      go_wp2
      exact HKK.out _ _ _ _ _ _ _ _ _ _ _ _ _ _ _ _ _ _ _ _ _ _ _ _ _ _ _ _ _ _ _ _ _ _ _ _ _ _ _ _ _ _ _ _ _ _ _ _ _ _ _ _ _ _ _ _ _ _ _ _ _ _ _ _ _ _ _ _ _ _ _ _ _ _ _ _ _ _ _ _ _ _ _ _ _ _ _ _ _ _ _ _ _ _ _ _ _ _ _ _ _ _ _ _ _ _ _ _ _ _ _ _ _ _ _ _ _ _ _ _ _ _ _ _ _ _ _ _ _ _ _ _ _ _ _ _ _ _ (⟨8, ⟨#[]⟩, _, _, _, [], [], [], HBX.out, half_one hd (.inr (.inl rfl)), .inl ⟨rfl, rfl, rfl, rfl⟩⟩)
    | true =>
      go_upto_if 175 with (go_at_call 21; refine (next_any _ sb 2 (by omega) HBX.out.src).mono ?_; rintro e X2 ⟨⟨q3, hq3, rfl⟩, hs1, hg1⟩; have HB2 := Lib.hid (HBX.out.step hg1 hs1); clear hs1 hg1; have cb0 : X2.cell? ⟨w.heap.size, 0, none⟩ = some (.slice Av nv cv) := (HB2.out.sc HSCB.out HNE.out).cell 0; have cb1 : X2.cell? ⟨w.heap.size, 1, none⟩ = some (.slice Aa na ca) := (HB2.out.sc HSCB.out HNE.out).cell 1; have cb2 : X2.cell? ⟨w.heap.size, 2, none⟩ = some (.slice Af nf cf) := (HB2.out.sc HSCB.out HNE.out).cell 2; have cb3 : X2.cell? ⟨w.heap.size, 3, none⟩ = some (.bool false) := (HB2.out.sc HSCB.out HNE.out).cell 3; have cb4 : X2.cell? ⟨w.heap.size, 4, none⟩ = some (.bool true) := (HB2.out.sc HSCB.out HNE.out).cell 4; have cx0 : X2.cell? ⟨w1.heap.size, 0, none⟩ = some (.int .i64 8) := HB2.out.blk.cell 0; have cx1 : X2.cell? ⟨w1.heap.size, 1, none⟩ = some (.string ⟨#[]⟩) := HB2.out.blk.cell 1; have cx2 : X2.cell? ⟨w1.heap.size, 2, none⟩ = some (.slice none 0 0) := HB2.out.blk.cell 2; have cx3 : X2.cell? ⟨w1.heap.size, 3, none⟩ = some (.slice none 0 0) := HB2.out.blk.cell 3; have cx4 : X2.cell? ⟨w1.heap.size, 4, none⟩ = some (.slice none 0 0) := HB2.out.blk.cell 4; have cz0 : X2.frozen? ⟨w1.heap.size, 0, none⟩ = false := HB2.out.blk.frozen 0; have cz1 : X2.frozen? ⟨w1.heap.size, 1, none⟩ = false := HB2.out.blk.frozen 1; have cz2 : X2.frozen? ⟨w1.heap.size, 2, none⟩ = false := HB2.out.blk.frozen 2; have cz3 : X2.frozen? ⟨w1.heap.size, 3, none⟩ = false := HB2.out.blk.frozen 3; have cz4 : X2.frozen? ⟨w1.heap.size, 4, none⟩ = false := HB2.out.blk.frozen 4; have clt : w1.heap.size < X2.heap.size := HB2.out.bs)
      rcases (by omega : q3 = 0 ∨ q3 = 1) with rfl | rfl
      case inr =>
        refine wp_cond_true (by rfl) ?_
        refine form_break _ (by kernel_rfl) HG.out HGW.out HSCB.out X2 HB2.out rfl _ (by exact fun p a t v w' h => HQ.out p a t v w' h) _ _ _ _ _ _ _ _ _ _ _ _ _ _ _ _ _ _ _ _ _ _ _ _ _ _ _ _ _ _ _ _ _ _ _ _ _ _ _ _ _ _ _ _ _ _ _ _ _ _ _ _ _ _ _ _ _ _ _ _ _ _ _ _ _ _ _ _ _ _ _ _ _ _ _ _ _ _ _ _ _ _ _ _ _ _ _ _ _ _ _ _ _ _ _ _ _ _ _ _ _ _ _ _ _ _ _ _ _ _ _ _ _ _ _ _ _ _ _ _ _ _ _ _ _ _ _ _ _ _ _ _ _ _ _ _ _ _ _ _ _ _ _ _ _ _ _ _ _ _ _ _ _ _ _ _ _ _ _ _ _ _ _ _ _ _ _ _ _ _ _ _ _ _ _ _ _ _ _ _ _ _ _ _ _ _ _ _ _ _ _ _ _ _ _ _ _ _ _ _ _ _ _ _ _ _ _ _ _ _ _ _ _ _ _ _ _ _ _ _ _ _ ?_
        intros
        rename_i w' hm
        go_wp2
        exact HKK.out _ _ _ _ _ _ _ _ _ _ _ _ _ _ _ _ _ _ _ _ _ _ _ _ _ _ _ _ _ _ _ _ _ _ _ _ _ _ _ _ _ _ _ _ _ _ _ _ _ _ _ _ _ _ _ _ _ _ _ _ _ _ _ _ _ _ _ _ _ _ _ _ _ _ _ _ _ _ _ _ _ _ _ _ _ _ _ _ _ _ _ _ _ _ _ _ _ _ _ _ _ _ _ _ _ _ _ _ _ _ _ _ _ _ _ _ _ _ _ _ _ _ _ _ _ _ _ _ _ _ _ _ _ _ _ _ _ _ hm
      case inl =>
        clear ab0 ab1 ab2 ab3 ab4 ax0 ax1 ax2 ax3 ax4 az0 az1 az2 az3 az4 alt
        go_wp2
        exact HKK.out _ _ _ _ _ _ _ _ _ _ _ _ _ _ _ _ _ _ _ _ _ _ _ _ _ _ _ _ _ _ _ _ _ _ _ _ _ _ _ _ _ _ _ _ _ _ _ _ _ _ _ _ _ _ _ _ _ _ _ _ _ _ _ _ _ _ _ _ _ _ _ _ _ _ _ _ _ _ _ _ _ _ _ _ _ _ _ _ _ _ _ _ _ _ _ _ _ _ _ _ _ _ _ _ _ _ _ _ _ _ _ _ _ _ _ _ _ _ _ _ _ _ _ _ _ _ _ _ _ _ _ _ _ _ _ _ _ _ (⟨8, ⟨#[]⟩, _, _, _, [], [], [], HB2.out, half_one hd (.inr (.inl rfl)), .inl ⟨rfl, rfl, rfl, rfl⟩⟩)
  case inr.inr.inr.inr.inr.inr.inr.inr.inr =>
    have d1 : decide (j < 4) = false := decide_eq_false (by omega)
    have e4 : (j == 4) = false := beq_eq_false_iff_ne.2 (by omega)
    have e5 : (j == 5) = false := beq_eq_false_iff_ne.2 (by omega)
    have e6 : (j == 6) = false := beq_eq_false_iff_ne.2 (by omega)
    have e7 : (j == 7) = false := beq_eq_false_iff_ne.2 (by omega)
    have e8 : (j == 8) = false := beq_eq_false_iff_ne.2 (by omega)
    have e9 : (j == 9) = false := beq_eq_false_iff_ne.2 (by omega)
    have e10 : (j == 10) = false := beq_eq_false_iff_ne.2 (by omega)
    have e11 : (j == 11) = false := beq_eq_false_iff_ne.2 (by omega)
    go_wp2
    exact HKK.out _ _ _ _ _ _ _ _ _ _ _ _ _ _ _ _ _ _ _ _ _ _ _ _ _ _ _ _ _ _ _ _ _ _ _ _ _ _ _ _ _ _ _ _ _ _ _ _ _ _ _ _ _ _ _ _ _ _ _ _ _ _ _ _ _ _ _ _ _ _ _ _ _ _ _ _ _ _ _ _ _ _ _ _ _ _ _ _ _ _ _ _ _ _ _ _ _ _ _ _ _ _ _ _ _ _ _ _ _ _ _ _ _ _ _ _ _ _ _ _ _ _ _ _ _ _ _ _ _ _ _ _ _ _ _ _ _ _ (⟨8, ⟨#[]⟩, _, _, _, [], [], [], HBX.out, half_one hd (.inr (.inl rfl)), .inl ⟨rfl, rfl, rfl, rfl⟩⟩)
set_option maxRecDepth 100000 in
set_option maxHeartbeats 8000000 in
theorem k7_any (cc : Code) (hc : (Tryz.f26.body.bind (regOf 7)) = some cc) (Y : World) (d k1 : Nat) (hd2 : d ≤ 1000) (hk : k1 < 14)
    (Q : Exit → Act → World → Prop) (u0 u1 u3 u4 u5 u6 u7 u8 u9 u11 u12 u13 u14 u15 u16 u17 u18 u19 u20 u21 u22 u23 u24 u25 u26 u27 u28 u29 u30 u31 u32 u33 u34 u35 u36 u37 u38 u39 u40 u41 u42 u43 u44 u45 u46 u47 u48 u49 u50 u51 u52 u53 u54 u55 u56 u57 u58 u59 u60 u61 u62 u63 u64 u65 u66 u67 u68 u69 u70 u71 u72 u73 u74 u75 u76 u77 u78 u79 u80 u81 u82 u83 u84 u85 u86 u87 u88 u89 u90 u91 u92 u93 u94 u95 u96 u97 u98 u99 u100 u101 u102 u103 u104 u105 u106 u107 u108 u109 u110 u111 u112 u113 u114 u115 u116 u117 u118 u119 u120 u121 u122 u123 u124 u125 u126 u127 u128 u129 u130 u131 u132 u133 u134 u135 u136 u137 u138 u139 u140 u141 u142 u143 u144 u145 u146 u147 u148 u149 u150 u151 u152 u153 u154 u155 u156 u157 u158 u159 u160 u161 u162 u163 u164 u165 u166 u167 u168 u169 u170 u171 u172 u173 u174 u175 u176 u177 u178 u179 u180 u181 u182 u183 u184 u185 u186 u187 u188 u189 u190 u191 u192 u193 u194 u195 u196 u197 u198 u199 u200 u201 u202 u203 u204 u205 u206 u207 u208 u209 u210 u211 u212 u213 u214 u215 u216 u217 u218 u219 u220 u221 u222 u223 u224 u225 : Value) (hK : ∀ (x26 x27 x28 x29 x30 x31 x32 x33 x34 : Value), Q .normal { tmps := #[u0, u1, .int .i64 (d : Int), u3, u4, u5, u6, u7, u8, u9, .int .i64 (k1 : Int), u11, u12, u13, u14, u15, u16, u17, u18, u19, u20, u21, u22, u23, u24, u25, x26, x27, x28, x29, x30, x31, x32, x33, x34, .bool (decide (d < 2) && decide (7 ≤ k1) && decide (k1 < 11)), u36, u37, u38, u39, u40, u41, u42, u43, u44, u45, u46, u47, u48, u49, u50, u51, u52, u53, u54, u55, u56, u57, u58, u59, u60, u61, u62, u63, u64, u65, u66, u67, u68, u69, u70, u71, u72, u73, u74, u75, u76, u77, u78, u79, u80, u81, u82, u83, u84, u85, u86, u87, u88, u89, u90, u91, u92, u93, u94, u95, u96, u97, u98, u99, u100, u101, u102, u103, u104, u105, u106, u107, u108, u109, u110, u111, u112, u113, u114, u115, u116, u117, u118, u119, u120, u121, u122, u123, u124, u125, u126, u127, u128, u129, u130, u131, u132, u133, u134, u135, u136, u137, u138, u139, u140, u141, u142, u143, u144, u145, u146, u147, u148, u149, u150, u151, u152, u153, u154, u155, u156, u157, u158, u159, u160, u161, u162, u163, u164, u165, u166, u167, u168, u169, u170, u171, u172, u173, u174, u175, u176, u177, u178, u179, u180, u181, u182, u183, u184, u185, u186, u187, u188, u189, u190, u191, u192, u193, u194, u195, u196, u197, u198, u199, u200, u201, u202, u203, u204, u205, u206, u207, u208, u209, u210, u211, u212, u213, u214, u215, u216, u217, u218, u219, u220, u221, u222, u223, u224, u225], defers := [] } Y) : cc.wp Tryz.prog Q { tmps := #[u0, u1, .int .i64 (d : Int), u3, u4, u5, u6, u7, u8, u9, .int .i64 (k1 : Int), u11, u12, u13, u14, u15, u16, u17, u18, u19, u20, u21, u22, u23, u24, u25, u26, u27, u28, u29, u30, u31, u32, u33, u34, u35, u36, u37, u38, u39, u40, u41, u42, u43, u44, u45, u46, u47, u48, u49, u50, u51, u52, u53, u54, u55, u56, u57, u58, u59, u60, u61, u62, u63, u64, u65, u66, u67, u68, u69, u70, u71, u72, u73, u74, u75, u76, u77, u78, u79, u80, u81, u82, u83, u84, u85, u86, u87, u88, u89, u90, u91, u92, u93, u94, u95, u96, u97, u98, u99, u100, u101, u102, u103, u104, u105, u106, u107, u108, u109, u110, u111, u112, u113, u114, u115, u116, u117, u118, u119, u120, u121, u122, u123, u124, u125, u126, u127, u128, u129, u130, u131, u132, u133, u134, u135, u136, u137, u138, u139, u140, u141, u142, u143, u144, u145, u146, u147, u148, u149, u150, u151, u152, u153, u154, u155, u156, u157, u158, u159, u160, u161, u162, u163, u164, u165, u166, u167, u168, u169, u170, u171, u172, u173, u174, u175, u176, u177, u178, u179, u180, u181, u182, u183, u184, u185, u186, u187, u188, u189, u190, u191, u192, u193, u194, u195, u196, u197, u198, u199, u200, u201, u202, u203, u204, u205, u206, u207, u208, u209, u210, u211, u212, u213, u214, u215, u216, u217, u218, u219, u220, u221, u222, u223, u224, u225], defers := [] } Y := by
  have HKK := Lib.hid hK
  have hcc : Tryz.f26.body.bind (regOf 7) = some cc := hc
  simp only [Tryz.f26, regOf, Nat.reduceEqDiff, Option.bind_some, ↓reduceIte, Option.none_or, Option.or_none, Option.some.injEq] at hcc
  subst hcc
  clear hc hK
  by_cases hm3 : d < 2
  · have d1 : decide ((d : Int) < 2) = true := decide_eq_true (by omega)
    by_cases h7 : 7 ≤ k1
    · have d2 : decide ((k1 : Int) ≥ 7) = true := decide_eq_true (by omega)
      have d3 : decide (7 ≤ (k1 : Int)) = true := decide_eq_true (by omega)
      by_cases h11 : k1 < 11
      · have d4 : decide ((k1 : Int) < 11) = true := decide_eq_true (by omega)
        have hq := HKK.out
        rw [decide_eq_true hm3, decide_eq_true h7, decide_eq_true h11] at hq
        have HQQ := Lib.hid hq
        clear hq HKK
        go_wp2
        exact HQQ.out _ _ _ _ _ _ _ _ _
      · have d4 : decide ((k1 : Int) < 11) = false := decide_eq_false (by omega)
        have hq := HKK.out
        rw [decide_eq_false h11, Bool.and_false] at hq
        have HQQ := Lib.hid hq
        clear hq HKK
        go_wp2
        exact HQQ.out _ _ _ _ _ _ _ _ _
    · have d2 : decide ((k1 : Int) ≥ 7) = false := decide_eq_false (by omega)
      have d3 : decide (7 ≤ (k1 : Int)) = false := decide_eq_false (by omega)
      have hq := HKK.out
      rw [decide_eq_false h7, Bool.and_false, Bool.false_and] at hq
      have HQQ := Lib.hid hq
      clear hq HKK
      go_wp2
      exact HQQ.out _ _ _ _ _ _ _ _ _
  · have d1 : decide ((d : Int) < 2) = false := decide_eq_false (by omega)
    have hq := HKK.out
    rw [decide_eq_false hm3, Bool.false_and, Bool.false_and] at hq
    have HQQ := Lib.hid hq
    clear hq HKK
    go_wp2
    exact HQQ.out _ _ _ _ _ _ _ _ _
set_option maxRecDepth 100000 in
set_option maxHeartbeats 8000000 in
theorem kc_any (cc : Code) (hc : (Tryz.f26.body.bind (condOf 35)) = some cc) (Y : World) (d k1 : Nat) (hk : k1 < 14)
    (Q : Exit → Act → World → Prop) (u0 u1 u2 u3 u4 u5 u6 u7 u8 u9 u11 u12 u13 u14 u15 u16 u17 u18 u19 u20 u21 u22 u23 u24 u25 u26 u27 u28 u29 u30 u31 u32 u33 u34 u36 u37 u38 u39 u40 u41 u42 u43 u44 u45 u46 u47 u48 u49 u50 u51 u52 u53 u54 u55 u56 u57 u58 u59 u60 u61 u62 u63 u64 u65 u66 u67 u68 u69 u70 u71 u72 u73 u74 u75 u76 u77 u78 u79 u80 u81 u82 u83 u84 u85 u86 u87 u88 u89 u90 u91 u92 u93 u94 u95 u96 u97 u98 u99 u100 u101 u102 u103 u104 u105 u106 u107 u108 u109 u110 u111 u112 u113 u114 u115 u116 u117 u118 u119 u120 u121 u122 u123 u124 u125 u126 u127 u128 u129 u130 u131 u132 u133 u134 u135 u136 u137 u138 u139 u140 u141 u142 u143 u144 u145 u146 u147 u148 u149 u150 u151 u152 u153 u154 u155 u156 u157 u158 u159 u160 u161 u162 u163 u164 u165 u166 u167 u168 u169 u170 u171 u172 u173 u174 u175 u176 u177 u178 u179 u180 u181 u182 u183 u184 u185 u186 u187 u188 u189 u190 u191 u192 u193 u194 u195 u196 u197 u198 u199 u200 u201 u202 u203 u204 u205 u206 u207 u208 u209 u210 u211 u212 u213 u214 u215 u216 u217 u218 u219 u220 u221 u222 u223 u224 u225 : Value) (hK : ∀ j : Int, 0 ≤ j → j < 14 → (j < 7 ∨ 11 ≤ j ∨ 2 ≤ d) → Q .normal { tmps := #[u0, u1, u2, u3, u4, u5, u6, u7, u8, u9, .int .i64 j, u11, u12, u13, u14, u15, u16, u17, u18, u19, u20, u21, u22, u23, u24, u25, u26, u27, u28, u29, u30, u31, u32, u33, u34, .bool (decide (d < 2) && decide (7 ≤ k1) && decide (k1 < 11)), u36, u37, u38, u39, u40, u41, u42, u43, u44, u45, u46, u47, u48, u49, u50, u51, u52, u53, u54, u55, u56, u57, u58, u59, u60, u61, u62, u63, u64, u65, u66, u67, u68, u69, u70, u71, u72, u73, u74, u75, u76, u77, u78, u79, u80, u81, u82, u83, u84, u85, u86, u87, u88, u89, u90, u91, u92, u93, u94, u95, u96, u97, u98, u99, u100, u101, u102, u103, u104, u105, u106, u107, u108, u109, u110, u111, u112, u113, u114, u115, u116, u117, u118, u119, u120, u121, u122, u123, u124, u125, u126, u127, u128, u129, u130, u131, u132, u133, u134, u135, u136, u137, u138, u139, u140, u141, u142, u143, u144, u145, u146, u147, u148, u149, u150, u151, u152, u153, u154, u155, u156, u157, u158, u159, u160, u161, u162, u163, u164, u165, u166, u167, u168, u169, u170, u171, u172, u173, u174, u175, u176, u177, u178, u179, u180, u181, u182, u183, u184, u185, u186, u187, u188, u189, u190, u191, u192, u193, u194, u195, u196, u197, u198, u199, u200, u201, u202, u203, u204, u205, u206, u207, u208, u209, u210, u211, u212, u213, u214, u215, u216, u217, u218, u219, u220, u221, u222, u223, u224, u225], defers := [] } Y) : cc.wp Tryz.prog Q { tmps := #[u0, u1, u2, u3, u4, u5, u6, u7, u8, u9, .int .i64 (k1 : Int), u11, u12, u13, u14, u15, u16, u17, u18, u19, u20, u21, u22, u23, u24, u25, u26, u27, u28, u29, u30, u31, u32, u33, u34, .bool (decide (d < 2) && decide (7 ≤ k1) && decide (k1 < 11)), u36, u37, u38, u39, u40, u41, u42, u43, u44, u45, u46, u47, u48, u49, u50, u51, u52, u53, u54, u55, u56, u57, u58, u59, u60, u61, u62, u63, u64, u65, u66, u67, u68, u69, u70, u71, u72, u73, u74, u75, u76, u77, u78, u79, u80, u81, u82, u83, u84, u85, u86, u87, u88, u89, u90, u91, u92, u93, u94, u95, u96, u97, u98, u99, u100, u101, u102, u103, u104, u105, u106, u107, u108, u109, u110, u111, u112, u113, u114, u115, u116, u117, u118, u119, u120, u121, u122, u123, u124, u125, u126, u127, u128, u129, u130, u131, u132, u133, u134, u135, u136, u137, u138, u139, u140, u141, u142, u143, u144, u145, u146, u147, u148, u149, u150, u151, u152, u153, u154, u155, u156, u157, u158, u159, u160, u161, u162, u163, u164, u165, u166, u167, u168, u169, u170, u171, u172, u173, u174, u175, u176, u177, u178, u179, u180, u181, u182, u183, u184, u185, u186, u187, u188, u189, u190, u191, u192, u193, u194, u195, u196, u197, u198, u199, u200, u201, u202, u203, u204, u205, u206, u207, u208, u209, u210, u211, u212, u213, u214, u215, u216, u217, u218, u219, u220, u221, u222, u223, u224, u225], defers := [] } Y := by
  have HKK := Lib.hid hK
  have hcc : Tryz.f26.body.bind (condOf 35) = some cc := hc
  simp only [Tryz.f26, condOf, Nat.reduceEqDiff, Option.bind_some, ↓reduceIte, Option.none_or, Option.or_none, Option.some.injEq] at hcc
  subst hcc
  clear hc hK
  by_cases h1 : d < 2 ∧ 7 ≤ k1 ∧ k1 < 11
  · have hq := HKK.out
    rw [decide_eq_true h1.1, decide_eq_true h1.2.1, decide_eq_true h1.2.2] at hq ⊢
    have HQQ := Lib.hid hq
    clear h1 hq HKK
    go_wp2
    exact HQQ.out 0 (by omega) (by omega) (.inl (by omega))
  · have hq := HKK.out
    have e : (decide (d < 2) && decide (7 ≤ k1) && decide (k1 < 11)) = false := by
      by_cases q1 : d < 2
      · by_cases q2 : 7 ≤ k1
        · rw [decide_eq_false (fun q3 => h1 ⟨q1, q2, q3⟩), Bool.and_false]
        · rw [decide_eq_false q2, Bool.and_false, Bool.false_and]
      · rw [decide_eq_false q1, Bool.false_and, Bool.false_and]
    rw [e] at hq ⊢
    have H1 := Lib.hid h1
    have HQQ := Lib.hid hq
    clear h1 e hq HKK
    go_wp2
    exact HQQ.out (k1 : Int) (by omega) (by omega) (by have := H1.out; omega)
set_option maxRecDepth 100000 in
set_option maxHeartbeats 8000000 in
theorem b10_any (cc : Code) (hc : (Tryz.f26.body.bind (regOf 10)) = some cc) (Y : World) (gb na : Nat) (A : Option Addr) (cp : Nat) (hn : na ≤ 400) (c0 : Y.cell? ⟨gb, 1, none⟩ = some (.slice A na cp)) (c3 : Y.cell? ⟨gb, 3, none⟩ = some (.bool false))
    (Q : Exit → Act → World → Prop) (u0 u1 u2 u4 u5 u6 u7 u8 u9 u10 u11 u12 u13 u14 u15 u16 u17 u18 u19 u20 u21 u22 u23 u24 u25 u26 u27 u28 u29 u30 u31 u32 u33 u34 u35 u36 u37 u38 u39 u40 u41 u42 u43 u44 u45 u46 u47 u48 u49 u50 u51 u52 u53 u54 u55 u56 u57 u58 u59 u60 u61 u62 u63 u64 u65 u66 u67 u68 u69 u70 u71 u72 u73 u74 u75 u76 u77 u78 u79 u80 u81 u82 u83 u84 u85 u86 u87 u88 u89 u90 u91 u92 u93 u94 u95 u96 u97 u98 u99 u100 u101 u102 u103 u104 u105 u106 u107 u108 u109 u110 u111 u112 u113 u114 u115 u116 u117 u118 u119 u120 u121 u122 u123 u124 u125 u126 u127 u128 u129 u130 u131 u132 u133 u134 u135 u136 u137 u138 u139 u140 u141 u142 u143 u144 u145 u146 u147 u148 u149 u150 u151 u152 u153 u154 u155 u156 u157 u158 u159 u160 u161 u162 u163 u164 u165 u166 u167 u168 u169 u170 u171 u172 u173 u174 u175 u176 u177 u178 u179 u180 u181 u182 u183 u184 u185 u186 u187 u188 u189 u190 u191 u192 u193 u194 u195 u196 u197 u198 u199 u200 u201 u202 u203 u204 u205 u206 u207 u208 u209 u210 u211 u212 u213 u214 u215 u216 u217 u218 u219 u220 u221 u222 u223 u224 u225 : Value) (hK : ∀ (x37 x38 x39 x40 x41 x42 x43 x44 : Value), Q .normal { tmps := #[u0, u1, u2, .pointer (some ⟨gb, 0, none⟩), u4, u5, u6, u7, u8, u9, u10, u11, .bool (decide (0 < na)), u13, u14, u15, u16, u17, u18, u19, u20, u21, u22, u23, u24, u25, u26, u27, u28, u29, u30, u31, u32, u33, u34, u35, u36, x37, x38, x39, x40, x41, x42, x43, x44, u45, u46, u47, u48, u49, u50, u51, u52, u53, u54, u55, u56, u57, u58, u59, u60, u61, u62, u63, u64, u65, u66, u67, u68, u69, u70, u71, u72, u73, u74, u75, u76, u77, u78, u79, u80, u81, u82, u83, u84, u85, u86, u87, u88, u89, u90, u91, u92, u93, u94, u95, u96, u97, u98, u99, u100, u101, u102, u103, u104, u105, u106, u107, u108, u109, u110, u111, u112, u113, u114, u115, u116, u117, u118, u119, u120, u121, u122, u123, u124, u125, u126, u127, u128, u129, u130, u131, u132, u133, u134, u135, u136, u137, u138, u139, u140, u141, u142, u143, u144, u145, u146, u147, u148, u149, u150, u151, u152, u153, u154, u155, u156, u157, u158, u159, u160, u161, u162, u163, u164, u165, u166, u167, u168, u169, u170, u171, u172, u173, u174, u175, u176, u177, u178, u179, u180, u181, u182, u183, u184, u185, u186, u187, u188, u189, u190, u191, u192, u193, u194, u195, u196, u197, u198, u199, u200, u201, u202, u203, u204, u205, u206, u207, u208, u209, u210, u211, u212, u213, u214, u215, u216, u217, u218, u219, u220, u221, u222, u223, u224, u225], defers := [] } Y) : cc.wp Tryz.prog Q { tmps := #[u0, u1, u2, .pointer (some ⟨gb, 0, none⟩), u4, u5, u6, u7, u8, u9, u10, u11, u12, u13, u14, u15, u16, u17, u18, u19, u20, u21, u22, u23, u24, u25, u26, u27, u28, u29, u30, u31, u32, u33, u34, u35, u36, u37, u38, u39, u40, u41, u42, u43, u44, u45, u46, u47, u48, u49, u50, u51, u52, u53, u54, u55, u56, u57, u58, u59, u60, u61, u62, u63, u64, u65, u66, u67, u68, u69, u70, u71, u72, u73, u74, u75, u76, u77, u78, u79, u80, u81, u82, u83, u84, u85, u86, u87, u88, u89, u90, u91, u92, u93, u94, u95, u96, u97, u98, u99, u100, u101, u102, u103, u104, u105, u106, u107, u108, u109, u110, u111, u112, u113, u114, u115, u116, u117, u118, u119, u120, u121, u122, u123, u124, u125, u126, u127, u128, u129, u130, u131, u132, u133, u134, u135, u136, u137, u138, u139, u140, u141, u142, u143, u144, u145, u146, u147, u148, u149, u150, u151, u152, u153, u154, u155, u156, u157, u158, u159, u160, u161, u162, u163, u164, u165, u166, u167, u168, u169, u170, u171, u172, u173, u174, u175, u176, u177, u178, u179, u180, u181, u182, u183, u184, u185, u186, u187, u188, u189, u190, u191, u192, u193, u194, u195, u196, u197, u198, u199, u200, u201, u202, u203, u204, u205, u206, u207, u208, u209, u210, u211, u212, u213, u214, u215, u216, u217, u218, u219, u220, u221, u222, u223, u224, u225], defers := [] } Y := by
  have HKK := Lib.hid hK
  have hcc : Tryz.f26.body.bind (regOf 10) = some cc := hc
  simp only [Tryz.f26, regOf, Nat.reduceEqDiff, Option.bind_some, ↓reduceIte, Option.none_or, Option.or_none, Option.some.injEq] at hcc
  subst hcc
  clear hc hK
  rcases Nat.eq_zero_or_pos na with h0 | h0
  · subst h0
    go_wp2
    exact HKK.out _ _ _ _ _ _ _ _
  · have d1 : decide ((na : Int) > 0) = true := decide_eq_true (by omega)
    have d2 : decide (0 < (na : Int)) = true := decide_eq_true (by omega)
    have hq := HKK.out
    rw [decide_eq_true h0] at hq
    have HQQ := Lib.hid hq
    clear hq HKK
    go_wp2
    exact HQQ.out _ _ _ _ _ _ _ _
set_option maxRecDepth 100000 in
set_option maxHeartbeats 8000000 in
theorem b11_any (cc : Code) (hc : (Tryz.f26.body.bind (regOf 11)) = some cc) (Y : World) (gb nv : Nat) (A : Option Addr) (cp : Nat) (hn : nv ≤ 400) (c0 : Y.cell? ⟨gb, 0, none⟩ = some (.slice A nv cp)) (c3 : Y.cell? ⟨gb, 3, none⟩ = some (.bool false))
    (Q : Exit → Act → World → Prop) (u0 u1 u2 u4 u5 u6 u7 u8 u9 u10 u11 u12 u13 u14 u15 u16 u17 u18 u19 u20 u21 u22 u23 u24 u25 u26 u27 u28 u29 u30 u31 u32 u33 u34 u35 u36 u37 u38 u39 u40 u41 u42 u43 u44 u45 u46 u47 u48 u49 u50 u51 u52 u53 u54 u55 u56 u57 u58 u59 u60 u61 u62 u63 u64 u65 u66 u67 u68 u69 u70 u71 u72 u73 u74 u75 u76 u77 u78 u79 u80 u81 u82 u83 u84 u85 u86 u87 u88 u89 u90 u91 u92 u93 u94 u95 u96 u97 u98 u99 u100 u101 u102 u103 u104 u105 u106 u107 u108 u109 u110 u111 u112 u113 u114 u115 u116 u117 u118 u119 u120 u121 u122 u123 u124 u125 u126 u127 u128 u129 u130 u131 u132 u133 u134 u135 u136 u137 u138 u139 u140 u141 u142 u143 u144 u145 u146 u147 u148 u149 u150 u151 u152 u153 u154 u155 u156 u157 u158 u159 u160 u161 u162 u163 u164 u165 u166 u167 u168 u169 u170 u171 u172 u173 u174 u175 u176 u177 u178 u179 u180 u181 u182 u183 u184 u185 u186 u187 u188 u189 u190 u191 u192 u193 u194 u195 u196 u197 u198 u199 u200 u201 u202 u203 u204 u205 u206 u207 u208 u209 u210 u211 u212 u213 u214 u215 u216 u217 u218 u219 u220 u221 u222 u223 u224 u225 : Value) (hK : ∀ (x45 x46 x47 x48 x49 x50 x51 x52 : Value), Q .normal { tmps := #[u0, u1, u2, .pointer (some ⟨gb, 0, none⟩), u4, u5, u6, u7, u8, u9, u10, u11, u12, .bool (decide (0 < nv)), u14, u15, u16, u17, u18, u19, u20, u21, u22, u23, u24, u25, u26, u27, u28, u29, u30, u31, u32, u33, u34, u35, u36, u37, u38, u39, u40, u41, u42, u43, u44, x45, x46, x47, x48, x49, x50, x51, x52, u53, u54, u55, u56, u57, u58, u59, u60, u61, u62, u63, u64, u65, u66, u67, u68, u69, u70, u71, u72, u73, u74, u75, u76, u77, u78, u79, u80, u81, u82, u83, u84, u85, u86, u87, u88, u89, u90, u91, u92, u93, u94, u95, u96, u97, u98, u99, u100, u101, u102, u103, u104, u105, u106, u107, u108, u109, u110, u111, u112, u113, u114, u115, u116, u117, u118, u119, u120, u121, u122, u123, u124, u125, u126, u127, u128, u129, u130, u131, u132, u133, u134, u135, u136, u137, u138, u139, u140, u141, u142, u143, u144, u145, u146, u147, u148, u149, u150, u151, u152, u153, u154, u155, u156, u157, u158, u159, u160, u161, u162, u163, u164, u165, u166, u167, u168, u169, u170, u171, u172, u173, u174, u175, u176, u177, u178, u179, u180, u181, u182, u183, u184, u185, u186, u187, u188, u189, u190, u191, u192, u193, u194, u195, u196, u197, u198, u199, u200, u201, u202, u203, u204, u205, u206, u207, u208, u209, u210, u211, u212, u213, u214, u215, u216, u217, u218, u219, u220, u221, u222, u223, u224, u225], defers := [] } Y) : cc.wp Tryz.prog Q { tmps := #[u0, u1, u2, .pointer (some ⟨gb, 0, none⟩), u4, u5, u6, u7, u8, u9, u10, u11, u12, u13, u14, u15, u16, u17, u18, u19, u20, u21, u22, u23, u24, u25, u26, u27, u28, u29, u30, u31, u32, u33, u34, u35, u36, u37, u38, u39, u40, u41, u42, u43, u44, u45, u46, u47, u48, u49, u50, u51, u52, u53, u54, u55, u56, u57, u58, u59, u60, u61, u62, u63, u64, u65, u66, u67, u68, u69, u70, u71, u72, u73, u74, u75, u76, u77, u78, u79, u80, u81, u82, u83, u84, u85, u86, u87, u88, u89, u90, u91, u92, u93, u94, u95, u96, u97, u98, u99, u100, u101, u102, u103, u104, u105, u106, u107, u108, u109, u110, u111, u112, u113, u114, u115, u116, u117, u118, u119, u120, u121, u122, u123, u124, u125, u126, u127, u128, u129, u130, u131, u132, u133, u134, u135, u136, u137, u138, u139, u140, u141, u142, u143, u144, u145, u146, u147, u148, u149, u150, u151, u152, u153, u154, u155, u156, u157, u158, u159, u160, u161, u162, u163, u164, u165, u166, u167, u168, u169, u170, u171, u172, u173, u174, u175, u176, u177, u178, u179, u180, u181, u182, u183, u184, u185, u186, u187, u188, u189, u190, u191, u192, u193, u194, u195, u196, u197, u198, u199, u200, u201, u202, u203, u204, u205, u206, u207, u208, u209, u210, u211, u212, u213, u214, u215, u216, u217, u218, u219, u220, u221, u222, u223, u224, u225], defers := [] } Y := by
  have HKK := Lib.hid hK
  have hcc : Tryz.f26.body.bind (regOf 11) = some cc := hc
  simp only [Tryz.f26, regOf, Nat.reduceEqDiff, Option.bind_some, ↓reduceIte, Option.none_or, Option.or_none, Option.some.injEq] at hcc
  subst hcc
  clear hc hK
  rcases Nat.eq_zero_or_pos nv with h0 | h0
  · subst h0
    go_wp2
    exact HKK.out _ _ _ _ _ _ _ _
  · have d1 : decide ((nv : Int) > 0) = true := decide_eq_true (by omega)
    have d2 : decide (0 < (nv : Int)) = true := decide_eq_true (by omega)
    have hq := HKK.out
    rw [decide_eq_true h0] at hq
    have HQQ := Lib.hid hq
    clear hq HKK
    go_wp2
    exact HQQ.out _ _ _ _ _ _ _ _
set_option maxRecDepth 100000 in
set_option maxHeartbeats 8000000 in
theorem b12_any (cc : Code) (hc : (Tryz.f26.body.bind (regOf 12)) = some cc) (Y : World) (gb nf : Nat) (A : Option Addr) (cp : Nat) (hn : nf ≤ 400) (c0 : Y.cell? ⟨gb, 2, none⟩ = some (.slice A nf cp)) (c3 : Y.cell? ⟨gb, 3, none⟩ = some (.bool false))
    (Q : Exit → Act → World → Prop) (u0 u1 u2 u4 u5 u6 u7 u8 u9 u10 u11 u12 u13 u14 u15 u16 u17 u18 u19 u20 u21 u22 u23 u24 u25 u26 u27 u28 u29 u30 u31 u32 u33 u34 u35 u36 u37 u38 u39 u40 u41 u42 u43 u44 u45 u46 u47 u48 u49 u50 u51 u52 u53 u54 u55 u56 u57 u58 u59 u60 u61 u62 u63 u64 u65 u66 u67 u68 u69 u70 u71 u72 u73 u74 u75 u76 u77 u78 u79 u80 u81 u82 u83 u84 u85 u86 u87 u88 u89 u90 u91 u92 u93 u94 u95 u96 u97 u98 u99 u100 u101 u102 u103 u104 u105 u106 u107 u108 u109 u110 u111 u112 u113 u114 u115 u116 u117 u118 u119 u120 u121 u122 u123 u124 u125 u126 u127 u128 u129 u130 u131 u132 u133 u134 u135 u136 u137 u138 u139 u140 u141 u142 u143 u144 u145 u146 u147 u148 u149 u150 u151 u152 u153 u154 u155 u156 u157 u158 u159 u160 u161 u162 u163 u164 u165 u166 u167 u168 u169 u170 u171 u172 u173 u174 u175 u176 u177 u178 u179 u180 u181 u182 u183 u184 u185 u186 u187 u188 u189 u190 u191 u192 u193 u194 u195 u196 u197 u198 u199 u200 u201 u202 u203 u204 u205 u206 u207 u208 u209 u210 u211 u212 u213 u214 u215 u216 u217 u218 u219 u220 u221 u222 u223 u224 u225 : Value) (hK : ∀ (x53 x54 x55 x56 x57 x58 x59 x60 : Value), Q .normal { tmps := #[u0, u1, u2, .pointer (some ⟨gb, 0, none⟩), u4, u5, u6, u7, u8, u9, u10, u11, u12, u13, .bool (decide (0 < nf)), u15, u16, u17, u18, u19, u20, u21, u22, u23, u24, u25, u26, u27, u28, u29, u30, u31, u32, u33, u34, u35, u36, u37, u38, u39, u40, u41, u42, u43, u44, u45, u46, u47, u48, u49, u50, u51, u52, x53, x54, x55, x56, x57, x58, x59, x60, u61, u62, u63, u64, u65, u66, u67, u68, u69, u70, u71, u72, u73, u74, u75, u76, u77, u78, u79, u80, u81, u82, u83, u84, u85, u86, u87, u88, u89, u90, u91, u92, u93, u94, u95, u96, u97, u98, u99, u100, u101, u102, u103, u104, u105, u106, u107, u108, u109, u110, u111, u112, u113, u114, u115, u116, u117, u118, u119, u120, u121, u122, u123, u124, u125, u126, u127, u128, u129, u130, u131, u132, u133, u134, u135, u136, u137, u138, u139, u140, u141, u142, u143, u144, u145, u146, u147, u148, u149, u150, u151, u152, u153, u154, u155, u156, u157, u158, u159, u160, u161, u162, u163, u164, u165, u166, u167, u168, u169, u170, u171, u172, u173, u174, u175, u176, u177, u178, u179, u180, u181, u182, u183, u184, u185, u186, u187, u188, u189, u190, u191, u192, u193, u194, u195, u196, u197, u198, u199, u200, u201, u202, u203, u204, u205, u206, u207, u208, u209, u210, u211, u212, u213, u214, u215, u216, u217, u218, u219, u220, u221, u222, u223, u224, u225], defers := [] } Y) : cc.wp Tryz.prog Q { tmps := #[u0, u1, u2, .pointer (some ⟨gb, 0, none⟩), u4, u5, u6, u7, u8, u9, u10, u11, u12, u13, u14, u15, u16, u17, u18, u19, u20, u21, u22, u23, u24, u25, u26, u27, u28, u29, u30, u31, u32, u33, u34, u35, u36, u37, u38, u39, u40, u41, u42, u43, u44, u45, u46, u47, u48, u49, u50, u51, u52, u53, u54, u55, u56, u57, u58, u59, u60, u61, u62, u63, u64, u65, u66, u67, u68, u69, u70, u71, u72, u73, u74, u75, u76, u77, u78, u79, u80, u81, u82, u83, u84, u85, u86, u87, u88, u89, u90, u91, u92, u93, u94, u95, u96, u97, u98, u99, u100, u101, u102, u103, u104, u105, u106, u107, u108, u109, u110, u111, u112, u113, u114, u115, u116, u117, u118, u119, u120, u121, u122, u123, u124, u125, u126, u127, u128, u129, u130, u131, u132, u133, u134, u135, u136, u137, u138, u139, u140, u141, u142, u143, u144, u145, u146, u147, u148, u149, u150, u151, u152, u153, u154, u155, u156, u157, u158, u159, u160, u161, u162, u163, u164, u165, u166, u167, u168, u169, u170, u171, u172, u173, u174, u175, u176, u177, u178, u179, u180, u181, u182, u183, u184, u185, u186, u187, u188, u189, u190, u191, u192, u193, u194, u195, u196, u197, u198, u199, u200, u201, u202, u203, u204, u205, u206, u207, u208, u209, u210, u211, u212, u213, u214, u215, u216, u217, u218, u219, u220, u221, u222, u223, u224, u225], defers := [] } Y := by
  have HKK := Lib.hid hK
  have hcc : Tryz.f26.body.bind (regOf 12) = some cc := hc
  simp only [Tryz.f26, regOf, Nat.reduceEqDiff, Option.bind_some, ↓reduceIte, Option.none_or, Option.or_none, Option.some.injEq] at hcc
  subst hcc
  clear hc hK
  rcases Nat.eq_zero_or_pos nf with h0 | h0
  · subst h0
    go_wp2
    exact HKK.out _ _ _ _ _ _ _ _
  · have d1 : decide ((nf : Int) > 0) = true := decide_eq_true (by omega)
    have d2 : decide (0 < (nf : Int)) = true := decide_eq_true (by omega)
    have hq := HKK.out
    rw [decide_eq_true h0] at hq
    have HQQ := Lib.hid hq
    clear hq HKK
    go_wp2
    exact HQQ.out _ _ _ _ _ _ _ _
set_option maxRecDepth 100000 in
set_option maxHeartbeats 8000000 in
theorem round_any (cc : Code) (hc : (Tryz.f26.body.bind (blkOf 1)) = some cc) {w : World} {sb : Nat} {c : Scp} {Av Aa Af : Option Addr} {nv na nf cv ca cf : Nat} {loop : Bool} {d : Nat} (G : GCtx w sb c Av Aa Af nv na nf cv ca cf loop d) (wr : World) (lo : List LStmt) (Ao : Option Addr) (no co : Nat) (hb : BoxT w sb wr (w.heap.size + 1) w.heap.size 61 #[.slice Av nv cv, .slice Aa na ca, .slice Af nf cf, .bool false, .bool loop] (d + 4) (GoodS c d loop) (.slice Ao no co) lo) (hno : no = lo.length) (hno4 : no ≤ 4)
    (Q : Exit → Act → World → Prop) (hQ : ∀ p (a : Act) t (v : Value) (w' : World), Q (Exit.panic p) (a.put t v) w' → Q (Exit.panic p) a w') (u0 u4 u5 u6 u8 u9 u10 u11 u12 u13 u14 u15 u16 u17 u18 u19 u20 u21 u22 u23 u24 u25 u26 u27 u28 u29 u30 u31 u32 u33 u34 u35 u36 u37 u38 u39 u40 u41 u42 u43 u44 u45 u46 u47 u48 u49 u50 u51 u52 u53 u54 u55 u56 u57 u58 u59 u60 u61 u62 u63 u64 u65 u66 u67 u68 u69 u70 u71 u72 u73 u74 u75 u76 u77 u78 u79 u80 u81 u82 u83 u84 u85 u86 u87 u88 u89 u90 u91 u92 u93 u94 u95 u96 u97 u98 u99 u100 u101 u102 u103 u104 u105 u106 u107 u108 u109 u110 u111 u112 u113 u114 u115 u116 u117 u118 u119 u120 u121 u122 u123 u124 u125 u126 u127 u128 u129 u130 u131 u132 u133 u134 u135 u136 u137 u138 u139 u140 u141 u142 u143 u144 u145 u146 u147 u148 u149 u150 u151 u152 u153 u154 u155 u156 u157 u158 u159 u160 u161 u162 u163 u164 u165 u166 u167 u168 u169 u170 u171 u172 u173 u174 u175 u176 u177 u178 u179 u180 u181 u182 u183 u184 u185 u186 u187 u188 u189 u190 u191 u192 u193 u194 u195 u196 u197 u198 u199 u200 u201 u202 u203 u204 u205 u206 u207 u208 u209 u210 u211 u212 u213 u214 u215 u216 u217 u218 u219 u220 u221 u222 u223 u224 u225 : Value)
    (hK : ∀ (x10 x11 x12 x13 x14 x15 x16 x24 x25 x26 x27 x28 x29 x30 x31 x32 x33 x34 x35 x36 x37 x38 x39 x40 x41 x42 x43 x44 x45 x46 x47 x48 x49 x50 x51 x52 x53 x54 x55 x56 x57 x58 x59 x60 x61 x62 x63 x64 x65 x66 x67 x68 x69 x70 x71 x72 x73 x74 x75 x76 x77 x78 x79 x80 x81 x82 x83 x84 x85 x86 x87 x88 x89 x90 x91 x92 x93 x94 x95 x96 x97 x98 x99 x100 x101 x102 x103 x104 x105 x106 x107 x108 x109 x110 x111 x112 x113 x114 x115 x116 x117 x118 x119 x120 x121 x122 x123 x124 x125 x126 x127 x128 x129 x130 x131 x132 x133 x134 x135 x136 x137 x138 x139 x140 x141 x142 x143 x144 x145 x146 x147 x148 x149 x150 x151 x152 x153 x154 x155 x156 x157 x158 x159 x160 x161 x162 x163 x164 x165 x166 x167 x168 x169 x170 x171 x172 x173 x174 x175 x176 x177 x178 x179 x180 x181 x182 x183 x184 x185 x186 x187 x188 x189 x190 x191 x192 x193 x194 x195 x196 x197 x198 x199 x200 x201 x202 x203 x204 x205 x206 x207 x208 x209 x210 x211 x212 x213 x214 x215 x216 x217 x218 x219 x220 x221 x222 x223 x224 : Value) (Ap : Option Addr) (cp : Nat) (l2 : List LStmt) (w' : World), l2.length = no + 1 → BoxT w sb w' (w.heap.size + 1) w.heap.size 61 #[.slice Av nv cv, .slice Aa na ca, .slice Af nf cf, .bool false, .bool loop] (d + 4) (GoodS c d loop) (.slice Ap (no + 1) cp) l2 → Q .normal { tmps := #[u0, .pointer (some ⟨sb, 0, none⟩), .int .i64 (d : Int), .pointer (some ⟨w.heap.size, 0, none⟩), u4, u5, u6, .slice Ap (no + 1) cp, u8, u9, x10, x11, x12, x13, x14, x15, x16, u17, u18, u19, u20, u21, u22, u23, x24, x25, x26, x27, x28, x29, x30, x31, x32, x33, x34, x35, x36, x37, x38, x39, x40, x41, x42, x43, x44, x45, x46, x47, x48, x49, x50, x51, x52, x53, x54, x55, x56, x57, x58, x59, x60, x61, x62, x63, x64, x65, x66, x67, x68, x69, x70, x71, x72, x73, x74, x75, x76, x77, x78, x79, x80, x81, x82, x83, x84, x85, x86, x87, x88, x89, x90, x91, x92, x93, x94, x95, x96, x97, x98, x99, x100, x101, x102, x103, x104, x105, x106, x107, x108, x109, x110, x111, x112, x113, x114, x115, x116, x117, x118, x119, x120, x121, x122, x123, x124, x125, x126, x127, x128, x129, x130, x131, x132, x133, x134, x135, x136, x137, x138, x139, x140, x141, x142, x143, x144, x145, x146, x147, x148, x149, x150, x151, x152, x153, x154, x155, x156, x157, x158, x159, x160, x161, x162, x163, x164, x165, x166, x167, x168, x169, x170, x171, x172, x173, x174, x175, x176, x177, x178, x179, x180, x181, x182, x183, x184, x185, x186, x187, x188, x189, x190, x191, x192, x193, x194, x195, x196, x197, x198, x199, x200, x201, x202, x203, x204, x205, x206, x207, x208, x209, x210, x211, x212, x213, x214, x215, x216, x217, x218, x219, x220, x221, x222, x223, x224, u225], defers := [] } w') :
    (Code.block 1 cc).wp Tryz.prog Q { tmps := #[u0, .pointer (some ⟨sb, 0, none⟩), .int .i64 (d : Int), .pointer (some ⟨w.heap.size, 0, none⟩), u4, u5, u6, .slice Ao no co, u8, u9, u10, u11, u12, u13, u14, u15, u16, u17, u18, u19, u20, u21, u22, u23, u24, u25, u26, u27, u28, u29, u30, u31, u32, u33, u34, u35, u36, u37, u38, u39, u40, u41, u42, u43, u44, u45, u46, u47, u48, u49, u50, u51, u52, u53, u54, u55, u56, u57, u58, u59, u60, u61, u62, u63, u64, u65, u66, u67, u68, u69, u70, u71, u72, u73, u74, u75, u76, u77, u78, u79, u80, u81, u82, u83, u84, u85, u86, u87, u88, u89, u90, u91, u92, u93, u94, u95, u96, u97, u98, u99, u100, u101, u102, u103, u104, u105, u106, u107, u108, u109, u110, u111, u112, u113, u114, u115, u116, u117, u118, u119, u120, u121, u122, u123, u124, u125, u126, u127, u128, u129, u130, u131, u132, u133, u134, u135, u136, u137, u138, u139, u140, u141, u142, u143, u144, u145, u146, u147, u148, u149, u150, u151, u152, u153, u154, u155, u156, u157, u158, u159, u160, u161, u162, u163, u164, u165, u166, u167, u168, u169, u170, u171, u172, u173, u174, u175, u176, u177, u178, u179, u180, u181, u182, u183, u184, u185, u186, u187, u188, u189, u190, u191, u192, u193, u194, u195, u196, u197, u198, u199, u200, u201, u202, u203, u204, u205, u206, u207, u208, u209, u210, u211, u212, u213, u214, u215, u216, u217, u218, u219, u220, u221, u222, u223, u224, u225], defers := [] } wr := by
  have HKK := Lib.hid hK
  have HQ := Lib.hid hQ
  have hcc : Tryz.f26.body.bind (blkOf 1) = some cc := hc
  simp only [Tryz.f26, blkOf, Option.bind_some, Nat.reduceEqDiff, ↓reduceIte, Option.none_or, Option.or_none, Option.some.injEq] at hcc
  subst hcc
  have HG := Lib.hid G
  have HT := Lib.hid hb
  have HNO := Lib.hid hno
  have HNE : Hid (sb ≠ w.heap.size) := Lib.hid (by have := G.sb; omega)
  have hd := G.hd
  have hd2 := G.hd2
  have HSB := Lib.hid G.sb
  have lv := G.lv
  have la := G.la
  have lf := G.lf
  have lp := G.lp
  obtain ⟨zt, ht0, ht1, ht2, ht3⟩ := info_parts info_stmt
  clear hc hK hQ hb hno G
  go_upto_region 7 with (go_at_call 21; refine (next_any _ sb 14 (by omega) HT.out.src).mono ?_; rintro e w1 ⟨⟨k1, hk1, rfl⟩, hs1, hg1⟩; have HT2 := Lib.hid (HT.out.step hg1 hs1); clear hs1 hg1)
  have hk2 := hk1
  refine k7_any _ (by kernel_rfl) w1 d k1 hd2 hk2 _ _ _ _ _ _ _ _ _ _ _ _ _ _ _ _ _ _ _ _ _ _ _ _ _ _ _ _ _ _ _ _ _ _ _ _ _ _ _ _ _ _ _ _ _ _ _ _ _ _ _ _ _ _ _ _ _ _ _ _ _ _ _ _ _ _ _ _ _ _ _ _ _ _ _ _ _ _ _ _ _ _ _ _ _ _ _ _ _ _ _ _ _ _ _ _ _ _ _ _ _ _ _ _ _ _ _ _ _ _ _ _ _ _ _ _ _ _ _ _ _ _ _ _ _ _ _ _ _ _ _ _ _ _ _ _ _ _ _ _ _ _ _ _ _ _ _ _ _ _ _ _ _ _ _ _ _ _ _ _ _ _ _ _ _ _ _ _ _ _ _ _ _ _ _ _ _ _ _ _ _ _ _ _ _ _ _ _ _ _ _ _ _ _ _ _ _ _ _ _ _ _ _ _ _ _ _ _ _ _ _ _ _ _ _ _ _ _ _ _ _ _ _ _ _ ?_
  intro _ _ _ _ _ _ _ _ _
  go_upto_if 35 with fail
  refine kc_any _ (by kernel_rfl) w1 d k1 hk2 _ _ _ _ _ _ _ _ _ _ _ _ _ _ _ _ _ _ _ _ _ _ _ _ _ _ _ _ _ _ _ _ _ _ _ _ _ _ _ _ _ _ _ _ _ _ _ _ _ _ _ _ _ _ _ _ _ _ _ _ _ _ _ _ _ _ _ _ _ _ _ _ _ _ _ _ _ _ _ _ _ _ _ _ _ _ _ _ _ _ _ _ _ _ _ _ _ _ _ _ _ _ _ _ _ _ _ _ _ _ _ _ _ _ _ _ _ _ _ _ _ _ _ _ _ _ _ _ _ _ _ _ _ _ _ _ _ _ _ _ _ _ _ _ _ _ _ _ _ _ _ _ _ _ _ _ _ _ _ _ _ _ _ _ _ _ _ _ _ _ _ _ _ _ _ _ _ _ _ _ _ _ _ _ _ _ _ _ _ _ _ _ _ _ _ _ _ _ _ _ _ _ _ _ _ _ _ _ _ _ _ _ _ _ _ _ _ _ _ _ _ _ _ _ _ ?_
  intro j hj0' hj14 hjd
  clear hk1 hk2
  go_upto_region 9 with fail
  go_upto_region 10 with fail
  refine wp_world ?_
  intro W hW
  have hbx : BoxS w1 sb W (w1.heap.size + 1) w1.heap.size 45 #[.int .i64 8, .string ⟨#[]⟩, .slice none 0 0, .slice none 0 0, .slice none 0 0] (d + 4) (madeE c 4) (.slice none 0 0) [] := by
    have hb0 : BoxS w1 sb (w1.alloc (.cells #[.int .i64 8, .string ⟨#[]⟩, .slice none 0 0, .slice none 0 0, .slice none 0 0] 45)) (w1.heap.size + 1) w1.heap.size 45 #[.int .i64 8, .string ⟨#[]⟩, .slice none 0 0, .slice none 0 0, .slice none 0 0] (d + 4) (madeE c 4) (.slice none 0 0) [] :=
      ⟨grown_below' (below1 _ _), HT2.out.src.below (below1 _ _), Blk.new _ _ _, Nat.le_refl _, Nat.lt_succ_self _, by simp, ⟨[], OwnL.nil_ _ _ _ _ _⟩, (fun _ h => by cases h), HT2.out.src.lt⟩
    exact hW ▸ hb0
  have HBX := Lib.hid hbx
  clear hW hbx
  have HSCB : Hid (Blk w1 w.heap.size 61 #[.slice Av nv cv, .slice Aa na ca, .slice Af nf cf, .bool false, .bool loop]) := Lib.hid HT2.out.blk
  have HGW : Hid (w.grownBy w1 (some sb)) := Lib.hid HT2.out.gr
  have ab0 : W.cell? ⟨w.heap.size, 0, none⟩ = some (.slice Av nv cv) := (HBX.out.sc HSCB.out HNE.out).cell 0
  have ab1 : W.cell? ⟨w.heap.size, 1, none⟩ = some (.slice Aa na ca) := (HBX.out.sc HSCB.out HNE.out).cell 1
  have ab2 : W.cell? ⟨w.heap.size, 2, none⟩ = some (.slice Af nf cf) := (HBX.out.sc HSCB.out HNE.out).cell 2
  have ab3 : W.cell? ⟨w.heap.size, 3, none⟩ = some (.bool false) := (HBX.out.sc HSCB.out HNE.out).cell 3
  have ab4 : W.cell? ⟨w.heap.size, 4, none⟩ = some (.bool loop) := (HBX.out.sc HSCB.out HNE.out).cell 4
  refine b10_any _ (by kernel_rfl) W w.heap.size na Aa ca (by omega) ab1 ab3 _ _ _ _ _ _ _ _ _ _ _ _ _ _ _ _ _ _ _ _ _ _ _ _ _ _ _ _ _ _ _ _ _ _ _ _ _ _ _ _ _ _ _ _ _ _ _ _ _ _ _ _ _ _ _ _ _ _ _ _ _ _ _ _ _ _ _ _ _ _ _ _ _ _ _ _ _ _ _ _ _ _ _ _ _ _ _ _ _ _ _ _ _ _ _ _ _ _ _ _ _ _ _ _ _ _ _ _ _ _ _ _ _ _ _ _ _ _ _ _ _ _ _ _ _ _ _ _ _ _ _ _ _ _ _ _ _ _ _ _ _ _ _ _ _ _ _ _ _ _ _ _ _ _ _ _ _ _ _ _ _ _ _ _ _ _ _ _ _ _ _ _ _ _ _ _ _ _ _ _ _ _ _ _ _ _ _ _ _ _ _ _ _ _ _ _ _ _ _ _ _ _ _ _ _ _ _ _ _ _ _ _ _ _ _ _ _ _ _ _ _ _ _ _ _ _ ?_
  intro _ _ _ _ _ _ _ _
  go_upto_region 11 with fail
  refine b11_any _ (by kernel_rfl) W w.heap.size nv Av cv (by omega) ab0 ab3 _ _ _ _ _ _ _ _ _ _ _ _ _ _ _ _ _ _ _ _ _ _ _ _ _ _ _ _ _ _ _ _ _ _ _ _ _ _ _ _ _ _ _ _ _ _ _ _ _ _ _ _ _ _ _ _ _ _ _ _ _ _ _ _ _ _ _ _ _ _ _ _ _ _ _ _ _ _ _ _ _ _ _ _ _ _ _ _ _ _ _ _ _ _ _ _ _ _ _ _ _ _ _ _ _ _ _ _ _ _ _ _ _ _ _ _ _ _ _ _ _ _ _ _ _ _ _ _ _ _ _ _ _ _ _ _ _ _ _ _ _ _ _ _ _ _ _ _ _ _ _ _ _ _ _ _ _ _ _ _ _ _ _ _ _ _ _ _ _ _ _ _ _ _ _ _ _ _ _ _ _ _ _ _ _ _ _ _ _ _ _ _ _ _ _ _ _ _ _ _ _ _ _ _ _ _ _ _ _ _ _ _ _ _ _ _ _ _ _ _ _ _ _ _ _ _ ?_
  intro _ _ _ _ _ _ _ _
  go_upto_region 12 with fail
  refine b12_any _ (by kernel_rfl) W w.heap.size nf Af cf (by omega) ab2 ab3 _ _ _ _ _ _ _ _ _ _ _ _ _ _ _ _ _ _ _ _ _ _ _ _ _ _ _ _ _ _ _ _ _ _ _ _ _ _ _ _ _ _ _ _ _ _ _ _ _ _ _ _ _ _ _ _ _ _ _ _ _ _ _ _ _ _ _ _ _ _ _ _ _ _ _ _ _ _ _ _ _ _ _ _ _ _ _ _ _ _ _ _ _ _ _ _ _ _ _ _ _ _ _ _ _ _ _ _ _ _ _ _ _ _ _ _ _ _ _ _ _ _ _ _ _ _ _ _ _ _ _ _ _ _ _ _ _ _ _ _ _ _ _ _ _ _ _ _ _ _ _ _ _ _ _ _ _ _ _ _ _ _ _ _ _ _ _ _ _ _ _ _ _ _ _ _ _ _ _ _ _ _ _ _ _ _ _ _ _ _ _ _ _ _ _ _ _ _ _ _ _ _ _ _ _ _ _ _ _ _ _ _ _ _ _ _ _ _ _ _ _ _ _ _ _ _ ?_
  intro _ _ _ _ _ _ _ _
  have e14 : decide (0 < nf) = true := decide_eq_true lp
  rw [e14]
  clear e14
  clear ab0 ab1 ab2 ab3 ab4
  go_upto_block 2 with fail
  refine sw_any _ (by kernel_rfl) HG.out HGW.out HSCB.out W j (decide (0 < na)) (decide (0 < nv)) HBX.out hj0' hj14 hjd rfl rfl _ (by exact fun p a t v w' h => HQ.out p a t v w' h) _ _ _ _ _ _ _ _ _ _ _ _ _ _ _ _ _ _ _ _ _ _ _ _ _ _ _ _ _ _ _ _ _ _ _ _ _ _ _ _ _ _ _ _ _ _ _ _ _ _ _ _ _ _ _ _ _ _ _ _ _ _ _ _ _ _ _ _ _ _ _ _ _ _ _ _ _ _ _ _ _ _ _ _ _ _ _ _ _ _ _ _ _ _ _ _ _ _ _ _ _ _ _ _ _ _ _ _ _ _ _ _ _ _ _ _ _ _ _ _ _ _ _ _ _ _ _ _ _ _ _ _ _ _ _ _ _ _ _ _ _ _ _ _ _ _ _ _ _ _ _ _ _ _ _ _ _ _ _ _ _ _ _ _ _ _ _ _ _ _ _ _ _ _ _ _ _ _ _ _ _ _ _ _ _ _ _ _ _ _ _ _ _ _ _ _ _ _ _ _ _ _ _ _ _ _ _ _ _ _ _ _ _ _ _ _ _ _ ?_
  clear HBX
  intros
  rename_i Z hm
  obtain ⟨kd, nm, v, vt, ve, l, thn, els, hb, hh, hr⟩ := hm
  obtain ⟨At, ct, hvt⟩ := hr.rows.1.val
  obtain ⟨Ae, ce, hve⟩ := hr.rows.2.val
  subst hvt hve
  have kx : Z.cell? ⟨w1.heap.size, 0, none⟩ = some (.int .i64 kd) := hb.blk.cell 0
  have HB := Lib.hid hb
  have HH := Lib.hid hh
  have HR := Lib.hid hr
  clear hb hh hr
  obtain ⟨css, hcss⟩ := HT2.out.own
  have HOW := Lib.hid hcss
  clear hcss
  by_cases h2 : kd = 2
  · subst h2
    go_upto_block 3 with fail
    refine fill_any _ (by kernel_rfl) HG.out HGW.out HSCB.out Z 2 nm v l At Ae thn.length els.length ct ce 2 thn els HB.out HH.out HR.out rfl _ (by exact fun p a t v w' h => HQ.out p a t v w' h) _ _ _ _ _ _ _ _ _ _ _ _ _ _ _ _ _ _ _ _ _ _ _ _ _ _ _ _ _ _ _ _ _ _ _ _ _ _ _ _ _ _ _ _ _ _ _ _ _ _ _ _ _ _ _ _ _ _ _ _ _ _ _ _ _ _ _ _ _ _ _ _ _ _ _ _ _ _ _ _ _ _ _ _ _ _ _ _ _ _ _ _ _ _ _ _ _ _ _ _ _ _ _ _ _ _ _ _ _ _ _ _ _ _ _ _ _ _ _ _ _ _ _ _ _ _ _ _ _ _ _ _ _ _ _ _ _ _ _ _ _ _ _ _ _ _ _ _ _ _ _ _ _ _ _ _ _ _ _ _ _ _ _ _ _ _ _ _ _ _ _ _ _ _ _ _ _ _ _ _ _ _ _ _ _ _ _ _ _ _ _ _ _ _ _ _ _ _ _ _ _ _ _ _ _ _ _ _ _ _ _ _ _ _ _ _ _ _ _ _ _ ?_
    intros
    rename_i Y hdn
    obtain ⟨s, Av2, At2, Ae2, cv2, ct2, ce2, hgY, hsY, hbY, hxY, hgood⟩ := hdn
    have y0 : Y.cell? ⟨w1.heap.size, 0, none⟩ = some (.int .i64 s.kind) := hbY.cell 0
    have y1 : Y.cell? ⟨w1.heap.size, 1, none⟩ = some (.string s.name) := hbY.cell 1
    have y2 : Y.cell? ⟨w1.heap.size, 2, none⟩ = some (.slice Av2 s.args.length cv2) := hbY.cell 2
    have y3 : Y.cell? ⟨w1.heap.size, 3, none⟩ = some (.slice At2 s.thn.length ct2) := hbY.cell 3
    have y4 : Y.cell? ⟨w1.heap.size, 4, none⟩ = some (.slice Ae2 s.els.length ce2) := hbY.cell 4
    have hown := HT2.out.row2 hgY (below1 Y (.cells #[.int .i64 s.kind, .string s.name, .slice Av2 s.args.length cv2, .slice At2 s.thn.length ct2, .slice Ae2 s.els.length ce2] 45)) HNO.out HOW.out
    have hbY2 := HT2.out.bs
    have hgs := hgY.size
    have HY := Lib.hid (And.intro hgY (And.intro hsY (And.intro hxY hgood)))
    clear hgY hsY hbY hxY hgood
    go_wp2_with (at_builtin; refine wpList_append_lies _ rfl _ _ _ rfl (w.heap.size + 1) 45 zt _ 5 96 Tryz.underlying43 ht0 ht1 ht2 ht3 rfl (by decide) (.slice Ao no co) no css.flatten rfl hown ⟨Y.heap.size, 0, none⟩ 1 1 [.int .i64 s.kind, .string s.name, .slice Av2 s.args.length cv2, .slice At2 s.thn.length ct2, .slice Ae2 s.els.length ce2] rfl rfl (World.news_of_block (cs := #[.int .i64 s.kind, .string s.name, .slice Av2 s.args.length cv2, .slice At2 s.thn.length ct2, .slice Ae2 s.els.length ce2]) (t := 45) (fr := (0, 0)) (heap_alloc_new Y _)) (by simp [Value.oneCell']) (by decide) (by unfold maxLen; omega) (by omega) (by simp; omega) (Y.heap.size + 1) (by simp) ?_; intro gp cp X3 hown3 hgrow3 hat3 hlt3)
    have hfin := HT2.out.next HY.out.1 HY.out.2.1 (Nat.le_refl _) HY.out.2.2.1 HY.out.2.2.2 (below1 Y (.cells #[.int .i64 s.kind, .string s.name, .slice Av2 s.args.length cv2, .slice At2 s.thn.length ct2, .slice Ae2 s.els.length ce2] 45)) HNO.out HOW.out hown3 hgrow3 (by rcases hat3 with h | h; exact .inl h; exact .inr (by rw [h]; simp))
    exact HKK.out _ _ _ _ _ _ _ _ _ _ _ _ _ _ _ _ _ _ _ _ _ _ _ _ _ _ _ _ _ _ _ _ _ _ _ _ _ _ _ _ _ _ _ _ _ _ _ _ _ _ _ _ _ _ _ _ _ _ _ _ _ _ _ _ _ _ _ _ _ _ _ _ _ _ _ _ _ _ _ _ _ _ _ _ _ _ _ _ _ _ _ _ _ _ _ _ _ _ _ _ _ _ _ _ _ _ _ _ _ _ _ _ _ _ _ _ _ _ _ _ _ _ _ _ _ _ _ _ _ _ _ _ _ _ _ _ _ _ _ _ _ _ _ _ _ _ _ _ _ _ _ _ _ _ _ _ _ _ _ _ _ _ _ _ _ _ _ _ _ _ _ _ _ _ _ _ _ _ _ _ _ _ _ _ _ _ _ _ _ _ _ _ _ _ _ _ _ _ _ _ _ _ _ _ _ _ _ _ _ _ _ _ (by rw [List.length_append, List.length_singleton, ← HNO.out]) hfin
  · have e2 : (kd == 2) = false := beq_eq_false_iff_ne.2 h2
    by_cases h5 : kd = 5
    · have e5 : (kd == 5) = true := beq_iff_eq.2 h5
      have hmz : 0 = manyZ kd := by rw [h5]; rfl
      have HMZ := Lib.hid hmz
      clear hmz h5
      go_upto_block 3 with fail
      refine fill_any _ (by kernel_rfl) HG.out HGW.out HSCB.out Z kd nm v l At Ae thn.length els.length ct ce 0 thn els HB.out HH.out HR.out HMZ.out _ (by exact fun p a t v w' h => HQ.out p a t v w' h) _ _ _ _ _ _ _ _ _ _ _ _ _ _ _ _ _ _ _ _ _ _ _ _ _ _ _ _ _ _ _ _ _ _ _ _ _ _ _ _ _ _ _ _ _ _ _ _ _ _ _ _ _ _ _ _ _ _ _ _ _ _ _ _ _ _ _ _ _ _ _ _ _ _ _ _ _ _ _ _ _ _ _ _ _ _ _ _ _ _ _ _ _ _ _ _ _ _ _ _ _ _ _ _ _ _ _ _ _ _ _ _ _ _ _ _ _ _ _ _ _ _ _ _ _ _ _ _ _ _ _ _ _ _ _ _ _ _ _ _ _ _ _ _ _ _ _ _ _ _ _ _ _ _ _ _ _ _ _ _ _ _ _ _ _ _ _ _ _ _ _ _ _ _ _ _ _ _ _ _ _ _ _ _ _ _ _ _ _ _ _ _ _ _ _ _ _ _ _ _ _ _ _ _ _ _ _ _ _ _ _ _ _ _ _ _ _ _ _ _ _ ?_
      intros
      rename_i Y hdn
      obtain ⟨s, Av2, At2, Ae2, cv2, ct2, ce2, hgY, hsY, hbY, hxY, hgood⟩ := hdn
      have y0 : Y.cell? ⟨w1.heap.size, 0, none⟩ = some (.int .i64 s.kind) := hbY.cell 0
      have y1 : Y.cell? ⟨w1.heap.size, 1, none⟩ = some (.string s.name) := hbY.cell 1
      have y2 : Y.cell? ⟨w1.heap.size, 2, none⟩ = some (.slice Av2 s.args.length cv2) := hbY.cell 2
      have y3 : Y.cell? ⟨w1.heap.size, 3, none⟩ = some (.slice At2 s.thn.length ct2) := hbY.cell 3
      have y4 : Y.cell? ⟨w1.heap.size, 4, none⟩ = some (.slice Ae2 s.els.length ce2) := hbY.cell 4
      have hown := HT2.out.row2 hgY (below1 Y (.cells #[.int .i64 s.kind, .string s.name, .slice Av2 s.args.length cv2, .slice At2 s.thn.length ct2, .slice Ae2 s.els.length ce2] 45)) HNO.out HOW.out
      have hbY2 := HT2.out.bs
      have hgs := hgY.size
      have HY := Lib.hid (And.intro hgY (And.intro hsY (And.intro hxY hgood)))
      clear hgY hsY hbY hxY hgood
      go_wp2_with (at_builtin; refine wpList_append_lies _ rfl _ _ _ rfl (w.heap.size + 1) 45 zt _ 5 96 Tryz.underlying43 ht0 ht1 ht2 ht3 rfl (by decide) (.slice Ao no co) no css.flatten rfl hown ⟨Y.heap.size, 0, none⟩ 1 1 [.int .i64 s.kind, .string s.name, .slice Av2 s.args.length cv2, .slice At2 s.thn.length ct2, .slice Ae2 s.els.length ce2] rfl rfl (World.news_of_block (cs := #[.int .i64 s.kind, .string s.name, .slice Av2 s.args.length cv2, .slice At2 s.thn.length ct2, .slice Ae2 s.els.length ce2]) (t := 45) (fr := (0, 0)) (heap_alloc_new Y _)) (by simp [Value.oneCell']) (by decide) (by unfold maxLen; omega) (by omega) (by simp; omega) (Y.heap.size + 1) (by simp) ?_; intro gp cp X3 hown3 hgrow3 hat3 hlt3)
      have hfin := HT2.out.next HY.out.1 HY.out.2.1 (Nat.le_refl _) HY.out.2.2.1 HY.out.2.2.2 (below1 Y (.cells #[.int .i64 s.kind, .string s.name, .slice Av2 s.args.length cv2, .slice At2 s.thn.length ct2, .slice Ae2 s.els.length ce2] 45)) HNO.out HOW.out hown3 hgrow3 (by rcases hat3 with h | h; exact .inl h; exact .inr (by rw [h]; simp))
      exact HKK.out _ _ _ _ _ _ _ _ _ _ _ _ _ _ _ _ _ _ _ _ _ _ _ _ _ _ _ _ _ _ _ _ _ _ _ _ _ _ _ _ _ _ _ _ _ _ _ _ _ _ _ _ _ _ _ _ _ _ _ _ _ _ _ _ _ _ _ _ _ _ _ _ _ _ _ _ _ _ _ _ _ _ _ _ _ _ _ _ _ _ _ _ _ _ _ _ _ _ _ _ _ _ _ _ _ _ _ _ _ _ _ _ _ _ _ _ _ _ _ _ _ _ _ _ _ _ _ _ _ _ _ _ _ _ _ _ _ _ _ _ _ _ _ _ _ _ _ _ _ _ _ _ _ _ _ _ _ _ _ _ _ _ _ _ _ _ _ _ _ _ _ _ _ _ _ _ _ _ _ _ _ _ _ _ _ _ _ _ _ _ _ _ _ _ _ _ _ _ _ _ _ _ _ _ _ _ _ _ _ _ _ _ (by rw [List.length_append, List.length_singleton, ← HNO.out]) hfin
    · have e5 : (kd == 5) = false := beq_eq_false_iff_ne.2 h5
      by_cases h6 : kd = 6
      · have e6 : (kd == 6) = true := beq_iff_eq.2 h6
        have hmz : 0 = manyZ kd := by rw [h6]; rfl
        have HMZ := Lib.hid hmz
        clear hmz h6
        go_upto_block 3 with fail
        refine fill_any _ (by kernel_rfl) HG.out HGW.out HSCB.out Z kd nm v l At Ae thn.length els.length ct ce 0 thn els HB.out HH.out HR.out HMZ.out _ (by exact fun p a t v w' h => HQ.out p a t v w' h) _ _ _ _ _ _ _ _ _ _ _ _ _ _ _ _ _ _ _ _ _ _ _ _ _ _ _ _ _ _ _ _ _ _ _ _ _ _ _ _ _ _ _ _ _ _ _ _ _ _ _ _ _ _ _ _ _ _ _ _ _ _ _ _ _ _ _ _ _ _ _ _ _ _ _ _ _ _ _ _ _ _ _ _ _ _ _ _ _ _ _ _ _ _ _ _ _ _ _ _ _ _ _ _ _ _ _ _ _ _ _ _ _ _ _ _ _ _ _ _ _ _ _ _ _ _ _ _ _ _ _ _ _ _ _ _ _ _ _ _ _ _ _ _ _ _ _ _ _ _ _ _ _ _ _ _ _ _ _ _ _ _ _ _ _ _ _ _ _ _ _ _ _ _ _ _ _ _ _ _ _ _ _ _ _ _ _ _ _ _ _ _ _ _ _ _ _ _ _ _ _ _ _ _ _ _ _ _ _ _ _ _ _ _ _ _ _ _ _ _ _ ?_
        intros
        rename_i Y hdn
        obtain ⟨s, Av2, At2, Ae2, cv2, ct2, ce2, hgY, hsY, hbY, hxY, hgood⟩ := hdn
        have y0 : Y.cell? ⟨w1.heap.size, 0, none⟩ = some (.int .i64 s.kind) := hbY.cell 0
        have y1 : Y.cell? ⟨w1.heap.size, 1, none⟩ = some (.string s.name) := hbY.cell 1
        have y2 : Y.cell? ⟨w1.heap.size, 2, none⟩ = some (.slice Av2 s.args.length cv2) := hbY.cell 2
        have y3 : Y.cell? ⟨w1.heap.size, 3, none⟩ = some (.slice At2 s.thn.length ct2) := hbY.cell 3
        have y4 : Y.cell? ⟨w1.heap.size, 4, none⟩ = some (.slice Ae2 s.els.length ce2) := hbY.cell 4
        have hown := HT2.out.row2 hgY (below1 Y (.cells #[.int .i64 s.kind, .string s.name, .slice Av2 s.args.length cv2, .slice At2 s.thn.length ct2, .slice Ae2 s.els.length ce2] 45)) HNO.out HOW.out
        have hbY2 := HT2.out.bs
        have hgs := hgY.size
        have HY := Lib.hid (And.intro hgY (And.intro hsY (And.intro hxY hgood)))
        clear hgY hsY hbY hxY hgood
        go_wp2_with (at_builtin; refine wpList_append_lies _ rfl _ _ _ rfl (w.heap.size + 1) 45 zt _ 5 96 Tryz.underlying43 ht0 ht1 ht2 ht3 rfl (by decide) (.slice Ao no co) no css.flatten rfl hown ⟨Y.heap.size, 0, none⟩ 1 1 [.int .i64 s.kind, .string s.name, .slice Av2 s.args.length cv2, .slice At2 s.thn.length ct2, .slice Ae2 s.els.length ce2] rfl rfl (World.news_of_block (cs := #[.int .i64 s.kind, .string s.name, .slice Av2 s.args.length cv2, .slice At2 s.thn.length ct2, .slice Ae2 s.els.length ce2]) (t := 45) (fr := (0, 0)) (heap_alloc_new Y _)) (by simp [Value.oneCell']) (by decide) (by unfold maxLen; omega) (by omega) (by simp; omega) (Y.heap.size + 1) (by simp) ?_; intro gp cp X3 hown3 hgrow3 hat3 hlt3)
        have hfin := HT2.out.next HY.out.1 HY.out.2.1 (Nat.le_refl _) HY.out.2.2.1 HY.out.2.2.2 (below1 Y (.cells #[.int .i64 s.kind, .string s.name, .slice Av2 s.args.length cv2, .slice At2 s.thn.length ct2, .slice Ae2 s.els.length ce2] 45)) HNO.out HOW.out hown3 hgrow3 (by rcases hat3 with h | h; exact .inl h; exact .inr (by rw [h]; simp))
        exact HKK.out _ _ _ _ _ _ _ _ _ _ _ _ _ _ _ _ _ _ _ _ _ _ _ _ _ _ _ _ _ _ _ _ _ _ _ _ _ _ _ _ _ _ _ _ _ _ _ _ _ _ _ _ _ _ _ _ _ _ _ _ _ _ _ _ _ _ _ _ _ _ _ _ _ _ _ _ _ _ _ _ _ _ _ _ _ _ _ _ _ _ _ _ _ _ _ _ _ _ _ _ _ _ _ _ _ _ _ _ _ _ _ _ _ _ _ _ _ _ _ _ _ _ _ _ _ _ _ _ _ _ _ _ _ _ _ _ _ _ _ _ _ _ _ _ _ _ _ _ _ _ _ _ _ _ _ _ _ _ _ _ _ _ _ _ _ _ _ _ _ _ _ _ _ _ _ _ _ _ _ _ _ _ _ _ _ _ _ _ _ _ _ _ _ _ _ _ _ _ _ _ _ _ _ _ _ _ _ _ _ _ _ _ (by rw [List.length_append, List.length_singleton, ← HNO.out]) hfin
      · have e6 : (kd == 6) = false := beq_eq_false_iff_ne.2 h6
        have hmz : 1 = manyZ kd := by unfold manyZ; rw [if_neg h2, if_neg (by omega)]
        have HMZ := Lib.hid hmz
        clear hmz h6 h5 h2
        go_upto_block 3 with fail
        refine fill_any _ (by kernel_rfl) HG.out HGW.out HSCB.out Z kd nm v l At Ae thn.length els.length ct ce 1 thn els HB.out HH.out HR.out HMZ.out _ (by exact fun p a t v w' h => HQ.out p a t v w' h) _ _ _ _ _ _ _ _ _ _ _ _ _ _ _ _ _ _ _ _ _ _ _ _ _ _ _ _ _ _ _ _ _ _ _ _ _ _ _ _ _ _ _ _ _ _ _ _ _ _ _ _ _ _ _ _ _ _ _ _ _ _ _ _ _ _ _ _ _ _ _ _ _ _ _ _ _ _ _ _ _ _ _ _ _ _ _ _ _ _ _ _ _ _ _ _ _ _ _ _ _ _ _ _ _ _ _ _ _ _ _ _ _ _ _ _ _ _ _ _ _ _ _ _ _ _ _ _ _ _ _ _ _ _ _ _ _ _ _ _ _ _ _ _ _ _ _ _ _ _ _ _ _ _ _ _ _ _ _ _ _ _ _ _ _ _ _ _ _ _ _ _ _ _ _ _ _ _ _ _ _ _ _ _ _ _ _ _ _ _ _ _ _ _ _ _ _ _ _ _ _ _ _ _ _ _ _ _ _ _ _ _ _ _ _ _ _ _ _ _ _ ?_
        intros
        rename_i Y hdn
        obtain ⟨s, Av2, At2, Ae2, cv2, ct2, ce2, hgY, hsY, hbY, hxY, hgood⟩ := hdn
        have y0 : Y.cell? ⟨w1.heap.size, 0, none⟩ = some (.int .i64 s.kind) := hbY.cell 0
        have y1 : Y.cell? ⟨w1.heap.size, 1, none⟩ = some (.string s.name) := hbY.cell 1
        have y2 : Y.cell? ⟨w1.heap.size, 2, none⟩ = some (.slice Av2 s.args.length cv2) := hbY.cell 2
        have y3 : Y.cell? ⟨w1.heap.size, 3, none⟩ = some (.slice At2 s.thn.length ct2) := hbY.cell 3
        have y4 : Y.cell? ⟨w1.heap.size, 4, none⟩ = some (.slice Ae2 s.els.length ce2) := hbY.cell 4
        have hown := HT2.out.row2 hgY (below1 Y (.cells #[.int .i64 s.kind, .string s.name, .slice Av2 s.args.length cv2, .slice At2 s.thn.length ct2, .slice Ae2 s.els.length ce2] 45)) HNO.out HOW.out
        have hbY2 := HT2.out.bs
        have hgs := hgY.size
        have HY := Lib.hid (And.intro hgY (And.intro hsY (And.intro hxY hgood)))
        clear hgY hsY hbY hxY hgood
        go_wp2_with (at_builtin; refine wpList_append_lies _ rfl _ _ _ rfl (w.heap.size + 1) 45 zt _ 5 96 Tryz.underlying43 ht0 ht1 ht2 ht3 rfl (by decide) (.slice Ao no co) no css.flatten rfl hown ⟨Y.heap.size, 0, none⟩ 1 1 [.int .i64 s.kind, .string s.name, .slice Av2 s.args.length cv2, .slice At2 s.thn.length ct2, .slice Ae2 s.els.length ce2] rfl rfl (World.news_of_block (cs := #[.int .i64 s.kind, .string s.name, .slice Av2 s.args.length cv2, .slice At2 s.thn.length ct2, .slice Ae2 s.els.length ce2]) (t := 45) (fr := (0, 0)) (heap_alloc_new Y _)) (by simp [Value.oneCell']) (by decide) (by unfold maxLen; omega) (by omega) (by simp; omega) (Y.heap.size + 1) (by simp) ?_; intro gp cp X3 hown3 hgrow3 hat3 hlt3)
        have hfin := HT2.out.next HY.out.1 HY.out.2.1 (Nat.le_refl _) HY.out.2.2.1 HY.out.2.2.2 (below1 Y (.cells #[.int .i64 s.kind, .string s.name, .slice Av2 s.args.length cv2, .slice At2 s.thn.length ct2, .slice Ae2 s.els.length ce2] 45)) HNO.out HOW.out hown3 hgrow3 (by rcases hat3 with h | h; exact .inl h; exact .inr (by rw [h]; simp))
        exact HKK.out _ _ _ _ _ _ _ _ _ _ _ _ _ _ _ _ _ _ _ _ _ _ _ _ _ _ _ _ _ _ _ _ _ _ _ _ _ _ _ _ _ _ _ _ _ _ _ _ _ _ _ _ _ _ _ _ _ _ _ _ _ _ _ _ _ _ _ _ _ _ _ _ _ _ _ _ _ _ _ _ _ _ _ _ _ _ _ _ _ _ _ _ _ _ _ _ _ _ _ _ _ _ _ _ _ _ _ _ _ _ _ _ _ _ _ _ _ _ _ _ _ _ _ _ _ _ _ _ _ _ _ _ _ _ _ _ _ _ _ _ _ _ _ _ _ _ _ _ _ _ _ _ _ _ _ _ _ _ _ _ _ _ _ _ _ _ _ _ _ _ _ _ _ _ _ _ _ _ _ _ _ _ _ _ _ _ _ _ _ _ _ _ _ _ _ _ _ _ _ _ _ _ _ _ _ _ _ _ _ _ _ _ (by rw [List.length_append, List.length_singleton, ← HNO.out]) hfin
section
set_option maxRecDepth 100000
set_option maxHeartbeats 4000000
theorem stmts_step (d : Nat) (hd : 1 ≤ d) (hd2 : d ≤ 1000) (hS : 2 ≤ d → StmtsAt (d - 1)) (hX3 : ExprAt 3) (hX4 : ExprAt 4) (hC : CallAt 3) : StmtsAt d := by
  intro w sb c Av Aa Af cv ca cf loop hs hc hk
  have HG := Lib.hid (StmtsAt.ctx (loop := loop) hd hd2 hS hX3 hX4 hC hs hc hk)
  have HSB := Lib.hid hs.lt
  have HSS := Lib.hid hs
  obtain ⟨nv, hnv⟩ : ∃ n, n = c.vars.length := ⟨_, rfl⟩
  obtain ⟨na, hna⟩ : ∃ n, n = c.arrs.length := ⟨_, rfl⟩
  obtain ⟨nf, hnf⟩ : ∃ n, n = c.funs.length := ⟨_, rfl⟩
  rw [← hnv, ← hna, ← hnf] at HG ⊢
  clear hs hc hk hX3 hX4 hC hS hnv hna hnf
  go_enter Tryz.func26, Tryz.ntmps26
  go_upto_region 2 with fail
  refine wp_world ?_
  intro W hW
  have hst : BoxT w sb W (w.heap.size + 1) w.heap.size 61 #[.slice Av nv cv, .slice Aa na ca, .slice Af nf cf, .bool false, .bool loop] (d + 4) (GoodS c d loop) (.slice none 0 0) [] := by
    rw [← hW]
    exact ⟨grown_below' (below1 _ _), HSS.out.below (below1 _ _), Blk.new _ _ _, Nat.le_refl _, Nat.lt_succ_self _, by simp, ⟨[], OwnL.nil_ _ _ _ _ _⟩, (fun _ h => by cases h), HSB.out⟩
  have HT0 := Lib.hid hst
  clear hW hst
  go_upto_region 3 with (go_at_call 21; refine (next_any _ sb 5 (by omega) HT0.out.src).mono ?_; rintro e w0 ⟨⟨k0, hk0, rfl⟩, hs1, hg1⟩; have HT1 := Lib.hid (HT0.out.step hg1 hs1); clear hs1 hg1)
  go_wp2
  go_loopw [7, 9] (fun v i wr => ∃ k : Nat, k ≤ k0 ∧ i = .int .i64 k ∧ ∃ lo : List LStmt, lo.length = k ∧ BoxT w sb wr (w.heap.size + 1) w.heap.size 61 #[.slice Av nv cv, .slice Aa na ca, .slice Af nf cf, .bool false, .bool loop] (d + 4) (GoodS c d loop) v lo) (fun _ i _ => k0 - (intOf i).toNat)
  case atStart => exact ⟨0, by omega, rfl, [], rfl, HT1.out⟩
  case round =>
    obtain ⟨k, hk, rfl, lo, hlo, hb⟩ := hrel
    obtain ⟨css0, hcs0⟩ := hb.own
    obtain ⟨Ao, co, hv⟩ := own_form hcs0.row
    clear hcs0 css0
    obtain ⟨no, hno⟩ : ∃ n, n = lo.length := ⟨_, rfl⟩
    rw [← hno] at hv
    subst hv
    have HNO := Lib.hid hno
    have hnk : no = k := hno.trans hlo
    have HT := Lib.hid hb
    clear hlo hno hb
    by_cases hlt : k < k0
    · have d1 : decide ((k : Int) < (k0 : Int)) = true := decide_eq_true (by omega)
      have hno4 : no ≤ 4 := by omega
      have HN4 := Lib.hid hno4
      have HNK := Lib.hid hnk
      clear hno4 hnk
      go_upto_block 1 with fail
      refine round_any _ (by kernel_rfl) HG.out wr lo Ao no co HT.out HNO.out HN4.out _ (by intro p a t v w' h; cases t <;> exact h) _ _ _ _ _ _ _ _ _ _ _ _ _ _ _ _ _ _ _ _ _ _ _ _ _ _ _ _ _ _ _ _ _ _ _ _ _ _ _ _ _ _ _ _ _ _ _ _ _ _ _ _ _ _ _ _ _ _ _ _ _ _ _ _ _ _ _ _ _ _ _ _ _ _ _ _ _ _ _ _ _ _ _ _ _ _ _ _ _ _ _ _ _ _ _ _ _ _ _ _ _ _ _ _ _ _ _ _ _ _ _ _ _ _ _ _ _ _ _ _ _ _ _ _ _ _ _ _ _ _ _ _ _ _ _ _ _ _ _ _ _ _ _ _ _ _ _ _ _ _ _ _ _ _ _ _ _ _ _ _ _ _ _ _ _ _ _ _ _ _ _ _ _ _ _ _ _ _ _ _ _ _ _ _ _ _ _ _ _ _ _ _ _ _ _ _ _ _ _ _ _ _ _ _ _ _ _ _ _ _ _ _ _ _ _ _ _ _ _ _ _ _ ?_
      intros
      rename_i Ap cp l2 w' hl2 hb2
      have HL2 := Lib.hid hl2
      have HB2 := Lib.hid hb2
      clear hl2 hb2
      go_wp2
      go_roundw
      case rel => exact ⟨k + 1, by omega, by go_num, l2, by rw [HL2.out, HNK.out], HB2.out⟩
      case measure => simp [intOf]; omega
    · have hkn : k = k0 := by omega
      have d1 : decide ((k : Int) < (k0 : Int)) = false := decide_eq_false (by omega)
      go_wp2
      go_ret
      obtain ⟨css, hc⟩ := HT.out.own
      have hs := hc.slr (mono_stmt (d + 4))
      have up : ∀ b, (w.heap.size + 1 ≤ b ∧ b < wr.heap.size) → fresh w wr b := fun b hb => ⟨by omega, hb.2⟩
      have hh := HNO.out
      rw [hh] at hs ⊢
      exact ⟨⟨lo, Ao, co, rfl, HT.out.made, by omega, SlR.imp hs up (fun _ _ => rfl) fun _ _ _ q => q.imp up (fun _ _ => rfl) _⟩, HT.out.src, HT.out.gr⟩
end
theorem gen_all : ∀ m : Nat, 1 ≤ m → m ≤ 1000 → ExprAt m ∧ (2 ≤ m → CallAt m)
  | 0, h, _ => absurd h (by decide)
  | m + 1, _, h => by
    have hX : 2 ≤ m + 1 → ExprAt m := fun h2 => (gen_all m (by omega) (by omega)).1
    have hC : 2 ≤ m + 1 → CallAt (m + 1) := fun h2 => call_step (m + 1) h2 h (hX h2)
    exact ⟨expr_step (m + 1) (by omega) h hX hC, hC⟩
theorem stmts_all : ∀ d : Nat, 1 ≤ d → d ≤ 1000 → StmtsAt d
  | 0, h, _ => absurd h (by decide)
  | d + 1, _, h => stmts_step (d + 1) (by omega) h (fun h2 => stmts_all d (by omega) (by omega)) (gen_all 3 (by decide) (by decide)).1 (gen_all 4 (by decide) (by decide)).1 ((gen_all 3 (by decide) (by decide)).2 (by decide))
end Go.Proofs.YtmignlclfbaifaaGreat
