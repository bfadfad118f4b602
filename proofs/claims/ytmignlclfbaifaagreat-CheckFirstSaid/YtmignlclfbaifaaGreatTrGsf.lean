/- The forms of the generator's statements, each as a lemma of its own: what is written into a statement's box. Printed by wip/gen_trgsf.py. -/
import Derived.Test.YtmignlclfbaifaaGreatTrGstL
namespace Go.Proofs.YtmignlclfbaifaaGreat
open Go.RowKit

def thenOf (k : Nat) : Code → Option Code
  | .seq a b => (thenOf k a).or (thenOf k b)
  | .cond (.tmp s) a b => if s = k then some a else (thenOf k a).or (thenOf k b)
  | .cond _ a b => (thenOf k a).or (thenOf k b)
  | .block _ b => thenOf k b
  | .loop b => thenOf k b
  | .rangeFunc _ _ a b => (thenOf k a).or (thenOf k b)
  | .scope b => thenOf k b
  | _ => none
def blkOf (k : Nat) : Code → Option Code
  | .seq a b => (blkOf k a).or (blkOf k b)
  | .cond _ a b => (blkOf k a).or (blkOf k b)
  | .block i b => if i = k then some b else blkOf k b
  | .loop b => blkOf k b
  | .rangeFunc _ _ a b => (blkOf k a).or (blkOf k b)
  | .scope b => blkOf k b
  | _ => none
theorem field_arr2 (s : ByteArray) (sz : Int) (w : World) : Sem.run Tryz.prog (Instr.field 53 (.agg #[.string s, .int .i64 sz]) 0) w = .ok (.string s) w := by kernel_rfl
theorem call_kind {x : LExpr} {a b : Int} {s : ByteArray} {v va : Value} (h : Ending.returned (.agg #[.int .i64 x.kind, .int .i64 x.op, .int .i64 x.n, .string x.name, va]) = .returned (.agg #[.int .i64 5, .int .i64 a, .int .i64 b, .string s, v])) : x.kind = 5 := by
  injection h with h; injection h with h; injection h with h; injection h with h _; injection h with _ h
/-- what the forms lean on: the contracts at all later worlds -/
structure GCtx (w : World) (sb : Nat) (c : Scp) (Av Aa Af : Option Addr) (nv na nf cv ca cf : Nat) (loop : Bool) (d : Nat) : Prop where
  x3 : ∀ X, w.grownBy X (some sb) → SrcAt X sb → Calls Tryz.prog 24 #[.agg #[.slice Av nv cv, .slice Aa na ca, .slice Af nf cf, .bool false, .bool loop], .pointer (some ⟨sb, 0, none⟩), .int .i64 3] X (ExprPost X sb c 3)
  x4 : ∀ X, w.grownBy X (some sb) → SrcAt X sb → Calls Tryz.prog 24 #[.agg #[.slice Av nv cv, .slice Aa na ca, .slice Af nf cf, .bool false, .bool loop], .pointer (some ⟨sb, 0, none⟩), .int .i64 4] X (ExprPost X sb c 4)
  cl : ∀ X, w.grownBy X (some sb) → SrcAt X sb → Calls Tryz.prog 41 #[.agg #[.slice Av nv cv, .slice Aa na ca, .slice Af nf cf, .bool false, .bool loop], .pointer (some ⟨sb, 0, none⟩), .int .i64 3] X fun e w' => ExprPost X sb c 3 e w' ∧ IsCall e
  sm : 2 ≤ d → ∀ (lp : Bool) X, w.grownBy X (some sb) → SrcAt X sb → Calls Tryz.prog 26 #[.agg #[.slice Av nv cv, .slice Aa na ca, .slice Af nf cf, .bool false, .bool lp], .pointer (some ⟨sb, 0, none⟩), .int .i64 ((d : Int) - 1)] X (StmtsPost X sb c (d - 1) lp)
  nm : 0 < nv → ∀ X, w.grownBy X (some sb) → SrcAt X sb → Calls Tryz.prog 40 #[.agg #[.slice Av nv cv, .slice Aa na ca, .slice Af nf cf, .bool false, .bool loop], .pointer (some ⟨sb, 0, none⟩), .slice Av nv cv] X fun e w' => (∃ s, s ∈ c.vars ∧ e = .returned (.string s)) ∧ SrcAt w' sb ∧ X.grownBy w' (some sb)
  ar : 0 < na → ∀ X, w.grownBy X (some sb) → SrcAt X sb → Calls Tryz.prog 25 #[.agg #[.slice Av nv cv, .slice Aa na ca, .slice Af nf cf, .bool false, .bool loop], .pointer (some ⟨sb, 0, none⟩)] X fun e w' => (∃ s sz, s ∈ c.arrs ∧ e = .returned (.agg #[.string s, .int .i64 sz])) ∧ SrcAt w' sb ∧ X.grownBy w' (some sb)
  ok : ScOk c
  sb : sb < w.heap.size
  hd : 1 ≤ d
  hd2 : d ≤ 1000
  lv : nv ≤ 400
  la : na ≤ 400
  lf : nf ≤ 400
  lp : 0 < nf
theorem StmtsAt.ctx {d : Nat} (hd : 1 ≤ d) (hd2 : d ≤ 1000) (hS : 2 ≤ d → StmtsAt (d - 1)) (hX3 : ExprAt 3) (hX4 : ExprAt 4) (hC : CallAt 3) {w : World} {sb : Nat} {c : Scp} {Av Aa Af : Option Addr} {cv ca cf : Nat} {loop : Bool} (hs : SrcAt w sb) (hc : ScAt w sb c Av Aa Af cv ca cf) (hk : ScFull c) :
    GCtx w sb c Av Aa Af c.vars.length c.arrs.length c.funs.length cv ca cf loop d :=
  ⟨fun X hg hsx => hX3 X sb c Av Aa Af cv ca cf loop hsx (hc.grown hg) hk,
   fun X hg hsx => hX4 X sb c Av Aa Af cv ca cf loop hsx (hc.grown hg) hk,
   fun X hg hsx => hC X sb c Av Aa Af cv ca cf loop hsx (hc.grown hg) hk,
   fun h2 lp X hg hsx => by
    have h := hS h2 X sb c Av Aa Af cv ca cf lp hsx (hc.grown hg) hk
    rw [show ((d - 1 : Nat) : Int) = (d : Int) - 1 by omega] at h
    exact h,
   fun h0 X hg hsx => gname_any hsx c.vars Av cv (hc.grown hg).vars h0 (.slice Av _ cv) (.slice Aa _ ca) (.slice Af _ cf) (.bool loop),
   fun h0 X hg hsx => garray_any hsx (hc.grown hg) h0 (.slice Av _ cv) (.slice Af _ cf) (.bool loop),
   hk.toScOk, hs.lt, hd, hd2, hk.lv, hk.la, hk.lf, hk.fpos⟩

set_option maxRecDepth 100000 in
set_option maxHeartbeats 8000000 in
theorem form_set (cc : Code) (hc : (Tryz.f26.body.bind (thenOf 61)) = some cc) {w : World} {sb : Nat} {c : Scp} {Av Aa Af : Option Addr} {nv na nf cv ca cf : Nat} {loop : Bool} {d : Nat} (G : GCtx w sb c Av Aa Af nv na nf cv ca cf loop d) {w1 : World} (hgw : w.grownBy w1 (some sb)) (hsc : Blk w1 w.heap.size 61 #[.slice Av nv cv, .slice Aa na ca, .slice Af nf cf, .bool false, .bool loop]) (Y : World)
    (hb : BoxS w1 sb Y (w1.heap.size + 1) w1.heap.size 45 #[.int .i64 8, .string ⟨#[]⟩, .slice none 0 0, .slice none 0 0, .slice none 0 0] (d + 4) (madeE c 4) (.slice none 0 0) []) (hn0 : 0 < nv)
    (Q : Exit → Act → World → Prop) (hQ : ∀ p (a : Act) t (v : Value) (w' : World), Q (Exit.panic p) (a.put t v) w' → Q (Exit.panic p) a w') (u0 u4 u5 u6 u7 u8 u9 u10 u12 u13 u14 u15 u16 u17 u18 u19 u20 u21 u22 u23 u24 u25 u26 u27 u28 u29 u30 u31 u32 u33 u34 u35 u36 u37 u38 u39 u40 u41 u42 u43 u44 u45 u46 u47 u48 u49 u50 u51 u52 u53 u54 u55 u56 u57 u58 u59 u60 u61 u62 u63 u64 u65 u66 u67 u68 u69 u70 u71 u72 u73 u74 u75 u76 u77 u78 u79 u80 u81 u82 u83 u84 u85 u86 u87 u88 u89 u90 u91 u92 u93 u94 u95 u96 u97 u98 u99 u100 u101 u102 u103 u104 u105 u106 u107 u108 u109 u110 u111 u112 u113 u114 u115 u116 u117 u118 u119 u120 u121 u122 u123 u124 u125 u126 u127 u128 u129 u130 u131 u132 u133 u134 u135 u136 u137 u138 u139 u140 u141 u142 u143 u144 u145 u146 u147 u148 u149 u150 u151 u152 u153 u154 u155 u156 u157 u158 u159 u160 u161 u162 u163 u164 u165 u166 u167 u168 u169 u170 u171 u172 u173 u174 u175 u176 u177 u178 u179 u180 u181 u182 u183 u184 u185 u186 u187 u188 u189 u190 u191 u192 u193 u194 u195 u196 u197 u198 u199 u200 u201 u202 u203 u204 u205 u206 u207 u208 u209 u210 u211 u212 u213 u214 u215 u216 u217 u218 u219 u220 u221 u222 u223 u224 u225 : Value)
    (hK : ∀ (x67 x68 x69 x70 x71 x72 x73 : Value) (w' : World), MidS w1 sb w' w1.heap.size c d loop → Q .normal { tmps := #[u0, .pointer (some ⟨sb, 0, none⟩), .int .i64 (d : Int), .pointer (some ⟨w.heap.size, 0, none⟩), u4, u5, u6, u7, u8, u9, u10, .pointer (some ⟨w1.heap.size, 0, none⟩), u12, u13, u14, u15, u16, u17, u18, u19, u20, u21, u22, u23, u24, u25, u26, u27, u28, u29, u30, u31, u32, u33, u34, u35, u36, u37, u38, u39, u40, u41, u42, u43, u44, u45, u46, u47, u48, u49, u50, u51, u52, u53, u54, u55, u56, u57, u58, u59, u60, u61, u62, u63, u64, u65, u66, x67, x68, x69, x70, x71, x72, x73, u74, u75, u76, u77, u78, u79, u80, u81, u82, u83, u84, u85, u86, u87, u88, u89, u90, u91, u92, u93, u94, u95, u96, u97, u98, u99, u100, u101, u102, u103, u104, u105, u106, u107, u108, u109, u110, u111, u112, u113, u114, u115, u116, u117, u118, u119, u120, u121, u122, u123, u124, u125, u126, u127, u128, u129, u130, u131, u132, u133, u134, u135, u136, u137, u138, u139, u140, u141, u142, u143, u144, u145, u146, u147, u148, u149, u150, u151, u152, u153, u154, u155, u156, u157, u158, u159, u160, u161, u162, u163, u164, u165, u166, u167, u168, u169, u170, u171, u172, u173, u174, u175, u176, u177, u178, u179, u180, u181, u182, u183, u184, u185, u186, u187, u188, u189, u190, u191, u192, u193, u194, u195, u196, u197, u198, u199, u200, u201, u202, u203, u204, u205, u206, u207, u208, u209, u210, u211, u212, u213, u214, u215, u216, u217, u218, u219, u220, u221, u222, u223, u224, u225], defers := [] } w') :
    cc.wp Tryz.prog Q { tmps := #[u0, .pointer (some ⟨sb, 0, none⟩), .int .i64 (d : Int), .pointer (some ⟨w.heap.size, 0, none⟩), u4, u5, u6, u7, u8, u9, u10, .pointer (some ⟨w1.heap.size, 0, none⟩), u12, u13, u14, u15, u16, u17, u18, u19, u20, u21, u22, u23, u24, u25, u26, u27, u28, u29, u30, u31, u32, u33, u34, u35, u36, u37, u38, u39, u40, u41, u42, u43, u44, u45, u46, u47, u48, u49, u50, u51, u52, u53, u54, u55, u56, u57, u58, u59, u60, u61, u62, u63, u64, u65, u66, u67, u68, u69, u70, u71, u72, u73, u74, u75, u76, u77, u78, u79, u80, u81, u82, u83, u84, u85, u86, u87, u88, u89, u90, u91, u92, u93, u94, u95, u96, u97, u98, u99, u100, u101, u102, u103, u104, u105, u106, u107, u108, u109, u110, u111, u112, u113, u114, u115, u116, u117, u118, u119, u120, u121, u122, u123, u124, u125, u126, u127, u128, u129, u130, u131, u132, u133, u134, u135, u136, u137, u138, u139, u140, u141, u142, u143, u144, u145, u146, u147, u148, u149, u150, u151, u152, u153, u154, u155, u156, u157, u158, u159, u160, u161, u162, u163, u164, u165, u166, u167, u168, u169, u170, u171, u172, u173, u174, u175, u176, u177, u178, u179, u180, u181, u182, u183, u184, u185, u186, u187, u188, u189, u190, u191, u192, u193, u194, u195, u196, u197, u198, u199, u200, u201, u202, u203, u204, u205, u206, u207, u208, u209, u210, u211, u212, u213, u214, u215, u216, u217, u218, u219, u220, u221, u222, u223, u224, u225], defers := [] } Y := by
  have HKK := Lib.hid hK
  have HQ := Lib.hid hQ
  have hwx : w.heap.size < w1.heap.size := hsc.lt
  have hwn : w.heap.size ≠ w1.heap.size := Nat.ne_of_lt hwx
  have hwm : w1.heap.size ≠ w.heap.size := Nat.ne_of_gt hwx
  have hcc : Tryz.f26.body.bind (thenOf 61) = some cc := hc
  simp only [Tryz.f26, thenOf, Option.bind_some, Nat.reduceEqDiff, ↓reduceIte, Option.none_or, Option.or_none, Option.some.injEq] at hcc
  subst hcc
  have HBX := Lib.hid hb
  have HSCB := Lib.hid hsc
  have HGW := Lib.hid hgw
  have HG := Lib.hid G
  have HNE : Hid (sb ≠ w.heap.size) := Lib.hid (by have := G.sb; omega)
  have hd := G.hd
  have hd2 := G.hd2
  have HSB := Lib.hid G.sb
  have HOK := Lib.hid G.ok
  obtain ⟨zi, hj0, hj1, hj2, hj3⟩ := info_parts info_expr
  have HHX3 : Hid (∀ X, w1.grownBy X (some sb) → SrcAt X sb → Calls Tryz.prog 24 #[.agg #[.slice Av nv cv, .slice Aa na ca, .slice Af nf cf, .bool false, .bool loop], .pointer (some ⟨sb, 0, none⟩), .int .i64 3] X (ExprPost X sb c 3)) := Lib.hid (fun X hg hs => HG.out.x3 X (HGW.out.trans hg) hs)
  have HHC3 : Hid (∀ X, w1.grownBy X (some sb) → SrcAt X sb → Calls Tryz.prog 41 #[.agg #[.slice Av nv cv, .slice Aa na ca, .slice Af nf cf, .bool false, .bool loop], .pointer (some ⟨sb, 0, none⟩), .int .i64 3] X fun e w' => ExprPost X sb c 3 e w' ∧ IsCall e) := Lib.hid (fun X hg hs => HG.out.cl X (HGW.out.trans hg) hs)
  clear hc hK hQ hb hsc hgw G
  have HNM := Lib.hid (HG.out.nm hn0)
  clear hn0
  have HB1 : Hid (BoxS w1 sb (Y.setCell ⟨w1.heap.size, 0, none⟩ (.int .i64 1)) (w1.heap.size + 1) w1.heap.size 45 #[.int .i64 1, .string ⟨#[]⟩, .slice none 0 0, .slice none 0 0, .slice none 0 0] (d + 4) (madeE c 4) (.slice none 0 0) []) := Lib.hid (HBX.out.set 0 (.int .i64 1))
  have ab0 : Y.cell? ⟨w.heap.size, 0, none⟩ = some (.slice Av nv cv) := (HBX.out.sc HSCB.out HNE.out).cell 0
  have ab1 : Y.cell? ⟨w.heap.size, 1, none⟩ = some (.slice Aa na ca) := (HBX.out.sc HSCB.out HNE.out).cell 1
  have ab2 : Y.cell? ⟨w.heap.size, 2, none⟩ = some (.slice Af nf cf) := (HBX.out.sc HSCB.out HNE.out).cell 2
  have ab3 : Y.cell? ⟨w.heap.size, 3, none⟩ = some (.bool false) := (HBX.out.sc HSCB.out HNE.out).cell 3
  have ab4 : Y.cell? ⟨w.heap.size, 4, none⟩ = some (.bool loop) := (HBX.out.sc HSCB.out HNE.out).cell 4
  have ax0 : Y.cell? ⟨w1.heap.size, 0, none⟩ = some (.int .i64 8) := HBX.out.blk.cell 0
  have ax1 : Y.cell? ⟨w1.heap.size, 1, none⟩ = some (.string ⟨#[]⟩) := HBX.out.blk.cell 1
  have ax2 : Y.cell? ⟨w1.heap.size, 2, none⟩ = some (.slice none 0 0) := HBX.out.blk.cell 2
  have ax3 : Y.cell? ⟨w1.heap.size, 3, none⟩ = some (.slice none 0 0) := HBX.out.blk.cell 3
  have ax4 : Y.cell? ⟨w1.heap.size, 4, none⟩ = some (.slice none 0 0) := HBX.out.blk.cell 4
  have az0 : Y.frozen? ⟨w1.heap.size, 0, none⟩ = false := HBX.out.blk.frozen 0
  have az1 : Y.frozen? ⟨w1.heap.size, 1, none⟩ = false := HBX.out.blk.frozen 1
  have az2 : Y.frozen? ⟨w1.heap.size, 2, none⟩ = false := HBX.out.blk.frozen 2
  have az3 : Y.frozen? ⟨w1.heap.size, 3, none⟩ = false := HBX.out.blk.frozen 3
  have az4 : Y.frozen? ⟨w1.heap.size, 4, none⟩ = false := HBX.out.blk.frozen 4
  have alt : w1.heap.size < Y.heap.size := HBX.out.bs
  go_wp2_with (go_at_call 40; refine (HNM.out _ (HGW.out.trans HB1.out.gr) HB1.out.src).mono ?_; rintro e X2 ⟨⟨s, hsm, rfl⟩, hs2, hg2⟩; have HB2 := Lib.hid (HB1.out.step hg2 hs2); have HM := Lib.hid hsm; clear hs2 hg2 hsm; have cb0 : X2.cell? ⟨w.heap.size, 0, none⟩ = some (.slice Av nv cv) := (HB2.out.sc HSCB.out HNE.out).cell 0; have cb1 : X2.cell? ⟨w.heap.size, 1, none⟩ = some (.slice Aa na ca) := (HB2.out.sc HSCB.out HNE.out).cell 1; have cb2 : X2.cell? ⟨w.heap.size, 2, none⟩ = some (.slice Af nf cf) := (HB2.out.sc HSCB.out HNE.out).cell 2; have cb3 : X2.cell? ⟨w.heap.size, 3, none⟩ = some (.bool false) := (HB2.out.sc HSCB.out HNE.out).cell 3; have cb4 : X2.cell? ⟨w.heap.size, 4, none⟩ = some (.bool loop) := (HB2.out.sc HSCB.out HNE.out).cell 4; have cx0 : X2.cell? ⟨w1.heap.size, 0, none⟩ = some (.int .i64 1) := HB2.out.blk.cell 0; have cx1 : X2.cell? ⟨w1.heap.size, 1, none⟩ = some (.string ⟨#[]⟩) := HB2.out.blk.cell 1; have cx2 : X2.cell? ⟨w1.heap.size, 2, none⟩ = some (.slice none 0 0) := HB2.out.blk.cell 2; have cx3 : X2.cell? ⟨w1.heap.size, 3, none⟩ = some (.slice none 0 0) := HB2.out.blk.cell 3; have cx4 : X2.cell? ⟨w1.heap.size, 4, none⟩ = some (.slice none 0 0) := HB2.out.blk.cell 4; have cz0 : X2.frozen? ⟨w1.heap.size, 0, none⟩ = false := HB2.out.blk.frozen 0; have cz1 : X2.frozen? ⟨w1.heap.size, 1, none⟩ = false := HB2.out.blk.frozen 1; have cz2 : X2.frozen? ⟨w1.heap.size, 2, none⟩ = false := HB2.out.blk.frozen 2; have cz3 : X2.frozen? ⟨w1.heap.size, 3, none⟩ = false := HB2.out.blk.frozen 3; have cz4 : X2.frozen? ⟨w1.heap.size, 4, none⟩ = false := HB2.out.blk.frozen 4; have clt : w1.heap.size < X2.heap.size := HB2.out.bs)
  exact HKK.out _ _ _ _ _ _ _ _ (⟨1, s, _, _, _, [], [], [], HB2.out.set 1 (.string s), half_set hd HOK.out HM.out, .inl ⟨rfl, rfl, rfl, rfl⟩⟩)
set_option maxRecDepth 100000 in
set_option maxHeartbeats 8000000 in
theorem form_store (cc : Code) (hc : (Tryz.f26.body.bind (thenOf 74)) = some cc) {w : World} {sb : Nat} {c : Scp} {Av Aa Af : Option Addr} {nv na nf cv ca cf : Nat} {loop : Bool} {d : Nat} (G : GCtx w sb c Av Aa Af nv na nf cv ca cf loop d) {w1 : World} (hgw : w.grownBy w1 (some sb)) (hsc : Blk w1 w.heap.size 61 #[.slice Av nv cv, .slice Aa na ca, .slice Af nf cf, .bool false, .bool loop]) (Y : World)
    (hb : BoxS w1 sb Y (w1.heap.size + 1) w1.heap.size 45 #[.int .i64 8, .string ⟨#[]⟩, .slice none 0 0, .slice none 0 0, .slice none 0 0] (d + 4) (madeE c 4) (.slice none 0 0) []) (hn0 : 0 < na)
    (Q : Exit → Act → World → Prop) (hQ : ∀ p (a : Act) t (v : Value) (w' : World), Q (Exit.panic p) (a.put t v) w' → Q (Exit.panic p) a w') (u0 u4 u5 u6 u7 u8 u9 u10 u12 u13 u14 u15 u16 u17 u18 u19 u20 u21 u22 u23 u24 u25 u26 u27 u28 u29 u30 u31 u32 u33 u34 u35 u36 u37 u38 u39 u40 u41 u42 u43 u44 u45 u46 u47 u48 u49 u50 u51 u52 u53 u54 u55 u56 u57 u58 u59 u60 u61 u62 u63 u64 u65 u66 u67 u68 u69 u70 u71 u72 u73 u74 u75 u76 u77 u78 u79 u80 u81 u82 u83 u84 u85 u86 u87 u88 u89 u90 u91 u92 u93 u94 u95 u96 u97 u98 u99 u100 u101 u102 u103 u104 u105 u106 u107 u108 u109 u110 u111 u112 u113 u114 u115 u116 u117 u118 u119 u120 u121 u122 u123 u124 u125 u126 u127 u128 u129 u130 u131 u132 u133 u134 u135 u136 u137 u138 u139 u140 u141 u142 u143 u144 u145 u146 u147 u148 u149 u150 u151 u152 u153 u154 u155 u156 u157 u158 u159 u160 u161 u162 u163 u164 u165 u166 u167 u168 u169 u170 u171 u172 u173 u174 u175 u176 u177 u178 u179 u180 u181 u182 u183 u184 u185 u186 u187 u188 u189 u190 u191 u192 u193 u194 u195 u196 u197 u198 u199 u200 u201 u202 u203 u204 u205 u206 u207 u208 u209 u210 u211 u212 u213 u214 u215 u216 u217 u218 u219 u220 u221 u222 u223 u224 u225 : Value)
    (hK : ∀ (x80 x81 x82 x83 x84 x85 x86 x87 x88 x89 x90 x91 x92 x93 : Value) (w' : World), MidS w1 sb w' w1.heap.size c d loop → Q .normal { tmps := #[u0, .pointer (some ⟨sb, 0, none⟩), .int .i64 (d : Int), .pointer (some ⟨w.heap.size, 0, none⟩), u4, u5, u6, u7, u8, u9, u10, .pointer (some ⟨w1.heap.size, 0, none⟩), u12, u13, u14, u15, u16, u17, u18, u19, u20, u21, u22, u23, u24, u25, u26, u27, u28, u29, u30, u31, u32, u33, u34, u35, u36, u37, u38, u39, u40, u41, u42, u43, u44, u45, u46, u47, u48, u49, u50, u51, u52, u53, u54, u55, u56, u57, u58, u59, u60, u61, u62, u63, u64, u65, u66, u67, u68, u69, u70, u71, u72, u73, u74, u75, u76, u77, u78, u79, x80, x81, x82, x83, x84, x85, x86, x87, x88, x89, x90, x91, x92, x93, u94, u95, u96, u97, u98, u99, u100, u101, u102, u103, u104, u105, u106, u107, u108, u109, u110, u111, u112, u113, u114, u115, u116, u117, u118, u119, u120, u121, u122, u123, u124, u125, u126, u127, u128, u129, u130, u131, u132, u133, u134, u135, u136, u137, u138, u139, u140, u141, u142, u143, u144, u145, u146, u147, u148, u149, u150, u151, u152, u153, u154, u155, u156, u157, u158, u159, u160, u161, u162, u163, u164, u165, u166, u167, u168, u169, u170, u171, u172, u173, u174, u175, u176, u177, u178, u179, u180, u181, u182, u183, u184, u185, u186, u187, u188, u189, u190, u191, u192, u193, u194, u195, u196, u197, u198, u199, u200, u201, u202, u203, u204, u205, u206, u207, u208, u209, u210, u211, u212, u213, u214, u215, u216, u217, u218, u219, u220, u221, u222, u223, u224, u225], defers := [] } w') :
    cc.wp Tryz.prog Q { tmps := #[u0, .pointer (some ⟨sb, 0, none⟩), .int .i64 (d : Int), .pointer (some ⟨w.heap.size, 0, none⟩), u4, u5, u6, u7, u8, u9, u10, .pointer (some ⟨w1.heap.size, 0, none⟩), u12, u13, u14, u15, u16, u17, u18, u19, u20, u21, u22, u23, u24, u25, u26, u27, u28, u29, u30, u31, u32, u33, u34, u35, u36, u37, u38, u39, u40, u41, u42, u43, u44, u45, u46, u47, u48, u49, u50, u51, u52, u53, u54, u55, u56, u57, u58, u59, u60, u61, u62, u63, u64, u65, u66, u67, u68, u69, u70, u71, u72, u73, u74, u75, u76, u77, u78, u79, u80, u81, u82, u83, u84, u85, u86, u87, u88, u89, u90, u91, u92, u93, u94, u95, u96, u97, u98, u99, u100, u101, u102, u103, u104, u105, u106, u107, u108, u109, u110, u111, u112, u113, u114, u115, u116, u117, u118, u119, u120, u121, u122, u123, u124, u125, u126, u127, u128, u129, u130, u131, u132, u133, u134, u135, u136, u137, u138, u139, u140, u141, u142, u143, u144, u145, u146, u147, u148, u149, u150, u151, u152, u153, u154, u155, u156, u157, u158, u159, u160, u161, u162, u163, u164, u165, u166, u167, u168, u169, u170, u171, u172, u173, u174, u175, u176, u177, u178, u179, u180, u181, u182, u183, u184, u185, u186, u187, u188, u189, u190, u191, u192, u193, u194, u195, u196, u197, u198, u199, u200, u201, u202, u203, u204, u205, u206, u207, u208, u209, u210, u211, u212, u213, u214, u215, u216, u217, u218, u219, u220, u221, u222, u223, u224, u225], defers := [] } Y := by
  have HKK := Lib.hid hK
  have HQ := Lib.hid hQ
  have hwx : w.heap.size < w1.heap.size := hsc.lt
  have hwn : w.heap.size ≠ w1.heap.size := Nat.ne_of_lt hwx
  have hwm : w1.heap.size ≠ w.heap.size := Nat.ne_of_gt hwx
  have hcc : Tryz.f26.body.bind (thenOf 74) = some cc := hc
  simp only [Tryz.f26, thenOf, Option.bind_some, Nat.reduceEqDiff, ↓reduceIte, Option.none_or, Option.or_none, Option.some.injEq] at hcc
  subst hcc
  have HBX := Lib.hid hb
  have HSCB := Lib.hid hsc
  have HGW := Lib.hid hgw
  have HG := Lib.hid G
  have HNE : Hid (sb ≠ w.heap.size) := Lib.hid (by have := G.sb; omega)
  have hd := G.hd
  have hd2 := G.hd2
  have HSB := Lib.hid G.sb
  have HOK := Lib.hid G.ok
  obtain ⟨zi, hj0, hj1, hj2, hj3⟩ := info_parts info_expr
  have HHX3 : Hid (∀ X, w1.grownBy X (some sb) → SrcAt X sb → Calls Tryz.prog 24 #[.agg #[.slice Av nv cv, .slice Aa na ca, .slice Af nf cf, .bool false, .bool loop], .pointer (some ⟨sb, 0, none⟩), .int .i64 3] X (ExprPost X sb c 3)) := Lib.hid (fun X hg hs => HG.out.x3 X (HGW.out.trans hg) hs)
  have HHC3 : Hid (∀ X, w1.grownBy X (some sb) → SrcAt X sb → Calls Tryz.prog 41 #[.agg #[.slice Av nv cv, .slice Aa na ca, .slice Af nf cf, .bool false, .bool loop], .pointer (some ⟨sb, 0, none⟩), .int .i64 3] X fun e w' => ExprPost X sb c 3 e w' ∧ IsCall e) := Lib.hid (fun X hg hs => HG.out.cl X (HGW.out.trans hg) hs)
  clear hc hK hQ hb hsc hgw G
  have HAM := Lib.hid (HG.out.ar hn0)
  clear hn0
  have HB1 : Hid (BoxS w1 sb (Y.setCell ⟨w1.heap.size, 0, none⟩ (.int .i64 2)) (w1.heap.size + 1) w1.heap.size 45 #[.int .i64 2, .string ⟨#[]⟩, .slice none 0 0, .slice none 0 0, .slice none 0 0] (d + 4) (madeE c 4) (.slice none 0 0) []) := Lib.hid (HBX.out.set 0 (.int .i64 2))
  have ab0 : Y.cell? ⟨w.heap.size, 0, none⟩ = some (.slice Av nv cv) := (HBX.out.sc HSCB.out HNE.out).cell 0
  have ab1 : Y.cell? ⟨w.heap.size, 1, none⟩ = some (.slice Aa na ca) := (HBX.out.sc HSCB.out HNE.out).cell 1
  have ab2 : Y.cell? ⟨w.heap.size, 2, none⟩ = some (.slice Af nf cf) := (HBX.out.sc HSCB.out HNE.out).cell 2
  have ab3 : Y.cell? ⟨w.heap.size, 3, none⟩ = some (.bool false) := (HBX.out.sc HSCB.out HNE.out).cell 3
  have ab4 : Y.cell? ⟨w.heap.size, 4, none⟩ = some (.bool loop) := (HBX.out.sc HSCB.out HNE.out).cell 4
  have ax0 : Y.cell? ⟨w1.heap.size, 0, none⟩ = some (.int .i64 8) := HBX.out.blk.cell 0
  have ax1 : Y.cell? ⟨w1.heap.size, 1, none⟩ = some (.string ⟨#[]⟩) := HBX.out.blk.cell 1
  have ax2 : Y.cell? ⟨w1.heap.size, 2, none⟩ = some (.slice none 0 0) := HBX.out.blk.cell 2
  have ax3 : Y.cell? ⟨w1.heap.size, 3, none⟩ = some (.slice none 0 0) := HBX.out.blk.cell 3
  have ax4 : Y.cell? ⟨w1.heap.size, 4, none⟩ = some (.slice none 0 0) := HBX.out.blk.cell 4
  have az0 : Y.frozen? ⟨w1.heap.size, 0, none⟩ = false := HBX.out.blk.frozen 0
  have az1 : Y.frozen? ⟨w1.heap.size, 1, none⟩ = false := HBX.out.blk.frozen 1
  have az2 : Y.frozen? ⟨w1.heap.size, 2, none⟩ = false := HBX.out.blk.frozen 2
  have az3 : Y.frozen? ⟨w1.heap.size, 3, none⟩ = false := HBX.out.blk.frozen 3
  have az4 : Y.frozen? ⟨w1.heap.size, 4, none⟩ = false := HBX.out.blk.frozen 4
  have alt : w1.heap.size < Y.heap.size := HBX.out.bs
  go_upto_region 19 with (go_at_call 25; refine (HAM.out _ (HGW.out.trans HB1.out.gr) HB1.out.src).mono ?_; rintro e X2 ⟨⟨s, sz, hsm, rfl⟩, hs2, hg2⟩; have HB2 := Lib.hid (HB1.out.step hg2 hs2); have HM := Lib.hid hsm; clear hs2 hg2 hsm; have hfld := field_arr2 s sz; have cb0 : X2.cell? ⟨w.heap.size, 0, none⟩ = some (.slice Av nv cv) := (HB2.out.sc HSCB.out HNE.out).cell 0; have cb1 : X2.cell? ⟨w.heap.size, 1, none⟩ = some (.slice Aa na ca) := (HB2.out.sc HSCB.out HNE.out).cell 1; have cb2 : X2.cell? ⟨w.heap.size, 2, none⟩ = some (.slice Af nf cf) := (HB2.out.sc HSCB.out HNE.out).cell 2; have cb3 : X2.cell? ⟨w.heap.size, 3, none⟩ = some (.bool false) := (HB2.out.sc HSCB.out HNE.out).cell 3; have cb4 : X2.cell? ⟨w.heap.size, 4, none⟩ = some (.bool loop) := (HB2.out.sc HSCB.out HNE.out).cell 4; have cx0 : X2.cell? ⟨w1.heap.size, 0, none⟩ = some (.int .i64 2) := HB2.out.blk.cell 0; have cx1 : X2.cell? ⟨w1.heap.size, 1, none⟩ = some (.string ⟨#[]⟩) := HB2.out.blk.cell 1; have cx2 : X2.cell? ⟨w1.heap.size, 2, none⟩ = some (.slice none 0 0) := HB2.out.blk.cell 2; have cx3 : X2.cell? ⟨w1.heap.size, 3, none⟩ = some (.slice none 0 0) := HB2.out.blk.cell 3; have cx4 : X2.cell? ⟨w1.heap.size, 4, none⟩ = some (.slice none 0 0) := HB2.out.blk.cell 4; have cz0 : X2.frozen? ⟨w1.heap.size, 0, none⟩ = false := HB2.out.blk.frozen 0; have cz1 : X2.frozen? ⟨w1.heap.size, 1, none⟩ = false := HB2.out.blk.frozen 1; have cz2 : X2.frozen? ⟨w1.heap.size, 2, none⟩ = false := HB2.out.blk.frozen 2; have cz3 : X2.frozen? ⟨w1.heap.size, 3, none⟩ = false := HB2.out.blk.frozen 3; have cz4 : X2.frozen? ⟨w1.heap.size, 4, none⟩ = false := HB2.out.blk.frozen 4; have clt : w1.heap.size < X2.heap.size := HB2.out.bs)
  refine wp_world ?_
  intro Xa hXa
  have hbq : BoxS w1 sb Xa (w1.heap.size + 1) w1.heap.size 45 #[.int .i64 2, .string s, .slice none 0 0, .slice none 0 0, .slice none 0 0] (d + 4) (madeE c 4) (.slice none 0 0) [] := by rw [← hXa]; exact HB2.out.set 1 (.string s)
  have HB3 := Lib.hid hbq
  clear hXa hbq
  clear hfld
  clear cb0 cb1 cb2 cb3 cb4 cx0 cx1 cx2 cx3 cx4 cz0 cz1 cz2 cz3 cz4 clt
  clear ab0 ab1 ab2 ab3 ab4 ax0 ax1 ax2 ax3 ax4 az0 az1 az2 az3 az4 alt
  obtain ⟨Ag, ng, cg, l, hbz, hnz, hlz, haz⟩ := HB3.out.dim
  have HAZ := Lib.hid haz
  clear haz
  have HNG := Lib.hid hnz
  have HLZ := Lib.hid hlz
  have hng0 : ng = 0 := by rw [hnz, hlz]; rfl
  have hng1 : ng ≤ 1 := by omega
  clear hng0 hnz hlz
  have HBD := Lib.hid hbz
  clear hbz
  have SO : Hid (∀ X, (Blk X (w1.heap.size) 45 #[.int .i64 2, .string s, .slice Ag ng cg, .slice none 0 0, .slice none 0 0] ∧ w1.grownBy X (some sb)) → (fun X => X.cell? ⟨w1.heap.size, 2, none⟩ = some (.slice Ag ng cg) ∧ X.cell? ⟨w.heap.size, 0, none⟩ = some (.slice Av nv cv) ∧ X.cell? ⟨w.heap.size, 1, none⟩ = some (.slice Aa na ca) ∧ X.cell? ⟨w.heap.size, 2, none⟩ = some (.slice Af nf cf) ∧ X.cell? ⟨w.heap.size, 3, none⟩ = some (.bool false) ∧ X.cell? ⟨w.heap.size, 4, none⟩ = some (.bool loop)) X) := Lib.hid (fun X h => have hq := HSCB.out.grown h.2 (fun e => by have := Option.some.inj e; have := HSB.out; omega); ⟨h.1.cell 2, hq.cell 0, hq.cell 1, hq.cell 2, hq.cell 3, hq.cell 4⟩)
  refine wp_region_L (by kernel_rfl) 8 (fun X => X.cell? ⟨w1.heap.size, 2, none⟩ = some (.slice Ag ng cg) ∧ X.cell? ⟨w.heap.size, 0, none⟩ = some (.slice Av nv cv) ∧ X.cell? ⟨w.heap.size, 1, none⟩ = some (.slice Aa na ca) ∧ X.cell? ⟨w.heap.size, 2, none⟩ = some (.slice Af nf cf) ∧ X.cell? ⟨w.heap.size, 3, none⟩ = some (.bool false) ∧ X.cell? ⟨w.heap.size, 4, none⟩ = some (.bool loop)) (SO.out _ ⟨HBD.out.drew.blk, HBD.out.drew.gr⟩) (fun hHeld => ?_)
  have HS0 := Lib.hid hHeld
  clear hHeld
  change wpAnyL _ _ _ _ _ 8 9 (Array.replicate 9 false) _ _
  have HB0 : Hid (BoxS w1 sb Xa.drew (w1.heap.size + 1) (w1.heap.size) 45 #[.int .i64 2, .string s, .slice Ag ng cg, .slice none 0 0, .slice none 0 0] ((d + 4)) (madeE c 4) (.slice Ag ng cg) (l)) := Lib.hid HBD.out.drew
  obtain ⟨X0, hX0⟩ : ∃ X0, Xa.drew = X0 := ⟨_, rfl⟩
  rw [hX0] at HB0 HS0 ⊢
  clear hX0
  obtain ⟨css, hcss⟩ := HB0.out.own
  have HOW := Lib.hid hcss
  clear hcss
  refine takeL 0 86 (.pointer (some ⟨w1.heap.size, 2, none⟩)) HS0.out rfl rfl (by kernel_rfl) (by kernel_rfl) (by kernel_rfl) (by decide) (fun _ _ _ h => HQ.out _ _ _ _ _ h) (by kernel_rfl) ?_ ?_
  · intro w2; go_simp
  try simp only [sA, sB, sC]
  refine takeL_S 1 87 (.slice Ag ng cg) [8] HS0.out rfl rfl (by kernel_rfl) (by kernel_rfl) (by kernel_rfl) (by decide) (by kernel_rfl) (fun _ _ _ h => HQ.out _ _ _ _ _ h) (by kernel_rfl) ?_ ?_
  · intro w2 hSw; obtain ⟨g0, g1, g2, g3, g4, g5⟩ := hSw; go_simp
  try simp only [sA, sB, sC]
  refine takeL_S 2 88 (.agg #[.slice Av nv cv, .slice Aa na ca, .slice Af nf cf, .bool false, .bool loop]) [8] HS0.out rfl rfl (by kernel_rfl) (by kernel_rfl) (by kernel_rfl) (by decide) (by kernel_rfl) (fun _ _ _ h => HQ.out _ _ _ _ _ h) (by kernel_rfl) ?_ ?_
  · intro w2 hSw; obtain ⟨g0, g1, g2, g3, g4, g5⟩ := hSw; go_simp
  try simp only [sA, sB, sC]
  refine takeL 3 89 (.pointer (some ⟨sb, 0, none⟩)) HS0.out rfl rfl (by kernel_rfl) (by kernel_rfl) (by kernel_rfl) (by decide) (fun _ _ _ h => HQ.out _ _ _ _ _ h) (by kernel_rfl) ?_ ?_
  · intro w2; go_simp
  try simp only [sA, sB, sC]
  refine wpAnyL_ready (rs := [4]) (by kernel_rfl) (by simp) ?_
  refine AllReadyL.cons rfl (fun K hK => ?_) AllReadyL.nil
  go_simp
  refine (HHX3.out X0 HB0.out.gr HB0.out.src).mono ?_
  intro e X1 hp
  obtain ⟨x, Ax, cx, rfl, hm1, hx1, hs1, hg1⟩ := hp.new
  have HB1 := Lib.hid (HB0.out.step hg1 hs1)
  have HMX : Hid ((madeE c 4) x) := Lib.hid (made_up (by omega) hm1)
  have HXR := Lib.hid (RExpr.up (d' := (d + 4)) _ (by omega) hx1)
  have HG1 := Lib.hid hg1
  have HSR := Lib.hid hs1
  clear hp hm1 hx1 hs1 hg1
  refine hK.out _ _ (SO.out _ ⟨HB1.out.blk, HB1.out.gr⟩) (fun hHeld => ?_)
  have HS1 := Lib.hid hHeld
  clear hK K hHeld
  try simp only [sA, sB, sC]
  refine wpAnyL_ready (rs := [5]) (by kernel_rfl) (by simp) ?_
  refine AllReadyL.cons rfl (fun K hK => ?_) AllReadyL.nil
  go_simp
  refine hK.out _ _ (SO.out _ ⟨(HB1.out.below (below1 _ _)).blk, (HB1.out.below (below1 _ _)).gr⟩) (fun hHeld => ?_)
  have HS2 := Lib.hid hHeld
  clear hK K hHeld
  try simp only [sA, sB, sC]
  have hb2 := HB1.out.below (below1 X1 (.cells #[.int .i64 x.kind, .int .i64 x.op, .int .i64 x.n, .string x.name, .slice Ax x.args.length cx] 42))
  have hn2 : Blk (X1.alloc (.cells #[.int .i64 x.kind, .int .i64 x.op, .int .i64 x.n, .string x.name, .slice Ax x.args.length cx] 42)) X1.heap.size 42 #[.int .i64 x.kind, .int .i64 x.op, .int .i64 x.n, .string x.name, .slice Ax x.args.length cx] := Blk.new X1 _ _
  have h12 := below1 X1 (.cells #[.int .i64 x.kind, .int .i64 x.op, .int .i64 x.n, .string x.name, .slice Ax x.args.length cx] 42)
  generalize (X1.alloc (.cells #[.int .i64 x.kind, .int .i64 x.op, .int .i64 x.n, .string x.name, .slice Ax x.args.length cx] 42)) = X2 at *
  have HB2 := Lib.hid hb2
  have HN2 := Lib.hid hn2
  have H12 := Lib.hid h12
  clear hb2 hn2 h12
  refine wpAnyL_ready (rs := [6]) (by kernel_rfl) (by simp) ?_
  refine AllReadyL.cons rfl (fun K hK => ?_) AllReadyL.nil
  have hsx := HB2.out.bs
  refine step_append_lies _ (by rfl) _ _ _ (by rfl) (w1.heap.size + 1) 42 zi _ 5 64 Tryz.underlying40 hj0 hj1 hj2 hj3 rfl (by omega) (.slice Ag ng cg) ng css.flatten (by rfl) (HB0.out.row2 HG1.out H12.out HNG.out HOW.out) ⟨X1.heap.size, 0, none⟩ 1 1 [.int .i64 x.kind, .int .i64 x.op, .int .i64 x.n, .string x.name, .slice Ax x.args.length cx] (by rfl) (by rfl) (World.news_of_block HN2.out) (by simp [Value.oneCell']) (by omega) (by unfold maxLen; omega) (by omega) hsx X2.heap.size rfl ?_
  intro gp cp X3 hown3 hgrow3 hat3 hlt3
  have HB3 := Lib.hid (HB0.out.app HG1.out HSR.out H12.out HNG.out HOW.out HXR.out rfl HMX.out hown3 hgrow3 hat3)
  clear hsx hown3 hgrow3 hat3
  refine hK.out _ _ (SO.out _ ⟨HB3.out.blk, HB3.out.gr⟩) (fun hHeld => ?_)
  have HS3 := Lib.hid hHeld
  clear hK K hHeld
  try simp only [sA, sB, sC]
  refine takeL 7 93 (.pointer (some ⟨w1.heap.size, 2, none⟩)) HS3.out rfl rfl (by kernel_rfl) (by kernel_rfl) (by kernel_rfl) (by decide) (fun _ _ _ h => HQ.out _ _ _ _ _ h) (by kernel_rfl) ?_ ?_
  · intro w2; go_simp
  try simp only [sA, sB, sC]
  refine wpAnyL_ready (rs := [8]) (by kernel_rfl) (by simp) ?_
  refine AllReadyL.last rfl (by kernel_rfl) (fun K hK => ?_)
  have kc : X3.cell? ⟨w1.heap.size, 2, none⟩ = some (.slice Ag ng cg) := HB3.out.blk.cell 2
  have kz := HB3.out.blk.frozen 2
  go_simp
  refine hK.out _ _ ?_
  clear hK K
  try simp only [sA, sB, sC]
  refine wpAnyL_done (by kernel_rfl) ?_ _
  have HB4 := Lib.hid (HB3.out.set 2 (.slice (some ⟨gp, 0, none⟩) (ng + 1) cp))
  go_wp2
  exact HKK.out _ _ _ _ _ _ _ _ _ _ _ _ _ _ _ (⟨2, s, _, _, _, l ++ [x], [], [], HB4.out, by rw [HLZ.out]; exact half_store hd HOK.out HM.out HMX.out, .inl ⟨rfl, rfl, rfl, rfl⟩⟩)
set_option maxRecDepth 100000 in
set_option maxHeartbeats 8000000 in
theorem form_call (cc : Code) (hc : (Tryz.f26.body.bind (thenOf 94)) = some cc) {w : World} {sb : Nat} {c : Scp} {Av Aa Af : Option Addr} {nv na nf cv ca cf : Nat} {loop : Bool} {d : Nat} (G : GCtx w sb c Av Aa Af nv na nf cv ca cf loop d) {w1 : World} (hgw : w.grownBy w1 (some sb)) (hsc : Blk w1 w.heap.size 61 #[.slice Av nv cv, .slice Aa na ca, .slice Af nf cf, .bool false, .bool loop]) (Y : World)
    (hb : BoxS w1 sb Y (w1.heap.size + 1) w1.heap.size 45 #[.int .i64 8, .string ⟨#[]⟩, .slice none 0 0, .slice none 0 0, .slice none 0 0] (d + 4) (madeE c 4) (.slice none 0 0) []) 
    (Q : Exit → Act → World → Prop) (hQ : ∀ p (a : Act) t (v : Value) (w' : World), Q (Exit.panic p) (a.put t v) w' → Q (Exit.panic p) a w') (u0 u4 u5 u6 u7 u8 u9 u10 u12 u13 u14 u15 u16 u17 u18 u19 u20 u21 u22 u23 u24 u25 u26 u27 u28 u29 u30 u31 u32 u33 u34 u35 u36 u37 u38 u39 u40 u41 u42 u43 u44 u45 u46 u47 u48 u49 u50 u51 u52 u53 u54 u55 u56 u57 u58 u59 u60 u61 u62 u63 u64 u65 u66 u67 u68 u69 u70 u71 u72 u73 u74 u75 u76 u77 u78 u79 u80 u81 u82 u83 u84 u85 u86 u87 u88 u89 u90 u91 u92 u93 u94 u95 u96 u97 u98 u99 u100 u101 u102 u103 u104 u105 u106 u107 u108 u109 u110 u111 u112 u113 u114 u115 u116 u117 u118 u119 u120 u121 u122 u123 u124 u125 u126 u127 u128 u129 u130 u131 u132 u133 u134 u135 u136 u137 u138 u139 u140 u141 u142 u143 u144 u145 u146 u147 u148 u149 u150 u151 u152 u153 u154 u155 u156 u157 u158 u159 u160 u161 u162 u163 u164 u165 u166 u167 u168 u169 u170 u171 u172 u173 u174 u175 u176 u177 u178 u179 u180 u181 u182 u183 u184 u185 u186 u187 u188 u189 u190 u191 u192 u193 u194 u195 u196 u197 u198 u199 u200 u201 u202 u203 u204 u205 u206 u207 u208 u209 u210 u211 u212 u213 u214 u215 u216 u217 u218 u219 u220 u221 u222 u223 u224 u225 : Value)
    (hK : ∀ (x100 x101 x102 x103 x104 x105 x106 x107 x108 : Value) (w' : World), MidS w1 sb w' w1.heap.size c d loop → Q .normal { tmps := #[u0, .pointer (some ⟨sb, 0, none⟩), .int .i64 (d : Int), .pointer (some ⟨w.heap.size, 0, none⟩), u4, u5, u6, u7, u8, u9, u10, .pointer (some ⟨w1.heap.size, 0, none⟩), u12, u13, u14, u15, u16, u17, u18, u19, u20, u21, u22, u23, u24, u25, u26, u27, u28, u29, u30, u31, u32, u33, u34, u35, u36, u37, u38, u39, u40, u41, u42, u43, u44, u45, u46, u47, u48, u49, u50, u51, u52, u53, u54, u55, u56, u57, u58, u59, u60, u61, u62, u63, u64, u65, u66, u67, u68, u69, u70, u71, u72, u73, u74, u75, u76, u77, u78, u79, u80, u81, u82, u83, u84, u85, u86, u87, u88, u89, u90, u91, u92, u93, u94, u95, u96, u97, u98, u99, x100, x101, x102, x103, x104, x105, x106, x107, x108, u109, u110, u111, u112, u113, u114, u115, u116, u117, u118, u119, u120, u121, u122, u123, u124, u125, u126, u127, u128, u129, u130, u131, u132, u133, u134, u135, u136, u137, u138, u139, u140, u141, u142, u143, u144, u145, u146, u147, u148, u149, u150, u151, u152, u153, u154, u155, u156, u157, u158, u159, u160, u161, u162, u163, u164, u165, u166, u167, u168, u169, u170, u171, u172, u173, u174, u175, u176, u177, u178, u179, u180, u181, u182, u183, u184, u185, u186, u187, u188, u189, u190, u191, u192, u193, u194, u195, u196, u197, u198, u199, u200, u201, u202, u203, u204, u205, u206, u207, u208, u209, u210, u211, u212, u213, u214, u215, u216, u217, u218, u219, u220, u221, u222, u223, u224, u225], defers := [] } w') :
    cc.wp Tryz.prog Q { tmps := #[u0, .pointer (some ⟨sb, 0, none⟩), .int .i64 (d : Int), .pointer (some ⟨w.heap.size, 0, none⟩), u4, u5, u6, u7, u8, u9, u10, .pointer (some ⟨w1.heap.size, 0, none⟩), u12, u13, u14, u15, u16, u17, u18, u19, u20, u21, u22, u23, u24, u25, u26, u27, u28, u29, u30, u31, u32, u33, u34, u35, u36, u37, u38, u39, u40, u41, u42, u43, u44, u45, u46, u47, u48, u49, u50, u51, u52, u53, u54, u55, u56, u57, u58, u59, u60, u61, u62, u63, u64, u65, u66, u67, u68, u69, u70, u71, u72, u73, u74, u75, u76, u77, u78, u79, u80, u81, u82, u83, u84, u85, u86, u87, u88, u89, u90, u91, u92, u93, u94, u95, u96, u97, u98, u99, u100, u101, u102, u103, u104, u105, u106, u107, u108, u109, u110, u111, u112, u113, u114, u115, u116, u117, u118, u119, u120, u121, u122, u123, u124, u125, u126, u127, u128, u129, u130, u131, u132, u133, u134, u135, u136, u137, u138, u139, u140, u141, u142, u143, u144, u145, u146, u147, u148, u149, u150, u151, u152, u153, u154, u155, u156, u157, u158, u159, u160, u161, u162, u163, u164, u165, u166, u167, u168, u169, u170, u171, u172, u173, u174, u175, u176, u177, u178, u179, u180, u181, u182, u183, u184, u185, u186, u187, u188, u189, u190, u191, u192, u193, u194, u195, u196, u197, u198, u199, u200, u201, u202, u203, u204, u205, u206, u207, u208, u209, u210, u211, u212, u213, u214, u215, u216, u217, u218, u219, u220, u221, u222, u223, u224, u225], defers := [] } Y := by
  have HKK := Lib.hid hK
  have HQ := Lib.hid hQ
  have hwx : w.heap.size < w1.heap.size := hsc.lt
  have hwn : w.heap.size ≠ w1.heap.size := Nat.ne_of_lt hwx
  have hwm : w1.heap.size ≠ w.heap.size := Nat.ne_of_gt hwx
  have hcc : Tryz.f26.body.bind (thenOf 94) = some cc := hc
  simp only [Tryz.f26, thenOf, Option.bind_some, Nat.reduceEqDiff, ↓reduceIte, Option.none_or, Option.or_none, Option.some.injEq] at hcc
  subst hcc
  have HBX := Lib.hid hb
  have HSCB := Lib.hid hsc
  have HGW := Lib.hid hgw
  have HG := Lib.hid G
  have HNE : Hid (sb ≠ w.heap.size) := Lib.hid (by have := G.sb; omega)
  have hd := G.hd
  have hd2 := G.hd2
  have HSB := Lib.hid G.sb
  have HOK := Lib.hid G.ok
  obtain ⟨zi, hj0, hj1, hj2, hj3⟩ := info_parts info_expr
  have HHX3 : Hid (∀ X, w1.grownBy X (some sb) → SrcAt X sb → Calls Tryz.prog 24 #[.agg #[.slice Av nv cv, .slice Aa na ca, .slice Af nf cf, .bool false, .bool loop], .pointer (some ⟨sb, 0, none⟩), .int .i64 3] X (ExprPost X sb c 3)) := Lib.hid (fun X hg hs => HG.out.x3 X (HGW.out.trans hg) hs)
  have HHC3 : Hid (∀ X, w1.grownBy X (some sb) → SrcAt X sb → Calls Tryz.prog 41 #[.agg #[.slice Av nv cv, .slice Aa na ca, .slice Af nf cf, .bool false, .bool loop], .pointer (some ⟨sb, 0, none⟩), .int .i64 3] X fun e w' => ExprPost X sb c 3 e w' ∧ IsCall e) := Lib.hid (fun X hg hs => HG.out.cl X (HGW.out.trans hg) hs)
  clear hc hK hQ hb hsc hgw G
  have HB1 : Hid (BoxS w1 sb (Y.setCell ⟨w1.heap.size, 0, none⟩ (.int .i64 10)) (w1.heap.size + 1) w1.heap.size 45 #[.int .i64 10, .string ⟨#[]⟩, .slice none 0 0, .slice none 0 0, .slice none 0 0] (d + 4) (madeE c 4) (.slice none 0 0) []) := Lib.hid (HBX.out.set 0 (.int .i64 10))
  have ab0 : Y.cell? ⟨w.heap.size, 0, none⟩ = some (.slice Av nv cv) := (HBX.out.sc HSCB.out HNE.out).cell 0
  have ab1 : Y.cell? ⟨w.heap.size, 1, none⟩ = some (.slice Aa na ca) := (HBX.out.sc HSCB.out HNE.out).cell 1
  have ab2 : Y.cell? ⟨w.heap.size, 2, none⟩ = some (.slice Af nf cf) := (HBX.out.sc HSCB.out HNE.out).cell 2
  have ab3 : Y.cell? ⟨w.heap.size, 3, none⟩ = some (.bool false) := (HBX.out.sc HSCB.out HNE.out).cell 3
  have ab4 : Y.cell? ⟨w.heap.size, 4, none⟩ = some (.bool loop) := (HBX.out.sc HSCB.out HNE.out).cell 4
  have ax0 : Y.cell? ⟨w1.heap.size, 0, none⟩ = some (.int .i64 8) := HBX.out.blk.cell 0
  have ax1 : Y.cell? ⟨w1.heap.size, 1, none⟩ = some (.string ⟨#[]⟩) := HBX.out.blk.cell 1
  have ax2 : Y.cell? ⟨w1.heap.size, 2, none⟩ = some (.slice none 0 0) := HBX.out.blk.cell 2
  have ax3 : Y.cell? ⟨w1.heap.size, 3, none⟩ = some (.slice none 0 0) := HBX.out.blk.cell 3
  have ax4 : Y.cell? ⟨w1.heap.size, 4, none⟩ = some (.slice none 0 0) := HBX.out.blk.cell 4
  have az0 : Y.frozen? ⟨w1.heap.size, 0, none⟩ = false := HBX.out.blk.frozen 0
  have az1 : Y.frozen? ⟨w1.heap.size, 1, none⟩ = false := HBX.out.blk.frozen 1
  have az2 : Y.frozen? ⟨w1.heap.size, 2, none⟩ = false := HBX.out.blk.frozen 2
  have az3 : Y.frozen? ⟨w1.heap.size, 3, none⟩ = false := HBX.out.blk.frozen 3
  have az4 : Y.frozen? ⟨w1.heap.size, 4, none⟩ = false := HBX.out.blk.frozen 4
  have alt : w1.heap.size < Y.heap.size := HBX.out.bs
  go_upto_region 22 with fail
  refine wp_world ?_
  intro Xa hXa
  have hbq : BoxS w1 sb Xa (w1.heap.size + 1) w1.heap.size 45 #[.int .i64 10, .string ⟨#[]⟩, .slice none 0 0, .slice none 0 0, .slice none 0 0] (d + 4) (madeE c 4) (.slice none 0 0) [] := by rw [← hXa]; exact HB1.out
  have HB3 := Lib.hid hbq
  clear hXa hbq
  clear ab0 ab1 ab2 ab3 ab4 ax0 ax1 ax2 ax3 ax4 az0 az1 az2 az3 az4 alt
  obtain ⟨Ag, ng, cg, l, hbz, hnz, hlz, haz⟩ := HB3.out.dim
  have HAZ := Lib.hid haz
  clear haz
  have HNG := Lib.hid hnz
  have HLZ := Lib.hid hlz
  have hng0 : ng = 0 := by rw [hnz, hlz]; rfl
  have hng1 : ng ≤ 1 := by omega
  clear hng0 hnz hlz
  have HBD := Lib.hid hbz
  clear hbz
  have SO : Hid (∀ X, (Blk X (w1.heap.size) 45 #[.int .i64 10, .string ⟨#[]⟩, .slice Ag ng cg, .slice none 0 0, .slice none 0 0] ∧ w1.grownBy X (some sb)) → (fun X => X.cell? ⟨w1.heap.size, 2, none⟩ = some (.slice Ag ng cg) ∧ X.cell? ⟨w.heap.size, 0, none⟩ = some (.slice Av nv cv) ∧ X.cell? ⟨w.heap.size, 1, none⟩ = some (.slice Aa na ca) ∧ X.cell? ⟨w.heap.size, 2, none⟩ = some (.slice Af nf cf) ∧ X.cell? ⟨w.heap.size, 3, none⟩ = some (.bool false) ∧ X.cell? ⟨w.heap.size, 4, none⟩ = some (.bool loop)) X) := Lib.hid (fun X h => have hq := HSCB.out.grown h.2 (fun e => by have := Option.some.inj e; have := HSB.out; omega); ⟨h.1.cell 2, hq.cell 0, hq.cell 1, hq.cell 2, hq.cell 3, hq.cell 4⟩)
  refine wp_region_L (by kernel_rfl) 8 (fun X => X.cell? ⟨w1.heap.size, 2, none⟩ = some (.slice Ag ng cg) ∧ X.cell? ⟨w.heap.size, 0, none⟩ = some (.slice Av nv cv) ∧ X.cell? ⟨w.heap.size, 1, none⟩ = some (.slice Aa na ca) ∧ X.cell? ⟨w.heap.size, 2, none⟩ = some (.slice Af nf cf) ∧ X.cell? ⟨w.heap.size, 3, none⟩ = some (.bool false) ∧ X.cell? ⟨w.heap.size, 4, none⟩ = some (.bool loop)) (SO.out _ ⟨HBD.out.drew.blk, HBD.out.drew.gr⟩) (fun hHeld => ?_)
  have HS0 := Lib.hid hHeld
  clear hHeld
  change wpAnyL _ _ _ _ _ 8 9 (Array.replicate 9 false) _ _
  have HB0 : Hid (BoxS w1 sb Xa.drew (w1.heap.size + 1) (w1.heap.size) 45 #[.int .i64 10, .string ⟨#[]⟩, .slice Ag ng cg, .slice none 0 0, .slice none 0 0] ((d + 4)) (madeE c 4) (.slice Ag ng cg) (l)) := Lib.hid HBD.out.drew
  obtain ⟨X0, hX0⟩ : ∃ X0, Xa.drew = X0 := ⟨_, rfl⟩
  rw [hX0] at HB0 HS0 ⊢
  clear hX0
  obtain ⟨css, hcss⟩ := HB0.out.own
  have HOW := Lib.hid hcss
  clear hcss
  refine takeL 0 101 (.pointer (some ⟨w1.heap.size, 2, none⟩)) HS0.out rfl rfl (by kernel_rfl) (by kernel_rfl) (by kernel_rfl) (by decide) (fun _ _ _ h => HQ.out _ _ _ _ _ h) (by kernel_rfl) ?_ ?_
  · intro w2; go_simp
  try simp only [sA, sB, sC]
  refine takeL_S 1 102 (.slice Ag ng cg) [8] HS0.out rfl rfl (by kernel_rfl) (by kernel_rfl) (by kernel_rfl) (by decide) (by kernel_rfl) (fun _ _ _ h => HQ.out _ _ _ _ _ h) (by kernel_rfl) ?_ ?_
  · intro w2 hSw; obtain ⟨g0, g1, g2, g3, g4, g5⟩ := hSw; go_simp
  try simp only [sA, sB, sC]
  refine takeL_S 2 103 (.agg #[.slice Av nv cv, .slice Aa na ca, .slice Af nf cf, .bool false, .bool loop]) [8] HS0.out rfl rfl (by kernel_rfl) (by kernel_rfl) (by kernel_rfl) (by decide) (by kernel_rfl) (fun _ _ _ h => HQ.out _ _ _ _ _ h) (by kernel_rfl) ?_ ?_
  · intro w2 hSw; obtain ⟨g0, g1, g2, g3, g4, g5⟩ := hSw; go_simp
  try simp only [sA, sB, sC]
  refine takeL 3 104 (.pointer (some ⟨sb, 0, none⟩)) HS0.out rfl rfl (by kernel_rfl) (by kernel_rfl) (by kernel_rfl) (by decide) (fun _ _ _ h => HQ.out _ _ _ _ _ h) (by kernel_rfl) ?_ ?_
  · intro w2; go_simp
  try simp only [sA, sB, sC]
  refine wpAnyL_ready (rs := [4]) (by kernel_rfl) (by simp) ?_
  refine AllReadyL.cons rfl (fun K hK => ?_) AllReadyL.nil
  go_simp
  refine (HHC3.out X0 HB0.out.gr HB0.out.src).mono ?_
  intro e X1 hp
  obtain ⟨hp, ca1, ca2, ca3, ca4, hcl⟩ := hp; obtain ⟨x, Ax, cx, rfl, hm1, hx1, hs1, hg1⟩ := hp.new; have HK5 : Hid (x.kind = 5) := Lib.hid (call_kind hcl); clear hcl ca1 ca2 ca3 ca4
  have HB1 := Lib.hid (HB0.out.step hg1 hs1)
  have HMX : Hid ((madeE c 4) x) := Lib.hid (made_up (by omega) hm1)
  have HXR := Lib.hid (RExpr.up (d' := (d + 4)) _ (by omega) hx1)
  have HG1 := Lib.hid hg1
  have HSR := Lib.hid hs1
  clear hp hm1 hx1 hs1 hg1
  refine hK.out _ _ (SO.out _ ⟨HB1.out.blk, HB1.out.gr⟩) (fun hHeld => ?_)
  have HS1 := Lib.hid hHeld
  clear hK K hHeld
  try simp only [sA, sB, sC]
  refine wpAnyL_ready (rs := [5]) (by kernel_rfl) (by simp) ?_
  refine AllReadyL.cons rfl (fun K hK => ?_) AllReadyL.nil
  go_simp
  refine hK.out _ _ (SO.out _ ⟨(HB1.out.below (below1 _ _)).blk, (HB1.out.below (below1 _ _)).gr⟩) (fun hHeld => ?_)
  have HS2 := Lib.hid hHeld
  clear hK K hHeld
  try simp only [sA, sB, sC]
  have hb2 := HB1.out.below (below1 X1 (.cells #[.int .i64 x.kind, .int .i64 x.op, .int .i64 x.n, .string x.name, .slice Ax x.args.length cx] 42))
  have hn2 : Blk (X1.alloc (.cells #[.int .i64 x.kind, .int .i64 x.op, .int .i64 x.n, .string x.name, .slice Ax x.args.length cx] 42)) X1.heap.size 42 #[.int .i64 x.kind, .int .i64 x.op, .int .i64 x.n, .string x.name, .slice Ax x.args.length cx] := Blk.new X1 _ _
  have h12 := below1 X1 (.cells #[.int .i64 x.kind, .int .i64 x.op, .int .i64 x.n, .string x.name, .slice Ax x.args.length cx] 42)
  generalize (X1.alloc (.cells #[.int .i64 x.kind, .int .i64 x.op, .int .i64 x.n, .string x.name, .slice Ax x.args.length cx] 42)) = X2 at *
  have HB2 := Lib.hid hb2
  have HN2 := Lib.hid hn2
  have H12 := Lib.hid h12
  clear hb2 hn2 h12
  refine wpAnyL_ready (rs := [6]) (by kernel_rfl) (by simp) ?_
  refine AllReadyL.cons rfl (fun K hK => ?_) AllReadyL.nil
  have hsx := HB2.out.bs
  refine step_append_lies _ (by rfl) _ _ _ (by rfl) (w1.heap.size + 1) 42 zi _ 5 64 Tryz.underlying40 hj0 hj1 hj2 hj3 rfl (by omega) (.slice Ag ng cg) ng css.flatten (by rfl) (HB0.out.row2 HG1.out H12.out HNG.out HOW.out) ⟨X1.heap.size, 0, none⟩ 1 1 [.int .i64 x.kind, .int .i64 x.op, .int .i64 x.n, .string x.name, .slice Ax x.args.length cx] (by rfl) (by rfl) (World.news_of_block HN2.out) (by simp [Value.oneCell']) (by omega) (by unfold maxLen; omega) (by omega) hsx X2.heap.size rfl ?_
  intro gp cp X3 hown3 hgrow3 hat3 hlt3
  have HB3 := Lib.hid (HB0.out.app HG1.out HSR.out H12.out HNG.out HOW.out HXR.out rfl HMX.out hown3 hgrow3 hat3)
  clear hsx hown3 hgrow3 hat3
  refine hK.out _ _ (SO.out _ ⟨HB3.out.blk, HB3.out.gr⟩) (fun hHeld => ?_)
  have HS3 := Lib.hid hHeld
  clear hK K hHeld
  try simp only [sA, sB, sC]
  refine takeL 7 108 (.pointer (some ⟨w1.heap.size, 2, none⟩)) HS3.out rfl rfl (by kernel_rfl) (by kernel_rfl) (by kernel_rfl) (by decide) (fun _ _ _ h => HQ.out _ _ _ _ _ h) (by kernel_rfl) ?_ ?_
  · intro w2; go_simp
  try simp only [sA, sB, sC]
  refine wpAnyL_ready (rs := [8]) (by kernel_rfl) (by simp) ?_
  refine AllReadyL.last rfl (by kernel_rfl) (fun K hK => ?_)
  have kc : X3.cell? ⟨w1.heap.size, 2, none⟩ = some (.slice Ag ng cg) := HB3.out.blk.cell 2
  have kz := HB3.out.blk.frozen 2
  go_simp
  refine hK.out _ _ ?_
  clear hK K
  try simp only [sA, sB, sC]
  refine wpAnyL_done (by kernel_rfl) ?_ _
  have HB4 := Lib.hid (HB3.out.set 2 (.slice (some ⟨gp, 0, none⟩) (ng + 1) cp))
  go_wp2
  exact HKK.out _ _ _ _ _ _ _ _ _ _ (⟨10, ⟨#[]⟩, _, _, _, l ++ [x], [], [], HB4.out, by rw [HLZ.out]; exact half_call hd HMX.out HK5.out, .inl ⟨rfl, rfl, rfl, rfl⟩⟩)
set_option maxRecDepth 100000 in
set_option maxHeartbeats 8000000 in
theorem form_ret (cc : Code) (hc : (Tryz.f26.body.bind (thenOf 109)) = some cc) {w : World} {sb : Nat} {c : Scp} {Av Aa Af : Option Addr} {nv na nf cv ca cf : Nat} {loop : Bool} {d : Nat} (G : GCtx w sb c Av Aa Af nv na nf cv ca cf loop d) {w1 : World} (hgw : w.grownBy w1 (some sb)) (hsc : Blk w1 w.heap.size 61 #[.slice Av nv cv, .slice Aa na ca, .slice Af nf cf, .bool false, .bool loop]) (Y : World)
    (hb : BoxS w1 sb Y (w1.heap.size + 1) w1.heap.size 45 #[.int .i64 8, .string ⟨#[]⟩, .slice none 0 0, .slice none 0 0, .slice none 0 0] (d + 4) (madeE c 4) (.slice none 0 0) []) 
    (Q : Exit → Act → World → Prop) (hQ : ∀ p (a : Act) t (v : Value) (w' : World), Q (Exit.panic p) (a.put t v) w' → Q (Exit.panic p) a w') (u0 u4 u5 u6 u7 u8 u9 u10 u12 u13 u14 u15 u16 u17 u18 u19 u20 u21 u22 u23 u24 u25 u26 u27 u28 u29 u30 u31 u32 u33 u34 u35 u36 u37 u38 u39 u40 u41 u42 u43 u44 u45 u46 u47 u48 u49 u50 u51 u52 u53 u54 u55 u56 u57 u58 u59 u60 u61 u62 u63 u64 u65 u66 u67 u68 u69 u70 u71 u72 u73 u74 u75 u76 u77 u78 u79 u80 u81 u82 u83 u84 u85 u86 u87 u88 u89 u90 u91 u92 u93 u94 u95 u96 u97 u98 u99 u100 u101 u102 u103 u104 u105 u106 u107 u108 u109 u110 u111 u112 u113 u114 u115 u116 u117 u118 u119 u120 u121 u122 u123 u124 u125 u126 u127 u128 u129 u130 u131 u132 u133 u134 u135 u136 u137 u138 u139 u140 u141 u142 u143 u144 u145 u146 u147 u148 u149 u150 u151 u152 u153 u154 u155 u156 u157 u158 u159 u160 u161 u162 u163 u164 u165 u166 u167 u168 u169 u170 u171 u172 u173 u174 u175 u176 u177 u178 u179 u180 u181 u182 u183 u184 u185 u186 u187 u188 u189 u190 u191 u192 u193 u194 u195 u196 u197 u198 u199 u200 u201 u202 u203 u204 u205 u206 u207 u208 u209 u210 u211 u212 u213 u214 u215 u216 u217 u218 u219 u220 u221 u222 u223 u224 u225 : Value)
    (hK : ∀ (x117 x118 x119 x120 x121 x122 : Value) (w' : World), MidS w1 sb w' w1.heap.size c d loop → Q .normal { tmps := #[u0, .pointer (some ⟨sb, 0, none⟩), .int .i64 (d : Int), .pointer (some ⟨w.heap.size, 0, none⟩), u4, u5, u6, u7, u8, u9, u10, .pointer (some ⟨w1.heap.size, 0, none⟩), u12, u13, u14, u15, u16, u17, u18, u19, u20, u21, u22, u23, u24, u25, u26, u27, u28, u29, u30, u31, u32, u33, u34, u35, u36, u37, u38, u39, u40, u41, u42, u43, u44, u45, u46, u47, u48, u49, u50, u51, u52, u53, u54, u55, u56, u57, u58, u59, u60, u61, u62, u63, u64, u65, u66, u67, u68, u69, u70, u71, u72, u73, u74, u75, u76, u77, u78, u79, u80, u81, u82, u83, u84, u85, u86, u87, u88, u89, u90, u91, u92, u93, u94, u95, u96, u97, u98, u99, u100, u101, u102, u103, u104, u105, u106, u107, u108, u109, u110, u111, u112, u113, u114, u115, u116, x117, x118, x119, x120, x121, x122, u123, u124, u125, u126, u127, u128, u129, u130, u131, u132, u133, u134, u135, u136, u137, u138, u139, u140, u141, u142, u143, u144, u145, u146, u147, u148, u149, u150, u151, u152, u153, u154, u155, u156, u157, u158, u159, u160, u161, u162, u163, u164, u165, u166, u167, u168, u169, u170, u171, u172, u173, u174, u175, u176, u177, u178, u179, u180, u181, u182, u183, u184, u185, u186, u187, u188, u189, u190, u191, u192, u193, u194, u195, u196, u197, u198, u199, u200, u201, u202, u203, u204, u205, u206, u207, u208, u209, u210, u211, u212, u213, u214, u215, u216, u217, u218, u219, u220, u221, u222, u223, u224, u225], defers := [] } w') :
    cc.wp Tryz.prog Q { tmps := #[u0, .pointer (some ⟨sb, 0, none⟩), .int .i64 (d : Int), .pointer (some ⟨w.heap.size, 0, none⟩), u4, u5, u6, u7, u8, u9, u10, .pointer (some ⟨w1.heap.size, 0, none⟩), u12, u13, u14, u15, u16, u17, u18, u19, u20, u21, u22, u23, u24, u25, u26, u27, u28, u29, u30, u31, u32, u33, u34, u35, u36, u37, u38, u39, u40, u41, u42, u43, u44, u45, u46, u47, u48, u49, u50, u51, u52, u53, u54, u55, u56, u57, u58, u59, u60, u61, u62, u63, u64, u65, u66, u67, u68, u69, u70, u71, u72, u73, u74, u75, u76, u77, u78, u79, u80, u81, u82, u83, u84, u85, u86, u87, u88, u89, u90, u91, u92, u93, u94, u95, u96, u97, u98, u99, u100, u101, u102, u103, u104, u105, u106, u107, u108, u109, u110, u111, u112, u113, u114, u115, u116, u117, u118, u119, u120, u121, u122, u123, u124, u125, u126, u127, u128, u129, u130, u131, u132, u133, u134, u135, u136, u137, u138, u139, u140, u141, u142, u143, u144, u145, u146, u147, u148, u149, u150, u151, u152, u153, u154, u155, u156, u157, u158, u159, u160, u161, u162, u163, u164, u165, u166, u167, u168, u169, u170, u171, u172, u173, u174, u175, u176, u177, u178, u179, u180, u181, u182, u183, u184, u185, u186, u187, u188, u189, u190, u191, u192, u193, u194, u195, u196, u197, u198, u199, u200, u201, u202, u203, u204, u205, u206, u207, u208, u209, u210, u211, u212, u213, u214, u215, u216, u217, u218, u219, u220, u221, u222, u223, u224, u225], defers := [] } Y := by
  have HKK := Lib.hid hK
  have HQ := Lib.hid hQ
  have hwx : w.heap.size < w1.heap.size := hsc.lt
  have hwn : w.heap.size ≠ w1.heap.size := Nat.ne_of_lt hwx
  have hwm : w1.heap.size ≠ w.heap.size := Nat.ne_of_gt hwx
  have hcc : Tryz.f26.body.bind (thenOf 109) = some cc := hc
  simp only [Tryz.f26, thenOf, Option.bind_some, Nat.reduceEqDiff, ↓reduceIte, Option.none_or, Option.or_none, Option.some.injEq] at hcc
  subst hcc
  have HBX := Lib.hid hb
  have HSCB := Lib.hid hsc
  have HGW := Lib.hid hgw
  have HG := Lib.hid G
  have HNE : Hid (sb ≠ w.heap.size) := Lib.hid (by have := G.sb; omega)
  have hd := G.hd
  have hd2 := G.hd2
  have HSB := Lib.hid G.sb
  have HOK := Lib.hid G.ok
  obtain ⟨zi, hj0, hj1, hj2, hj3⟩ := info_parts info_expr
  have HHX3 : Hid (∀ X, w1.grownBy X (some sb) → SrcAt X sb → Calls Tryz.prog 24 #[.agg #[.slice Av nv cv, .slice Aa na ca, .slice Af nf cf, .bool false, .bool loop], .pointer (some ⟨sb, 0, none⟩), .int .i64 3] X (ExprPost X sb c 3)) := Lib.hid (fun X hg hs => HG.out.x3 X (HGW.out.trans hg) hs)
  have HHC3 : Hid (∀ X, w1.grownBy X (some sb) → SrcAt X sb → Calls Tryz.prog 41 #[.agg #[.slice Av nv cv, .slice Aa na ca, .slice Af nf cf, .bool false, .bool loop], .pointer (some ⟨sb, 0, none⟩), .int .i64 3] X fun e w' => ExprPost X sb c 3 e w' ∧ IsCall e) := Lib.hid (fun X hg hs => HG.out.cl X (HGW.out.trans hg) hs)
  clear hc hK hQ hb hsc hgw G
  have ab0 : Y.cell? ⟨w.heap.size, 0, none⟩ = some (.slice Av nv cv) := (HBX.out.sc HSCB.out HNE.out).cell 0
  have ab1 : Y.cell? ⟨w.heap.size, 1, none⟩ = some (.slice Aa na ca) := (HBX.out.sc HSCB.out HNE.out).cell 1
  have ab2 : Y.cell? ⟨w.heap.size, 2, none⟩ = some (.slice Af nf cf) := (HBX.out.sc HSCB.out HNE.out).cell 2
  have ab3 : Y.cell? ⟨w.heap.size, 3, none⟩ = some (.bool false) := (HBX.out.sc HSCB.out HNE.out).cell 3
  have ab4 : Y.cell? ⟨w.heap.size, 4, none⟩ = some (.bool loop) := (HBX.out.sc HSCB.out HNE.out).cell 4
  have ax0 : Y.cell? ⟨w1.heap.size, 0, none⟩ = some (.int .i64 8) := HBX.out.blk.cell 0
  have ax1 : Y.cell? ⟨w1.heap.size, 1, none⟩ = some (.string ⟨#[]⟩) := HBX.out.blk.cell 1
  have ax2 : Y.cell? ⟨w1.heap.size, 2, none⟩ = some (.slice none 0 0) := HBX.out.blk.cell 2
  have ax3 : Y.cell? ⟨w1.heap.size, 3, none⟩ = some (.slice none 0 0) := HBX.out.blk.cell 3
  have ax4 : Y.cell? ⟨w1.heap.size, 4, none⟩ = some (.slice none 0 0) := HBX.out.blk.cell 4
  have az0 : Y.frozen? ⟨w1.heap.size, 0, none⟩ = false := HBX.out.blk.frozen 0
  have az1 : Y.frozen? ⟨w1.heap.size, 1, none⟩ = false := HBX.out.blk.frozen 1
  have az2 : Y.frozen? ⟨w1.heap.size, 2, none⟩ = false := HBX.out.blk.frozen 2
  have az3 : Y.frozen? ⟨w1.heap.size, 3, none⟩ = false := HBX.out.blk.frozen 3
  have az4 : Y.frozen? ⟨w1.heap.size, 4, none⟩ = false := HBX.out.blk.frozen 4
  have alt : w1.heap.size < Y.heap.size := HBX.out.bs
  have HBQ := Lib.hid (HBX.out.below (below1 Y (.cells #[.int .i64 7, .int .i64 9] 3)))
  go_wp2_with (go_at_call 21; refine (next_any _ sb 2 (by omega) HBQ.out.src).mono ?_; rintro e X2 ⟨⟨r, hr, rfl⟩, hs1, hg1⟩; obtain ⟨v, hv, hvc⟩ := pair_cell ((Blk.new Y 3 #[.int .i64 7, .int .i64 9]).grown hg1 (fun e => by have := Option.some.inj e; have := HBX.out.src.lt; omega)) hr; have HV := Lib.hid hv; have HB2 := Lib.hid (HBQ.out.step hg1 hs1); clear hs1 hg1 hv; have cb0 : X2.cell? ⟨w.heap.size, 0, none⟩ = some (.slice Av nv cv) := (HB2.out.sc HSCB.out HNE.out).cell 0; have cb1 : X2.cell? ⟨w.heap.size, 1, none⟩ = some (.slice Aa na ca) := (HB2.out.sc HSCB.out HNE.out).cell 1; have cb2 : X2.cell? ⟨w.heap.size, 2, none⟩ = some (.slice Af nf cf) := (HB2.out.sc HSCB.out HNE.out).cell 2; have cb3 : X2.cell? ⟨w.heap.size, 3, none⟩ = some (.bool false) := (HB2.out.sc HSCB.out HNE.out).cell 3; have cb4 : X2.cell? ⟨w.heap.size, 4, none⟩ = some (.bool loop) := (HB2.out.sc HSCB.out HNE.out).cell 4; have cx0 : X2.cell? ⟨w1.heap.size, 0, none⟩ = some (.int .i64 8) := HB2.out.blk.cell 0; have cx1 : X2.cell? ⟨w1.heap.size, 1, none⟩ = some (.string ⟨#[]⟩) := HB2.out.blk.cell 1; have cx2 : X2.cell? ⟨w1.heap.size, 2, none⟩ = some (.slice none 0 0) := HB2.out.blk.cell 2; have cx3 : X2.cell? ⟨w1.heap.size, 3, none⟩ = some (.slice none 0 0) := HB2.out.blk.cell 3; have cx4 : X2.cell? ⟨w1.heap.size, 4, none⟩ = some (.slice none 0 0) := HB2.out.blk.cell 4; have cz0 : X2.frozen? ⟨w1.heap.size, 0, none⟩ = false := HB2.out.blk.frozen 0; have cz1 : X2.frozen? ⟨w1.heap.size, 1, none⟩ = false := HB2.out.blk.frozen 1; have cz2 : X2.frozen? ⟨w1.heap.size, 2, none⟩ = false := HB2.out.blk.frozen 2; have cz3 : X2.frozen? ⟨w1.heap.size, 3, none⟩ = false := HB2.out.blk.frozen 3; have cz4 : X2.frozen? ⟨w1.heap.size, 4, none⟩ = false := HB2.out.blk.frozen 4; have clt : w1.heap.size < X2.heap.size := HB2.out.bs)
  exact HKK.out _ _ _ _ _ _ _ (⟨v, ⟨#[]⟩, _, _, _, [], [], [], HB2.out.set 0 (.int .i64 v), half_one hd (by rcases HV.out with h | h; exact .inl h; exact .inr (.inr h)), .inl ⟨rfl, rfl, rfl, rfl⟩⟩)
set_option maxRecDepth 100000 in
set_option maxHeartbeats 8000000 in
theorem form_break (cc : Code) (hc : (Tryz.f26.body.bind (thenOf 175)) = some cc) {w : World} {sb : Nat} {c : Scp} {Av Aa Af : Option Addr} {nv na nf cv ca cf : Nat} {loop : Bool} {d : Nat} (G : GCtx w sb c Av Aa Af nv na nf cv ca cf loop d) {w1 : World} (hgw : w.grownBy w1 (some sb)) (hsc : Blk w1 w.heap.size 61 #[.slice Av nv cv, .slice Aa na ca, .slice Af nf cf, .bool false, .bool loop]) (Y : World)
    (hb : BoxS w1 sb Y (w1.heap.size + 1) w1.heap.size 45 #[.int .i64 8, .string ⟨#[]⟩, .slice none 0 0, .slice none 0 0, .slice none 0 0] (d + 4) (madeE c 4) (.slice none 0 0) []) (hlp : loop = true)
    (Q : Exit → Act → World → Prop) (hQ : ∀ p (a : Act) t (v : Value) (w' : World), Q (Exit.panic p) (a.put t v) w' → Q (Exit.panic p) a w') (u0 u4 u5 u6 u7 u8 u9 u10 u12 u13 u14 u15 u16 u17 u18 u19 u20 u21 u22 u23 u24 u25 u26 u27 u28 u29 u30 u31 u32 u33 u34 u35 u36 u37 u38 u39 u40 u41 u42 u43 u44 u45 u46 u47 u48 u49 u50 u51 u52 u53 u54 u55 u56 u57 u58 u59 u60 u61 u62 u63 u64 u65 u66 u67 u68 u69 u70 u71 u72 u73 u74 u75 u76 u77 u78 u79 u80 u81 u82 u83 u84 u85 u86 u87 u88 u89 u90 u91 u92 u93 u94 u95 u96 u97 u98 u99 u100 u101 u102 u103 u104 u105 u106 u107 u108 u109 u110 u111 u112 u113 u114 u115 u116 u117 u118 u119 u120 u121 u122 u123 u124 u125 u126 u127 u128 u129 u130 u131 u132 u133 u134 u135 u136 u137 u138 u139 u140 u141 u142 u143 u144 u145 u146 u147 u148 u149 u150 u151 u152 u153 u154 u155 u156 u157 u158 u159 u160 u161 u162 u163 u164 u165 u166 u167 u168 u169 u170 u171 u172 u173 u174 u175 u176 u177 u178 u179 u180 u181 u182 u183 u184 u185 u186 u187 u188 u189 u190 u191 u192 u193 u194 u195 u196 u197 u198 u199 u200 u201 u202 u203 u204 u205 u206 u207 u208 u209 u210 u211 u212 u213 u214 u215 u216 u217 u218 u219 u220 u221 u222 u223 u224 u225 : Value)
    (hK : ∀ (x191 x192 x193 x194 x195 x196 : Value) (w' : World), MidS w1 sb w' w1.heap.size c d loop → Q .normal { tmps := #[u0, .pointer (some ⟨sb, 0, none⟩), .int .i64 (d : Int), .pointer (some ⟨w.heap.size, 0, none⟩), u4, u5, u6, u7, u8, u9, u10, .pointer (some ⟨w1.heap.size, 0, none⟩), u12, u13, u14, u15, u16, u17, u18, u19, u20, u21, u22, u23, u24, u25, u26, u27, u28, u29, u30, u31, u32, u33, u34, u35, u36, u37, u38, u39, u40, u41, u42, u43, u44, u45, u46, u47, u48, u49, u50, u51, u52, u53, u54, u55, u56, u57, u58, u59, u60, u61, u62, u63, u64, u65, u66, u67, u68, u69, u70, u71, u72, u73, u74, u75, u76, u77, u78, u79, u80, u81, u82, u83, u84, u85, u86, u87, u88, u89, u90, u91, u92, u93, u94, u95, u96, u97, u98, u99, u100, u101, u102, u103, u104, u105, u106, u107, u108, u109, u110, u111, u112, u113, u114, u115, u116, u117, u118, u119, u120, u121, u122, u123, u124, u125, u126, u127, u128, u129, u130, u131, u132, u133, u134, u135, u136, u137, u138, u139, u140, u141, u142, u143, u144, u145, u146, u147, u148, u149, u150, u151, u152, u153, u154, u155, u156, u157, u158, u159, u160, u161, u162, u163, u164, u165, u166, u167, u168, u169, u170, u171, u172, u173, u174, u175, u176, u177, u178, u179, u180, u181, u182, u183, u184, u185, u186, u187, u188, u189, u190, x191, x192, x193, x194, x195, x196, u197, u198, u199, u200, u201, u202, u203, u204, u205, u206, u207, u208, u209, u210, u211, u212, u213, u214, u215, u216, u217, u218, u219, u220, u221, u222, u223, u224, u225], defers := [] } w') :
    cc.wp Tryz.prog Q { tmps := #[u0, .pointer (some ⟨sb, 0, none⟩), .int .i64 (d : Int), .pointer (some ⟨w.heap.size, 0, none⟩), u4, u5, u6, u7, u8, u9, u10, .pointer (some ⟨w1.heap.size, 0, none⟩), u12, u13, u14, u15, u16, u17, u18, u19, u20, u21, u22, u23, u24, u25, u26, u27, u28, u29, u30, u31, u32, u33, u34, u35, u36, u37, u38, u39, u40, u41, u42, u43, u44, u45, u46, u47, u48, u49, u50, u51, u52, u53, u54, u55, u56, u57, u58, u59, u60, u61, u62, u63, u64, u65, u66, u67, u68, u69, u70, u71, u72, u73, u74, u75, u76, u77, u78, u79, u80, u81, u82, u83, u84, u85, u86, u87, u88, u89, u90, u91, u92, u93, u94, u95, u96, u97, u98, u99, u100, u101, u102, u103, u104, u105, u106, u107, u108, u109, u110, u111, u112, u113, u114, u115, u116, u117, u118, u119, u120, u121, u122, u123, u124, u125, u126, u127, u128, u129, u130, u131, u132, u133, u134, u135, u136, u137, u138, u139, u140, u141, u142, u143, u144, u145, u146, u147, u148, u149, u150, u151, u152, u153, u154, u155, u156, u157, u158, u159, u160, u161, u162, u163, u164, u165, u166, u167, u168, u169, u170, u171, u172, u173, u174, u175, u176, u177, u178, u179, u180, u181, u182, u183, u184, u185, u186, u187, u188, u189, u190, u191, u192, u193, u194, u195, u196, u197, u198, u199, u200, u201, u202, u203, u204, u205, u206, u207, u208, u209, u210, u211, u212, u213, u214, u215, u216, u217, u218, u219, u220, u221, u222, u223, u224, u225], defers := [] } Y := by
  have HKK := Lib.hid hK
  have HQ := Lib.hid hQ
  have hwx : w.heap.size < w1.heap.size := hsc.lt
  have hwn : w.heap.size ≠ w1.heap.size := Nat.ne_of_lt hwx
  have hwm : w1.heap.size ≠ w.heap.size := Nat.ne_of_gt hwx
  have hcc : Tryz.f26.body.bind (thenOf 175) = some cc := hc
  simp only [Tryz.f26, thenOf, Option.bind_some, Nat.reduceEqDiff, ↓reduceIte, Option.none_or, Option.or_none, Option.some.injEq] at hcc
  subst hcc
  have HBX := Lib.hid hb
  have HSCB := Lib.hid hsc
  have HGW := Lib.hid hgw
  have HG := Lib.hid G
  have HNE : Hid (sb ≠ w.heap.size) := Lib.hid (by have := G.sb; omega)
  have hd := G.hd
  have hd2 := G.hd2
  have HSB := Lib.hid G.sb
  have HOK := Lib.hid G.ok
  obtain ⟨zi, hj0, hj1, hj2, hj3⟩ := info_parts info_expr
  have HHX3 : Hid (∀ X, w1.grownBy X (some sb) → SrcAt X sb → Calls Tryz.prog 24 #[.agg #[.slice Av nv cv, .slice Aa na ca, .slice Af nf cf, .bool false, .bool loop], .pointer (some ⟨sb, 0, none⟩), .int .i64 3] X (ExprPost X sb c 3)) := Lib.hid (fun X hg hs => HG.out.x3 X (HGW.out.trans hg) hs)
  have HHC3 : Hid (∀ X, w1.grownBy X (some sb) → SrcAt X sb → Calls Tryz.prog 41 #[.agg #[.slice Av nv cv, .slice Aa na ca, .slice Af nf cf, .bool false, .bool loop], .pointer (some ⟨sb, 0, none⟩), .int .i64 3] X fun e w' => ExprPost X sb c 3 e w' ∧ IsCall e) := Lib.hid (fun X hg hs => HG.out.cl X (HGW.out.trans hg) hs)
  clear hc hK hQ hb hsc hgw G
  have ab0 : Y.cell? ⟨w.heap.size, 0, none⟩ = some (.slice Av nv cv) := (HBX.out.sc HSCB.out HNE.out).cell 0
  have ab1 : Y.cell? ⟨w.heap.size, 1, none⟩ = some (.slice Aa na ca) := (HBX.out.sc HSCB.out HNE.out).cell 1
  have ab2 : Y.cell? ⟨w.heap.size, 2, none⟩ = some (.slice Af nf cf) := (HBX.out.sc HSCB.out HNE.out).cell 2
  have ab3 : Y.cell? ⟨w.heap.size, 3, none⟩ = some (.bool false) := (HBX.out.sc HSCB.out HNE.out).cell 3
  have ab4 : Y.cell? ⟨w.heap.size, 4, none⟩ = some (.bool loop) := (HBX.out.sc HSCB.out HNE.out).cell 4
  have ax0 : Y.cell? ⟨w1.heap.size, 0, none⟩ = some (.int .i64 8) := HBX.out.blk.cell 0
  have ax1 : Y.cell? ⟨w1.heap.size, 1, none⟩ = some (.string ⟨#[]⟩) := HBX.out.blk.cell 1
  have ax2 : Y.cell? ⟨w1.heap.size, 2, none⟩ = some (.slice none 0 0) := HBX.out.blk.cell 2
  have ax3 : Y.cell? ⟨w1.heap.size, 3, none⟩ = some (.slice none 0 0) := HBX.out.blk.cell 3
  have ax4 : Y.cell? ⟨w1.heap.size, 4, none⟩ = some (.slice none 0 0) := HBX.out.blk.cell 4
  have az0 : Y.frozen? ⟨w1.heap.size, 0, none⟩ = false := HBX.out.blk.frozen 0
  have az1 : Y.frozen? ⟨w1.heap.size, 1, none⟩ = false := HBX.out.blk.frozen 1
  have az2 : Y.frozen? ⟨w1.heap.size, 2, none⟩ = false := HBX.out.blk.frozen 2
  have az3 : Y.frozen? ⟨w1.heap.size, 3, none⟩ = false := HBX.out.blk.frozen 3
  have az4 : Y.frozen? ⟨w1.heap.size, 4, none⟩ = false := HBX.out.blk.frozen 4
  have alt : w1.heap.size < Y.heap.size := HBX.out.bs
  have HBQ := Lib.hid (HBX.out.below (below1 Y (.cells #[.int .i64 5, .int .i64 6] 3)))
  go_wp2_with (go_at_call 21; refine (next_any _ sb 2 (by omega) HBQ.out.src).mono ?_; rintro e X2 ⟨⟨r, hr, rfl⟩, hs1, hg1⟩; obtain ⟨v, hv, hvc⟩ := pair_cell ((Blk.new Y 3 #[.int .i64 5, .int .i64 6]).grown hg1 (fun e => by have := Option.some.inj e; have := HBX.out.src.lt; omega)) hr; have HV := Lib.hid hv; have HB2 := Lib.hid (HBQ.out.step hg1 hs1); clear hs1 hg1 hv; have cb0 : X2.cell? ⟨w.heap.size, 0, none⟩ = some (.slice Av nv cv) := (HB2.out.sc HSCB.out HNE.out).cell 0; have cb1 : X2.cell? ⟨w.heap.size, 1, none⟩ = some (.slice Aa na ca) := (HB2.out.sc HSCB.out HNE.out).cell 1; have cb2 : X2.cell? ⟨w.heap.size, 2, none⟩ = some (.slice Af nf cf) := (HB2.out.sc HSCB.out HNE.out).cell 2; have cb3 : X2.cell? ⟨w.heap.size, 3, none⟩ = some (.bool false) := (HB2.out.sc HSCB.out HNE.out).cell 3; have cb4 : X2.cell? ⟨w.heap.size, 4, none⟩ = some (.bool loop) := (HB2.out.sc HSCB.out HNE.out).cell 4; have cx0 : X2.cell? ⟨w1.heap.size, 0, none⟩ = some (.int .i64 8) := HB2.out.blk.cell 0; have cx1 : X2.cell? ⟨w1.heap.size, 1, none⟩ = some (.string ⟨#[]⟩) := HB2.out.blk.cell 1; have cx2 : X2.cell? ⟨w1.heap.size, 2, none⟩ = some (.slice none 0 0) := HB2.out.blk.cell 2; have cx3 : X2.cell? ⟨w1.heap.size, 3, none⟩ = some (.slice none 0 0) := HB2.out.blk.cell 3; have cx4 : X2.cell? ⟨w1.heap.size, 4, none⟩ = some (.slice none 0 0) := HB2.out.blk.cell 4; have cz0 : X2.frozen? ⟨w1.heap.size, 0, none⟩ = false := HB2.out.blk.frozen 0; have cz1 : X2.frozen? ⟨w1.heap.size, 1, none⟩ = false := HB2.out.blk.frozen 1; have cz2 : X2.frozen? ⟨w1.heap.size, 2, none⟩ = false := HB2.out.blk.frozen 2; have cz3 : X2.frozen? ⟨w1.heap.size, 3, none⟩ = false := HB2.out.blk.frozen 3; have cz4 : X2.frozen? ⟨w1.heap.size, 4, none⟩ = false := HB2.out.blk.frozen 4; have clt : w1.heap.size < X2.heap.size := HB2.out.bs)
  exact HKK.out _ _ _ _ _ _ _ (⟨v, ⟨#[]⟩, _, _, _, [], [], [], HB2.out.set 0 (.int .i64 v), half_loop hd HV.out hlp, .inl ⟨rfl, rfl, rfl, rfl⟩⟩)
set_option maxRecDepth 100000 in
set_option maxHeartbeats 8000000 in
theorem form_if (cc : Code) (hc : (Tryz.f26.body.bind (thenOf 123)) = some cc) {w : World} {sb : Nat} {c : Scp} {Av Aa Af : Option Addr} {nv na nf cv ca cf : Nat} {loop : Bool} {d : Nat} (G : GCtx w sb c Av Aa Af nv na nf cv ca cf loop d) {w1 : World} (hgw : w.grownBy w1 (some sb)) (hsc : Blk w1 w.heap.size 61 #[.slice Av nv cv, .slice Aa na ca, .slice Af nf cf, .bool false, .bool loop]) (Y : World)
    (hb : BoxS w1 sb Y (w1.heap.size + 1) w1.heap.size 45 #[.int .i64 8, .string ⟨#[]⟩, .slice none 0 0, .slice none 0 0, .slice none 0 0] (d + 4) (madeE c 4) (.slice none 0 0) []) (h2d : 2 ≤ d)
    (Q : Exit → Act → World → Prop) (hQ : ∀ p (a : Act) t (v : Value) (w' : World), Q (Exit.panic p) (a.put t v) w' → Q (Exit.panic p) a w') (u0 u4 u5 u6 u7 u8 u9 u10 u12 u13 u14 u15 u16 u17 u18 u19 u20 u21 u22 u23 u24 u25 u26 u27 u28 u29 u30 u31 u32 u33 u34 u35 u36 u37 u38 u39 u40 u41 u42 u43 u44 u45 u46 u47 u48 u49 u50 u51 u52 u53 u54 u55 u56 u57 u58 u59 u60 u61 u62 u63 u64 u65 u66 u67 u68 u69 u70 u71 u72 u73 u74 u75 u76 u77 u78 u79 u80 u81 u82 u83 u84 u85 u86 u87 u88 u89 u90 u91 u92 u93 u94 u95 u96 u97 u98 u99 u100 u101 u102 u103 u104 u105 u106 u107 u108 u109 u110 u111 u112 u113 u114 u115 u116 u117 u118 u119 u120 u121 u122 u123 u124 u125 u126 u127 u128 u129 u130 u131 u132 u133 u134 u135 u136 u137 u138 u139 u140 u141 u142 u143 u144 u145 u146 u147 u148 u149 u150 u151 u152 u153 u154 u155 u156 u157 u158 u159 u160 u161 u162 u163 u164 u165 u166 u167 u168 u169 u170 u171 u172 u173 u174 u175 u176 u177 u178 u179 u180 u181 u182 u183 u184 u185 u186 u187 u188 u189 u190 u191 u192 u193 u194 u195 u196 u197 u198 u199 u200 u201 u202 u203 u204 u205 u206 u207 u208 u209 u210 u211 u212 u213 u214 u215 u216 u217 u218 u219 u220 u221 u222 u223 u224 u225 : Value)
    (hK : ∀ (x130 x131 x132 x133 x134 x135 x136 x137 x138 x139 x140 x141 x142 x143 x144 x145 x146 x147 x148 x149 x150 : Value) (w' : World), MidS w1 sb w' w1.heap.size c d loop → Q .normal { tmps := #[u0, .pointer (some ⟨sb, 0, none⟩), .int .i64 (d : Int), .pointer (some ⟨w.heap.size, 0, none⟩), u4, u5, u6, u7, u8, u9, u10, .pointer (some ⟨w1.heap.size, 0, none⟩), u12, u13, u14, u15, u16, u17, u18, u19, u20, u21, u22, u23, u24, u25, u26, u27, u28, u29, u30, u31, u32, u33, u34, u35, u36, u37, u38, u39, u40, u41, u42, u43, u44, u45, u46, u47, u48, u49, u50, u51, u52, u53, u54, u55, u56, u57, u58, u59, u60, u61, u62, u63, u64, u65, u66, u67, u68, u69, u70, u71, u72, u73, u74, u75, u76, u77, u78, u79, u80, u81, u82, u83, u84, u85, u86, u87, u88, u89, u90, u91, u92, u93, u94, u95, u96, u97, u98, u99, u100, u101, u102, u103, u104, u105, u106, u107, u108, u109, u110, u111, u112, u113, u114, u115, u116, u117, u118, u119, u120, u121, u122, u123, u124, u125, u126, u127, u128, u129, x130, x131, x132, x133, x134, x135, x136, x137, x138, x139, x140, x141, x142, x143, x144, x145, x146, x147, x148, x149, x150, u151, u152, u153, u154, u155, u156, u157, u158, u159, u160, u161, u162, u163, u164, u165, u166, u167, u168, u169, u170, u171, u172, u173, u174, u175, u176, u177, u178, u179, u180, u181, u182, u183, u184, u185, u186, u187, u188, u189, u190, u191, u192, u193, u194, u195, u196, u197, u198, u199, u200, u201, u202, u203, u204, u205, u206, u207, u208, u209, u210, u211, u212, u213, u214, u215, u216, u217, u218, u219, u220, u221, u222, u223, u224, u225], defers := [] } w') :
    cc.wp Tryz.prog Q { tmps := #[u0, .pointer (some ⟨sb, 0, none⟩), .int .i64 (d : Int), .pointer (some ⟨w.heap.size, 0, none⟩), u4, u5, u6, u7, u8, u9, u10, .pointer (some ⟨w1.heap.size, 0, none⟩), u12, u13, u14, u15, u16, u17, u18, u19, u20, u21, u22, u23, u24, u25, u26, u27, u28, u29, u30, u31, u32, u33, u34, u35, u36, u37, u38, u39, u40, u41, u42, u43, u44, u45, u46, u47, u48, u49, u50, u51, u52, u53, u54, u55, u56, u57, u58, u59, u60, u61, u62, u63, u64, u65, u66, u67, u68, u69, u70, u71, u72, u73, u74, u75, u76, u77, u78, u79, u80, u81, u82, u83, u84, u85, u86, u87, u88, u89, u90, u91, u92, u93, u94, u95, u96, u97, u98, u99, u100, u101, u102, u103, u104, u105, u106, u107, u108, u109, u110, u111, u112, u113, u114, u115, u116, u117, u118, u119, u120, u121, u122, u123, u124, u125, u126, u127, u128, u129, u130, u131, u132, u133, u134, u135, u136, u137, u138, u139, u140, u141, u142, u143, u144, u145, u146, u147, u148, u149, u150, u151, u152, u153, u154, u155, u156, u157, u158, u159, u160, u161, u162, u163, u164, u165, u166, u167, u168, u169, u170, u171, u172, u173, u174, u175, u176, u177, u178, u179, u180, u181, u182, u183, u184, u185, u186, u187, u188, u189, u190, u191, u192, u193, u194, u195, u196, u197, u198, u199, u200, u201, u202, u203, u204, u205, u206, u207, u208, u209, u210, u211, u212, u213, u214, u215, u216, u217, u218, u219, u220, u221, u222, u223, u224, u225], defers := [] } Y := by
  have HKK := Lib.hid hK
  have HQ := Lib.hid hQ
  have hwx : w.heap.size < w1.heap.size := hsc.lt
  have hwn : w.heap.size ≠ w1.heap.size := Nat.ne_of_lt hwx
  have hwm : w1.heap.size ≠ w.heap.size := Nat.ne_of_gt hwx
  have hcc : Tryz.f26.body.bind (thenOf 123) = some cc := hc
  simp only [Tryz.f26, thenOf, Option.bind_some, Nat.reduceEqDiff, ↓reduceIte, Option.none_or, Option.or_none, Option.some.injEq] at hcc
  subst hcc
  have HBX := Lib.hid hb
  have HSCB := Lib.hid hsc
  have HGW := Lib.hid hgw
  have HG := Lib.hid G
  have HNE : Hid (sb ≠ w.heap.size) := Lib.hid (by have := G.sb; omega)
  have hd := G.hd
  have hd2 := G.hd2
  have HSB := Lib.hid G.sb
  have HOK := Lib.hid G.ok
  obtain ⟨zi, hj0, hj1, hj2, hj3⟩ := info_parts info_expr
  have HHX3 : Hid (∀ X, w1.grownBy X (some sb) → SrcAt X sb → Calls Tryz.prog 24 #[.agg #[.slice Av nv cv, .slice Aa na ca, .slice Af nf cf, .bool false, .bool loop], .pointer (some ⟨sb, 0, none⟩), .int .i64 3] X (ExprPost X sb c 3)) := Lib.hid (fun X hg hs => HG.out.x3 X (HGW.out.trans hg) hs)
  have HHC3 : Hid (∀ X, w1.grownBy X (some sb) → SrcAt X sb → Calls Tryz.prog 41 #[.agg #[.slice Av nv cv, .slice Aa na ca, .slice Af nf cf, .bool false, .bool loop], .pointer (some ⟨sb, 0, none⟩), .int .i64 3] X fun e w' => ExprPost X sb c 3 e w' ∧ IsCall e) := Lib.hid (fun X hg hs => HG.out.cl X (HGW.out.trans hg) hs)
  clear hc hK hQ hb hsc hgw G
  have HSW := Lib.hid (HG.out.sm h2d)
  have HED : Hid (d - 1 + 4 = d + 3) := Lib.hid (by omega)
  have HB1 : Hid (BoxS w1 sb (Y.setCell ⟨w1.heap.size, 0, none⟩ (.int .i64 3)) (w1.heap.size + 1) w1.heap.size 45 #[.int .i64 3, .string ⟨#[]⟩, .slice none 0 0, .slice none 0 0, .slice none 0 0] (d + 4) (madeE c 4) (.slice none 0 0) []) := Lib.hid (HBX.out.set 0 (.int .i64 3))
  have ab0 : Y.cell? ⟨w.heap.size, 0, none⟩ = some (.slice Av nv cv) := (HBX.out.sc HSCB.out HNE.out).cell 0
  have ab1 : Y.cell? ⟨w.heap.size, 1, none⟩ = some (.slice Aa na ca) := (HBX.out.sc HSCB.out HNE.out).cell 1
  have ab2 : Y.cell? ⟨w.heap.size, 2, none⟩ = some (.slice Af nf cf) := (HBX.out.sc HSCB.out HNE.out).cell 2
  have ab3 : Y.cell? ⟨w.heap.size, 3, none⟩ = some (.bool false) := (HBX.out.sc HSCB.out HNE.out).cell 3
  have ab4 : Y.cell? ⟨w.heap.size, 4, none⟩ = some (.bool loop) := (HBX.out.sc HSCB.out HNE.out).cell 4
  have ax0 : Y.cell? ⟨w1.heap.size, 0, none⟩ = some (.int .i64 8) := HBX.out.blk.cell 0
  have ax1 : Y.cell? ⟨w1.heap.size, 1, none⟩ = some (.string ⟨#[]⟩) := HBX.out.blk.cell 1
  have ax2 : Y.cell? ⟨w1.heap.size, 2, none⟩ = some (.slice none 0 0) := HBX.out.blk.cell 2
  have ax3 : Y.cell? ⟨w1.heap.size, 3, none⟩ = some (.slice none 0 0) := HBX.out.blk.cell 3
  have ax4 : Y.cell? ⟨w1.heap.size, 4, none⟩ = some (.slice none 0 0) := HBX.out.blk.cell 4
  have az0 : Y.frozen? ⟨w1.heap.size, 0, none⟩ = false := HBX.out.blk.frozen 0
  have az1 : Y.frozen? ⟨w1.heap.size, 1, none⟩ = false := HBX.out.blk.frozen 1
  have az2 : Y.frozen? ⟨w1.heap.size, 2, none⟩ = false := HBX.out.blk.frozen 2
  have az3 : Y.frozen? ⟨w1.heap.size, 3, none⟩ = false := HBX.out.blk.frozen 3
  have az4 : Y.frozen? ⟨w1.heap.size, 4, none⟩ = false := HBX.out.blk.frozen 4
  have alt : w1.heap.size < Y.heap.size := HBX.out.bs
  go_upto_region 27 with fail
  refine wp_world ?_
  intro Xa hXa
  have hbq : BoxS w1 sb Xa (w1.heap.size + 1) w1.heap.size 45 #[.int .i64 3, .string ⟨#[]⟩, .slice none 0 0, .slice none 0 0, .slice none 0 0] (d + 4) (madeE c 4) (.slice none 0 0) [] := by rw [← hXa]; exact HB1.out
  have HB3 := Lib.hid hbq
  clear hXa hbq
  clear ab0 ab1 ab2 ab3 ab4 ax0 ax1 ax2 ax3 ax4 az0 az1 az2 az3 az4 alt
  obtain ⟨Ag, ng, cg, l, hbz, hnz, hlz, haz⟩ := HB3.out.dim
  have HAZ := Lib.hid haz
  clear haz
  have HNG := Lib.hid hnz
  have HLZ := Lib.hid hlz
  have hng0 : ng = 0 := by rw [hnz, hlz]; rfl
  have hng1 : ng ≤ 1 := by omega
  clear hng0 hnz hlz
  have HBD := Lib.hid hbz
  clear hbz
  have SO : Hid (∀ X, (Blk X (w1.heap.size) 45 #[.int .i64 3, .string ⟨#[]⟩, .slice Ag ng cg, .slice none 0 0, .slice none 0 0] ∧ w1.grownBy X (some sb)) → (fun X => X.cell? ⟨w1.heap.size, 2, none⟩ = some (.slice Ag ng cg) ∧ X.cell? ⟨w.heap.size, 0, none⟩ = some (.slice Av nv cv) ∧ X.cell? ⟨w.heap.size, 1, none⟩ = some (.slice Aa na ca) ∧ X.cell? ⟨w.heap.size, 2, none⟩ = some (.slice Af nf cf) ∧ X.cell? ⟨w.heap.size, 3, none⟩ = some (.bool false) ∧ X.cell? ⟨w.heap.size, 4, none⟩ = some (.bool loop)) X) := Lib.hid (fun X h => have hq := HSCB.out.grown h.2 (fun e => by have := Option.some.inj e; have := HSB.out; omega); ⟨h.1.cell 2, hq.cell 0, hq.cell 1, hq.cell 2, hq.cell 3, hq.cell 4⟩)
  refine wp_region_L (by kernel_rfl) 8 (fun X => X.cell? ⟨w1.heap.size, 2, none⟩ = some (.slice Ag ng cg) ∧ X.cell? ⟨w.heap.size, 0, none⟩ = some (.slice Av nv cv) ∧ X.cell? ⟨w.heap.size, 1, none⟩ = some (.slice Aa na ca) ∧ X.cell? ⟨w.heap.size, 2, none⟩ = some (.slice Af nf cf) ∧ X.cell? ⟨w.heap.size, 3, none⟩ = some (.bool false) ∧ X.cell? ⟨w.heap.size, 4, none⟩ = some (.bool loop)) (SO.out _ ⟨HBD.out.drew.blk, HBD.out.drew.gr⟩) (fun hHeld => ?_)
  have HS0 := Lib.hid hHeld
  clear hHeld
  change wpAnyL _ _ _ _ _ 8 9 (Array.replicate 9 false) _ _
  have HB0 : Hid (BoxS w1 sb Xa.drew (w1.heap.size + 1) (w1.heap.size) 45 #[.int .i64 3, .string ⟨#[]⟩, .slice Ag ng cg, .slice none 0 0, .slice none 0 0] ((d + 4)) (madeE c 4) (.slice Ag ng cg) (l)) := Lib.hid HBD.out.drew
  obtain ⟨X0, hX0⟩ : ∃ X0, Xa.drew = X0 := ⟨_, rfl⟩
  rw [hX0] at HB0 HS0 ⊢
  clear hX0
  obtain ⟨css, hcss⟩ := HB0.out.own
  have HOW := Lib.hid hcss
  clear hcss
  refine takeL 0 131 (.pointer (some ⟨w1.heap.size, 2, none⟩)) HS0.out rfl rfl (by kernel_rfl) (by kernel_rfl) (by kernel_rfl) (by decide) (fun _ _ _ h => HQ.out _ _ _ _ _ h) (by kernel_rfl) ?_ ?_
  · intro w2; go_simp
  try simp only [sA, sB, sC]
  refine takeL_S 1 132 (.slice Ag ng cg) [8] HS0.out rfl rfl (by kernel_rfl) (by kernel_rfl) (by kernel_rfl) (by decide) (by kernel_rfl) (fun _ _ _ h => HQ.out _ _ _ _ _ h) (by kernel_rfl) ?_ ?_
  · intro w2 hSw; obtain ⟨g0, g1, g2, g3, g4, g5⟩ := hSw; go_simp
  try simp only [sA, sB, sC]
  refine takeL_S 2 133 (.agg #[.slice Av nv cv, .slice Aa na ca, .slice Af nf cf, .bool false, .bool loop]) [8] HS0.out rfl rfl (by kernel_rfl) (by kernel_rfl) (by kernel_rfl) (by decide) (by kernel_rfl) (fun _ _ _ h => HQ.out _ _ _ _ _ h) (by kernel_rfl) ?_ ?_
  · intro w2 hSw; obtain ⟨g0, g1, g2, g3, g4, g5⟩ := hSw; go_simp
  try simp only [sA, sB, sC]
  refine takeL 3 134 (.pointer (some ⟨sb, 0, none⟩)) HS0.out rfl rfl (by kernel_rfl) (by kernel_rfl) (by kernel_rfl) (by decide) (fun _ _ _ h => HQ.out _ _ _ _ _ h) (by kernel_rfl) ?_ ?_
  · intro w2; go_simp
  try simp only [sA, sB, sC]
  refine wpAnyL_ready (rs := [4]) (by kernel_rfl) (by simp) ?_
  refine AllReadyL.cons rfl (fun K hK => ?_) AllReadyL.nil
  go_simp
  refine (HHX3.out X0 HB0.out.gr HB0.out.src).mono ?_
  intro e X1 hp
  obtain ⟨x, Ax, cx, rfl, hm1, hx1, hs1, hg1⟩ := hp.new
  have HB1 := Lib.hid (HB0.out.step hg1 hs1)
  have HMX : Hid ((madeE c 4) x) := Lib.hid (made_up (by omega) hm1)
  have HXR := Lib.hid (RExpr.up (d' := (d + 4)) _ (by omega) hx1)
  have HG1 := Lib.hid hg1
  have HSR := Lib.hid hs1
  clear hp hm1 hx1 hs1 hg1
  refine hK.out _ _ (SO.out _ ⟨HB1.out.blk, HB1.out.gr⟩) (fun hHeld => ?_)
  have HS1 := Lib.hid hHeld
  clear hK K hHeld
  try simp only [sA, sB, sC]
  refine wpAnyL_ready (rs := [5]) (by kernel_rfl) (by simp) ?_
  refine AllReadyL.cons rfl (fun K hK => ?_) AllReadyL.nil
  go_simp
  refine hK.out _ _ (SO.out _ ⟨(HB1.out.below (below1 _ _)).blk, (HB1.out.below (below1 _ _)).gr⟩) (fun hHeld => ?_)
  have HS2 := Lib.hid hHeld
  clear hK K hHeld
  try simp only [sA, sB, sC]
  have hb2 := HB1.out.below (below1 X1 (.cells #[.int .i64 x.kind, .int .i64 x.op, .int .i64 x.n, .string x.name, .slice Ax x.args.length cx] 42))
  have hn2 : Blk (X1.alloc (.cells #[.int .i64 x.kind, .int .i64 x.op, .int .i64 x.n, .string x.name, .slice Ax x.args.length cx] 42)) X1.heap.size 42 #[.int .i64 x.kind, .int .i64 x.op, .int .i64 x.n, .string x.name, .slice Ax x.args.length cx] := Blk.new X1 _ _
  have h12 := below1 X1 (.cells #[.int .i64 x.kind, .int .i64 x.op, .int .i64 x.n, .string x.name, .slice Ax x.args.length cx] 42)
  generalize (X1.alloc (.cells #[.int .i64 x.kind, .int .i64 x.op, .int .i64 x.n, .string x.name, .slice Ax x.args.length cx] 42)) = X2 at *
  have HB2 := Lib.hid hb2
  have HN2 := Lib.hid hn2
  have H12 := Lib.hid h12
  clear hb2 hn2 h12
  refine wpAnyL_ready (rs := [6]) (by kernel_rfl) (by simp) ?_
  refine AllReadyL.cons rfl (fun K hK => ?_) AllReadyL.nil
  have hsx := HB2.out.bs
  refine step_append_lies _ (by rfl) _ _ _ (by rfl) (w1.heap.size + 1) 42 zi _ 5 64 Tryz.underlying40 hj0 hj1 hj2 hj3 rfl (by omega) (.slice Ag ng cg) ng css.flatten (by rfl) (HB0.out.row2 HG1.out H12.out HNG.out HOW.out) ⟨X1.heap.size, 0, none⟩ 1 1 [.int .i64 x.kind, .int .i64 x.op, .int .i64 x.n, .string x.name, .slice Ax x.args.length cx] (by rfl) (by rfl) (World.news_of_block HN2.out) (by simp [Value.oneCell']) (by omega) (by unfold maxLen; omega) (by omega) hsx X2.heap.size rfl ?_
  intro gp cp X3 hown3 hgrow3 hat3 hlt3
  have HB3 := Lib.hid (HB0.out.app HG1.out HSR.out H12.out HNG.out HOW.out HXR.out rfl HMX.out hown3 hgrow3 hat3)
  clear hsx hown3 hgrow3 hat3
  refine hK.out _ _ (SO.out _ ⟨HB3.out.blk, HB3.out.gr⟩) (fun hHeld => ?_)
  have HS3 := Lib.hid hHeld
  clear hK K hHeld
  try simp only [sA, sB, sC]
  refine takeL 7 138 (.pointer (some ⟨w1.heap.size, 2, none⟩)) HS3.out rfl rfl (by kernel_rfl) (by kernel_rfl) (by kernel_rfl) (by decide) (fun _ _ _ h => HQ.out _ _ _ _ _ h) (by kernel_rfl) ?_ ?_
  · intro w2; go_simp
  try simp only [sA, sB, sC]
  refine wpAnyL_ready (rs := [8]) (by kernel_rfl) (by simp) ?_
  refine AllReadyL.last rfl (by kernel_rfl) (fun K hK => ?_)
  have kc : X3.cell? ⟨w1.heap.size, 2, none⟩ = some (.slice Ag ng cg) := HB3.out.blk.cell 2
  have kz := HB3.out.blk.frozen 2
  go_simp
  refine hK.out _ _ ?_
  clear hK K
  try simp only [sA, sB, sC]
  refine wpAnyL_done (by kernel_rfl) ?_ _
  have HB4 := Lib.hid (HB3.out.set 2 (.slice (some ⟨gp, 0, none⟩) (ng + 1) cp))
  go_upto_region 28 with fail
  refine wp_world ?_
  intro Xb hXb
  have hbq : BoxS w1 sb Xb (w1.heap.size + 1) w1.heap.size 45 #[.int .i64 3, .string ⟨#[]⟩, .slice (some ⟨gp, 0, none⟩) (ng + 1) cp, .slice none 0 0, .slice none 0 0] (d + 4) (madeE c 4) (.slice (some ⟨gp, 0, none⟩) (ng + 1) cp) (l ++ [x]) := by rw [← hXb]; exact HB4.out
  have HB5 := Lib.hid hbq
  clear hXb hbq
  have pb0 : Xb.cell? ⟨w.heap.size, 0, none⟩ = some (.slice Av nv cv) := (HB5.out.sc HSCB.out HNE.out).cell 0
  have pb1 : Xb.cell? ⟨w.heap.size, 1, none⟩ = some (.slice Aa na ca) := (HB5.out.sc HSCB.out HNE.out).cell 1
  have pb2 : Xb.cell? ⟨w.heap.size, 2, none⟩ = some (.slice Af nf cf) := (HB5.out.sc HSCB.out HNE.out).cell 2
  have pb3 : Xb.cell? ⟨w.heap.size, 3, none⟩ = some (.bool false) := (HB5.out.sc HSCB.out HNE.out).cell 3
  have pb4 : Xb.cell? ⟨w.heap.size, 4, none⟩ = some (.bool loop) := (HB5.out.sc HSCB.out HNE.out).cell 4
  have px0 : Xb.cell? ⟨w1.heap.size, 0, none⟩ = some (.int .i64 3) := HB5.out.blk.cell 0
  have px1 : Xb.cell? ⟨w1.heap.size, 1, none⟩ = some (.string ⟨#[]⟩) := HB5.out.blk.cell 1
  have px2 : Xb.cell? ⟨w1.heap.size, 2, none⟩ = some (.slice (some ⟨gp, 0, none⟩) (ng + 1) cp) := HB5.out.blk.cell 2
  have px3 : Xb.cell? ⟨w1.heap.size, 3, none⟩ = some (.slice none 0 0) := HB5.out.blk.cell 3
  have px4 : Xb.cell? ⟨w1.heap.size, 4, none⟩ = some (.slice none 0 0) := HB5.out.blk.cell 4
  have pz0 : Xb.frozen? ⟨w1.heap.size, 0, none⟩ = false := HB5.out.blk.frozen 0
  have pz1 : Xb.frozen? ⟨w1.heap.size, 1, none⟩ = false := HB5.out.blk.frozen 1
  have pz2 : Xb.frozen? ⟨w1.heap.size, 2, none⟩ = false := HB5.out.blk.frozen 2
  have pz3 : Xb.frozen? ⟨w1.heap.size, 3, none⟩ = false := HB5.out.blk.frozen 3
  have pz4 : Xb.frozen? ⟨w1.heap.size, 4, none⟩ = false := HB5.out.blk.frozen 4
  have plt : w1.heap.size < Xb.heap.size := HB5.out.bs
  go_upto_region 29 with (go_at_call 26; refine (HSW.out loop _ (HGW.out.trans HB5.out.gr) HB5.out.src).mono ?_; intro e Xc hp; obtain ⟨tt, At, ct, rfl, hmt, hlt, hrt, hst, hgt⟩ := hp.open (g := w1.heap.size) HB5.out.bs; have HB6 := Lib.hid (HB5.out.step hgt hst); have HMt := Lib.hid hmt; have HLt := Lib.hid hlt; have HRt := Lib.hid hrt; clear hp hmt hlt hrt hst hgt; have qb0 : Xc.cell? ⟨w.heap.size, 0, none⟩ = some (.slice Av nv cv) := (HB6.out.sc HSCB.out HNE.out).cell 0; have qb1 : Xc.cell? ⟨w.heap.size, 1, none⟩ = some (.slice Aa na ca) := (HB6.out.sc HSCB.out HNE.out).cell 1; have qb2 : Xc.cell? ⟨w.heap.size, 2, none⟩ = some (.slice Af nf cf) := (HB6.out.sc HSCB.out HNE.out).cell 2; have qb3 : Xc.cell? ⟨w.heap.size, 3, none⟩ = some (.bool false) := (HB6.out.sc HSCB.out HNE.out).cell 3; have qb4 : Xc.cell? ⟨w.heap.size, 4, none⟩ = some (.bool loop) := (HB6.out.sc HSCB.out HNE.out).cell 4; have qx0 : Xc.cell? ⟨w1.heap.size, 0, none⟩ = some (.int .i64 3) := HB6.out.blk.cell 0; have qx1 : Xc.cell? ⟨w1.heap.size, 1, none⟩ = some (.string ⟨#[]⟩) := HB6.out.blk.cell 1; have qx2 : Xc.cell? ⟨w1.heap.size, 2, none⟩ = some (.slice (some ⟨gp, 0, none⟩) (ng + 1) cp) := HB6.out.blk.cell 2; have qx3 : Xc.cell? ⟨w1.heap.size, 3, none⟩ = some (.slice none 0 0) := HB6.out.blk.cell 3; have qx4 : Xc.cell? ⟨w1.heap.size, 4, none⟩ = some (.slice none 0 0) := HB6.out.blk.cell 4; have qz0 : Xc.frozen? ⟨w1.heap.size, 0, none⟩ = false := HB6.out.blk.frozen 0; have qz1 : Xc.frozen? ⟨w1.heap.size, 1, none⟩ = false := HB6.out.blk.frozen 1; have qz2 : Xc.frozen? ⟨w1.heap.size, 2, none⟩ = false := HB6.out.blk.frozen 2; have qz3 : Xc.frozen? ⟨w1.heap.size, 3, none⟩ = false := HB6.out.blk.frozen 3; have qz4 : Xc.frozen? ⟨w1.heap.size, 4, none⟩ = false := HB6.out.blk.frozen 4; have qlt : w1.heap.size < Xc.heap.size := HB6.out.bs)
  clear pb0 pb1 pb2 pb3 pb4 px0 px1 px2 px3 px4 pz0 pz1 pz2 pz3 pz4 plt
  refine wp_world ?_
  intro Xd hXd
  have hbq : BoxS w1 sb Xd (w1.heap.size + 1) w1.heap.size 45 #[.int .i64 3, .string ⟨#[]⟩, .slice (some ⟨gp, 0, none⟩) (ng + 1) cp, .slice At tt.length ct, .slice none 0 0] (d + 4) (madeE c 4) (.slice (some ⟨gp, 0, none⟩) (ng + 1) cp) (l ++ [x]) := by rw [← hXd]; exact HB6.out.set 3 (.slice At tt.length ct)
  have hrq : RowT w1.heap.size Xd (d + 3) (.slice At tt.length ct) tt := by have h := HRt.out; rw [HED.out] at h; rw [← hXd]; exact h.set 3 _
  have HR7 := Lib.hid hrq
  clear hrq HRt
  have HB7 := Lib.hid hbq
  clear hXd hbq
  clear qb0 qb1 qb2 qb3 qb4 qx0 qx1 qx2 qx3 qx4 qz0 qz1 qz2 qz3 qz4 qlt
  have pb0 : Xd.cell? ⟨w.heap.size, 0, none⟩ = some (.slice Av nv cv) := (HB7.out.sc HSCB.out HNE.out).cell 0
  have pb1 : Xd.cell? ⟨w.heap.size, 1, none⟩ = some (.slice Aa na ca) := (HB7.out.sc HSCB.out HNE.out).cell 1
  have pb2 : Xd.cell? ⟨w.heap.size, 2, none⟩ = some (.slice Af nf cf) := (HB7.out.sc HSCB.out HNE.out).cell 2
  have pb3 : Xd.cell? ⟨w.heap.size, 3, none⟩ = some (.bool false) := (HB7.out.sc HSCB.out HNE.out).cell 3
  have pb4 : Xd.cell? ⟨w.heap.size, 4, none⟩ = some (.bool loop) := (HB7.out.sc HSCB.out HNE.out).cell 4
  have px0 : Xd.cell? ⟨w1.heap.size, 0, none⟩ = some (.int .i64 3) := HB7.out.blk.cell 0
  have px1 : Xd.cell? ⟨w1.heap.size, 1, none⟩ = some (.string ⟨#[]⟩) := HB7.out.blk.cell 1
  have px2 : Xd.cell? ⟨w1.heap.size, 2, none⟩ = some (.slice (some ⟨gp, 0, none⟩) (ng + 1) cp) := HB7.out.blk.cell 2
  have px3 : Xd.cell? ⟨w1.heap.size, 3, none⟩ = some (.slice At tt.length ct) := HB7.out.blk.cell 3
  have px4 : Xd.cell? ⟨w1.heap.size, 4, none⟩ = some (.slice none 0 0) := HB7.out.blk.cell 4
  have pz0 : Xd.frozen? ⟨w1.heap.size, 0, none⟩ = false := HB7.out.blk.frozen 0
  have pz1 : Xd.frozen? ⟨w1.heap.size, 1, none⟩ = false := HB7.out.blk.frozen 1
  have pz2 : Xd.frozen? ⟨w1.heap.size, 2, none⟩ = false := HB7.out.blk.frozen 2
  have pz3 : Xd.frozen? ⟨w1.heap.size, 3, none⟩ = false := HB7.out.blk.frozen 3
  have pz4 : Xd.frozen? ⟨w1.heap.size, 4, none⟩ = false := HB7.out.blk.frozen 4
  have plt : w1.heap.size < Xd.heap.size := HB7.out.bs
  go_wp2_with (go_at_call 26; refine (HSW.out loop _ (HGW.out.trans HB7.out.gr) HB7.out.src).mono ?_; intro e Xe hp; obtain ⟨tu, Au, cu, rfl, hmu, hlu, hru, hsu, hgu⟩ := hp.open (g := w1.heap.size) HB7.out.bs; have HB8 := Lib.hid (HB7.out.step hgu hsu); have HMu := Lib.hid hmu; have HLu := Lib.hid hlu; have HRu := Lib.hid hru; have HR8 := Lib.hid (HR7.out.grown hgu HBX.out.sb); clear hp hmu hlu hru hsu hgu; have qb0 : Xe.cell? ⟨w.heap.size, 0, none⟩ = some (.slice Av nv cv) := (HB8.out.sc HSCB.out HNE.out).cell 0; have qb1 : Xe.cell? ⟨w.heap.size, 1, none⟩ = some (.slice Aa na ca) := (HB8.out.sc HSCB.out HNE.out).cell 1; have qb2 : Xe.cell? ⟨w.heap.size, 2, none⟩ = some (.slice Af nf cf) := (HB8.out.sc HSCB.out HNE.out).cell 2; have qb3 : Xe.cell? ⟨w.heap.size, 3, none⟩ = some (.bool false) := (HB8.out.sc HSCB.out HNE.out).cell 3; have qb4 : Xe.cell? ⟨w.heap.size, 4, none⟩ = some (.bool loop) := (HB8.out.sc HSCB.out HNE.out).cell 4; have qx0 : Xe.cell? ⟨w1.heap.size, 0, none⟩ = some (.int .i64 3) := HB8.out.blk.cell 0; have qx1 : Xe.cell? ⟨w1.heap.size, 1, none⟩ = some (.string ⟨#[]⟩) := HB8.out.blk.cell 1; have qx2 : Xe.cell? ⟨w1.heap.size, 2, none⟩ = some (.slice (some ⟨gp, 0, none⟩) (ng + 1) cp) := HB8.out.blk.cell 2; have qx3 : Xe.cell? ⟨w1.heap.size, 3, none⟩ = some (.slice At tt.length ct) := HB8.out.blk.cell 3; have qx4 : Xe.cell? ⟨w1.heap.size, 4, none⟩ = some (.slice none 0 0) := HB8.out.blk.cell 4; have qz0 : Xe.frozen? ⟨w1.heap.size, 0, none⟩ = false := HB8.out.blk.frozen 0; have qz1 : Xe.frozen? ⟨w1.heap.size, 1, none⟩ = false := HB8.out.blk.frozen 1; have qz2 : Xe.frozen? ⟨w1.heap.size, 2, none⟩ = false := HB8.out.blk.frozen 2; have qz3 : Xe.frozen? ⟨w1.heap.size, 3, none⟩ = false := HB8.out.blk.frozen 3; have qz4 : Xe.frozen? ⟨w1.heap.size, 4, none⟩ = false := HB8.out.blk.frozen 4; have qlt : w1.heap.size < Xe.heap.size := HB8.out.bs)
  have hru : RowT w1.heap.size Xe (d + 3) (.slice Au tu.length cu) tu := by have h := HRu.out; rw [HED.out] at h; exact h
  exact HKK.out _ _ _ _ _ _ _ _ _ _ _ _ _ _ _ _ _ _ _ _ _ _ (⟨3, ⟨#[]⟩, _, _, _, l ++ [x], tt, tu, HB8.out.set 4 (.slice Au tu.length cu), by rw [HLZ.out]; exact half_if hd HMX.out HMt.out HMu.out HLt.out HLu.out, .inr ⟨by rw [HLZ.out]; rfl, HR8.out.set 4 _, hru.set 4 _⟩⟩)
set_option maxRecDepth 100000 in
set_option maxHeartbeats 8000000 in
theorem form_while (cc : Code) (hc : (Tryz.f26.body.bind (thenOf 151)) = some cc) {w : World} {sb : Nat} {c : Scp} {Av Aa Af : Option Addr} {nv na nf cv ca cf : Nat} {loop : Bool} {d : Nat} (G : GCtx w sb c Av Aa Af nv na nf cv ca cf loop d) {w1 : World} (hgw : w.grownBy w1 (some sb)) (hsc : Blk w1 w.heap.size 61 #[.slice Av nv cv, .slice Aa na ca, .slice Af nf cf, .bool false, .bool loop]) (Y : World)
    (hb : BoxS w1 sb Y (w1.heap.size + 1) w1.heap.size 45 #[.int .i64 8, .string ⟨#[]⟩, .slice none 0 0, .slice none 0 0, .slice none 0 0] (d + 4) (madeE c 4) (.slice none 0 0) []) (h2d : 2 ≤ d)
    (Q : Exit → Act → World → Prop) (hQ : ∀ p (a : Act) t (v : Value) (w' : World), Q (Exit.panic p) (a.put t v) w' → Q (Exit.panic p) a w') (u0 u4 u5 u6 u7 u8 u9 u10 u12 u13 u14 u15 u16 u17 u18 u19 u20 u21 u22 u23 u24 u25 u26 u27 u28 u29 u30 u31 u32 u33 u34 u35 u36 u37 u38 u39 u40 u41 u42 u43 u44 u45 u46 u47 u48 u49 u50 u51 u52 u53 u54 u55 u56 u57 u58 u59 u60 u61 u62 u63 u64 u65 u66 u67 u68 u69 u70 u71 u72 u73 u74 u75 u76 u77 u78 u79 u80 u81 u82 u83 u84 u85 u86 u87 u88 u89 u90 u91 u92 u93 u94 u95 u96 u97 u98 u99 u100 u101 u102 u103 u104 u105 u106 u107 u108 u109 u110 u111 u112 u113 u114 u115 u116 u117 u118 u119 u120 u121 u122 u123 u124 u125 u126 u127 u128 u129 u130 u131 u132 u133 u134 u135 u136 u137 u138 u139 u140 u141 u142 u143 u144 u145 u146 u147 u148 u149 u150 u151 u152 u153 u154 u155 u156 u157 u158 u159 u160 u161 u162 u163 u164 u165 u166 u167 u168 u169 u170 u171 u172 u173 u174 u175 u176 u177 u178 u179 u180 u181 u182 u183 u184 u185 u186 u187 u188 u189 u190 u191 u192 u193 u194 u195 u196 u197 u198 u199 u200 u201 u202 u203 u204 u205 u206 u207 u208 u209 u210 u211 u212 u213 u214 u215 u216 u217 u218 u219 u220 u221 u222 u223 u224 u225 : Value)
    (hK : ∀ (x15 x158 x159 x160 x161 x162 x163 x164 x165 x166 x167 x168 x169 x170 x171 x172 x173 x174 : Value) (w' : World), MidS w1 sb w' w1.heap.size c d loop → Q .normal { tmps := #[u0, .pointer (some ⟨sb, 0, none⟩), .int .i64 (d : Int), .pointer (some ⟨w.heap.size, 0, none⟩), u4, u5, u6, u7, u8, u9, u10, .pointer (some ⟨w1.heap.size, 0, none⟩), u12, u13, u14, x15, u16, u17, u18, u19, u20, u21, u22, u23, u24, u25, u26, u27, u28, u29, u30, u31, u32, u33, u34, u35, u36, u37, u38, u39, u40, u41, u42, u43, u44, u45, u46, u47, u48, u49, u50, u51, u52, u53, u54, u55, u56, u57, u58, u59, u60, u61, u62, u63, u64, u65, u66, u67, u68, u69, u70, u71, u72, u73, u74, u75, u76, u77, u78, u79, u80, u81, u82, u83, u84, u85, u86, u87, u88, u89, u90, u91, u92, u93, u94, u95, u96, u97, u98, u99, u100, u101, u102, u103, u104, u105, u106, u107, u108, u109, u110, u111, u112, u113, u114, u115, u116, u117, u118, u119, u120, u121, u122, u123, u124, u125, u126, u127, u128, u129, u130, u131, u132, u133, u134, u135, u136, u137, u138, u139, u140, u141, u142, u143, u144, u145, u146, u147, u148, u149, u150, u151, u152, u153, u154, u155, u156, u157, x158, x159, x160, x161, x162, x163, x164, x165, x166, x167, x168, x169, x170, x171, x172, x173, x174, u175, u176, u177, u178, u179, u180, u181, u182, u183, u184, u185, u186, u187, u188, u189, u190, u191, u192, u193, u194, u195, u196, u197, u198, u199, u200, u201, u202, u203, u204, u205, u206, u207, u208, u209, u210, u211, u212, u213, u214, u215, u216, u217, u218, u219, u220, u221, u222, u223, u224, u225], defers := [] } w') :
    cc.wp Tryz.prog Q { tmps := #[u0, .pointer (some ⟨sb, 0, none⟩), .int .i64 (d : Int), .pointer (some ⟨w.heap.size, 0, none⟩), u4, u5, u6, u7, u8, u9, u10, .pointer (some ⟨w1.heap.size, 0, none⟩), u12, u13, u14, u15, u16, u17, u18, u19, u20, u21, u22, u23, u24, u25, u26, u27, u28, u29, u30, u31, u32, u33, u34, u35, u36, u37, u38, u39, u40, u41, u42, u43, u44, u45, u46, u47, u48, u49, u50, u51, u52, u53, u54, u55, u56, u57, u58, u59, u60, u61, u62, u63, u64, u65, u66, u67, u68, u69, u70, u71, u72, u73, u74, u75, u76, u77, u78, u79, u80, u81, u82, u83, u84, u85, u86, u87, u88, u89, u90, u91, u92, u93, u94, u95, u96, u97, u98, u99, u100, u101, u102, u103, u104, u105, u106, u107, u108, u109, u110, u111, u112, u113, u114, u115, u116, u117, u118, u119, u120, u121, u122, u123, u124, u125, u126, u127, u128, u129, u130, u131, u132, u133, u134, u135, u136, u137, u138, u139, u140, u141, u142, u143, u144, u145, u146, u147, u148, u149, u150, u151, u152, u153, u154, u155, u156, u157, u158, u159, u160, u161, u162, u163, u164, u165, u166, u167, u168, u169, u170, u171, u172, u173, u174, u175, u176, u177, u178, u179, u180, u181, u182, u183, u184, u185, u186, u187, u188, u189, u190, u191, u192, u193, u194, u195, u196, u197, u198, u199, u200, u201, u202, u203, u204, u205, u206, u207, u208, u209, u210, u211, u212, u213, u214, u215, u216, u217, u218, u219, u220, u221, u222, u223, u224, u225], defers := [] } Y := by
  have HKK := Lib.hid hK
  have HQ := Lib.hid hQ
  have hwx : w.heap.size < w1.heap.size := hsc.lt
  have hwn : w.heap.size ≠ w1.heap.size := Nat.ne_of_lt hwx
  have hwm : w1.heap.size ≠ w.heap.size := Nat.ne_of_gt hwx
  have hcc : Tryz.f26.body.bind (thenOf 151) = some cc := hc
  simp only [Tryz.f26, thenOf, Option.bind_some, Nat.reduceEqDiff, ↓reduceIte, Option.none_or, Option.or_none, Option.some.injEq] at hcc
  subst hcc
  have HBX := Lib.hid hb
  have HSCB := Lib.hid hsc
  have HGW := Lib.hid hgw
  have HG := Lib.hid G
  have HNE : Hid (sb ≠ w.heap.size) := Lib.hid (by have := G.sb; omega)
  have hd := G.hd
  have hd2 := G.hd2
  have HSB := Lib.hid G.sb
  have HOK := Lib.hid G.ok
  obtain ⟨zi, hj0, hj1, hj2, hj3⟩ := info_parts info_expr
  have HHX3 : Hid (∀ X, w1.grownBy X (some sb) → SrcAt X sb → Calls Tryz.prog 24 #[.agg #[.slice Av nv cv, .slice Aa na ca, .slice Af nf cf, .bool false, .bool loop], .pointer (some ⟨sb, 0, none⟩), .int .i64 3] X (ExprPost X sb c 3)) := Lib.hid (fun X hg hs => HG.out.x3 X (HGW.out.trans hg) hs)
  have HHC3 : Hid (∀ X, w1.grownBy X (some sb) → SrcAt X sb → Calls Tryz.prog 41 #[.agg #[.slice Av nv cv, .slice Aa na ca, .slice Af nf cf, .bool false, .bool loop], .pointer (some ⟨sb, 0, none⟩), .int .i64 3] X fun e w' => ExprPost X sb c 3 e w' ∧ IsCall e) := Lib.hid (fun X hg hs => HG.out.cl X (HGW.out.trans hg) hs)
  clear hc hK hQ hb hsc hgw G
  have HSW := Lib.hid (HG.out.sm h2d)
  have HED : Hid (d - 1 + 4 = d + 3) := Lib.hid (by omega)
  have ab0 : Y.cell? ⟨w.heap.size, 0, none⟩ = some (.slice Av nv cv) := (HBX.out.sc HSCB.out HNE.out).cell 0
  have ab1 : Y.cell? ⟨w.heap.size, 1, none⟩ = some (.slice Aa na ca) := (HBX.out.sc HSCB.out HNE.out).cell 1
  have ab2 : Y.cell? ⟨w.heap.size, 2, none⟩ = some (.slice Af nf cf) := (HBX.out.sc HSCB.out HNE.out).cell 2
  have ab3 : Y.cell? ⟨w.heap.size, 3, none⟩ = some (.bool false) := (HBX.out.sc HSCB.out HNE.out).cell 3
  have ab4 : Y.cell? ⟨w.heap.size, 4, none⟩ = some (.bool loop) := (HBX.out.sc HSCB.out HNE.out).cell 4
  have ax0 : Y.cell? ⟨w1.heap.size, 0, none⟩ = some (.int .i64 8) := HBX.out.blk.cell 0
  have ax1 : Y.cell? ⟨w1.heap.size, 1, none⟩ = some (.string ⟨#[]⟩) := HBX.out.blk.cell 1
  have ax2 : Y.cell? ⟨w1.heap.size, 2, none⟩ = some (.slice none 0 0) := HBX.out.blk.cell 2
  have ax3 : Y.cell? ⟨w1.heap.size, 3, none⟩ = some (.slice none 0 0) := HBX.out.blk.cell 3
  have ax4 : Y.cell? ⟨w1.heap.size, 4, none⟩ = some (.slice none 0 0) := HBX.out.blk.cell 4
  have az0 : Y.frozen? ⟨w1.heap.size, 0, none⟩ = false := HBX.out.blk.frozen 0
  have az1 : Y.frozen? ⟨w1.heap.size, 1, none⟩ = false := HBX.out.blk.frozen 1
  have az2 : Y.frozen? ⟨w1.heap.size, 2, none⟩ = false := HBX.out.blk.frozen 2
  have az3 : Y.frozen? ⟨w1.heap.size, 3, none⟩ = false := HBX.out.blk.frozen 3
  have az4 : Y.frozen? ⟨w1.heap.size, 4, none⟩ = false := HBX.out.blk.frozen 4
  have alt : w1.heap.size < Y.heap.size := HBX.out.bs
  go_upto_region 34 with fail
  obtain ⟨gi, hgi⟩ : ∃ g, Y.heap.size = g := ⟨_, rfl⟩
  rw [hgi]
  refine wp_world ?_
  intro Xa hXa
  have HGI : Hid (w1.heap.size < gi) := Lib.hid (by rw [← hgi]; exact HBX.out.bs)
  have hin : Blk Xa gi 61 #[.slice Av nv cv, .slice Aa na ca, .slice Af nf cf, .bool false, .bool true] := by rw [← hXa]; exact Blk.new_at _ _ _ (by simp [World.setCell]; omega)
  have hbq : BoxS w1 sb Xa (w1.heap.size + 1) w1.heap.size 45 #[.int .i64 4, .string ⟨#[]⟩, .slice none 0 0, .slice none 0 0, .slice none 0 0] (d + 4) (madeE c 4) (.slice none 0 0) [] := by rw [← hXa]; exact (HBX.out.set 0 (.int .i64 4)).below (below1 _ _)
  have HB3 := Lib.hid hbq
  have HIN := Lib.hid hin
  clear hXa hbq hin hgi
  clear ab0 ab1 ab2 ab3 ab4 ax0 ax1 ax2 ax3 ax4 az0 az1 az2 az3 az4 alt
  have HOB : Hid (∀ n c, (Value.slice none n c).ownBlock = none) := Lib.hid (fun _ _ => rfl)
  obtain ⟨Ag, ng, cg, l, hbz, hnz, hlz, haz⟩ := HB3.out.dim
  have HAZ := Lib.hid haz
  clear haz
  have HNG := Lib.hid hnz
  have HLZ := Lib.hid hlz
  have hng0 : ng = 0 := by rw [hnz, hlz]; rfl
  have hng1 : ng ≤ 1 := by omega
  clear hng0 hnz hlz
  have HBD := Lib.hid hbz
  clear hbz
  have SO : Hid (∀ X, (Blk X (w1.heap.size) 45 #[.int .i64 4, .string ⟨#[]⟩, .slice Ag ng cg, .slice none 0 0, .slice none 0 0] ∧ w1.grownBy X (some sb)) → (fun X => X.cell? ⟨w1.heap.size, 2, none⟩ = some (.slice Ag ng cg) ∧ X.cell? ⟨w.heap.size, 0, none⟩ = some (.slice Av nv cv) ∧ X.cell? ⟨w.heap.size, 1, none⟩ = some (.slice Aa na ca) ∧ X.cell? ⟨w.heap.size, 2, none⟩ = some (.slice Af nf cf) ∧ X.cell? ⟨w.heap.size, 3, none⟩ = some (.bool false) ∧ X.cell? ⟨w.heap.size, 4, none⟩ = some (.bool loop)) X) := Lib.hid (fun X h => have hq := HSCB.out.grown h.2 (fun e => by have := Option.some.inj e; have := HSB.out; omega); ⟨h.1.cell 2, hq.cell 0, hq.cell 1, hq.cell 2, hq.cell 3, hq.cell 4⟩)
  refine wp_region_L (by kernel_rfl) 8 (fun X => X.cell? ⟨w1.heap.size, 2, none⟩ = some (.slice Ag ng cg) ∧ X.cell? ⟨w.heap.size, 0, none⟩ = some (.slice Av nv cv) ∧ X.cell? ⟨w.heap.size, 1, none⟩ = some (.slice Aa na ca) ∧ X.cell? ⟨w.heap.size, 2, none⟩ = some (.slice Af nf cf) ∧ X.cell? ⟨w.heap.size, 3, none⟩ = some (.bool false) ∧ X.cell? ⟨w.heap.size, 4, none⟩ = some (.bool loop)) (SO.out _ ⟨HBD.out.drew.blk, HBD.out.drew.gr⟩) (fun hHeld => ?_)
  have HS0 := Lib.hid hHeld
  clear hHeld
  change wpAnyL _ _ _ _ _ 8 9 (Array.replicate 9 false) _ _
  have HB0 : Hid (BoxS w1 sb Xa.drew (w1.heap.size + 1) (w1.heap.size) 45 #[.int .i64 4, .string ⟨#[]⟩, .slice Ag ng cg, .slice none 0 0, .slice none 0 0] ((d + 4)) (madeE c 4) (.slice Ag ng cg) (l)) := Lib.hid HBD.out.drew
  obtain ⟨X0, hX0⟩ : ∃ X0, Xa.drew = X0 := ⟨_, rfl⟩
  have HI0 : Hid (Blk Xa.drew gi 61 #[.slice Av nv cv, .slice Aa na ca, .slice Af nf cf, .bool false, .bool true]) := Lib.hid HIN.out.drew; rw [hX0] at HI0 HB0 HS0 ⊢
  clear hX0
  obtain ⟨css, hcss⟩ := HB0.out.own
  have HOW := Lib.hid hcss
  clear hcss
  refine takeL 0 161 (.pointer (some ⟨w1.heap.size, 2, none⟩)) HS0.out rfl rfl (by kernel_rfl) (by kernel_rfl) (by kernel_rfl) (by decide) (fun _ _ _ h => HQ.out _ _ _ _ _ h) (by kernel_rfl) ?_ ?_
  · intro w2; go_simp
  try simp only [sA, sB, sC]
  refine takeL_S 1 162 (.slice Ag ng cg) [8] HS0.out rfl rfl (by kernel_rfl) (by kernel_rfl) (by kernel_rfl) (by decide) (by kernel_rfl) (fun _ _ _ h => HQ.out _ _ _ _ _ h) (by kernel_rfl) ?_ ?_
  · intro w2 hSw; obtain ⟨g0, g1, g2, g3, g4, g5⟩ := hSw; go_simp
  try simp only [sA, sB, sC]
  refine takeL_S 2 163 (.agg #[.slice Av nv cv, .slice Aa na ca, .slice Af nf cf, .bool false, .bool loop]) [8] HS0.out rfl rfl (by kernel_rfl) (by kernel_rfl) (by kernel_rfl) (by decide) (by kernel_rfl) (fun _ _ _ h => HQ.out _ _ _ _ _ h) (by kernel_rfl) ?_ ?_
  · intro w2 hSw; obtain ⟨g0, g1, g2, g3, g4, g5⟩ := hSw; go_simp
  try simp only [sA, sB, sC]
  refine takeL 3 164 (.pointer (some ⟨sb, 0, none⟩)) HS0.out rfl rfl (by kernel_rfl) (by kernel_rfl) (by kernel_rfl) (by decide) (fun _ _ _ h => HQ.out _ _ _ _ _ h) (by kernel_rfl) ?_ ?_
  · intro w2; go_simp
  try simp only [sA, sB, sC]
  refine wpAnyL_ready (rs := [4]) (by kernel_rfl) (by simp) ?_
  refine AllReadyL.cons rfl (fun K hK => ?_) AllReadyL.nil
  go_simp
  refine (HHX3.out X0 HB0.out.gr HB0.out.src).mono ?_
  intro e X1 hp
  obtain ⟨x, Ax, cx, rfl, hm1, hx1, hs1, hg1⟩ := hp.new
  have HB1 := Lib.hid (HB0.out.step hg1 hs1)
  have HMX : Hid ((madeE c 4) x) := Lib.hid (made_up (by omega) hm1)
  have HXR := Lib.hid (RExpr.up (d' := (d + 4)) _ (by omega) hx1)
  have HG1 := Lib.hid hg1
  have HSR := Lib.hid hs1
  clear hp hm1 hx1 hs1 hg1
  refine hK.out _ _ (SO.out _ ⟨HB1.out.blk, HB1.out.gr⟩) (fun hHeld => ?_)
  have HS1 := Lib.hid hHeld
  clear hK K hHeld
  try simp only [sA, sB, sC]
  refine wpAnyL_ready (rs := [5]) (by kernel_rfl) (by simp) ?_
  refine AllReadyL.cons rfl (fun K hK => ?_) AllReadyL.nil
  go_simp
  refine hK.out _ _ (SO.out _ ⟨(HB1.out.below (below1 _ _)).blk, (HB1.out.below (below1 _ _)).gr⟩) (fun hHeld => ?_)
  have HS2 := Lib.hid hHeld
  clear hK K hHeld
  try simp only [sA, sB, sC]
  have hb2 := HB1.out.below (below1 X1 (.cells #[.int .i64 x.kind, .int .i64 x.op, .int .i64 x.n, .string x.name, .slice Ax x.args.length cx] 42))
  have hn2 : Blk (X1.alloc (.cells #[.int .i64 x.kind, .int .i64 x.op, .int .i64 x.n, .string x.name, .slice Ax x.args.length cx] 42)) X1.heap.size 42 #[.int .i64 x.kind, .int .i64 x.op, .int .i64 x.n, .string x.name, .slice Ax x.args.length cx] := Blk.new X1 _ _
  have h12 := below1 X1 (.cells #[.int .i64 x.kind, .int .i64 x.op, .int .i64 x.n, .string x.name, .slice Ax x.args.length cx] 42)
  generalize (X1.alloc (.cells #[.int .i64 x.kind, .int .i64 x.op, .int .i64 x.n, .string x.name, .slice Ax x.args.length cx] 42)) = X2 at *
  have HB2 := Lib.hid hb2
  have HN2 := Lib.hid hn2
  have H12 := Lib.hid h12
  clear hb2 hn2 h12
  refine wpAnyL_ready (rs := [6]) (by kernel_rfl) (by simp) ?_
  refine AllReadyL.cons rfl (fun K hK => ?_) AllReadyL.nil
  have hsx := HB2.out.bs
  refine step_append_lies _ (by rfl) _ _ _ (by rfl) (w1.heap.size + 1) 42 zi _ 5 64 Tryz.underlying40 hj0 hj1 hj2 hj3 rfl (by omega) (.slice Ag ng cg) ng css.flatten (by rfl) (HB0.out.row2 HG1.out H12.out HNG.out HOW.out) ⟨X1.heap.size, 0, none⟩ 1 1 [.int .i64 x.kind, .int .i64 x.op, .int .i64 x.n, .string x.name, .slice Ax x.args.length cx] (by rfl) (by rfl) (World.news_of_block HN2.out) (by simp [Value.oneCell']) (by omega) (by unfold maxLen; omega) (by omega) hsx X2.heap.size rfl ?_
  intro gp cp X3 hown3 hgrow3 hat3 hlt3
  have HB3 := Lib.hid (HB0.out.app HG1.out HSR.out H12.out HNG.out HOW.out HXR.out rfl HMX.out hown3 hgrow3 hat3)
  have HGR3 := Lib.hid hgrow3; clear hsx hown3 hgrow3 hat3
  refine hK.out _ _ (SO.out _ ⟨HB3.out.blk, HB3.out.gr⟩) (fun hHeld => ?_)
  have HS3 := Lib.hid hHeld
  clear hK K hHeld
  try simp only [sA, sB, sC]
  refine takeL 7 168 (.pointer (some ⟨w1.heap.size, 2, none⟩)) HS3.out rfl rfl (by kernel_rfl) (by kernel_rfl) (by kernel_rfl) (by decide) (fun _ _ _ h => HQ.out _ _ _ _ _ h) (by kernel_rfl) ?_ ?_
  · intro w2; go_simp
  try simp only [sA, sB, sC]
  refine wpAnyL_ready (rs := [8]) (by kernel_rfl) (by simp) ?_
  refine AllReadyL.last rfl (by kernel_rfl) (fun K hK => ?_)
  have kc : X3.cell? ⟨w1.heap.size, 2, none⟩ = some (.slice Ag ng cg) := HB3.out.blk.cell 2
  have kz := HB3.out.blk.frozen 2
  go_simp
  refine hK.out _ _ ?_
  clear hK K
  try simp only [sA, sB, sC]
  refine wpAnyL_done (by kernel_rfl) ?_ _
  have HB4 := Lib.hid (HB3.out.set 2 (.slice (some ⟨gp, 0, none⟩) (ng + 1) cp))
  have hi3 : Blk X3 gi 61 #[.slice Av nv cv, .slice Aa na ca, .slice Af nf cf, .bool false, .bool true] := ((HI0.out.grown HG1.out (fun e => by have := Option.some.inj e; have := HGI.out; have := HBX.out.sb; omega)).below H12.out (HI0.out.grown HG1.out (fun e => by have := Option.some.inj e; have := HGI.out; have := HBX.out.sb; omega)).lt).grown HGR3.out (by rw [HAZ.out]; intro h; exact absurd h (by simp [Value.ownBlock]))
  have HI3 := Lib.hid hi3
  clear hi3
  go_upto_region 35 with fail
  refine wp_world ?_
  intro Xb hXb
  have hbq : BoxS w1 sb Xb (w1.heap.size + 1) w1.heap.size 45 #[.int .i64 4, .string ⟨#[]⟩, .slice (some ⟨gp, 0, none⟩) (ng + 1) cp, .slice none 0 0, .slice none 0 0] (d + 4) (madeE c 4) (.slice (some ⟨gp, 0, none⟩) (ng + 1) cp) (l ++ [x]) := by rw [← hXb]; exact HB4.out
  have hi4 : Blk Xb gi 61 #[.slice Av nv cv, .slice Aa na ca, .slice Af nf cf, .bool false, .bool true] := by rw [← hXb]; exact HI3.out.far (by show gi ≠ w1.heap.size; have := HGI.out; omega) _
  have HB5 := Lib.hid hbq
  clear hXb hbq
  have gb0 : Xb.cell? ⟨gi, 0, none⟩ = some (.slice Av nv cv) := hi4.cell 0
  have gb1 : Xb.cell? ⟨gi, 1, none⟩ = some (.slice Aa na ca) := hi4.cell 1
  have gb2 : Xb.cell? ⟨gi, 2, none⟩ = some (.slice Af nf cf) := hi4.cell 2
  have gb3 : Xb.cell? ⟨gi, 3, none⟩ = some (.bool false) := hi4.cell 3
  have gb4 : Xb.cell? ⟨gi, 4, none⟩ = some (.bool true) := hi4.cell 4
  clear hi4
  have pb0 : Xb.cell? ⟨w.heap.size, 0, none⟩ = some (.slice Av nv cv) := (HB5.out.sc HSCB.out HNE.out).cell 0
  have pb1 : Xb.cell? ⟨w.heap.size, 1, none⟩ = some (.slice Aa na ca) := (HB5.out.sc HSCB.out HNE.out).cell 1
  have pb2 : Xb.cell? ⟨w.heap.size, 2, none⟩ = some (.slice Af nf cf) := (HB5.out.sc HSCB.out HNE.out).cell 2
  have pb3 : Xb.cell? ⟨w.heap.size, 3, none⟩ = some (.bool false) := (HB5.out.sc HSCB.out HNE.out).cell 3
  have pb4 : Xb.cell? ⟨w.heap.size, 4, none⟩ = some (.bool loop) := (HB5.out.sc HSCB.out HNE.out).cell 4
  have px0 : Xb.cell? ⟨w1.heap.size, 0, none⟩ = some (.int .i64 4) := HB5.out.blk.cell 0
  have px1 : Xb.cell? ⟨w1.heap.size, 1, none⟩ = some (.string ⟨#[]⟩) := HB5.out.blk.cell 1
  have px2 : Xb.cell? ⟨w1.heap.size, 2, none⟩ = some (.slice (some ⟨gp, 0, none⟩) (ng + 1) cp) := HB5.out.blk.cell 2
  have px3 : Xb.cell? ⟨w1.heap.size, 3, none⟩ = some (.slice none 0 0) := HB5.out.blk.cell 3
  have px4 : Xb.cell? ⟨w1.heap.size, 4, none⟩ = some (.slice none 0 0) := HB5.out.blk.cell 4
  have pz0 : Xb.frozen? ⟨w1.heap.size, 0, none⟩ = false := HB5.out.blk.frozen 0
  have pz1 : Xb.frozen? ⟨w1.heap.size, 1, none⟩ = false := HB5.out.blk.frozen 1
  have pz2 : Xb.frozen? ⟨w1.heap.size, 2, none⟩ = false := HB5.out.blk.frozen 2
  have pz3 : Xb.frozen? ⟨w1.heap.size, 3, none⟩ = false := HB5.out.blk.frozen 3
  have pz4 : Xb.frozen? ⟨w1.heap.size, 4, none⟩ = false := HB5.out.blk.frozen 4
  have plt : w1.heap.size < Xb.heap.size := HB5.out.bs
  go_wp2_with (go_at_call 26; refine (HSW.out true _ (HGW.out.trans HB5.out.gr) HB5.out.src).mono ?_; intro e Xc hp; obtain ⟨tt, At, ct, rfl, hmt, hlt, hrt, hst, hgt⟩ := hp.open (g := w1.heap.size) HB5.out.bs; have HB6 := Lib.hid (HB5.out.step hgt hst); have HMt := Lib.hid hmt; have HLt := Lib.hid hlt; have HRt := Lib.hid hrt; clear hp hmt hlt hrt hst hgt; have qb0 : Xc.cell? ⟨w.heap.size, 0, none⟩ = some (.slice Av nv cv) := (HB6.out.sc HSCB.out HNE.out).cell 0; have qb1 : Xc.cell? ⟨w.heap.size, 1, none⟩ = some (.slice Aa na ca) := (HB6.out.sc HSCB.out HNE.out).cell 1; have qb2 : Xc.cell? ⟨w.heap.size, 2, none⟩ = some (.slice Af nf cf) := (HB6.out.sc HSCB.out HNE.out).cell 2; have qb3 : Xc.cell? ⟨w.heap.size, 3, none⟩ = some (.bool false) := (HB6.out.sc HSCB.out HNE.out).cell 3; have qb4 : Xc.cell? ⟨w.heap.size, 4, none⟩ = some (.bool loop) := (HB6.out.sc HSCB.out HNE.out).cell 4; have qx0 : Xc.cell? ⟨w1.heap.size, 0, none⟩ = some (.int .i64 4) := HB6.out.blk.cell 0; have qx1 : Xc.cell? ⟨w1.heap.size, 1, none⟩ = some (.string ⟨#[]⟩) := HB6.out.blk.cell 1; have qx2 : Xc.cell? ⟨w1.heap.size, 2, none⟩ = some (.slice (some ⟨gp, 0, none⟩) (ng + 1) cp) := HB6.out.blk.cell 2; have qx3 : Xc.cell? ⟨w1.heap.size, 3, none⟩ = some (.slice none 0 0) := HB6.out.blk.cell 3; have qx4 : Xc.cell? ⟨w1.heap.size, 4, none⟩ = some (.slice none 0 0) := HB6.out.blk.cell 4; have qz0 : Xc.frozen? ⟨w1.heap.size, 0, none⟩ = false := HB6.out.blk.frozen 0; have qz1 : Xc.frozen? ⟨w1.heap.size, 1, none⟩ = false := HB6.out.blk.frozen 1; have qz2 : Xc.frozen? ⟨w1.heap.size, 2, none⟩ = false := HB6.out.blk.frozen 2; have qz3 : Xc.frozen? ⟨w1.heap.size, 3, none⟩ = false := HB6.out.blk.frozen 3; have qz4 : Xc.frozen? ⟨w1.heap.size, 4, none⟩ = false := HB6.out.blk.frozen 4; have qlt : w1.heap.size < Xc.heap.size := HB6.out.bs)
  have hrt : RowT w1.heap.size Xc (d + 3) (.slice At tt.length ct) tt := by have h := HRt.out; rw [HED.out] at h; exact h
  exact HKK.out _ _ _ _ _ _ _ _ _ _ _ _ _ _ _ _ _ _ _ (⟨4, ⟨#[]⟩, _, _, _, l ++ [x], tt, [], HB6.out.set 3 (.slice At tt.length ct), by rw [HLZ.out]; exact half_while hd HMX.out HMt.out HLt.out, .inr ⟨by rw [HLZ.out]; rfl, hrt.set 3 _, RowT.nil_ _ _ _⟩⟩)
set_option maxRecDepth 100000 in
set_option maxHeartbeats 8000000 in
theorem fill_any (cc : Code) (hc : (Tryz.f26.body.bind (blkOf 3)) = some cc) {w : World} {sb : Nat} {c : Scp} {Av Aa Af : Option Addr} {nv na nf cv ca cf : Nat} {loop : Bool} {d : Nat} (G : GCtx w sb c Av Aa Af nv na nf cv ca cf loop d) {w1 : World} (hgw : w.grownBy w1 (some sb)) (hsc : Blk w1 w.heap.size 61 #[.slice Av nv cv, .slice Aa na ca, .slice Af nf cf, .bool false, .bool loop]) (Y : World) (kd : Int) (nm : ByteArray) (v0 : Value) (l0 : List LExpr) (At Ae : Option Addr) (nt ne ct ce mz : Nat) (thn els : List LStmt)
    (hb : BoxS w1 sb Y (w1.heap.size + 1) w1.heap.size 45 #[.int .i64 kd, .string nm, v0, .slice At nt ct, .slice Ae ne ce] (d + 4) (madeE c 4) v0 l0) (hh : HalfS c d loop kd nm l0 thn els) (hr : RestS w1.heap.size Y (d + 3) (l0.length = manyZ kd) (.slice At nt ct) (.slice Ae ne ce) thn els) (hmz : mz = manyZ kd)
    (Q : Exit → Act → World → Prop) (hQ : ∀ p (a : Act) t (v : Value) (w' : World), Q (Exit.panic p) (a.put t v) w' → Q (Exit.panic p) a w') (u0 u4 u5 u6 u7 u8 u9 u10 u12 u13 u14 u15 u17 u18 u19 u20 u21 u22 u23 u24 u25 u26 u27 u28 u29 u30 u31 u32 u33 u34 u35 u36 u37 u38 u39 u40 u41 u42 u43 u44 u45 u46 u47 u48 u49 u50 u51 u52 u53 u54 u55 u56 u57 u58 u59 u60 u61 u62 u63 u64 u65 u66 u67 u68 u69 u70 u71 u72 u73 u74 u75 u76 u77 u78 u79 u80 u81 u82 u83 u84 u85 u86 u87 u88 u89 u90 u91 u92 u93 u94 u95 u96 u97 u98 u99 u100 u101 u102 u103 u104 u105 u106 u107 u108 u109 u110 u111 u112 u113 u114 u115 u116 u117 u118 u119 u120 u121 u122 u123 u124 u125 u126 u127 u128 u129 u130 u131 u132 u133 u134 u135 u136 u137 u138 u139 u140 u141 u142 u143 u144 u145 u146 u147 u148 u149 u150 u151 u152 u153 u154 u155 u156 u157 u158 u159 u160 u161 u162 u163 u164 u165 u166 u167 u168 u169 u170 u171 u172 u173 u174 u175 u176 u177 u178 u179 u180 u181 u182 u183 u184 u185 u186 u187 u188 u189 u190 u191 u192 u193 u194 u195 u196 u197 u198 u199 u200 u201 u202 u203 u204 u205 u206 u207 u208 u209 u210 u211 u212 u213 u214 u215 u216 u217 u218 u219 u220 u221 u222 u223 u224 u225 : Value)
    (hK : ∀ (x208 x209 x210 x211 x212 x213 x214 x215 x216 x217 x218 x219 x220 : Value) (w' : World), DoneS w1 sb w' w1.heap.size c d loop → Q .normal { tmps := #[u0, .pointer (some ⟨sb, 0, none⟩), .int .i64 (d : Int), .pointer (some ⟨w.heap.size, 0, none⟩), u4, u5, u6, u7, u8, u9, u10, .pointer (some ⟨w1.heap.size, 0, none⟩), u12, u13, u14, u15, .int .i64 (mz : Int), u17, u18, u19, u20, u21, u22, u23, u24, u25, u26, u27, u28, u29, u30, u31, u32, u33, u34, u35, u36, u37, u38, u39, u40, u41, u42, u43, u44, u45, u46, u47, u48, u49, u50, u51, u52, u53, u54, u55, u56, u57, u58, u59, u60, u61, u62, u63, u64, u65, u66, u67, u68, u69, u70, u71, u72, u73, u74, u75, u76, u77, u78, u79, u80, u81, u82, u83, u84, u85, u86, u87, u88, u89, u90, u91, u92, u93, u94, u95, u96, u97, u98, u99, u100, u101, u102, u103, u104, u105, u106, u107, u108, u109, u110, u111, u112, u113, u114, u115, u116, u117, u118, u119, u120, u121, u122, u123, u124, u125, u126, u127, u128, u129, u130, u131, u132, u133, u134, u135, u136, u137, u138, u139, u140, u141, u142, u143, u144, u145, u146, u147, u148, u149, u150, u151, u152, u153, u154, u155, u156, u157, u158, u159, u160, u161, u162, u163, u164, u165, u166, u167, u168, u169, u170, u171, u172, u173, u174, u175, u176, u177, u178, u179, u180, u181, u182, u183, u184, u185, u186, u187, u188, u189, u190, u191, u192, u193, u194, u195, u196, u197, u198, u199, u200, u201, u202, u203, u204, u205, u206, u207, x208, x209, x210, x211, x212, x213, x214, x215, x216, x217, x218, x219, x220, u221, u222, u223, u224, u225], defers := [] } w') :
    (Code.block 3 cc).wp Tryz.prog Q { tmps := #[u0, .pointer (some ⟨sb, 0, none⟩), .int .i64 (d : Int), .pointer (some ⟨w.heap.size, 0, none⟩), u4, u5, u6, u7, u8, u9, u10, .pointer (some ⟨w1.heap.size, 0, none⟩), u12, u13, u14, u15, .int .i64 (mz : Int), u17, u18, u19, u20, u21, u22, u23, u24, u25, u26, u27, u28, u29, u30, u31, u32, u33, u34, u35, u36, u37, u38, u39, u40, u41, u42, u43, u44, u45, u46, u47, u48, u49, u50, u51, u52, u53, u54, u55, u56, u57, u58, u59, u60, u61, u62, u63, u64, u65, u66, u67, u68, u69, u70, u71, u72, u73, u74, u75, u76, u77, u78, u79, u80, u81, u82, u83, u84, u85, u86, u87, u88, u89, u90, u91, u92, u93, u94, u95, u96, u97, u98, u99, u100, u101, u102, u103, u104, u105, u106, u107, u108, u109, u110, u111, u112, u113, u114, u115, u116, u117, u118, u119, u120, u121, u122, u123, u124, u125, u126, u127, u128, u129, u130, u131, u132, u133, u134, u135, u136, u137, u138, u139, u140, u141, u142, u143, u144, u145, u146, u147, u148, u149, u150, u151, u152, u153, u154, u155, u156, u157, u158, u159, u160, u161, u162, u163, u164, u165, u166, u167, u168, u169, u170, u171, u172, u173, u174, u175, u176, u177, u178, u179, u180, u181, u182, u183, u184, u185, u186, u187, u188, u189, u190, u191, u192, u193, u194, u195, u196, u197, u198, u199, u200, u201, u202, u203, u204, u205, u206, u207, u208, u209, u210, u211, u212, u213, u214, u215, u216, u217, u218, u219, u220, u221, u222, u223, u224, u225], defers := [] } Y := by
  have HKK := Lib.hid hK
  have HQ := Lib.hid hQ
  have hwx : w.heap.size < w1.heap.size := hsc.lt
  have hwn : w.heap.size ≠ w1.heap.size := Nat.ne_of_lt hwx
  have hwm : w1.heap.size ≠ w.heap.size := Nat.ne_of_gt hwx
  have hcc : Tryz.f26.body.bind (blkOf 3) = some cc := hc
  simp only [Tryz.f26, blkOf, Option.bind_some, Nat.reduceEqDiff, ↓reduceIte, Option.none_or, Option.or_none, Option.some.injEq] at hcc
  subst hcc
  have HBX := Lib.hid hb
  have HSCB := Lib.hid hsc
  have HGW := Lib.hid hgw
  have HG := Lib.hid G
  have HNE : Hid (sb ≠ w.heap.size) := Lib.hid (by have := G.sb; omega)
  have hd := G.hd
  have hd2 := G.hd2
  have HSB := Lib.hid G.sb
  have HOK := Lib.hid G.ok
  obtain ⟨zi, hj0, hj1, hj2, hj3⟩ := info_parts info_expr
  have HHX3 : Hid (∀ X, w1.grownBy X (some sb) → SrcAt X sb → Calls Tryz.prog 24 #[.agg #[.slice Av nv cv, .slice Aa na ca, .slice Af nf cf, .bool false, .bool loop], .pointer (some ⟨sb, 0, none⟩), .int .i64 3] X (ExprPost X sb c 3)) := Lib.hid (fun X hg hs => HG.out.x3 X (HGW.out.trans hg) hs)
  have HHC3 : Hid (∀ X, w1.grownBy X (some sb) → SrcAt X sb → Calls Tryz.prog 41 #[.agg #[.slice Av nv cv, .slice Aa na ca, .slice Af nf cf, .bool false, .bool loop], .pointer (some ⟨sb, 0, none⟩), .int .i64 3] X fun e w' => ExprPost X sb c 3 e w' ∧ IsCall e) := Lib.hid (fun X hg hs => HG.out.cl X (HGW.out.trans hg) hs)
  have HG0 := Lib.hid G.x4
  clear hc hK hQ hb hsc hgw G
  have hmz2 : mz ≤ 2 := by rw [hmz]; unfold manyZ; split; omega; split <;> omega
  have HHX4 : Hid (∀ X, w1.grownBy X (some sb) → SrcAt X sb → Calls Tryz.prog 24 #[.agg #[.slice Av nv cv, .slice Aa na ca, .slice Af nf cf, .bool false, .bool loop], .pointer (some ⟨sb, 0, none⟩), .int .i64 4] X (ExprPost X sb c 4)) := Lib.hid (fun X hg hs => HG0.out X (HGW.out.trans hg) hs)
  have HHH := Lib.hid hh
  have HRR := Lib.hid hr
  have HMZ := Lib.hid hmz
  clear hh hr hmz
  go_wp2
  go_loopg [] 3 (fun q wr => ∃ (v : Value) (l : List LExpr), BoxS w1 sb wr (w1.heap.size + 1) w1.heap.size 45 #[.int .i64 kd, .string nm, v, .slice At nt ct, .slice Ae ne ce] (d + 4) (madeE c 4) v l ∧ HalfS c d loop kd nm l thn els ∧ RestS w1.heap.size wr (d + 3) (l.length = manyZ kd) (.slice At nt ct) (.slice Ae ne ce) thn els ∧ 2 < l.length + q)
  case atStart => exact ⟨v0, l0, HBX.out, HHH.out, HRR.out, by omega⟩
  case round =>
    obtain ⟨v, l, hb, hh, hr, hq⟩ := hrel
    obtain ⟨css0, hcs0⟩ := hb.own
    obtain ⟨Ag, cg, hv⟩ := own_form hcs0.row
    clear hcs0 css0
    obtain ⟨ng, hng⟩ : ∃ ng, ng = l.length := ⟨_, rfl⟩
    rw [← hng] at hv hq hr
    subst hv
    have HNG := Lib.hid hng
    have HB := Lib.hid hb
    have HH := Lib.hid hh
    have HR := Lib.hid hr
    have hfew : ng ≤ mz := by have h := hh.few; rw [HMZ.out, hng]; exact h
    clear hb hh hr hng
    have ab0 : wr.cell? ⟨w.heap.size, 0, none⟩ = some (.slice Av nv cv) := (HB.out.sc HSCB.out HNE.out).cell 0
    have ab1 : wr.cell? ⟨w.heap.size, 1, none⟩ = some (.slice Aa na ca) := (HB.out.sc HSCB.out HNE.out).cell 1
    have ab2 : wr.cell? ⟨w.heap.size, 2, none⟩ = some (.slice Af nf cf) := (HB.out.sc HSCB.out HNE.out).cell 2
    have ab3 : wr.cell? ⟨w.heap.size, 3, none⟩ = some (.bool false) := (HB.out.sc HSCB.out HNE.out).cell 3
    have ab4 : wr.cell? ⟨w.heap.size, 4, none⟩ = some (.bool loop) := (HB.out.sc HSCB.out HNE.out).cell 4
    have ax0 : wr.cell? ⟨w1.heap.size, 0, none⟩ = some (.int .i64 kd) := HB.out.blk.cell 0
    have ax1 : wr.cell? ⟨w1.heap.size, 1, none⟩ = some (.string nm) := HB.out.blk.cell 1
    have ax2 : wr.cell? ⟨w1.heap.size, 2, none⟩ = some (.slice Ag ng cg) := HB.out.blk.cell 2
    have ax3 : wr.cell? ⟨w1.heap.size, 3, none⟩ = some (.slice At nt ct) := HB.out.blk.cell 3
    have ax4 : wr.cell? ⟨w1.heap.size, 4, none⟩ = some (.slice Ae ne ce) := HB.out.blk.cell 4
    have az0 : wr.frozen? ⟨w1.heap.size, 0, none⟩ = false := HB.out.blk.frozen 0
    have az1 : wr.frozen? ⟨w1.heap.size, 1, none⟩ = false := HB.out.blk.frozen 1
    have az2 : wr.frozen? ⟨w1.heap.size, 2, none⟩ = false := HB.out.blk.frozen 2
    have az3 : wr.frozen? ⟨w1.heap.size, 3, none⟩ = false := HB.out.blk.frozen 3
    have az4 : wr.frozen? ⟨w1.heap.size, 4, none⟩ = false := HB.out.blk.frozen 4
    have alt : w1.heap.size < wr.heap.size := HB.out.bs
    by_cases hlt : ng < mz
    · have d1 : decide ((ng : Int) < (mz : Int)) = true := decide_eq_true (by omega)
      have HNIL : Hid ((.slice At nt ct : Value) = .slice none 0 0 ∧ (.slice Ae ne ce : Value) = .slice none 0 0 ∧ thn = [] ∧ els = []) := Lib.hid (by rcases HR.out with h | h; exact h; exact absurd (h.1.trans HMZ.out.symm) (by omega))
      go_upto_region 44 with fail
      clear ab0 ab1 ab2 ab3 ab4 ax0 ax1 ax2 ax3 ax4 az0 az1 az2 az3 az4 alt
      clear d1
      have SO : Hid (∀ X, (Blk X (w1.heap.size) 45 #[.int .i64 kd, .string nm, .slice Ag ng cg, .slice At nt ct, .slice Ae ne ce] ∧ w1.grownBy X (some sb)) → (fun X => X.cell? ⟨w1.heap.size, 2, none⟩ = some (.slice Ag ng cg) ∧ X.cell? ⟨w.heap.size, 0, none⟩ = some (.slice Av nv cv) ∧ X.cell? ⟨w.heap.size, 1, none⟩ = some (.slice Aa na ca) ∧ X.cell? ⟨w.heap.size, 2, none⟩ = some (.slice Af nf cf) ∧ X.cell? ⟨w.heap.size, 3, none⟩ = some (.bool false) ∧ X.cell? ⟨w.heap.size, 4, none⟩ = some (.bool loop)) X) := Lib.hid (fun X h => have hq := HSCB.out.grown h.2 (fun e => by have := Option.some.inj e; have := HSB.out; omega); ⟨h.1.cell 2, hq.cell 0, hq.cell 1, hq.cell 2, hq.cell 3, hq.cell 4⟩)
      refine wp_region_L (by kernel_rfl) 8 (fun X => X.cell? ⟨w1.heap.size, 2, none⟩ = some (.slice Ag ng cg) ∧ X.cell? ⟨w.heap.size, 0, none⟩ = some (.slice Av nv cv) ∧ X.cell? ⟨w.heap.size, 1, none⟩ = some (.slice Aa na ca) ∧ X.cell? ⟨w.heap.size, 2, none⟩ = some (.slice Af nf cf) ∧ X.cell? ⟨w.heap.size, 3, none⟩ = some (.bool false) ∧ X.cell? ⟨w.heap.size, 4, none⟩ = some (.bool loop)) (SO.out _ ⟨HB.out.drew.blk, HB.out.drew.gr⟩) (fun hHeld => ?_)
      have HS0 := Lib.hid hHeld
      clear hHeld
      change wpAnyL _ _ _ _ _ 8 9 (Array.replicate 9 false) _ _
      have HB0 : Hid (BoxS w1 sb wr.drew (w1.heap.size + 1) (w1.heap.size) 45 #[.int .i64 kd, .string nm, .slice Ag ng cg, .slice At nt ct, .slice Ae ne ce] ((d + 4)) (madeE c 4) (.slice Ag ng cg) (l)) := Lib.hid HB.out.drew
      obtain ⟨X0, hX0⟩ : ∃ X0, wr.drew = X0 := ⟨_, rfl⟩
      rw [hX0] at HB0 HS0 ⊢
      clear hX0
      obtain ⟨css, hcss⟩ := HB0.out.own
      have HOW := Lib.hid hcss
      clear hcss
      refine takeL 0 213 (.pointer (some ⟨w1.heap.size, 2, none⟩)) HS0.out rfl rfl (by kernel_rfl) (by kernel_rfl) (by kernel_rfl) (by decide) (fun _ _ _ h => HQ.out _ _ _ _ _ h) (by kernel_rfl) ?_ ?_
      · intro w2; go_simp
      try simp only [sA, sB, sC]
      refine takeL_S 1 214 (.slice Ag ng cg) [8] HS0.out rfl rfl (by kernel_rfl) (by kernel_rfl) (by kernel_rfl) (by decide) (by kernel_rfl) (fun _ _ _ h => HQ.out _ _ _ _ _ h) (by kernel_rfl) ?_ ?_
      · intro w2 hSw; obtain ⟨g0, g1, g2, g3, g4, g5⟩ := hSw; go_simp
      try simp only [sA, sB, sC]
      refine takeL_S 2 215 (.agg #[.slice Av nv cv, .slice Aa na ca, .slice Af nf cf, .bool false, .bool loop]) [8] HS0.out rfl rfl (by kernel_rfl) (by kernel_rfl) (by kernel_rfl) (by decide) (by kernel_rfl) (fun _ _ _ h => HQ.out _ _ _ _ _ h) (by kernel_rfl) ?_ ?_
      · intro w2 hSw; obtain ⟨g0, g1, g2, g3, g4, g5⟩ := hSw; go_simp
      try simp only [sA, sB, sC]
      refine takeL 3 216 (.pointer (some ⟨sb, 0, none⟩)) HS0.out rfl rfl (by kernel_rfl) (by kernel_rfl) (by kernel_rfl) (by decide) (fun _ _ _ h => HQ.out _ _ _ _ _ h) (by kernel_rfl) ?_ ?_
      · intro w2; go_simp
      try simp only [sA, sB, sC]
      refine wpAnyL_ready (rs := [4]) (by kernel_rfl) (by simp) ?_
      refine AllReadyL.cons rfl (fun K hK => ?_) AllReadyL.nil
      go_simp
      refine (HHX4.out X0 HB0.out.gr HB0.out.src).mono ?_
      intro e X1 hp
      obtain ⟨x, Ax, cx, rfl, hm1, hx1, hs1, hg1⟩ := hp.new
      have HB1 := Lib.hid (HB0.out.step hg1 hs1)
      have HMX : Hid ((madeE c 4) x) := Lib.hid (hm1)
      have HXR := Lib.hid (RExpr.up (d' := (d + 4)) _ (by omega) hx1)
      have HG1 := Lib.hid hg1
      have HSR := Lib.hid hs1
      clear hp hm1 hx1 hs1 hg1
      refine hK.out _ _ (SO.out _ ⟨HB1.out.blk, HB1.out.gr⟩) (fun hHeld => ?_)
      have HS1 := Lib.hid hHeld
      clear hK K hHeld
      try simp only [sA, sB, sC]
      refine wpAnyL_ready (rs := [5]) (by kernel_rfl) (by simp) ?_
      refine AllReadyL.cons rfl (fun K hK => ?_) AllReadyL.nil
      go_simp
      refine hK.out _ _ (SO.out _ ⟨(HB1.out.below (below1 _ _)).blk, (HB1.out.below (below1 _ _)).gr⟩) (fun hHeld => ?_)
      have HS2 := Lib.hid hHeld
      clear hK K hHeld
      try simp only [sA, sB, sC]
      have hb2 := HB1.out.below (below1 X1 (.cells #[.int .i64 x.kind, .int .i64 x.op, .int .i64 x.n, .string x.name, .slice Ax x.args.length cx] 42))
      have hn2 : Blk (X1.alloc (.cells #[.int .i64 x.kind, .int .i64 x.op, .int .i64 x.n, .string x.name, .slice Ax x.args.length cx] 42)) X1.heap.size 42 #[.int .i64 x.kind, .int .i64 x.op, .int .i64 x.n, .string x.name, .slice Ax x.args.length cx] := Blk.new X1 _ _
      have h12 := below1 X1 (.cells #[.int .i64 x.kind, .int .i64 x.op, .int .i64 x.n, .string x.name, .slice Ax x.args.length cx] 42)
      generalize (X1.alloc (.cells #[.int .i64 x.kind, .int .i64 x.op, .int .i64 x.n, .string x.name, .slice Ax x.args.length cx] 42)) = X2 at *
      have HB2 := Lib.hid hb2
      have HN2 := Lib.hid hn2
      have H12 := Lib.hid h12
      clear hb2 hn2 h12
      refine wpAnyL_ready (rs := [6]) (by kernel_rfl) (by simp) ?_
      refine AllReadyL.cons rfl (fun K hK => ?_) AllReadyL.nil
      have hsx := HB2.out.bs
      refine step_append_lies _ (by rfl) _ _ _ (by rfl) (w1.heap.size + 1) 42 zi _ 5 64 Tryz.underlying40 hj0 hj1 hj2 hj3 rfl (by omega) (.slice Ag ng cg) ng css.flatten (by rfl) (HB0.out.row2 HG1.out H12.out HNG.out HOW.out) ⟨X1.heap.size, 0, none⟩ 1 1 [.int .i64 x.kind, .int .i64 x.op, .int .i64 x.n, .string x.name, .slice Ax x.args.length cx] (by rfl) (by rfl) (World.news_of_block HN2.out) (by simp [Value.oneCell']) (by omega) (by unfold maxLen; omega) (by omega) hsx X2.heap.size rfl ?_
      intro gp cp X3 hown3 hgrow3 hat3 hlt3
      have HB3 := Lib.hid (HB0.out.app HG1.out HSR.out H12.out HNG.out HOW.out HXR.out rfl HMX.out hown3 hgrow3 hat3)
      clear hsx hown3 hgrow3 hat3
      refine hK.out _ _ (SO.out _ ⟨HB3.out.blk, HB3.out.gr⟩) (fun hHeld => ?_)
      have HS3 := Lib.hid hHeld
      clear hK K hHeld
      try simp only [sA, sB, sC]
      refine takeL 7 220 (.pointer (some ⟨w1.heap.size, 2, none⟩)) HS3.out rfl rfl (by kernel_rfl) (by kernel_rfl) (by kernel_rfl) (by decide) (fun _ _ _ h => HQ.out _ _ _ _ _ h) (by kernel_rfl) ?_ ?_
      · intro w2; go_simp
      try simp only [sA, sB, sC]
      refine wpAnyL_ready (rs := [8]) (by kernel_rfl) (by simp) ?_
      refine AllReadyL.last rfl (by kernel_rfl) (fun K hK => ?_)
      have kc : X3.cell? ⟨w1.heap.size, 2, none⟩ = some (.slice Ag ng cg) := HB3.out.blk.cell 2
      have kz := HB3.out.blk.frozen 2
      go_simp
      refine hK.out _ _ ?_
      clear hK K
      try simp only [sA, sB, sC]
      refine wpAnyL_done (by kernel_rfl) ?_ _
      have HB4 := Lib.hid (HB3.out.set 2 (.slice (some ⟨gp, 0, none⟩) (ng + 1) cp))
      go_wp2
      go_roundg (2 - ng)
      case measure => omega
      case rel => exact ⟨_, l ++ [x], HB4.out, HH.out.more HMX.out (by rw [← HNG.out, ← HMZ.out]; exact hlt), .inl HNIL.out, by rw [List.length_append, List.length_singleton, ← HNG.out]; omega⟩
    · have d1 : decide ((ng : Int) < (mz : Int)) = false := decide_eq_false (by omega)
      have hnm : ng = mz := by omega
      have HD : Hid (DoneS w1 sb wr w1.heap.size c d loop) := Lib.hid (done_of HB.out HH.out (by have h := HR.out; rw [HNG.out] at h; exact h) (by rw [← HNG.out, ← HMZ.out]; exact hnm))
      clear hnm
      go_wp2
      exact HKK.out _ _ _ _ _ _ _ _ _ _ _ _ _ _ (HD.out)
end Go.Proofs.YtmignlclfbaifaaGreat
