/- Parts of FlowSteps as lemmas of their own: what an end wants, what the blocks want that it leads to, and the loop over the numbers. Printed by wip/gen_steps2.py. -/
import Derived.Test.YtknccacfhknnaaaSteps8
namespace Go.Proofs.Ytknccacfhknnaaa
open Go.ChangeShapes Go.WideShapes Go.ChangeAt Go.RowKit Go.Maps

theorem slr_drewN {α : Type} {w : World} {ok : Nat → Prop} {sz : Nat} {R : List Value → α → Prop} {v : Value} {l : List α} (h : SlR w ok sz R v l) (n : Nat) : SlR (w.drewN n) ok sz R v l := h.imp (fun _ h => h) (fun _ _ => rfl) (fun _ _ _ r => r)
theorem has_quiet (l : List Int) (n : Int) (v : Value) (ok : Nat → Prop) (w : World) (m : Nat) (hv : SlR w ok 1 RInt v l) (b : Bool) (hb : decide (n ∈ l) = b) :
    Calls Try.prog 16 #[v, .int .i64 n] (w.drewN m) fun e w'' => e = .returned (.bool b) ∧ ∃ m', w'' = w.drewN m' :=
  (has_any l n v ok (w.drewN m) (slr_drewN hv m)).mono fun e w' ⟨he, hw⟩ => ⟨by rw [he, hb], m, hw.symm⟩
/-- a block's number at which just what Le holds is wanted -/
def Nx (rows : List (List Int)) (Le : List Int) (x : Int) : Prop := 0 ≤ x ∧ ∃ h : x.toNat < rows.length, ∀ y ∈ rows[x.toNat], y ∈ Le
theorem form_ints' {Y : World} {vb vo n vc : Nat} {rows : List (List Int)} (h : SlR Y (· < Y.heap.size) 1 (RInts Y (· < Y.heap.size)) (.slice (some ⟨vb, vo, none⟩) n vc) rows) {i : Nat} (hi : i < rows.length) :
    ∃ A c, Y.cell? ⟨vb, vo + i, none⟩ = some (.slice A rows[i].length c) ∧ SlR Y (· < Y.heap.size) 1 RInt (.slice A rows[i].length c) rows[i] := by
  obtain ⟨b', o', c', hf, _, _, hb, hel⟩ := h.form (by omega)
  obtain ⟨rfl, rfl⟩ : vb = b' ∧ vo = o' := by injection hf with h1 _ _; injection h1 with h1; injection h1 with h1 h2; exact ⟨h1, h2⟩
  obtain ⟨cs, _, ⟨u, hcs, hu⟩, hc⟩ := hel i hi
  obtain ⟨A, c, hv, _, _⟩ := hu.val
  subst hcs
  subst hv
  exact ⟨A, c, by have h := hc.at_ (j := 0) rfl; simpa using h, hu⟩

set_option maxRecDepth 100000 in
set_option maxHeartbeats 8000000 in
theorem reg14 (c : Code) (hc : (Try.f3.body.bind (regOf 14)) = some c) (B T lb lo lc ci m ce : Nat) (Ai Ae : Option Addr) (kd a : Int) (Le : List Int) (Y : World)
    (_hm : m ≤ 900) (b0 : Y.cell? ⟨B, 0, none⟩ = some (.slice Ai m ci)) (t0 : Y.cell? ⟨T, 0, none⟩ = some (.int .i64 kd)) (t1 : Y.cell? ⟨T, 1, none⟩ = some (.int .i64 a))
    (l0 : Y.cell? ⟨lb, lo + m, none⟩ = some (.slice Ae Le.length ce)) (hE : SlR Y (· < Y.heap.size) 1 RInt (.slice Ae Le.length ce) Le) (ha : kd ≠ 1 → a ∈ Le)
    (K : Act → World → Prop) (Q' : Exit → Act → World → Prop) (u0 u1 u2 u3 u4 u5 u6 u7 u8 u12 u13 u14 u15 u16 u17 u18 u19 u20 u21 u22 u23 u24 u25 u26 u27 u28 u29 u30 u31 u32 u33 u34 u35 u36 u37 u38 u39 u40 u41 u42 u43 u44 u45 u46 u47 u48 u49 u50 u51 u52 u53 u54 u55 u56 u57 u58 u59 u60 u61 u62 u63 u64 u65 u66 u67 u68 u69 u70 u71 u72 u73 u74 u75 u76 u77 u78 u79 u80 u81 u82 u83 u84 u85 u86 u87 u88 u89 u90 u91 u92 u93 u94 u95 u96 u97 u98 u99 u100 u101 u102 u103 u104 u105 u106 u107 u108 u109 u110 u111 u112 u113 u114 u115 u116 u117 u118 u119 u120 u121 u122 u123 u124 u125 u126 u127 u128 u129 u130 u131 u132 u133 u134 u135 u136 u137 u138 u139 u140 u141 u142 u143 u144 u145 u146 u147 u148 u149 u150 u151 u152 u153 u154 u155 u156 u157 u158 u159 u160 u161 u162 u163 u164 u165 u166 u167 u168 u169 u170 u171 u172 u173 u174 u175 u176 u177 u178 u179 u180 u181 u182 u183 u184 u185 u186 u187 u188 u189 u190 u191 u192 u193 u194 u195 u196 u197 u198 u199 u200 u201 u202 u203 u204 u205 u206 u207 u208 u209 u210 u211 u212 u213 u214 u215 u216 u217 u218 u219 u220 u221 u222 u223 u224 u225 u226 u227 u228 u229 u230 u231 u232 u233 u234 : Value)
    (hK : ∀ (x65 x66 x67 x68 x69 x70 x71 x72 x73 x74 x75 x76 x77 x78 : Value) (w' : World), (∃ nq, w' = Y.drewN nq) → K { tmps := #[u0, u1, u2, u3, u4, u5, u6, u7, u8, .pointer (some ⟨B, 0, none⟩), .slice (some ⟨lb, lo, none⟩) (m + 1) lc, .pointer (some ⟨T, 0, none⟩), u12, u13, u14, u15, u16, u17, u18, u19, u20, u21, u22, u23, u24, u25, u26, u27, u28, u29, u30, u31, u32, u33, u34, u35, u36, u37, u38, u39, u40, u41, u42, u43, u44, u45, u46, u47, u48, u49, u50, u51, u52, u53, u54, u55, u56, u57, u58, u59, u60, u61, u62, u63, u64, x65, x66, x67, x68, x69, x70, x71, x72, x73, x74, x75, x76, x77, x78, .bool false, u80, u81, u82, u83, u84, u85, u86, u87, u88, u89, u90, u91, u92, u93, u94, u95, u96, u97, u98, u99, u100, u101, u102, u103, u104, u105, u106, u107, u108, u109, u110, u111, u112, u113, u114, u115, u116, u117, u118, u119, u120, u121, u122, u123, u124, u125, u126, u127, u128, u129, u130, u131, u132, u133, u134, u135, u136, u137, u138, u139, u140, u141, u142, u143, u144, u145, u146, u147, u148, u149, u150, u151, u152, u153, u154, u155, u156, u157, u158, u159, u160, u161, u162, u163, u164, u165, u166, u167, u168, u169, u170, u171, u172, u173, u174, u175, u176, u177, u178, u179, u180, u181, u182, u183, u184, u185, u186, u187, u188, u189, u190, u191, u192, u193, u194, u195, u196, u197, u198, u199, u200, u201, u202, u203, u204, u205, u206, u207, u208, u209, u210, u211, u212, u213, u214, u215, u216, u217, u218, u219, u220, u221, u222, u223, u224, u225, u226, u227, u228, u229, u230, u231, u232, u233, u234], defers := [] } w') :
    c.wp Try.prog (Exit.then K Q') { tmps := #[u0, u1, u2, u3, u4, u5, u6, u7, u8, .pointer (some ⟨B, 0, none⟩), .slice (some ⟨lb, lo, none⟩) (m + 1) lc, .pointer (some ⟨T, 0, none⟩), u12, u13, u14, u15, u16, u17, u18, u19, u20, u21, u22, u23, u24, u25, u26, u27, u28, u29, u30, u31, u32, u33, u34, u35, u36, u37, u38, u39, u40, u41, u42, u43, u44, u45, u46, u47, u48, u49, u50, u51, u52, u53, u54, u55, u56, u57, u58, u59, u60, u61, u62, u63, u64, u65, u66, u67, u68, u69, u70, u71, u72, u73, u74, u75, u76, u77, u78, u79, u80, u81, u82, u83, u84, u85, u86, u87, u88, u89, u90, u91, u92, u93, u94, u95, u96, u97, u98, u99, u100, u101, u102, u103, u104, u105, u106, u107, u108, u109, u110, u111, u112, u113, u114, u115, u116, u117, u118, u119, u120, u121, u122, u123, u124, u125, u126, u127, u128, u129, u130, u131, u132, u133, u134, u135, u136, u137, u138, u139, u140, u141, u142, u143, u144, u145, u146, u147, u148, u149, u150, u151, u152, u153, u154, u155, u156, u157, u158, u159, u160, u161, u162, u163, u164, u165, u166, u167, u168, u169, u170, u171, u172, u173, u174, u175, u176, u177, u178, u179, u180, u181, u182, u183, u184, u185, u186, u187, u188, u189, u190, u191, u192, u193, u194, u195, u196, u197, u198, u199, u200, u201, u202, u203, u204, u205, u206, u207, u208, u209, u210, u211, u212, u213, u214, u215, u216, u217, u218, u219, u220, u221, u222, u223, u224, u225, u226, u227, u228, u229, u230, u231, u232, u233, u234], defers := [] } Y := by
  have HKK := Lib.hid hK
  have hcc : Try.f3.body.bind (regOf 14) = some c := hc
  simp only [Try.f3, regOf, Option.bind_some, Nat.reduceEqDiff, ↓reduceIte, Option.none_or, Option.or_none, Option.some.injEq] at hcc
  subst hcc
  clear hc hK
  have p1 : (m : Int) < ((m + 1 : Nat) : Int) := by omega
  have p2 : (m : Int) < (m : Int) + 1 := by omega
  have HA := Lib.hid ha
  have HE := Lib.hid hE
  clear ha hE
  by_cases h1 : kd = 1
  · subst h1
    go_wp2
    go_quiet (fail)
    go_wp2
    exact HKK.out _ _ _ _ _ _ _ _ _ _ _ _ _ _ _ ⟨_, rfl⟩
  · have e1 : (kd != 1) = true := by simp [h1]
    have hin : decide (a ∈ Le) = true := decide_eq_true (HA.out h1)
    have HI := Lib.hid hin
    clear hin
    go_wp2
    go_quiet ((go_at_call 16; exact has_quiet _ _ _ _ _ _ HE.out true HI.out))
    go_wp2
    exact HKK.out _ _ _ _ _ _ _ _ _ _ _ _ _ _ _ ⟨_, rfl⟩
set_option maxRecDepth 100000 in
set_option maxHeartbeats 8000000 in
theorem blk4 (c : Code) (hc : (Try.f3.body.bind (blkOf 4)) = some c) (n vb vo vc tb B lb lo lc ci m ce cR jn : Nat) (Ai Ae AR : Option Addr) (tj : Int) (Le R : List Int) (Y : World)
    (_hm : m ≤ 900) (hjn : jn < 2) (_hn : n ≤ 900) (b0 : Y.cell? ⟨B, 0, none⟩ = some (.slice Ai m ci)) (t0 : Y.cell? ⟨tb, jn, none⟩ = some (.int .i64 tj)) (ht0 : 0 ≤ tj) (ht1 : tj < (n : Int))
    (v0 : Y.cell? ⟨vb, vo + tj.toNat, none⟩ = some (.slice AR R.length cR)) (hR : SlR Y (· < Y.heap.size) 1 RInt (.slice AR R.length cR) R)
    (l0 : Y.cell? ⟨lb, lo + m, none⟩ = some (.slice Ae Le.length ce)) (hE : SlR Y (· < Y.heap.size) 1 RInt (.slice Ae Le.length ce) Le) (hs : ∀ y ∈ R, y ∈ Le)
    (Q : Exit → Act → World → Prop) (u0 u1 u2 u3 u4 u5 u6 u8 u11 u15 u16 u17 u18 u19 u20 u21 u22 u23 u24 u25 u26 u27 u28 u29 u30 u31 u32 u33 u34 u35 u36 u37 u38 u39 u40 u41 u42 u43 u44 u45 u46 u47 u48 u49 u50 u51 u52 u53 u54 u55 u56 u57 u58 u59 u60 u61 u62 u63 u64 u65 u66 u67 u68 u69 u70 u71 u72 u73 u74 u75 u76 u77 u78 u79 u80 u81 u82 u83 u84 u85 u86 u87 u88 u89 u90 u91 u92 u93 u94 u95 u96 u97 u98 u99 u100 u101 u102 u103 u104 u105 u106 u107 u108 u109 u110 u111 u112 u113 u114 u115 u116 u117 u118 u119 u120 u121 u122 u123 u124 u125 u126 u127 u128 u129 u130 u131 u132 u133 u134 u135 u136 u137 u138 u139 u140 u141 u142 u143 u144 u145 u146 u147 u148 u149 u150 u151 u152 u153 u154 u155 u156 u157 u158 u159 u160 u161 u162 u163 u164 u165 u166 u167 u168 u169 u170 u171 u172 u173 u174 u175 u176 u177 u178 u179 u180 u181 u182 u183 u184 u185 u186 u187 u188 u189 u190 u191 u192 u193 u194 u195 u196 u197 u198 u199 u200 u201 u202 u203 u204 u205 u206 u207 u208 u209 u210 u211 u212 u213 u214 u215 u216 u217 u218 u219 u220 u221 u222 u223 u224 u225 u226 u227 u228 u229 u230 u231 u232 u233 u234 : Value)
    (hK : ∀ (x4 x14 x101 x102 x103 x104 x105 x106 x107 x108 x109 x110 x111 x112 x113 x114 x115 x116 x117 x118 x119 x120 x121 x122 x123 x124 x125 x126 x127 x128 x129 x130 : Value) (w' : World), (∃ nq, w' = Y.drewN nq) → Q .normal { tmps := #[u0, u1, u2, u3, x4, u5, u6, .slice (some ⟨vb, vo, none⟩) n vc, u8, .pointer (some ⟨B, 0, none⟩), .slice (some ⟨lb, lo, none⟩) (m + 1) lc, u11, .slice (some ⟨tb, 0, none⟩) 2 2, .int .i64 (jn : Int), x14, u15, u16, u17, u18, u19, u20, u21, u22, u23, u24, u25, u26, u27, u28, u29, u30, u31, u32, u33, u34, u35, u36, u37, u38, u39, u40, u41, u42, u43, u44, u45, u46, u47, u48, u49, u50, u51, u52, u53, u54, u55, u56, u57, u58, u59, u60, u61, u62, u63, u64, u65, u66, u67, u68, u69, u70, u71, u72, u73, u74, u75, u76, u77, u78, u79, u80, u81, u82, u83, u84, u85, u86, u87, u88, u89, u90, u91, u92, u93, u94, u95, u96, u97, u98, u99, u100, x101, x102, x103, x104, x105, x106, x107, x108, x109, x110, x111, x112, x113, x114, x115, x116, x117, x118, x119, x120, x121, x122, x123, x124, x125, x126, x127, x128, x129, x130, u131, u132, u133, u134, u135, u136, u137, u138, u139, u140, u141, u142, u143, u144, u145, u146, u147, u148, u149, u150, u151, u152, u153, u154, u155, u156, u157, u158, u159, u160, u161, u162, u163, u164, u165, u166, u167, u168, u169, u170, u171, u172, u173, u174, u175, u176, u177, u178, u179, u180, u181, u182, u183, u184, u185, u186, u187, u188, u189, u190, u191, u192, u193, u194, u195, u196, u197, u198, u199, u200, u201, u202, u203, u204, u205, u206, u207, u208, u209, u210, u211, u212, u213, u214, u215, u216, u217, u218, u219, u220, u221, u222, u223, u224, u225, u226, u227, u228, u229, u230, u231, u232, u233, u234], defers := [] } w') :
    (Code.block 4 c).wp Try.prog Q { tmps := #[u0, u1, u2, u3, u4, u5, u6, .slice (some ⟨vb, vo, none⟩) n vc, u8, .pointer (some ⟨B, 0, none⟩), .slice (some ⟨lb, lo, none⟩) (m + 1) lc, u11, .slice (some ⟨tb, 0, none⟩) 2 2, .int .i64 (jn : Int), .int .i64 0, u15, u16, u17, u18, u19, u20, u21, u22, u23, u24, u25, u26, u27, u28, u29, u30, u31, u32, u33, u34, u35, u36, u37, u38, u39, u40, u41, u42, u43, u44, u45, u46, u47, u48, u49, u50, u51, u52, u53, u54, u55, u56, u57, u58, u59, u60, u61, u62, u63, u64, u65, u66, u67, u68, u69, u70, u71, u72, u73, u74, u75, u76, u77, u78, u79, u80, u81, u82, u83, u84, u85, u86, u87, u88, u89, u90, u91, u92, u93, u94, u95, u96, u97, u98, u99, u100, u101, u102, u103, u104, u105, u106, u107, u108, u109, u110, u111, u112, u113, u114, u115, u116, u117, u118, u119, u120, u121, u122, u123, u124, u125, u126, u127, u128, u129, u130, u131, u132, u133, u134, u135, u136, u137, u138, u139, u140, u141, u142, u143, u144, u145, u146, u147, u148, u149, u150, u151, u152, u153, u154, u155, u156, u157, u158, u159, u160, u161, u162, u163, u164, u165, u166, u167, u168, u169, u170, u171, u172, u173, u174, u175, u176, u177, u178, u179, u180, u181, u182, u183, u184, u185, u186, u187, u188, u189, u190, u191, u192, u193, u194, u195, u196, u197, u198, u199, u200, u201, u202, u203, u204, u205, u206, u207, u208, u209, u210, u211, u212, u213, u214, u215, u216, u217, u218, u219, u220, u221, u222, u223, u224, u225, u226, u227, u228, u229, u230, u231, u232, u233, u234], defers := [] } Y := by
  have HKK := Lib.hid hK
  have hcc : Try.f3.body.bind (blkOf 4) = some c := hc
  simp only [Try.f3, blkOf, Option.bind_some, Nat.reduceEqDiff, ↓reduceIte, Option.none_or, Option.or_none, Option.some.injEq] at hcc
  subst hcc
  clear hc hK
  have p1 : (m : Int) < ((m + 1 : Nat) : Int) := by omega
  have p2 : (m : Int) < (m : Int) + 1 := by omega
  have p3 : (jn : Int) < 2 := by omega
  have hrl := hR.len_le
  unfold maxLen at hrl
  have HS := Lib.hid hs
  have HE := Lib.hid hE
  have HR := Lib.hid hR
  clear hs hE hR
  go_wp2
  go_loopw [14] (fun s wr => ∃ k : Nat, k ≤ R.length ∧ s = .int .i64 k ∧ ∃ nq, wr = Y.drewN nq) (fun s _ => R.length - (RowKit.intOf s).toNat)
  case atStart => exact ⟨0, by omega, rfl, 0, rfl⟩
  case round =>
    obtain ⟨k, hk, rfl, nq, hwr⟩ := hrel
    have b1 : wr.cell? ⟨B, 0, none⟩ = some (.slice Ai m ci) := by rw [hwr]; exact b0
    have t1 : wr.cell? ⟨tb, jn, none⟩ = some (.int .i64 tj) := by rw [hwr]; exact t0
    have v1 : wr.cell? ⟨vb, vo + tj.toNat, none⟩ = some (.slice AR R.length cR) := by rw [hwr]; exact v0
    have l1 : wr.cell? ⟨lb, lo + m, none⟩ = some (.slice Ae Le.length ce) := by rw [hwr]; exact l0
    have HEr := Lib.hid (show SlR wr (· < Y.heap.size) 1 RInt (.slice Ae Le.length ce) Le from by rw [hwr]; exact slr_drewN HE.out nq)
    have HWR := Lib.hid hwr
    by_cases hlt : k < R.length
    · have d1 : decide ((k : Int) < (R.length : Int)) = true := decide_eq_true (by omega)
      obtain ⟨b3, o3, c3, f3, _, _, _, q3⟩ := HR.out.form (by omega)
      obtain rfl : AR = some ⟨b3, o3, none⟩ := by injection f3
      obtain ⟨cs3, _, r3, s3⟩ := q3 k hlt
      subst r3
      have hin : decide (R[k] ∈ Le) = true := decide_eq_true (HS.out _ (List.getElem_mem hlt))
      obtain ⟨y, hy⟩ : ∃ y, y = R[k] := ⟨_, rfl⟩
      rw [← hy] at s3 hin
      have i3 : wr.cell? ⟨b3, o3 + k, none⟩ = some (.int .i64 y) := by rw [hwr]; have h := s3.at_ (j := 0) rfl; simpa using h
      have HI := Lib.hid hin
      have p4 : (k : Int) < (R.length : Int) := by omega
      clear f3 q3 s3 hy hin hwr
      go_wp2
      go_quiet ((go_at_call 16; exact has_quiet _ _ _ _ _ _ HEr.out true HI.out))
      go_wp2
      go_roundw
      case rel => exact ⟨k + 1, by omega, by go_num, by rw [HWR.out]; exact ⟨_, World.drewN_drewN _ _ _⟩⟩
      case measure => simp [RowKit.intOf]; omega
    · have d1 : decide ((k : Int) < (R.length : Int)) = false := decide_eq_false (by omega)
      clear hwr
      go_wp2
      exact HKK.out _ _ _ _ _ _ _ _ _ _ _ _ _ _ _ _ _ _ _ _ _ _ _ _ _ _ _ _ _ _ _ _ _ ⟨nq, HWR.out⟩
set_option maxRecDepth 100000 in
set_option maxHeartbeats 8000000 in
theorem blk2 (c : Code) (hc : (Try.f3.body.bind (blkOf 2)) = some c) (n vb vo vc tb B T lb lo lc ci m ce : Nat) (Ai Ae : Option Addr) (kd tt els : Int) (Le : List Int) (rows : List (List Int)) (Y : World)
    (hkd : 1 ≤ kd) (hm : m ≤ 900) (hn : n ≤ 900) (hnr : n = rows.length) (b0 : Y.cell? ⟨B, 0, none⟩ = some (.slice Ai m ci)) (k0 : Y.cell? ⟨T, 0, none⟩ = some (.int .i64 kd)) (t0 : Y.cell? ⟨tb, 0, none⟩ = some (.int .i64 tt)) (t1 : Y.cell? ⟨tb, 1, none⟩ = some (.int .i64 els))
    (hv : SlR Y (· < Y.heap.size) 1 (RInts Y (· < Y.heap.size)) (.slice (some ⟨vb, vo, none⟩) n vc) rows)
    (l0 : Y.cell? ⟨lb, lo + m, none⟩ = some (.slice Ae Le.length ce)) (hE : SlR Y (· < Y.heap.size) 1 RInt (.slice Ae Le.length ce) Le) (h1 : kd ≤ 2 → Nx rows Le tt) (h2 : kd = 2 → Nx rows Le els)
    (K : Act → World → Prop) (Q' : Exit → Act → World → Prop) (u0 u1 u2 u3 u4 u5 u6 u8 u14 u15 u16 u17 u18 u19 u20 u21 u22 u23 u24 u25 u26 u27 u28 u29 u30 u31 u32 u33 u34 u35 u36 u37 u38 u39 u40 u41 u42 u43 u44 u45 u46 u47 u48 u49 u50 u51 u52 u53 u54 u55 u56 u57 u58 u59 u60 u61 u62 u63 u64 u65 u66 u67 u68 u69 u70 u71 u72 u73 u74 u75 u76 u77 u78 u79 u80 u81 u82 u83 u84 u85 u86 u87 u88 u89 u90 u91 u92 u93 u94 u95 u96 u97 u98 u99 u100 u101 u102 u103 u104 u105 u106 u107 u108 u109 u110 u111 u112 u113 u114 u115 u116 u117 u118 u119 u120 u121 u122 u123 u124 u125 u126 u127 u128 u129 u130 u131 u132 u133 u134 u135 u136 u137 u138 u139 u140 u141 u142 u143 u144 u145 u146 u147 u148 u149 u150 u151 u152 u153 u154 u155 u156 u157 u158 u159 u160 u161 u162 u163 u164 u165 u166 u167 u168 u169 u170 u171 u172 u173 u174 u175 u176 u177 u178 u179 u180 u181 u182 u183 u184 u185 u186 u187 u188 u189 u190 u191 u192 u193 u194 u195 u196 u197 u198 u199 u200 u201 u202 u203 u204 u205 u206 u207 u208 u209 u210 u211 u212 u213 u214 u215 u216 u217 u218 u219 u220 u221 u222 u223 u224 u225 u226 u227 u228 u229 u230 u231 u232 u233 u234 : Value)
    (hK : ∀ (x4 x13 x14 x85 x86 x87 x88 x89 x90 x91 x92 x93 x94 x95 x96 x97 x98 x99 x100 x101 x102 x103 x104 x105 x106 x107 x108 x109 x110 x111 x112 x113 x114 x115 x116 x117 x118 x119 x120 x121 x122 x123 x124 x125 x126 x127 x128 x129 x130 : Value) (w' : World), (∃ nq, w' = Y.drewN nq) → K { tmps := #[u0, u1, u2, u3, x4, u5, u6, .slice (some ⟨vb, vo, none⟩) n vc, u8, .pointer (some ⟨B, 0, none⟩), .slice (some ⟨lb, lo, none⟩) (m + 1) lc, .pointer (some ⟨T, 0, none⟩), .slice (some ⟨tb, 0, none⟩) 2 2, x13, x14, u15, u16, u17, u18, u19, u20, u21, u22, u23, u24, u25, u26, u27, u28, u29, u30, u31, u32, u33, u34, u35, u36, u37, u38, u39, u40, u41, u42, u43, u44, u45, u46, u47, u48, u49, u50, u51, u52, u53, u54, u55, u56, u57, u58, u59, u60, u61, u62, u63, u64, u65, u66, u67, u68, u69, u70, u71, u72, u73, u74, u75, u76, u77, u78, u79, u80, u81, u82, u83, u84, x85, x86, x87, x88, x89, x90, x91, x92, x93, x94, x95, x96, x97, x98, x99, x100, x101, x102, x103, x104, x105, x106, x107, x108, x109, x110, x111, x112, x113, x114, x115, x116, x117, x118, x119, x120, x121, x122, x123, x124, x125, x126, x127, x128, x129, x130, u131, u132, u133, u134, u135, u136, u137, u138, u139, u140, u141, u142, u143, u144, u145, u146, u147, u148, u149, u150, u151, u152, u153, u154, u155, u156, u157, u158, u159, u160, u161, u162, u163, u164, u165, u166, u167, u168, u169, u170, u171, u172, u173, u174, u175, u176, u177, u178, u179, u180, u181, u182, u183, u184, u185, u186, u187, u188, u189, u190, u191, u192, u193, u194, u195, u196, u197, u198, u199, u200, u201, u202, u203, u204, u205, u206, u207, u208, u209, u210, u211, u212, u213, u214, u215, u216, u217, u218, u219, u220, u221, u222, u223, u224, u225, u226, u227, u228, u229, u230, u231, u232, u233, u234], defers := [] } w') :
    (Code.block 2 c).wp Try.prog (Exit.then K Q') { tmps := #[u0, u1, u2, u3, u4, u5, u6, .slice (some ⟨vb, vo, none⟩) n vc, u8, .pointer (some ⟨B, 0, none⟩), .slice (some ⟨lb, lo, none⟩) (m + 1) lc, .pointer (some ⟨T, 0, none⟩), .slice (some ⟨tb, 0, none⟩) 2 2, .int .i64 0, u14, u15, u16, u17, u18, u19, u20, u21, u22, u23, u24, u25, u26, u27, u28, u29, u30, u31, u32, u33, u34, u35, u36, u37, u38, u39, u40, u41, u42, u43, u44, u45, u46, u47, u48, u49, u50, u51, u52, u53, u54, u55, u56, u57, u58, u59, u60, u61, u62, u63, u64, u65, u66, u67, u68, u69, u70, u71, u72, u73, u74, u75, u76, u77, u78, u79, u80, u81, u82, u83, u84, u85, u86, u87, u88, u89, u90, u91, u92, u93, u94, u95, u96, u97, u98, u99, u100, u101, u102, u103, u104, u105, u106, u107, u108, u109, u110, u111, u112, u113, u114, u115, u116, u117, u118, u119, u120, u121, u122, u123, u124, u125, u126, u127, u128, u129, u130, u131, u132, u133, u134, u135, u136, u137, u138, u139, u140, u141, u142, u143, u144, u145, u146, u147, u148, u149, u150, u151, u152, u153, u154, u155, u156, u157, u158, u159, u160, u161, u162, u163, u164, u165, u166, u167, u168, u169, u170, u171, u172, u173, u174, u175, u176, u177, u178, u179, u180, u181, u182, u183, u184, u185, u186, u187, u188, u189, u190, u191, u192, u193, u194, u195, u196, u197, u198, u199, u200, u201, u202, u203, u204, u205, u206, u207, u208, u209, u210, u211, u212, u213, u214, u215, u216, u217, u218, u219, u220, u221, u222, u223, u224, u225, u226, u227, u228, u229, u230, u231, u232, u233, u234], defers := [] } Y := by
  have HKK := Lib.hid hK
  have hcc : Try.f3.body.bind (blkOf 2) = some c := hc
  simp only [Try.f3, blkOf, Option.bind_some, Nat.reduceEqDiff, ↓reduceIte, Option.none_or, Option.or_none, Option.some.injEq] at hcc
  subst hcc
  clear hc hK
  have HV := Lib.hid hv
  have HE := Lib.hid hE
  have H1 := Lib.hid h1
  have H2 := Lib.hid h2
  have HNR := Lib.hid hnr
  clear hv hE h1 h2 hnr
  go_wp2
  go_loopw [13] (fun s wr => ∃ j : Nat, j ≤ 2 ∧ s = .int .i64 j ∧ ∃ nq, wr = Y.drewN nq) (fun s _ => 2 - (RowKit.intOf s).toNat)
  case atStart => exact ⟨0, by omega, rfl, 0, rfl⟩
  case round =>
    obtain ⟨j, hj, rfl, nq, hwr⟩ := hrel
    have b1 : wr.cell? ⟨B, 0, none⟩ = some (.slice Ai m ci) := by rw [hwr]; exact b0
    have k1 : wr.cell? ⟨T, 0, none⟩ = some (.int .i64 kd) := by rw [hwr]; exact k0
    have t2 : wr.cell? ⟨tb, 0, none⟩ = some (.int .i64 tt) := by rw [hwr]; exact t0
    have t3 : wr.cell? ⟨tb, 1, none⟩ = some (.int .i64 els) := by rw [hwr]; exact t1
    have l1 : wr.cell? ⟨lb, lo + m, none⟩ = some (.slice Ae Le.length ce) := by rw [hwr]; exact l0
    have hsz : wr.heap.size = Y.heap.size := by rw [hwr]; rfl
    have HEr := Lib.hid (show SlR wr (· < wr.heap.size) 1 RInt (.slice Ae Le.length ce) Le from by rw [hwr]; exact slr_drewN HE.out nq)
    have HSZ := Lib.hid hsz
    have HWR := Lib.hid hwr
    clear hwr hsz b0 k0 t0 t1 l0
    rcases (by omega : kd = 1 ∨ kd = 2 ∨ 3 ≤ kd) with rfl | rfl | h3
    · rcases (by omega : j = 0 ∨ j = 1 ∨ j = 2) with rfl | rfl | rfl
      · clear hj
        obtain ⟨hx0, hx1, hxs⟩ := H1.out (by omega)
        obtain ⟨AR, cR, v0, hR⟩ := form_ints' HV.out hx1
        go_upto_block 4 with fail
        refine blk4 _ (by kernel_rfl) n vb vo vc tb B lb lo lc ci m ce cR 0 Ai Ae AR _ Le _ wr hm (by omega) hn b1 t2 hx0 (by have := HNR.out; omega) (by rw [HWR.out]; exact v0) (by rw [HWR.out]; exact slr_drewN hR nq) l1 HEr.out hxs _ _ _ _ _ _ _ _ _ _ _ _ _ _ _ _ _ _ _ _ _ _ _ _ _ _ _ _ _ _ _ _ _ _ _ _ _ _ _ _ _ _ _ _ _ _ _ _ _ _ _ _ _ _ _ _ _ _ _ _ _ _ _ _ _ _ _ _ _ _ _ _ _ _ _ _ _ _ _ _ _ _ _ _ _ _ _ _ _ _ _ _ _ _ _ _ _ _ _ _ _ _ _ _ _ _ _ _ _ _ _ _ _ _ _ _ _ _ _ _ _ _ _ _ _ _ _ _ _ _ _ _ _ _ _ _ _ _ _ _ _ _ _ _ _ _ _ _ _ _ _ _ _ _ _ _ _ _ _ _ _ _ _ _ _ _ _ _ _ _ _ _ _ _ _ _ _ _ _ _ _ _ _ _ _ _ _ _ _ _ _ _ _ _ _ _ _ _ _ _ _ _ _ _ _ _ _ _ _ _ _ _ _ _ _ _ _ _ _ _ _ _ _ _ _ _ _ _ _ _ ?_
        intro y4 y14 y101 y102 y103 y104 y105 y106 y107 y108 y109 y110 y111 y112 y113 y114 y115 y116 y117 y118 y119 y120 y121 y122 y123 y124 y125 y126 y127 y128 y129 y130 w' hq4
        obtain ⟨n4, rfl⟩ := hq4
        have HN4 := Lib.hid hx1
        clear v0 hR hxs hx1
        go_wp2
        go_roundw
        case rel => exact ⟨0 + 1, by omega, by go_num, by rw [HWR.out]; exact ⟨_, World.drewN_drewN _ _ _⟩⟩
        case measure => simp [RowKit.intOf]
      · go_wp2
        go_roundw
        case rel => exact ⟨2, by omega, by go_num, nq, HWR.out⟩
        case measure => simp [RowKit.intOf]
      · go_wp2
        exact HKK.out _ _ _ _ _ _ _ _ _ _ _ _ _ _ _ _ _ _ _ _ _ _ _ _ _ _ _ _ _ _ _ _ _ _ _ _ _ _ _ _ _ _ _ _ _ _ _ _ _ _ ⟨nq, HWR.out⟩
    · rcases (by omega : j = 0 ∨ j = 1 ∨ j = 2) with rfl | rfl | rfl
      · clear hj
        obtain ⟨hx0, hx1, hxs⟩ := H1.out (by omega)
        obtain ⟨AR, cR, v0, hR⟩ := form_ints' HV.out hx1
        go_upto_block 4 with fail
        refine blk4 _ (by kernel_rfl) n vb vo vc tb B lb lo lc ci m ce cR 0 Ai Ae AR _ Le _ wr hm (by omega) hn b1 t2 hx0 (by have := HNR.out; omega) (by rw [HWR.out]; exact v0) (by rw [HWR.out]; exact slr_drewN hR nq) l1 HEr.out hxs _ _ _ _ _ _ _ _ _ _ _ _ _ _ _ _ _ _ _ _ _ _ _ _ _ _ _ _ _ _ _ _ _ _ _ _ _ _ _ _ _ _ _ _ _ _ _ _ _ _ _ _ _ _ _ _ _ _ _ _ _ _ _ _ _ _ _ _ _ _ _ _ _ _ _ _ _ _ _ _ _ _ _ _ _ _ _ _ _ _ _ _ _ _ _ _ _ _ _ _ _ _ _ _ _ _ _ _ _ _ _ _ _ _ _ _ _ _ _ _ _ _ _ _ _ _ _ _ _ _ _ _ _ _ _ _ _ _ _ _ _ _ _ _ _ _ _ _ _ _ _ _ _ _ _ _ _ _ _ _ _ _ _ _ _ _ _ _ _ _ _ _ _ _ _ _ _ _ _ _ _ _ _ _ _ _ _ _ _ _ _ _ _ _ _ _ _ _ _ _ _ _ _ _ _ _ _ _ _ _ _ _ _ _ _ _ _ _ _ _ _ _ _ _ _ _ _ _ _ _ ?_
        intro y4 y14 y101 y102 y103 y104 y105 y106 y107 y108 y109 y110 y111 y112 y113 y114 y115 y116 y117 y118 y119 y120 y121 y122 y123 y124 y125 y126 y127 y128 y129 y130 w' hq4
        obtain ⟨n4, rfl⟩ := hq4
        have HN4 := Lib.hid hx1
        clear v0 hR hxs hx1
        go_wp2
        go_roundw
        case rel => exact ⟨0 + 1, by omega, by go_num, by rw [HWR.out]; exact ⟨_, World.drewN_drewN _ _ _⟩⟩
        case measure => simp [RowKit.intOf]
      · clear hj
        obtain ⟨hx0, hx1, hxs⟩ := H2.out rfl
        obtain ⟨AR, cR, v0, hR⟩ := form_ints' HV.out hx1
        go_upto_block 4 with fail
        refine blk4 _ (by kernel_rfl) n vb vo vc tb B lb lo lc ci m ce cR 1 Ai Ae AR _ Le _ wr hm (by omega) hn b1 t3 hx0 (by have := HNR.out; omega) (by rw [HWR.out]; exact v0) (by rw [HWR.out]; exact slr_drewN hR nq) l1 HEr.out hxs _ _ _ _ _ _ _ _ _ _ _ _ _ _ _ _ _ _ _ _ _ _ _ _ _ _ _ _ _ _ _ _ _ _ _ _ _ _ _ _ _ _ _ _ _ _ _ _ _ _ _ _ _ _ _ _ _ _ _ _ _ _ _ _ _ _ _ _ _ _ _ _ _ _ _ _ _ _ _ _ _ _ _ _ _ _ _ _ _ _ _ _ _ _ _ _ _ _ _ _ _ _ _ _ _ _ _ _ _ _ _ _ _ _ _ _ _ _ _ _ _ _ _ _ _ _ _ _ _ _ _ _ _ _ _ _ _ _ _ _ _ _ _ _ _ _ _ _ _ _ _ _ _ _ _ _ _ _ _ _ _ _ _ _ _ _ _ _ _ _ _ _ _ _ _ _ _ _ _ _ _ _ _ _ _ _ _ _ _ _ _ _ _ _ _ _ _ _ _ _ _ _ _ _ _ _ _ _ _ _ _ _ _ _ _ _ _ _ _ _ _ _ _ _ _ _ _ _ _ _ ?_
        intro y4 y14 y101 y102 y103 y104 y105 y106 y107 y108 y109 y110 y111 y112 y113 y114 y115 y116 y117 y118 y119 y120 y121 y122 y123 y124 y125 y126 y127 y128 y129 y130 w' hq4
        obtain ⟨n4, rfl⟩ := hq4
        have HN4 := Lib.hid hx1
        clear v0 hR hxs hx1
        go_wp2
        go_roundw
        case rel => exact ⟨1 + 1, by omega, by go_num, by rw [HWR.out]; exact ⟨_, World.drewN_drewN _ _ _⟩⟩
        case measure => simp [RowKit.intOf]
      · go_wp2
        exact HKK.out _ _ _ _ _ _ _ _ _ _ _ _ _ _ _ _ _ _ _ _ _ _ _ _ _ _ _ _ _ _ _ _ _ _ _ _ _ _ _ _ _ _ _ _ _ _ _ _ _ _ ⟨nq, HWR.out⟩
    · have d3 : decide (kd ≤ 2) = false := decide_eq_false (by omega)
      rcases (by omega : j = 0 ∨ j = 1 ∨ j = 2) with rfl | rfl | rfl
      all_goals
        go_wp2
        exact HKK.out _ _ _ _ _ _ _ _ _ _ _ _ _ _ _ _ _ _ _ _ _ _ _ _ _ _ _ _ _ _ _ _ _ _ _ _ _ _ _ _ _ _ _ _ _ _ _ _ _ _ ⟨nq, HWR.out⟩
set_option maxRecDepth 100000 in
set_option maxHeartbeats 8000000 in
theorem blk6 (c : Code) (hc : (Try.f3.body.bind (blkOf 6)) = some c) (n i vb vo vc B lb lo lc ci cS : Nat) (Ai AS : Option Addr) (ins : List LIns) (E S : Int → Bool) (Y : World)
    (_hn : n ≤ 900) (hi : i < n) (hlen : ins.length ≤ 900) (hS : S = stepsS ins E) (b0 : Y.cell? ⟨B, 0, none⟩ = some (.slice Ai ins.length ci))
    (hrows : SlR Y (· < Y.heap.size) 1 (RInts Y (· < Y.heap.size)) (.slice (some ⟨lb, lo, none⟩) (ins.length + 1) lc) (afterL ins E)) (hins : SlR Y (· < Y.heap.size) 8 (RIns Y (· < Y.heap.size)) (.slice Ai ins.length ci) ins) (hlaw : ∀ x ∈ ins, LawIns x)
    (v0 : Y.cell? ⟨vb, vo + i, none⟩ = some (.slice AS (riseL S).length cS)) (hSr : SlR Y (· < Y.heap.size) 1 RInt (.slice AS (riseL S).length cS) (riseL S))
    (Q : Exit → Act → World → Prop) (u0 u1 u2 u3 u4 u5 u6 u11 u12 u13 u14 u16 u17 u18 u19 u20 u21 u22 u23 u24 u25 u26 u27 u28 u29 u30 u31 u32 u33 u34 u35 u36 u37 u38 u39 u40 u41 u42 u43 u44 u45 u46 u47 u48 u49 u50 u51 u52 u53 u54 u55 u56 u57 u58 u59 u60 u61 u62 u63 u64 u65 u66 u67 u68 u69 u70 u71 u72 u73 u74 u75 u76 u77 u78 u79 u80 u81 u82 u83 u84 u85 u86 u87 u88 u89 u90 u91 u92 u93 u94 u95 u96 u97 u98 u99 u100 u101 u102 u103 u104 u105 u106 u107 u108 u109 u110 u111 u112 u113 u114 u115 u116 u117 u118 u119 u120 u121 u122 u123 u124 u125 u126 u127 u128 u129 u130 u131 u132 u133 u134 u135 u136 u137 u138 u139 u140 u141 u142 u143 u144 u145 u146 u147 u148 u149 u150 u151 u152 u153 u154 u155 u156 u157 u158 u159 u160 u161 u162 u163 u164 u165 u166 u167 u168 u169 u170 u171 u172 u173 u174 u175 u176 u177 u178 u179 u180 u181 u182 u183 u184 u185 u186 u187 u188 u189 u190 u191 u192 u193 u194 u195 u196 u197 u198 u199 u200 u201 u202 u203 u204 u205 u206 u207 u208 u209 u210 u211 u212 u213 u214 u215 u216 u217 u218 u219 u220 u221 u222 u223 u224 u225 u226 u227 u228 u229 u230 u231 u232 u233 u234 : Value)
    (hK : ∀ (x4 x15 x16 x17 x18 x19 x20 x131 x132 x133 x134 x135 x136 x137 x138 x139 x140 x141 x142 x143 x144 x145 x146 x147 x148 x149 x150 x151 x152 x153 x154 x155 x156 x157 x158 x159 x160 x161 x162 x163 x164 x165 x166 x167 x168 x169 x170 x171 x172 x173 x174 x175 x176 x177 x178 x179 x180 x181 x182 x183 x184 x185 x186 x187 x188 x189 x190 x191 x192 x193 x194 x195 x196 x197 x198 x199 x200 x201 x202 x203 x204 x205 x206 x207 x208 x209 x210 x211 x212 x213 x214 x215 x216 x217 x218 x219 x220 x221 x222 x223 x224 x225 x226 x227 x228 x229 x230 x231 x232 x233 x234 : Value) (w' : World), Below Y.heap.size Y w' → Q .normal { tmps := #[u0, u1, u2, u3, x4, u5, u6, .slice (some ⟨vb, vo, none⟩) n vc, .int .i64 (i : Int), .pointer (some ⟨B, 0, none⟩), .slice (some ⟨lb, lo, none⟩) (ins.length + 1) lc, u11, u12, u13, u14, x15, x16, x17, x18, x19, x20, u21, u22, u23, u24, u25, u26, u27, u28, u29, u30, u31, u32, u33, u34, u35, u36, u37, u38, u39, u40, u41, u42, u43, u44, u45, u46, u47, u48, u49, u50, u51, u52, u53, u54, u55, u56, u57, u58, u59, u60, u61, u62, u63, u64, u65, u66, u67, u68, u69, u70, u71, u72, u73, u74, u75, u76, u77, u78, u79, u80, u81, u82, u83, u84, u85, u86, u87, u88, u89, u90, u91, u92, u93, u94, u95, u96, u97, u98, u99, u100, u101, u102, u103, u104, u105, u106, u107, u108, u109, u110, u111, u112, u113, u114, u115, u116, u117, u118, u119, u120, u121, u122, u123, u124, u125, u126, u127, u128, u129, u130, x131, x132, x133, x134, x135, x136, x137, x138, x139, x140, x141, x142, x143, x144, x145, x146, x147, x148, x149, x150, x151, x152, x153, x154, x155, x156, x157, x158, x159, x160, x161, x162, x163, x164, x165, x166, x167, x168, x169, x170, x171, x172, x173, x174, x175, x176, x177, x178, x179, x180, x181, x182, x183, x184, x185, x186, x187, x188, x189, x190, x191, x192, x193, x194, x195, x196, x197, x198, x199, x200, x201, x202, x203, x204, x205, x206, x207, x208, x209, x210, x211, x212, x213, x214, x215, x216, x217, x218, x219, x220, x221, x222, x223, x224, x225, x226, x227, x228, x229, x230, x231, x232, x233, x234], defers := [] } w') :
    (Code.block 6 c).wp Try.prog Q { tmps := #[u0, u1, u2, u3, u4, u5, u6, .slice (some ⟨vb, vo, none⟩) n vc, .int .i64 (i : Int), .pointer (some ⟨B, 0, none⟩), .slice (some ⟨lb, lo, none⟩) (ins.length + 1) lc, u11, u12, u13, u14, .int .i64 0, u16, u17, u18, u19, u20, u21, u22, u23, u24, u25, u26, u27, u28, u29, u30, u31, u32, u33, u34, u35, u36, u37, u38, u39, u40, u41, u42, u43, u44, u45, u46, u47, u48, u49, u50, u51, u52, u53, u54, u55, u56, u57, u58, u59, u60, u61, u62, u63, u64, u65, u66, u67, u68, u69, u70, u71, u72, u73, u74, u75, u76, u77, u78, u79, u80, u81, u82, u83, u84, u85, u86, u87, u88, u89, u90, u91, u92, u93, u94, u95, u96, u97, u98, u99, u100, u101, u102, u103, u104, u105, u106, u107, u108, u109, u110, u111, u112, u113, u114, u115, u116, u117, u118, u119, u120, u121, u122, u123, u124, u125, u126, u127, u128, u129, u130, u131, u132, u133, u134, u135, u136, u137, u138, u139, u140, u141, u142, u143, u144, u145, u146, u147, u148, u149, u150, u151, u152, u153, u154, u155, u156, u157, u158, u159, u160, u161, u162, u163, u164, u165, u166, u167, u168, u169, u170, u171, u172, u173, u174, u175, u176, u177, u178, u179, u180, u181, u182, u183, u184, u185, u186, u187, u188, u189, u190, u191, u192, u193, u194, u195, u196, u197, u198, u199, u200, u201, u202, u203, u204, u205, u206, u207, u208, u209, u210, u211, u212, u213, u214, u215, u216, u217, u218, u219, u220, u221, u222, u223, u224, u225, u226, u227, u228, u229, u230, u231, u232, u233, u234], defers := [] } Y := by
  have HKK := Lib.hid hK
  have hcc : Try.f3.body.bind (blkOf 6) = some c := hc
  simp only [Try.f3, blkOf, Option.bind_some, Nat.reduceEqDiff, ↓reduceIte, Option.none_or, Option.or_none, Option.some.injEq] at hcc
  subst hcc
  clear hc hK
  have hBl : B < Y.heap.size := World.block_lt_of_cell? Y _ b0
  have hvl : vb < Y.heap.size := World.block_lt_of_cell? Y _ v0
  have p1 : ((ins.length : Nat) : Int) < ((ins.length + 1 : Nat) : Int) := by omega
  have p2 : (ins.length : Int) < (ins.length : Int) + 1 := by omega
  have p3 : (i : Int) < (n : Int) := by omega
  obtain ⟨Ae, ce, hlb, l0, hE⟩ := row_at hrows (m := ins.length) (by omega)
  have hde : stepsS (ins.drop (ins.length + 1)) E = E := by rw [List.drop_eq_nil_of_le (by omega)]; rfl
  rw [hde] at l0 hE
  have HSE := Lib.hid hS
  have HE := Lib.hid hE
  have HR := Lib.hid hrows
  have HI := Lib.hid hins
  have HL := Lib.hid hlaw
  have HSR := Lib.hid hSr
  clear hde hE hrows hins hlaw hSr hS
  go_wp2
  go_loopw [15] (fun s wr => ∃ v : Nat, v ≤ 10 ∧ s = .int .i64 v ∧ Below Y.heap.size Y wr) (fun s _ => 10 - (RowKit.intOf s).toNat)
  case atStart => exact ⟨0, by omega, rfl, Below.refl _ _⟩
  case round =>
    obtain ⟨v, hv10, rfl, hbr⟩ := hrel
    by_cases hlt : v < 10
    · have d0 : decide ((v : Int) < 10) = true := decide_eq_true (by omega)
      have b1 : wr.cell? ⟨B, 0, none⟩ = some (.slice Ai ins.length ci) := (hbr.cell (p := ⟨B, 0, none⟩) hBl).trans b0
      have v1 : wr.cell? ⟨vb, vo + i, none⟩ = some (.slice AS (riseL S).length cS) := (hbr.cell (p := ⟨vb, vo + i, none⟩) hvl).trans v0
      have l1 : wr.cell? ⟨lb, lo + ins.length, none⟩ = some (.slice Ae (riseL E).length ce) := (hbr.cell (p := ⟨lb, lo + ins.length, none⟩) hlb).trans l0
      have up : ∀ b, b < Y.heap.size → b < wr.heap.size := fun b h => Nat.lt_of_lt_of_le h hbr.size
      have kp : Keeps (· < Y.heap.size) Y wr := fun b h => hbr.block b h
      have HE1 := Lib.hid (HE.out.imp (R' := RInt) up kp (fun _ _ _ r => r))
      have HS1 := Lib.hid (HSR.out.imp (R' := RInt) up kp (fun _ _ _ r => r))
      have HR1 := Lib.hid (HR.out.imp (R' := RInts wr (· < wr.heap.size)) up kp (fun _ _ _ r => mono_ints _ _ _ _ _ _ r up kp))
      have HI1 := Lib.hid (HI.out.imp (R' := RIns wr (· < wr.heap.size)) up kp (fun _ _ _ r => r.imp up kp))
      have HBR := Lib.hid hbr
      have he : decide ((v : Int) ∈ riseL E) = E v := rise_bool (place_of_small ⟨by omega, by omega⟩)
      have hs : decide ((v : Int) ∈ riseL S) = S v := rise_bool (place_of_small ⟨by omega, by omega⟩)
      have HEE := Lib.hid he
      have HSS := Lib.hid hs
      clear up kp hbr he hs
      go_upto_block 8 with (go_at_call 16; refine (has_any _ _ _ _ _ HE1.out).mono ?_; rintro e w' ⟨he, rfl⟩; rw [HEE.out] at he; subst he)
      refine blk8 _ (by kernel_rfl) v hlt ins E B lb lo lc ci Ai _ (by first | rfl | omega) hlen _ HR1.out HI1.out HL.out b1 _ _ _ _ _ _ _ _ _ _ _ _ _ _ _ _ _ _ _ _ _ _ _ _ _ _ _ _ _ _ _ _ _ _ _ _ _ _ _ _ _ _ _ _ _ _ _ _ _ _ _ _ _ _ _ _ _ _ _ _ _ _ _ _ _ _ _ _ _ _ _ _ _ _ _ _ _ _ _ _ _ _ _ _ _ _ _ _ _ _ _ _ _ _ _ _ _ _ _ _ _ _ _ _ _ _ _ _ _ _ _ _ _ _ _ _ _ _ _ _ _ _ _ _ _ _ _ _ _ _ _ _ _ _ _ _ _ _ _ _ _ _ _ _ _ _ _ _ _ _ _ _ _ _ _ _ _ _ _ _ _ _ _ _ _ _ _ _ _ _ _ _ _ _ _ _ _ _ _ _ _ _ _ _ _ _ _ _ _ _ _ _ _ _ _ _ _ _ _ _ _ _ _ _ _ _ _ _ _ _ _ _ _ _ _ _ _ _ _ _ _ _ _ _ _ _ _ _ _ _ _ _ ?_
      intro x4 x17 x18 x19 x20 x147 x148 x149 x150 x151 x152 x153 x154 x155 x156 x157 x158 x159 x160 x161 x162 x163 x164 x165 x166 x167 x168 x169 x170 x171 x172 x173 x174 x175 x176 x177 x178 x179 x180 x181 x182 x183 x184 x185 x186 x187 x188 x189 x190 x191 x192 x193 x194 x195 x196 x197 x198 x199 x200 x201 x202 x203 x204 x205 x206 x207 x208 x209 x210 x211 x212 x213 x214 x215 x216 x217 x218 x219 x220 x221 x222 x223 x224 x225 x226 w' hb8
      have hq : S v = stepsS ins E v := by rw [HSE.out]
      have v2 : w'.cell? ⟨vb, vo + i, none⟩ = some (.slice AS (riseL S).length cS) := (hb8.cell (p := ⟨vb, vo + i, none⟩) (by have := HBR.out.size; show vb < _; omega)).trans v1
      have HS2 := Lib.hid (HS1.out.imp (ok' := (· < w'.heap.size)) (R' := RInt) (fun _ h => Nat.lt_of_lt_of_le h hb8.size) (fun b h => hb8.block b h) (fun _ _ _ r => r))
      have HB8 := Lib.hid hb8
      rw [← hq]
      have HSS2 := HSS.out
      clear hb8 hq b1 v1 l1
      generalize S v = q at *
      have HQ := Lib.hid HSS2
      clear HSS2
      cases q with
      | false =>
        go_wp2_with (go_at_call 16; refine (has_any _ _ _ _ _ HS2.out).mono ?_; rintro e w' ⟨he, rfl⟩; rw [HQ.out] at he; subst he)
        go_roundw
        case rel => exact ⟨v + 1, by omega, by go_num, HBR.out.trans (HB8.out.mono HBR.out.size)⟩
        case measure => simp [RowKit.intOf]; omega
      | true =>
        go_wp2_with (go_at_call 16; refine (has_any _ _ _ _ _ HS2.out).mono ?_; rintro e w' ⟨he, rfl⟩; rw [HQ.out] at he; subst he)
        go_roundw
        case rel => exact ⟨v + 1, by omega, by go_num, HBR.out.trans (HB8.out.mono HBR.out.size)⟩
        case measure => simp [RowKit.intOf]; omega
    · obtain rfl : v = 10 := by omega
      go_wp2
      exact HKK.out _ _ _ _ _ _ _ _ _ _ _ _ _ _ _ _ _ _ _ _ _ _ _ _ _ _ _ _ _ _ _ _ _ _ _ _ _ _ _ _ _ _ _ _ _ _ _ _ _ _ _ _ _ _ _ _ _ _ _ _ _ _ _ _ _ _ _ _ _ _ _ _ _ _ _ _ _ _ _ _ _ _ _ _ _ _ _ _ _ _ _ _ _ _ _ _ _ _ _ _ _ _ _ _ _ _ _ _ _ _ _ _ hbr
end Go.Proofs.Ytknccacfhknnaaa
