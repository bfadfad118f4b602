/- Parts of the generator's programs: an array, a function's head, a function, each as a lemma of its own. Printed by wip/gen_trprg.py. -/
import Derived.Test.YtmignlclfbaifaaGreatTrGrow
import Derived.Test.YtmignlclfbaifaaGreatTrGst
import Derived.Test.YtmignlclfbaifaaGreatTrTwice
namespace Go.Proofs.YtmignlclfbaifaaGreat
open Go.RowKit

/-- the names of arrays, functions: by their number -/
def nmA (i : Nat) : ByteArray := ⟨#[97 + i.toUInt8]⟩
def nmF (i : Nat) : ByteArray := ⟨#[102 + i.toUInt8]⟩
def okSz (v : Int) : Prop := v = 1 ∨ v = 4 ∨ v = 10 ∨ v = 1000
theorem src_far2 {X : World} {sb g i j : Nat} {u v : Value} (h : SrcAt X sb) (hg : sb < g) : SrcAt ((X.setCell ⟨g, i, none⟩ u).setCell ⟨g, j, none⟩ v) sb :=
  (h.keep fun b hb => Below.heap_setCell X ⟨g, i, none⟩ u b (by show b ≠ g; omega)).keep fun b hb => Below.heap_setCell _ ⟨g, j, none⟩ v b (by show b ≠ g; omega)
theorem three_cell {X : World} {g : Nat} {T : TypeId} {a b c : Value} {r : Nat} {f : Nat → Value} (h : Blk X g T #[a, b, c]) (hr : r < 3) (ha : f 0 = a) (hb : f 1 = b) (hc : f 2 = c) : X.cell? ⟨g, r, none⟩ = some (f r) := by
  rcases (by omega : r = 0 ∨ r = 1 ∨ r = 2) with rfl | rfl | rfl
  · rw [ha]; exact h.cell 0
  · rw [hb]; exact h.cell 1
  · rw [hc]; exact h.cell 2
theorem four_cell {X : World} {g : Nat} {T : TypeId} {r : Nat} (h : Blk X g T #[.int .i64 1, .int .i64 4, .int .i64 10, .int .i64 1000]) (hr : r < 4) : ∃ v : Int, okSz v ∧ X.cell? ⟨g, r, none⟩ = some (.int .i64 v) := by
  rcases (by omega : r = 0 ∨ r = 1 ∨ r = 2 ∨ r = 3) with rfl | rfl | rfl | rfl
  · exact ⟨1, .inl rfl, h.cell 0⟩
  · exact ⟨4, .inr (.inl rfl), h.cell 1⟩
  · exact ⟨10, .inr (.inr (.inl rfl)), h.cell 2⟩
  · exact ⟨1000, .inr (.inr (.inr rfl)), h.cell 3⟩

set_option maxRecDepth 100000 in
set_option maxHeartbeats 8000000 in
theorem r9_any (cc : Code) (hc : (Tryz.f11.body.bind (regOf 9)) = some cc) (Y : World) {sb i : Nat} (hi : i < 3) (hsr : SrcAt Y sb)
    (Q : Exit → Act → World → Prop) (u0 u1 u2 u3 u4 u6 u7 u9 u10 u11 u12 u13 u14 u15 u16 u17 u18 u19 u20 u21 u22 u23 u24 u25 u26 u27 u28 u29 u30 u31 u32 u33 u34 u35 u36 u37 u38 u39 u40 u41 u42 u43 u44 u45 u46 u47 u48 u49 u50 u51 u52 u53 u54 u55 u56 u57 u58 u59 u60 u61 u62 u63 u64 u65 u66 u67 u68 u69 u70 u71 u72 u73 u74 u75 u76 u77 u78 u79 u80 u81 u82 u83 u84 u85 u86 u87 u88 u89 u90 u91 u92 u93 u94 u95 u96 u97 u98 u99 u100 u101 u102 u103 u104 u105 u106 u107 u108 u109 u110 u111 u112 u113 u114 u115 u116 u117 u118 u119 : Value)
    (hK : ∀ (x34 x35 x36 x37 x38 x39 x40 x41 x42 x43 : Value) (w' : World), ∀ (g : Nat) (v : Int), Y.grownBy w' (some sb) → SrcAt w' sb → Blk w' g 53 #[.string (nmA i), .int .i64 v] → Y.heap.size ≤ g → okSz v → Q .normal { tmps := #[u0, u1, u2, u3, u4, .pointer (some ⟨sb, 0, none⟩), u6, u7, .int .i64 (i : Int), .pointer (some ⟨g, 0, none⟩), u10, u11, u12, u13, u14, u15, u16, u17, u18, u19, u20, u21, u22, u23, u24, u25, u26, u27, u28, u29, u30, u31, u32, u33, x34, x35, x36, x37, x38, x39, x40, x41, x42, x43, u44, u45, u46, u47, u48, u49, u50, u51, u52, u53, u54, u55, u56, u57, u58, u59, u60, u61, u62, u63, u64, u65, u66, u67, u68, u69, u70, u71, u72, u73, u74, u75, u76, u77, u78, u79, u80, u81, u82, u83, u84, u85, u86, u87, u88, u89, u90, u91, u92, u93, u94, u95, u96, u97, u98, u99, u100, u101, u102, u103, u104, u105, u106, u107, u108, u109, u110, u111, u112, u113, u114, u115, u116, u117, u118, u119], defers := [] } w') : cc.wp Tryz.prog Q { tmps := #[u0, u1, u2, u3, u4, .pointer (some ⟨sb, 0, none⟩), u6, u7, .int .i64 (i : Int), u9, u10, u11, u12, u13, u14, u15, u16, u17, u18, u19, u20, u21, u22, u23, u24, u25, u26, u27, u28, u29, u30, u31, u32, u33, u34, u35, u36, u37, u38, u39, u40, u41, u42, u43, u44, u45, u46, u47, u48, u49, u50, u51, u52, u53, u54, u55, u56, u57, u58, u59, u60, u61, u62, u63, u64, u65, u66, u67, u68, u69, u70, u71, u72, u73, u74, u75, u76, u77, u78, u79, u80, u81, u82, u83, u84, u85, u86, u87, u88, u89, u90, u91, u92, u93, u94, u95, u96, u97, u98, u99, u100, u101, u102, u103, u104, u105, u106, u107, u108, u109, u110, u111, u112, u113, u114, u115, u116, u117, u118, u119], defers := [] } Y := by
  have HKK := Lib.hid hK
  have hcc : Tryz.f11.body.bind (regOf 9) = some cc := hc
  simp only [Tryz.f11, regOf, Nat.reduceEqDiff, Option.bind_some, ↓reduceIte, Option.none_or, Option.or_none, Option.some.injEq] at hcc
  subst hcc
  clear hc hK
  have HSRC := Lib.hid hsr
  have HI := Lib.hid hi
  have HN0 : Hid (sb < Y.heap.size) := Lib.hid hsr.lt
  clear hsr
  refine wp_region_I (by kernel_rfl) (fun (listed : Array Bool) (a : Act) (w2 : World) => ∃ x9 x34 x35 x36 x37 x38 x39 x40 x41 x42 x43 : Value, a = ⟨#[u0, u1, u2, u3, u4, .pointer (some ⟨sb, 0, none⟩), u6, u7, .int .i64 (i : Int), x9, u10, u11, u12, u13, u14, u15, u16, u17, u18, u19, u20, u21, u22, u23, u24, u25, u26, u27, u28, u29, u30, u31, u32, u33, x34, x35, x36, x37, x38, x39, x40, x41, x42, x43, u44, u45, u46, u47, u48, u49, u50, u51, u52, u53, u54, u55, u56, u57, u58, u59, u60, u61, u62, u63, u64, u65, u66, u67, u68, u69, u70, u71, u72, u73, u74, u75, u76, u77, u78, u79, u80, u81, u82, u83, u84, u85, u86, u87, u88, u89, u90, u91, u92, u93, u94, u95, u96, u97, u98, u99, u100, u101, u102, u103, u104, u105, u106, u107, u108, u109, u110, u111, u112, u113, u114, u115, u116, u117, u118, u119], []⟩ ∧ Y.grownBy w2 (some sb) ∧ SrcAt w2 sb ∧ (listed.getD 0 false = true → OwnBlk Y.heap.size w2 9 #[.string ⟨#[97]⟩, .string ⟨#[98]⟩, .string ⟨#[99]⟩] (fun g => .slice (some ⟨g, 0, none⟩) 3 3) x34) ∧ (listed.getD 1 false = true → x35 = .int .i64 (i : Int)) ∧ (listed.getD 2 false = true → OwnBlk Y.heap.size w2 9 #[.string ⟨#[97]⟩, .string ⟨#[98]⟩, .string ⟨#[99]⟩] (fun g => .pointer (some ⟨g, i, none⟩)) x36) ∧ (listed.getD 3 false = true → x37 = .string (nmA i)) ∧ (listed.getD 4 false = true → OwnBlk Y.heap.size w2 3 #[.int .i64 1, .int .i64 4, .int .i64 10, .int .i64 1000] (fun g => .slice (some ⟨g, 0, none⟩) 4 4) x38) ∧ (listed.getD 5 false = true → x39 = .pointer (some ⟨sb, 0, none⟩)) ∧ (listed.getD 6 false = true → ∃ k : Nat, k < 4 ∧ x40 = .int .i64 (k : Int)) ∧ (listed.getD 7 false = true → ∃ k : Nat, k < 4 ∧ OwnBlk Y.heap.size w2 3 #[.int .i64 1, .int .i64 4, .int .i64 10, .int .i64 1000] (fun g => .pointer (some ⟨g, k, none⟩)) x41) ∧ (listed.getD 8 false = true → ∃ v : Int, okSz v ∧ x42 = .int .i64 v) ∧ (listed.getD 9 false = true → ∃ v : Int, okSz v ∧ x43 = .agg #[.string (nmA i), .int .i64 v]) ∧ (listed.getD 10 false = true → listed.getD 11 false = false → OwnBlk Y.heap.size w2 53 #[.string ⟨#[]⟩, .int .i64 0] (fun g => .pointer (some ⟨g, 0, none⟩)) x9) ∧ (listed.getD 11 false = true → listed.getD 10 false = true ∧ ∃ v : Int, okSz v ∧ OwnBlk Y.heap.size w2 53 #[.string (nmA i), .int .i64 v] (fun g => .pointer (some ⟨g, 0, none⟩)) x9)) 12 rfl (by kernel_rfl) ?_ ?_ ?_
  · intro hno
    exact ⟨_, _, _, _, _, _, _, _, _, _, _, rfl, grown_below' (Below.refl _ _).drew, HSRC.out.below (Below.refl _ _).drew, fun h => (hno _ h).elim, fun h => (hno _ h).elim, fun h => (hno _ h).elim, fun h => (hno _ h).elim, fun h => (hno _ h).elim, fun h => (hno _ h).elim, fun h => (hno _ h).elim, fun h => (hno _ h).elim, fun h => (hno _ h).elim, fun h => (hno _ h).elim, fun h => (hno _ h).elim, fun h => (hno _ h).elim⟩
  · refine StepsI.cons [] rfl (by kernel_rfl) ?_ (StepsI.cons [] rfl (by kernel_rfl) ?_ (StepsI.cons [0, 1] rfl (by kernel_rfl) ?_ (StepsI.cons [2] rfl (by kernel_rfl) ?_ (StepsI.cons [] rfl (by kernel_rfl) ?_ (StepsI.cons [] rfl (by kernel_rfl) ?_ (StepsI.cons [5] rfl (by kernel_rfl) ?_ (StepsI.cons [4, 6] rfl (by kernel_rfl) ?_ (StepsI.cons [7] rfl (by kernel_rfl) ?_ (StepsI.cons [3, 8] rfl (by kernel_rfl) ?_ (StepsI.cons [] rfl (by kernel_rfl) ?_ (StepsI.cons [10, 9, 6, 0, 1, 2, 3, 4, 5, 6, 7, 8, 9, 10] rfl (by kernel_rfl) ?_ StepsI.nil)))))))))))
    · intro listed a w2 hI hd hself hun K hK
      obtain ⟨x9, x34, x35, x36, x37, x38, x39, x40, x41, x42, x43, rfl, hg, hsr, o0, o1, o2, o3, o4, o5, o6, o7, o8, o9, o10, o11⟩ := hI
      have HGG := Lib.hid hg; have HSR := Lib.hid hsr; clear hg hsr
      have O0 := Lib.hid o0
      have O1 := Lib.hid o1
      have O2 := Lib.hid o2
      have O3 := Lib.hid o3
      have O4 := Lib.hid o4
      have O5 := Lib.hid o5
      have O6 := Lib.hid o6
      have O7 := Lib.hid o7
      have O8 := Lib.hid o8
      have O9 := Lib.hid o9
      have O10 := Lib.hid o10
      have O11 := Lib.hid o11
      clear o0 o1 o2 o3 o4 o5 o6 o7 o8 o9 o10 o11
      have HD := Lib.hid hd; have HUN := Lib.hid hun; clear hd hself hun
      go_simp
      have HGN : Hid (w2.grownBy (w2.alloc (.cells #[.string ⟨#[97]⟩, .string ⟨#[98]⟩, .string ⟨#[99]⟩] 9)) (some sb)) := Lib.hid (World.grownBy_alloc _ _ _)
      refine hK.out _ _ (fun hk => ⟨_, _, _, _, _, _, _, _, _, _, _, rfl, HGG.out.trans HGN.out, HSR.out.below (below1 _ _), fun _ => ⟨w2.heap.size, rfl, Blk.new _ _ _, HGG.out.size⟩, fun h => O1.out ((hk _ h).resolve_left (by decide)), fun h => OwnBlk.grown (O2.out ((hk _ h).resolve_left (by decide))) HGN.out HN0.out, fun h => O3.out ((hk _ h).resolve_left (by decide)), fun h => OwnBlk.grown (O4.out ((hk _ h).resolve_left (by decide))) HGN.out HN0.out, fun h => O5.out ((hk _ h).resolve_left (by decide)), fun h => O6.out ((hk _ h).resolve_left (by decide)), fun h => (have q := (O7.out ((hk _ h).resolve_left (by decide))); q.imp fun k hk2 => ⟨hk2.1, hk2.2.grown HGN.out HN0.out⟩), fun h => O8.out ((hk _ h).resolve_left (by decide)), fun h => O9.out ((hk _ h).resolve_left (by decide)), fun h h9 => OwnBlk.grown (O10.out ((hk _ h).resolve_left (by decide)) (by rwa [getD_set_ne false (by decide)] at h9)) HGN.out HN0.out, fun h => (have q := (O11.out ((hk _ h).resolve_left (by decide))); ⟨getD_set_true q.1, q.2.imp fun k hk2 => ⟨hk2.1, (fun z => z.grown HGN.out HN0.out) hk2.2⟩⟩)⟩)
    · intro listed a w2 hI hd hself hun K hK
      obtain ⟨x9, x34, x35, x36, x37, x38, x39, x40, x41, x42, x43, rfl, hg, hsr, o0, o1, o2, o3, o4, o5, o6, o7, o8, o9, o10, o11⟩ := hI
      have HGG := Lib.hid hg; have HSR := Lib.hid hsr; clear hg hsr
      have O0 := Lib.hid o0
      have O1 := Lib.hid o1
      have O2 := Lib.hid o2
      have O3 := Lib.hid o3
      have O4 := Lib.hid o4
      have O5 := Lib.hid o5
      have O6 := Lib.hid o6
      have O7 := Lib.hid o7
      have O8 := Lib.hid o8
      have O9 := Lib.hid o9
      have O10 := Lib.hid o10
      have O11 := Lib.hid o11
      clear o0 o1 o2 o3 o4 o5 o6 o7 o8 o9 o10 o11
      have HD := Lib.hid hd; have HUN := Lib.hid hun; clear hd hself hun
      go_simp
      refine hK.out _ _ (fun hk => ⟨_, _, _, _, _, _, _, _, _, _, _, rfl, HGG.out, HSR.out, fun h => O0.out ((hk _ h).resolve_left (by decide)), fun _ => rfl, fun h => O2.out ((hk _ h).resolve_left (by decide)), fun h => O3.out ((hk _ h).resolve_left (by decide)), fun h => O4.out ((hk _ h).resolve_left (by decide)), fun h => O5.out ((hk _ h).resolve_left (by decide)), fun h => O6.out ((hk _ h).resolve_left (by decide)), fun h => O7.out ((hk _ h).resolve_left (by decide)), fun h => O8.out ((hk _ h).resolve_left (by decide)), fun h => O9.out ((hk _ h).resolve_left (by decide)), fun h h9 => O10.out ((hk _ h).resolve_left (by decide)) (by rwa [getD_set_ne false (by decide)] at h9), fun h => (have q := (O11.out ((hk _ h).resolve_left (by decide))); ⟨getD_set_true q.1, q.2.imp fun k hk2 => ⟨hk2.1, (fun z => z) hk2.2⟩⟩)⟩)
    · intro listed a w2 hI hd hself hun K hK
      obtain ⟨x9, x34, x35, x36, x37, x38, x39, x40, x41, x42, x43, rfl, hg, hsr, o0, o1, o2, o3, o4, o5, o6, o7, o8, o9, o10, o11⟩ := hI
      obtain ⟨g, hx, hb, hn⟩ := o0 (hd 0 (by simp))
      have hy := o1 (hd 1 (by simp))
      subst hx hy
      have HB := Lib.hid (And.intro hb hn)
      clear hb hn
      have hi1 : (i : Int) < 3 := by omega
      have hi2 : ¬ (i : Int) < 0 := by omega
      have HGG := Lib.hid hg; have HSR := Lib.hid hsr; clear hg hsr
      have O0 := Lib.hid o0
      have O1 := Lib.hid o1
      have O2 := Lib.hid o2
      have O3 := Lib.hid o3
      have O4 := Lib.hid o4
      have O5 := Lib.hid o5
      have O6 := Lib.hid o6
      have O7 := Lib.hid o7
      have O8 := Lib.hid o8
      have O9 := Lib.hid o9
      have O10 := Lib.hid o10
      have O11 := Lib.hid o11
      clear o0 o1 o2 o3 o4 o5 o6 o7 o8 o9 o10 o11
      have HD := Lib.hid hd; have HUN := Lib.hid hun; clear hd hself hun
      go_simp
      refine hK.out _ _ (fun hk => ⟨_, _, _, _, _, _, _, _, _, _, _, rfl, HGG.out, HSR.out, fun h => O0.out ((hk _ h).resolve_left (by decide)), fun h => O1.out ((hk _ h).resolve_left (by decide)), fun _ => ⟨g, rfl, HB.out.1, HB.out.2⟩, fun h => O3.out ((hk _ h).resolve_left (by decide)), fun h => O4.out ((hk _ h).resolve_left (by decide)), fun h => O5.out ((hk _ h).resolve_left (by decide)), fun h => O6.out ((hk _ h).resolve_left (by decide)), fun h => O7.out ((hk _ h).resolve_left (by decide)), fun h => O8.out ((hk _ h).resolve_left (by decide)), fun h => O9.out ((hk _ h).resolve_left (by decide)), fun h h9 => O10.out ((hk _ h).resolve_left (by decide)) (by rwa [getD_set_ne false (by decide)] at h9), fun h => (have q := (O11.out ((hk _ h).resolve_left (by decide))); ⟨getD_set_true q.1, q.2.imp fun k hk2 => ⟨hk2.1, (fun z => z) hk2.2⟩⟩)⟩)
    · intro listed a w2 hI hd hself hun K hK
      obtain ⟨x9, x34, x35, x36, x37, x38, x39, x40, x41, x42, x43, rfl, hg, hsr, o0, o1, o2, o3, o4, o5, o6, o7, o8, o9, o10, o11⟩ := hI
      obtain ⟨g, hx, hb, hn⟩ := o2 (hd 2 (by simp))
      subst hx
      have hcl := three_cell (f := fun q => .string (nmA q)) hb hi rfl rfl rfl
      clear hb hn
      have HGG := Lib.hid hg; have HSR := Lib.hid hsr; clear hg hsr
      have O0 := Lib.hid o0
      have O1 := Lib.hid o1
      have O2 := Lib.hid o2
      have O3 := Lib.hid o3
      have O4 := Lib.hid o4
      have O5 := Lib.hid o5
      have O6 := Lib.hid o6
      have O7 := Lib.hid o7
      have O8 := Lib.hid o8
      have O9 := Lib.hid o9
      have O10 := Lib.hid o10
      have O11 := Lib.hid o11
      clear o0 o1 o2 o3 o4 o5 o6 o7 o8 o9 o10 o11
      have HD := Lib.hid hd; have HUN := Lib.hid hun; clear hd hself hun
      go_simp
      refine hK.out _ _ (fun hk => ⟨_, _, _, _, _, _, _, _, _, _, _, rfl, HGG.out, HSR.out, fun h => O0.out ((hk _ h).resolve_left (by decide)), fun h => O1.out ((hk _ h).resolve_left (by decide)), fun h => O2.out ((hk _ h).resolve_left (by decide)), fun _ => rfl, fun h => O4.out ((hk _ h).resolve_left (by decide)), fun h => O5.out ((hk _ h).resolve_left (by decide)), fun h => O6.out ((hk _ h).resolve_left (by decide)), fun h => O7.out ((hk _ h).resolve_left (by decide)), fun h => O8.out ((hk _ h).resolve_left (by decide)), fun h => O9.out ((hk _ h).resolve_left (by decide)), fun h h9 => O10.out ((hk _ h).resolve_left (by decide)) (by rwa [getD_set_ne false (by decide)] at h9), fun h => (have q := (O11.out ((hk _ h).resolve_left (by decide))); ⟨getD_set_true q.1, q.2.imp fun k hk2 => ⟨hk2.1, (fun z => z) hk2.2⟩⟩)⟩)
    · intro listed a w2 hI hd hself hun K hK
      obtain ⟨x9, x34, x35, x36, x37, x38, x39, x40, x41, x42, x43, rfl, hg, hsr, o0, o1, o2, o3, o4, o5, o6, o7, o8, o9, o10, o11⟩ := hI
      have HGG := Lib.hid hg; have HSR := Lib.hid hsr; clear hg hsr
      have O0 := Lib.hid o0
      have O1 := Lib.hid o1
      have O2 := Lib.hid o2
      have O3 := Lib.hid o3
      have O4 := Lib.hid o4
      have O5 := Lib.hid o5
      have O6 := Lib.hid o6
      have O7 := Lib.hid o7
      have O8 := Lib.hid o8
      have O9 := Lib.hid o9
      have O10 := Lib.hid o10
      have O11 := Lib.hid o11
      clear o0 o1 o2 o3 o4 o5 o6 o7 o8 o9 o10 o11
      have HD := Lib.hid hd; have HUN := Lib.hid hun; clear hd hself hun
      go_simp
      have HGN : Hid (w2.grownBy (w2.alloc (.cells #[.int .i64 1, .int .i64 4, .int .i64 10, .int .i64 1000] 3)) (some sb)) := Lib.hid (World.grownBy_alloc _ _ _)
      refine hK.out _ _ (fun hk => ⟨_, _, _, _, _, _, _, _, _, _, _, rfl, HGG.out.trans HGN.out, HSR.out.below (below1 _ _), fun h => OwnBlk.grown (O0.out ((hk _ h).resolve_left (by decide))) HGN.out HN0.out, fun h => O1.out ((hk _ h).resolve_left (by decide)), fun h => OwnBlk.grown (O2.out ((hk _ h).resolve_left (by decide))) HGN.out HN0.out, fun h => O3.out ((hk _ h).resolve_left (by decide)), fun _ => ⟨w2.heap.size, rfl, Blk.new _ _ _, HGG.out.size⟩, fun h => O5.out ((hk _ h).resolve_left (by decide)), fun h => O6.out ((hk _ h).resolve_left (by decide)), fun h => (have q := (O7.out ((hk _ h).resolve_left (by decide))); q.imp fun k hk2 => ⟨hk2.1, hk2.2.grown HGN.out HN0.out⟩), fun h => O8.out ((hk _ h).resolve_left (by decide)), fun h => O9.out ((hk _ h).resolve_left (by decide)), fun h h9 => OwnBlk.grown (O10.out ((hk _ h).resolve_left (by decide)) (by rwa [getD_set_ne false (by decide)] at h9)) HGN.out HN0.out, fun h => (have q := (O11.out ((hk _ h).resolve_left (by decide))); ⟨getD_set_true q.1, q.2.imp fun k hk2 => ⟨hk2.1, (fun z => z.grown HGN.out HN0.out) hk2.2⟩⟩)⟩)
    · intro listed a w2 hI hd hself hun K hK
      obtain ⟨x9, x34, x35, x36, x37, x38, x39, x40, x41, x42, x43, rfl, hg, hsr, o0, o1, o2, o3, o4, o5, o6, o7, o8, o9, o10, o11⟩ := hI
      have HGG := Lib.hid hg; have HSR := Lib.hid hsr; clear hg hsr
      have O0 := Lib.hid o0
      have O1 := Lib.hid o1
      have O2 := Lib.hid o2
      have O3 := Lib.hid o3
      have O4 := Lib.hid o4
      have O5 := Lib.hid o5
      have O6 := Lib.hid o6
      have O7 := Lib.hid o7
      have O8 := Lib.hid o8
      have O9 := Lib.hid o9
      have O10 := Lib.hid o10
      have O11 := Lib.hid o11
      clear o0 o1 o2 o3 o4 o5 o6 o7 o8 o9 o10 o11
      have HD := Lib.hid hd; have HUN := Lib.hid hun; clear hd hself hun
      go_simp
      refine hK.out _ _ (fun hk => ⟨_, _, _, _, _, _, _, _, _, _, _, rfl, HGG.out, HSR.out, fun h => O0.out ((hk _ h).resolve_left (by decide)), fun h => O1.out ((hk _ h).resolve_left (by decide)), fun h => O2.out ((hk _ h).resolve_left (by decide)), fun h => O3.out ((hk _ h).resolve_left (by decide)), fun h => O4.out ((hk _ h).resolve_left (by decide)), fun _ => rfl, fun h => O6.out ((hk _ h).resolve_left (by decide)), fun h => O7.out ((hk _ h).resolve_left (by decide)), fun h => O8.out ((hk _ h).resolve_left (by decide)), fun h => O9.out ((hk _ h).resolve_left (by decide)), fun h h9 => O10.out ((hk _ h).resolve_left (by decide)) (by rwa [getD_set_ne false (by decide)] at h9), fun h => (have q := (O11.out ((hk _ h).resolve_left (by decide))); ⟨getD_set_true q.1, q.2.imp fun k hk2 => ⟨hk2.1, (fun z => z) hk2.2⟩⟩)⟩)
    · intro listed a w2 hI hd hself hun K hK
      obtain ⟨x9, x34, x35, x36, x37, x38, x39, x40, x41, x42, x43, rfl, hg, hsr, o0, o1, o2, o3, o4, o5, o6, o7, o8, o9, o10, o11⟩ := hI
      have hx := o5 (hd 5 (by simp))
      subst hx
      have HGG := Lib.hid hg; have HSR := Lib.hid hsr; clear hg hsr
      have O0 := Lib.hid o0
      have O1 := Lib.hid o1
      have O2 := Lib.hid o2
      have O3 := Lib.hid o3
      have O4 := Lib.hid o4
      have O5 := Lib.hid o5
      have O6 := Lib.hid o6
      have O7 := Lib.hid o7
      have O8 := Lib.hid o8
      have O9 := Lib.hid o9
      have O10 := Lib.hid o10
      have O11 := Lib.hid o11
      clear o0 o1 o2 o3 o4 o5 o6 o7 o8 o9 o10 o11
      have HD := Lib.hid hd; have HUN := Lib.hid hun; clear hd hself hun
      go_simp
      refine (next_any w2 sb 4 (by omega) HSR.out).mono ?_
      rintro e w3 ⟨⟨q, hq, rfl⟩, hs3, hg3⟩
      have HS3 := Lib.hid hs3
      have HG3 := Lib.hid hg3
      clear hs3 hg3
      have HGN : Hid (w2.grownBy w3 (some sb)) := Lib.hid (HG3.out)
      refine hK.out _ _ (fun hk => ⟨_, _, _, _, _, _, _, _, _, _, _, rfl, HGG.out.trans HGN.out, HS3.out, fun h => OwnBlk.grown (O0.out ((hk _ h).resolve_left (by decide))) HGN.out HN0.out, fun h => O1.out ((hk _ h).resolve_left (by decide)), fun h => OwnBlk.grown (O2.out ((hk _ h).resolve_left (by decide))) HGN.out HN0.out, fun h => O3.out ((hk _ h).resolve_left (by decide)), fun h => OwnBlk.grown (O4.out ((hk _ h).resolve_left (by decide))) HGN.out HN0.out, fun h => O5.out ((hk _ h).resolve_left (by decide)), fun _ => ⟨q, hq, rfl⟩, fun h => (have q := (O7.out ((hk _ h).resolve_left (by decide))); q.imp fun k hk2 => ⟨hk2.1, hk2.2.grown HGN.out HN0.out⟩), fun h => O8.out ((hk _ h).resolve_left (by decide)), fun h => O9.out ((hk _ h).resolve_left (by decide)), fun h h9 => OwnBlk.grown (O10.out ((hk _ h).resolve_left (by decide)) (by rwa [getD_set_ne false (by decide)] at h9)) HGN.out HN0.out, fun h => (have q := (O11.out ((hk _ h).resolve_left (by decide))); ⟨getD_set_true q.1, q.2.imp fun k hk2 => ⟨hk2.1, (fun z => z.grown HGN.out HN0.out) hk2.2⟩⟩)⟩)
    · intro listed a w2 hI hd hself hun K hK
      obtain ⟨x9, x34, x35, x36, x37, x38, x39, x40, x41, x42, x43, rfl, hg, hsr, o0, o1, o2, o3, o4, o5, o6, o7, o8, o9, o10, o11⟩ := hI
      obtain ⟨g, hx, hb, hn⟩ := o4 (hd 4 (by simp))
      obtain ⟨q, hq, hy⟩ := o6 (hd 6 (by simp))
      subst hx hy
      have HB := Lib.hid (And.intro hb hn)
      clear hb hn
      have hi1 : (q : Int) < 4 := by omega
      have hi2 : ¬ (q : Int) < 0 := by omega
      have HGG := Lib.hid hg; have HSR := Lib.hid hsr; clear hg hsr
      have O0 := Lib.hid o0
      have O1 := Lib.hid o1
      have O2 := Lib.hid o2
      have O3 := Lib.hid o3
      have O4 := Lib.hid o4
      have O5 := Lib.hid o5
      have O6 := Lib.hid o6
      have O7 := Lib.hid o7
      have O8 := Lib.hid o8
      have O9 := Lib.hid o9
      have O10 := Lib.hid o10
      have O11 := Lib.hid o11
      clear o0 o1 o2 o3 o4 o5 o6 o7 o8 o9 o10 o11
      have HD := Lib.hid hd; have HUN := Lib.hid hun; clear hd hself hun
      go_simp
      refine hK.out _ _ (fun hk => ⟨_, _, _, _, _, _, _, _, _, _, _, rfl, HGG.out, HSR.out, fun h => O0.out ((hk _ h).resolve_left (by decide)), fun h => O1.out ((hk _ h).resolve_left (by decide)), fun h => O2.out ((hk _ h).resolve_left (by decide)), fun h => O3.out ((hk _ h).resolve_left (by decide)), fun h => O4.out ((hk _ h).resolve_left (by decide)), fun h => O5.out ((hk _ h).resolve_left (by decide)), fun h => O6.out ((hk _ h).resolve_left (by decide)), fun _ => ⟨q, hq, g, rfl, HB.out.1, HB.out.2⟩, fun h => O8.out ((hk _ h).resolve_left (by decide)), fun h => O9.out ((hk _ h).resolve_left (by decide)), fun h h9 => O10.out ((hk _ h).resolve_left (by decide)) (by rwa [getD_set_ne false (by decide)] at h9), fun h => (have q := (O11.out ((hk _ h).resolve_left (by decide))); ⟨getD_set_true q.1, q.2.imp fun k hk2 => ⟨hk2.1, (fun z => z) hk2.2⟩⟩)⟩)
    · intro listed a w2 hI hd hself hun K hK
      obtain ⟨x9, x34, x35, x36, x37, x38, x39, x40, x41, x42, x43, rfl, hg, hsr, o0, o1, o2, o3, o4, o5, o6, o7, o8, o9, o10, o11⟩ := hI
      obtain ⟨q, hq, g, hx, hb, hn⟩ := o7 (hd 7 (by simp))
      subst hx
      obtain ⟨v, hv, hcl⟩ := four_cell hb hq
      have HV := Lib.hid hv
      clear hb hn hv
      have HGG := Lib.hid hg; have HSR := Lib.hid hsr; clear hg hsr
      have O0 := Lib.hid o0
      have O1 := Lib.hid o1
      have O2 := Lib.hid o2
      have O3 := Lib.hid o3
      have O4 := Lib.hid o4
      have O5 := Lib.hid o5
      have O6 := Lib.hid o6
      have O7 := Lib.hid o7
      have O8 := Lib.hid o8
      have O9 := Lib.hid o9
      have O10 := Lib.hid o10
      have O11 := Lib.hid o11
      clear o0 o1 o2 o3 o4 o5 o6 o7 o8 o9 o10 o11
      have HD := Lib.hid hd; have HUN := Lib.hid hun; clear hd hself hun
      go_simp
      refine hK.out _ _ (fun hk => ⟨_, _, _, _, _, _, _, _, _, _, _, rfl, HGG.out, HSR.out, fun h => O0.out ((hk _ h).resolve_left (by decide)), fun h => O1.out ((hk _ h).resolve_left (by decide)), fun h => O2.out ((hk _ h).resolve_left (by decide)), fun h => O3.out ((hk _ h).resolve_left (by decide)), fun h => O4.out ((hk _ h).resolve_left (by decide)), fun h => O5.out ((hk _ h).resolve_left (by decide)), fun h => O6.out ((hk _ h).resolve_left (by decide)), fun h => O7.out ((hk _ h).resolve_left (by decide)), fun _ => ⟨v, HV.out, rfl⟩, fun h => O9.out ((hk _ h).resolve_left (by decide)), fun h h9 => O10.out ((hk _ h).resolve_left (by decide)) (by rwa [getD_set_ne false (by decide)] at h9), fun h => (have q := (O11.out ((hk _ h).resolve_left (by decide))); ⟨getD_set_true q.1, q.2.imp fun k hk2 => ⟨hk2.1, (fun z => z) hk2.2⟩⟩)⟩)
    · intro listed a w2 hI hd hself hun K hK
      obtain ⟨x9, x34, x35, x36, x37, x38, x39, x40, x41, x42, x43, rfl, hg, hsr, o0, o1, o2, o3, o4, o5, o6, o7, o8, o9, o10, o11⟩ := hI
      have hx := o3 (hd 3 (by simp))
      obtain ⟨v, hv, hy⟩ := o8 (hd 8 (by simp))
      subst hx hy
      have HV := Lib.hid hv
      clear hv
      have HGG := Lib.hid hg; have HSR := Lib.hid hsr; clear hg hsr
      have O0 := Lib.hid o0
      have O1 := Lib.hid o1
      have O2 := Lib.hid o2
      have O3 := Lib.hid o3
      have O4 := Lib.hid o4
      have O5 := Lib.hid o5
      have O6 := Lib.hid o6
      have O7 := Lib.hid o7
      have O8 := Lib.hid o8
      have O9 := Lib.hid o9
      have O10 := Lib.hid o10
      have O11 := Lib.hid o11
      clear o0 o1 o2 o3 o4 o5 o6 o7 o8 o9 o10 o11
      have HD := Lib.hid hd; have HUN := Lib.hid hun; clear hd hself hun
      go_simp
      refine hK.out _ _ (fun hk => ⟨_, _, _, _, _, _, _, _, _, _, _, rfl, HGG.out, HSR.out, fun h => O0.out ((hk _ h).resolve_left (by decide)), fun h => O1.out ((hk _ h).resolve_left (by decide)), fun h => O2.out ((hk _ h).resolve_left (by decide)), fun h => O3.out ((hk _ h).resolve_left (by decide)), fun h => O4.out ((hk _ h).resolve_left (by decide)), fun h => O5.out ((hk _ h).resolve_left (by decide)), fun h => O6.out ((hk _ h).resolve_left (by decide)), fun h => O7.out ((hk _ h).resolve_left (by decide)), fun h => O8.out ((hk _ h).resolve_left (by decide)), fun _ => ⟨v, HV.out, rfl⟩, fun h h9 => O10.out ((hk _ h).resolve_left (by decide)) (by rwa [getD_set_ne false (by decide)] at h9), fun h => (have q := (O11.out ((hk _ h).resolve_left (by decide))); ⟨getD_set_true q.1, q.2.imp fun k hk2 => ⟨hk2.1, (fun z => z) hk2.2⟩⟩)⟩)
    · intro listed a w2 hI hd hself hun K hK
      obtain ⟨x9, x34, x35, x36, x37, x38, x39, x40, x41, x42, x43, rfl, hg, hsr, o0, o1, o2, o3, o4, o5, o6, o7, o8, o9, o10, o11⟩ := hI
      have HGG := Lib.hid hg; have HSR := Lib.hid hsr; clear hg hsr
      have O0 := Lib.hid o0
      have O1 := Lib.hid o1
      have O2 := Lib.hid o2
      have O3 := Lib.hid o3
      have O4 := Lib.hid o4
      have O5 := Lib.hid o5
      have O6 := Lib.hid o6
      have O7 := Lib.hid o7
      have O8 := Lib.hid o8
      have O9 := Lib.hid o9
      have O10 := Lib.hid o10
      have O11 := Lib.hid o11
      clear o0 o1 o2 o3 o4 o5 o6 o7 o8 o9 o10 o11
      have HD := Lib.hid hd; have HUN := Lib.hid hun; clear hd hself hun
      go_simp
      have HGN : Hid (w2.grownBy (w2.alloc (.cells #[.string ⟨#[]⟩, .int .i64 0] 53)) (some sb)) := Lib.hid (World.grownBy_alloc _ _ _)
      refine hK.out _ _ (fun hk => ⟨_, _, _, _, _, _, _, _, _, _, _, rfl, HGG.out.trans HGN.out, HSR.out.below (below1 _ _), fun h => OwnBlk.grown (O0.out ((hk _ h).resolve_left (by decide))) HGN.out HN0.out, fun h => O1.out ((hk _ h).resolve_left (by decide)), fun h => OwnBlk.grown (O2.out ((hk _ h).resolve_left (by decide))) HGN.out HN0.out, fun h => O3.out ((hk _ h).resolve_left (by decide)), fun h => OwnBlk.grown (O4.out ((hk _ h).resolve_left (by decide))) HGN.out HN0.out, fun h => O5.out ((hk _ h).resolve_left (by decide)), fun h => O6.out ((hk _ h).resolve_left (by decide)), fun h => (have q := (O7.out ((hk _ h).resolve_left (by decide))); q.imp fun k hk2 => ⟨hk2.1, hk2.2.grown HGN.out HN0.out⟩), fun h => O8.out ((hk _ h).resolve_left (by decide)), fun h => O9.out ((hk _ h).resolve_left (by decide)), fun _ => fun _ => ⟨w2.heap.size, rfl, Blk.new _ _ _, HGG.out.size⟩, fun h => absurd (O11.out ((hk _ h).resolve_left (by decide))).1 (by rw [HUN.out]; decide)⟩)
    · intro listed a w2 hI hd hself hun K hK
      obtain ⟨x9, x34, x35, x36, x37, x38, x39, x40, x41, x42, x43, rfl, hg, hsr, o0, o1, o2, o3, o4, o5, o6, o7, o8, o9, o10, o11⟩ := hI
      obtain ⟨v, hv, hy⟩ := o9 (hd 9 (by simp))
      obtain ⟨g, hx, hb, hn⟩ := o10 (hd 10 (by simp)) hun
      subst hx hy
      have c0 := hb.cell 0; have c1 := hb.cell 1; have z0 := hb.frozen 0; have z1 := hb.frozen 1
      have HB := Lib.hid (And.intro hb hn)
      have HV := Lib.hid hv
      clear hb hn hv
      have HGG := Lib.hid hg; have HSR := Lib.hid hsr; clear hg hsr
      have O0 := Lib.hid o0
      have O1 := Lib.hid o1
      have O2 := Lib.hid o2
      have O3 := Lib.hid o3
      have O4 := Lib.hid o4
      have O5 := Lib.hid o5
      have O6 := Lib.hid o6
      have O7 := Lib.hid o7
      have O8 := Lib.hid o8
      have O9 := Lib.hid o9
      have O10 := Lib.hid o10
      have O11 := Lib.hid o11
      clear o0 o1 o2 o3 o4 o5 o6 o7 o8 o9 o10 o11
      have hk0 : Hid ((listed.setIfInBounds 11 true).getD 11 false = true) := Lib.hid hself
      have HD := Lib.hid hd; have HUN := Lib.hid hun; clear hd hself hun
      go_simp
      refine hK.out _ _ (fun hk => ⟨_, _, _, _, _, _, _, _, _, _, _, rfl, grown_own (grown_own HGG.out g HB.out.2 0 _) g HB.out.2 1 _, src_far2 HSR.out (Nat.lt_of_lt_of_le HN0.out HB.out.2), fun h => OwnBlk.far2 (O0.out ((hk _ h).resolve_left (by decide))) HB.out.1 (by decide) 0 1 _ _, fun h => O1.out ((hk _ h).resolve_left (by decide)), fun h => OwnBlk.far2 (O2.out ((hk _ h).resolve_left (by decide))) HB.out.1 (by decide) 0 1 _ _, fun h => O3.out ((hk _ h).resolve_left (by decide)), fun h => OwnBlk.far2 (O4.out ((hk _ h).resolve_left (by decide))) HB.out.1 (by decide) 0 1 _ _, fun h => O5.out ((hk _ h).resolve_left (by decide)), fun h => O6.out ((hk _ h).resolve_left (by decide)), fun h => (have q := O7.out ((hk _ h).resolve_left (by decide)); q.imp fun k hk2 => ⟨hk2.1, hk2.2.far2 HB.out.1 (by decide) 0 1 _ _⟩), fun h => O8.out ((hk _ h).resolve_left (by decide)), fun h => O9.out ((hk _ h).resolve_left (by decide)), fun _ h9 => absurd h9 (by rw [hk0.out]; decide), fun _ => ⟨getD_set_true (HD.out 10 (by simp)), v, HV.out, g, rfl, (HB.out.1.set_ 0 _).set_ 1 _, HB.out.2⟩⟩)
  · intro listed a w2 hI hall
    obtain ⟨x9, x34, x35, x36, x37, x38, x39, x40, x41, x42, x43, rfl, hg, hsr, o0, o1, o2, o3, o4, o5, o6, o7, o8, o9, o10, o11⟩ := hI
    obtain ⟨_, v, hv, g, hx, hb, hn⟩ := o11 (hall 11 (by omega))
    subst hx
    exact HKK.out _ _ _ _ _ _ _ _ _ _ _ g v hg hsr hb hn hv
/-- a function's head in a box of its own, its params in another one -/
def HeadAt (n0 : Nat) (w : World) (i k : Nat) (x : Value) : Prop := ∃ g g2 : Nat, x = .pointer (some ⟨g, 0, none⟩) ∧ Blk w g 49 #[.string (nmF i), .slice (some ⟨g2, 0, none⟩) k 6, .slice none 0 0, .slice none 0 0] ∧ n0 ≤ g ∧ Blk w g2 9 #[.string ⟨#[112]⟩, .string ⟨#[113]⟩, .string ⟨#[114]⟩, .string ⟨#[115]⟩, .string ⟨#[116]⟩, .string ⟨#[117]⟩] ∧ n0 ≤ g2
theorem HeadAt.grown {n0 sb : Nat} {w w' : World} {i k : Nat} {x : Value} (h : HeadAt n0 w i k x) (hg : w.grownBy w' (some sb)) (hs : sb < n0) : HeadAt n0 w' i k x := by
  obtain ⟨g, g2, hx, hb, hn, hb2, hn2⟩ := h
  exact ⟨g, g2, hx, hb.grown hg (fun e => by have := Option.some.inj e; omega), hn, hb2.grown hg (fun e => by have := Option.some.inj e; omega), hn2⟩
set_option maxRecDepth 100000 in
set_option maxHeartbeats 8000000 in
theorem r18_any (cc : Code) (hc : (Tryz.f11.body.bind (regOf 18)) = some cc) (Y : World) {sb i : Nat} (hi : i < 3) (hsr : SrcAt Y sb)
    (Q : Exit → Act → World → Prop) (u0 u1 u2 u3 u4 u6 u7 u8 u9 u11 u12 u13 u14 u15 u16 u17 u18 u19 u20 u21 u22 u23 u24 u25 u26 u27 u28 u29 u30 u31 u32 u33 u34 u35 u36 u37 u38 u39 u40 u41 u42 u43 u44 u45 u46 u47 u48 u49 u50 u51 u52 u53 u54 u55 u56 u57 u58 u59 u60 u61 u62 u63 u64 u65 u66 u67 u68 u69 u70 u71 u72 u73 u74 u75 u76 u77 u78 u79 u80 u81 u82 u83 u84 u85 u86 u87 u88 u89 u90 u91 u92 u93 u94 u95 u96 u97 u98 u99 u100 u101 u102 u103 u104 u105 u106 u107 u108 u109 u110 u111 u112 u113 u114 u115 u116 u117 u118 u119 : Value)
    (hK : ∀ (x11 x69 x70 x71 x72 x73 x74 x75 x76 x77 : Value) (w' : World), (∃ k : Nat, k < 7 ∧ HeadAt Y.heap.size w' i k x11) → Y.grownBy w' (some sb) → SrcAt w' sb → Q .normal { tmps := #[u0, u1, u2, u3, u4, .pointer (some ⟨sb, 0, none⟩), u6, u7, u8, u9, .int .i64 (i : Int), x11, u12, u13, u14, u15, u16, u17, u18, u19, u20, u21, u22, u23, u24, u25, u26, u27, u28, u29, u30, u31, u32, u33, u34, u35, u36, u37, u38, u39, u40, u41, u42, u43, u44, u45, u46, u47, u48, u49, u50, u51, u52, u53, u54, u55, u56, u57, u58, u59, u60, u61, u62, u63, u64, u65, u66, u67, u68, x69, x70, x71, x72, x73, x74, x75, x76, x77, u78, u79, u80, u81, u82, u83, u84, u85, u86, u87, u88, u89, u90, u91, u92, u93, u94, u95, u96, u97, u98, u99, u100, u101, u102, u103, u104, u105, u106, u107, u108, u109, u110, u111, u112, u113, u114, u115, u116, u117, u118, u119], defers := [] } w') : cc.wp Tryz.prog Q { tmps := #[u0, u1, u2, u3, u4, .pointer (some ⟨sb, 0, none⟩), u6, u7, u8, u9, .int .i64 (i : Int), u11, u12, u13, u14, u15, u16, u17, u18, u19, u20, u21, u22, u23, u24, u25, u26, u27, u28, u29, u30, u31, u32, u33, u34, u35, u36, u37, u38, u39, u40, u41, u42, u43, u44, u45, u46, u47, u48, u49, u50, u51, u52, u53, u54, u55, u56, u57, u58, u59, u60, u61, u62, u63, u64, u65, u66, u67, u68, u69, u70, u71, u72, u73, u74, u75, u76, u77, u78, u79, u80, u81, u82, u83, u84, u85, u86, u87, u88, u89, u90, u91, u92, u93, u94, u95, u96, u97, u98, u99, u100, u101, u102, u103, u104, u105, u106, u107, u108, u109, u110, u111, u112, u113, u114, u115, u116, u117, u118, u119], defers := [] } Y := by
  have HKK := Lib.hid hK
  have hcc : Tryz.f11.body.bind (regOf 18) = some cc := hc
  simp only [Tryz.f11, regOf, Nat.reduceEqDiff, Option.bind_some, ↓reduceIte, Option.none_or, Option.or_none, Option.some.injEq] at hcc
  subst hcc
  clear hc hK
  have HSRC := Lib.hid hsr
  have HI := Lib.hid hi
  have HN0 : Hid (sb < Y.heap.size) := Lib.hid hsr.lt
  clear hsr
  refine wp_region_I (by kernel_rfl) (fun (listed : Array Bool) (a : Act) (w2 : World) => ∃ x11 x69 x70 x71 x72 x73 x74 x75 x76 x77 : Value, a = ⟨#[u0, u1, u2, u3, u4, .pointer (some ⟨sb, 0, none⟩), u6, u7, u8, u9, .int .i64 (i : Int), x11, u12, u13, u14, u15, u16, u17, u18, u19, u20, u21, u22, u23, u24, u25, u26, u27, u28, u29, u30, u31, u32, u33, u34, u35, u36, u37, u38, u39, u40, u41, u42, u43, u44, u45, u46, u47, u48, u49, u50, u51, u52, u53, u54, u55, u56, u57, u58, u59, u60, u61, u62, u63, u64, u65, u66, u67, u68, x69, x70, x71, x72, x73, x74, x75, x76, x77, u78, u79, u80, u81, u82, u83, u84, u85, u86, u87, u88, u89, u90, u91, u92, u93, u94, u95, u96, u97, u98, u99, u100, u101, u102, u103, u104, u105, u106, u107, u108, u109, u110, u111, u112, u113, u114, u115, u116, u117, u118, u119], []⟩ ∧ Y.grownBy w2 (some sb) ∧ SrcAt w2 sb ∧ (listed.getD 0 false = true → OwnBlk Y.heap.size w2 9 #[.string ⟨#[102]⟩, .string ⟨#[103]⟩, .string ⟨#[104]⟩] (fun g => .slice (some ⟨g, 0, none⟩) 3 3) x69) ∧ (listed.getD 1 false = true → x70 = .int .i64 (i : Int)) ∧ (listed.getD 2 false = true → OwnBlk Y.heap.size w2 9 #[.string ⟨#[102]⟩, .string ⟨#[103]⟩, .string ⟨#[104]⟩] (fun g => .pointer (some ⟨g, i, none⟩)) x71) ∧ (listed.getD 3 false = true → x72 = .string (nmF i)) ∧ (listed.getD 4 false = true → OwnBlk Y.heap.size w2 9 #[.string ⟨#[112]⟩, .string ⟨#[113]⟩, .string ⟨#[114]⟩, .string ⟨#[115]⟩, .string ⟨#[116]⟩, .string ⟨#[117]⟩] (fun g => .slice (some ⟨g, 0, none⟩) 6 6) x73) ∧ (listed.getD 5 false = true → x74 = .pointer (some ⟨sb, 0, none⟩)) ∧ (listed.getD 6 false = true → ∃ k : Nat, k < 7 ∧ x75 = .int .i64 (k : Int)) ∧ (listed.getD 7 false = true → ∃ k : Nat, k < 7 ∧ OwnBlk Y.heap.size w2 9 #[.string ⟨#[112]⟩, .string ⟨#[113]⟩, .string ⟨#[114]⟩, .string ⟨#[115]⟩, .string ⟨#[116]⟩, .string ⟨#[117]⟩] (fun g => .slice (some ⟨g, 0, none⟩) k 6) x76) ∧ (listed.getD 8 false = true → ∃ k : Nat, k < 7 ∧ OwnBlk Y.heap.size w2 9 #[.string ⟨#[112]⟩, .string ⟨#[113]⟩, .string ⟨#[114]⟩, .string ⟨#[115]⟩, .string ⟨#[116]⟩, .string ⟨#[117]⟩] (fun g => .agg #[.string (nmF i), .slice (some ⟨g, 0, none⟩) k 6, .slice none 0 0, .slice none 0 0]) x77) ∧ (listed.getD 9 false = true → listed.getD 10 false = false → OwnBlk Y.heap.size w2 49 #[.string ⟨#[]⟩, .slice none 0 0, .slice none 0 0, .slice none 0 0] (fun g => .pointer (some ⟨g, 0, none⟩)) x11) ∧ (listed.getD 10 false = true → listed.getD 9 false = true ∧ ∃ k : Nat, k < 7 ∧ HeadAt Y.heap.size w2 i k x11)) 11 rfl (by kernel_rfl) ?_ ?_ ?_
  · intro hno
    exact ⟨_, _, _, _, _, _, _, _, _, _, rfl, grown_below' (Below.refl _ _).drew, HSRC.out.below (Below.refl _ _).drew, fun h => (hno _ h).elim, fun h => (hno _ h).elim, fun h => (hno _ h).elim, fun h => (hno _ h).elim, fun h => (hno _ h).elim, fun h => (hno _ h).elim, fun h => (hno _ h).elim, fun h => (hno _ h).elim, fun h => (hno _ h).elim, fun h => (hno _ h).elim, fun h => (hno _ h).elim⟩
  · refine StepsI.cons [] rfl (by kernel_rfl) ?_ (StepsI.cons [] rfl (by kernel_rfl) ?_ (StepsI.cons [0, 1] rfl (by kernel_rfl) ?_ (StepsI.cons [2] rfl (by kernel_rfl) ?_ (StepsI.cons [] rfl (by kernel_rfl) ?_ (StepsI.cons [] rfl (by kernel_rfl) ?_ (StepsI.cons [5] rfl (by kernel_rfl) ?_ (StepsI.cons [4, 6] rfl (by kernel_rfl) ?_ (StepsI.cons [3, 7] rfl (by kernel_rfl) ?_ (StepsI.cons [] rfl (by kernel_rfl) ?_ (StepsI.cons [9, 8, 6, 0, 1, 2, 3, 4, 5, 6, 7, 8, 9] rfl (by kernel_rfl) ?_ StepsI.nil))))))))))
    · intro listed a w2 hI hd hself hun K hK
      obtain ⟨x11, x69, x70, x71, x72, x73, x74, x75, x76, x77, rfl, hg, hsr, o0, o1, o2, o3, o4, o5, o6, o7, o8, o9, o10⟩ := hI
      have HGG := Lib.hid hg; have HSR := Lib.hid hsr; clear hg hsr
      have O0 := Lib.hid o0
      have O1 := Lib.hid o1
      have O2 := Lib.hid o2
      have O3 := Lib.hid o3
      have O4 := Lib.hid o4
      have O5 := Lib.hid o5
      have O6 := Lib.hid o6
      have O7 := Lib.hid o7
      have O8 := Lib.hid o8
      have O9 := Lib.hid o9
      have O10 := Lib.hid o10
      clear o0 o1 o2 o3 o4 o5 o6 o7 o8 o9 o10
      have HD := Lib.hid hd; have HUN := Lib.hid hun; clear hd hself hun
      go_simp
      have HGN : Hid (w2.grownBy (w2.alloc (.cells #[.string ⟨#[102]⟩, .string ⟨#[103]⟩, .string ⟨#[104]⟩] 9)) (some sb)) := Lib.hid (World.grownBy_alloc _ _ _)
      refine hK.out _ _ (fun hk => ⟨_, _, _, _, _, _, _, _, _, _, rfl, HGG.out.trans HGN.out, HSR.out.below (below1 _ _), fun _ => ⟨w2.heap.size, rfl, Blk.new _ _ _, HGG.out.size⟩, fun h => O1.out ((hk _ h).resolve_left (by decide)), fun h => OwnBlk.grown (O2.out ((hk _ h).resolve_left (by decide))) HGN.out HN0.out, fun h => O3.out ((hk _ h).resolve_left (by decide)), fun h => OwnBlk.grown (O4.out ((hk _ h).resolve_left (by decide))) HGN.out HN0.out, fun h => O5.out ((hk _ h).resolve_left (by decide)), fun h => O6.out ((hk _ h).resolve_left (by decide)), fun h => (have q := (O7.out ((hk _ h).resolve_left (by decide))); q.imp fun k hk2 => ⟨hk2.1, hk2.2.grown HGN.out HN0.out⟩), fun h => (have q := (O8.out ((hk _ h).resolve_left (by decide))); q.imp fun k hk2 => ⟨hk2.1, hk2.2.grown HGN.out HN0.out⟩), fun h h9 => OwnBlk.grown (O9.out ((hk _ h).resolve_left (by decide)) (by rwa [getD_set_ne false (by decide)] at h9)) HGN.out HN0.out, fun h => (have q := (O10.out ((hk _ h).resolve_left (by decide))); ⟨getD_set_true q.1, q.2.imp fun k hk2 => ⟨hk2.1, (fun z => z.grown HGN.out HN0.out) hk2.2⟩⟩)⟩)
    · intro listed a w2 hI hd hself hun K hK
      obtain ⟨x11, x69, x70, x71, x72, x73, x74, x75, x76, x77, rfl, hg, hsr, o0, o1, o2, o3, o4, o5, o6, o7, o8, o9, o10⟩ := hI
      have HGG := Lib.hid hg; have HSR := Lib.hid hsr; clear hg hsr
      have O0 := Lib.hid o0
      have O1 := Lib.hid o1
      have O2 := Lib.hid o2
      have O3 := Lib.hid o3
      have O4 := Lib.hid o4
      have O5 := Lib.hid o5
      have O6 := Lib.hid o6
      have O7 := Lib.hid o7
      have O8 := Lib.hid o8
      have O9 := Lib.hid o9
      have O10 := Lib.hid o10
      clear o0 o1 o2 o3 o4 o5 o6 o7 o8 o9 o10
      have HD := Lib.hid hd; have HUN := Lib.hid hun; clear hd hself hun
      go_simp
      refine hK.out _ _ (fun hk => ⟨_, _, _, _, _, _, _, _, _, _, rfl, HGG.out, HSR.out, fun h => O0.out ((hk _ h).resolve_left (by decide)), fun _ => rfl, fun h => O2.out ((hk _ h).resolve_left (by decide)), fun h => O3.out ((hk _ h).resolve_left (by decide)), fun h => O4.out ((hk _ h).resolve_left (by decide)), fun h => O5.out ((hk _ h).resolve_left (by decide)), fun h => O6.out ((hk _ h).resolve_left (by decide)), fun h => O7.out ((hk _ h).resolve_left (by decide)), fun h => O8.out ((hk _ h).resolve_left (by decide)), fun h h9 => O9.out ((hk _ h).resolve_left (by decide)) (by rwa [getD_set_ne false (by decide)] at h9), fun h => (have q := (O10.out ((hk _ h).resolve_left (by decide))); ⟨getD_set_true q.1, q.2.imp fun k hk2 => ⟨hk2.1, (fun z => z) hk2.2⟩⟩)⟩)
    · intro listed a w2 hI hd hself hun K hK
      obtain ⟨x11, x69, x70, x71, x72, x73, x74, x75, x76, x77, rfl, hg, hsr, o0, o1, o2, o3, o4, o5, o6, o7, o8, o9, o10⟩ := hI
      obtain ⟨g, hx, hb, hn⟩ := o0 (hd 0 (by simp))
      have hy := o1 (hd 1 (by simp))
      subst hx hy
      have HB := Lib.hid (And.intro hb hn)
      clear hb hn
      have hi1 : (i : Int) < 3 := by omega
      have hi2 : ¬ (i : Int) < 0 := by omega
      have HGG := Lib.hid hg; have HSR := Lib.hid hsr; clear hg hsr
      have O0 := Lib.hid o0
      have O1 := Lib.hid o1
      have O2 := Lib.hid o2
      have O3 := Lib.hid o3
      have O4 := Lib.hid o4
      have O5 := Lib.hid o5
      have O6 := Lib.hid o6
      have O7 := Lib.hid o7
      have O8 := Lib.hid o8
      have O9 := Lib.hid o9
      have O10 := Lib.hid o10
      clear o0 o1 o2 o3 o4 o5 o6 o7 o8 o9 o10
      have HD := Lib.hid hd; have HUN := Lib.hid hun; clear hd hself hun
      go_simp
      refine hK.out _ _ (fun hk => ⟨_, _, _, _, _, _, _, _, _, _, rfl, HGG.out, HSR.out, fun h => O0.out ((hk _ h).resolve_left (by decide)), fun h => O1.out ((hk _ h).resolve_left (by decide)), fun _ => ⟨g, rfl, HB.out.1, HB.out.2⟩, fun h => O3.out ((hk _ h).resolve_left (by decide)), fun h => O4.out ((hk _ h).resolve_left (by decide)), fun h => O5.out ((hk _ h).resolve_left (by decide)), fun h => O6.out ((hk _ h).resolve_left (by decide)), fun h => O7.out ((hk _ h).resolve_left (by decide)), fun h => O8.out ((hk _ h).resolve_left (by decide)), fun h h9 => O9.out ((hk _ h).resolve_left (by decide)) (by rwa [getD_set_ne false (by decide)] at h9), fun h => (have q := (O10.out ((hk _ h).resolve_left (by decide))); ⟨getD_set_true q.1, q.2.imp fun k hk2 => ⟨hk2.1, (fun z => z) hk2.2⟩⟩)⟩)
    · intro listed a w2 hI hd hself hun K hK
      obtain ⟨x11, x69, x70, x71, x72, x73, x74, x75, x76, x77, rfl, hg, hsr, o0, o1, o2, o3, o4, o5, o6, o7, o8, o9, o10⟩ := hI
      obtain ⟨g, hx, hb, hn⟩ := o2 (hd 2 (by simp))
      subst hx
      have hcl := three_cell (f := fun q => .string (nmF q)) hb hi rfl rfl rfl
      clear hb hn
      have HGG := Lib.hid hg; have HSR := Lib.hid hsr; clear hg hsr
      have O0 := Lib.hid o0
      have O1 := Lib.hid o1
      have O2 := Lib.hid o2
      have O3 := Lib.hid o3
      have O4 := Lib.hid o4
      have O5 := Lib.hid o5
      have O6 := Lib.hid o6
      have O7 := Lib.hid o7
      have O8 := Lib.hid o8
      have O9 := Lib.hid o9
      have O10 := Lib.hid o10
      clear o0 o1 o2 o3 o4 o5 o6 o7 o8 o9 o10
      have HD := Lib.hid hd; have HUN := Lib.hid hun; clear hd hself hun
      go_simp
      refine hK.out _ _ (fun hk => ⟨_, _, _, _, _, _, _, _, _, _, rfl, HGG.out, HSR.out, fun h => O0.out ((hk _ h).resolve_left (by decide)), fun h => O1.out ((hk _ h).resolve_left (by decide)), fun h => O2.out ((hk _ h).resolve_left (by decide)), fun _ => rfl, fun h => O4.out ((hk _ h).resolve_left (by decide)), fun h => O5.out ((hk _ h).resolve_left (by decide)), fun h => O6.out ((hk _ h).resolve_left (by decide)), fun h => O7.out ((hk _ h).resolve_left (by decide)), fun h => O8.out ((hk _ h).resolve_left (by decide)), fun h h9 => O9.out ((hk _ h).resolve_left (by decide)) (by rwa [getD_set_ne false (by decide)] at h9), fun h => (have q := (O10.out ((hk _ h).resolve_left (by decide))); ⟨getD_set_true q.1, q.2.imp fun k hk2 => ⟨hk2.1, (fun z => z) hk2.2⟩⟩)⟩)
    · intro listed a w2 hI hd hself hun K hK
      obtain ⟨x11, x69, x70, x71, x72, x73, x74, x75, x76, x77, rfl, hg, hsr, o0, o1, o2, o3, o4, o5, o6, o7, o8, o9, o10⟩ := hI
      have HGG := Lib.hid hg; have HSR := Lib.hid hsr; clear hg hsr
      have O0 := Lib.hid o0
      have O1 := Lib.hid o1
      have O2 := Lib.hid o2
      have O3 := Lib.hid o3
      have O4 := Lib.hid o4
      have O5 := Lib.hid o5
      have O6 := Lib.hid o6
      have O7 := Lib.hid o7
      have O8 := Lib.hid o8
      have O9 := Lib.hid o9
      have O10 := Lib.hid o10
      clear o0 o1 o2 o3 o4 o5 o6 o7 o8 o9 o10
      have HD := Lib.hid hd; have HUN := Lib.hid hun; clear hd hself hun
      go_simp
      have HGN : Hid (w2.grownBy (w2.alloc (.cells #[.string ⟨#[112]⟩, .string ⟨#[113]⟩, .string ⟨#[114]⟩, .string ⟨#[115]⟩, .string ⟨#[116]⟩, .string ⟨#[117]⟩] 9)) (some sb)) := Lib.hid (World.grownBy_alloc _ _ _)
      refine hK.out _ _ (fun hk => ⟨_, _, _, _, _, _, _, _, _, _, rfl, HGG.out.trans HGN.out, HSR.out.below (below1 _ _), fun h => OwnBlk.grown (O0.out ((hk _ h).resolve_left (by decide))) HGN.out HN0.out, fun h => O1.out ((hk _ h).resolve_left (by decide)), fun h => OwnBlk.grown (O2.out ((hk _ h).resolve_left (by decide))) HGN.out HN0.out, fun h => O3.out ((hk _ h).resolve_left (by decide)), fun _ => ⟨w2.heap.size, rfl, Blk.new _ _ _, HGG.out.size⟩, fun h => O5.out ((hk _ h).resolve_left (by decide)), fun h => O6.out ((hk _ h).resolve_left (by decide)), fun h => (have q := (O7.out ((hk _ h).resolve_left (by decide))); q.imp fun k hk2 => ⟨hk2.1, hk2.2.grown HGN.out HN0.out⟩), fun h => (have q := (O8.out ((hk _ h).resolve_left (by decide))); q.imp fun k hk2 => ⟨hk2.1, hk2.2.grown HGN.out HN0.out⟩), fun h h9 => OwnBlk.grown (O9.out ((hk _ h).resolve_left (by decide)) (by rwa [getD_set_ne false (by decide)] at h9)) HGN.out HN0.out, fun h => (have q := (O10.out ((hk _ h).resolve_left (by decide))); ⟨getD_set_true q.1, q.2.imp fun k hk2 => ⟨hk2.1, (fun z => z.grown HGN.out HN0.out) hk2.2⟩⟩)⟩)
    · intro listed a w2 hI hd hself hun K hK
      obtain ⟨x11, x69, x70, x71, x72, x73, x74, x75, x76, x77, rfl, hg, hsr, o0, o1, o2, o3, o4, o5, o6, o7, o8, o9, o10⟩ := hI
      have HGG := Lib.hid hg; have HSR := Lib.hid hsr; clear hg hsr
      have O0 := Lib.hid o0
      have O1 := Lib.hid o1
      have O2 := Lib.hid o2
      have O3 := Lib.hid o3
      have O4 := Lib.hid o4
      have O5 := Lib.hid o5
      have O6 := Lib.hid o6
      have O7 := Lib.hid o7
      have O8 := Lib.hid o8
      have O9 := Lib.hid o9
      have O10 := Lib.hid o10
      clear o0 o1 o2 o3 o4 o5 o6 o7 o8 o9 o10
      have HD := Lib.hid hd; have HUN := Lib.hid hun; clear hd hself hun
      go_simp
      refine hK.out _ _ (fun hk => ⟨_, _, _, _, _, _, _, _, _, _, rfl, HGG.out, HSR.out, fun h => O0.out ((hk _ h).resolve_left (by decide)), fun h => O1.out ((hk _ h).resolve_left (by decide)), fun h => O2.out ((hk _ h).resolve_left (by decide)), fun h => O3.out ((hk _ h).resolve_left (by decide)), fun h => O4.out ((hk _ h).resolve_left (by decide)), fun _ => rfl, fun h => O6.out ((hk _ h).resolve_left (by decide)), fun h => O7.out ((hk _ h).resolve_left (by decide)), fun h => O8.out ((hk _ h).resolve_left (by decide)), fun h h9 => O9.out ((hk _ h).resolve_left (by decide)) (by rwa [getD_set_ne false (by decide)] at h9), fun h => (have q := (O10.out ((hk _ h).resolve_left (by decide))); ⟨getD_set_true q.1, q.2.imp fun k hk2 => ⟨hk2.1, (fun z => z) hk2.2⟩⟩)⟩)
    · intro listed a w2 hI hd hself hun K hK
      obtain ⟨x11, x69, x70, x71, x72, x73, x74, x75, x76, x77, rfl, hg, hsr, o0, o1, o2, o3, o4, o5, o6, o7, o8, o9, o10⟩ := hI
      have hx := o5 (hd 5 (by simp))
      subst hx
      have HGG := Lib.hid hg; have HSR := Lib.hid hsr; clear hg hsr
      have O0 := Lib.hid o0
      have O1 := Lib.hid o1
      have O2 := Lib.hid o2
      have O3 := Lib.hid o3
      have O4 := Lib.hid o4
      have O5 := Lib.hid o5
      have O6 := Lib.hid o6
      have O7 := Lib.hid o7
      have O8 := Lib.hid o8
      have O9 := Lib.hid o9
      have O10 := Lib.hid o10
      clear o0 o1 o2 o3 o4 o5 o6 o7 o8 o9 o10
      have HD := Lib.hid hd; have HUN := Lib.hid hun; clear hd hself hun
      go_simp
      refine (next_any w2 sb 7 (by omega) HSR.out).mono ?_
      rintro e w3 ⟨⟨q, hq, rfl⟩, hs3, hg3⟩
      have HS3 := Lib.hid hs3
      have HG3 := Lib.hid hg3
      clear hs3 hg3
      have HGN : Hid (w2.grownBy w3 (some sb)) := Lib.hid (HG3.out)
      refine hK.out _ _ (fun hk => ⟨_, _, _, _, _, _, _, _, _, _, rfl, HGG.out.trans HGN.out, HS3.out, fun h => OwnBlk.grown (O0.out ((hk _ h).resolve_left (by decide))) HGN.out HN0.out, fun h => O1.out ((hk _ h).resolve_left (by decide)), fun h => OwnBlk.grown (O2.out ((hk _ h).resolve_left (by decide))) HGN.out HN0.out, fun h => O3.out ((hk _ h).resolve_left (by decide)), fun h => OwnBlk.grown (O4.out ((hk _ h).resolve_left (by decide))) HGN.out HN0.out, fun h => O5.out ((hk _ h).resolve_left (by decide)), fun _ => ⟨q, hq, rfl⟩, fun h => (have q := (O7.out ((hk _ h).resolve_left (by decide))); q.imp fun k hk2 => ⟨hk2.1, hk2.2.grown HGN.out HN0.out⟩), fun h => (have q := (O8.out ((hk _ h).resolve_left (by decide))); q.imp fun k hk2 => ⟨hk2.1, hk2.2.grown HGN.out HN0.out⟩), fun h h9 => OwnBlk.grown (O9.out ((hk _ h).resolve_left (by decide)) (by rwa [getD_set_ne false (by decide)] at h9)) HGN.out HN0.out, fun h => (have q := (O10.out ((hk _ h).resolve_left (by decide))); ⟨getD_set_true q.1, q.2.imp fun k hk2 => ⟨hk2.1, (fun z => z.grown HGN.out HN0.out) hk2.2⟩⟩)⟩)
    · intro listed a w2 hI hd hself hun K hK
      obtain ⟨x11, x69, x70, x71, x72, x73, x74, x75, x76, x77, rfl, hg, hsr, o0, o1, o2, o3, o4, o5, o6, o7, o8, o9, o10⟩ := hI
      obtain ⟨g, hx, hb, hn⟩ := o4 (hd 4 (by simp))
      obtain ⟨q, hq, hy⟩ := o6 (hd 6 (by simp))
      subst hx hy
      have HB := Lib.hid (And.intro hb hn)
      clear hb hn
      have hi1 : (q : Int) ≤ 6 := by omega
      have hi2 : ¬ (q : Int) < 0 := by omega
      have hi3 : q ≤ 6 := by omega
      have hi4 : (0 : Int) ≤ (q : Int) := by omega
      have HGG := Lib.hid hg; have HSR := Lib.hid hsr; clear hg hsr
      have O0 := Lib.hid o0
      have O1 := Lib.hid o1
      have O2 := Lib.hid o2
      have O3 := Lib.hid o3
      have O4 := Lib.hid o4
      have O5 := Lib.hid o5
      have O6 := Lib.hid o6
      have O7 := Lib.hid o7
      have O8 := Lib.hid o8
      have O9 := Lib.hid o9
      have O10 := Lib.hid o10
      clear o0 o1 o2 o3 o4 o5 o6 o7 o8 o9 o10
      have HD := Lib.hid hd; have HUN := Lib.hid hun; clear hd hself hun
      go_simp
      refine hK.out _ _ (fun hk => ⟨_, _, _, _, _, _, _, _, _, _, rfl, HGG.out, HSR.out, fun h => O0.out ((hk _ h).resolve_left (by decide)), fun h => O1.out ((hk _ h).resolve_left (by decide)), fun h => O2.out ((hk _ h).resolve_left (by decide)), fun h => O3.out ((hk _ h).resolve_left (by decide)), fun h => O4.out ((hk _ h).resolve_left (by decide)), fun h => O5.out ((hk _ h).resolve_left (by decide)), fun h => O6.out ((hk _ h).resolve_left (by decide)), fun _ => ⟨q, hq, g, rfl, HB.out.1, HB.out.2⟩, fun h => O8.out ((hk _ h).resolve_left (by decide)), fun h h9 => O9.out ((hk _ h).resolve_left (by decide)) (by rwa [getD_set_ne false (by decide)] at h9), fun h => (have q := (O10.out ((hk _ h).resolve_left (by decide))); ⟨getD_set_true q.1, q.2.imp fun k hk2 => ⟨hk2.1, (fun z => z) hk2.2⟩⟩)⟩)
    · intro listed a w2 hI hd hself hun K hK
      obtain ⟨x11, x69, x70, x71, x72, x73, x74, x75, x76, x77, rfl, hg, hsr, o0, o1, o2, o3, o4, o5, o6, o7, o8, o9, o10⟩ := hI
      have hx := o3 (hd 3 (by simp))
      obtain ⟨q, hq, g, hy, hb, hn⟩ := o7 (hd 7 (by simp))
      subst hx hy
      have HB := Lib.hid (And.intro hb hn)
      clear hb hn
      have HGG := Lib.hid hg; have HSR := Lib.hid hsr; clear hg hsr
      have O0 := Lib.hid o0
      have O1 := Lib.hid o1
      have O2 := Lib.hid o2
      have O3 := Lib.hid o3
      have O4 := Lib.hid o4
      have O5 := Lib.hid o5
      have O6 := Lib.hid o6
      have O7 := Lib.hid o7
      have O8 := Lib.hid o8
      have O9 := Lib.hid o9
      have O10 := Lib.hid o10
      clear o0 o1 o2 o3 o4 o5 o6 o7 o8 o9 o10
      have HD := Lib.hid hd; have HUN := Lib.hid hun; clear hd hself hun
      go_simp
      refine hK.out _ _ (fun hk => ⟨_, _, _, _, _, _, _, _, _, _, rfl, HGG.out, HSR.out, fun h => O0.out ((hk _ h).resolve_left (by decide)), fun h => O1.out ((hk _ h).resolve_left (by decide)), fun h => O2.out ((hk _ h).resolve_left (by decide)), fun h => O3.out ((hk _ h).resolve_left (by decide)), fun h => O4.out ((hk _ h).resolve_left (by decide)), fun h => O5.out ((hk _ h).resolve_left (by decide)), fun h => O6.out ((hk _ h).resolve_left (by decide)), fun h => O7.out ((hk _ h).resolve_left (by decide)), fun _ => ⟨q, hq, g, rfl, HB.out.1, HB.out.2⟩, fun h h9 => O9.out ((hk _ h).resolve_left (by decide)) (by rwa [getD_set_ne false (by decide)] at h9), fun h => (have q := (O10.out ((hk _ h).resolve_left (by decide))); ⟨getD_set_true q.1, q.2.imp fun k hk2 => ⟨hk2.1, (fun z => z) hk2.2⟩⟩)⟩)
    · intro listed a w2 hI hd hself hun K hK
      obtain ⟨x11, x69, x70, x71, x72, x73, x74, x75, x76, x77, rfl, hg, hsr, o0, o1, o2, o3, o4, o5, o6, o7, o8, o9, o10⟩ := hI
      have HGG := Lib.hid hg; have HSR := Lib.hid hsr; clear hg hsr
      have O0 := Lib.hid o0
      have O1 := Lib.hid o1
      have O2 := Lib.hid o2
      have O3 := Lib.hid o3
      have O4 := Lib.hid o4
      have O5 := Lib.hid o5
      have O6 := Lib.hid o6
      have O7 := Lib.hid o7
      have O8 := Lib.hid o8
      have O9 := Lib.hid o9
      have O10 := Lib.hid o10
      clear o0 o1 o2 o3 o4 o5 o6 o7 o8 o9 o10
      have HD := Lib.hid hd; have HUN := Lib.hid hun; clear hd hself hun
      go_simp
      have HGN : Hid (w2.grownBy (w2.alloc (.cells #[.string ⟨#[]⟩, .slice none 0 0, .slice none 0 0, .slice none 0 0] 49)) (some sb)) := Lib.hid (World.grownBy_alloc _ _ _)
      refine hK.out _ _ (fun hk => ⟨_, _, _, _, _, _, _, _, _, _, rfl, HGG.out.trans HGN.out, HSR.out.below (below1 _ _), fun h => OwnBlk.grown (O0.out ((hk _ h).resolve_left (by decide))) HGN.out HN0.out, fun h => O1.out ((hk _ h).resolve_left (by decide)), fun h => OwnBlk.grown (O2.out ((hk _ h).resolve_left (by decide))) HGN.out HN0.out, fun h => O3.out ((hk _ h).resolve_left (by decide)), fun h => OwnBlk.grown (O4.out ((hk _ h).resolve_left (by decide))) HGN.out HN0.out, fun h => O5.out ((hk _ h).resolve_left (by decide)), fun h => O6.out ((hk _ h).resolve_left (by decide)), fun h => (have q := (O7.out ((hk _ h).resolve_left (by decide))); q.imp fun k hk2 => ⟨hk2.1, hk2.2.grown HGN.out HN0.out⟩), fun h => (have q := (O8.out ((hk _ h).resolve_left (by decide))); q.imp fun k hk2 => ⟨hk2.1, hk2.2.grown HGN.out HN0.out⟩), fun _ => fun _ => ⟨w2.heap.size, rfl, Blk.new _ _ _, HGG.out.size⟩, fun h => absurd (O10.out ((hk _ h).resolve_left (by decide))).1 (by rw [HUN.out]; decide)⟩)
    · intro listed a w2 hI hd hself hun K hK
      obtain ⟨x11, x69, x70, x71, x72, x73, x74, x75, x76, x77, rfl, hg, hsr, o0, o1, o2, o3, o4, o5, o6, o7, o8, o9, o10⟩ := hI
      obtain ⟨q, hq, g2, hy, hb2, hn2⟩ := o8 (hd 8 (by simp))
      obtain ⟨g, hx, hb, hn⟩ := o9 (hd 9 (by simp)) hun
      subst hx hy
      have hne : g2 ≠ g := hb2.unlike hb (by decide)
      have c0 := hb.cell 0; have z0 := hb.frozen 0
      have c1 := hb.cell 1; have z1 := hb.frozen 1
      have c2 := hb.cell 2; have z2 := hb.frozen 2
      have c3 := hb.cell 3; have z3 := hb.frozen 3
      have HB := Lib.hid (And.intro hb hn)
      have HB2 := Lib.hid (And.intro hb2 hn2)
      have HNE := Lib.hid hne
      clear hb hn hb2 hn2 hne
      have HGG := Lib.hid hg; have HSR := Lib.hid hsr; clear hg hsr
      have O0 := Lib.hid o0
      have O1 := Lib.hid o1
      have O2 := Lib.hid o2
      have O3 := Lib.hid o3
      have O4 := Lib.hid o4
      have O5 := Lib.hid o5
      have O6 := Lib.hid o6
      have O7 := Lib.hid o7
      have O8 := Lib.hid o8
      have O9 := Lib.hid o9
      have O10 := Lib.hid o10
      clear o0 o1 o2 o3 o4 o5 o6 o7 o8 o9 o10
      have hk0 : Hid ((listed.setIfInBounds 10 true).getD 10 false = true) := Lib.hid hself
      have HD := Lib.hid hd; have HUN := Lib.hid hun; clear hd hself hun
      go_simp
      refine hK.out _ _ (fun hk => ⟨_, _, _, _, _, _, _, _, _, _, rfl, grown_own (grown_own (grown_own (grown_own HGG.out g HB.out.2 0 _) g HB.out.2 1 _) g HB.out.2 2 _) g HB.out.2 3 _, four_src HSR.out (Nat.lt_of_lt_of_le HN0.out HB.out.2), fun h => OwnBlk.far4 (O0.out ((hk _ h).resolve_left (by decide))) HB.out.1 (by decide) _ _ _ _, fun h => O1.out ((hk _ h).resolve_left (by decide)), fun h => OwnBlk.far4 (O2.out ((hk _ h).resolve_left (by decide))) HB.out.1 (by decide) _ _ _ _, fun h => O3.out ((hk _ h).resolve_left (by decide)), fun h => OwnBlk.far4 (O4.out ((hk _ h).resolve_left (by decide))) HB.out.1 (by decide) _ _ _ _, fun h => O5.out ((hk _ h).resolve_left (by decide)), fun h => O6.out ((hk _ h).resolve_left (by decide)), fun h => (have q := O7.out ((hk _ h).resolve_left (by decide)); q.imp fun k hk2 => ⟨hk2.1, hk2.2.far4 HB.out.1 (by decide) _ _ _ _⟩), fun h => (have q := O8.out ((hk _ h).resolve_left (by decide)); q.imp fun k hk2 => ⟨hk2.1, hk2.2.far4 HB.out.1 (by decide) _ _ _ _⟩), fun _ h9 => absurd h9 (by rw [hk0.out]; decide), fun _ => ⟨getD_set_true (HD.out 9 (by simp)), q, hq, g, g2, rfl, (((HB.out.1.set_ 0 _).set_ 1 _).set_ 2 _).set_ 3 _, HB.out.2, (((HB2.out.1.far (p := ⟨g, 0, none⟩) HNE.out _).far (p := ⟨g, 1, none⟩) HNE.out _).far (p := ⟨g, 2, none⟩) HNE.out _).far (p := ⟨g, 3, none⟩) HNE.out _, HB2.out.2⟩⟩)
  · intro listed a w2 hI hall
    obtain ⟨x11, x69, x70, x71, x72, x73, x74, x75, x76, x77, rfl, hg, hsr, o0, o1, o2, o3, o4, o5, o6, o7, o8, o9, o10⟩ := hI
    exact HKK.out _ _ _ _ _ _ _ _ _ _ _ (o10 (hall 10 (by omega))).2 hg hsr
set_option maxRecDepth 100000 in
set_option maxHeartbeats 8000000 in
theorem ra_any (cc : Code) (hc : (Tryz.f11.body.bind (blkOf 1)) = some cc) (Y : World) {W : World} {sb pb i nx cx : Nat} {Ax : Option Addr} {l : List (ByteArray × Int)} (hi : i < 3) (hb : BoxG 53 2 RArrM W sb Y pb 27 #[.slice Ax nx cx, .slice none 0 0] (fun x => okSz x.2) (.slice Ax nx cx) (l)) (hnx : nx = l.length) (hn1 : nx ≤ 2)
    (Q : Exit → Act → World → Prop) (u0 u2 u3 u4 u6 u9 u10 u11 u12 u13 u14 u15 u16 u17 u18 u19 u20 u21 u22 u23 u24 u25 u26 u27 u28 u29 u30 u31 u32 u33 u34 u35 u36 u37 u38 u39 u40 u41 u42 u43 u44 u45 u46 u47 u48 u49 u50 u51 u52 u53 u54 u55 u56 u57 u58 u59 u60 u61 u62 u63 u64 u65 u66 u67 u68 u69 u70 u71 u72 u73 u74 u75 u76 u77 u78 u79 u80 u81 u82 u83 u84 u85 u86 u87 u88 u89 u90 u91 u92 u93 u94 u95 u96 u97 u98 u99 u100 u101 u102 u103 u104 u105 u106 u107 u108 u109 u110 u111 u112 u113 u114 u115 u116 u117 u118 u119 : Value)
    (hK : ∀ (x9 x34 x35 x36 x37 x38 x39 x40 x41 x42 x43 x44 x48 x49 x50 x51 x52 x53 : Value) (w' : World), (∃ (Ap : Option Addr) (cp : Nat) (v : Int), okSz v ∧ BoxG 53 2 RArrM W sb w' pb 27 #[.slice Ap (nx + 1) cp, .slice none 0 0] (fun x => okSz x.2) (.slice Ap (nx + 1) cp) (l ++ [(nmA i, v)])) → Q .normal { tmps := #[u0, .bool false, u2, u3, u4, .pointer (some ⟨sb, 0, none⟩), u6, .pointer (some ⟨pb, 0, none⟩), .int .i64 (i : Int), x9, u10, u11, u12, u13, u14, u15, u16, u17, u18, u19, u20, u21, u22, u23, u24, u25, u26, u27, u28, u29, u30, u31, u32, u33, x34, x35, x36, x37, x38, x39, x40, x41, x42, x43, x44, u45, u46, u47, x48, x49, x50, x51, x52, x53, u54, u55, u56, u57, u58, u59, u60, u61, u62, u63, u64, u65, u66, u67, u68, u69, u70, u71, u72, u73, u74, u75, u76, u77, u78, u79, u80, u81, u82, u83, u84, u85, u86, u87, u88, u89, u90, u91, u92, u93, u94, u95, u96, u97, u98, u99, u100, u101, u102, u103, u104, u105, u106, u107, u108, u109, u110, u111, u112, u113, u114, u115, u116, u117, u118, u119], defers := [] } w') : (Code.block 1 cc).wp Tryz.prog Q { tmps := #[u0, .bool false, u2, u3, u4, .pointer (some ⟨sb, 0, none⟩), u6, .pointer (some ⟨pb, 0, none⟩), .int .i64 (i : Int), u9, u10, u11, u12, u13, u14, u15, u16, u17, u18, u19, u20, u21, u22, u23, u24, u25, u26, u27, u28, u29, u30, u31, u32, u33, u34, u35, u36, u37, u38, u39, u40, u41, u42, u43, u44, u45, u46, u47, u48, u49, u50, u51, u52, u53, u54, u55, u56, u57, u58, u59, u60, u61, u62, u63, u64, u65, u66, u67, u68, u69, u70, u71, u72, u73, u74, u75, u76, u77, u78, u79, u80, u81, u82, u83, u84, u85, u86, u87, u88, u89, u90, u91, u92, u93, u94, u95, u96, u97, u98, u99, u100, u101, u102, u103, u104, u105, u106, u107, u108, u109, u110, u111, u112, u113, u114, u115, u116, u117, u118, u119], defers := [] } Y := by
  have HKK := Lib.hid hK
  have hcc : Tryz.f11.body.bind (blkOf 1) = some cc := hc
  simp only [Tryz.f11, blkOf, Nat.reduceEqDiff, Option.bind_some, ↓reduceIte, Option.none_or, Option.or_none, Option.some.injEq] at hcc
  subst hcc
  clear hc hK
  have HB := Lib.hid hb
  have HNX := Lib.hid hnx
  clear hb hnx
  obtain ⟨zi, hj0, hj1, hj2, hj3⟩ := info_parts info_arr
  obtain ⟨css, hcss⟩ := HB.out.own
  have HOW := Lib.hid hcss
  clear hcss
  go_upto_region 9 with fail
  refine r9_any _ (by kernel_rfl) Y hi HB.out.src _ _ _ _ _ _ _ _ _ _ _ _ _ _ _ _ _ _ _ _ _ _ _ _ _ _ _ _ _ _ _ _ _ _ _ _ _ _ _ _ _ _ _ _ _ _ _ _ _ _ _ _ _ _ _ _ _ _ _ _ _ _ _ _ _ _ _ _ _ _ _ _ _ _ _ _ _ _ _ _ _ _ _ _ _ _ _ _ _ _ _ _ _ _ _ _ _ _ _ _ _ _ _ _ _ _ _ _ _ _ _ _ _ _ _ _ _ _ _ ?_
  intros
  rename_i X1 g v hg1 hs1 hbk hgn hv
  have HG1 := Lib.hid hg1; have HS1 := Lib.hid hs1
  have q0 := hbk.cell 0; have q1 := hbk.cell 1
  have hb1 := HB.out.step mono_arr hg1 hs1
  have p0 := hb1.blk.cell 0; have p1 := hb1.blk.cell 1
  have hown := HB.out.row2 mono_arr hg1 (below1 X1 (.cells #[.string (nmA i), .int .i64 v] 53)) HNX.out HOW.out
  have hsz : W.heap.size ≤ X1.heap.size := Nat.le_trans HB.out.gr.size hg1.size
  have HV := Lib.hid hv
  clear hg1 hs1 hbk hb1 hv
  go_wp2_with (at_builtin; refine wpList_append_lies _ rfl _ _ _ rfl W.heap.size 53 zi _ 2 24 Tryz.underlying24 hj0 hj1 hj2 hj3 rfl (by decide) (.slice Ax nx cx) nx css.flatten rfl hown ⟨X1.heap.size, 0, none⟩ 1 1 [.string (nmA i), .int .i64 v] rfl rfl (World.news_of_block (cs := #[.string (nmA i), .int .i64 v]) (t := 53) (fr := (0, 0)) (heap_alloc_new X1 _)) (by simp [Value.oneCell']) (by decide) (by unfold maxLen; omega) (by omega) (by simp; omega) (X1.heap.size + 1) (by simp) ?_; intro gp cp X3 hown3 hgrow3 hat3 hlt3; have hb3 := HB.out.app mono_arr HG1.out HS1.out (below1 X1 (.cells #[.string (nmA i), .int .i64 v] 53)) HNX.out HOW.out (ok := fun _ => False) (fun _ h => h.elim) (x := (nmA i, v)) rfl rfl HV.out hown3 hgrow3 (by rcases hat3 with h | h; exact .inl h; exact .inr (by rw [h]; simp)); have HB3 := Lib.hid hb3; have kc := hb3.blk.cell 0; have kz := hb3.blk.frozen 0; clear hb3 hown3 hgrow3 hat3)
  exact HKK.out _ _ _ _ _ _ _ _ _ _ _ _ _ _ _ _ _ _ _ ⟨_, _, v, HV.out, HB3.out.set mono_arr 0 _⟩
def paramsL : List ByteArray := [⟨#[112]⟩, ⟨#[113]⟩, ⟨#[114]⟩, ⟨#[115]⟩, ⟨#[116]⟩, ⟨#[117]⟩]
def localsL : List ByteArray := [⟨#[120]⟩, ⟨#[121]⟩, ⟨#[122]⟩, ⟨#[105]⟩, ⟨#[107]⟩]
theorem SlR.take {α : Type} {w : World} {ok : Nat → Prop} {sz n c k : Nat} {A : Option Addr} {R : List Value → α → Prop} {l : List α} (h : SlR w ok sz R (.slice A n c) l) (hk : k ≤ n) : SlR w ok sz R (.slice A k c) (l.take k) := by
  obtain ⟨A', c', hv, h1, h2, h3⟩ := h
  injection hv with e1 e2 e3
  subst e1 e2 e3
  have hl : (l.take k).length = k := by rw [List.length_take]; omega
  refine ⟨A, c, by rw [hl], by omega, h2, ?_⟩
  rcases h3 with rfl | ⟨b, off, hA, hb, hi⟩
  · exact .inl (by simp)
  · refine .inr ⟨b, off, hA, hb, fun i hi2 => ?_⟩
    obtain ⟨cs, q1, q2, q3⟩ := hi i (by rw [hl] at hi2; omega)
    exact ⟨cs, q1, by rw [List.getElem_take]; exact q2, q3⟩
theorem flat_strs : ∀ l : List ByteArray, l.map Value.string = (l.map fun s => [Value.string s]).flatten
  | [] => rfl
  | _ :: r => by rw [List.map_cons, List.map_cons, List.flatten_cons, ← flat_strs r]; rfl
theorem all_strs : ∀ l : List ByteArray, AllR 1 RStr (l.map fun s => [Value.string s]) l
  | [] => trivial
  | _ :: r => ⟨⟨rfl, rfl⟩, all_strs r⟩
theorem strs_of_blk {w : World} {g n : Nat} {T : TypeId} {cs : Array Value} {l : List ByteArray} (h : Blk w g T cs) (hcs : cs = (l.map Value.string).toArray) (hn : n = l.length) (hl : n ≤ 1000) : SlR w (fun b => b = g) 1 RStr (.slice (some ⟨g, 0, none⟩) n n) l := by
  refine SlR.lit (l.map fun s => [.string s]) h (by rw [hcs, flat_strs]) (all_strs l) hn rfl hl
set_option maxRecDepth 100000 in
set_option maxHeartbeats 8000000 in
theorem rf_any (cc : Code) (hc : (Tryz.f11.body.bind (blkOf 3)) = some cc) (Y : World) {W : World} {sb cb i nx cx : Nat} {Ax : Option Addr} {va : Value} {l : List (ByteArray × List ByteArray)} (hi : i < 3) (hb : BoxG 49 4 RHead W sb Y cb 61 #[.slice none 0 0, va, .slice Ax nx cx, .bool false, .bool false] (fun _ => True) (.slice Ax nx cx) (l)) (hnx : nx = l.length) (hn1 : nx ≤ 3)
    (Q : Exit → Act → World → Prop) (u0 u1 u2 u3 u4 u7 u8 u9 u11 u12 u13 u14 u15 u16 u17 u18 u19 u20 u21 u22 u23 u24 u25 u26 u27 u28 u29 u30 u31 u32 u33 u34 u35 u36 u37 u38 u39 u40 u41 u42 u43 u44 u45 u46 u47 u48 u49 u50 u51 u52 u53 u54 u55 u56 u57 u58 u59 u60 u61 u62 u63 u64 u65 u66 u67 u68 u69 u70 u71 u72 u73 u74 u75 u76 u77 u78 u79 u80 u81 u82 u83 u84 u85 u86 u87 u88 u89 u90 u91 u92 u93 u94 u95 u96 u97 u98 u99 u100 u101 u102 u103 u104 u105 u106 u107 u108 u109 u110 u111 u112 u113 u114 u115 u116 u117 u118 u119 : Value)
    (hK : ∀ (x11 x69 x70 x71 x72 x73 x74 x75 x76 x77 x78 x79 x80 x81 x82 x83 : Value) (w' : World), (∃ (Ap : Option Addr) (cp k : Nat), k < 7 ∧ BoxG 49 4 RHead W sb w' cb 61 #[.slice none 0 0, va, .slice Ap (nx + 1) cp, .bool false, .bool false] (fun _ => True) (.slice Ap (nx + 1) cp) (l ++ [(nmF i, paramsL.take k)])) → Q .normal { tmps := #[u0, u1, u2, u3, u4, .pointer (some ⟨sb, 0, none⟩), .pointer (some ⟨cb, 0, none⟩), u7, u8, u9, .int .i64 (i : Int), x11, u12, u13, u14, u15, u16, u17, u18, u19, u20, u21, u22, u23, u24, u25, u26, u27, u28, u29, u30, u31, u32, u33, u34, u35, u36, u37, u38, u39, u40, u41, u42, u43, u44, u45, u46, u47, u48, u49, u50, u51, u52, u53, u54, u55, u56, u57, u58, u59, u60, u61, u62, u63, u64, u65, u66, u67, u68, x69, x70, x71, x72, x73, x74, x75, x76, x77, x78, x79, x80, x81, x82, x83, u84, u85, u86, u87, u88, u89, u90, u91, u92, u93, u94, u95, u96, u97, u98, u99, u100, u101, u102, u103, u104, u105, u106, u107, u108, u109, u110, u111, u112, u113, u114, u115, u116, u117, u118, u119], defers := [] } w') : (Code.block 3 cc).wp Tryz.prog Q { tmps := #[u0, u1, u2, u3, u4, .pointer (some ⟨sb, 0, none⟩), .pointer (some ⟨cb, 0, none⟩), u7, u8, u9, .int .i64 (i : Int), u11, u12, u13, u14, u15, u16, u17, u18, u19, u20, u21, u22, u23, u24, u25, u26, u27, u28, u29, u30, u31, u32, u33, u34, u35, u36, u37, u38, u39, u40, u41, u42, u43, u44, u45, u46, u47, u48, u49, u50, u51, u52, u53, u54, u55, u56, u57, u58, u59, u60, u61, u62, u63, u64, u65, u66, u67, u68, u69, u70, u71, u72, u73, u74, u75, u76, u77, u78, u79, u80, u81, u82, u83, u84, u85, u86, u87, u88, u89, u90, u91, u92, u93, u94, u95, u96, u97, u98, u99, u100, u101, u102, u103, u104, u105, u106, u107, u108, u109, u110, u111, u112, u113, u114, u115, u116, u117, u118, u119], defers := [] } Y := by
  have HKK := Lib.hid hK
  have hcc : Tryz.f11.body.bind (blkOf 3) = some cc := hc
  simp only [Tryz.f11, blkOf, Nat.reduceEqDiff, Option.bind_some, ↓reduceIte, Option.none_or, Option.or_none, Option.some.injEq] at hcc
  subst hcc
  clear hc hK
  have HB := Lib.hid hb
  have HNX := Lib.hid hnx
  clear hb hnx
  obtain ⟨zi, hj0, hj1, hj2, hj3⟩ := info_parts info_func
  obtain ⟨css, hcss⟩ := HB.out.own
  have HOW := Lib.hid hcss
  clear hcss
  go_upto_region 18 with fail
  refine r18_any _ (by kernel_rfl) Y hi HB.out.src _ _ _ _ _ _ _ _ _ _ _ _ _ _ _ _ _ _ _ _ _ _ _ _ _ _ _ _ _ _ _ _ _ _ _ _ _ _ _ _ _ _ _ _ _ _ _ _ _ _ _ _ _ _ _ _ _ _ _ _ _ _ _ _ _ _ _ _ _ _ _ _ _ _ _ _ _ _ _ _ _ _ _ _ _ _ _ _ _ _ _ _ _ _ _ _ _ _ _ _ _ _ _ _ _ _ _ _ _ _ _ _ _ _ _ _ _ _ _ ?_
  intros
  rename_i X1 hx hg1 hs1
  obtain ⟨k, hk, g, g2, rfl, hbk, hgn, hbk2, hgn2⟩ := hx
  have HG1 := Lib.hid hg1; have HS1 := Lib.hid hs1
  have q0 := hbk.cell 0; have q1 := hbk.cell 1; have q2 := hbk.cell 2; have q3 := hbk.cell 3
  have hb1 := HB.out.step mono_head hg1 hs1
  have p2 := hb1.blk.cell 2
  have hown := HB.out.row2 mono_head hg1 (below1 X1 (.cells #[.string (nmF i), .slice (some ⟨g2, 0, none⟩) k 6, .slice none 0 0, .slice none 0 0] 49)) HNX.out HOW.out
  have hsz : W.heap.size ≤ X1.heap.size := Nat.le_trans HB.out.gr.size hg1.size
  have hok : ∀ b, b = g2 → W.heap.size ≤ b ∧ b < X1.heap.size ∧ (.slice Ax nx cx : Value).ownBlock ≠ some b := fun b hbe => by subst hbe; exact ⟨Nat.le_trans HB.out.gr.size hgn2, hbk2.lt, fun e => by have := HOW.out.lt _ e; omega⟩
  have hhd : RHead X1 (fun b => b = g2) [.string (nmF i), .slice (some ⟨g2, 0, none⟩) k 6, .slice none 0 0, .slice none 0 0] (nmF i, paramsL.take k) := by
    have hlen : (paramsL.take k).length = k := by rw [List.length_take]; show min k 6 = k; omega
    refine ⟨some ⟨g2, 0, none⟩, 6, by rw [show (nmF i, paramsL.take k).2.length = k from hlen], ?_⟩
    rw [show (nmF i, paramsL.take k).2.length = k from hlen]
    exact (strs_of_blk (n := 6) (l := paramsL) hbk2 rfl rfl (by decide)).take (by omega)
  have HOK := Lib.hid hok; have HHD := Lib.hid hhd
  clear hg1 hs1 hbk hbk2 hb1 hok hhd
  go_wp2_with (at_builtin; refine wpList_append_lies _ rfl _ _ _ rfl W.heap.size 49 zi _ 4 88 Tryz.underlying25 hj0 hj1 hj2 hj3 rfl (by decide) (.slice Ax nx cx) nx css.flatten rfl hown ⟨X1.heap.size, 0, none⟩ 1 1 [.string (nmF i), .slice (some ⟨g2, 0, none⟩) k 6, .slice none 0 0, .slice none 0 0] rfl rfl (World.news_of_block (cs := #[.string (nmF i), .slice (some ⟨g2, 0, none⟩) k 6, .slice none 0 0, .slice none 0 0]) (t := 49) (fr := (0, 0)) (heap_alloc_new X1 _)) (by simp [Value.oneCell']) (by decide) (by unfold maxLen; omega) (by omega) (by simp; omega) (X1.heap.size + 1) (by simp) ?_; intro gp cp X3 hown3 hgrow3 hat3 hlt3; have hb3 := HB.out.app mono_head HG1.out HS1.out (below1 X1 (.cells #[.string (nmF i), .slice (some ⟨g2, 0, none⟩) k 6, .slice none 0 0, .slice none 0 0] 49)) HNX.out HOW.out HOK.out HHD.out rfl trivial hown3 hgrow3 (by rcases hat3 with h | h; exact .inl h; exact .inr (by rw [h]; simp)); have HB3 := Lib.hid hb3; have kc := hb3.blk.cell 2; have kz := hb3.blk.frozen 2; clear hb3 hown3 hgrow3 hat3)
  exact HKK.out _ _ _ _ _ _ _ _ _ _ _ _ _ _ _ _ _ ⟨_, _, k, hk, HB3.out.set mono_head 2 _⟩
theorem grown_none {w w' : World} {r : Option Nat} (h : w.grownBy w' none) : w.grownBy w' r := ⟨h.os, h.tape, h.output, h.size, fun k hk _ => h.block k hk (fun e => by cases e)⟩
theorem grown_into {w X Y : World} {r : Option Nat} (h : w.grownBy X none) (hg : X.grownBy Y r) (hr : ∀ k, r = some k → w.heap.size ≤ k) : w.grownBy Y none := ⟨hg.os.trans h.os, hg.tape.trans h.tape, hg.output.trans h.output, Nat.le_trans h.size hg.size, fun k hk hne => (hg.block k (Nat.lt_of_lt_of_le hk h.size) (fun e => by have := hr k e.symm; omega)).trans (h.block k hk hne)⟩
theorem news_strs {X : World} {ok : Nat → Prop} {A : Option Addr} {n c : Nat} {l : List ByteArray} (h : SlR X ok 1 RStr (.slice A n c) l) (hn : n = l.length) : (l.map Value.string).length = n * 1 ∧ (n = 0 ∨ ∃ ad, A = some ad ∧ ∀ j u, (l.map Value.string)[j]? = some u → X.cell? (ad.add j) = some u) ∧ ∀ u ∈ l.map Value.string, u.oneCell' = true := by
  refine ⟨by simp [hn], ?_, fun u hu => ?_⟩
  · by_cases h0 : 0 < l.length
    · obtain ⟨b, o, c', hv, _, _, _, hel⟩ := h.form h0
      have hA : A = some ⟨b, o, none⟩ := by injection hv
      have hcl : Cells X b o (l.map Value.string) := fun j hj => by
        have hj2 : j < l.length := by simpa using hj
        obtain ⟨cs, _, hcs, hcell⟩ := hel j hj2
        obtain rfl : cs = [.string l[j]] := hcs
        have h2 := hcell.at_ (j := 0) rfl
        rw [List.getElem_map]
        simpa using h2
      exact .inr ⟨⟨b, o, none⟩, hA, hcl.news⟩
    · exact .inl (by omega)
  · obtain ⟨s, _, rfl⟩ := List.mem_map.1 hu; rfl
/-- what a program's heads are like -/
structure HeadsOk (hs : List (ByteArray × List ByteArray)) (as_ : List (ByteArray × Int)) : Prop where
  heads : ∀ x ∈ hs, nameB x.1 = true ∧ x.2.length ≤ 6 ∧ ∀ s ∈ x.2, nameB s = true
  arrs : ∀ x ∈ as_, nameB x.1 = true
  few : hs.length ≤ 3
  fewA : as_.length ≤ 2
def scpAt (hs : List (ByteArray × List ByteArray)) (as_ : List (ByteArray × Int)) (x : ByteArray × List ByteArray) (m : Nat) : Scp := ⟨x.2 ++ localsL.take m, as_.map (·.1), hs.map fun y => (y.1, y.2.length)⟩
theorem scp_ok {hs : List (ByteArray × List ByteArray)} {as_ : List (ByteArray × Int)} {x : ByteArray × List ByteArray} {m : Nat} (h : HeadsOk hs as_) (hx : x ∈ hs) (hm : m ≤ 5) : ScFull (scpAt hs as_ x m) := by
  have hl : ∀ s ∈ localsL, nameB s = true := by decide +kernel
  refine ⟨⟨fun s hs => ?_, fun s hs => ?_, fun y hy => ?_, ?_, ?_, ?_⟩, ?_⟩
  · rcases List.mem_append.1 hs with h1 | h1
    · exact (h.heads x hx).2.2 s h1
    · exact hl s (List.mem_of_mem_take h1)
  · obtain ⟨a, ha, rfl⟩ := List.mem_map.1 hs; exact h.arrs a ha
  · obtain ⟨a, ha, rfl⟩ := List.mem_map.1 hy; exact ⟨(h.heads a ha).1, (h.heads a ha).2.1⟩
  · show (x.2 ++ localsL.take m).length ≤ 400
    have := (h.heads x hx).2.1
    rw [List.length_append, List.length_take]; omega
  · show (as_.map (·.1)).length ≤ 400
    rw [List.length_map]; have := h.fewA; omega
  · show (hs.map fun y => (y.1, y.2.length)).length ≤ 400
    rw [List.length_map]; have := h.few; omega
  · show 0 < (hs.map fun y => (y.1, y.2.length)).length
    rw [List.length_map]; exact List.length_pos_of_mem hx
theorem SlR.mapped {α β : Type} {w : World} {ok : Nat → Prop} {sz : Nat} {R : List Value → α → Prop} {R' : List Value → β → Prop} {v : Value} {l : List α} (f : α → β) (h : SlR w ok sz R v l) (hR : ∀ cs x, x ∈ l → R cs x → R' cs (f x)) : SlR w ok sz R' v (l.map f) := by
  obtain ⟨A, c, hv, h1, h2, h3⟩ := h
  refine ⟨A, c, by rw [List.length_map]; exact hv, by rw [List.length_map]; exact h1, h2, ?_⟩
  rcases h3 with rfl | ⟨b, off, hA, hb, hi⟩
  · exact .inl rfl
  · refine .inr ⟨b, off, hA, hb, fun i hi2 => ?_⟩
    have hi3 : i < l.length := by simpa using hi2
    obtain ⟨cs, q1, q2, q3⟩ := hi i hi3
    exact ⟨cs, q1, by rw [List.getElem_map]; exact hR _ _ (List.getElem_mem _) q2, q3⟩
theorem sc_at {X : World} {sb m cv : Nat} {Av Aa Ah : Option Addr} {na ca nh ch : Nat} {hs : List (ByteArray × List ByteArray)} {as_ : List (ByteArray × Int)} {x : ByteArray × List ByteArray} {ok : Nat → Prop} (hok : ∀ b, ok b → b < X.heap.size ∧ b ≠ sb)
    (hv : SlR X ok 1 RStr (.slice Av (x.2 ++ localsL.take m).length cv) (x.2 ++ localsL.take m)) (ha : SlR X ok 2 RArr (.slice Aa na ca) as_) (hh : SlR X ok 4 (RHead X ok) (.slice Ah nh ch) hs) (hna : na = as_.length) (hnh : nh = hs.length) : ScAt X sb (scpAt hs as_ x m) Av Aa Ah cv ca ch := by
  subst hna hnh
  refine ⟨hv.imp hok (fun _ _ => rfl) fun _ _ _ r => r, ?_, ?_⟩
  · have h := (ha.imp hok (fun _ _ => rfl) fun _ _ _ r => r).mapped (R' := RArrN) (fun y : ByteArray × Int => y.1) (fun cs y _ r => ⟨y.2, show cs = [.string y.1, .int .i64 y.2] from r⟩)
    rw [← show (as_.map (·.1)).length = as_.length from List.length_map _] at h
    exact h
  · have h := (hh.imp hok (fun _ _ => rfl) fun _ _ _ r => r).mapped (R' := RFunN) (fun y => (y.1, y.2.length)) (fun cs y _ r => by obtain ⟨A, c, e, _⟩ := r; exact ⟨A, c, e⟩)
    rw [← show (hs.map fun y => (y.1, y.2.length)).length = hs.length from List.length_map _] at h
    exact h
set_option maxRecDepth 100000 in
set_option maxHeartbeats 8000000 in
theorem rb_any (cc : Code) (hc : (Tryz.f11.body.bind (blkOf 5)) = some cc) (Y : World) {W : World} {lo sb cb pb i nx cx nh ch na ca : Nat} {Ax Ah Aa : Option Addr} {l : List LFunc} {hs : List (ByteArray × List ByteArray)} {as_ : List (ByteArray × Int)} (hi : i < hs.length) (hb : BoxX 49 4 (RFuncM 8) lo W sb Y pb 27 #[.slice Aa na ca, .slice Ax nx cx] (fun _ => True) (.slice Ax nx cx) (l)) (hnx : nx = l.length) (hn1 : nx ≤ 3) (hcb : Blk W cb 61 #[.slice none 0 0, .slice Aa na ca, .slice Ah nh ch, .bool false, .bool false]) (hc1 : cb ≠ sb) (hc2 : cb ≠ pb) (hh : SlR W (fun b => lo ≤ b ∧ b < W.heap.size) 4 (RHead W (fun b => lo ≤ b ∧ b < W.heap.size)) (.slice Ah nh ch) hs) (ha : SlR W (fun b => b < W.heap.size ∧ b ≠ sb ∧ b ≠ pb) 2 RArr (.slice Aa na ca) as_) (hnh : nh = hs.length) (hna : na = as_.length) (hgood : HeadsOk hs as_)
    (Q : Exit → Act → World → Prop) (hQ : ∀ p (a : Act) t (v : Value) (w' : World), Q (Exit.panic p) (a.put t v) w' → Q (Exit.panic p) a w') (u0 u1 u2 u3 u4 u8 u9 u10 u11 u13 u14 u15 u16 u17 u18 u19 u20 u21 u22 u23 u24 u25 u26 u27 u28 u29 u30 u31 u32 u33 u34 u35 u36 u37 u38 u39 u40 u41 u42 u43 u44 u45 u46 u47 u48 u49 u50 u51 u52 u53 u54 u55 u56 u57 u58 u59 u60 u61 u62 u63 u64 u65 u66 u67 u68 u69 u70 u71 u72 u73 u74 u75 u76 u77 u78 u79 u80 u81 u82 u83 u84 u85 u86 u87 u88 u89 u90 u91 u92 u93 u94 u95 u96 u97 u98 u99 u100 u101 u102 u103 u104 u105 u106 u107 u108 u109 u110 u111 u112 u113 u114 u115 u116 u117 u118 u119 : Value)
    (hK : ∀ (x13 x14 x91 x92 x93 x94 x95 x96 x97 x98 x99 x100 x101 x102 x103 x104 x105 x106 x107 x108 x109 x110 x111 x112 x113 x114 x115 x116 x117 x118 : Value) (w' : World), (∃ (Ap : Option Addr) (cp m : Nat) (body : List LStmt), m < 6 ∧ (∀ s ∈ body, GoodS (scpAt hs as_ hs[i] m) 4 false s) ∧ body.length ≤ 4 ∧ BoxX 49 4 (RFuncM 8) lo W sb w' pb 27 #[.slice Aa na ca, .slice Ap (nx + 1) cp] (fun _ => True) (.slice Ap (nx + 1) cp) (l ++ [⟨hs[i].1, hs[i].2, localsL.take m, body⟩])) → Q .normal { tmps := #[u0, u1, u2, u3, u4, .pointer (some ⟨sb, 0, none⟩), .pointer (some ⟨cb, 0, none⟩), .pointer (some ⟨pb, 0, none⟩), u8, u9, u10, u11, .int .i64 (i : Int), x13, x14, u15, u16, u17, u18, u19, u20, u21, u22, u23, u24, u25, u26, u27, u28, u29, u30, u31, u32, u33, u34, u35, u36, u37, u38, u39, u40, u41, u42, u43, u44, u45, u46, u47, u48, u49, u50, u51, u52, u53, u54, u55, u56, u57, u58, u59, u60, u61, u62, u63, u64, u65, u66, u67, u68, u69, u70, u71, u72, u73, u74, u75, u76, u77, u78, u79, u80, u81, u82, u83, u84, u85, u86, u87, u88, u89, u90, x91, x92, x93, x94, x95, x96, x97, x98, x99, x100, x101, x102, x103, x104, x105, x106, x107, x108, x109, x110, x111, x112, x113, x114, x115, x116, x117, x118, u119], defers := [] } w') : (Code.block 5 cc).wp Tryz.prog Q { tmps := #[u0, u1, u2, u3, u4, .pointer (some ⟨sb, 0, none⟩), .pointer (some ⟨cb, 0, none⟩), .pointer (some ⟨pb, 0, none⟩), u8, u9, u10, u11, .int .i64 (i : Int), u13, u14, u15, u16, u17, u18, u19, u20, u21, u22, u23, u24, u25, u26, u27, u28, u29, u30, u31, u32, u33, u34, u35, u36, u37, u38, u39, u40, u41, u42, u43, u44, u45, u46, u47, u48, u49, u50, u51, u52, u53, u54, u55, u56, u57, u58, u59, u60, u61, u62, u63, u64, u65, u66, u67, u68, u69, u70, u71, u72, u73, u74, u75, u76, u77, u78, u79, u80, u81, u82, u83, u84, u85, u86, u87, u88, u89, u90, u91, u92, u93, u94, u95, u96, u97, u98, u99, u100, u101, u102, u103, u104, u105, u106, u107, u108, u109, u110, u111, u112, u113, u114, u115, u116, u117, u118, u119], defers := [] } Y := by
  have HKK := Lib.hid hK
  have HQ := Lib.hid hQ
  have hcc : Tryz.f11.body.bind (blkOf 5) = some cc := hc
  simp only [Tryz.f11, blkOf, Nat.reduceEqDiff, Option.bind_some, ↓reduceIte, Option.none_or, Option.or_none, Option.some.injEq] at hcc
  subst hcc
  clear hc hK hQ
  have HB := Lib.hid hb
  have HNX := Lib.hid hnx
  have HGOOD := Lib.hid hgood
  have HNH := Lib.hid hnh
  have HNA := Lib.hid hna
  obtain ⟨zi, hj0, hj1, hj2, hj3⟩ := info_parts info_func
  obtain ⟨zs, hk0, hk1, hk2, hk3⟩ := info_parts info_string
  obtain ⟨css, hcss⟩ := HB.out.own
  have HOW := Lib.hid hcss
  clear hcss
  obtain ⟨x, hx⟩ : ∃ x, x = hs[i] := ⟨_, rfl⟩
  have hmem : x ∈ hs := by rw [hx]; exact List.getElem_mem _
  have HMEM := Lib.hid hmem
  rw [← hx] at HKK
  obtain ⟨b, off, ch', hform, _, hlm, hbl, hel⟩ := hh.form (by omega)
  obtain ⟨rfl, rfl⟩ : Ah = some ⟨b, off, none⟩ ∧ ch = ch' := by rw [hnh] at hform; injection hform with h1 _ h2; exact ⟨h1, h2⟩
  obtain ⟨cs, _, ⟨Ap, cpp, hcs, hpar⟩, hcell⟩ := hel i hi
  rw [← hx] at hcs hpar
  subst hcs
  have hcellY := hcell.keep (HB.out.gr.block b hbl.2 (by have := hbl.1; have := HB.out.ne; have := HB.out.gt; omega) (by have := hbl.1; have := HB.out.gt; omega))
  obtain ⟨np, hnp⟩ : ∃ n, n = x.2.length := ⟨_, rfl⟩
  rw [← hnp] at hcellY hpar
  have e0 : Y.cell? ⟨b, off + i * 4, none⟩ = some (.string x.1) := by have h := hcellY.at_ (j := 0) rfl; simpa using h
  have e1 : Y.cell? ⟨b, off + i * 4 + 1, none⟩ = some (.slice Ap np cpp) := by have h := hcellY.at_ (j := 1) rfl; simpa using h
  have e2 : Y.cell? ⟨b, off + i * 4 + 2, none⟩ = some (.slice none 0 0) := by have h := hcellY.at_ (j := 2) rfl; simpa using h
  have e3 : Y.cell? ⟨b, off + i * 4 + 3, none⟩ = some (.slice none 0 0) := by have h := hcellY.at_ (j := 3) rfl; simpa using h
  have hcbY : Blk Y cb 61 #[.slice none 0 0, .slice Aa na ca, .slice (some ⟨b, off, none⟩) nh ch, .bool false, .bool false] := HB.out.gr.other hcb hc1 hc2
  have c2 := hcbY.cell 2
  have HCB := Lib.hid hcbY
  have hnp6 : np ≤ 6 := by rw [hnp]; exact (hgood.heads x hmem).2.1
  have HNP := Lib.hid hnp
  have hinh : (i : Int) < (nh : Int) := by omega
  have hih : i < nh := by omega
  have hnh3 : nh ≤ 3 := by rw [hnh]; exact hgood.few
  have HPAR : Hid (∀ X, Y.grownBy X (some sb) → SlR X (okX lo X (.slice Ax nx cx)) 1 RStr (.slice Ap np cpp) x.2) := Lib.hid (fun X hg => hpar.imp (fun q hq => ⟨hq.1, Nat.lt_of_lt_of_le hq.2 (Nat.le_trans HB.out.gr.size hg.size), fun e => by have := HOW.out.row.lt _ e; have := hq.2; omega⟩) (fun q hq => (hg.block q (Nat.lt_of_lt_of_le hq.2 HB.out.gr.size) (fun e => by have := Option.some.inj e; have := hq.1; have := HB.out.ne; have := HB.out.gt; omega)).trans (HB.out.gr.block q hq.2 (by have := hq.1; have := HB.out.ne; have := HB.out.gt; omega) (by have := hq.1; have := HB.out.gt; omega))) fun _ _ _ r => r)
  have HHD : Hid (∀ X, Y.grownBy X (some sb) → SlR X (fun b => lo ≤ b ∧ b < W.heap.size) 4 (RHead X (fun b => lo ≤ b ∧ b < W.heap.size)) (.slice (some ⟨b, off, none⟩) nh ch) hs) := Lib.hid (fun X hg => (HB.out.gr.grown hg).slr mono_head hh (fun q hq => ⟨hq.2, by have := hq.1; have := HB.out.ne; have := HB.out.gt; omega, by have := hq.1; have := HB.out.gt; omega⟩))
  have HAR : Hid (∀ X, Y.grownBy X (some sb) → SlR X (fun b => b < W.heap.size ∧ b ≠ sb ∧ b ≠ pb) 2 RArr (.slice Aa na ca) as_) := Lib.hid (fun X hg => (HB.out.gr.grown hg).slr mono_arr ha (fun _ h => h))
  have HWY : Hid (W.heap.size ≤ Y.heap.size) := Lib.hid HB.out.gr.size
  have HHI := Lib.hid hi
  have HBL := Lib.hid (show b < Y.heap.size ∧ cb < Y.heap.size ∧ sb < Y.heap.size from ⟨Nat.lt_of_lt_of_le hbl.2 HB.out.gr.size, hcbY.lt, HB.out.src.lt⟩)
  have HC1 := Lib.hid hc1
  clear hb hnx hcb hh ha hnh hna hgood hx hmem hform hel hcell hcellY hpar hnp hcbY hbl hlm hc1 hc2 hi
  go_upto_region 24 with fail
  refine wp_world ?_
  intro Y1 hY1
  have hg1 : Y.grownBy Y1 (some sb) := by rw [← hY1]; exact World.grownBy_alloc _ _ _
  have hs1 : SrcAt Y1 sb := by rw [← hY1]; exact HB.out.src.below (below1 _ _)
  have hf1 : Blk Y1 Y.heap.size 49 #[.string x.1, .slice Ap np cpp, .slice none 0 0, .slice none 0 0] := by rw [← hY1]; exact Blk.new _ _ _
  obtain ⟨gf, hgf⟩ : ∃ g, Y.heap.size = g := ⟨_, rfl⟩
  rw [hgf] at hf1 ⊢
  have HG1 := Lib.hid hg1; have HS1 := Lib.hid hs1; have HF1 := Lib.hid hf1; have HGF := Lib.hid hgf
  clear hY1 hg1 hs1 hf1 hgf e0 e1 e2 e3 c2
  go_upto_region 25 with fail
  refine (next_any _ sb 6 (by omega) (HS1.out.below (below1 Y1 (.cells #[.string ⟨#[120]⟩, .string ⟨#[121]⟩, .string ⟨#[122]⟩, .string ⟨#[105]⟩, .string ⟨#[107]⟩] 9)))).mono ?_
  rintro e Y3 ⟨⟨m, hm, rfl⟩, hs3, hg3⟩
  have HS3 := Lib.hid hs3
  have HG3 := Lib.hid (HG1.out.trans ((grown_below' (row := some sb) (below1 Y1 (.cells #[.string ⟨#[120]⟩, .string ⟨#[121]⟩, .string ⟨#[122]⟩, .string ⟨#[105]⟩, .string ⟨#[107]⟩] 9))).trans hg3))
  have hl3 := (Blk.new Y1 9 #[.string ⟨#[120]⟩, .string ⟨#[121]⟩, .string ⟨#[122]⟩, .string ⟨#[105]⟩, .string ⟨#[107]⟩]).grown hg3 (fun e => by have := Option.some.inj e; have := HS1.out.lt; omega)
  have hf3 := (HF1.out.grown (grown_below' (row := some sb) (below1 Y1 (.cells #[.string ⟨#[120]⟩, .string ⟨#[121]⟩, .string ⟨#[122]⟩, .string ⟨#[105]⟩, .string ⟨#[107]⟩] 9))) (fun e => by have := Option.some.inj e; have := HGF.out; have := HBL.out; omega)).grown hg3 (fun e => by have := Option.some.inj e; have := HGF.out; have := HBL.out; omega)
  have HL3 := Lib.hid hl3
  have HF3 := Lib.hid hf3
  have kc := hf3.cell 2
  have kz := hf3.frozen 2
  have hm5 : m ≤ 5 := by omega
  have hm6 : (m : Int) ≤ 5 := by omega
  have hm7 : ¬ (m : Int) < 0 := by omega
  have hm8 : (0 : Int) ≤ (m : Int) := by omega
  have HM := Lib.hid hm
  clear hs3 hg3 hl3 hf3
  go_upto_region 25 with fail
  refine wp_world ?_
  intro Y4 hY4
  have hgy : Y.heap.size ≤ gf := Nat.le_of_eq HGF.out
  have hg4 : Y.grownBy Y4 (some sb) := by rw [← hY4]; exact grown_own HG3.out gf hgy 2 _
  have hs4 : SrcAt Y4 sb := by rw [← hY4]; exact HS3.out.keep fun k hk => Below.heap_setCell Y3 ⟨gf, 2, none⟩ _ k (by show k ≠ gf; have := HBL.out; omega)
  have hf4 : Blk Y4 gf 49 #[.string x.1, .slice Ap np cpp, (.slice (some ⟨Y1.heap.size, 0, none⟩) m 5), .slice none 0 0] := by rw [← hY4]; exact HF3.out.set_ 2 _
  have hl4 : Blk Y4 Y1.heap.size 9 #[.string ⟨#[120]⟩, .string ⟨#[121]⟩, .string ⟨#[122]⟩, .string ⟨#[105]⟩, .string ⟨#[107]⟩] := by rw [← hY4]; exact HL3.out.far (p := ⟨gf, 2, none⟩) (HL3.out.unlike HF3.out (by decide)) _
  have hcb4 : Blk Y4 cb 61 #[.slice none 0 0, .slice Aa na ca, .slice (some ⟨b, off, none⟩) nh ch, .bool false, .bool false] := HCB.out.grown hg4 (fun e => HC1.out (Option.some.inj e).symm)
  have HG4 := Lib.hid hg4; have HS4 := Lib.hid hs4; have HF4 := Lib.hid hf4; have HL4 := Lib.hid hl4
  have hly : Y.heap.size ≤ Y1.heap.size := HG1.out.size
  have HLY := Lib.hid hly
  have HGY := Lib.hid hgy
  have c0 := hcb4.cell 0
  have c1 := hcb4.cell 1
  have c2 := hcb4.cell 2
  have c3 := hcb4.cell 3
  have c4 := hcb4.cell 4
  clear hY4 hg4 hs4 hf4 hl4 hcb4 hgy hly kc kz
  obtain ⟨gl, hgl⟩ : ∃ g, Y1.heap.size = g := ⟨_, rfl⟩
  rw [hgl] at HF4 HL4 HLY ⊢
  clear hgl
  go_upto_region 26 with fail
  refine wp_world ?_
  intro Y5 hY5
  have hb5 : Below Y4.heap.size Y4 Y5 := by rw [← hY5]; exact below1 _ _
  have hi5 : Blk Y5 Y4.heap.size 61 #[.slice none 0 0, .slice Aa na ca, .slice (some ⟨b, off, none⟩) nh ch, .bool false, .bool false] := by rw [← hY5]; exact Blk.new _ _ _
  have hf5 : Blk Y5 gf 49 #[.string x.1, .slice Ap np cpp, (.slice (some ⟨gl, 0, none⟩) m 5), .slice none 0 0] := HF4.out.below hb5 HF4.out.lt
  have hl5 : Blk Y5 gl 9 #[.string ⟨#[120]⟩, .string ⟨#[121]⟩, .string ⟨#[122]⟩, .string ⟨#[105]⟩, .string ⟨#[107]⟩] := HL4.out.below hb5 HL4.out.lt
  have hsz5 : Y4.heap.size < Y5.heap.size := hi5.lt
  have HG5 : Hid (Y.grownBy Y5 (some sb)) := Lib.hid (HG4.out.trans (grown_below' (row := some sb) hb5))
  have HS5 : Hid (SrcAt Y5 sb) := Lib.hid (HS4.out.below hb5)
  obtain ⟨gi, hgi⟩ : ∃ g, Y4.heap.size = g := ⟨_, rfl⟩
  rw [hgi] at hi5 hsz5 ⊢
  have HGI : Hid (Y.heap.size ≤ gi) := Lib.hid (by rw [← hgi]; exact HG4.out.size)
  have hne1 : gf ≠ gi := by rw [← hgi]; have := HF4.out.lt; omega
  have HNE1 := Lib.hid hne1
  have HI5 := Lib.hid hi5; have HF5 := Lib.hid hf5; have HL5 := Lib.hid hl5
  clear hY5 hb5 hi5 hf5 hl5 hgi c0 c1 c2 c3 c4
  clear HF1 HF3 HL3 HF4 HL4 HS1 HS3 HS4 HG3 HG4 HCB
  have SO : Hid (∀ X, Y5.grownBy X none → (fun X => X.cell? ⟨gf, 1, none⟩ = some (.slice Ap np cpp) ∧ X.cell? ⟨gf, 2, none⟩ = some (.slice (some ⟨gl, 0, none⟩) m 5)) X) := Lib.hid (fun X h => have hq := HF5.out.grown h (fun e => by cases e); ⟨hq.cell 1, hq.cell 2⟩)
  have HX0 : Hid (Y5.grownBy Y5.drew none) := Lib.hid (grown_below' (Below.refl _ _).drew)
  refine wp_region_L (by kernel_rfl) 7 (fun X => X.cell? ⟨gf, 1, none⟩ = some (.slice Ap np cpp) ∧ X.cell? ⟨gf, 2, none⟩ = some (.slice (some ⟨gl, 0, none⟩) m 5)) (SO.out _ HX0.out) (fun hHeld => ?_)
  have HS0 := Lib.hid hHeld
  clear hHeld
  change wpAnyL _ _ _ _ _ 7 8 (Array.replicate 8 false) _ _
  obtain ⟨X0, hX0⟩ : ∃ X0, Y5.drew = X0 := ⟨_, rfl⟩
  rw [hX0] at HX0 HS0 ⊢
  clear hX0
  refine takeL 0 102 (.pointer (some ⟨gf, 1, none⟩)) HS0.out rfl rfl (by kernel_rfl) (by kernel_rfl) (by kernel_rfl) (by decide) (fun _ _ _ h => HQ.out _ _ _ _ _ h) (by kernel_rfl) ?_ ?_
  · intro w2; go_simp
  try simp only [sA, sB, sC]
  refine takeL_S 1 103 (.slice Ap np cpp) [7] HS0.out rfl rfl (by kernel_rfl) (by kernel_rfl) (by kernel_rfl) (by decide) (by kernel_rfl) (fun _ _ _ h => HQ.out _ _ _ _ _ h) (by kernel_rfl) ?_ ?_
  · intro w2 hSw; obtain ⟨g0, g1⟩ := hSw; go_simp
  try simp only [sA, sB, sC]
  refine takeL 3 105 (.pointer (some ⟨gf, 2, none⟩)) HS0.out rfl rfl (by kernel_rfl) (by kernel_rfl) (by kernel_rfl) (by decide) (fun _ _ _ h => HQ.out _ _ _ _ _ h) (by kernel_rfl) ?_ ?_
  · intro w2; go_simp
  try simp only [sA, sB, sC]
  refine takeL_S 4 106 ((.slice (some ⟨gl, 0, none⟩) m 5)) [7] HS0.out rfl rfl (by kernel_rfl) (by kernel_rfl) (by kernel_rfl) (by decide) (by kernel_rfl) (fun _ _ _ h => HQ.out _ _ _ _ _ h) (by kernel_rfl) ?_ ?_
  · intro w2 hSw; obtain ⟨g0, g1⟩ := hSw; go_simp
  try simp only [sA, sB, sC]
  have hw1 := news_strs (HPAR.out X0 (HG5.out.trans (grown_none HX0.out))) HNP.out
  have HW1 := Lib.hid hw1
  clear hw1
  refine wpAnyL_ready (rs := [2]) (by kernel_rfl) (by simp) ?_
  refine AllReadyL.cons rfl (fun K hK => ?_) AllReadyL.nil
  refine step_append_any _ (by rfl) _ _ _ (by rfl) Y5.heap.size 9 zs _ 1 16 Tryz.underlying47 hk0 hk1 hk2 hk3 rfl (by omega) (.slice none 0 0) 0 ([]) (by rfl) (World.ownsRow_nil _ _ _ _) (Ap) np cpp (x.2.map Value.string) (by rfl) HW1.out.1 HW1.out.2.1 HW1.out.2.2 (by unfold maxLen; omega) (by omega) (HX0.out.size) X0.heap.size rfl ?_
  intro v1 X1 hown1 hgrow1 hat1
  have hgn : X0.grownBy X1 none := hgrow1
  have HX1 := Lib.hid (HX0.out.trans hgn)
  have HO1 := Lib.hid hown1
  have HA1 := Lib.hid hat1
  clear hown1 hgrow1 hat1 hgn
  refine hK.out _ _ (SO.out _ HX1.out) (fun hHeld => ?_)
  have HS1 := Lib.hid hHeld
  clear hK K hHeld
  try simp only [sA, sB, sC]
  have hl1 := HL5.out.grown HX1.out (fun e => by cases e)
  have hw2 := news_strs ((strs_of_blk (n := 5) (l := localsL) hl1 rfl rfl (by decide)).take hm5) (show m = (localsL.take m).length by rw [List.length_take]; show m = min m 5; omega)
  have HW2 := Lib.hid hw2
  clear hl1 hw2
  refine wpAnyL_ready (rs := [5]) (by kernel_rfl) (by simp) ?_
  refine AllReadyL.cons rfl (fun K hK => ?_) AllReadyL.nil
  refine step_append_any _ (by rfl) _ _ _ (by rfl) Y5.heap.size 9 zs _ 1 16 Tryz.underlying47 hk0 hk1 hk2 hk3 rfl (by omega) (v1) (0 + np) ([] ++ x.2.map Value.string) (by rfl) (HO1.out) (some ⟨gl, 0, none⟩) m 5 ((localsL.take m).map Value.string) (by rfl) HW2.out.1 HW2.out.2.1 HW2.out.2.2 (by unfold maxLen; omega) (by omega) (HX1.out.size) X1.heap.size rfl ?_
  intro v2 X2 hown2 hgrow2 hat2
  have HX2 := Lib.hid (grown_into HX1.out hgrow2 (fun k e => (HO1.out.lt k e).1))
  obtain ⟨nn, hnn⟩ : ∃ n, n = 0 + np + m := ⟨_, rfl⟩
  rw [← hnn] at hown2
  obtain ⟨Av2, cv2, hv2⟩ := own_form hown2
  subst hv2
  have hvs := strs_of_own (ok := fun b => Y5.heap.size ≤ b ∧ b < X2.heap.size) (l := x.2 ++ localsL.take m) (by have h := hown2; rw [List.nil_append, ← List.map_append] at h; exact h) (fun g e => hown2.lt g e)
  have hnv : nn = (x.2 ++ localsL.take m).length := by have h := HNP.out; rw [hnn, List.length_append, List.length_take, ← h]; show 0 + np + m = np + min m 5; omega
  have HVS := Lib.hid hvs; have HNV := Lib.hid hnv
  clear hown2 hgrow2 hat2 hnn hvs hnv
  refine hK.out _ _ (SO.out _ HX2.out) (fun hHeld => ?_)
  have HS2 := Lib.hid hHeld
  clear hK K hHeld
  try simp only [sA, sB, sC]
  refine takeL 6 108 (.pointer (some ⟨gi, 0, none⟩)) HS2.out rfl rfl (by kernel_rfl) (by kernel_rfl) (by kernel_rfl) (by decide) (fun _ _ _ h => HQ.out _ _ _ _ _ h) (by kernel_rfl) ?_ ?_
  · intro w2; go_simp
  try simp only [sA, sB, sC]
  refine wpAnyL_ready (rs := [7]) (by kernel_rfl) (by simp) ?_
  refine AllReadyL.last rfl (by kernel_rfl) (fun K hK => ?_)
  have hi2 := HI5.out.grown HX2.out (fun e => by cases e)
  have kc := hi2.cell 0; have kz := hi2.frozen 0
  clear hi2
  go_simp
  refine hK.out _ _ ?_
  clear hK K
  try simp only [sA, sB, sC]
  refine wpAnyL_done (by kernel_rfl) ?_ _
  clear HW1 HW2 HO1 HA1
  go_upto_region 27 with fail
  refine wp_world ?_
  intro Y8 hY8
  have hx2 : Y.grownBy X2 (some sb) := HG5.out.trans (grown_none HX2.out)
  have hgi2 : Y.heap.size ≤ gi := HGI.out
  have hg8 : Y.grownBy Y8 (some sb) := by rw [← hY8]; exact grown_own hx2 gi hgi2 0 _
  have hs8 : SrcAt Y8 sb := by rw [← hY8]; exact (HS5.out.grown HX2.out (fun k e => by cases e)).keep fun k hk => Below.heap_setCell X2 ⟨gi, 0, none⟩ _ k (by show k ≠ gi; have := HBL.out; omega)
  have hf8 : Blk Y8 gf 49 #[.string x.1, .slice Ap np cpp, (.slice (some ⟨gl, 0, none⟩) m 5), .slice none 0 0] := by rw [← hY8]; exact (HF5.out.grown HX2.out (fun e => by cases e)).far (p := ⟨gi, 0, none⟩) HNE1.out _
  have hi8 : Blk Y8 gi 61 #[.slice Av2 nn cv2, .slice Aa na ca, .slice (some ⟨b, off, none⟩) nh ch, .bool false, .bool false] := by rw [← hY8]; exact (HI5.out.grown HX2.out (fun e => by cases e)).set_ 0 _
  have hl8 : Blk Y8 gl 9 #[.string ⟨#[120]⟩, .string ⟨#[121]⟩, .string ⟨#[122]⟩, .string ⟨#[105]⟩, .string ⟨#[107]⟩] := by rw [← hY8]; exact (HL5.out.grown HX2.out (fun e => by cases e)).far (p := ⟨gi, 0, none⟩) (HL5.out.unlike HI5.out (by decide)) _
  have hv8 : SlR Y8 (fun b => b < Y8.heap.size ∧ b ≠ sb) 1 RStr (.slice Av2 nn cv2) (x.2 ++ localsL.take m) := by
    have hi5 := HI5.out.lt
    have hb0 := HBL.out.2.2
    rw [← hY8]
    exact HVS.out.imp (fun b hb => ⟨by simpa [World.setCell] using hb.2, by have := hb.1; omega⟩) (fun b hb => Below.heap_setCell X2 ⟨gi, 0, none⟩ _ b (by show b ≠ gi; have := hb.1; omega)) fun _ _ _ r => r
  have hsc : ScAt Y8 sb (scpAt hs as_ x m) Av2 Aa (some ⟨b, off, none⟩) cv2 ca ch := by
    have h1 := (HAR.out Y8 hg8).imp (ok' := fun q => q < Y8.heap.size ∧ q ≠ sb) (fun q hq => ⟨Nat.lt_of_lt_of_le hq.1 (Nat.le_trans HWY.out hg8.size), hq.2.1⟩) (fun _ _ => rfl) fun _ _ _ r => r
    have up2 : ∀ q, (lo ≤ q ∧ q < W.heap.size) → q < Y8.heap.size ∧ q ≠ sb := fun q hq => ⟨Nat.lt_of_lt_of_le hq.2 (Nat.le_trans HWY.out hg8.size), by have := hq.1; have := HB.out.ne; have := HB.out.gt; omega⟩
    have h2 := (HHD.out Y8 hg8).imp (ok' := fun q => q < Y8.heap.size ∧ q ≠ sb) up2 (fun _ _ => rfl) fun _ _ _ r => mono_head _ Y8 _ (fun q => q < Y8.heap.size ∧ q ≠ sb) _ _ r up2 (fun _ _ => rfl)
    exact sc_at (fun _ h => h) (by rw [← HNV.out]; exact hv8) h1 h2 HNA.out HNH.out
  have hst : Calls Tryz.prog 26 #[.agg #[.slice Av2 nn cv2, .slice Aa na ca, .slice (some ⟨b, off, none⟩) nh ch, .bool false, .bool false], .pointer (some ⟨sb, 0, none⟩), .int .i64 4] Y8 (StmtsPost Y8 sb (scpAt hs as_ x m) 4 false) := by
    have h := stmts_all 4 (by decide) (by decide) Y8 sb (scpAt hs as_ x m) Av2 Aa (some ⟨b, off, none⟩) cv2 ca ch false hs8 hsc (scp_ok HGOOD.out HMEM.out hm5)
    rw [show (scpAt hs as_ x m).vars.length = nn from HNV.out.symm, show (scpAt hs as_ x m).arrs.length = na by rw [HNA.out]; exact List.length_map _, show (scpAt hs as_ x m).funs.length = nh by rw [HNH.out]; exact List.length_map _] at h
    exact h
  have HST := Lib.hid hst; have HF8 := Lib.hid hf8; have HL8 := Lib.hid hl8; have HG8 := Lib.hid hg8
  have c0 := hi8.cell 0
  have c1 := hi8.cell 1
  have c2 := hi8.cell 2
  have c3 := hi8.cell 3
  have c4 := hi8.cell 4
  have hgf8 := hf8.lt
  have HGF8 := Lib.hid hgf8
  clear hY8 hx2 hgi2 hg8 hs8 hf8 hi8 hl8 hv8 hsc hst hgf8 HS0 HS1 HS2 SO HI5 HF5 HL5 HX0 HX1 HX2 HVS HG5 HS5
  go_upto_region 28 with fail
  refine HST.out.mono ?_
  rintro e Y9 ⟨⟨body, Ab, cb2, rfl, hgd, hlen, hrow⟩, hs9, hg9⟩
  have hf9 := HF8.out.grown hg9 (fun e => by have := Option.some.inj e; have := HGF.out; have := HBL.out; omega)
  have hl9 := HL8.out.grown hg9 (fun e => by have := Option.some.inj e; have := HLY.out; have := HBL.out; omega)
  have kc := hf9.cell 3; have kz := hf9.frozen 3
  have HF9 := Lib.hid hf9; have HL9 := Lib.hid hl9; have HG9 := Lib.hid (HG8.out.trans hg9); have HS9 := Lib.hid hs9; have HROW := Lib.hid hrow; have HGD := Lib.hid hgd; have HLEN := Lib.hid hlen; have HSZ := Lib.hid hg9.size
  clear hgd hlen hrow hs9 hg9 hf9 hl9 c0 c1 c2 c3 c4
  go_upto_region 28 with fail
  refine wp_world ?_
  intro X1 hX1
  have hgy : Y.heap.size ≤ gf := Nat.le_of_eq HGF.out
  have hg1 : Y.grownBy X1 (some sb) := by rw [← hX1]; exact grown_own HG9.out gf hgy 3 _
  have hs1 : SrcAt X1 sb := by rw [← hX1]; exact HS9.out.keep fun k hk => Below.heap_setCell Y9 ⟨gf, 3, none⟩ _ k (by show k ≠ gf; have := HBL.out; omega)
  have hf1 : Blk X1 gf 49 #[.string x.1, .slice Ap np cpp, (.slice (some ⟨gl, 0, none⟩) m 5), (.slice Ab body.length cb2)] := by rw [← hX1]; exact HF9.out.set_ 3 _
  have hl1 : Blk X1 gl 9 #[.string ⟨#[120]⟩, .string ⟨#[121]⟩, .string ⟨#[122]⟩, .string ⟨#[105]⟩, .string ⟨#[107]⟩] := by rw [← hX1]; exact HL9.out.far (p := ⟨gf, 3, none⟩) (HL9.out.unlike HF9.out (by decide)) _
  have hbd : SlR X1 (okX lo X1 (.slice Ax nx cx)) 5 (RStmt 8 X1 (okX lo X1 (.slice Ax nx cx))) (.slice Ab body.length cb2) body := by
    rw [← hX1]
    have up : ∀ q, fresh Y8 Y9 q → okX lo (Y9.setCell ⟨gf, 3, none⟩ (.slice Ab body.length cb2)) (.slice Ax nx cx) q := fun q hq => ⟨by have := hq.1; have := HG8.out.size; have := HWY.out; have := HB.out.low; omega, by simpa [World.setCell] using hq.2, fun e => by have h1 := HOW.out.row.lt _ e; have := hq.1; have := HG8.out.size; omega⟩
    have kp : Keeps (fresh Y8 Y9) Y9 (Y9.setCell ⟨gf, 3, none⟩ (.slice Ab body.length cb2)) := fun q hq => Below.heap_setCell Y9 ⟨gf, 3, none⟩ _ q (by show q ≠ gf; have := hq.1; have := HGF8.out; omega)
    exact SlR.imp HROW.out up kp fun _ _ _ r => r.imp up kp
  have hlo : SlR X1 (okX lo X1 (.slice Ax nx cx)) 1 RStr (.slice (some ⟨gl, 0, none⟩) m 5) (localsL.take m) :=
    ((strs_of_blk (n := 5) (l := localsL) hl1 rfl rfl (by decide)).take hm5).imp (ok' := okX lo X1 (.slice Ax nx cx)) (fun q hq => by subst hq; exact ⟨by have := HLY.out; have := HWY.out; have := HB.out.low; omega, hl1.lt, fun e => by have h1 := HOW.out.row.lt _ e; have := HLY.out; omega⟩) (fun _ _ => rfl) fun _ _ _ r => r
  have hrf : RFuncM 8 X1 (okX lo X1 (.slice Ax nx cx)) [.string x.1, .slice Ap np cpp, .slice (some ⟨gl, 0, none⟩) m 5, .slice Ab body.length cb2] (LFunc.mk x.1 x.2 (localsL.take m) body) := ⟨_, _, _, rfl, HPAR.out X1 hg1, hlo, hbd⟩
  have q0 := hf1.cell 0
  have q1 := hf1.cell 1
  have q2 := hf1.cell 2
  have q3 := hf1.cell 3
  have hb1 := HB.out.step (mono_func 8) hg1 hs1
  have p0 := hb1.blk.cell 0; have p1 := hb1.blk.cell 1
  have hown := HB.out.row2 (mono_func 8) hg1 (below1 X1 (.cells #[.string x.1, .slice Ap np cpp, .slice (some ⟨gl, 0, none⟩) m 5, .slice Ab body.length cb2] 49)) HNX.out HOW.out
  have hsz : W.heap.size ≤ X1.heap.size := Nat.le_trans HWY.out hg1.size
  have HG1 := Lib.hid hg1; have HS1 := Lib.hid hs1; have HRF := Lib.hid hrf
  clear hX1 hgy hg1 hs1 hf1 hl1 hbd hlo hrf hb1 HF8 HL8 HF9 HL9 HROW kc kz
  go_wp2_with (at_builtin; refine wpList_append_lies _ rfl _ _ _ rfl W.heap.size 49 zi _ 4 88 Tryz.underlying25 hj0 hj1 hj2 hj3 rfl (by decide) (.slice Ax nx cx) nx css.flatten rfl hown ⟨X1.heap.size, 0, none⟩ 1 1 [.string x.1, .slice Ap np cpp, .slice (some ⟨gl, 0, none⟩) m 5, .slice Ab body.length cb2] rfl rfl (World.news_of_block (cs := #[.string x.1, .slice Ap np cpp, .slice (some ⟨gl, 0, none⟩) m 5, .slice Ab body.length cb2]) (t := 49) (fr := (0, 0)) (heap_alloc_new X1 _)) (by simp [Value.oneCell']) (by decide) (by unfold maxLen; omega) (by omega) (by simp; omega) (X1.heap.size + 1) (by simp) ?_; intro gp cp X3 hown3 hgrow3 hat3 hlt3; have hb3 := HB.out.app (mono_func 8) HG1.out HS1.out (below1 X1 (.cells #[.string x.1, .slice Ap np cpp, .slice (some ⟨gl, 0, none⟩) m 5, .slice Ab body.length cb2] 49)) HNX.out HOW.out (fun _ h => h) HRF.out rfl trivial hown3 hgrow3 (by rcases hat3 with h | h; exact .inl h; exact .inr (by rw [h]; simp)); have HB3 := Lib.hid hb3; have kc := hb3.blk.cell 1; have kz := hb3.blk.frozen 1; clear hb3 hown3 hgrow3 hat3)
  exact HKK.out _ _ _ _ _ _ _ _ _ _ _ _ _ _ _ _ _ _ _ _ _ _ _ _ _ _ _ _ _ _ _ ⟨_, _, m, body, hm, HGD.out, HLEN.out, HB3.out.set (mono_func 8) 1 _⟩
end Go.Proofs.YtmignlclfbaifaaGreat
