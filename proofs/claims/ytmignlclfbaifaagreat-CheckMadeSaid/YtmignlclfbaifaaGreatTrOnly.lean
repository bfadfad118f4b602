/- What tree.only tells: an expression with what its kind has alone, how many parts that has, and whether it is so. Printed by wip/gen_tronly.py. -/
import Derived.Test.YtmignlclfbaifaaGreatTrForm
import Derived.Test.YtmignlclfbaifaaGreatTrName
import Derived.Test.YtmignlclfbaifaaGreatRegion
import Derived.Test.YtmignlclfbaifaaGreatArA
namespace Go.Proofs.YtmignlclfbaifaaGreat
open Go.RowKit

theorem results_cell_tmp2 {fn : Func} {p u v : Tmp} {ty : TypeId} (h : fn.results = #[.cell p ty, .tmp u, .tmp v]) (tmps : Array Value) (P : Program) (w : World) :
    (results fn tmps).run P w =
      ((asAddr (tmps.getD p undef)).run P w).andThen fun a w₁ => ((loadVar ty a).run P w₁).andThen fun x w₂ => .ok (.tuple #[x, tmps.getD u undef, tmps.getD v undef]) w₂ := by
  simp only [results, h]
  simp [Sem.run_bind, Result.andThen]
theorem results_cellT2 {P : Program} {fn : Func} {p q r : Tmp} {ty : TypeId} (h : fn.results = #[.cell p ty, .tmp q, .tmp r]) (tmps : Array Value) (w : World) (g : Nat) (t : TypeId) (cs : Array Value) (fr : Nat × Nat) (d : TypeDesc) (x y : Value)
    (hp : tmps.getD p undef = .pointer (some ⟨g, 0, none⟩)) (hq : tmps.getD q undef = x) (hr : tmps.getD r undef = y) (hg : w.heap[g]? = some (.cells cs t fr))
    (hu : P.underlying ty = some d) (hd : (match d with | .struct _ | .array _ _ => true | _ => false) = true) (hi : (P.info? ty).map (·.size) = some cs.size) :
    (results fn tmps).run P w = .ok (.tuple #[.agg cs, x, y]) w := by
  rw [results_cell_tmp2 h, hp, hq, hr]
  have ha : (asAddr (.pointer (some ⟨g, 0, none⟩))).run P w = .ok ⟨g, 0, none⟩ w := rfl
  rw [ha]
  show ((loadVar ty ⟨g, 0, none⟩).run P w).andThen _ = _
  rw [run_loadVar_row w g t ty cs fr d hg hu hd hi]; rfl

set_option maxHeartbeats 4000000 in
theorem only1 (op n : Int) (s : ByteArray) (m c : Nat) (A : Option Addr) (w : World) : Calls Tryz.prog 113 #[.agg #[.int .i64 1, .int .i64 op, .int .i64 n, .string s, .slice A m c]] w fun e w' => e = .returned (.tuple #[.agg #[.int .i64 1, .int .i64 0, .int .i64 n, .string ⟨#[]⟩, .slice none 0 0], .int .i64 0, .bool (decide (0 ≤ n))]) ∧ Below w.heap.size w w' := by
  go_enter Tryz.func113, Tryz.ntmps113
  go_upto_region 5 with fail
  refine wp_world ?_
  intro W hW
  have hX : Blk W (w.heap.size + 1) 42 #[.int .i64 1, .int .i64 0, .int .i64 n, .string ⟨#[]⟩, .slice none 0 0] := by rw [← hW]; exact Blk.new_at _ _ _ (by simp)
  have hG : Blk W w.heap.size 42 #[.int .i64 1, .int .i64 op, .int .i64 n, .string s, .slice A m c] := by rw [← hW]; exact (Blk.new _ _ _).alloc _
  have hB : Below w.heap.size w W := by rw [← hW]; exact below2 _ _ _
  have hs1 : w.heap.size + 1 < W.heap.size := by rw [← hW]; simp
  have SO : Hid (∀ X, (fun X => Blk X (w.heap.size + 1) 42 #[.int .i64 1, .int .i64 0, .int .i64 n, .string ⟨#[]⟩, .slice none 0 0] ∧ Blk X w.heap.size 42 #[.int .i64 1, .int .i64 op, .int .i64 n, .string s, .slice A m c] ∧ Below w.heap.size w X ∧ w.heap.size + 1 < X.heap.size) X → (fun w2 => w2.cell? ⟨w.heap.size + 1, 0, none⟩ = some (.int .i64 1) ∧ w2.cell? ⟨w.heap.size + 1, 1, none⟩ = some (.int .i64 0) ∧ w2.cell? ⟨w.heap.size + 1, 2, none⟩ = some (.int .i64 n) ∧ w2.cell? ⟨w.heap.size + 1, 3, none⟩ = some (.string ⟨#[]⟩) ∧ w2.cell? ⟨w.heap.size + 1, 4, none⟩ = some (.slice none 0 0) ∧ w2.cell? ⟨w.heap.size, 2, none⟩ = some (.int .i64 n)) X) := Lib.hid (fun X hb => ⟨hb.1.cell 0, hb.1.cell 1, hb.1.cell 2, hb.1.cell 3, hb.1.cell 4, hb.2.1.cell 2⟩)
  have TB : Hid (∀ X Y, (fun X => Blk X (w.heap.size + 1) 42 #[.int .i64 1, .int .i64 0, .int .i64 n, .string ⟨#[]⟩, .slice none 0 0] ∧ Blk X w.heap.size 42 #[.int .i64 1, .int .i64 op, .int .i64 n, .string s, .slice A m c] ∧ Below w.heap.size w X ∧ w.heap.size + 1 < X.heap.size) X → Below X.heap.size X Y → (fun X => Blk X (w.heap.size + 1) 42 #[.int .i64 1, .int .i64 0, .int .i64 n, .string ⟨#[]⟩, .slice none 0 0] ∧ Blk X w.heap.size 42 #[.int .i64 1, .int .i64 op, .int .i64 n, .string s, .slice A m c] ∧ Below w.heap.size w X ∧ w.heap.size + 1 < X.heap.size) Y) := Lib.hid (fun X Y h hb => ⟨h.1.below hb h.1.lt, h.2.1.below hb h.2.1.lt, h.2.2.1.trans (hb.mono h.2.2.1.size), Nat.lt_of_lt_of_le h.2.2.2 hb.size⟩)
  have TS : Hid (∀ X, (fun X => Blk X (w.heap.size + 1) 42 #[.int .i64 1, .int .i64 0, .int .i64 n, .string ⟨#[]⟩, .slice none 0 0] ∧ Blk X w.heap.size 42 #[.int .i64 1, .int .i64 op, .int .i64 n, .string s, .slice A m c] ∧ Below w.heap.size w X ∧ w.heap.size + 1 < X.heap.size) X → (fun X => Blk X (w.heap.size + 1) 42 #[.int .i64 1, .int .i64 0, .int .i64 n, .string ⟨#[]⟩, .slice none 0 0] ∧ Blk X w.heap.size 42 #[.int .i64 1, .int .i64 op, .int .i64 n, .string s, .slice A m c] ∧ Below w.heap.size w X ∧ w.heap.size + 1 < X.heap.size) (((((X.setCell ⟨w.heap.size + 1, 0, none⟩ (.int .i64 1)).setCell ⟨w.heap.size + 1, 1, none⟩ (.int .i64 0)).setCell ⟨w.heap.size + 1, 2, none⟩ (.int .i64 n)).setCell ⟨w.heap.size + 1, 3, none⟩ (.string ⟨#[]⟩)).setCell ⟨w.heap.size + 1, 4, none⟩ (.slice none 0 0))) := Lib.hid (fun X h => ⟨(((((h.1.set_ 0 _).set_ 1 _).set_ 2 _).set_ 3 _).set_ 4 _), (((((h.2.1.far (by simp) _).far (by simp) _).far (by simp) _).far (by simp) _).far (by simp) _), (((((h.2.2.1.setCell (p := ⟨w.heap.size + 1, 0, none⟩) (Nat.le_succ _) _).setCell (p := ⟨w.heap.size + 1, 1, none⟩) (Nat.le_succ _) _).setCell (p := ⟨w.heap.size + 1, 2, none⟩) (Nat.le_succ _) _).setCell (p := ⟨w.heap.size + 1, 3, none⟩) (Nat.le_succ _) _).setCell (p := ⟨w.heap.size + 1, 4, none⟩) (Nat.le_succ _) _), by simpa using h.2.2.2⟩)
  have HT0 : Hid ((fun X => Blk X (w.heap.size + 1) 42 #[.int .i64 1, .int .i64 0, .int .i64 n, .string ⟨#[]⟩, .slice none 0 0] ∧ Blk X w.heap.size 42 #[.int .i64 1, .int .i64 op, .int .i64 n, .string s, .slice A m c] ∧ Below w.heap.size w X ∧ w.heap.size + 1 < X.heap.size) W.drew) := Lib.hid ⟨hX.drew, hG.drew, hB.drew, hs1⟩
  clear hW hX hG hB hs1
  refine wp_region_L (by kernel_rfl) 6 (fun w2 => w2.cell? ⟨w.heap.size + 1, 0, none⟩ = some (.int .i64 1) ∧ w2.cell? ⟨w.heap.size + 1, 1, none⟩ = some (.int .i64 0) ∧ w2.cell? ⟨w.heap.size + 1, 2, none⟩ = some (.int .i64 n) ∧ w2.cell? ⟨w.heap.size + 1, 3, none⟩ = some (.string ⟨#[]⟩) ∧ w2.cell? ⟨w.heap.size + 1, 4, none⟩ = some (.slice none 0 0) ∧ w2.cell? ⟨w.heap.size, 2, none⟩ = some (.int .i64 n)) (SO.out _ HT0.out) (fun hHeld => ?_)
  have HS0 := Lib.hid hHeld
  clear hHeld
  change wpAnyL _ _ _ _ _ 6 7 (Array.replicate 7 false) _ _
  obtain ⟨X0, hX0⟩ : ∃ X0, W.drew = X0 := ⟨_, rfl⟩
  rw [hX0] at HT0 HS0 ⊢
  clear hX0 W
  refine tS 0 15 (.agg #[.int .i64 1, .int .i64 0, .int .i64 n, .string ⟨#[]⟩, .slice none 0 0]) [6] HS0.out rfl rfl ?_ ?_
  · intro w2 hSw; obtain ⟨g0, g1, g2, g3, g4, g5⟩ := hSw; go_simp
  try simp only [sA, sB, sC]
  refine tj 1 16 (.pointer (some ⟨w.heap.size, 2, none⟩)) HS0.out rfl rfl ?_
  try simp only [sA, sB, sC]
  refine tS 2 17 (.int .i64 n) [6] HS0.out rfl rfl ?_ ?_
  · intro w2 hSw; obtain ⟨g0, g1, g2, g3, g4, g5⟩ := hSw; go_simp
  try simp only [sA, sB, sC]
  refine tj 3 18 (.bool (decide (0 ≤ n))) HS0.out rfl rfl ?_
  try simp only [sA, sB, sC]
  refine wpAnyL_ready (rs := [4]) (by kernel_rfl) (by simp) ?_
  refine AllReadyL.cons rfl (fun K hK => ?_) AllReadyL.nil
  have hY := HT0.out.1
  have y0 : X0.cell? ⟨w.heap.size + 1, 0, none⟩ = some (.int .i64 1) := hY.cell 0
  have y1 : X0.cell? ⟨w.heap.size + 1, 1, none⟩ = some (.int .i64 0) := hY.cell 1
  have y2 : X0.cell? ⟨w.heap.size + 1, 2, none⟩ = some (.int .i64 n) := hY.cell 2
  have y3 : X0.cell? ⟨w.heap.size + 1, 3, none⟩ = some (.string ⟨#[]⟩) := hY.cell 3
  have y4 : X0.cell? ⟨w.heap.size + 1, 4, none⟩ = some (.slice none 0 0) := hY.cell 4
  have z0 : X0.frozen? ⟨w.heap.size + 1, 0, none⟩ = false := hY.frozen 0
  have z1 : X0.frozen? ⟨w.heap.size + 1, 1, none⟩ = false := hY.frozen 1
  have z2 : X0.frozen? ⟨w.heap.size + 1, 2, none⟩ = false := hY.frozen 2
  have z3 : X0.frozen? ⟨w.heap.size + 1, 3, none⟩ = false := hY.frozen 3
  have z4 : X0.frozen? ⟨w.heap.size + 1, 4, none⟩ = false := hY.frozen 4
  clear hY
  go_simp
  have HT2 := Lib.hid (TS.out _ HT0.out)
  refine hK.out _ _ (SO.out _ HT2.out) (fun hHeld => ?_)
  have HS1 := Lib.hid hHeld
  clear hK K hHeld
  try simp only [sA, sB, sC]
  refine tj 5 3 (.int .i64 0) HS1.out rfl rfl ?_
  try simp only [sA, sB, sC]
  refine wpAnyL_ready (rs := [6]) (by kernel_rfl) (by simp) ?_
  refine AllReadyL.last rfl (by kernel_rfl) (fun K hK => ?_)
  go_simp
  refine hK.out _ _ ?_
  clear hK K
  try simp only [sA, sB, sC]
  refine wpAnyL_done (by kernel_rfl) ?_ _
  go_wp2
  refine bodyPost_ret (results_cellT2 (p := 2) (q := 3) (r := 4) (ty := 42) (by kernel_rfl) _ _ (w.heap.size + 1) 42 _ (0, 0) _ (.int .i64 0) (.bool (decide (0 ≤ n))) rfl rfl rfl HT2.out.1 Tryz.underlying42 rfl (by kernel_rfl)) rfl ?_
  exact ⟨rfl, HT2.out.2.2.1⟩
set_option maxHeartbeats 4000000 in
theorem only2 (op n : Int) (s : ByteArray) (m c : Nat) (A : Option Addr) (w : World) : Calls Tryz.prog 113 #[.agg #[.int .i64 2, .int .i64 op, .int .i64 n, .string s, .slice A m c]] w fun e w' => e = .returned (.tuple #[.agg #[.int .i64 2, .int .i64 0, .int .i64 0, .string s, .slice none 0 0], .int .i64 0, .bool (nameB s)]) ∧ Below w.heap.size w w' := by
  go_enter Tryz.func113, Tryz.ntmps113
  go_upto_region 8 with fail
  refine wp_world ?_
  intro W hW
  have hX : Blk W (w.heap.size + 1) 42 #[.int .i64 2, .int .i64 0, .int .i64 0, .string s, .slice none 0 0] := by rw [← hW]; exact Blk.new_at _ _ _ (by simp)
  have hG : Blk W w.heap.size 42 #[.int .i64 2, .int .i64 op, .int .i64 n, .string s, .slice A m c] := by rw [← hW]; exact (Blk.new _ _ _).alloc _
  have hB : Below w.heap.size w W := by rw [← hW]; exact below2 _ _ _
  have hs1 : w.heap.size + 1 < W.heap.size := by rw [← hW]; simp
  have SO : Hid (∀ X, (fun X => Blk X (w.heap.size + 1) 42 #[.int .i64 2, .int .i64 0, .int .i64 0, .string s, .slice none 0 0] ∧ Blk X w.heap.size 42 #[.int .i64 2, .int .i64 op, .int .i64 n, .string s, .slice A m c] ∧ Below w.heap.size w X ∧ w.heap.size + 1 < X.heap.size) X → (fun w2 => w2.cell? ⟨w.heap.size + 1, 0, none⟩ = some (.int .i64 2) ∧ w2.cell? ⟨w.heap.size + 1, 1, none⟩ = some (.int .i64 0) ∧ w2.cell? ⟨w.heap.size + 1, 2, none⟩ = some (.int .i64 0) ∧ w2.cell? ⟨w.heap.size + 1, 3, none⟩ = some (.string s) ∧ w2.cell? ⟨w.heap.size + 1, 4, none⟩ = some (.slice none 0 0) ∧ w2.cell? ⟨w.heap.size, 3, none⟩ = some (.string s)) X) := Lib.hid (fun X hb => ⟨hb.1.cell 0, hb.1.cell 1, hb.1.cell 2, hb.1.cell 3, hb.1.cell 4, hb.2.1.cell 3⟩)
  have TB : Hid (∀ X Y, (fun X => Blk X (w.heap.size + 1) 42 #[.int .i64 2, .int .i64 0, .int .i64 0, .string s, .slice none 0 0] ∧ Blk X w.heap.size 42 #[.int .i64 2, .int .i64 op, .int .i64 n, .string s, .slice A m c] ∧ Below w.heap.size w X ∧ w.heap.size + 1 < X.heap.size) X → Below X.heap.size X Y → (fun X => Blk X (w.heap.size + 1) 42 #[.int .i64 2, .int .i64 0, .int .i64 0, .string s, .slice none 0 0] ∧ Blk X w.heap.size 42 #[.int .i64 2, .int .i64 op, .int .i64 n, .string s, .slice A m c] ∧ Below w.heap.size w X ∧ w.heap.size + 1 < X.heap.size) Y) := Lib.hid (fun X Y h hb => ⟨h.1.below hb h.1.lt, h.2.1.below hb h.2.1.lt, h.2.2.1.trans (hb.mono h.2.2.1.size), Nat.lt_of_lt_of_le h.2.2.2 hb.size⟩)
  have TS : Hid (∀ X, (fun X => Blk X (w.heap.size + 1) 42 #[.int .i64 2, .int .i64 0, .int .i64 0, .string s, .slice none 0 0] ∧ Blk X w.heap.size 42 #[.int .i64 2, .int .i64 op, .int .i64 n, .string s, .slice A m c] ∧ Below w.heap.size w X ∧ w.heap.size + 1 < X.heap.size) X → (fun X => Blk X (w.heap.size + 1) 42 #[.int .i64 2, .int .i64 0, .int .i64 0, .string s, .slice none 0 0] ∧ Blk X w.heap.size 42 #[.int .i64 2, .int .i64 op, .int .i64 n, .string s, .slice A m c] ∧ Below w.heap.size w X ∧ w.heap.size + 1 < X.heap.size) (((((X.setCell ⟨w.heap.size + 1, 0, none⟩ (.int .i64 2)).setCell ⟨w.heap.size + 1, 1, none⟩ (.int .i64 0)).setCell ⟨w.heap.size + 1, 2, none⟩ (.int .i64 0)).setCell ⟨w.heap.size + 1, 3, none⟩ (.string s)).setCell ⟨w.heap.size + 1, 4, none⟩ (.slice none 0 0))) := Lib.hid (fun X h => ⟨(((((h.1.set_ 0 _).set_ 1 _).set_ 2 _).set_ 3 _).set_ 4 _), (((((h.2.1.far (by simp) _).far (by simp) _).far (by simp) _).far (by simp) _).far (by simp) _), (((((h.2.2.1.setCell (p := ⟨w.heap.size + 1, 0, none⟩) (Nat.le_succ _) _).setCell (p := ⟨w.heap.size + 1, 1, none⟩) (Nat.le_succ _) _).setCell (p := ⟨w.heap.size + 1, 2, none⟩) (Nat.le_succ _) _).setCell (p := ⟨w.heap.size + 1, 3, none⟩) (Nat.le_succ _) _).setCell (p := ⟨w.heap.size + 1, 4, none⟩) (Nat.le_succ _) _), by simpa using h.2.2.2⟩)
  have HT0 : Hid ((fun X => Blk X (w.heap.size + 1) 42 #[.int .i64 2, .int .i64 0, .int .i64 0, .string s, .slice none 0 0] ∧ Blk X w.heap.size 42 #[.int .i64 2, .int .i64 op, .int .i64 n, .string s, .slice A m c] ∧ Below w.heap.size w X ∧ w.heap.size + 1 < X.heap.size) W.drew) := Lib.hid ⟨hX.drew, hG.drew, hB.drew, hs1⟩
  clear hW hX hG hB hs1
  refine wp_region_L (by kernel_rfl) 6 (fun w2 => w2.cell? ⟨w.heap.size + 1, 0, none⟩ = some (.int .i64 2) ∧ w2.cell? ⟨w.heap.size + 1, 1, none⟩ = some (.int .i64 0) ∧ w2.cell? ⟨w.heap.size + 1, 2, none⟩ = some (.int .i64 0) ∧ w2.cell? ⟨w.heap.size + 1, 3, none⟩ = some (.string s) ∧ w2.cell? ⟨w.heap.size + 1, 4, none⟩ = some (.slice none 0 0) ∧ w2.cell? ⟨w.heap.size, 3, none⟩ = some (.string s)) (SO.out _ HT0.out) (fun hHeld => ?_)
  have HS0 := Lib.hid hHeld
  clear hHeld
  change wpAnyL _ _ _ _ _ 6 7 (Array.replicate 7 false) _ _
  obtain ⟨X0, hX0⟩ : ∃ X0, W.drew = X0 := ⟨_, rfl⟩
  rw [hX0] at HT0 HS0 ⊢
  clear hX0 W
  refine tS 0 24 (.agg #[.int .i64 2, .int .i64 0, .int .i64 0, .string s, .slice none 0 0]) [6] HS0.out rfl rfl ?_ ?_
  · intro w2 hSw; obtain ⟨g0, g1, g2, g3, g4, g5⟩ := hSw; go_simp
  try simp only [sA, sB, sC]
  refine tj 1 25 (.pointer (some ⟨w.heap.size, 3, none⟩)) HS0.out rfl rfl ?_
  try simp only [sA, sB, sC]
  refine tS 2 26 (.string s) [6] HS0.out rfl rfl ?_ ?_
  · intro w2 hSw; obtain ⟨g0, g1, g2, g3, g4, g5⟩ := hSw; go_simp
  try simp only [sA, sB, sC]
  refine wpAnyL_ready (rs := [3]) (by kernel_rfl) (by simp) ?_
  refine AllReadyL.cons rfl (fun K hK => ?_) AllReadyL.nil
  go_simp
  refine (name_any s X0).mono ?_
  rintro e X1 ⟨rfl, hx1⟩
  have HT1 := Lib.hid (TB.out _ X1 HT0.out hx1)
  clear hx1
  refine hK.out _ _ (SO.out _ HT1.out) (fun hHeld => ?_)
  have HS1 := Lib.hid hHeld
  clear hK K hHeld
  try simp only [sA, sB, sC]
  refine wpAnyL_ready (rs := [4]) (by kernel_rfl) (by simp) ?_
  refine AllReadyL.cons rfl (fun K hK => ?_) AllReadyL.nil
  have hY := HT1.out.1
  have y0 : X1.cell? ⟨w.heap.size + 1, 0, none⟩ = some (.int .i64 2) := hY.cell 0
  have y1 : X1.cell? ⟨w.heap.size + 1, 1, none⟩ = some (.int .i64 0) := hY.cell 1
  have y2 : X1.cell? ⟨w.heap.size + 1, 2, none⟩ = some (.int .i64 0) := hY.cell 2
  have y3 : X1.cell? ⟨w.heap.size + 1, 3, none⟩ = some (.string s) := hY.cell 3
  have y4 : X1.cell? ⟨w.heap.size + 1, 4, none⟩ = some (.slice none 0 0) := hY.cell 4
  have z0 : X1.frozen? ⟨w.heap.size + 1, 0, none⟩ = false := hY.frozen 0
  have z1 : X1.frozen? ⟨w.heap.size + 1, 1, none⟩ = false := hY.frozen 1
  have z2 : X1.frozen? ⟨w.heap.size + 1, 2, none⟩ = false := hY.frozen 2
  have z3 : X1.frozen? ⟨w.heap.size + 1, 3, none⟩ = false := hY.frozen 3
  have z4 : X1.frozen? ⟨w.heap.size + 1, 4, none⟩ = false := hY.frozen 4
  clear hY
  go_simp
  have HT2 := Lib.hid (TS.out _ HT1.out)
  refine hK.out _ _ (SO.out _ HT2.out) (fun hHeld => ?_)
  have HS2 := Lib.hid hHeld
  clear hK K hHeld
  try simp only [sA, sB, sC]
  refine tj 5 3 (.int .i64 0) HS2.out rfl rfl ?_
  try simp only [sA, sB, sC]
  refine wpAnyL_ready (rs := [6]) (by kernel_rfl) (by simp) ?_
  refine AllReadyL.last rfl (by kernel_rfl) (fun K hK => ?_)
  go_simp
  refine hK.out _ _ ?_
  clear hK K
  try simp only [sA, sB, sC]
  refine wpAnyL_done (by kernel_rfl) ?_ _
  go_wp2
  refine bodyPost_ret (results_cellT2 (p := 2) (q := 3) (r := 4) (ty := 42) (by kernel_rfl) _ _ (w.heap.size + 1) 42 _ (0, 0) _ (.int .i64 0) (.bool (nameB s)) rfl rfl rfl HT2.out.1 Tryz.underlying42 rfl (by kernel_rfl)) rfl ?_
  exact ⟨rfl, HT2.out.2.2.1⟩
set_option maxHeartbeats 4000000 in
theorem only6 (op n : Int) (s : ByteArray) (m c : Nat) (A : Option Addr) (w : World) : Calls Tryz.prog 113 #[.agg #[.int .i64 6, .int .i64 op, .int .i64 n, .string s, .slice A m c]] w fun e w' => e = .returned (.tuple #[.agg #[.int .i64 6, .int .i64 0, .int .i64 0, .string s, .slice none 0 0], .int .i64 1, .bool (nameB s)]) ∧ Below w.heap.size w w' := by
  go_enter Tryz.func113, Tryz.ntmps113
  go_upto_region 20 with fail
  refine wp_world ?_
  intro W hW
  have hX : Blk W (w.heap.size + 1) 42 #[.int .i64 6, .int .i64 0, .int .i64 0, .string s, .slice none 0 0] := by rw [← hW]; exact Blk.new_at _ _ _ (by simp)
  have hG : Blk W w.heap.size 42 #[.int .i64 6, .int .i64 op, .int .i64 n, .string s, .slice A m c] := by rw [← hW]; exact (Blk.new _ _ _).alloc _
  have hB : Below w.heap.size w W := by rw [← hW]; exact below2 _ _ _
  have hs1 : w.heap.size + 1 < W.heap.size := by rw [← hW]; simp
  have SO : Hid (∀ X, (fun X => Blk X (w.heap.size + 1) 42 #[.int .i64 6, .int .i64 0, .int .i64 0, .string s, .slice none 0 0] ∧ Blk X w.heap.size 42 #[.int .i64 6, .int .i64 op, .int .i64 n, .string s, .slice A m c] ∧ Below w.heap.size w X ∧ w.heap.size + 1 < X.heap.size) X → (fun w2 => w2.cell? ⟨w.heap.size + 1, 0, none⟩ = some (.int .i64 6) ∧ w2.cell? ⟨w.heap.size + 1, 1, none⟩ = some (.int .i64 0) ∧ w2.cell? ⟨w.heap.size + 1, 2, none⟩ = some (.int .i64 0) ∧ w2.cell? ⟨w.heap.size + 1, 3, none⟩ = some (.string s) ∧ w2.cell? ⟨w.heap.size + 1, 4, none⟩ = some (.slice none 0 0) ∧ w2.cell? ⟨w.heap.size, 3, none⟩ = some (.string s)) X) := Lib.hid (fun X hb => ⟨hb.1.cell 0, hb.1.cell 1, hb.1.cell 2, hb.1.cell 3, hb.1.cell 4, hb.2.1.cell 3⟩)
  have TB : Hid (∀ X Y, (fun X => Blk X (w.heap.size + 1) 42 #[.int .i64 6, .int .i64 0, .int .i64 0, .string s, .slice none 0 0] ∧ Blk X w.heap.size 42 #[.int .i64 6, .int .i64 op, .int .i64 n, .string s, .slice A m c] ∧ Below w.heap.size w X ∧ w.heap.size + 1 < X.heap.size) X → Below X.heap.size X Y → (fun X => Blk X (w.heap.size + 1) 42 #[.int .i64 6, .int .i64 0, .int .i64 0, .string s, .slice none 0 0] ∧ Blk X w.heap.size 42 #[.int .i64 6, .int .i64 op, .int .i64 n, .string s, .slice A m c] ∧ Below w.heap.size w X ∧ w.heap.size + 1 < X.heap.size) Y) := Lib.hid (fun X Y h hb => ⟨h.1.below hb h.1.lt, h.2.1.below hb h.2.1.lt, h.2.2.1.trans (hb.mono h.2.2.1.size), Nat.lt_of_lt_of_le h.2.2.2 hb.size⟩)
  have TS : Hid (∀ X, (fun X => Blk X (w.heap.size + 1) 42 #[.int .i64 6, .int .i64 0, .int .i64 0, .string s, .slice none 0 0] ∧ Blk X w.heap.size 42 #[.int .i64 6, .int .i64 op, .int .i64 n, .string s, .slice A m c] ∧ Below w.heap.size w X ∧ w.heap.size + 1 < X.heap.size) X → (fun X => Blk X (w.heap.size + 1) 42 #[.int .i64 6, .int .i64 0, .int .i64 0, .string s, .slice none 0 0] ∧ Blk X w.heap.size 42 #[.int .i64 6, .int .i64 op, .int .i64 n, .string s, .slice A m c] ∧ Below w.heap.size w X ∧ w.heap.size + 1 < X.heap.size) (((((X.setCell ⟨w.heap.size + 1, 0, none⟩ (.int .i64 6)).setCell ⟨w.heap.size + 1, 1, none⟩ (.int .i64 0)).setCell ⟨w.heap.size + 1, 2, none⟩ (.int .i64 0)).setCell ⟨w.heap.size + 1, 3, none⟩ (.string s)).setCell ⟨w.heap.size + 1, 4, none⟩ (.slice none 0 0))) := Lib.hid (fun X h => ⟨(((((h.1.set_ 0 _).set_ 1 _).set_ 2 _).set_ 3 _).set_ 4 _), (((((h.2.1.far (by simp) _).far (by simp) _).far (by simp) _).far (by simp) _).far (by simp) _), (((((h.2.2.1.setCell (p := ⟨w.heap.size + 1, 0, none⟩) (Nat.le_succ _) _).setCell (p := ⟨w.heap.size + 1, 1, none⟩) (Nat.le_succ _) _).setCell (p := ⟨w.heap.size + 1, 2, none⟩) (Nat.le_succ _) _).setCell (p := ⟨w.heap.size + 1, 3, none⟩) (Nat.le_succ _) _).setCell (p := ⟨w.heap.size + 1, 4, none⟩) (Nat.le_succ _) _), by simpa using h.2.2.2⟩)
  have HT0 : Hid ((fun X => Blk X (w.heap.size + 1) 42 #[.int .i64 6, .int .i64 0, .int .i64 0, .string s, .slice none 0 0] ∧ Blk X w.heap.size 42 #[.int .i64 6, .int .i64 op, .int .i64 n, .string s, .slice A m c] ∧ Below w.heap.size w X ∧ w.heap.size + 1 < X.heap.size) W.drew) := Lib.hid ⟨hX.drew, hG.drew, hB.drew, hs1⟩
  clear hW hX hG hB hs1
  refine wp_region_L (by kernel_rfl) 6 (fun w2 => w2.cell? ⟨w.heap.size + 1, 0, none⟩ = some (.int .i64 6) ∧ w2.cell? ⟨w.heap.size + 1, 1, none⟩ = some (.int .i64 0) ∧ w2.cell? ⟨w.heap.size + 1, 2, none⟩ = some (.int .i64 0) ∧ w2.cell? ⟨w.heap.size + 1, 3, none⟩ = some (.string s) ∧ w2.cell? ⟨w.heap.size + 1, 4, none⟩ = some (.slice none 0 0) ∧ w2.cell? ⟨w.heap.size, 3, none⟩ = some (.string s)) (SO.out _ HT0.out) (fun hHeld => ?_)
  have HS0 := Lib.hid hHeld
  clear hHeld
  change wpAnyL _ _ _ _ _ 6 7 (Array.replicate 7 false) _ _
  obtain ⟨X0, hX0⟩ : ∃ X0, W.drew = X0 := ⟨_, rfl⟩
  rw [hX0] at HT0 HS0 ⊢
  clear hX0 W
  refine tS 0 80 (.agg #[.int .i64 6, .int .i64 0, .int .i64 0, .string s, .slice none 0 0]) [6] HS0.out rfl rfl ?_ ?_
  · intro w2 hSw; obtain ⟨g0, g1, g2, g3, g4, g5⟩ := hSw; go_simp
  try simp only [sA, sB, sC]
  refine tj 1 81 (.pointer (some ⟨w.heap.size, 3, none⟩)) HS0.out rfl rfl ?_
  try simp only [sA, sB, sC]
  refine tS 2 82 (.string s) [6] HS0.out rfl rfl ?_ ?_
  · intro w2 hSw; obtain ⟨g0, g1, g2, g3, g4, g5⟩ := hSw; go_simp
  try simp only [sA, sB, sC]
  refine wpAnyL_ready (rs := [3]) (by kernel_rfl) (by simp) ?_
  refine AllReadyL.cons rfl (fun K hK => ?_) AllReadyL.nil
  go_simp
  refine (name_any s X0).mono ?_
  rintro e X1 ⟨rfl, hx1⟩
  have HT1 := Lib.hid (TB.out _ X1 HT0.out hx1)
  clear hx1
  refine hK.out _ _ (SO.out _ HT1.out) (fun hHeld => ?_)
  have HS1 := Lib.hid hHeld
  clear hK K hHeld
  try simp only [sA, sB, sC]
  refine wpAnyL_ready (rs := [4]) (by kernel_rfl) (by simp) ?_
  refine AllReadyL.cons rfl (fun K hK => ?_) AllReadyL.nil
  have hY := HT1.out.1
  have y0 : X1.cell? ⟨w.heap.size + 1, 0, none⟩ = some (.int .i64 6) := hY.cell 0
  have y1 : X1.cell? ⟨w.heap.size + 1, 1, none⟩ = some (.int .i64 0) := hY.cell 1
  have y2 : X1.cell? ⟨w.heap.size + 1, 2, none⟩ = some (.int .i64 0) := hY.cell 2
  have y3 : X1.cell? ⟨w.heap.size + 1, 3, none⟩ = some (.string s) := hY.cell 3
  have y4 : X1.cell? ⟨w.heap.size + 1, 4, none⟩ = some (.slice none 0 0) := hY.cell 4
  have z0 : X1.frozen? ⟨w.heap.size + 1, 0, none⟩ = false := hY.frozen 0
  have z1 : X1.frozen? ⟨w.heap.size + 1, 1, none⟩ = false := hY.frozen 1
  have z2 : X1.frozen? ⟨w.heap.size + 1, 2, none⟩ = false := hY.frozen 2
  have z3 : X1.frozen? ⟨w.heap.size + 1, 3, none⟩ = false := hY.frozen 3
  have z4 : X1.frozen? ⟨w.heap.size + 1, 4, none⟩ = false := hY.frozen 4
  clear hY
  go_simp
  have HT2 := Lib.hid (TS.out _ HT1.out)
  refine hK.out _ _ (SO.out _ HT2.out) (fun hHeld => ?_)
  have HS2 := Lib.hid hHeld
  clear hK K hHeld
  try simp only [sA, sB, sC]
  refine tj 5 3 (.int .i64 1) HS2.out rfl rfl ?_
  try simp only [sA, sB, sC]
  refine wpAnyL_ready (rs := [6]) (by kernel_rfl) (by simp) ?_
  refine AllReadyL.last rfl (by kernel_rfl) (fun K hK => ?_)
  go_simp
  refine hK.out _ _ ?_
  clear hK K
  try simp only [sA, sB, sC]
  refine wpAnyL_done (by kernel_rfl) ?_ _
  go_wp2
  refine bodyPost_ret (results_cellT2 (p := 2) (q := 3) (r := 4) (ty := 42) (by kernel_rfl) _ _ (w.heap.size + 1) 42 _ (0, 0) _ (.int .i64 1) (.bool (nameB s)) rfl rfl rfl HT2.out.1 Tryz.underlying42 rfl (by kernel_rfl)) rfl ?_
  exact ⟨rfl, HT2.out.2.2.1⟩
set_option maxHeartbeats 4000000 in
theorem only3a (n : Int) (s : ByteArray) (m c : Nat) (A : Option Addr) (w : World) : Calls Tryz.prog 113 #[.agg #[.int .i64 3, .int .i64 17, .int .i64 n, .string s, .slice A m c]] w fun e w' => e = .returned (.tuple #[.agg #[.int .i64 3, .int .i64 17, .int .i64 0, .string ⟨#[]⟩, .slice none 0 0], .int .i64 1, .bool true]) ∧ Below w.heap.size w w' := by
  go_enter Tryz.func113, Tryz.ntmps113
  go_upto_region 11 with fail
  refine wp_world ?_
  intro W hW
  have hX : Blk W (w.heap.size + 1) 42 #[.int .i64 3, .int .i64 17, .int .i64 0, .string ⟨#[]⟩, .slice none 0 0] := by rw [← hW]; exact Blk.new_at _ _ _ (by simp)
  have hG : Blk W w.heap.size 42 #[.int .i64 3, .int .i64 17, .int .i64 n, .string s, .slice A m c] := by rw [← hW]; exact (Blk.new _ _ _).alloc _
  have hB : Below w.heap.size w W := by rw [← hW]; exact below2 _ _ _
  have hs1 : w.heap.size + 1 < W.heap.size := by rw [← hW]; simp
  have SO : Hid (∀ X, (fun X => Blk X (w.heap.size + 1) 42 #[.int .i64 3, .int .i64 17, .int .i64 0, .string ⟨#[]⟩, .slice none 0 0] ∧ Blk X w.heap.size 42 #[.int .i64 3, .int .i64 17, .int .i64 n, .string s, .slice A m c] ∧ Below w.heap.size w X ∧ w.heap.size + 1 < X.heap.size) X → (fun w2 => w2.cell? ⟨w.heap.size + 1, 0, none⟩ = some (.int .i64 3) ∧ w2.cell? ⟨w.heap.size + 1, 1, none⟩ = some (.int .i64 17) ∧ w2.cell? ⟨w.heap.size + 1, 2, none⟩ = some (.int .i64 0) ∧ w2.cell? ⟨w.heap.size + 1, 3, none⟩ = some (.string ⟨#[]⟩) ∧ w2.cell? ⟨w.heap.size + 1, 4, none⟩ = some (.slice none 0 0) ∧ w2.cell? ⟨w.heap.size, 1, none⟩ = some (.int .i64 17)) X) := Lib.hid (fun X hb => ⟨hb.1.cell 0, hb.1.cell 1, hb.1.cell 2, hb.1.cell 3, hb.1.cell 4, hb.2.1.cell 1⟩)
  have TB : Hid (∀ X Y, (fun X => Blk X (w.heap.size + 1) 42 #[.int .i64 3, .int .i64 17, .int .i64 0, .string ⟨#[]⟩, .slice none 0 0] ∧ Blk X w.heap.size 42 #[.int .i64 3, .int .i64 17, .int .i64 n, .string s, .slice A m c] ∧ Below w.heap.size w X ∧ w.heap.size + 1 < X.heap.size) X → Below X.heap.size X Y → (fun X => Blk X (w.heap.size + 1) 42 #[.int .i64 3, .int .i64 17, .int .i64 0, .string ⟨#[]⟩, .slice none 0 0] ∧ Blk X w.heap.size 42 #[.int .i64 3, .int .i64 17, .int .i64 n, .string s, .slice A m c] ∧ Below w.heap.size w X ∧ w.heap.size + 1 < X.heap.size) Y) := Lib.hid (fun X Y h hb => ⟨h.1.below hb h.1.lt, h.2.1.below hb h.2.1.lt, h.2.2.1.trans (hb.mono h.2.2.1.size), Nat.lt_of_lt_of_le h.2.2.2 hb.size⟩)
  have TS : Hid (∀ X, (fun X => Blk X (w.heap.size + 1) 42 #[.int .i64 3, .int .i64 17, .int .i64 0, .string ⟨#[]⟩, .slice none 0 0] ∧ Blk X w.heap.size 42 #[.int .i64 3, .int .i64 17, .int .i64 n, .string s, .slice A m c] ∧ Below w.heap.size w X ∧ w.heap.size + 1 < X.heap.size) X → (fun X => Blk X (w.heap.size + 1) 42 #[.int .i64 3, .int .i64 17, .int .i64 0, .string ⟨#[]⟩, .slice none 0 0] ∧ Blk X w.heap.size 42 #[.int .i64 3, .int .i64 17, .int .i64 n, .string s, .slice A m c] ∧ Below w.heap.size w X ∧ w.heap.size + 1 < X.heap.size) (((((X.setCell ⟨w.heap.size + 1, 0, none⟩ (.int .i64 3)).setCell ⟨w.heap.size + 1, 1, none⟩ (.int .i64 17)).setCell ⟨w.heap.size + 1, 2, none⟩ (.int .i64 0)).setCell ⟨w.heap.size + 1, 3, none⟩ (.string ⟨#[]⟩)).setCell ⟨w.heap.size + 1, 4, none⟩ (.slice none 0 0))) := Lib.hid (fun X h => ⟨(((((h.1.set_ 0 _).set_ 1 _).set_ 2 _).set_ 3 _).set_ 4 _), (((((h.2.1.far (by simp) _).far (by simp) _).far (by simp) _).far (by simp) _).far (by simp) _), (((((h.2.2.1.setCell (p := ⟨w.heap.size + 1, 0, none⟩) (Nat.le_succ _) _).setCell (p := ⟨w.heap.size + 1, 1, none⟩) (Nat.le_succ _) _).setCell (p := ⟨w.heap.size + 1, 2, none⟩) (Nat.le_succ _) _).setCell (p := ⟨w.heap.size + 1, 3, none⟩) (Nat.le_succ _) _).setCell (p := ⟨w.heap.size + 1, 4, none⟩) (Nat.le_succ _) _), by simpa using h.2.2.2⟩)
  have HT0 : Hid ((fun X => Blk X (w.heap.size + 1) 42 #[.int .i64 3, .int .i64 17, .int .i64 0, .string ⟨#[]⟩, .slice none 0 0] ∧ Blk X w.heap.size 42 #[.int .i64 3, .int .i64 17, .int .i64 n, .string s, .slice A m c] ∧ Below w.heap.size w X ∧ w.heap.size + 1 < X.heap.size) W.drew) := Lib.hid ⟨hX.drew, hG.drew, hB.drew, hs1⟩
  clear hW hX hG hB hs1
  refine wp_region_L (by kernel_rfl) 16 (fun w2 => w2.cell? ⟨w.heap.size + 1, 0, none⟩ = some (.int .i64 3) ∧ w2.cell? ⟨w.heap.size + 1, 1, none⟩ = some (.int .i64 17) ∧ w2.cell? ⟨w.heap.size + 1, 2, none⟩ = some (.int .i64 0) ∧ w2.cell? ⟨w.heap.size + 1, 3, none⟩ = some (.string ⟨#[]⟩) ∧ w2.cell? ⟨w.heap.size + 1, 4, none⟩ = some (.slice none 0 0) ∧ w2.cell? ⟨w.heap.size, 1, none⟩ = some (.int .i64 17)) (SO.out _ HT0.out) (fun hHeld => ?_)
  have HS0 := Lib.hid hHeld
  clear hHeld
  change wpAnyL _ _ _ _ _ 16 17 (Array.replicate 17 false) _ _
  obtain ⟨X0, hX0⟩ : ∃ X0, W.drew = X0 := ⟨_, rfl⟩
  rw [hX0] at HT0 HS0 ⊢
  clear hX0 W
  refine tS 0 33 (.agg #[.int .i64 3, .int .i64 17, .int .i64 0, .string ⟨#[]⟩, .slice none 0 0]) [16] HS0.out rfl rfl ?_ ?_
  · intro w2 hSw; obtain ⟨g0, g1, g2, g3, g4, g5⟩ := hSw; go_simp
  try simp only [sA, sB, sC]
  refine tj 1 34 (.pointer (some ⟨w.heap.size, 1, none⟩)) HS0.out rfl rfl ?_
  try simp only [sA, sB, sC]
  refine tS 2 35 (.int .i64 17) [16] HS0.out rfl rfl ?_ ?_
  · intro w2 hSw; obtain ⟨g0, g1, g2, g3, g4, g5⟩ := hSw; go_simp
  try simp only [sA, sB, sC]
  refine tj 3 36 (.bool true) HS0.out rfl rfl ?_
  try simp only [sA, sB, sC]
  refine tj 4 37 (.bool true) HS0.out rfl rfl ?_
  try simp only [sA, sB, sC]
  refine tN 5 38 HS0.out rfl rfl ?_
  try simp only [sA, sB, sC]
  refine tN 6 39 HS0.out rfl rfl ?_
  try simp only [sA, sB, sC]
  refine tN 7 40 HS0.out rfl rfl ?_
  try simp only [sA, sB, sC]
  refine tj 8 41 (.bool true) HS0.out rfl rfl ?_
  try simp only [sA, sB, sC]
  refine tj 9 42 (.bool true) HS0.out rfl rfl ?_
  try simp only [sA, sB, sC]
  refine tN 10 43 HS0.out rfl rfl ?_
  try simp only [sA, sB, sC]
  refine tN 11 44 HS0.out rfl rfl ?_
  try simp only [sA, sB, sC]
  refine tN 12 45 HS0.out rfl rfl ?_
  try simp only [sA, sB, sC]
  refine tj 13 46 (.bool true) HS0.out rfl rfl ?_
  try simp only [sA, sB, sC]
  refine wpAnyL_ready (rs := [14]) (by kernel_rfl) (by simp) ?_
  refine AllReadyL.cons rfl (fun K hK => ?_) AllReadyL.nil
  have hY := HT0.out.1
  have y0 : X0.cell? ⟨w.heap.size + 1, 0, none⟩ = some (.int .i64 3) := hY.cell 0
  have y1 : X0.cell? ⟨w.heap.size + 1, 1, none⟩ = some (.int .i64 17) := hY.cell 1
  have y2 : X0.cell? ⟨w.heap.size + 1, 2, none⟩ = some (.int .i64 0) := hY.cell 2
  have y3 : X0.cell? ⟨w.heap.size + 1, 3, none⟩ = some (.string ⟨#[]⟩) := hY.cell 3
  have y4 : X0.cell? ⟨w.heap.size + 1, 4, none⟩ = some (.slice none 0 0) := hY.cell 4
  have z0 : X0.frozen? ⟨w.heap.size + 1, 0, none⟩ = false := hY.frozen 0
  have z1 : X0.frozen? ⟨w.heap.size + 1, 1, none⟩ = false := hY.frozen 1
  have z2 : X0.frozen? ⟨w.heap.size + 1, 2, none⟩ = false := hY.frozen 2
  have z3 : X0.frozen? ⟨w.heap.size + 1, 3, none⟩ = false := hY.frozen 3
  have z4 : X0.frozen? ⟨w.heap.size + 1, 4, none⟩ = false := hY.frozen 4
  clear hY
  go_simp
  have HT2 := Lib.hid (TS.out _ HT0.out)
  refine hK.out _ _ (SO.out _ HT2.out) (fun hHeld => ?_)
  have HS1 := Lib.hid hHeld
  clear hK K hHeld
  try simp only [sA, sB, sC]
  refine tj 15 3 (.int .i64 1) HS1.out rfl rfl ?_
  try simp only [sA, sB, sC]
  refine wpAnyL_ready (rs := [16]) (by kernel_rfl) (by simp) ?_
  refine AllReadyL.last rfl (by kernel_rfl) (fun K hK => ?_)
  go_simp
  refine hK.out _ _ ?_
  clear hK K
  try simp only [sA, sB, sC]
  refine wpAnyL_done (by kernel_rfl) ?_ _
  go_wp2
  refine bodyPost_ret (results_cellT2 (p := 2) (q := 3) (r := 4) (ty := 42) (by kernel_rfl) _ _ (w.heap.size + 1) 42 _ (0, 0) _ (.int .i64 1) (.bool true) rfl rfl rfl HT2.out.1 Tryz.underlying42 rfl (by kernel_rfl)) rfl ?_
  exact ⟨rfl, HT2.out.2.2.1⟩
set_option maxHeartbeats 4000000 in
theorem only3b (n : Int) (s : ByteArray) (m c : Nat) (A : Option Addr) (w : World) : Calls Tryz.prog 113 #[.agg #[.int .i64 3, .int .i64 18, .int .i64 n, .string s, .slice A m c]] w fun e w' => e = .returned (.tuple #[.agg #[.int .i64 3, .int .i64 18, .int .i64 0, .string ⟨#[]⟩, .slice none 0 0], .int .i64 1, .bool true]) ∧ Below w.heap.size w w' := by
  go_enter Tryz.func113, Tryz.ntmps113
  go_upto_region 11 with fail
  refine wp_world ?_
  intro W hW
  have hX : Blk W (w.heap.size + 1) 42 #[.int .i64 3, .int .i64 18, .int .i64 0, .string ⟨#[]⟩, .slice none 0 0] := by rw [← hW]; exact Blk.new_at _ _ _ (by simp)
  have hG : Blk W w.heap.size 42 #[.int .i64 3, .int .i64 18, .int .i64 n, .string s, .slice A m c] := by rw [← hW]; exact (Blk.new _ _ _).alloc _
  have hB : Below w.heap.size w W := by rw [← hW]; exact below2 _ _ _
  have hs1 : w.heap.size + 1 < W.heap.size := by rw [← hW]; simp
  have SO : Hid (∀ X, (fun X => Blk X (w.heap.size + 1) 42 #[.int .i64 3, .int .i64 18, .int .i64 0, .string ⟨#[]⟩, .slice none 0 0] ∧ Blk X w.heap.size 42 #[.int .i64 3, .int .i64 18, .int .i64 n, .string s, .slice A m c] ∧ Below w.heap.size w X ∧ w.heap.size + 1 < X.heap.size) X → (fun w2 => w2.cell? ⟨w.heap.size + 1, 0, none⟩ = some (.int .i64 3) ∧ w2.cell? ⟨w.heap.size + 1, 1, none⟩ = some (.int .i64 18) ∧ w2.cell? ⟨w.heap.size + 1, 2, none⟩ = some (.int .i64 0) ∧ w2.cell? ⟨w.heap.size + 1, 3, none⟩ = some (.string ⟨#[]⟩) ∧ w2.cell? ⟨w.heap.size + 1, 4, none⟩ = some (.slice none 0 0) ∧ w2.cell? ⟨w.heap.size, 1, none⟩ = some (.int .i64 18)) X) := Lib.hid (fun X hb => ⟨hb.1.cell 0, hb.1.cell 1, hb.1.cell 2, hb.1.cell 3, hb.1.cell 4, hb.2.1.cell 1⟩)
  have TB : Hid (∀ X Y, (fun X => Blk X (w.heap.size + 1) 42 #[.int .i64 3, .int .i64 18, .int .i64 0, .string ⟨#[]⟩, .slice none 0 0] ∧ Blk X w.heap.size 42 #[.int .i64 3, .int .i64 18, .int .i64 n, .string s, .slice A m c] ∧ Below w.heap.size w X ∧ w.heap.size + 1 < X.heap.size) X → Below X.heap.size X Y → (fun X => Blk X (w.heap.size + 1) 42 #[.int .i64 3, .int .i64 18, .int .i64 0, .string ⟨#[]⟩, .slice none 0 0] ∧ Blk X w.heap.size 42 #[.int .i64 3, .int .i64 18, .int .i64 n, .string s, .slice A m c] ∧ Below w.heap.size w X ∧ w.heap.size + 1 < X.heap.size) Y) := Lib.hid (fun X Y h hb => ⟨h.1.below hb h.1.lt, h.2.1.below hb h.2.1.lt, h.2.2.1.trans (hb.mono h.2.2.1.size), Nat.lt_of_lt_of_le h.2.2.2 hb.size⟩)
  have TS : Hid (∀ X, (fun X => Blk X (w.heap.size + 1) 42 #[.int .i64 3, .int .i64 18, .int .i64 0, .string ⟨#[]⟩, .slice none 0 0] ∧ Blk X w.heap.size 42 #[.int .i64 3, .int .i64 18, .int .i64 n, .string s, .slice A m c] ∧ Below w.heap.size w X ∧ w.heap.size + 1 < X.heap.size) X → (fun X => Blk X (w.heap.size + 1) 42 #[.int .i64 3, .int .i64 18, .int .i64 0, .string ⟨#[]⟩, .slice none 0 0] ∧ Blk X w.heap.size 42 #[.int .i64 3, .int .i64 18, .int .i64 n, .string s, .slice A m c] ∧ Below w.heap.size w X ∧ w.heap.size + 1 < X.heap.size) (((((X.setCell ⟨w.heap.size + 1, 0, none⟩ (.int .i64 3)).setCell ⟨w.heap.size + 1, 1, none⟩ (.int .i64 18)).setCell ⟨w.heap.size + 1, 2, none⟩ (.int .i64 0)).setCell ⟨w.heap.size + 1, 3, none⟩ (.string ⟨#[]⟩)).setCell ⟨w.heap.size + 1, 4, none⟩ (.slice none 0 0))) := Lib.hid (fun X h => ⟨(((((h.1.set_ 0 _).set_ 1 _).set_ 2 _).set_ 3 _).set_ 4 _), (((((h.2.1.far (by simp) _).far (by simp) _).far (by simp) _).far (by simp) _).far (by simp) _), (((((h.2.2.1.setCell (p := ⟨w.heap.size + 1, 0, none⟩) (Nat.le_succ _) _).setCell (p := ⟨w.heap.size + 1, 1, none⟩) (Nat.le_succ _) _).setCell (p := ⟨w.heap.size + 1, 2, none⟩) (Nat.le_succ _) _).setCell (p := ⟨w.heap.size + 1, 3, none⟩) (Nat.le_succ _) _).setCell (p := ⟨w.heap.size + 1, 4, none⟩) (Nat.le_succ _) _), by simpa using h.2.2.2⟩)
  have HT0 : Hid ((fun X => Blk X (w.heap.size + 1) 42 #[.int .i64 3, .int .i64 18, .int .i64 0, .string ⟨#[]⟩, .slice none 0 0] ∧ Blk X w.heap.size 42 #[.int .i64 3, .int .i64 18, .int .i64 n, .string s, .slice A m c] ∧ Below w.heap.size w X ∧ w.heap.size + 1 < X.heap.size) W.drew) := Lib.hid ⟨hX.drew, hG.drew, hB.drew, hs1⟩
  clear hW hX hG hB hs1
  refine wp_region_L (by kernel_rfl) 16 (fun w2 => w2.cell? ⟨w.heap.size + 1, 0, none⟩ = some (.int .i64 3) ∧ w2.cell? ⟨w.heap.size + 1, 1, none⟩ = some (.int .i64 18) ∧ w2.cell? ⟨w.heap.size + 1, 2, none⟩ = some (.int .i64 0) ∧ w2.cell? ⟨w.heap.size + 1, 3, none⟩ = some (.string ⟨#[]⟩) ∧ w2.cell? ⟨w.heap.size + 1, 4, none⟩ = some (.slice none 0 0) ∧ w2.cell? ⟨w.heap.size, 1, none⟩ = some (.int .i64 18)) (SO.out _ HT0.out) (fun hHeld => ?_)
  have HS0 := Lib.hid hHeld
  clear hHeld
  change wpAnyL _ _ _ _ _ 16 17 (Array.replicate 17 false) _ _
  obtain ⟨X0, hX0⟩ : ∃ X0, W.drew = X0 := ⟨_, rfl⟩
  rw [hX0] at HT0 HS0 ⊢
  clear hX0 W
  refine tS 0 33 (.agg #[.int .i64 3, .int .i64 18, .int .i64 0, .string ⟨#[]⟩, .slice none 0 0]) [16] HS0.out rfl rfl ?_ ?_
  · intro w2 hSw; obtain ⟨g0, g1, g2, g3, g4, g5⟩ := hSw; go_simp
  try simp only [sA, sB, sC]
  refine tj 1 34 (.pointer (some ⟨w.heap.size, 1, none⟩)) HS0.out rfl rfl ?_
  try simp only [sA, sB, sC]
  refine tS 2 35 (.int .i64 18) [16] HS0.out rfl rfl ?_ ?_
  · intro w2 hSw; obtain ⟨g0, g1, g2, g3, g4, g5⟩ := hSw; go_simp
  try simp only [sA, sB, sC]
  refine tj 3 36 (.bool false) HS0.out rfl rfl ?_
  try simp only [sA, sB, sC]
  refine tj 4 37 (.bool false) HS0.out rfl rfl ?_
  try simp only [sA, sB, sC]
  refine tj 5 38 (.pointer (some ⟨w.heap.size, 1, none⟩)) HS0.out rfl rfl ?_
  try simp only [sA, sB, sC]
  refine tS 6 39 (.int .i64 18) [16] HS0.out rfl rfl ?_ ?_
  · intro w2 hSw; obtain ⟨g0, g1, g2, g3, g4, g5⟩ := hSw; go_simp
  try simp only [sA, sB, sC]
  refine tj 7 40 (.bool true) HS0.out rfl rfl ?_
  try simp only [sA, sB, sC]
  refine tj 8 41 (.bool true) HS0.out rfl rfl ?_
  try simp only [sA, sB, sC]
  refine tj 9 42 (.bool true) HS0.out rfl rfl ?_
  try simp only [sA, sB, sC]
  refine tN 10 43 HS0.out rfl rfl ?_
  try simp only [sA, sB, sC]
  refine tN 11 44 HS0.out rfl rfl ?_
  try simp only [sA, sB, sC]
  refine tN 12 45 HS0.out rfl rfl ?_
  try simp only [sA, sB, sC]
  refine tj 13 46 (.bool true) HS0.out rfl rfl ?_
  try simp only [sA, sB, sC]
  refine wpAnyL_ready (rs := [14]) (by kernel_rfl) (by simp) ?_
  refine AllReadyL.cons rfl (fun K hK => ?_) AllReadyL.nil
  have hY := HT0.out.1
  have y0 : X0.cell? ⟨w.heap.size + 1, 0, none⟩ = some (.int .i64 3) := hY.cell 0
  have y1 : X0.cell? ⟨w.heap.size + 1, 1, none⟩ = some (.int .i64 18) := hY.cell 1
  have y2 : X0.cell? ⟨w.heap.size + 1, 2, none⟩ = some (.int .i64 0) := hY.cell 2
  have y3 : X0.cell? ⟨w.heap.size + 1, 3, none⟩ = some (.string ⟨#[]⟩) := hY.cell 3
  have y4 : X0.cell? ⟨w.heap.size + 1, 4, none⟩ = some (.slice none 0 0) := hY.cell 4
  have z0 : X0.frozen? ⟨w.heap.size + 1, 0, none⟩ = false := hY.frozen 0
  have z1 : X0.frozen? ⟨w.heap.size + 1, 1, none⟩ = false := hY.frozen 1
  have z2 : X0.frozen? ⟨w.heap.size + 1, 2, none⟩ = false := hY.frozen 2
  have z3 : X0.frozen? ⟨w.heap.size + 1, 3, none⟩ = false := hY.frozen 3
  have z4 : X0.frozen? ⟨w.heap.size + 1, 4, none⟩ = false := hY.frozen 4
  clear hY
  go_simp
  have HT2 := Lib.hid (TS.out _ HT0.out)
  refine hK.out _ _ (SO.out _ HT2.out) (fun hHeld => ?_)
  have HS1 := Lib.hid hHeld
  clear hK K hHeld
  try simp only [sA, sB, sC]
  refine tj 15 3 (.int .i64 1) HS1.out rfl rfl ?_
  try simp only [sA, sB, sC]
  refine wpAnyL_ready (rs := [16]) (by kernel_rfl) (by simp) ?_
  refine AllReadyL.last rfl (by kernel_rfl) (fun K hK => ?_)
  go_simp
  refine hK.out _ _ ?_
  clear hK K
  try simp only [sA, sB, sC]
  refine wpAnyL_done (by kernel_rfl) ?_ _
  go_wp2
  refine bodyPost_ret (results_cellT2 (p := 2) (q := 3) (r := 4) (ty := 42) (by kernel_rfl) _ _ (w.heap.size + 1) 42 _ (0, 0) _ (.int .i64 1) (.bool true) rfl rfl rfl HT2.out.1 Tryz.underlying42 rfl (by kernel_rfl)) rfl ?_
  exact ⟨rfl, HT2.out.2.2.1⟩
set_option maxHeartbeats 4000000 in
theorem only3c (n : Int) (s : ByteArray) (m c : Nat) (A : Option Addr) (w : World) : Calls Tryz.prog 113 #[.agg #[.int .i64 3, .int .i64 19, .int .i64 n, .string s, .slice A m c]] w fun e w' => e = .returned (.tuple #[.agg #[.int .i64 3, .int .i64 19, .int .i64 0, .string ⟨#[]⟩, .slice none 0 0], .int .i64 1, .bool true]) ∧ Below w.heap.size w w' := by
  go_enter Tryz.func113, Tryz.ntmps113
  go_upto_region 11 with fail
  refine wp_world ?_
  intro W hW
  have hX : Blk W (w.heap.size + 1) 42 #[.int .i64 3, .int .i64 19, .int .i64 0, .string ⟨#[]⟩, .slice none 0 0] := by rw [← hW]; exact Blk.new_at _ _ _ (by simp)
  have hG : Blk W w.heap.size 42 #[.int .i64 3, .int .i64 19, .int .i64 n, .string s, .slice A m c] := by rw [← hW]; exact (Blk.new _ _ _).alloc _
  have hB : Below w.heap.size w W := by rw [← hW]; exact below2 _ _ _
  have hs1 : w.heap.size + 1 < W.heap.size := by rw [← hW]; simp
  have SO : Hid (∀ X, (fun X => Blk X (w.heap.size + 1) 42 #[.int .i64 3, .int .i64 19, .int .i64 0, .string ⟨#[]⟩, .slice none 0 0] ∧ Blk X w.heap.size 42 #[.int .i64 3, .int .i64 19, .int .i64 n, .string s, .slice A m c] ∧ Below w.heap.size w X ∧ w.heap.size + 1 < X.heap.size) X → (fun w2 => w2.cell? ⟨w.heap.size + 1, 0, none⟩ = some (.int .i64 3) ∧ w2.cell? ⟨w.heap.size + 1, 1, none⟩ = some (.int .i64 19) ∧ w2.cell? ⟨w.heap.size + 1, 2, none⟩ = some (.int .i64 0) ∧ w2.cell? ⟨w.heap.size + 1, 3, none⟩ = some (.string ⟨#[]⟩) ∧ w2.cell? ⟨w.heap.size + 1, 4, none⟩ = some (.slice none 0 0) ∧ w2.cell? ⟨w.heap.size, 1, none⟩ = some (.int .i64 19)) X) := Lib.hid (fun X hb => ⟨hb.1.cell 0, hb.1.cell 1, hb.1.cell 2, hb.1.cell 3, hb.1.cell 4, hb.2.1.cell 1⟩)
  have TB : Hid (∀ X Y, (fun X => Blk X (w.heap.size + 1) 42 #[.int .i64 3, .int .i64 19, .int .i64 0, .string ⟨#[]⟩, .slice none 0 0] ∧ Blk X w.heap.size 42 #[.int .i64 3, .int .i64 19, .int .i64 n, .string s, .slice A m c] ∧ Below w.heap.size w X ∧ w.heap.size + 1 < X.heap.size) X → Below X.heap.size X Y → (fun X => Blk X (w.heap.size + 1) 42 #[.int .i64 3, .int .i64 19, .int .i64 0, .string ⟨#[]⟩, .slice none 0 0] ∧ Blk X w.heap.size 42 #[.int .i64 3, .int .i64 19, .int .i64 n, .string s, .slice A m c] ∧ Below w.heap.size w X ∧ w.heap.size + 1 < X.heap.size) Y) := Lib.hid (fun X Y h hb => ⟨h.1.below hb h.1.lt, h.2.1.below hb h.2.1.lt, h.2.2.1.trans (hb.mono h.2.2.1.size), Nat.lt_of_lt_of_le h.2.2.2 hb.size⟩)
  have TS : Hid (∀ X, (fun X => Blk X (w.heap.size + 1) 42 #[.int .i64 3, .int .i64 19, .int .i64 0, .string ⟨#[]⟩, .slice none 0 0] ∧ Blk X w.heap.size 42 #[.int .i64 3, .int .i64 19, .int .i64 n, .string s, .slice A m c] ∧ Below w.heap.size w X ∧ w.heap.size + 1 < X.heap.size) X → (fun X => Blk X (w.heap.size + 1) 42 #[.int .i64 3, .int .i64 19, .int .i64 0, .string ⟨#[]⟩, .slice none 0 0] ∧ Blk X w.heap.size 42 #[.int .i64 3, .int .i64 19, .int .i64 n, .string s, .slice A m c] ∧ Below w.heap.size w X ∧ w.heap.size + 1 < X.heap.size) (((((X.setCell ⟨w.heap.size + 1, 0, none⟩ (.int .i64 3)).setCell ⟨w.heap.size + 1, 1, none⟩ (.int .i64 19)).setCell ⟨w.heap.size + 1, 2, none⟩ (.int .i64 0)).setCell ⟨w.heap.size + 1, 3, none⟩ (.string ⟨#[]⟩)).setCell ⟨w.heap.size + 1, 4, none⟩ (.slice none 0 0))) := Lib.hid (fun X h => ⟨(((((h.1.set_ 0 _).set_ 1 _).set_ 2 _).set_ 3 _).set_ 4 _), (((((h.2.1.far (by simp) _).far (by simp) _).far (by simp) _).far (by simp) _).far (by simp) _), (((((h.2.2.1.setCell (p := ⟨w.heap.size + 1, 0, none⟩) (Nat.le_succ _) _).setCell (p := ⟨w.heap.size + 1, 1, none⟩) (Nat.le_succ _) _).setCell (p := ⟨w.heap.size + 1, 2, none⟩) (Nat.le_succ _) _).setCell (p := ⟨w.heap.size + 1, 3, none⟩) (Nat.le_succ _) _).setCell (p := ⟨w.heap.size + 1, 4, none⟩) (Nat.le_succ _) _), by simpa using h.2.2.2⟩)
  have HT0 : Hid ((fun X => Blk X (w.heap.size + 1) 42 #[.int .i64 3, .int .i64 19, .int .i64 0, .string ⟨#[]⟩, .slice none 0 0] ∧ Blk X w.heap.size 42 #[.int .i64 3, .int .i64 19, .int .i64 n, .string s, .slice A m c] ∧ Below w.heap.size w X ∧ w.heap.size + 1 < X.heap.size) W.drew) := Lib.hid ⟨hX.drew, hG.drew, hB.drew, hs1⟩
  clear hW hX hG hB hs1
  refine wp_region_L (by kernel_rfl) 16 (fun w2 => w2.cell? ⟨w.heap.size + 1, 0, none⟩ = some (.int .i64 3) ∧ w2.cell? ⟨w.heap.size + 1, 1, none⟩ = some (.int .i64 19) ∧ w2.cell? ⟨w.heap.size + 1, 2, none⟩ = some (.int .i64 0) ∧ w2.cell? ⟨w.heap.size + 1, 3, none⟩ = some (.string ⟨#[]⟩) ∧ w2.cell? ⟨w.heap.size + 1, 4, none⟩ = some (.slice none 0 0) ∧ w2.cell? ⟨w.heap.size, 1, none⟩ = some (.int .i64 19)) (SO.out _ HT0.out) (fun hHeld => ?_)
  have HS0 := Lib.hid hHeld
  clear hHeld
  change wpAnyL _ _ _ _ _ 16 17 (Array.replicate 17 false) _ _
  obtain ⟨X0, hX0⟩ : ∃ X0, W.drew = X0 := ⟨_, rfl⟩
  rw [hX0] at HT0 HS0 ⊢
  clear hX0 W
  refine tS 0 33 (.agg #[.int .i64 3, .int .i64 19, .int .i64 0, .string ⟨#[]⟩, .slice none 0 0]) [16] HS0.out rfl rfl ?_ ?_
  · intro w2 hSw; obtain ⟨g0, g1, g2, g3, g4, g5⟩ := hSw; go_simp
  try simp only [sA, sB, sC]
  refine tj 1 34 (.pointer (some ⟨w.heap.size, 1, none⟩)) HS0.out rfl rfl ?_
  try simp only [sA, sB, sC]
  refine tS 2 35 (.int .i64 19) [16] HS0.out rfl rfl ?_ ?_
  · intro w2 hSw; obtain ⟨g0, g1, g2, g3, g4, g5⟩ := hSw; go_simp
  try simp only [sA, sB, sC]
  refine tj 3 36 (.bool false) HS0.out rfl rfl ?_
  try simp only [sA, sB, sC]
  refine tj 4 37 (.bool false) HS0.out rfl rfl ?_
  try simp only [sA, sB, sC]
  refine tj 5 38 (.pointer (some ⟨w.heap.size, 1, none⟩)) HS0.out rfl rfl ?_
  try simp only [sA, sB, sC]
  refine tS 6 39 (.int .i64 19) [16] HS0.out rfl rfl ?_ ?_
  · intro w2 hSw; obtain ⟨g0, g1, g2, g3, g4, g5⟩ := hSw; go_simp
  try simp only [sA, sB, sC]
  refine tj 7 40 (.bool false) HS0.out rfl rfl ?_
  try simp only [sA, sB, sC]
  refine tj 8 41 (.bool false) HS0.out rfl rfl ?_
  try simp only [sA, sB, sC]
  refine tj 9 42 (.bool false) HS0.out rfl rfl ?_
  try simp only [sA, sB, sC]
  refine tj 10 43 (.pointer (some ⟨w.heap.size, 1, none⟩)) HS0.out rfl rfl ?_
  try simp only [sA, sB, sC]
  refine tS 11 44 (.int .i64 19) [16] HS0.out rfl rfl ?_ ?_
  · intro w2 hSw; obtain ⟨g0, g1, g2, g3, g4, g5⟩ := hSw; go_simp
  try simp only [sA, sB, sC]
  refine tj 12 45 (.bool true) HS0.out rfl rfl ?_
  try simp only [sA, sB, sC]
  refine tj 13 46 (.bool true) HS0.out rfl rfl ?_
  try simp only [sA, sB, sC]
  refine wpAnyL_ready (rs := [14]) (by kernel_rfl) (by simp) ?_
  refine AllReadyL.cons rfl (fun K hK => ?_) AllReadyL.nil
  have hY := HT0.out.1
  have y0 : X0.cell? ⟨w.heap.size + 1, 0, none⟩ = some (.int .i64 3) := hY.cell 0
  have y1 : X0.cell? ⟨w.heap.size + 1, 1, none⟩ = some (.int .i64 19) := hY.cell 1
  have y2 : X0.cell? ⟨w.heap.size + 1, 2, none⟩ = some (.int .i64 0) := hY.cell 2
  have y3 : X0.cell? ⟨w.heap.size + 1, 3, none⟩ = some (.string ⟨#[]⟩) := hY.cell 3
  have y4 : X0.cell? ⟨w.heap.size + 1, 4, none⟩ = some (.slice none 0 0) := hY.cell 4
  have z0 : X0.frozen? ⟨w.heap.size + 1, 0, none⟩ = false := hY.frozen 0
  have z1 : X0.frozen? ⟨w.heap.size + 1, 1, none⟩ = false := hY.frozen 1
  have z2 : X0.frozen? ⟨w.heap.size + 1, 2, none⟩ = false := hY.frozen 2
  have z3 : X0.frozen? ⟨w.heap.size + 1, 3, none⟩ = false := hY.frozen 3
  have z4 : X0.frozen? ⟨w.heap.size + 1, 4, none⟩ = false := hY.frozen 4
  clear hY
  go_simp
  have HT2 := Lib.hid (TS.out _ HT0.out)
  refine hK.out _ _ (SO.out _ HT2.out) (fun hHeld => ?_)
  have HS1 := Lib.hid hHeld
  clear hK K hHeld
  try simp only [sA, sB, sC]
  refine tj 15 3 (.int .i64 1) HS1.out rfl rfl ?_
  try simp only [sA, sB, sC]
  refine wpAnyL_ready (rs := [16]) (by kernel_rfl) (by simp) ?_
  refine AllReadyL.last rfl (by kernel_rfl) (fun K hK => ?_)
  go_simp
  refine hK.out _ _ ?_
  clear hK K
  try simp only [sA, sB, sC]
  refine wpAnyL_done (by kernel_rfl) ?_ _
  go_wp2
  refine bodyPost_ret (results_cellT2 (p := 2) (q := 3) (r := 4) (ty := 42) (by kernel_rfl) _ _ (w.heap.size + 1) 42 _ (0, 0) _ (.int .i64 1) (.bool true) rfl rfl rfl HT2.out.1 Tryz.underlying42 rfl (by kernel_rfl)) rfl ?_
  exact ⟨rfl, HT2.out.2.2.1⟩
set_option maxHeartbeats 4000000 in
theorem only3d (op n : Int) (s : ByteArray) (m c : Nat) (A : Option Addr) (w : World) (h1 : (op == 17) = false) (h2 : (op == 18) = false) (h3 : (op == 19) = false) : Calls Tryz.prog 113 #[.agg #[.int .i64 3, .int .i64 op, .int .i64 n, .string s, .slice A m c]] w fun e w' => e = .returned (.tuple #[.agg #[.int .i64 3, .int .i64 op, .int .i64 0, .string ⟨#[]⟩, .slice none 0 0], .int .i64 1, .bool false]) ∧ Below w.heap.size w w' := by
  go_enter Tryz.func113, Tryz.ntmps113
  go_upto_region 11 with fail
  refine wp_world ?_
  intro W hW
  have hX : Blk W (w.heap.size + 1) 42 #[.int .i64 3, .int .i64 op, .int .i64 0, .string ⟨#[]⟩, .slice none 0 0] := by rw [← hW]; exact Blk.new_at _ _ _ (by simp)
  have hG : Blk W w.heap.size 42 #[.int .i64 3, .int .i64 op, .int .i64 n, .string s, .slice A m c] := by rw [← hW]; exact (Blk.new _ _ _).alloc _
  have hB : Below w.heap.size w W := by rw [← hW]; exact below2 _ _ _
  have hs1 : w.heap.size + 1 < W.heap.size := by rw [← hW]; simp
  have SO : Hid (∀ X, (fun X => Blk X (w.heap.size + 1) 42 #[.int .i64 3, .int .i64 op, .int .i64 0, .string ⟨#[]⟩, .slice none 0 0] ∧ Blk X w.heap.size 42 #[.int .i64 3, .int .i64 op, .int .i64 n, .string s, .slice A m c] ∧ Below w.heap.size w X ∧ w.heap.size + 1 < X.heap.size) X → (fun w2 => w2.cell? ⟨w.heap.size + 1, 0, none⟩ = some (.int .i64 3) ∧ w2.cell? ⟨w.heap.size + 1, 1, none⟩ = some (.int .i64 op) ∧ w2.cell? ⟨w.heap.size + 1, 2, none⟩ = some (.int .i64 0) ∧ w2.cell? ⟨w.heap.size + 1, 3, none⟩ = some (.string ⟨#[]⟩) ∧ w2.cell? ⟨w.heap.size + 1, 4, none⟩ = some (.slice none 0 0) ∧ w2.cell? ⟨w.heap.size, 1, none⟩ = some (.int .i64 op)) X) := Lib.hid (fun X hb => ⟨hb.1.cell 0, hb.1.cell 1, hb.1.cell 2, hb.1.cell 3, hb.1.cell 4, hb.2.1.cell 1⟩)
  have TB : Hid (∀ X Y, (fun X => Blk X (w.heap.size + 1) 42 #[.int .i64 3, .int .i64 op, .int .i64 0, .string ⟨#[]⟩, .slice none 0 0] ∧ Blk X w.heap.size 42 #[.int .i64 3, .int .i64 op, .int .i64 n, .string s, .slice A m c] ∧ Below w.heap.size w X ∧ w.heap.size + 1 < X.heap.size) X → Below X.heap.size X Y → (fun X => Blk X (w.heap.size + 1) 42 #[.int .i64 3, .int .i64 op, .int .i64 0, .string ⟨#[]⟩, .slice none 0 0] ∧ Blk X w.heap.size 42 #[.int .i64 3, .int .i64 op, .int .i64 n, .string s, .slice A m c] ∧ Below w.heap.size w X ∧ w.heap.size + 1 < X.heap.size) Y) := Lib.hid (fun X Y h hb => ⟨h.1.below hb h.1.lt, h.2.1.below hb h.2.1.lt, h.2.2.1.trans (hb.mono h.2.2.1.size), Nat.lt_of_lt_of_le h.2.2.2 hb.size⟩)
  have TS : Hid (∀ X, (fun X => Blk X (w.heap.size + 1) 42 #[.int .i64 3, .int .i64 op, .int .i64 0, .string ⟨#[]⟩, .slice none 0 0] ∧ Blk X w.heap.size 42 #[.int .i64 3, .int .i64 op, .int .i64 n, .string s, .slice A m c] ∧ Below w.heap.size w X ∧ w.heap.size + 1 < X.heap.size) X → (fun X => Blk X (w.heap.size + 1) 42 #[.int .i64 3, .int .i64 op, .int .i64 0, .string ⟨#[]⟩, .slice none 0 0] ∧ Blk X w.heap.size 42 #[.int .i64 3, .int .i64 op, .int .i64 n, .string s, .slice A m c] ∧ Below w.heap.size w X ∧ w.heap.size + 1 < X.heap.size) (((((X.setCell ⟨w.heap.size + 1, 0, none⟩ (.int .i64 3)).setCell ⟨w.heap.size + 1, 1, none⟩ (.int .i64 op)).setCell ⟨w.heap.size + 1, 2, none⟩ (.int .i64 0)).setCell ⟨w.heap.size + 1, 3, none⟩ (.string ⟨#[]⟩)).setCell ⟨w.heap.size + 1, 4, none⟩ (.slice none 0 0))) := Lib.hid (fun X h => ⟨(((((h.1.set_ 0 _).set_ 1 _).set_ 2 _).set_ 3 _).set_ 4 _), (((((h.2.1.far (by simp) _).far (by simp) _).far (by simp) _).far (by simp) _).far (by simp) _), (((((h.2.2.1.setCell (p := ⟨w.heap.size + 1, 0, none⟩) (Nat.le_succ _) _).setCell (p := ⟨w.heap.size + 1, 1, none⟩) (Nat.le_succ _) _).setCell (p := ⟨w.heap.size + 1, 2, none⟩) (Nat.le_succ _) _).setCell (p := ⟨w.heap.size + 1, 3, none⟩) (Nat.le_succ _) _).setCell (p := ⟨w.heap.size + 1, 4, none⟩) (Nat.le_succ _) _), by simpa using h.2.2.2⟩)
  have HT0 : Hid ((fun X => Blk X (w.heap.size + 1) 42 #[.int .i64 3, .int .i64 op, .int .i64 0, .string ⟨#[]⟩, .slice none 0 0] ∧ Blk X w.heap.size 42 #[.int .i64 3, .int .i64 op, .int .i64 n, .string s, .slice A m c] ∧ Below w.heap.size w X ∧ w.heap.size + 1 < X.heap.size) W.drew) := Lib.hid ⟨hX.drew, hG.drew, hB.drew, hs1⟩
  clear hW hX hG hB hs1
  refine wp_region_L (by kernel_rfl) 16 (fun w2 => w2.cell? ⟨w.heap.size + 1, 0, none⟩ = some (.int .i64 3) ∧ w2.cell? ⟨w.heap.size + 1, 1, none⟩ = some (.int .i64 op) ∧ w2.cell? ⟨w.heap.size + 1, 2, none⟩ = some (.int .i64 0) ∧ w2.cell? ⟨w.heap.size + 1, 3, none⟩ = some (.string ⟨#[]⟩) ∧ w2.cell? ⟨w.heap.size + 1, 4, none⟩ = some (.slice none 0 0) ∧ w2.cell? ⟨w.heap.size, 1, none⟩ = some (.int .i64 op)) (SO.out _ HT0.out) (fun hHeld => ?_)
  have HS0 := Lib.hid hHeld
  clear hHeld
  change wpAnyL _ _ _ _ _ 16 17 (Array.replicate 17 false) _ _
  obtain ⟨X0, hX0⟩ : ∃ X0, W.drew = X0 := ⟨_, rfl⟩
  rw [hX0] at HT0 HS0 ⊢
  clear hX0 W
  refine tS 0 33 (.agg #[.int .i64 3, .int .i64 op, .int .i64 0, .string ⟨#[]⟩, .slice none 0 0]) [16] HS0.out rfl rfl ?_ ?_
  · intro w2 hSw; obtain ⟨g0, g1, g2, g3, g4, g5⟩ := hSw; go_simp
  try simp only [sA, sB, sC]
  refine tj 1 34 (.pointer (some ⟨w.heap.size, 1, none⟩)) HS0.out rfl rfl ?_
  try simp only [sA, sB, sC]
  refine tS 2 35 (.int .i64 op) [16] HS0.out rfl rfl ?_ ?_
  · intro w2 hSw; obtain ⟨g0, g1, g2, g3, g4, g5⟩ := hSw; go_simp
  try simp only [sA, sB, sC]
  refine tj 3 36 (.bool false) HS0.out rfl rfl ?_
  try simp only [sA, sB, sC]
  refine tj 4 37 (.bool false) HS0.out rfl rfl ?_
  try simp only [sA, sB, sC]
  refine tj 5 38 (.pointer (some ⟨w.heap.size, 1, none⟩)) HS0.out rfl rfl ?_
  try simp only [sA, sB, sC]
  refine tS 6 39 (.int .i64 op) [16] HS0.out rfl rfl ?_ ?_
  · intro w2 hSw; obtain ⟨g0, g1, g2, g3, g4, g5⟩ := hSw; go_simp
  try simp only [sA, sB, sC]
  refine tj 7 40 (.bool false) HS0.out rfl rfl ?_
  try simp only [sA, sB, sC]
  refine tj 8 41 (.bool false) HS0.out rfl rfl ?_
  try simp only [sA, sB, sC]
  refine tj 9 42 (.bool false) HS0.out rfl rfl ?_
  try simp only [sA, sB, sC]
  refine tj 10 43 (.pointer (some ⟨w.heap.size, 1, none⟩)) HS0.out rfl rfl ?_
  try simp only [sA, sB, sC]
  refine tS 11 44 (.int .i64 op) [16] HS0.out rfl rfl ?_ ?_
  · intro w2 hSw; obtain ⟨g0, g1, g2, g3, g4, g5⟩ := hSw; go_simp
  try simp only [sA, sB, sC]
  refine tj 12 45 (.bool false) HS0.out rfl rfl ?_
  try simp only [sA, sB, sC]
  refine tj 13 46 (.bool false) HS0.out rfl rfl ?_
  try simp only [sA, sB, sC]
  refine wpAnyL_ready (rs := [14]) (by kernel_rfl) (by simp) ?_
  refine AllReadyL.cons rfl (fun K hK => ?_) AllReadyL.nil
  have hY := HT0.out.1
  have y0 : X0.cell? ⟨w.heap.size + 1, 0, none⟩ = some (.int .i64 3) := hY.cell 0
  have y1 : X0.cell? ⟨w.heap.size + 1, 1, none⟩ = some (.int .i64 op) := hY.cell 1
  have y2 : X0.cell? ⟨w.heap.size + 1, 2, none⟩ = some (.int .i64 0) := hY.cell 2
  have y3 : X0.cell? ⟨w.heap.size + 1, 3, none⟩ = some (.string ⟨#[]⟩) := hY.cell 3
  have y4 : X0.cell? ⟨w.heap.size + 1, 4, none⟩ = some (.slice none 0 0) := hY.cell 4
  have z0 : X0.frozen? ⟨w.heap.size + 1, 0, none⟩ = false := hY.frozen 0
  have z1 : X0.frozen? ⟨w.heap.size + 1, 1, none⟩ = false := hY.frozen 1
  have z2 : X0.frozen? ⟨w.heap.size + 1, 2, none⟩ = false := hY.frozen 2
  have z3 : X0.frozen? ⟨w.heap.size + 1, 3, none⟩ = false := hY.frozen 3
  have z4 : X0.frozen? ⟨w.heap.size + 1, 4, none⟩ = false := hY.frozen 4
  clear hY
  go_simp
  have HT2 := Lib.hid (TS.out _ HT0.out)
  refine hK.out _ _ (SO.out _ HT2.out) (fun hHeld => ?_)
  have HS1 := Lib.hid hHeld
  clear hK K hHeld
  try simp only [sA, sB, sC]
  refine tj 15 3 (.int .i64 1) HS1.out rfl rfl ?_
  try simp only [sA, sB, sC]
  refine wpAnyL_ready (rs := [16]) (by kernel_rfl) (by simp) ?_
  refine AllReadyL.last rfl (by kernel_rfl) (fun K hK => ?_)
  go_simp
  refine hK.out _ _ ?_
  clear hK K
  try simp only [sA, sB, sC]
  refine wpAnyL_done (by kernel_rfl) ?_ _
  go_wp2
  refine bodyPost_ret (results_cellT2 (p := 2) (q := 3) (r := 4) (ty := 42) (by kernel_rfl) _ _ (w.heap.size + 1) 42 _ (0, 0) _ (.int .i64 1) (.bool false) rfl rfl rfl HT2.out.1 Tryz.underlying42 rfl (by kernel_rfl)) rfl ?_
  exact ⟨rfl, HT2.out.2.2.1⟩
set_option maxHeartbeats 4000000 in
theorem only4 (op n : Int) (s : ByteArray) (m c : Nat) (A : Option Addr) (w : World) : Calls Tryz.prog 113 #[.agg #[.int .i64 4, .int .i64 op, .int .i64 n, .string s, .slice A m c]] w fun e w' => e = .returned (.tuple #[.agg #[.int .i64 4, .int .i64 op, .int .i64 0, .string ⟨#[]⟩, .slice none 0 0], .int .i64 2, .bool (decide (0 < Ar.lvl op))]) ∧ Below w.heap.size w w' := by
  go_enter Tryz.func113, Tryz.ntmps113
  go_upto_region 14 with fail
  refine wp_world ?_
  intro W hW
  have hX : Blk W (w.heap.size + 1) 42 #[.int .i64 4, .int .i64 op, .int .i64 0, .string ⟨#[]⟩, .slice none 0 0] := by rw [← hW]; exact Blk.new_at _ _ _ (by simp)
  have hG : Blk W w.heap.size 42 #[.int .i64 4, .int .i64 op, .int .i64 n, .string s, .slice A m c] := by rw [← hW]; exact (Blk.new _ _ _).alloc _
  have hB : Below w.heap.size w W := by rw [← hW]; exact below2 _ _ _
  have hs1 : w.heap.size + 1 < W.heap.size := by rw [← hW]; simp
  have SO : Hid (∀ X, (fun X => Blk X (w.heap.size + 1) 42 #[.int .i64 4, .int .i64 op, .int .i64 0, .string ⟨#[]⟩, .slice none 0 0] ∧ Blk X w.heap.size 42 #[.int .i64 4, .int .i64 op, .int .i64 n, .string s, .slice A m c] ∧ Below w.heap.size w X ∧ w.heap.size + 1 < X.heap.size) X → (fun w2 => w2.cell? ⟨w.heap.size + 1, 0, none⟩ = some (.int .i64 4) ∧ w2.cell? ⟨w.heap.size + 1, 1, none⟩ = some (.int .i64 op) ∧ w2.cell? ⟨w.heap.size + 1, 2, none⟩ = some (.int .i64 0) ∧ w2.cell? ⟨w.heap.size + 1, 3, none⟩ = some (.string ⟨#[]⟩) ∧ w2.cell? ⟨w.heap.size + 1, 4, none⟩ = some (.slice none 0 0) ∧ w2.cell? ⟨w.heap.size, 1, none⟩ = some (.int .i64 op)) X) := Lib.hid (fun X hb => ⟨hb.1.cell 0, hb.1.cell 1, hb.1.cell 2, hb.1.cell 3, hb.1.cell 4, hb.2.1.cell 1⟩)
  have TB : Hid (∀ X Y, (fun X => Blk X (w.heap.size + 1) 42 #[.int .i64 4, .int .i64 op, .int .i64 0, .string ⟨#[]⟩, .slice none 0 0] ∧ Blk X w.heap.size 42 #[.int .i64 4, .int .i64 op, .int .i64 n, .string s, .slice A m c] ∧ Below w.heap.size w X ∧ w.heap.size + 1 < X.heap.size) X → Below X.heap.size X Y → (fun X => Blk X (w.heap.size + 1) 42 #[.int .i64 4, .int .i64 op, .int .i64 0, .string ⟨#[]⟩, .slice none 0 0] ∧ Blk X w.heap.size 42 #[.int .i64 4, .int .i64 op, .int .i64 n, .string s, .slice A m c] ∧ Below w.heap.size w X ∧ w.heap.size + 1 < X.heap.size) Y) := Lib.hid (fun X Y h hb => ⟨h.1.below hb h.1.lt, h.2.1.below hb h.2.1.lt, h.2.2.1.trans (hb.mono h.2.2.1.size), Nat.lt_of_lt_of_le h.2.2.2 hb.size⟩)
  have TS : Hid (∀ X, (fun X => Blk X (w.heap.size + 1) 42 #[.int .i64 4, .int .i64 op, .int .i64 0, .string ⟨#[]⟩, .slice none 0 0] ∧ Blk X w.heap.size 42 #[.int .i64 4, .int .i64 op, .int .i64 n, .string s, .slice A m c] ∧ Below w.heap.size w X ∧ w.heap.size + 1 < X.heap.size) X → (fun X => Blk X (w.heap.size + 1) 42 #[.int .i64 4, .int .i64 op, .int .i64 0, .string ⟨#[]⟩, .slice none 0 0] ∧ Blk X w.heap.size 42 #[.int .i64 4, .int .i64 op, .int .i64 n, .string s, .slice A m c] ∧ Below w.heap.size w X ∧ w.heap.size + 1 < X.heap.size) (((((X.setCell ⟨w.heap.size + 1, 0, none⟩ (.int .i64 4)).setCell ⟨w.heap.size + 1, 1, none⟩ (.int .i64 op)).setCell ⟨w.heap.size + 1, 2, none⟩ (.int .i64 0)).setCell ⟨w.heap.size + 1, 3, none⟩ (.string ⟨#[]⟩)).setCell ⟨w.heap.size + 1, 4, none⟩ (.slice none 0 0))) := Lib.hid (fun X h => ⟨(((((h.1.set_ 0 _).set_ 1 _).set_ 2 _).set_ 3 _).set_ 4 _), (((((h.2.1.far (by simp) _).far (by simp) _).far (by simp) _).far (by simp) _).far (by simp) _), (((((h.2.2.1.setCell (p := ⟨w.heap.size + 1, 0, none⟩) (Nat.le_succ _) _).setCell (p := ⟨w.heap.size + 1, 1, none⟩) (Nat.le_succ _) _).setCell (p := ⟨w.heap.size + 1, 2, none⟩) (Nat.le_succ _) _).setCell (p := ⟨w.heap.size + 1, 3, none⟩) (Nat.le_succ _) _).setCell (p := ⟨w.heap.size + 1, 4, none⟩) (Nat.le_succ _) _), by simpa using h.2.2.2⟩)
  have HT0 : Hid ((fun X => Blk X (w.heap.size + 1) 42 #[.int .i64 4, .int .i64 op, .int .i64 0, .string ⟨#[]⟩, .slice none 0 0] ∧ Blk X w.heap.size 42 #[.int .i64 4, .int .i64 op, .int .i64 n, .string s, .slice A m c] ∧ Below w.heap.size w X ∧ w.heap.size + 1 < X.heap.size) W.drew) := Lib.hid ⟨hX.drew, hG.drew, hB.drew, hs1⟩
  clear hW hX hG hB hs1
  refine wp_region_L (by kernel_rfl) 7 (fun w2 => w2.cell? ⟨w.heap.size + 1, 0, none⟩ = some (.int .i64 4) ∧ w2.cell? ⟨w.heap.size + 1, 1, none⟩ = some (.int .i64 op) ∧ w2.cell? ⟨w.heap.size + 1, 2, none⟩ = some (.int .i64 0) ∧ w2.cell? ⟨w.heap.size + 1, 3, none⟩ = some (.string ⟨#[]⟩) ∧ w2.cell? ⟨w.heap.size + 1, 4, none⟩ = some (.slice none 0 0) ∧ w2.cell? ⟨w.heap.size, 1, none⟩ = some (.int .i64 op)) (SO.out _ HT0.out) (fun hHeld => ?_)
  have HS0 := Lib.hid hHeld
  clear hHeld
  change wpAnyL _ _ _ _ _ 7 8 (Array.replicate 8 false) _ _
  obtain ⟨X0, hX0⟩ : ∃ X0, W.drew = X0 := ⟨_, rfl⟩
  rw [hX0] at HT0 HS0 ⊢
  clear hX0 W
  refine tS 0 52 (.agg #[.int .i64 4, .int .i64 op, .int .i64 0, .string ⟨#[]⟩, .slice none 0 0]) [7] HS0.out rfl rfl ?_ ?_
  · intro w2 hSw; obtain ⟨g0, g1, g2, g3, g4, g5⟩ := hSw; go_simp
  try simp only [sA, sB, sC]
  refine tj 1 53 (.pointer (some ⟨w.heap.size, 1, none⟩)) HS0.out rfl rfl ?_
  try simp only [sA, sB, sC]
  refine tS 2 54 (.int .i64 op) [7] HS0.out rfl rfl ?_ ?_
  · intro w2 hSw; obtain ⟨g0, g1, g2, g3, g4, g5⟩ := hSw; go_simp
  try simp only [sA, sB, sC]
  refine wpAnyL_ready (rs := [3]) (by kernel_rfl) (by simp) ?_
  refine AllReadyL.cons rfl (fun K hK => ?_) AllReadyL.nil
  go_simp
  refine (Ar.level_any op X0).mono ?_
  rintro e X1 ⟨rfl, hx1⟩
  have HT1 := Lib.hid (TB.out _ X1 HT0.out hx1)
  clear hx1
  refine hK.out _ _ (SO.out _ HT1.out) (fun hHeld => ?_)
  have HS1 := Lib.hid hHeld
  clear hK K hHeld
  try simp only [sA, sB, sC]
  refine tj 4 56 (.bool (decide (0 < Ar.lvl op))) HS1.out rfl rfl ?_
  try simp only [sA, sB, sC]
  refine wpAnyL_ready (rs := [5]) (by kernel_rfl) (by simp) ?_
  refine AllReadyL.cons rfl (fun K hK => ?_) AllReadyL.nil
  have hY := HT1.out.1
  have y0 : X1.cell? ⟨w.heap.size + 1, 0, none⟩ = some (.int .i64 4) := hY.cell 0
  have y1 : X1.cell? ⟨w.heap.size + 1, 1, none⟩ = some (.int .i64 op) := hY.cell 1
  have y2 : X1.cell? ⟨w.heap.size + 1, 2, none⟩ = some (.int .i64 0) := hY.cell 2
  have y3 : X1.cell? ⟨w.heap.size + 1, 3, none⟩ = some (.string ⟨#[]⟩) := hY.cell 3
  have y4 : X1.cell? ⟨w.heap.size + 1, 4, none⟩ = some (.slice none 0 0) := hY.cell 4
  have z0 : X1.frozen? ⟨w.heap.size + 1, 0, none⟩ = false := hY.frozen 0
  have z1 : X1.frozen? ⟨w.heap.size + 1, 1, none⟩ = false := hY.frozen 1
  have z2 : X1.frozen? ⟨w.heap.size + 1, 2, none⟩ = false := hY.frozen 2
  have z3 : X1.frozen? ⟨w.heap.size + 1, 3, none⟩ = false := hY.frozen 3
  have z4 : X1.frozen? ⟨w.heap.size + 1, 4, none⟩ = false := hY.frozen 4
  clear hY
  go_simp
  have HT2 := Lib.hid (TS.out _ HT1.out)
  refine hK.out _ _ (SO.out _ HT2.out) (fun hHeld => ?_)
  have HS2 := Lib.hid hHeld
  clear hK K hHeld
  try simp only [sA, sB, sC]
  refine tj 6 3 (.int .i64 2) HS2.out rfl rfl ?_
  try simp only [sA, sB, sC]
  refine wpAnyL_ready (rs := [7]) (by kernel_rfl) (by simp) ?_
  refine AllReadyL.last rfl (by kernel_rfl) (fun K hK => ?_)
  go_simp
  refine hK.out _ _ ?_
  clear hK K
  try simp only [sA, sB, sC]
  refine wpAnyL_done (by kernel_rfl) ?_ _
  go_wp2
  refine bodyPost_ret (results_cellT2 (p := 2) (q := 3) (r := 4) (ty := 42) (by kernel_rfl) _ _ (w.heap.size + 1) 42 _ (0, 0) _ (.int .i64 2) (.bool (decide (0 < Ar.lvl op))) rfl rfl rfl HT2.out.1 Tryz.underlying42 rfl (by kernel_rfl)) rfl ?_
  exact ⟨rfl, HT2.out.2.2.1⟩
set_option maxHeartbeats 4000000 in
theorem only5y (op n : Int) (s : ByteArray) (m c : Nat) (A : Option Addr) (w : World) (hn : nameB s = true) : Calls Tryz.prog 113 #[.agg #[.int .i64 5, .int .i64 op, .int .i64 n, .string s, .slice A m c]] w fun e w' => e = .returned (.tuple #[.agg #[.int .i64 5, .int .i64 0, .int .i64 0, .string s, .slice none 0 0], .int .i64 (m : Int), .bool (decide ((m : Int) ≤ 6))]) ∧ Below w.heap.size w w' := by
  have HN : Hid (∀ X, Calls Tryz.prog 62 #[.string s] X fun e w' => e = .returned (.bool true) ∧ Below X.heap.size X w') := Lib.hid (fun X => by have := name_any s X; rw [hn] at this; exact this)
  clear hn
  go_enter Tryz.func113, Tryz.ntmps113
  go_upto_region 17 with fail
  refine wp_world ?_
  intro W hW
  have hX : Blk W (w.heap.size + 1) 42 #[.int .i64 5, .int .i64 0, .int .i64 0, .string s, .slice none 0 0] := by rw [← hW]; exact Blk.new_at _ _ _ (by simp)
  have hG : Blk W w.heap.size 42 #[.int .i64 5, .int .i64 op, .int .i64 n, .string s, .slice A m c] := by rw [← hW]; exact (Blk.new _ _ _).alloc _
  have hB : Below w.heap.size w W := by rw [← hW]; exact below2 _ _ _
  have hs1 : w.heap.size + 1 < W.heap.size := by rw [← hW]; simp
  have SO : Hid (∀ X, (fun X => Blk X (w.heap.size + 1) 42 #[.int .i64 5, .int .i64 0, .int .i64 0, .string s, .slice none 0 0] ∧ Blk X w.heap.size 42 #[.int .i64 5, .int .i64 op, .int .i64 n, .string s, .slice A m c] ∧ Below w.heap.size w X ∧ w.heap.size + 1 < X.heap.size) X → (fun w2 => w2.cell? ⟨w.heap.size + 1, 0, none⟩ = some (.int .i64 5) ∧ w2.cell? ⟨w.heap.size + 1, 1, none⟩ = some (.int .i64 0) ∧ w2.cell? ⟨w.heap.size + 1, 2, none⟩ = some (.int .i64 0) ∧ w2.cell? ⟨w.heap.size + 1, 3, none⟩ = some (.string s) ∧ w2.cell? ⟨w.heap.size + 1, 4, none⟩ = some (.slice none 0 0) ∧ w2.cell? ⟨w.heap.size, 3, none⟩ = some (.string s) ∧ w2.cell? ⟨w.heap.size, 4, none⟩ = some (.slice A m c)) X) := Lib.hid (fun X hb => ⟨hb.1.cell 0, hb.1.cell 1, hb.1.cell 2, hb.1.cell 3, hb.1.cell 4, hb.2.1.cell 3, hb.2.1.cell 4⟩)
  have TB : Hid (∀ X Y, (fun X => Blk X (w.heap.size + 1) 42 #[.int .i64 5, .int .i64 0, .int .i64 0, .string s, .slice none 0 0] ∧ Blk X w.heap.size 42 #[.int .i64 5, .int .i64 op, .int .i64 n, .string s, .slice A m c] ∧ Below w.heap.size w X ∧ w.heap.size + 1 < X.heap.size) X → Below X.heap.size X Y → (fun X => Blk X (w.heap.size + 1) 42 #[.int .i64 5, .int .i64 0, .int .i64 0, .string s, .slice none 0 0] ∧ Blk X w.heap.size 42 #[.int .i64 5, .int .i64 op, .int .i64 n, .string s, .slice A m c] ∧ Below w.heap.size w X ∧ w.heap.size + 1 < X.heap.size) Y) := Lib.hid (fun X Y h hb => ⟨h.1.below hb h.1.lt, h.2.1.below hb h.2.1.lt, h.2.2.1.trans (hb.mono h.2.2.1.size), Nat.lt_of_lt_of_le h.2.2.2 hb.size⟩)
  have TS : Hid (∀ X, (fun X => Blk X (w.heap.size + 1) 42 #[.int .i64 5, .int .i64 0, .int .i64 0, .string s, .slice none 0 0] ∧ Blk X w.heap.size 42 #[.int .i64 5, .int .i64 op, .int .i64 n, .string s, .slice A m c] ∧ Below w.heap.size w X ∧ w.heap.size + 1 < X.heap.size) X → (fun X => Blk X (w.heap.size + 1) 42 #[.int .i64 5, .int .i64 0, .int .i64 0, .string s, .slice none 0 0] ∧ Blk X w.heap.size 42 #[.int .i64 5, .int .i64 op, .int .i64 n, .string s, .slice A m c] ∧ Below w.heap.size w X ∧ w.heap.size + 1 < X.heap.size) (((((X.setCell ⟨w.heap.size + 1, 0, none⟩ (.int .i64 5)).setCell ⟨w.heap.size + 1, 1, none⟩ (.int .i64 0)).setCell ⟨w.heap.size + 1, 2, none⟩ (.int .i64 0)).setCell ⟨w.heap.size + 1, 3, none⟩ (.string s)).setCell ⟨w.heap.size + 1, 4, none⟩ (.slice none 0 0))) := Lib.hid (fun X h => ⟨(((((h.1.set_ 0 _).set_ 1 _).set_ 2 _).set_ 3 _).set_ 4 _), (((((h.2.1.far (by simp) _).far (by simp) _).far (by simp) _).far (by simp) _).far (by simp) _), (((((h.2.2.1.setCell (p := ⟨w.heap.size + 1, 0, none⟩) (Nat.le_succ _) _).setCell (p := ⟨w.heap.size + 1, 1, none⟩) (Nat.le_succ _) _).setCell (p := ⟨w.heap.size + 1, 2, none⟩) (Nat.le_succ _) _).setCell (p := ⟨w.heap.size + 1, 3, none⟩) (Nat.le_succ _) _).setCell (p := ⟨w.heap.size + 1, 4, none⟩) (Nat.le_succ _) _), by simpa using h.2.2.2⟩)
  have HT0 : Hid ((fun X => Blk X (w.heap.size + 1) 42 #[.int .i64 5, .int .i64 0, .int .i64 0, .string s, .slice none 0 0] ∧ Blk X w.heap.size 42 #[.int .i64 5, .int .i64 op, .int .i64 n, .string s, .slice A m c] ∧ Below w.heap.size w X ∧ w.heap.size + 1 < X.heap.size) W.drew) := Lib.hid ⟨hX.drew, hG.drew, hB.drew, hs1⟩
  clear hW hX hG hB hs1
  refine wp_region_L (by kernel_rfl) 15 (fun w2 => w2.cell? ⟨w.heap.size + 1, 0, none⟩ = some (.int .i64 5) ∧ w2.cell? ⟨w.heap.size + 1, 1, none⟩ = some (.int .i64 0) ∧ w2.cell? ⟨w.heap.size + 1, 2, none⟩ = some (.int .i64 0) ∧ w2.cell? ⟨w.heap.size + 1, 3, none⟩ = some (.string s) ∧ w2.cell? ⟨w.heap.size + 1, 4, none⟩ = some (.slice none 0 0) ∧ w2.cell? ⟨w.heap.size, 3, none⟩ = some (.string s) ∧ w2.cell? ⟨w.heap.size, 4, none⟩ = some (.slice A m c)) (SO.out _ HT0.out) (fun hHeld => ?_)
  have HS0 := Lib.hid hHeld
  clear hHeld
  change wpAnyL _ _ _ _ _ 15 16 (Array.replicate 16 false) _ _
  obtain ⟨X0, hX0⟩ : ∃ X0, W.drew = X0 := ⟨_, rfl⟩
  rw [hX0] at HT0 HS0 ⊢
  clear hX0 W
  refine tS 0 62 (.agg #[.int .i64 5, .int .i64 0, .int .i64 0, .string s, .slice none 0 0]) [15] HS0.out rfl rfl ?_ ?_
  · intro w2 hSw; obtain ⟨g0, g1, g2, g3, g4, g5, g6⟩ := hSw; go_simp
  try simp only [sA, sB, sC]
  refine tj 1 63 (.pointer (some ⟨w.heap.size, 4, none⟩)) HS0.out rfl rfl ?_
  try simp only [sA, sB, sC]
  refine tS 2 64 (.slice A m c) [15] HS0.out rfl rfl ?_ ?_
  · intro w2 hSw; obtain ⟨g0, g1, g2, g3, g4, g5, g6⟩ := hSw; go_simp
  try simp only [sA, sB, sC]
  refine tj 3 65 (.int .i64 (m : Int)) HS0.out rfl rfl ?_
  try simp only [sA, sB, sC]
  refine tj 4 66 (.pointer (some ⟨w.heap.size, 3, none⟩)) HS0.out rfl rfl ?_
  try simp only [sA, sB, sC]
  refine tS 5 67 (.string s) [15] HS0.out rfl rfl ?_ ?_
  · intro w2 hSw; obtain ⟨g0, g1, g2, g3, g4, g5, g6⟩ := hSw; go_simp
  try simp only [sA, sB, sC]
  refine wpAnyL_ready (rs := [6]) (by kernel_rfl) (by simp) ?_
  refine AllReadyL.cons rfl (fun K hK => ?_) AllReadyL.nil
  go_simp
  refine (HN.out X0).mono ?_
  rintro e X1 ⟨rfl, hx1⟩
  have HT1 := Lib.hid (TB.out _ X1 HT0.out hx1)
  clear hx1
  refine hK.out _ _ (SO.out _ HT1.out) (fun hHeld => ?_)
  have HS1 := Lib.hid hHeld
  clear hK K hHeld
  try simp only [sA, sB, sC]
  refine tj 7 69 (.bool true) HS1.out rfl rfl ?_
  try simp only [sA, sB, sC]
  refine tj 8 70 (.pointer (some ⟨w.heap.size, 4, none⟩)) HS1.out rfl rfl ?_
  try simp only [sA, sB, sC]
  refine tS 9 71 (.slice A m c) [15] HS1.out rfl rfl ?_ ?_
  · intro w2 hSw; obtain ⟨g0, g1, g2, g3, g4, g5, g6⟩ := hSw; go_simp
  try simp only [sA, sB, sC]
  refine tj 10 72 (.int .i64 (m : Int)) HS1.out rfl rfl ?_
  try simp only [sA, sB, sC]
  refine tj 11 73 (.bool (decide ((m : Int) ≤ 6))) HS1.out rfl rfl ?_
  try simp only [sA, sB, sC]
  refine tj 12 74 (.bool (decide ((m : Int) ≤ 6))) HS1.out rfl rfl ?_
  try simp only [sA, sB, sC]
  refine wpAnyL_ready (rs := [13]) (by kernel_rfl) (by simp) ?_
  refine AllReadyL.cons rfl (fun K hK => ?_) AllReadyL.nil
  have hY := HT1.out.1
  have y0 : X1.cell? ⟨w.heap.size + 1, 0, none⟩ = some (.int .i64 5) := hY.cell 0
  have y1 : X1.cell? ⟨w.heap.size + 1, 1, none⟩ = some (.int .i64 0) := hY.cell 1
  have y2 : X1.cell? ⟨w.heap.size + 1, 2, none⟩ = some (.int .i64 0) := hY.cell 2
  have y3 : X1.cell? ⟨w.heap.size + 1, 3, none⟩ = some (.string s) := hY.cell 3
  have y4 : X1.cell? ⟨w.heap.size + 1, 4, none⟩ = some (.slice none 0 0) := hY.cell 4
  have z0 : X1.frozen? ⟨w.heap.size + 1, 0, none⟩ = false := hY.frozen 0
  have z1 : X1.frozen? ⟨w.heap.size + 1, 1, none⟩ = false := hY.frozen 1
  have z2 : X1.frozen? ⟨w.heap.size + 1, 2, none⟩ = false := hY.frozen 2
  have z3 : X1.frozen? ⟨w.heap.size + 1, 3, none⟩ = false := hY.frozen 3
  have z4 : X1.frozen? ⟨w.heap.size + 1, 4, none⟩ = false := hY.frozen 4
  clear hY
  go_simp
  have HT2 := Lib.hid (TS.out _ HT1.out)
  refine hK.out _ _ (SO.out _ HT2.out) (fun hHeld => ?_)
  have HS2 := Lib.hid hHeld
  clear hK K hHeld
  try simp only [sA, sB, sC]
  refine tj 14 3 (.int .i64 (m : Int)) HS2.out rfl rfl ?_
  try simp only [sA, sB, sC]
  refine wpAnyL_ready (rs := [15]) (by kernel_rfl) (by simp) ?_
  refine AllReadyL.last rfl (by kernel_rfl) (fun K hK => ?_)
  go_simp
  refine hK.out _ _ ?_
  clear hK K
  try simp only [sA, sB, sC]
  refine wpAnyL_done (by kernel_rfl) ?_ _
  go_wp2
  refine bodyPost_ret (results_cellT2 (p := 2) (q := 3) (r := 4) (ty := 42) (by kernel_rfl) _ _ (w.heap.size + 1) 42 _ (0, 0) _ (.int .i64 (m : Int)) (.bool (decide ((m : Int) ≤ 6))) rfl rfl rfl HT2.out.1 Tryz.underlying42 rfl (by kernel_rfl)) rfl ?_
  exact ⟨rfl, HT2.out.2.2.1⟩
set_option maxHeartbeats 4000000 in
theorem only5n (op n : Int) (s : ByteArray) (m c : Nat) (A : Option Addr) (w : World) (hn : nameB s = false) : Calls Tryz.prog 113 #[.agg #[.int .i64 5, .int .i64 op, .int .i64 n, .string s, .slice A m c]] w fun e w' => e = .returned (.tuple #[.agg #[.int .i64 5, .int .i64 0, .int .i64 0, .string s, .slice none 0 0], .int .i64 (m : Int), .bool false]) ∧ Below w.heap.size w w' := by
  have HN : Hid (∀ X, Calls Tryz.prog 62 #[.string s] X fun e w' => e = .returned (.bool false) ∧ Below X.heap.size X w') := Lib.hid (fun X => by have := name_any s X; rw [hn] at this; exact this)
  clear hn
  go_enter Tryz.func113, Tryz.ntmps113
  go_upto_region 17 with fail
  refine wp_world ?_
  intro W hW
  have hX : Blk W (w.heap.size + 1) 42 #[.int .i64 5, .int .i64 0, .int .i64 0, .string s, .slice none 0 0] := by rw [← hW]; exact Blk.new_at _ _ _ (by simp)
  have hG : Blk W w.heap.size 42 #[.int .i64 5, .int .i64 op, .int .i64 n, .string s, .slice A m c] := by rw [← hW]; exact (Blk.new _ _ _).alloc _
  have hB : Below w.heap.size w W := by rw [← hW]; exact below2 _ _ _
  have hs1 : w.heap.size + 1 < W.heap.size := by rw [← hW]; simp
  have SO : Hid (∀ X, (fun X => Blk X (w.heap.size + 1) 42 #[.int .i64 5, .int .i64 0, .int .i64 0, .string s, .slice none 0 0] ∧ Blk X w.heap.size 42 #[.int .i64 5, .int .i64 op, .int .i64 n, .string s, .slice A m c] ∧ Below w.heap.size w X ∧ w.heap.size + 1 < X.heap.size) X → (fun w2 => w2.cell? ⟨w.heap.size + 1, 0, none⟩ = some (.int .i64 5) ∧ w2.cell? ⟨w.heap.size + 1, 1, none⟩ = some (.int .i64 0) ∧ w2.cell? ⟨w.heap.size + 1, 2, none⟩ = some (.int .i64 0) ∧ w2.cell? ⟨w.heap.size + 1, 3, none⟩ = some (.string s) ∧ w2.cell? ⟨w.heap.size + 1, 4, none⟩ = some (.slice none 0 0) ∧ w2.cell? ⟨w.heap.size, 3, none⟩ = some (.string s) ∧ w2.cell? ⟨w.heap.size, 4, none⟩ = some (.slice A m c)) X) := Lib.hid (fun X hb => ⟨hb.1.cell 0, hb.1.cell 1, hb.1.cell 2, hb.1.cell 3, hb.1.cell 4, hb.2.1.cell 3, hb.2.1.cell 4⟩)
  have TB : Hid (∀ X Y, (fun X => Blk X (w.heap.size + 1) 42 #[.int .i64 5, .int .i64 0, .int .i64 0, .string s, .slice none 0 0] ∧ Blk X w.heap.size 42 #[.int .i64 5, .int .i64 op, .int .i64 n, .string s, .slice A m c] ∧ Below w.heap.size w X ∧ w.heap.size + 1 < X.heap.size) X → Below X.heap.size X Y → (fun X => Blk X (w.heap.size + 1) 42 #[.int .i64 5, .int .i64 0, .int .i64 0, .string s, .slice none 0 0] ∧ Blk X w.heap.size 42 #[.int .i64 5, .int .i64 op, .int .i64 n, .string s, .slice A m c] ∧ Below w.heap.size w X ∧ w.heap.size + 1 < X.heap.size) Y) := Lib.hid (fun X Y h hb => ⟨h.1.below hb h.1.lt, h.2.1.below hb h.2.1.lt, h.2.2.1.trans (hb.mono h.2.2.1.size), Nat.lt_of_lt_of_le h.2.2.2 hb.size⟩)
  have TS : Hid (∀ X, (fun X => Blk X (w.heap.size + 1) 42 #[.int .i64 5, .int .i64 0, .int .i64 0, .string s, .slice none 0 0] ∧ Blk X w.heap.size 42 #[.int .i64 5, .int .i64 op, .int .i64 n, .string s, .slice A m c] ∧ Below w.heap.size w X ∧ w.heap.size + 1 < X.heap.size) X → (fun X => Blk X (w.heap.size + 1) 42 #[.int .i64 5, .int .i64 0, .int .i64 0, .string s, .slice none 0 0] ∧ Blk X w.heap.size 42 #[.int .i64 5, .int .i64 op, .int .i64 n, .string s, .slice A m c] ∧ Below w.heap.size w X ∧ w.heap.size + 1 < X.heap.size) (((((X.setCell ⟨w.heap.size + 1, 0, none⟩ (.int .i64 5)).setCell ⟨w.heap.size + 1, 1, none⟩ (.int .i64 0)).setCell ⟨w.heap.size + 1, 2, none⟩ (.int .i64 0)).setCell ⟨w.heap.size + 1, 3, none⟩ (.string s)).setCell ⟨w.heap.size + 1, 4, none⟩ (.slice none 0 0))) := Lib.hid (fun X h => ⟨(((((h.1.set_ 0 _).set_ 1 _).set_ 2 _).set_ 3 _).set_ 4 _), (((((h.2.1.far (by simp) _).far (by simp) _).far (by simp) _).far (by simp) _).far (by simp) _), (((((h.2.2.1.setCell (p := ⟨w.heap.size + 1, 0, none⟩) (Nat.le_succ _) _).setCell (p := ⟨w.heap.size + 1, 1, none⟩) (Nat.le_succ _) _).setCell (p := ⟨w.heap.size + 1, 2, none⟩) (Nat.le_succ _) _).setCell (p := ⟨w.heap.size + 1, 3, none⟩) (Nat.le_succ _) _).setCell (p := ⟨w.heap.size + 1, 4, none⟩) (Nat.le_succ _) _), by simpa using h.2.2.2⟩)
  have HT0 : Hid ((fun X => Blk X (w.heap.size + 1) 42 #[.int .i64 5, .int .i64 0, .int .i64 0, .string s, .slice none 0 0] ∧ Blk X w.heap.size 42 #[.int .i64 5, .int .i64 op, .int .i64 n, .string s, .slice A m c] ∧ Below w.heap.size w X ∧ w.heap.size + 1 < X.heap.size) W.drew) := Lib.hid ⟨hX.drew, hG.drew, hB.drew, hs1⟩
  clear hW hX hG hB hs1
  refine wp_region_L (by kernel_rfl) 15 (fun w2 => w2.cell? ⟨w.heap.size + 1, 0, none⟩ = some (.int .i64 5) ∧ w2.cell? ⟨w.heap.size + 1, 1, none⟩ = some (.int .i64 0) ∧ w2.cell? ⟨w.heap.size + 1, 2, none⟩ = some (.int .i64 0) ∧ w2.cell? ⟨w.heap.size + 1, 3, none⟩ = some (.string s) ∧ w2.cell? ⟨w.heap.size + 1, 4, none⟩ = some (.slice none 0 0) ∧ w2.cell? ⟨w.heap.size, 3, none⟩ = some (.string s) ∧ w2.cell? ⟨w.heap.size, 4, none⟩ = some (.slice A m c)) (SO.out _ HT0.out) (fun hHeld => ?_)
  have HS0 := Lib.hid hHeld
  clear hHeld
  change wpAnyL _ _ _ _ _ 15 16 (Array.replicate 16 false) _ _
  obtain ⟨X0, hX0⟩ : ∃ X0, W.drew = X0 := ⟨_, rfl⟩
  rw [hX0] at HT0 HS0 ⊢
  clear hX0 W
  refine tS 0 62 (.agg #[.int .i64 5, .int .i64 0, .int .i64 0, .string s, .slice none 0 0]) [15] HS0.out rfl rfl ?_ ?_
  · intro w2 hSw; obtain ⟨g0, g1, g2, g3, g4, g5, g6⟩ := hSw; go_simp
  try simp only [sA, sB, sC]
  refine tj 1 63 (.pointer (some ⟨w.heap.size, 4, none⟩)) HS0.out rfl rfl ?_
  try simp only [sA, sB, sC]
  refine tS 2 64 (.slice A m c) [15] HS0.out rfl rfl ?_ ?_
  · intro w2 hSw; obtain ⟨g0, g1, g2, g3, g4, g5, g6⟩ := hSw; go_simp
  try simp only [sA, sB, sC]
  refine tj 3 65 (.int .i64 (m : Int)) HS0.out rfl rfl ?_
  try simp only [sA, sB, sC]
  refine tj 4 66 (.pointer (some ⟨w.heap.size, 3, none⟩)) HS0.out rfl rfl ?_
  try simp only [sA, sB, sC]
  refine tS 5 67 (.string s) [15] HS0.out rfl rfl ?_ ?_
  · intro w2 hSw; obtain ⟨g0, g1, g2, g3, g4, g5, g6⟩ := hSw; go_simp
  try simp only [sA, sB, sC]
  refine wpAnyL_ready (rs := [6]) (by kernel_rfl) (by simp) ?_
  refine AllReadyL.cons rfl (fun K hK => ?_) AllReadyL.nil
  go_simp
  refine (HN.out X0).mono ?_
  rintro e X1 ⟨rfl, hx1⟩
  have HT1 := Lib.hid (TB.out _ X1 HT0.out hx1)
  clear hx1
  refine hK.out _ _ (SO.out _ HT1.out) (fun hHeld => ?_)
  have HS1 := Lib.hid hHeld
  clear hK K hHeld
  try simp only [sA, sB, sC]
  refine tj 7 69 (.bool false) HS1.out rfl rfl ?_
  try simp only [sA, sB, sC]
  refine tN 8 70 HS1.out rfl rfl ?_
  try simp only [sA, sB, sC]
  refine tN 9 71 HS1.out rfl rfl ?_
  try simp only [sA, sB, sC]
  refine tN 10 72 HS1.out rfl rfl ?_
  try simp only [sA, sB, sC]
  refine tN 11 73 HS1.out rfl rfl ?_
  try simp only [sA, sB, sC]
  refine tj 12 74 (.bool false) HS1.out rfl rfl ?_
  try simp only [sA, sB, sC]
  refine wpAnyL_ready (rs := [13]) (by kernel_rfl) (by simp) ?_
  refine AllReadyL.cons rfl (fun K hK => ?_) AllReadyL.nil
  have hY := HT1.out.1
  have y0 : X1.cell? ⟨w.heap.size + 1, 0, none⟩ = some (.int .i64 5) := hY.cell 0
  have y1 : X1.cell? ⟨w.heap.size + 1, 1, none⟩ = some (.int .i64 0) := hY.cell 1
  have y2 : X1.cell? ⟨w.heap.size + 1, 2, none⟩ = some (.int .i64 0) := hY.cell 2
  have y3 : X1.cell? ⟨w.heap.size + 1, 3, none⟩ = some (.string s) := hY.cell 3
  have y4 : X1.cell? ⟨w.heap.size + 1, 4, none⟩ = some (.slice none 0 0) := hY.cell 4
  have z0 : X1.frozen? ⟨w.heap.size + 1, 0, none⟩ = false := hY.frozen 0
  have z1 : X1.frozen? ⟨w.heap.size + 1, 1, none⟩ = false := hY.frozen 1
  have z2 : X1.frozen? ⟨w.heap.size + 1, 2, none⟩ = false := hY.frozen 2
  have z3 : X1.frozen? ⟨w.heap.size + 1, 3, none⟩ = false := hY.frozen 3
  have z4 : X1.frozen? ⟨w.heap.size + 1, 4, none⟩ = false := hY.frozen 4
  clear hY
  go_simp
  have HT2 := Lib.hid (TS.out _ HT1.out)
  refine hK.out _ _ (SO.out _ HT2.out) (fun hHeld => ?_)
  have HS2 := Lib.hid hHeld
  clear hK K hHeld
  try simp only [sA, sB, sC]
  refine tj 14 3 (.int .i64 (m : Int)) HS2.out rfl rfl ?_
  try simp only [sA, sB, sC]
  refine wpAnyL_ready (rs := [15]) (by kernel_rfl) (by simp) ?_
  refine AllReadyL.last rfl (by kernel_rfl) (fun K hK => ?_)
  go_simp
  refine hK.out _ _ ?_
  clear hK K
  try simp only [sA, sB, sC]
  refine wpAnyL_done (by kernel_rfl) ?_ _
  go_wp2
  refine bodyPost_ret (results_cellT2 (p := 2) (q := 3) (r := 4) (ty := 42) (by kernel_rfl) _ _ (w.heap.size + 1) 42 _ (0, 0) _ (.int .i64 (m : Int)) (.bool false) rfl rfl rfl HT2.out.1 Tryz.underlying42 rfl (by kernel_rfl)) rfl ?_
  exact ⟨rfl, HT2.out.2.2.1⟩
set_option maxHeartbeats 4000000 in
theorem only7 (op n : Int) (s : ByteArray) (m c : Nat) (A : Option Addr) (w : World) : Calls Tryz.prog 113 #[.agg #[.int .i64 7, .int .i64 op, .int .i64 n, .string s, .slice A m c]] w fun e w' => e = .returned (.tuple #[.agg #[.int .i64 7, .int .i64 0, .int .i64 0, .string ⟨#[]⟩, .slice none 0 0], .int .i64 0, .bool true]) ∧ Below w.heap.size w w' := by
  go_enter Tryz.func113, Tryz.ntmps113
  go_upto_region 22 with fail
  refine wp_world ?_
  intro W hW
  have hX : Blk W (w.heap.size + 1) 42 #[.int .i64 7, .int .i64 0, .int .i64 0, .string ⟨#[]⟩, .slice none 0 0] := by rw [← hW]; exact Blk.new_at _ _ _ (by simp)
  have hB : Below w.heap.size w W := by rw [← hW]; exact below2 _ _ _
  have y0 : W.cell? ⟨w.heap.size + 1, 0, none⟩ = some (.int .i64 7) := hX.cell 0
  have y1 : W.cell? ⟨w.heap.size + 1, 1, none⟩ = some (.int .i64 0) := hX.cell 1
  have y2 : W.cell? ⟨w.heap.size + 1, 2, none⟩ = some (.int .i64 0) := hX.cell 2
  have y3 : W.cell? ⟨w.heap.size + 1, 3, none⟩ = some (.string ⟨#[]⟩) := hX.cell 3
  have y4 : W.cell? ⟨w.heap.size + 1, 4, none⟩ = some (.slice none 0 0) := hX.cell 4
  have z0 := hX.frozen 0
  have z1 := hX.frozen 1
  have z2 := hX.frozen 2
  have z3 := hX.frozen 3
  have z4 := hX.frozen 4
  have HY := Lib.hid hX
  have HB := Lib.hid hB
  have HX0 : Hid (Below W.heap.size W W) := Lib.hid (Below.refl _ _)
  clear hW hX hB
  go_wp2
  refine bodyPost_ret (results_cellT2 (p := 2) (q := 3) (r := 4) (ty := 42) (by kernel_rfl) _ _ (w.heap.size + 1) 42 _ (0, 0) _ (.int .i64 0) (.bool true) rfl rfl rfl (((((HY.out.set_ 0 _).set_ 1 _).set_ 2 _).set_ 3 _).set_ 4 _) Tryz.underlying42 rfl (by kernel_rfl)) rfl ?_
  exact ⟨rfl, ((((((HB.out.trans (HX0.out.mono HB.out.size)).setCell (p := ⟨w.heap.size + 1, 0, none⟩) (Nat.le_succ _) _).setCell (p := ⟨w.heap.size + 1, 1, none⟩) (Nat.le_succ _) _).setCell (p := ⟨w.heap.size + 1, 2, none⟩) (Nat.le_succ _) _).setCell (p := ⟨w.heap.size + 1, 3, none⟩) (Nat.le_succ _) _).setCell (p := ⟨w.heap.size + 1, 4, none⟩) (Nat.le_succ _) _)⟩
set_option maxHeartbeats 4000000 in
theorem only0 (k op n : Int) (s : ByteArray) (m c : Nat) (A : Option Addr) (w : World) (e1 : (k == 1) = false) (e2 : (k == 2) = false) (e3 : (k == 3) = false) (e4 : (k == 4) = false) (e5 : (k == 5) = false) (e6 : (k == 6) = false) (e7 : (k == 7) = false) : Calls Tryz.prog 113 #[.agg #[.int .i64 k, .int .i64 op, .int .i64 n, .string s, .slice A m c]] w fun e w' => e = .returned (.tuple #[.agg #[.int .i64 k, .int .i64 0, .int .i64 0, .string ⟨#[]⟩, .slice none 0 0], .int .i64 0, .bool false]) ∧ Below w.heap.size w w' := by
  go_enter Tryz.func113, Tryz.ntmps113
  go_upto_region 23 with fail
  refine wp_world ?_
  intro W hW
  have hX : Blk W (w.heap.size + 1) 42 #[.int .i64 k, .int .i64 0, .int .i64 0, .string ⟨#[]⟩, .slice none 0 0] := by rw [← hW]; exact Blk.new_at _ _ _ (by simp)
  have hB : Below w.heap.size w W := by rw [← hW]; exact below2 _ _ _
  have y0 : W.cell? ⟨w.heap.size + 1, 0, none⟩ = some (.int .i64 k) := hX.cell 0
  have y1 : W.cell? ⟨w.heap.size + 1, 1, none⟩ = some (.int .i64 0) := hX.cell 1
  have y2 : W.cell? ⟨w.heap.size + 1, 2, none⟩ = some (.int .i64 0) := hX.cell 2
  have y3 : W.cell? ⟨w.heap.size + 1, 3, none⟩ = some (.string ⟨#[]⟩) := hX.cell 3
  have y4 : W.cell? ⟨w.heap.size + 1, 4, none⟩ = some (.slice none 0 0) := hX.cell 4
  have z0 := hX.frozen 0
  have z1 := hX.frozen 1
  have z2 := hX.frozen 2
  have z3 := hX.frozen 3
  have z4 := hX.frozen 4
  have HY := Lib.hid hX
  have HB := Lib.hid hB
  have HX0 : Hid (Below W.heap.size W W) := Lib.hid (Below.refl _ _)
  clear hW hX hB
  go_wp2
  refine bodyPost_ret (results_cellT2 (p := 2) (q := 3) (r := 4) (ty := 42) (by kernel_rfl) _ _ (w.heap.size + 1) 42 _ (0, 0) _ (.int .i64 0) (.bool false) rfl rfl rfl (((((HY.out.set_ 0 _).set_ 1 _).set_ 2 _).set_ 3 _).set_ 4 _) Tryz.underlying42 rfl (by kernel_rfl)) rfl ?_
  exact ⟨rfl, ((((((HB.out.trans (HX0.out.mono HB.out.size)).setCell (p := ⟨w.heap.size + 1, 0, none⟩) (Nat.le_succ _) _).setCell (p := ⟨w.heap.size + 1, 1, none⟩) (Nat.le_succ _) _).setCell (p := ⟨w.heap.size + 1, 2, none⟩) (Nat.le_succ _) _).setCell (p := ⟨w.heap.size + 1, 3, none⟩) (Nat.le_succ _) _).setCell (p := ⟨w.heap.size + 1, 4, none⟩) (Nat.le_succ _) _)⟩
end Go.Proofs.YtmignlclfbaifaaGreat
