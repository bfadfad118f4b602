/- What fold.places hands back: where the places that an instruction uses stand. Printed by wip/gen_foldplaces.py. Values in the place of others: the stores of fold, and what lies in memory behind them. What (fold.facts).ins makes of an instruction. -/
import Derived.Test.YtnpnhdmfdhnmfaaGreatDoorFoldKnown
namespace Go.Proofs.YtnpnhdmfdhnmfaaGreatDoor
open Go.RowKit
open Go.Deep

theorem fown_keep {w w' : World} {base : Nat} {e : TypeId} {size : Nat} {v : Value} {n : Nat} {xs : List Value} (h : w.ownsRow base e size v n xs) (hk : ∀ g, v.ownBlock = some g → w'.heap[g]? = w.heap[g]?) : w'.ownsRow base e size v n xs := by
  refine ⟨h.1, ?_⟩
  rcases h.2 with hn | ⟨g, cap, cur, hv, hb, hg, rest⟩
  · exact .inl hn
  · exact .inr ⟨g, cap, cur, hv, hb, by rw [hk g (by rw [hv]; rfl)]; exact hg, rest⟩
/-- the cells of the places that an instruction uses, and what they hold: the instruction lies in block pb, what it hands on in block g -/
def adsOf (kind a b : Int) (args : List Int) (pb g : Nat) : List (Addr × Int) :=
  if kind = 2 ∨ kind = 3 ∨ kind = 5 ∨ kind = 8 then [(⟨pb, 2, none⟩, a)]
  else if kind = 4 ∨ kind = 6 then [(⟨pb, 2, none⟩, a), (⟨pb, 3, none⟩, b)]
  else if kind = 9 then args.zipIdx.map fun p => (⟨g, p.2, none⟩, p.1)
  else []
def ptrOf (p : Addr × Int) : Value := .pointer (some p.1)
theorem info_ptr : (Tryz.prog.info? 149).map (fun i => (i.zero, i.size, i.bytes)) = some (some (.pointer none), 1, 8) := by kernel_rfl
/-- the row that places hands back -/
def PtrPost (w : World) (ads : List (Addr × Int)) (e : Ending) (w' : World) : Prop :=
  ∃ v, e = .returned v ∧ Below w.heap.size w w' ∧ w'.ownsRow w.heap.size 149 1 v ads.length (ads.map ptrOf) ∧ (∀ g, v.ownBlock = some g → g < w'.heap.size)

section
set_option maxRecDepth 100000
set_option maxHeartbeats 4000000
theorem places_2 (d a b op n : Int) (nm : ByteArray) (va : Value) (pb : Nat) (w : World) (hx : Blk w pb 36 #[.int .i64 2, .int .i64 d, .int .i64 a, .int .i64 b, .int .i64 op, .int .i64 n, .string nm, va]) : Calls Tryz.prog 91 #[.pointer (some ⟨pb, 0, none⟩)] w (PtrPost w [(⟨pb, 2, none⟩, a)]) := by
  have q0 : w.cell? ⟨pb, 0, none⟩ = some (.int .i64 2) := hx.cell 0
  have hpl := hx.lt
  obtain ⟨z0, hi0, hz0, hz1, hz2⟩ := info_parts info_ptr
  clear hx
  go_enter Tryz.func91, Tryz.ntmps91
  go_wp2_with (at_builtin; refine wpList_append_any _ rfl _ _ 146 rfl w.heap.size 149 z0 _ 1 8 Tryz.underlying146 hi0 hz0 hz1 hz2 rfl (by decide) (.slice none 0 0) 0 [] rfl (World.ownsRow_nil _ _ _ _) (some ⟨w.heap.size, 0, none⟩) 1 1 [.pointer (some ⟨pb, 2, none⟩)] rfl rfl (.inr ⟨_, rfl, World.news_of_block (Blk.new w _ _)⟩) (by simp [Value.oneCell']) (by decide) (by omega) (by simp) _ rfl ?_; intro v' w1 hown1 hgrow1 hat1)
  go_ret
  refine ⟨_, rfl, (below1 w _).grown hgrow1 (by simp) (fun k e => by cases e), hown1, fun g e => (hat1 g e).2⟩
theorem places_3 (d a b op n : Int) (nm : ByteArray) (va : Value) (pb : Nat) (w : World) (hx : Blk w pb 36 #[.int .i64 3, .int .i64 d, .int .i64 a, .int .i64 b, .int .i64 op, .int .i64 n, .string nm, va]) : Calls Tryz.prog 91 #[.pointer (some ⟨pb, 0, none⟩)] w (PtrPost w [(⟨pb, 2, none⟩, a)]) := by
  have q0 : w.cell? ⟨pb, 0, none⟩ = some (.int .i64 3) := hx.cell 0
  have hpl := hx.lt
  obtain ⟨z0, hi0, hz0, hz1, hz2⟩ := info_parts info_ptr
  clear hx
  go_enter Tryz.func91, Tryz.ntmps91
  go_wp2_with (at_builtin; refine wpList_append_any _ rfl _ _ 146 rfl w.heap.size 149 z0 _ 1 8 Tryz.underlying146 hi0 hz0 hz1 hz2 rfl (by decide) (.slice none 0 0) 0 [] rfl (World.ownsRow_nil _ _ _ _) (some ⟨w.heap.size, 0, none⟩) 1 1 [.pointer (some ⟨pb, 2, none⟩)] rfl rfl (.inr ⟨_, rfl, World.news_of_block (Blk.new w _ _)⟩) (by simp [Value.oneCell']) (by decide) (by omega) (by simp) _ rfl ?_; intro v' w1 hown1 hgrow1 hat1)
  go_ret
  refine ⟨_, rfl, (below1 w _).grown hgrow1 (by simp) (fun k e => by cases e), hown1, fun g e => (hat1 g e).2⟩
theorem places_5 (d a b op n : Int) (nm : ByteArray) (va : Value) (pb : Nat) (w : World) (hx : Blk w pb 36 #[.int .i64 5, .int .i64 d, .int .i64 a, .int .i64 b, .int .i64 op, .int .i64 n, .string nm, va]) : Calls Tryz.prog 91 #[.pointer (some ⟨pb, 0, none⟩)] w (PtrPost w [(⟨pb, 2, none⟩, a)]) := by
  have q0 : w.cell? ⟨pb, 0, none⟩ = some (.int .i64 5) := hx.cell 0
  have hpl := hx.lt
  obtain ⟨z0, hi0, hz0, hz1, hz2⟩ := info_parts info_ptr
  clear hx
  go_enter Tryz.func91, Tryz.ntmps91
  go_wp2_with (at_builtin; refine wpList_append_any _ rfl _ _ 146 rfl w.heap.size 149 z0 _ 1 8 Tryz.underlying146 hi0 hz0 hz1 hz2 rfl (by decide) (.slice none 0 0) 0 [] rfl (World.ownsRow_nil _ _ _ _) (some ⟨w.heap.size, 0, none⟩) 1 1 [.pointer (some ⟨pb, 2, none⟩)] rfl rfl (.inr ⟨_, rfl, World.news_of_block (Blk.new w _ _)⟩) (by simp [Value.oneCell']) (by decide) (by omega) (by simp) _ rfl ?_; intro v' w1 hown1 hgrow1 hat1)
  go_ret
  refine ⟨_, rfl, (below1 w _).grown hgrow1 (by simp) (fun k e => by cases e), hown1, fun g e => (hat1 g e).2⟩
theorem places_8 (d a b op n : Int) (nm : ByteArray) (va : Value) (pb : Nat) (w : World) (hx : Blk w pb 36 #[.int .i64 8, .int .i64 d, .int .i64 a, .int .i64 b, .int .i64 op, .int .i64 n, .string nm, va]) : Calls Tryz.prog 91 #[.pointer (some ⟨pb, 0, none⟩)] w (PtrPost w [(⟨pb, 2, none⟩, a)]) := by
  have q0 : w.cell? ⟨pb, 0, none⟩ = some (.int .i64 8) := hx.cell 0
  have hpl := hx.lt
  obtain ⟨z0, hi0, hz0, hz1, hz2⟩ := info_parts info_ptr
  clear hx
  go_enter Tryz.func91, Tryz.ntmps91
  go_wp2_with (at_builtin; refine wpList_append_any _ rfl _ _ 146 rfl w.heap.size 149 z0 _ 1 8 Tryz.underlying146 hi0 hz0 hz1 hz2 rfl (by decide) (.slice none 0 0) 0 [] rfl (World.ownsRow_nil _ _ _ _) (some ⟨w.heap.size, 0, none⟩) 1 1 [.pointer (some ⟨pb, 2, none⟩)] rfl rfl (.inr ⟨_, rfl, World.news_of_block (Blk.new w _ _)⟩) (by simp [Value.oneCell']) (by decide) (by omega) (by simp) _ rfl ?_; intro v' w1 hown1 hgrow1 hat1)
  go_ret
  refine ⟨_, rfl, (below1 w _).grown hgrow1 (by simp) (fun k e => by cases e), hown1, fun g e => (hat1 g e).2⟩
theorem places_4 (d a b op n : Int) (nm : ByteArray) (va : Value) (pb : Nat) (w : World) (hx : Blk w pb 36 #[.int .i64 4, .int .i64 d, .int .i64 a, .int .i64 b, .int .i64 op, .int .i64 n, .string nm, va]) : Calls Tryz.prog 91 #[.pointer (some ⟨pb, 0, none⟩)] w (PtrPost w [(⟨pb, 2, none⟩, a), (⟨pb, 3, none⟩, b)]) := by
  have q0 : w.cell? ⟨pb, 0, none⟩ = some (.int .i64 4) := hx.cell 0
  have hpl := hx.lt
  obtain ⟨z0, hi0, hz0, hz1, hz2⟩ := info_parts info_ptr
  clear hx
  go_enter Tryz.func91, Tryz.ntmps91
  go_upto_region 9 with fail
  have hz0 : Below w.heap.size w w.drew := (Below.refl _ _).drew
  refine wp_region_L (by kernel_rfl) 9 (fun _ => True) (trivial) (fun hHeld => ?_)
  have HS0 := Lib.hid hHeld
  clear hHeld
  change wpAnyL _ _ _ _ _ 9 10 (Array.replicate 10 false) _ _
  generalize w.drew = X0 at *
  have HZ0 := Lib.hid hz0
  clear hz0
  refine takeL 0 22 (.slice none 0 0) HS0.out rfl rfl (by kernel_rfl) (by kernel_rfl) (by kernel_rfl) (by decide) (fun _ _ _ h => h) (by kernel_rfl) ?_ ?_
  · intro w2; go_simp
  try simp only [List.setIfInBounds_toArray, List.set_cons_zero, List.set_cons_succ]
  refine takeL 1 23 (.pointer (some ⟨pb, 0, none⟩)) HS0.out rfl rfl (by kernel_rfl) (by kernel_rfl) (by kernel_rfl) (by decide) (fun _ _ _ h => h) (by kernel_rfl) ?_ ?_
  · intro w2; go_simp
  try simp only [List.setIfInBounds_toArray, List.set_cons_zero, List.set_cons_succ]
  refine takeL 2 24 (.pointer (some ⟨pb, 0, none⟩)) HS0.out rfl rfl (by kernel_rfl) (by kernel_rfl) (by kernel_rfl) (by decide) (fun _ _ _ h => h) (by kernel_rfl) ?_ ?_
  · intro w2; go_simp
  try simp only [List.setIfInBounds_toArray, List.set_cons_zero, List.set_cons_succ]
  refine takeL 3 25 (.pointer (some ⟨pb, 2, none⟩)) HS0.out rfl rfl (by kernel_rfl) (by kernel_rfl) (by kernel_rfl) (by decide) (fun _ _ _ h => h) (by kernel_rfl) ?_ ?_
  · intro w2; go_simp
  try simp only [List.setIfInBounds_toArray, List.set_cons_zero, List.set_cons_succ]
  refine takeL 4 26 (.pointer (some ⟨pb, 0, none⟩)) HS0.out rfl rfl (by kernel_rfl) (by kernel_rfl) (by kernel_rfl) (by decide) (fun _ _ _ h => h) (by kernel_rfl) ?_ ?_
  · intro w2; go_simp
  try simp only [List.setIfInBounds_toArray, List.set_cons_zero, List.set_cons_succ]
  refine takeL 5 27 (.pointer (some ⟨pb, 0, none⟩)) HS0.out rfl rfl (by kernel_rfl) (by kernel_rfl) (by kernel_rfl) (by decide) (fun _ _ _ h => h) (by kernel_rfl) ?_ ?_
  · intro w2; go_simp
  try simp only [List.setIfInBounds_toArray, List.set_cons_zero, List.set_cons_succ]
  refine takeL 6 28 (.pointer (some ⟨pb, 3, none⟩)) HS0.out rfl rfl (by kernel_rfl) (by kernel_rfl) (by kernel_rfl) (by decide) (fun _ _ _ h => h) (by kernel_rfl) ?_ ?_
  · intro w2; go_simp
  try simp only [List.setIfInBounds_toArray, List.set_cons_zero, List.set_cons_succ]
  refine wpAnyL_ready (rs := [7]) (by kernel_rfl) (by simp) ?_
  refine AllReadyL.cons rfl (fun K hK => ?_) AllReadyL.nil
  go_simp
  refine hK.out _ _ (trivial) (fun hHeld => ?_)
  have HS1 := Lib.hid hHeld
  clear hK K hHeld
  try simp only [List.setIfInBounds_toArray, List.set_cons_zero, List.set_cons_succ]
  have hz1 : Below w.heap.size w (X0.alloc (.cells #[.pointer (some ⟨pb, 2, none⟩), .pointer (some ⟨pb, 3, none⟩)] 149)) := HZ0.out.alloc HZ0.out.size _
  have hn1 : Blk (X0.alloc (.cells #[.pointer (some ⟨pb, 2, none⟩), .pointer (some ⟨pb, 3, none⟩)] 149)) X0.heap.size 149 #[.pointer (some ⟨pb, 2, none⟩), .pointer (some ⟨pb, 3, none⟩)] := Blk.new X0 _ _
  generalize (X0.alloc (.cells #[.pointer (some ⟨pb, 2, none⟩), .pointer (some ⟨pb, 3, none⟩)] 149)) = X1 at *
  have HZ1 := Lib.hid hz1
  have HN1 := Lib.hid hn1
  clear hz1 hn1
  refine wpAnyL_ready (rs := [8]) (by kernel_rfl) (by simp) ?_
  refine AllReadyL.cons rfl (fun K hK => ?_) AllReadyL.nil
  have hsx : w.heap.size ≤ X1.heap.size := HZ1.out.size
  refine step_append_any _ (by rfl) _ _ _ (by rfl) w.heap.size 149 z0 _ 1 8 Tryz.underlying146 hi0 hz0 hz1 hz2 rfl (by omega) (.slice none 0 0) 0 [] (by rfl) (World.ownsRow_nil _ _ _ _) (some ⟨X0.heap.size, 0, none⟩) 2 2 [.pointer (some ⟨pb, 2, none⟩), .pointer (some ⟨pb, 3, none⟩)] (by rfl) (by rfl) (.inr ⟨_, rfl, World.news_of_block HN1.out⟩) (by simp [Value.oneCell']) (by unfold maxLen; omega) (by omega) hsx X1.heap.size rfl ?_
  intro v1 X2 hown1 hgrow1 hat1
  obtain ⟨Av, cv, hv1⟩ := own_form hown1
  subst hv1
  have HZ2 : Hid (Below w.heap.size w X2) := Lib.hid (HZ1.out.grown hgrow1 hsx (fun k e => by cases e))
  have HOW := Lib.hid hown1
  have HAT := Lib.hid hat1
  clear hsx hown1 hgrow1 hat1
  refine hK.out _ _ (trivial) (fun hHeld => ?_)
  have HS2 := Lib.hid hHeld
  clear hK K hHeld
  try simp only [List.setIfInBounds_toArray, List.set_cons_zero, List.set_cons_succ]
  refine wpAnyL_ready (rs := [9]) (by kernel_rfl) (by simp) ?_
  refine AllReadyL.last rfl (by kernel_rfl) (fun K hK => ?_)
  go_simp
  refine hK.out _ _ ?_
  clear hK K
  try simp only [List.setIfInBounds_toArray, List.set_cons_zero, List.set_cons_succ]
  refine wpAnyL_done (by kernel_rfl) ?_ _
  go_wp2_with fail
  go_ret
  exact ⟨_, rfl, HZ2.out, HOW.out, fun g e => (HAT.out g e).2⟩
theorem places_6 (d a b op n : Int) (nm : ByteArray) (va : Value) (pb : Nat) (w : World) (hx : Blk w pb 36 #[.int .i64 6, .int .i64 d, .int .i64 a, .int .i64 b, .int .i64 op, .int .i64 n, .string nm, va]) : Calls Tryz.prog 91 #[.pointer (some ⟨pb, 0, none⟩)] w (PtrPost w [(⟨pb, 2, none⟩, a), (⟨pb, 3, none⟩, b)]) := by
  have q0 : w.cell? ⟨pb, 0, none⟩ = some (.int .i64 6) := hx.cell 0
  have hpl := hx.lt
  obtain ⟨z0, hi0, hz0, hz1, hz2⟩ := info_parts info_ptr
  clear hx
  go_enter Tryz.func91, Tryz.ntmps91
  go_upto_region 9 with fail
  have hz0 : Below w.heap.size w w.drew := (Below.refl _ _).drew
  refine wp_region_L (by kernel_rfl) 9 (fun _ => True) (trivial) (fun hHeld => ?_)
  have HS0 := Lib.hid hHeld
  clear hHeld
  change wpAnyL _ _ _ _ _ 9 10 (Array.replicate 10 false) _ _
  generalize w.drew = X0 at *
  have HZ0 := Lib.hid hz0
  clear hz0
  refine takeL 0 22 (.slice none 0 0) HS0.out rfl rfl (by kernel_rfl) (by kernel_rfl) (by kernel_rfl) (by decide) (fun _ _ _ h => h) (by kernel_rfl) ?_ ?_
  · intro w2; go_simp
  try simp only [List.setIfInBounds_toArray, List.set_cons_zero, List.set_cons_succ]
  refine takeL 1 23 (.pointer (some ⟨pb, 0, none⟩)) HS0.out rfl rfl (by kernel_rfl) (by kernel_rfl) (by kernel_rfl) (by decide) (fun _ _ _ h => h) (by kernel_rfl) ?_ ?_
  · intro w2; go_simp
  try simp only [List.setIfInBounds_toArray, List.set_cons_zero, List.set_cons_succ]
  refine takeL 2 24 (.pointer (some ⟨pb, 0, none⟩)) HS0.out rfl rfl (by kernel_rfl) (by kernel_rfl) (by kernel_rfl) (by decide) (fun _ _ _ h => h) (by kernel_rfl) ?_ ?_
  · intro w2; go_simp
  try simp only [List.setIfInBounds_toArray, List.set_cons_zero, List.set_cons_succ]
  refine takeL 3 25 (.pointer (some ⟨pb, 2, none⟩)) HS0.out rfl rfl (by kernel_rfl) (by kernel_rfl) (by kernel_rfl) (by decide) (fun _ _ _ h => h) (by kernel_rfl) ?_ ?_
  · intro w2; go_simp
  try simp only [List.setIfInBounds_toArray, List.set_cons_zero, List.set_cons_succ]
  refine takeL 4 26 (.pointer (some ⟨pb, 0, none⟩)) HS0.out rfl rfl (by kernel_rfl) (by kernel_rfl) (by kernel_rfl) (by decide) (fun _ _ _ h => h) (by kernel_rfl) ?_ ?_
  · intro w2; go_simp
  try simp only [List.setIfInBounds_toArray, List.set_cons_zero, List.set_cons_succ]
  refine takeL 5 27 (.pointer (some ⟨pb, 0, none⟩)) HS0.out rfl rfl (by kernel_rfl) (by kernel_rfl) (by kernel_rfl) (by decide) (fun _ _ _ h => h) (by kernel_rfl) ?_ ?_
  · intro w2; go_simp
  try simp only [List.setIfInBounds_toArray, List.set_cons_zero, List.set_cons_succ]
  refine takeL 6 28 (.pointer (some ⟨pb, 3, none⟩)) HS0.out rfl rfl (by kernel_rfl) (by kernel_rfl) (by kernel_rfl) (by decide) (fun _ _ _ h => h) (by kernel_rfl) ?_ ?_
  · intro w2; go_simp
  try simp only [List.setIfInBounds_toArray, List.set_cons_zero, List.set_cons_succ]
  refine wpAnyL_ready (rs := [7]) (by kernel_rfl) (by simp) ?_
  refine AllReadyL.cons rfl (fun K hK => ?_) AllReadyL.nil
  go_simp
  refine hK.out _ _ (trivial) (fun hHeld => ?_)
  have HS1 := Lib.hid hHeld
  clear hK K hHeld
  try simp only [List.setIfInBounds_toArray, List.set_cons_zero, List.set_cons_succ]
  have hz1 : Below w.heap.size w (X0.alloc (.cells #[.pointer (some ⟨pb, 2, none⟩), .pointer (some ⟨pb, 3, none⟩)] 149)) := HZ0.out.alloc HZ0.out.size _
  have hn1 : Blk (X0.alloc (.cells #[.pointer (some ⟨pb, 2, none⟩), .pointer (some ⟨pb, 3, none⟩)] 149)) X0.heap.size 149 #[.pointer (some ⟨pb, 2, none⟩), .pointer (some ⟨pb, 3, none⟩)] := Blk.new X0 _ _
  generalize (X0.alloc (.cells #[.pointer (some ⟨pb, 2, none⟩), .pointer (some ⟨pb, 3, none⟩)] 149)) = X1 at *
  have HZ1 := Lib.hid hz1
  have HN1 := Lib.hid hn1
  clear hz1 hn1
  refine wpAnyL_ready (rs := [8]) (by kernel_rfl) (by simp) ?_
  refine AllReadyL.cons rfl (fun K hK => ?_) AllReadyL.nil
  have hsx : w.heap.size ≤ X1.heap.size := HZ1.out.size
  refine step_append_any _ (by rfl) _ _ _ (by rfl) w.heap.size 149 z0 _ 1 8 Tryz.underlying146 hi0 hz0 hz1 hz2 rfl (by omega) (.slice none 0 0) 0 [] (by rfl) (World.ownsRow_nil _ _ _ _) (some ⟨X0.heap.size, 0, none⟩) 2 2 [.pointer (some ⟨pb, 2, none⟩), .pointer (some ⟨pb, 3, none⟩)] (by rfl) (by rfl) (.inr ⟨_, rfl, World.news_of_block HN1.out⟩) (by simp [Value.oneCell']) (by unfold maxLen; omega) (by omega) hsx X1.heap.size rfl ?_
  intro v1 X2 hown1 hgrow1 hat1
  obtain ⟨Av, cv, hv1⟩ := own_form hown1
  subst hv1
  have HZ2 : Hid (Below w.heap.size w X2) := Lib.hid (HZ1.out.grown hgrow1 hsx (fun k e => by cases e))
  have HOW := Lib.hid hown1
  have HAT := Lib.hid hat1
  clear hsx hown1 hgrow1 hat1
  refine hK.out _ _ (trivial) (fun hHeld => ?_)
  have HS2 := Lib.hid hHeld
  clear hK K hHeld
  try simp only [List.setIfInBounds_toArray, List.set_cons_zero, List.set_cons_succ]
  refine wpAnyL_ready (rs := [9]) (by kernel_rfl) (by simp) ?_
  refine AllReadyL.last rfl (by kernel_rfl) (fun K hK => ?_)
  go_simp
  refine hK.out _ _ ?_
  clear hK K
  try simp only [List.setIfInBounds_toArray, List.set_cons_zero, List.set_cons_succ]
  refine wpAnyL_done (by kernel_rfl) ?_ _
  go_wp2_with fail
  go_ret
  exact ⟨_, rfl, HZ2.out, HOW.out, fun g e => (HAT.out g e).2⟩
theorem places_1 (d a b op n : Int) (nm : ByteArray) (va : Value) (pb : Nat) (w : World) (hx : Blk w pb 36 #[.int .i64 1, .int .i64 d, .int .i64 a, .int .i64 b, .int .i64 op, .int .i64 n, .string nm, va]) : Calls Tryz.prog 91 #[.pointer (some ⟨pb, 0, none⟩)] w (PtrPost w []) := by
  have q0 : w.cell? ⟨pb, 0, none⟩ = some (.int .i64 1) := hx.cell 0
  clear hx
  go_enter Tryz.func91, Tryz.ntmps91
  go_wp2
  go_ret
  exact ⟨_, rfl, Below.refl _ _, World.ownsRow_nil _ _ _ _, fun g e => by cases e⟩
theorem places_7 (d a b op n : Int) (nm : ByteArray) (va : Value) (pb : Nat) (w : World) (hx : Blk w pb 36 #[.int .i64 7, .int .i64 d, .int .i64 a, .int .i64 b, .int .i64 op, .int .i64 n, .string nm, va]) : Calls Tryz.prog 91 #[.pointer (some ⟨pb, 0, none⟩)] w (PtrPost w []) := by
  have q0 : w.cell? ⟨pb, 0, none⟩ = some (.int .i64 7) := hx.cell 0
  clear hx
  go_enter Tryz.func91, Tryz.ntmps91
  go_wp2
  go_ret
  exact ⟨_, rfl, Below.refl _ _, World.ownsRow_nil _ _ _ _, fun g e => by cases e⟩
theorem places_9 (d a b op n : Int) (nm : ByteArray) (Aa : Option Addr) (ca g : Nat) (args : List Int) (hA : args.length = 0 ∨ Aa = some ⟨g, 0, none⟩) (hl : args.length ≤ 1000) (pb : Nat) (w : World) (hx : Blk w pb 36 #[.int .i64 9, .int .i64 d, .int .i64 a, .int .i64 b, .int .i64 op, .int .i64 n, .string nm, .slice Aa args.length ca]) :
    Calls Tryz.prog 91 #[.pointer (some ⟨pb, 0, none⟩)] w (PtrPost w (args.zipIdx.map fun p => (⟨g, p.2, none⟩, p.1))) := by
  have q0 : w.cell? ⟨pb, 0, none⟩ = some (.int .i64 9) := hx.cell 0
  have q7 : w.cell? ⟨pb, 7, none⟩ = some (.slice Aa args.length ca) := hx.cell 7
  have hpl := hx.lt
  obtain ⟨z0, hi0, hz0, hz1, hz2⟩ := info_parts info_ptr
  have HX := Lib.hid hx
  have HAA := Lib.hid hA
  clear hx hA
  go_enter Tryz.func91, Tryz.ntmps91
  go_wp2_with fail
  go_loopw [2, 38] (fun s2 s38 wr => ∃ i : Nat, i ≤ args.length ∧ s38 = .int .i64 i ∧ Below w.heap.size w wr ∧ wr.ownsRow w.heap.size 149 1 s2 i ((args.zipIdx.map fun p => ptrOf (⟨g, p.2, none⟩, p.1)).take i) ∧ (∀ g, s2.ownBlock = some g → g < wr.heap.size)) (fun _ s38 _ => args.length - (intOf s38).toNat)
  case atStart => exact ⟨0, by omega, rfl, Below.refl _ _, World.ownsRow_nil _ _ _ _, fun g e => by cases e⟩
  case round =>
    obtain ⟨i, hi, rfl, hb, hown, hg⟩ := hrel
    obtain ⟨Av, cv, hv⟩ := own_form hown
    subst hv
    by_cases hlt : i < args.length
    · have d0 : decide ((i : Int) < (args.length : Int)) = true := decide_eq_true (by omega)
      have hlti : (i : Int) < (args.length : Int) := by omega
      have hAs : Aa = some ⟨g, 0, none⟩ := HAA.out.resolve_left (by omega)
      subst hAs
      have hxr := HX.out.below hb hpl
      have r7 : wr.cell? ⟨pb, 7, none⟩ = some (.slice (some ⟨g, 0, none⟩) args.length ca) := hxr.cell 7
      have hsz := hb.size
      have HB := Lib.hid hb
      have HOW := Lib.hid hown
      have HG := Lib.hid hg
      clear hxr hb hown hg q7 q0
      go_wp2_with (at_builtin; refine wpList_append_any _ rfl _ _ 146 rfl w.heap.size 149 z0 _ 1 8 Tryz.underlying146 hi0 hz0 hz1 hz2 rfl (by decide) (.slice Av i cv) i _ rfl (HOW.out.alloc _) (some ⟨wr.heap.size, 0, none⟩) 1 1 [.pointer (some ⟨g, i, none⟩)] rfl rfl (.inr ⟨_, rfl, World.news_of_block (Blk.new wr _ _)⟩) (by simp [Value.oneCell']) (by unfold maxLen; omega) (by omega) (by simp; omega) _ rfl ?_; intro v' w1 hown1 hgrow1 hat1)
      go_roundw
      case rel =>
        refine ⟨i + 1, by omega, by go_num, (HB.out.trans ((below1 wr _).mono hsz)).grown hgrow1 (by simp; omega) (fun k e => (HOW.out.lt k e).1), ?_, fun g e => (hat1 g e).2⟩
        have hlen : i < (args.zipIdx.map fun p => ptrOf (⟨g, p.2, none⟩, p.1)).length := by simp; omega
        have e : (args.zipIdx.map fun p => ptrOf (⟨g, p.2, none⟩, p.1)).take (i + 1) = (args.zipIdx.map fun p => ptrOf (⟨g, p.2, none⟩, p.1)).take i ++ [.pointer (some ⟨g, i, none⟩)] := by
          rw [List.take_succ_eq_append_getElem hlen]
          simp [ptrOf]
        rw [e]
        exact hown1
      case measure => simp [intOf]; omega
    · have d0 : decide ((i : Int) < (args.length : Int)) = false := decide_eq_false (by omega)
      obtain rfl : i = args.length := by omega
      rw [List.take_of_length_le (by simp)] at hown
      have HB := Lib.hid hb
      have HOW := Lib.hid hown
      have HG := Lib.hid hg
      clear hb hown hg q7 q0
      go_wp2
      go_ret
      refine ⟨_, rfl, HB.out, ?_, HG.out⟩
      have e1 : (args.zipIdx.map fun p => ((⟨g, p.2, none⟩ : Addr), p.1)).length = args.length := by simp
      have e2 : (args.zipIdx.map fun p => ((⟨g, p.2, none⟩ : Addr), p.1)).map ptrOf = args.zipIdx.map fun p => ptrOf (⟨g, p.2, none⟩, p.1) := by rw [List.map_map]; rfl
      rw [e1, e2]
      exact HOW.out
theorem places_any (kind d a b op n : Int) (hk : 1 ≤ kind ∧ kind ≤ 9) (nm : ByteArray) (Aa : Option Addr) (ca g : Nat) (args : List Int) (hA : args.length = 0 ∨ Aa = some ⟨g, 0, none⟩) (hl : args.length ≤ 1000) (pb : Nat) (w : World) (hx : Blk w pb 36 #[.int .i64 kind, .int .i64 d, .int .i64 a, .int .i64 b, .int .i64 op, .int .i64 n, .string nm, .slice Aa args.length ca]) :
    Calls Tryz.prog 91 #[.pointer (some ⟨pb, 0, none⟩)] w (PtrPost w (adsOf kind a b args pb g)) := by
  rcases (by omega : kind = 1 ∨ kind = 2 ∨ kind = 3 ∨ kind = 4 ∨ kind = 5 ∨ kind = 6 ∨ kind = 7 ∨ kind = 8 ∨ kind = 9) with rfl | rfl | rfl | rfl | rfl | rfl | rfl | rfl | rfl
  · exact places_1 d a b op n nm _ pb w hx
  · exact places_2 d a b op n nm _ pb w hx
  · exact places_3 d a b op n nm _ pb w hx
  · exact places_4 d a b op n nm _ pb w hx
  · exact places_5 d a b op n nm _ pb w hx
  · exact places_6 d a b op n nm _ pb w hx
  · exact places_7 d a b op n nm _ pb w hx
  · exact places_8 d a b op n nm _ pb w hx
  · exact places_9 d a b op n nm Aa ca g args hA hl pb w hx
end
end Go.Proofs.YtnpnhdmfdhnmfaaGreatDoor

namespace Go.Proofs.YtnpnhdmfdhnmfaaGreatDoor
open Go.RowKit
open Go.Deep

/-! ### stores of what values are known to be -/
def setAll (E : Env) (W : World) (l : List (Addr × Int)) : World := l.foldl (fun w p => w.setCell p.1 (.int .i64 (valueE E p.2))) W
theorem setAll_snoc (E : Env) (W : World) (l : List (Addr × Int)) (p : Addr × Int) : setAll E W (l ++ [p]) = (setAll E W l).setCell p.1 (.int .i64 (valueE E p.2)) := by simp [setAll]
theorem setAll_take {E : Env} {W : World} {l : List (Addr × Int)} {i : Nat} (h : i < l.length) : setAll E W (l.take (i + 1)) = (setAll E W (l.take i)).setCell l[i].1 (.int .i64 (valueE E l[i].2)) := by
  rw [List.take_succ_eq_append_getElem h, setAll_snoc]
theorem setAll_size (E : Env) : ∀ (l : List (Addr × Int)) (W : World), (setAll E W l).heap.size = W.heap.size
  | [], _ => rfl
  | p :: r, W => by
    show (setAll E (W.setCell p.1 _) r).heap.size = _
    rw [setAll_size E r]
    simp [World.setCell]
theorem setAll_heap (E : Env) : ∀ (l : List (Addr × Int)) (W : World) (k : Nat), (∀ p ∈ l, k ≠ p.1.block) → (setAll E W l).heap[k]? = W.heap[k]?
  | [], _, _, _ => rfl
  | p :: r, W, k, h => by
    show (setAll E (W.setCell p.1 _) r).heap[k]? = _
    rw [setAll_heap E r _ k fun q hq => h q (by simp [hq])]
    exact Below.heap_setCell W p.1 _ k (h p (by simp))
theorem setAll_cell (E : Env) : ∀ (l : List (Addr × Int)) (W : World) (a : Addr), (∀ p ∈ l, p.1 ≠ a) → (setAll E W l).cell? a = W.cell? a
  | [], _, _, _ => rfl
  | p :: r, W, a, h => by
    show (setAll E (W.setCell p.1 _) r).cell? a = _
    rw [setAll_cell E r _ a fun q hq => h q (by simp [hq])]
    exact World.cell?_setCell_other _ _ _ _ (h p (by simp))
theorem setAll_frozen (E : Env) : ∀ (l : List (Addr × Int)) (W : World) (a : Addr), (setAll E W l).frozen? a = W.frozen? a
  | [], _, _ => rfl
  | p :: r, W, a => by
    show (setAll E (W.setCell p.1 _) r).frozen? a = _
    rw [setAll_frozen E r]
    exact World.frozen?_setCell _ _ _ _
theorem setAll_below (E : Env) {B : Nat} {W0 : World} : ∀ (l : List (Addr × Int)) (W : World), Below B W0 W → (∀ p ∈ l, B ≤ p.1.block) → Below B W0 (setAll E W l)
  | [], _, h, _ => h
  | p :: r, W, h, hl => setAll_below E r _ (h.setCell (hl p (by simp)) _) fun q hq => hl q (by simp [hq])
/-- the addresses are unlike -/
def Unlike (l : List (Addr × Int)) : Prop := l.Pairwise fun p q => p.1 ≠ q.1
theorem setAll_mid {E : Env} {W : World} {l : List (Addr × Int)} (hu : Unlike l) (hW : ∀ p ∈ l, W.cell? p.1 = some (.int .i64 p.2)) (i : Nat) (hi : i < l.length) : (setAll E W (l.take i)).cell? l[i].1 = some (.int .i64 l[i].2) := by
  rw [setAll_cell E _ W _ fun p hp => ?_]
  · exact hW _ (List.getElem_mem hi)
  · obtain ⟨j, hj, rfl⟩ := List.getElem_of_mem hp
    rw [List.getElem_take]
    have hj' : j < i := by rw [List.length_take] at hj; omega
    exact List.pairwise_iff_getElem.1 hu j i (by omega) hi hj'
theorem setAll_done {E : Env} : ∀ {l : List (Addr × Int)} {W : World}, Unlike l → (∀ p ∈ l, W.cell? p.1 = some (.int .i64 p.2)) → ∀ p ∈ l, (setAll E W l).cell? p.1 = some (.int .i64 (valueE E p.2))
  | [], _, _, _, _, h => by simp at h
  | q :: r, W, hu, hW, p, hp => by
    obtain ⟨h1, h2⟩ := List.pairwise_cons.1 hu
    show (setAll E (W.setCell q.1 _) r).cell? p.1 = _
    rcases List.mem_cons.1 hp with rfl | hp
    · rw [setAll_cell E r _ _ fun x hx => (h1 x hx).symm]
      exact World.cell?_setCell_same _ _ _ (hW p (by simp))
    · refine setAll_done h2 (fun x hx => ?_) p hp
      rw [World.cell?_setCell_other _ _ _ _ (h1 x hx)]
      exact hW x (by simp [hx])
theorem ads_unlike (kind a b : Int) (args : List Int) (pb g : Nat) : Unlike (adsOf kind a b args pb g) := by
  unfold adsOf Unlike
  split
  · simp
  · split
    · simp
    · split
      · rw [List.pairwise_map, List.pairwise_iff_getElem]
        intro i j hi hj hij e
        simp only [List.getElem_zipIdx, Addr.mk.injEq] at e
        omega
      · exact List.Pairwise.nil
theorem ads_block {kind a b : Int} {args : List Int} {pb g : Nat} {p : Addr × Int} (h : p ∈ adsOf kind a b args pb g) : p.1.block = pb ∨ (p.1.block = g ∧ 0 < args.length) := by
  unfold adsOf at h
  split at h
  · simp at h; subst h; exact .inl rfl
  · split at h
    · simp at h; rcases h with rfl | rfl <;> exact .inl rfl
    · split at h
      · obtain ⟨q, hq, rfl⟩ := List.mem_map.1 h
        refine .inr ⟨rfl, ?_⟩
        have := List.mem_zipIdx hq
        omega
      · simp at h
theorem ads_val {kind a b : Int} {args : List Int} {pb g : Nat} (ha : In64 a) (hb : In64 b) (hargs : ∀ k ∈ args, In64 k) {p : Addr × Int} (h : p ∈ adsOf kind a b args pb g) : In64 p.2 := by
  unfold adsOf at h
  split at h
  · simp at h; subst h; exact ha
  · split at h
    · simp at h; rcases h with rfl | rfl
      · exact ha
      · exact hb
    · split at h
      · obtain ⟨q, hq, rfl⟩ := List.mem_map.1 h
        exact hargs _ (List.fst_mem_of_mem_zipIdx hq)
      · simp at h
theorem ads_len {kind a b : Int} {args : List Int} {pb g : Nat} (hl : args.length ≤ 1000) : (adsOf kind a b args pb g).length ≤ 1000 := by
  unfold adsOf
  split
  · simp
  · split
    · simp
    · split
      · simpa using hl
      · simp

/-- what lies in memory behind the stores -/
theorem sub_done {E : Env} (kind d a b op n : Int) (nm : ByteArray) (args : List Int) {pb g base : Nat} {Aa : Option Addr} {ca : Nat} {W : World} (hx : Blk W pb 36 #[.int .i64 kind, .int .i64 d, .int .i64 a, .int .i64 b, .int .i64 op, .int .i64 n, .string nm, .slice Aa args.length ca])
    (hown : W.ownsRow base 3 1 (.slice Aa args.length ca) args.length (args.map (Value.int .i64))) (hA : args.length = 0 ∨ Aa = some ⟨g, 0, none⟩) (hpb : pb < base) (hgl : ∀ k, (Value.slice Aa args.length ca).ownBlock = some k → k < W.heap.size) :
    (∀ p ∈ adsOf kind a b args pb g, W.cell? p.1 = some (.int .i64 p.2)) ∧ (∀ p ∈ adsOf kind a b args pb g, W.frozen? p.1 = false) ∧
    Blk (setAll E W (adsOf kind a b args pb g)) pb 36 (insCells (subE E ⟨kind, d, a, b, op, n, nm, args⟩) (.slice Aa args.length ca)).toArray ∧
    SlR (setAll E W (adsOf kind a b args pb g)) (fun k => base ≤ k ∧ k < W.heap.size) 1 RInt (.slice Aa args.length ca) (subE E ⟨kind, d, a, b, op, n, nm, args⟩).args := by
  have hs0 : SlR W (fun k => base ≤ k ∧ k < W.heap.size) 1 RInt (.slice Aa args.length ca) args := by
    refine SlR.of_own (base := base) (e := 3) (css := args.map fun x => [Value.int .i64 x]) ?_ rfl (by simp) (fun cs hc => by obtain ⟨x, _, rfl⟩ := List.mem_map.1 hc; rfl) (fun i h1 h2 => by simp [RInt]) (fun k e => ⟨(hown.lt k e).1, hgl k e⟩)
    have e : (args.map fun x => [Value.int .i64 x]).flatten = args.map (Value.int .i64) := by
      rw [show (args.map fun x => [Value.int .i64 x]) = (args.map (Value.int .i64)).map fun x => [x] from by rw [List.map_map]; rfl, flatten_single]
    rw [e]; exact hown
  have hbg : 0 < args.length → base ≤ g ∧ g < W.heap.size := fun h => by
    have e := hA.resolve_left (by omega)
    subst e
    exact ⟨(hown.lt g rfl).1, hgl g rfl⟩
  have hcell : ∀ (i : Nat) (hi : i < args.length), W.cell? ⟨g, i, none⟩ = some (.int .i64 args[i]) := fun i hi => by
    have e := hA.resolve_left (by omega)
    subst e
    have hcc : Cells W g 0 (args.map (Value.int .i64)) := Cells.of_own hown rfl
    have h := hcc.at_ (j := i) (v := .int .i64 args[i]) (by rw [List.getElem?_map, List.getElem?_eq_getElem hi]; rfl)
    rw [Nat.zero_add] at h
    exact h
  have hfrz : ∀ (i : Nat), 0 < args.length → W.frozen? ⟨g, i, none⟩ = false := fun i hi => by
    have e := hA.resolve_left (by omega)
    subst e
    rcases hown.2 with ⟨_, h0⟩ | ⟨g', cap, cur, hv, _, hg, _⟩
    · omega
    · have e : g = g' := by injection hv with h1; injection h1 with h1; injection h1
      subst e
      exact Blk.frozen hg i
  by_cases h1 : kind = 2 ∨ kind = 3 ∨ kind = 5 ∨ kind = 8
  · have e1 : adsOf kind a b args pb g = [(⟨pb, 2, none⟩, a)] := by unfold adsOf; rw [if_pos h1]
    have e2 : subE E ⟨kind, d, a, b, op, n, nm, args⟩ = ⟨kind, d, valueE E a, b, op, n, nm, args⟩ := by unfold subE; rw [if_pos h1]
    rw [e1, e2]
    refine ⟨fun p hp => ?_, fun p hp => ?_, hx.set_ 2 _, hs0.imp (fun _ h => h) (fun k hk => Below.heap_setCell _ _ _ k (by show k ≠ pb; omega)) (fun _ _ _ r => r)⟩
    · simp at hp; subst hp; exact hx.cell 2
    · simp at hp; subst hp; exact hx.frozen 2
  · by_cases h2 : kind = 4 ∨ kind = 6
    · have e1 : adsOf kind a b args pb g = [(⟨pb, 2, none⟩, a), (⟨pb, 3, none⟩, b)] := by unfold adsOf; rw [if_neg h1, if_pos h2]
      have e2 : subE E ⟨kind, d, a, b, op, n, nm, args⟩ = ⟨kind, d, valueE E a, valueE E b, op, n, nm, args⟩ := by unfold subE; rw [if_neg h1, if_pos h2]
      rw [e1, e2]
      refine ⟨fun p hp => ?_, fun p hp => ?_, (hx.set_ 2 _).set_ 3 _, hs0.imp (fun _ h => h) (fun k hk => (Below.heap_setCell _ _ _ k (by show k ≠ pb; omega)).trans (Below.heap_setCell _ _ _ k (by show k ≠ pb; omega))) (fun _ _ _ r => r)⟩
      · simp at hp; rcases hp with rfl | rfl
        · exact hx.cell 2
        · exact hx.cell 3
      · simp at hp; rcases hp with rfl | rfl
        · exact hx.frozen 2
        · exact hx.frozen 3
    · by_cases h3 : kind = 9
      · have e1 : adsOf kind a b args pb g = args.zipIdx.map fun p => (⟨g, p.2, none⟩, p.1) := by unfold adsOf; rw [if_neg h1, if_neg h2, if_pos h3]
        have e2 : subE E ⟨kind, d, a, b, op, n, nm, args⟩ = ⟨kind, d, a, b, op, n, nm, args.map (valueE E)⟩ := by unfold subE; rw [if_neg h1, if_neg h2, if_pos h3]
        have c1 : ∀ p ∈ adsOf kind a b args pb g, W.cell? p.1 = some (.int .i64 p.2) := fun p hp => by
          rw [e1] at hp
          obtain ⟨q, hq, rfl⟩ := List.mem_map.1 hp
          obtain ⟨i, hi, e⟩ := List.getElem_of_mem hq
          rw [List.getElem_zipIdx] at e
          subst e
          simpa using hcell i (by simpa using hi)
        have c2 : ∀ p ∈ adsOf kind a b args pb g, W.frozen? p.1 = false := fun p hp => by
          rw [e1] at hp
          obtain ⟨q, hq, rfl⟩ := List.mem_map.1 hp
          exact hfrz _ (by have := List.mem_zipIdx hq; omega)
        refine ⟨c1, c2, ?_, ?_⟩
        · rw [e2]
          refine hx.keep (setAll_heap E _ W pb fun p hp => ?_)
          rw [e1] at hp
          obtain ⟨q, hq, rfl⟩ := List.mem_map.1 hp
          show pb ≠ g
          have := hbg (by have := List.mem_zipIdx hq; omega)
          omega
        · rw [e2]
          obtain ⟨A, c, hv, q1, q2, q3⟩ := hs0
          obtain ⟨rfl, rfl⟩ : Aa = A ∧ ca = c := by injection hv with h1 _ h2; exact ⟨h1, h2⟩
          have hlm : (args.map (valueE E)).length = args.length := List.length_map _
          refine ⟨Aa, ca, by show _ = Value.slice Aa (args.map (valueE E)).length ca; rw [hlm], by show (args.map (valueE E)).length ≤ ca; rw [hlm]; exact q1, q2, ?_⟩
          by_cases h0 : args.length = 0
          · exact .inl (by show args.map (valueE E) = []; rw [List.eq_nil_of_length_eq_zero h0]; rfl)
          · have hb2 := hbg (by omega)
            refine .inr ⟨g, 0, hA.resolve_left h0, hb2, fun i hi => ⟨[.int .i64 (valueE E (args[i]'(by rw [← hlm]; exact hi)))], rfl, by show _ = [_]; simp, fun j hj => ?_⟩⟩
            obtain rfl : j = 0 := by have : j < 1 := hj; omega
            have hi' : i < args.length := by rw [← hlm]; exact hi
            have hm : ((⟨g, i, none⟩ : Addr), args[i]) ∈ adsOf kind a b args pb g := by
              rw [e1]
              exact List.mem_map.2 ⟨(args[i], i), List.mk_mem_zipIdx_iff_getElem?.2 (by rw [List.getElem?_eq_getElem hi']), rfl⟩
            have h := setAll_done (E := E) (ads_unlike kind a b args pb g) c1 _ hm
            simpa using h
      · have e1 : adsOf kind a b args pb g = [] := by unfold adsOf; rw [if_neg h1, if_neg h2, if_neg h3]
        have e2 : subE E ⟨kind, d, a, b, op, n, nm, args⟩ = ⟨kind, d, a, b, op, n, nm, args⟩ := by unfold subE; rw [if_neg h1, if_neg h2, if_neg h3]
        rw [e1, e2]
        exact ⟨fun p hp => by simp at hp, fun p hp => by simp at hp, hx, hs0⟩
end Go.Proofs.YtnpnhdmfdhnmfaaGreatDoor

namespace Go.Proofs.YtnpnhdmfdhnmfaaGreatDoor
open Go.RowKit
open Go.Deep

theorem css_ints : ∀ {css : List (List Value)} {l : List Int}, css.length = l.length → (∀ (i : Nat) (h1 : i < css.length) (h2 : i < l.length), RInt css[i] l[i]) → css.flatten = l.map (Value.int .i64)
  | [], [], _, _ => rfl
  | [], _ :: _, h, _ => by simp at h
  | _ :: _, [], h, _ => by simp at h
  | c :: r, a :: l, h, hr => by
    have h0 : c = [.int .i64 a] := hr 0 (by simp) (by simp)
    have ih := css_ints (css := r) (l := l) (by simpa using h) fun i h1 h2 => hr (i + 1) (by simpa using h1) (by simpa using h2)
    rw [List.flatten_cons, ih, h0]; rfl

theorem subE_cases (E : Env) (x : LIns) : subE E x = { x with a := valueE E x.a } ∨ subE E x = { x with a := valueE E x.a, b := valueE E x.b } ∨ subE E x = { x with args := x.args.map (valueE E) } ∨ subE E x = x := by
  unfold subE
  by_cases h1 : x.kind = 2 ∨ x.kind = 3 ∨ x.kind = 5 ∨ x.kind = 8
  · rw [if_pos h1]; exact .inl rfl
  · rw [if_neg h1]
    by_cases h2 : x.kind = 4 ∨ x.kind = 6
    · rw [if_pos h2]; exact .inr (.inl rfl)
    · rw [if_neg h2]
      by_cases h3 : x.kind = 9
      · rw [if_pos h3]; exact .inr (.inr (.inl rfl))
      · rw [if_neg h3]; exact .inr (.inr (.inr rfl))

set_option maxRecDepth 100000 in
set_option maxHeartbeats 8000000 in
theorem ins_fold {b : Nat} {E : Env} (hE : ∀ k o, E k = some (.val o) → In64 o) (x : LIns) (hk : 1 ≤ x.kind ∧ x.kind ≤ 9) (ha : In64 x.a) (hbb : In64 x.b) (hargs : ∀ k ∈ x.args, In64 k) (hl : x.args.length ≤ 1000) (va : Value) (w : World) (h : MFacts w b E) (hv : SlR w (· < w.heap.size) 1 RInt va x.args) :
    Calls Tryz.prog 69 #[.map (some b), .agg #[.int .i64 x.kind, .int .i64 x.d, .int .i64 x.a, .int .i64 x.b, .int .i64 x.op, .int .i64 x.n, .string x.name, va]] w fun e w' => ∃ va', e = .returned (.agg (insCells (insE E x) va').toArray) ∧ Below w.heap.size w w' ∧ SlR w' (fun k => w.heap.size ≤ k ∧ k < w'.heap.size) 1 RInt va' (insE E x).args := by
  have hlt := h.lt
  obtain ⟨A0, c0, hva, _, _⟩ := hv.val
  subst hva
  obtain ⟨kind, d, a, bb, op, n, nm, args⟩ := x
  have HCL : Hid (∀ X, Below w.heap.size w X → Calls Tryz.prog 90 #[.slice A0 args.length c0] X fun e X' => ∃ va' : Value, e = .returned va' ∧ Below X.heap.size X X' ∧ X'.ownsRow X.heap.size 3 1 va' args.length (args.map (Value.int .i64)) ∧ (∀ g, va'.ownBlock = some g → g < X'.heap.size)) := Lib.hid (fun X hb => (clone_int (l := args) (by have : args.length ≤ 1000 := hl; omega) X (ok := fun k => k < w.heap.size) (hv.imp (fun _ h => h) (fun k hk => hb.block k hk) (fun _ _ _ r => r)) (fun k hk => Nat.lt_of_lt_of_le hk hb.size)).mono fun e X' ⟨va', css, e1, h1, h2, q1, q2, q3, h3⟩ => ⟨va', e1, h1, by rw [css_ints q1 q3] at h2; exact h2, h3⟩)
  have HMF := Lib.hid (fun (X : World) (hb : Below w.heap.size w X) => h.below hb hlt)
  have HE := Lib.hid hE
  have HAR : Hid (∀ k ∈ args, In64 k) := Lib.hid hargs
  have HA : Hid (In64 a) := Lib.hid ha
  have HBB : Hid (In64 bb) := Lib.hid hbb
  replace hl : args.length ≤ 1000 := hl
  replace hk : 1 ≤ kind ∧ kind ≤ 9 := hk
  have HK := Lib.hid hk
  clear hE hargs ha hbb hv h hk
  show Calls Tryz.prog 69 #[.map (some b), .agg #[.int .i64 kind, .int .i64 d, .int .i64 a, .int .i64 bb, .int .i64 op, .int .i64 n, .string nm, .slice A0 args.length c0]] w _
  go_enter Tryz.func69, Tryz.ntmps69
  go_upto_region 2 with (go_at_call 90; refine (HCL.out _ (below2 _ _ _)).mono ?_; rintro e w3 ⟨va', rfl, hb3, ho3, hg3⟩; obtain ⟨Aa, ca, hva'⟩ := own_form ho3; subst hva'; have hx3 : Blk w3 w.heap.size 36 #[.int .i64 kind, .int .i64 d, .int .i64 a, .int .i64 bb, .int .i64 op, .int .i64 n, .string nm, .slice A0 args.length c0] := Blk.below ((Blk.new w _ _).alloc _) hb3 (by simp; omega); have z7 := hx3.frozen 7; have y7 : w3.cell? ⟨w.heap.size, 7, none⟩ = some (.slice A0 args.length c0) := hx3.cell 7)
  refine wp_world ?_
  intro W hW
  have hsz3 : w.heap.size + 2 ≤ w3.heap.size := by have := hb3.size; simpa using this
  have hBW : Below w.heap.size w W := by
    rw [← hW]; exact (((below2 w _ _).trans (hb3.mono (by simp; omega))).setCell (Nat.le_refl _) _)
  have hszW : W.heap.size = w3.heap.size := by rw [← hW]; simp [World.setCell]
  have hX : Blk W w.heap.size 36 #[.int .i64 kind, .int .i64 d, .int .i64 a, .int .i64 bb, .int .i64 op, .int .i64 n, .string nm, .slice Aa args.length ca] := by rw [← hW]; exact hx3.set_ 7 _
  have hR : Blk W (w.heap.size + 1) 36 #[.int .i64 0, .int .i64 0, .int .i64 0, .int .i64 0, .int .i64 0, .int .i64 0, .string ⟨#[]⟩, .slice none 0 0] := by
    rw [← hW]
    exact (Blk.below (Blk.new_at (w.alloc _) _ _ (by simp)) hb3 (by simp)).far (by show w.heap.size + 1 ≠ w.heap.size; omega) _
  have hO : W.ownsRow (w.heap.size + 2) 3 1 (.slice Aa args.length ca) args.length (args.map (Value.int .i64)) := by
    have e : ((w.alloc (.cells #[.int .i64 kind, .int .i64 d, .int .i64 a, .int .i64 bb, .int .i64 op, .int .i64 n, .string nm, .slice A0 args.length c0] 36)).alloc (.cells #[.int .i64 0, .int .i64 0, .int .i64 0, .int .i64 0, .int .i64 0, .int .i64 0, .string ⟨#[]⟩, .slice none 0 0] 36)).heap.size = w.heap.size + 2 := by simp
    rw [← hW]
    rw [e] at ho3
    exact fown_keep ho3 fun g e => Below.heap_setCell _ _ _ g (by have := (ho3.lt g e).1; show g ≠ w.heap.size; omega)
  have hgW : ∀ g, (Value.slice Aa args.length ca).ownBlock = some g → g < W.heap.size := fun g e => by rw [hszW]; exact hg3 g e
  obtain ⟨g, hA⟩ : ∃ g, args.length = 0 ∨ Aa = some ⟨g, 0, none⟩ := by
    rcases hO.2 with ⟨_, h0⟩ | ⟨g, cap, cur, hv, _⟩
    · exact ⟨0, .inl h0⟩
    · exact ⟨g, .inr (by injection hv)⟩
  have HX := Lib.hid hX
  have HR := Lib.hid hR
  have HO := Lib.hid hO
  have HAG := Lib.hid hA
  have HGW := Lib.hid hgW
  have HBW := Lib.hid hBW
  have hsw : w.heap.size + 2 ≤ W.heap.size := by omega
  have HPL := Lib.hid (places_any kind d a bb op n HK.out nm Aa ca g args hA hl w.heap.size W hX)
  clear hW hb3 ho3 hg3 hx3 z7 y7 hszW hsz3 hX hR hO hA hgW hBW HCL
  generalize hads : adsOf kind a bb args w.heap.size g = ads at HPL
  have HADS := Lib.hid hads
  have hal : ads.length ≤ 1000 := by rw [← hads]; exact ads_len hl
  clear hads
  go_wp2_with (go_at_call 91; refine HPL.out.mono ?_; rintro e w5 ⟨vp, rfl, hb5, ho5, hg5⟩; obtain ⟨Ap, cp, hvp⟩ := own_form ho5; subst hvp)
  have hB5 : Below w.heap.size w w5 := HBW.out.trans (hb5.mono (by omega))
  have hX5 := HX.out.below hb5 (by omega)
  have hR5 := HR.out.below hb5 (by omega)
  have hO5 : w5.ownsRow (w.heap.size + 2) 3 1 (.slice Aa args.length ca) args.length (args.map (Value.int .i64)) := fown_keep HO.out fun k e => hb5.block k (HGW.out k e)
  obtain ⟨s1, s2, s3, s4⟩ := sub_done (E := E) kind d a bb op n nm args hX5 hO5 HAG.out (by omega) (fun k e => Nat.lt_of_lt_of_le (HGW.out k e) hb5.size)
  have hul := ads_unlike kind a bb args w.heap.size g
  have hav : ∀ p ∈ adsOf kind a bb args w.heap.size g, In64 p.2 := fun p hp => ads_val HA.out HBB.out HAR.out hp
  have hab : ∀ p ∈ adsOf kind a bb args w.heap.size g, w.heap.size ≤ p.1.block ∧ p.1.block ≠ w.heap.size + 1 ∧ p.1.block < W.heap.size := fun p hp => by
    rcases ads_block hp with h | ⟨h, h0⟩
    · omega
    · have e := HAG.out.resolve_left (by omega)
      subst e
      have h1 := (hO5.lt g rfl).1
      have h2 := HGW.out g rfl
      omega
  rw [HADS.out] at s1 s2 s3 s4 hul hav hab
  have S1 := Lib.hid s1
  have S2 := Lib.hid s2
  have S3 := Lib.hid s3
  have S4 := Lib.hid s4
  have HUL := Lib.hid hul
  have HAV := Lib.hid hav
  have HAB := Lib.hid hab
  have HB5 := Lib.hid hB5
  have HR5 := Lib.hid hR5
  have HO5 := Lib.hid ho5
  have hs5 : W.heap.size ≤ w5.heap.size := hb5.size
  have HG5 := Lib.hid hg5
  clear s1 s2 s3 s4 hul hav hab hB5 hX5 hR5 hO5 ho5 hg5 hb5 HPL HX HR HO HGW HBW
  go_loopw [15] (fun s wr => ∃ i : Nat, i ≤ ads.length ∧ s = .int .i64 i ∧ wr = setAll E w5 (ads.take i)) (fun s _ => ads.length - (intOf s).toNat)
  case atStart => exact ⟨0, by omega, rfl, rfl⟩
  case round =>
    obtain ⟨i, hi, rfl, hwr⟩ := hrel
    have hBr : Below w.heap.size w wr := by rw [hwr]; exact setAll_below E _ _ HB5.out fun p hp => (HAB.out p (List.mem_of_mem_take hp)).1
    have hszr : wr.heap.size = w5.heap.size := by rw [hwr]; exact setAll_size E _ _
    have HWR := Lib.hid hwr
    have HBR := Lib.hid hBr
    by_cases hil : i < ads.length
    · have d0 : decide ((i : Int) < (ads.length : Int)) = true := decide_eq_true (by omega)
      have hili : (i : Int) < (ads.length : Int) := by omega
      have c1 : wr.cell? ads[i].1 = some (.int .i64 ads[i].2) := by rw [hwr]; exact setAll_mid HUL.out S1.out i hil
      have z1 : wr.frozen? ads[i].1 = false := by rw [hwr, setAll_frozen]; exact S2.out _ (List.getElem_mem hil)
      have hv64 : In64 ads[i].2 := HAV.out _ (List.getElem_mem hil)
      have hnx : setAll E w5 (ads.take (i + 1)) = wr.setCell ads[i].1 (.int .i64 (valueE E ads[i].2)) := by rw [hwr, setAll_take hil]
      obtain ⟨gp, hgp⟩ : ∃ gp, Ap = some ⟨gp, 0, none⟩ := by
        rcases HO5.out.2 with ⟨_, h0⟩ | ⟨gp, cap, cur, hv, _⟩
        · omega
        · exact ⟨gp, by injection hv⟩
      subst hgp
      have hpp : w5.cell? ⟨gp, i, none⟩ = some (.pointer (some ads[i].1)) := by
        have hcc : Cells w5 gp 0 (ads.map ptrOf) := Cells.of_own HO5.out rfl
        have h := hcc.at_ (j := i) (v := .pointer (some ads[i].1)) (by rw [List.getElem?_map, List.getElem?_eq_getElem hil]; rfl)
        rw [Nat.zero_add] at h
        exact h
      have hpr : wr.cell? ⟨gp, i, none⟩ = some (.pointer (some ads[i].1)) := by
        rw [hwr, World.cell?_of_block (w := w5) (w' := setAll E w5 (ads.take i)) (a := ⟨gp, i, none⟩) (setAll_heap E _ _ gp fun p hp => by
          have h1 := (HAB.out p (List.mem_of_mem_take hp)).2.2
          have h2 := (HO5.out.lt gp rfl).1
          omega)]
        exact hpp
      generalize ads[i].2 = na at *
      generalize ads[i].1 = pa at *
      have HVL := Lib.hid (value_any hv64 wr (HMF.out wr hBr))
      have HNX := Lib.hid hnx
      clear hwr hBr hv64 hnx hpp hszr
      go_wp2_with (go_at_call 92; refine HVL.out.mono ?_; rintro e w' ⟨rfl, rfl⟩)
      go_roundw
      case rel => exact ⟨i + 1, by omega, by go_num, HNX.out.symm⟩
      case measure => simp [intOf]; omega
    · have d0 : decide ((i : Int) < (ads.length : Int)) = false := decide_eq_false (by omega)
      obtain rfl : i = ads.length := by omega
      rw [List.take_length] at hwr
      subst hwr
      have hszr : (setAll E w5 ads).heap.size = w5.heap.size := setAll_size E _ _
      have hRr : Blk (setAll E w5 ads) (w.heap.size + 1) 36 #[.int .i64 0, .int .i64 0, .int .i64 0, .int .i64 0, .int .i64 0, .int .i64 0, .string ⟨#[]⟩, .slice none 0 0] := HR5.out.keep (setAll_heap E _ _ _ fun p hp => (HAB.out p hp).2.1.symm)
      have hXr := S3.out
      have hMr := HMF.out _ HBR.out
      obtain ⟨y, hy⟩ : ∃ y, y = subE E ⟨kind, d, a, bb, op, n, nm, args⟩ := ⟨_, rfl⟩
      have hyd : y.d = d := by rw [hy]; rcases subE_cases E ⟨kind, d, a, bb, op, n, nm, args⟩ with e | e | e | e <;> rw [e]
      have h64 : ∀ v, In64 v → In64 (valueE E v) := fun v hv => by
        unfold valueE
        cases e : E v with
        | none => exact hv
        | some f =>
          cases f with
          | num m => exact hv
          | val o => exact HE.out v o e
      have hya : In64 y.a := by
        have h1 := HA.out
        have h2 := h64 a h1
        rw [hy]; rcases subE_cases E ⟨kind, d, a, bb, op, n, nm, args⟩ with e | e | e | e <;> rw [e]
        all_goals first | exact h1 | exact h2
      have hyb : In64 y.b := by
        have h1 := HBB.out
        have h2 := h64 bb h1
        rw [hy]; rcases subE_cases E ⟨kind, d, a, bb, op, n, nm, args⟩ with e | e | e | e <;> rw [e]
        all_goals first | exact h1 | exact h2
      have hins : insE E ⟨kind, d, a, bb, op, n, nm, args⟩ = if isKnown E y = true then ⟨1, d, 0, 0, 0, knownN E y, ⟨#[]⟩, []⟩ else y := by rw [hy]; rfl
      have hS4 := S4.out
      rw [← hy] at hXr hS4
      have hXr' : Blk (setAll E w5 ads) w.heap.size 36 #[.int .i64 y.kind, .int .i64 y.d, .int .i64 y.a, .int .i64 y.b, .int .i64 y.op, .int .i64 y.n, .string y.name, .slice Aa args.length ca] := hXr
      clear hy
      generalize setAll E w5 ads = wr at *
      have HKN := Lib.hid (known_any y hya hyb Aa args.length ca wr hMr)
      have q0 : wr.cell? ⟨w.heap.size, 0, none⟩ = some (.int .i64 y.kind) := hXr'.cell 0
      have q1 : wr.cell? ⟨w.heap.size, 1, none⟩ = some (.int .i64 y.d) := hXr'.cell 1
      have q2 : wr.cell? ⟨w.heap.size, 2, none⟩ = some (.int .i64 y.a) := hXr'.cell 2
      have q3 : wr.cell? ⟨w.heap.size, 3, none⟩ = some (.int .i64 y.b) := hXr'.cell 3
      have q4 : wr.cell? ⟨w.heap.size, 4, none⟩ = some (.int .i64 y.op) := hXr'.cell 4
      have q5 : wr.cell? ⟨w.heap.size, 5, none⟩ = some (.int .i64 y.n) := hXr'.cell 5
      have q6 : wr.cell? ⟨w.heap.size, 6, none⟩ = some (.string y.name) := hXr'.cell 6
      have q7 : wr.cell? ⟨w.heap.size, 7, none⟩ = some (.slice Aa args.length ca) := hXr'.cell 7
      have HXR := Lib.hid hXr'
      have HRR := Lib.hid hRr
      have HS4 := Lib.hid hS4
      have HIN := Lib.hid hins
      have hxl := hXr'.lt
      have hrl := hRr.lt
      clear hXr hXr' hRr hMr hya hyb h64 hS4 hins hszr
      by_cases hkn : isKnown E y = true
      · have hi2 := HIN.out
        rw [if_pos hkn] at hi2
        have HIN2 := Lib.hid hi2
        rw [hkn] at HKN
        clear hi2 HIN
        generalize knownN E y = kn at *
        subst hyd
        go_upto_region 8 with (go_at_call 93; refine HKN.out.mono ?_; rintro e w7 ⟨rfl, hb7⟩)
        have hX7 := HXR.out.below hb7 hxl
        have hR7 := HRR.out.below hb7 hrl
        have r1 : w7.cell? ⟨w.heap.size, 1, none⟩ = some (.int .i64 y.d) := hX7.cell 1
        have z0 := hR7.frozen 0
        have y0 : w7.cell? ⟨w.heap.size + 1, 0, none⟩ = some (.int .i64 0) := hR7.cell 0
        have z1 := hR7.frozen 1
        have y1 : w7.cell? ⟨w.heap.size + 1, 1, none⟩ = some (.int .i64 0) := hR7.cell 1
        have z2 := hR7.frozen 2
        have y2 : w7.cell? ⟨w.heap.size + 1, 2, none⟩ = some (.int .i64 0) := hR7.cell 2
        have z3 := hR7.frozen 3
        have y3 : w7.cell? ⟨w.heap.size + 1, 3, none⟩ = some (.int .i64 0) := hR7.cell 3
        have z4 := hR7.frozen 4
        have y4 : w7.cell? ⟨w.heap.size + 1, 4, none⟩ = some (.int .i64 0) := hR7.cell 4
        have z5 := hR7.frozen 5
        have y5 : w7.cell? ⟨w.heap.size + 1, 5, none⟩ = some (.int .i64 0) := hR7.cell 5
        have z6 := hR7.frozen 6
        have y6 : w7.cell? ⟨w.heap.size + 1, 6, none⟩ = some (.string ⟨#[]⟩) := hR7.cell 6
        have z7 := hR7.frozen 7
        have y7 : w7.cell? ⟨w.heap.size + 1, 7, none⟩ = some (.slice none 0 0) := hR7.cell 7
        have HR7 := Lib.hid hR7
        have HB7 := Lib.hid hb7
        clear hX7 hR7 hb7 q0 q1 q2 q3 q4 q5 q6 q7
        go_wp2
        have hfin : Blk ((((((((w7.setCell ⟨w.heap.size + 1, 0, none⟩ (.int .i64 1)).setCell ⟨w.heap.size + 1, 1, none⟩ (.int .i64 y.d)).setCell ⟨w.heap.size + 1, 2, none⟩ (.int .i64 0)).setCell ⟨w.heap.size + 1, 3, none⟩ (.int .i64 0)).setCell ⟨w.heap.size + 1, 4, none⟩ (.int .i64 0)).setCell ⟨w.heap.size + 1, 5, none⟩ (.int .i64 kn)).setCell ⟨w.heap.size + 1, 6, none⟩ (.string ⟨#[]⟩)).setCell ⟨w.heap.size + 1, 7, none⟩ (.slice none 0 0)) (w.heap.size + 1) 36 #[.int .i64 1, .int .i64 y.d, .int .i64 0, .int .i64 0, .int .i64 0, .int .i64 kn, .string ⟨#[]⟩, .slice none 0 0] := ((((((((HR7.out.set_ 0 _).set_ 1 _).set_ 2 _).set_ 3 _).set_ 4 _).set_ 5 _).set_ 6 _).set_ 7 _)
        have hbel : Below w.heap.size w ((((((((w7.setCell ⟨w.heap.size + 1, 0, none⟩ (.int .i64 1)).setCell ⟨w.heap.size + 1, 1, none⟩ (.int .i64 y.d)).setCell ⟨w.heap.size + 1, 2, none⟩ (.int .i64 0)).setCell ⟨w.heap.size + 1, 3, none⟩ (.int .i64 0)).setCell ⟨w.heap.size + 1, 4, none⟩ (.int .i64 0)).setCell ⟨w.heap.size + 1, 5, none⟩ (.int .i64 kn)).setCell ⟨w.heap.size + 1, 6, none⟩ (.string ⟨#[]⟩)).setCell ⟨w.heap.size + 1, 7, none⟩ (.slice none 0 0)) := by
          have h := HBR.out.trans (HB7.out.mono HBR.out.size)
          exact ((((((((h.setCell (Nat.le_succ _) _).setCell (Nat.le_succ _) _).setCell (Nat.le_succ _) _).setCell (Nat.le_succ _) _).setCell (Nat.le_succ _) _).setCell (Nat.le_succ _) _).setCell (Nat.le_succ _) _).setCell (Nat.le_succ _) _)
        have hle : wr.heap.size ≤ w7.heap.size := HB7.out.size
        refine bodyPost_ret (v := .agg #[.int .i64 1, .int .i64 y.d, .int .i64 0, .int .i64 0, .int .i64 0, .int .i64 kn, .string ⟨#[]⟩, .slice none 0 0]) (results_cell_row (p := 4) (ty := 36) (by kernel_rfl) _ _ (w.heap.size + 1) 36 _ (0, 0) _ rfl hfin Tryz.underlying36 rfl (by kernel_rfl)) rfl ?_
        refine ⟨.slice none 0 0, ?_, hbel, ?_⟩
        · rw [HIN2.out]; rfl
        · rw [HIN2.out]; exact SlR.nil_ _ _ _ _
      · have hi2 := HIN.out
        rw [if_neg hkn] at hi2
        have HIN2 := Lib.hid hi2
        have hkf : isKnown E y = false := by simpa using hkn
        rw [hkf] at HKN
        generalize knownN E y = kn at *
        clear hi2 HIN hkn hkf
        subst hyd
        go_upto_region 8 with (go_at_call 93; refine HKN.out.mono ?_; rintro e w7 ⟨rfl, hb7⟩)
        have hX7 := HXR.out.below hb7 hxl
        have hR7 := HRR.out.below hb7 hrl
        have p0 : w7.cell? ⟨w.heap.size, 0, none⟩ = some (.int .i64 y.kind) := hX7.cell 0
        have p1 : w7.cell? ⟨w.heap.size, 1, none⟩ = some (.int .i64 y.d) := hX7.cell 1
        have p2 : w7.cell? ⟨w.heap.size, 2, none⟩ = some (.int .i64 y.a) := hX7.cell 2
        have p3 : w7.cell? ⟨w.heap.size, 3, none⟩ = some (.int .i64 y.b) := hX7.cell 3
        have p4 : w7.cell? ⟨w.heap.size, 4, none⟩ = some (.int .i64 y.op) := hX7.cell 4
        have p5 : w7.cell? ⟨w.heap.size, 5, none⟩ = some (.int .i64 y.n) := hX7.cell 5
        have p6 : w7.cell? ⟨w.heap.size, 6, none⟩ = some (.string y.name) := hX7.cell 6
        have p7 : w7.cell? ⟨w.heap.size, 7, none⟩ = some (.slice Aa args.length ca) := hX7.cell 7
        have z0 := hR7.frozen 0
        have y0 : w7.cell? ⟨w.heap.size + 1, 0, none⟩ = some (.int .i64 0) := hR7.cell 0
        have z1 := hR7.frozen 1
        have y1 : w7.cell? ⟨w.heap.size + 1, 1, none⟩ = some (.int .i64 0) := hR7.cell 1
        have z2 := hR7.frozen 2
        have y2 : w7.cell? ⟨w.heap.size + 1, 2, none⟩ = some (.int .i64 0) := hR7.cell 2
        have z3 := hR7.frozen 3
        have y3 : w7.cell? ⟨w.heap.size + 1, 3, none⟩ = some (.int .i64 0) := hR7.cell 3
        have z4 := hR7.frozen 4
        have y4 : w7.cell? ⟨w.heap.size + 1, 4, none⟩ = some (.int .i64 0) := hR7.cell 4
        have z5 := hR7.frozen 5
        have y5 : w7.cell? ⟨w.heap.size + 1, 5, none⟩ = some (.int .i64 0) := hR7.cell 5
        have z6 := hR7.frozen 6
        have y6 : w7.cell? ⟨w.heap.size + 1, 6, none⟩ = some (.string ⟨#[]⟩) := hR7.cell 6
        have z7 := hR7.frozen 7
        have y7 : w7.cell? ⟨w.heap.size + 1, 7, none⟩ = some (.slice none 0 0) := hR7.cell 7
        have HR7 := Lib.hid hR7
        have HB7 := Lib.hid hb7
        clear hX7 hR7 hb7 q0 q1 q2 q3 q4 q5 q6 q7
        go_wp2
        have hfin : Blk ((((((((w7.setCell ⟨w.heap.size + 1, 0, none⟩ (.int .i64 y.kind)).setCell ⟨w.heap.size + 1, 1, none⟩ (.int .i64 y.d)).setCell ⟨w.heap.size + 1, 2, none⟩ (.int .i64 y.a)).setCell ⟨w.heap.size + 1, 3, none⟩ (.int .i64 y.b)).setCell ⟨w.heap.size + 1, 4, none⟩ (.int .i64 y.op)).setCell ⟨w.heap.size + 1, 5, none⟩ (.int .i64 y.n)).setCell ⟨w.heap.size + 1, 6, none⟩ (.string y.name)).setCell ⟨w.heap.size + 1, 7, none⟩ (.slice Aa args.length ca)) (w.heap.size + 1) 36 #[.int .i64 y.kind, .int .i64 y.d, .int .i64 y.a, .int .i64 y.b, .int .i64 y.op, .int .i64 y.n, .string y.name, .slice Aa args.length ca] := ((((((((HR7.out.set_ 0 _).set_ 1 _).set_ 2 _).set_ 3 _).set_ 4 _).set_ 5 _).set_ 6 _).set_ 7 _)
        have hbel : Below w.heap.size w ((((((((w7.setCell ⟨w.heap.size + 1, 0, none⟩ (.int .i64 y.kind)).setCell ⟨w.heap.size + 1, 1, none⟩ (.int .i64 y.d)).setCell ⟨w.heap.size + 1, 2, none⟩ (.int .i64 y.a)).setCell ⟨w.heap.size + 1, 3, none⟩ (.int .i64 y.b)).setCell ⟨w.heap.size + 1, 4, none⟩ (.int .i64 y.op)).setCell ⟨w.heap.size + 1, 5, none⟩ (.int .i64 y.n)).setCell ⟨w.heap.size + 1, 6, none⟩ (.string y.name)).setCell ⟨w.heap.size + 1, 7, none⟩ (.slice Aa args.length ca)) := by
          have h := HBR.out.trans (HB7.out.mono HBR.out.size)
          exact ((((((((h.setCell (Nat.le_succ _) _).setCell (Nat.le_succ _) _).setCell (Nat.le_succ _) _).setCell (Nat.le_succ _) _).setCell (Nat.le_succ _) _).setCell (Nat.le_succ _) _).setCell (Nat.le_succ _) _).setCell (Nat.le_succ _) _)
        have hle : wr.heap.size ≤ w7.heap.size := HB7.out.size
        refine bodyPost_ret (v := .agg #[.int .i64 y.kind, .int .i64 y.d, .int .i64 y.a, .int .i64 y.b, .int .i64 y.op, .int .i64 y.n, .string y.name, .slice Aa args.length ca]) (results_cell_row (p := 4) (ty := 36) (by kernel_rfl) _ _ (w.heap.size + 1) 36 _ (0, 0) _ rfl hfin Tryz.underlying36 rfl (by kernel_rfl)) rfl ?_
        refine ⟨.slice Aa args.length ca, ?_, hbel, ?_⟩
        · rw [HIN2.out]; rfl
        · rw [HIN2.out]; refine HS4.out.imp (fun k hk => ?_) (fun k hk => ?_) (fun _ _ _ r => r)
          · simp only [World.setCell, Array.size_modify]; omega
          · refine Eq.trans ?_ (HB7.out.block k (by omega))
            simp only [World.setCell]
            repeat rw [Array.getElem?_modify, if_neg (by show w.heap.size + 1 ≠ k; omega)]
end Go.Proofs.YtnpnhdmfdhnmfaaGreatDoor
