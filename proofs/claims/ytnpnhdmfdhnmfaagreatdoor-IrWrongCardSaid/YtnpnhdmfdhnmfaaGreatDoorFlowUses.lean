/- What ir.Uses does, at any instruction. -/
import Derived.Test.YtnpnhdmfdhnmfaaGreatDoorFlowSmall
import Derived.Deep.Upon
import Derived.Lib.SlFresh
namespace Go.Proofs.YtnpnhdmfdhnmfaaGreatDoor
open Go.RowKit

theorem ints_post {w w' : World} {v : Value} {n : Nat} {xs : List Value} {l : List Int} {T : TypeId} (hb : Below w.heap.size w w') (h : w'.ownsRow w.heap.size T 1 v n xs) (hl : xs = l.map fun i => .int .i64 i) : IntsPost l w (.returned v) w' := by
  subst hl
  exact ⟨v, rfl, hb, ints_of_own h fun g hg => h.lt g hg⟩
/-- the news of an append of a row -/
theorem news_of_slr {w : World} {ok : Nat → Prop} {b off c : Nat} {l : List Int} {c0 : Nat} (h : SlR w ok 1 RInt (.slice (some ⟨b, off, none⟩) c0 c) l) (hl : 0 < l.length) : ∀ j u, (l.map fun i => Value.int .i64 i)[j]? = some u → w.cell? ((⟨b, off, none⟩ : Addr).add j) = some u := by
  intro j u hu
  obtain ⟨b', off', c', hv, _, _, _, hel⟩ := h.form hl
  obtain ⟨rfl, rfl⟩ : b = b' ∧ off = off' := by injection hv with h1 _ _; injection h1 with h1; injection h1 with h1 h2; exact ⟨h1, h2⟩
  obtain ⟨hj, hju⟩ := List.getElem?_eq_some_iff.1 hu
  have hj' : j < l.length := by simpa using hj
  obtain ⟨cs, _, hcs, hc⟩ := hel j hj'
  subst hcs
  have := hc.at_ (j := 0) rfl
  rw [Addr.add_lit]
  rw [← hju, List.getElem_map]
  simpa using this
theorem ints_one (l : List Int) : ∀ u ∈ l.map (fun i => Value.int .i64 i), u.oneCell' = true := by
  intro u hu
  obtain ⟨_, _, rfl⟩ := List.mem_map.1 hu
  rfl

section
set_option maxHeartbeats 2000000
set_option maxRecDepth 100000
theorem uses_none (k d a b op n : Int) (s : ByteArray) (va : Value) (hk : k ≠ 2 ∧ k ≠ 3 ∧ k ≠ 4 ∧ k ≠ 5 ∧ k ≠ 6 ∧ k ≠ 8 ∧ k ≠ 9) (w : World) :
    Calls Tryz.prog 19 #[.agg #[.int .i64 k, .int .i64 d, .int .i64 a, .int .i64 b, .int .i64 op, .int .i64 n, .string s, va]] w (IntsPost [] w) := by
  have hh : havingL k = 33 ∨ havingL k = 1 ∨ havingL k = 0 := by
    unfold havingL
    obtain ⟨h2, h3, h4, h5, h6, h8, h9⟩ := hk
    rw [if_neg h2, if_neg h3, if_neg h4, if_neg h5, if_neg h6, if_neg h8, if_neg h9]
    by_cases h1 : k = 1
    · exact .inl (if_pos h1)
    · rw [if_neg h1]
      by_cases h7 : k = 7
      · exact .inr (.inl (if_pos h7))
      · exact .inr (.inr (if_neg h7))
  go_enter Tryz.func19, Tryz.ntmps19
  clear hk
  rcases hh with h | h | h
  all_goals
    have HK := fun W => having_any k W
    rw [h] at HK
    clear h
    go_wp2_with (first | (go_at_call 39; refine (HK _).mono ?_; rintro e w' ⟨rfl, rfl⟩) | go_in)
    go_ret
    exact ⟨_, rfl, below1 _ _, SlR.nil_ _ _ _ _⟩
theorem uses_a (k d a b op n : Int) (s : ByteArray) (va : Value) (hk : k = 2 ∨ k = 3 ∨ k = 5 ∨ k = 8) (w : World) :
    Calls Tryz.prog 19 #[.agg #[.int .i64 k, .int .i64 d, .int .i64 a, .int .i64 b, .int .i64 op, .int .i64 n, .string s, va]] w (IntsPost [a] w) := by
  go_enter Tryz.func19, Tryz.ntmps19
  obtain ⟨z0, hi0, hz0, hz1, hz2⟩ := info_parts info_int
  have HK := fun W => having_any k W
  rcases hk with rfl | rfl | rfl | rfl
  all_goals
    simp [havingL] at HK
    go_wp2_with (first | (go_at_call 39; refine (HK _).mono ?_; rintro e w' ⟨rfl, rfl⟩) | (at_builtin; refine wpList_append_lies _ rfl _ _ _ rfl w.heap.size 3 z0 _ 1 8 Tryz.underlying34 hi0 hz0 hz1 hz2 rfl (by decide) (.slice none 0 0) 0 [] rfl (World.ownsRow_nil _ _ _ _) ⟨w.heap.size + 1, 0, none⟩ 1 1 [.int .i64 a] rfl rfl (World.news_of_block (cs := #[.int .i64 a]) (t := 3) (fr := (0, 0)) ((Blk.new_at _ _ _ (by simp <;> omega)))) (by simp [Value.oneCell']) (by decide) (by unfold maxLen; omega) (by omega) (by simp <;> omega) (w.heap.size + 1 + 1) (by simp <;> omega) ?_; intro g cap w1 hown1 hgrow hat hlt1) | go_in)
    go_ret
    exact ints_post ((below2 _ _ _).grown hgrow (by simp <;> omega) (fun k e => by cases e)) hown1 rfl
theorem uses_ab (k d a b op n : Int) (s : ByteArray) (va : Value) (hk : k = 4 ∨ k = 6) (w : World) :
    Calls Tryz.prog 19 #[.agg #[.int .i64 k, .int .i64 d, .int .i64 a, .int .i64 b, .int .i64 op, .int .i64 n, .string s, va]] w (IntsPost [a, b] w) := by
  go_enter Tryz.func19, Tryz.ntmps19
  obtain ⟨z0, hi0, hz0, hz1, hz2⟩ := info_parts info_int
  have HK := fun W => having_any k W
  rcases hk with rfl | rfl
  all_goals
    simp [havingL] at HK
    go_wp2_with (first | (go_at_call 39; refine (HK _).mono ?_; rintro e w' ⟨rfl, rfl⟩) | (at_builtin; refine wpList_append_lies _ rfl (.tmp 9) _ _ rfl w.heap.size 3 z0 _ 1 8 Tryz.underlying34 hi0 hz0 hz1 hz2 rfl (by decide) (.slice none 0 0) 0 [] rfl (World.ownsRow_nil _ _ _ _) ⟨w.heap.size + 1, 0, none⟩ 1 1 [.int .i64 a] rfl rfl (World.news_of_block (cs := #[.int .i64 a]) (t := 3) (fr := (0, 0)) ((Blk.new_at _ _ _ (by simp <;> omega)))) (by simp [Value.oneCell']) (by decide) (by unfold maxLen; omega) (by omega) (by simp <;> omega) (w.heap.size + 1 + 1) (by simp <;> omega) ?_; intro g cap w1 hown1 hgrow hat hlt1; have hb1 : Below w.heap.size w w1 := ((below2 _ _ _).grown hgrow (by simp <;> omega) (fun k e => by cases e)); have o3 : w1.cell? ⟨w.heap.size, 3, none⟩ = some (.int .i64 b) := (hgrow.cell_far _ (by simp <;> omega) (by intro e; cases e)).trans ((World.cell?_alloc_lt _ _ _ (by simp <;> omega)).trans ((Blk.new w _ _).cell 3))) | (at_builtin; refine wpList_append_lies _ rfl (.tmp 16) _ _ rfl w.heap.size 3 z0 _ 1 8 Tryz.underlying34 hi0 hz0 hz1 hz2 rfl (by decide) _ _ _ rfl (hown1.alloc _) ⟨w1.heap.size, 0, none⟩ 1 1 [.int .i64 b] rfl rfl (World.news_of_block (cs := #[.int .i64 b]) (t := 3) (fr := (0, 0)) (heap_alloc_new w1 _)) (by simp [Value.oneCell']) (by decide) (by unfold maxLen; omega) (by omega) (by have := hb1.size; simp <;> omega) (w1.heap.size + 1) (by simp <;> omega) ?_; intro g2 cap2 w2 hown2 hgrow2 hat2 hlt2) | go_in)
    go_ret
    exact ints_post ((hb1.alloc hb1.size _).grown hgrow2 (by have := hb1.size; simp <;> omega) (fun k e => hown1.lt k e |>.1)) hown2 rfl
theorem uses_call (d a b op n : Int) (s : ByteArray) (va : Value) (l : List Int) (w : World) (hv : SlR w (· < w.heap.size) 1 RInt va l) (hsz : l.length * 8 ≤ 140737488355328) :
    Calls Tryz.prog 19 #[.agg #[.int .i64 9, .int .i64 d, .int .i64 a, .int .i64 b, .int .i64 op, .int .i64 n, .string s, va]] w (IntsPost l w) := by
  go_enter Tryz.func19, Tryz.ntmps19
  obtain ⟨z0, hi0, hz0, hz1, hz2⟩ := info_parts info_int
  by_cases hl : l.length = 0
  · obtain rfl := List.eq_nil_of_length_eq_zero hl
    obtain ⟨A, c, rfl, _, _⟩ := hv.val
    have hrun : ∀ W, (Builtin.append_ #[34, 34] 34 #[.slice none 0 0, .slice A 0 c]).run Tryz.prog W = .ok (.slice none 0 0) W := fun W =>
      run_append_nothing W 34 34 34 3 z0 Tryz.underlying34 hi0 none 0 0 (Nat.le_refl 0) _ (by cases A with
        | none => exact Src.ofNil (size := z0.size) W Tryz.underlying34 c
        | some ad => exact Src.ofSlice (size := z0.size) W Tryz.underlying34 ad 0 c [] (by simp) (by simp) (by simp))
    clear hv hsz hl
    have HK := fun W => having_any 9 W
    simp [havingL] at HK
    go_wp2_with (first | (go_at_call 39; refine (HK _).mono ?_; rintro e w' ⟨rfl, rfl⟩) | (at_builtin; refine Go.Lib.wpList_append_run_sl _ rfl _ _ 34 rfl _ _ rfl rfl (hrun _) ?_) | go_in)
    go_ret
    exact ⟨_, rfl, below1 _ _, SlR.nil_ _ _ _ _⟩
  · obtain ⟨bb, off, c, rfl, h1, h2, hb, _⟩ := hv.form (by omega)
    have hnews := news_of_slr (hv.imp (w' := w.alloc (.cells #[.int .i64 9, .int .i64 d, .int .i64 a, .int .i64 b, .int .i64 op, .int .i64 n, .string s, .slice (some ⟨bb, off, none⟩) l.length c] 36)) (fun _ h => h) (fun b hb => Below.heap_alloc w _ b hb) (fun _ _ _ r => r)) (by omega)
    have hm := Nat.le_trans h1 h2
    have h0 : 0 < l.length := by omega
    clear hv hl
    have HK := fun W => having_any 9 W
    simp [havingL] at HK
    go_wp2_with (first | (go_at_call 39; refine (HK _).mono ?_; rintro e w' ⟨rfl, rfl⟩) | (at_builtin; refine wpList_append_lies _ rfl _ _ _ rfl w.heap.size 3 z0 _ 1 8 Tryz.underlying34 hi0 hz0 hz1 hz2 rfl (by decide) (.slice none 0 0) 0 [] rfl (World.ownsRow_nil _ _ _ _) ⟨bb, off, none⟩ l.length c (l.map fun i => .int .i64 i) rfl (by simp <;> omega) hnews (ints_one l) h0 (by omega) (by omega) (by simp <;> omega) (w.heap.size + 1) (by simp <;> omega) ?_; intro g cap w1 hown1 hgrow hat hlt1) | go_in)
    go_ret
    simp only [Nat.zero_add, List.nil_append] at hown1
    exact ints_post ((below1 _ _).grown hgrow (by simp <;> omega) (fun k e => by cases e)) hown1 rfl
/-- ir.Uses at any instruction -/
theorem uses_any (x : LIns) (va : Value) (w : World) (hv : SlR w (· < w.heap.size) 1 RInt va x.args) (hsz : x.args.length * 8 ≤ 140737488355328) :
    Calls Tryz.prog 19 #[.agg #[.int .i64 x.kind, .int .i64 x.d, .int .i64 x.a, .int .i64 x.b, .int .i64 x.op, .int .i64 x.n, .string x.name, va]] w (IntsPost (usesL x) w) := by
  by_cases h9 : x.kind = 9
  · have e : usesL x = x.args := by unfold usesL; simp [h9, hasA, hasB]
    rw [e, h9]
    exact uses_call _ _ _ _ _ _ va x.args w hv hsz
  by_cases h4 : x.kind = 4 ∨ x.kind = 6
  · have e : usesL x = [x.a, x.b] := by rcases h4 with h | h <;> (unfold usesL; simp [h, hasA, hasB])
    rw [e]
    exact uses_ab _ _ _ _ _ _ _ va h4 w
  by_cases h2 : x.kind = 2 ∨ x.kind = 3 ∨ x.kind = 5 ∨ x.kind = 8
  · have e : usesL x = [x.a] := by rcases h2 with h | h | h | h <;> (unfold usesL; simp [h, hasA, hasB])
    rw [e]
    exact uses_a _ _ _ _ _ _ _ va h2 w
  have e : usesL x = [] := by
    have : ¬ (x.kind = 2 ∨ x.kind = 3 ∨ x.kind = 4 ∨ x.kind = 5 ∨ x.kind = 6 ∨ x.kind = 8) := by omega
    unfold usesL
    rw [if_neg (by simpa [hasA] using this), if_neg (by simpa [hasB] using h4), if_neg h9]
    rfl
  rw [e]
  exact uses_none _ _ _ _ _ _ _ va (by omega) w
end
end Go.Proofs.YtnpnhdmfdhnmfaaGreatDoor
