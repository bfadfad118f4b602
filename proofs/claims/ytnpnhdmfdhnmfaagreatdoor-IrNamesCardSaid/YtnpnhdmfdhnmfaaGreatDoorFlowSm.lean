/- What ir.Next, flow.wants, flow.sets, ir.Uses and slices.ContainsFunc do, at any instruction, end and row of numbers. What ir.Uses does, at any instruction. What flow.may does, at any function that may be: it says so. The functions that Fit makes may be, for flow. -/
import Derived.Test.YtnpnhdmfdhnmfaaGreatDoorFitMem
import Derived.Deep.Upon
import Derived.Lib.SlFresh
namespace Go.Proofs.YtnpnhdmfdhnmfaaGreatDoor
open Go.RowKit

def nextL (t : LTerm) : List Int := if t.kind = 2 ∧ t.to ≠ t.els then [t.to, t.els] else if t.kind = 2 ∨ t.kind = 1 then [t.to] else []
def wantsL (t : LTerm) : List Int := if t.kind = 2 ∨ t.kind = 3 ∨ t.kind = 4 then [t.a] else []
def setsL (x : LIns) : List Int := if x.kind < 1 ∨ x.kind > 9 ∨ x.kind = 6 ∨ x.kind = 8 then [] else [x.d]
/-- has an instruction an a, a b, is it a call -/
def hasA (k : Int) : Bool := k = 2 ∨ k = 3 ∨ k = 4 ∨ k = 5 ∨ k = 6 ∨ k = 8
def hasB (k : Int) : Bool := k = 4 ∨ k = 6
def usesL (x : LIns) : List Int := (if hasA x.kind then [x.a] else []) ++ (if hasB x.kind then [x.b] else []) ++ (if x.kind = 9 then x.args else [])

/-- a call hands back a row of numbers of its own -/
def IntsPost (l : List Int) (w : World) (e : Ending) (w' : World) : Prop :=
  ∃ v, e = .returned v ∧ Below w.heap.size w w' ∧ SlR w' (fun b => w.heap.size ≤ b ∧ b < w'.heap.size) 1 RInt v l

theorem below1 (w : World) (a : Obj) : Below w.heap.size w (w.alloc a) := (Below.refl _ _).alloc (Nat.le_refl _) _
theorem below2 (w : World) (a b : Obj) : Below w.heap.size w ((w.alloc a).alloc b) := (below1 w a).alloc (by simp) _

theorem slr_new1 (w : World) (t : TypeId) (a : Int) (ok : Nat → Prop) {n : Nat} (hn : n = w.heap.size) (h : ok n) : SlR (w.alloc (.cells #[.int .i64 a] t)) ok 1 RInt (.slice (some ⟨n, 0, none⟩) 1 1) [a] := by
  subst hn
  refine ⟨_, 1, rfl, Nat.le_refl 1, by unfold maxLen; omega, .inr ⟨w.heap.size, 0, rfl, h, ?_⟩⟩
  intro i hi
  have hi' : i < 1 := hi
  obtain rfl : i = 0 := by omega
  refine ⟨[.int .i64 a], rfl, rfl, ?_⟩
  intro j hj
  have hj' : j < 1 := hj
  obtain rfl : j = 0 := by omega
  exact (Blk.new w t #[.int .i64 a]).cell 0
theorem slr_new2 (w : World) (t : TypeId) (a b : Int) (ok : Nat → Prop) {n : Nat} (hn : n = w.heap.size) (h : ok n) : SlR (w.alloc (.cells #[.int .i64 a, .int .i64 b] t)) ok 1 RInt (.slice (some ⟨n, 0, none⟩) 2 2) [a, b] := by
  subst hn
  refine ⟨_, 2, rfl, Nat.le_refl 2, by unfold maxLen; omega, .inr ⟨w.heap.size, 0, rfl, h, ?_⟩⟩
  intro i hi
  have hi' : i < 2 := hi
  rcases (by omega : i = 0 ∨ i = 1) with rfl | rfl
  · refine ⟨[.int .i64 a], rfl, rfl, ?_⟩
    intro j hj
    have hj' : j < 1 := hj
    obtain rfl : j = 0 := by omega
    exact (Blk.new w t #[.int .i64 a, .int .i64 b]).cell 0
  · refine ⟨[.int .i64 b], rfl, rfl, ?_⟩
    intro j hj
    have hj' : j < 1 := hj
    obtain rfl : j = 0 := by omega
    exact (Blk.new w t #[.int .i64 a, .int .i64 b]).cell 1

theorem ints1 {w : World} (o : Obj) (t : TypeId) (a : Int) : IntsPost [a] w (.returned (.slice (some ⟨w.heap.size + 1, 0, none⟩) 1 1)) ((w.alloc o).alloc (.cells #[.int .i64 a] t)) := by
  exact ⟨_, rfl, below2 _ _ _, slr_new1 (w.alloc o) t a (fun b => w.heap.size ≤ b ∧ b < ((w.alloc o).alloc (.cells #[.int .i64 a] t)).heap.size) (by simp) ⟨by simp, by simp⟩⟩
theorem ints2 {w : World} (o : Obj) (t : TypeId) (a b : Int) : IntsPost [a, b] w (.returned (.slice (some ⟨w.heap.size + 1, 0, none⟩) 2 2)) ((w.alloc o).alloc (.cells #[.int .i64 a, .int .i64 b] t)) := by
  exact ⟨_, rfl, below2 _ _ _, slr_new2 (w.alloc o) t a b (fun x => w.heap.size ≤ x ∧ x < ((w.alloc o).alloc (.cells #[.int .i64 a, .int .i64 b] t)).heap.size) (by simp) ⟨by simp, by simp⟩⟩

set_option maxHeartbeats 1000000 in
theorem next_any (t : LTerm) (w : World) : Calls Tryz.prog 24 #[.agg #[.int .i64 t.kind, .int .i64 t.a, .int .i64 t.to, .int .i64 t.els]] w (IntsPost (nextL t) w) := by
  go_enter Tryz.func24, Tryz.ntmps24
  by_cases h2 : t.kind = 2
  · have b2 : (t.kind == 2) = true := beq_iff_eq.2 h2
    have d2 : decide (t.kind = 2) = true := decide_eq_true h2
    by_cases hte : t.to = t.els
    · have bt : (t.to != t.els) = false := by rw [hte]; simp
      have dt : decide (t.to = t.els) = true := decide_eq_true hte
      have e : nextL t = [t.to] := by unfold nextL; rw [if_neg (by simp [hte]), if_pos (.inl h2)]
      rw [e]
      clear e hte h2
      go_wp2
      go_ret
      exact ints1 _ _ _
    · have bt : (t.to != t.els) = true := by simp [hte]
      have dt : decide (t.to = t.els) = false := decide_eq_false hte
      have e : nextL t = [t.to, t.els] := by unfold nextL; rw [if_pos ⟨h2, hte⟩]
      rw [e]
      clear e hte h2
      go_wp2
      go_ret
      exact ints2 _ _ _ _
  · have b2 : (t.kind == 2) = false := by simp [h2]
    have d2 : decide (t.kind = 2) = false := decide_eq_false h2
    by_cases h1 : t.kind = 1
    · have b1 : (t.kind == 1) = true := beq_iff_eq.2 h1
      have d1 : decide (t.kind = 1) = true := decide_eq_true h1
      have e : nextL t = [t.to] := by unfold nextL; rw [if_neg (by simp [h2]), if_pos (.inr h1)]
      rw [e]
      clear e h1 h2
      go_wp2
      go_ret
      exact ints1 _ _ _
    · have b1 : (t.kind == 1) = false := by simp [h1]
      have d1 : decide (t.kind = 1) = false := decide_eq_false h1
      have e : nextL t = [] := by unfold nextL; rw [if_neg (by simp [h2]), if_neg (by simp [h1, h2])]
      rw [e]
      clear e h1 h2
      go_wp2
      go_ret
      exact ⟨_, rfl, below1 _ _, SlR.nil_ _ _ _ _⟩

/-- a function value that tells of a number, in whatever later world -/
def PredI (g : Nat) (lb : Array Value) (p : Int → Bool) (l : List Int) (w : World) : Prop :=
  ∀ (W : World) (n : Int), n ∈ l → Below w.heap.size w W → Calls Tryz.prog g (#[.int .i64 n] ++ lb) W fun e w' => e = .returned (.bool (p n)) ∧ Below w.heap.size w w'
def idxL (p : Int → Bool) (l : List Int) : Int := if l.any p = true then (l.findIdx p : Int) else -1
theorem idxL_nonneg (p : Int → Bool) (l : List Int) : decide (0 ≤ idxL p l) = l.any p := by
  unfold idxL
  by_cases h : l.any p = true
  · rw [if_pos h, h]; simp
  · rw [if_neg h]; simp at h ⊢; simpa using h

def placeP (n : Int) : Bool := decide (0 ≤ n ∧ n < 50000)
/-! ### what an instruction has -/
def havingL (k : Int) : Int := if k = 1 then 33 else if k = 2 then 3 else if k = 3 then 11 else if k = 4 then 23 else if k = 5 then 67 else if k = 6 then 70 else if k = 7 then 1 else if k = 8 then 2 else if k = 9 then 129 else 0
theorem having_any (k : Int) (w : World) : Calls Tryz.prog 39 #[.int .i64 k] w fun e w' => e = .returned (.int .i64 (havingL k)) ∧ w' = w := by
  go_enter Tryz.func39, Tryz.ntmps39
  have hc : (k = 1 ∨ k = 2 ∨ k = 3 ∨ k = 4 ∨ k = 5 ∨ k = 6 ∨ k = 7 ∨ k = 8 ∨ k = 9) ∨ (k ≠ 1 ∧ k ≠ 2 ∧ k ≠ 3 ∧ k ≠ 4 ∧ k ≠ 5 ∧ k ≠ 6 ∧ k ≠ 7 ∧ k ≠ 8 ∧ k ≠ 9) := by omega
  rcases hc with (rfl | rfl | rfl | rfl | rfl | rfl | rfl | rfl | rfl) | ⟨h1, h2, h3, h4, h5, h6, h7, h8, h9⟩
  all_goals try (go_wp2; go_ret; exact ⟨rfl, rfl⟩)
  have e : havingL k = 0 := by simp [havingL, h1, h2, h3, h4, h5, h6, h7, h8, h9]
  rw [e]
  have b1 : (k == 1) = false := by simp [h1]
  have b2 : (k == 2) = false := by simp [h2]
  have b3 : (k == 3) = false := by simp [h3]
  have b4 : (k == 4) = false := by simp [h4]
  have b5 : (k == 5) = false := by simp [h5]
  have b6 : (k == 6) = false := by simp [h6]
  have b7 : (k == 7) = false := by simp [h7]
  have b8 : (k == 8) = false := by simp [h8]
  have b9 : (k == 9) = false := by simp [h9]
  clear e
  go_wp2
  go_ret
  exact ⟨rfl, rfl⟩
end Go.Proofs.YtnpnhdmfdhnmfaaGreatDoor

namespace Go.Proofs.YtnpnhdmfdhnmfaaGreatDoor
open Go.RowKit

theorem ints_post {w w' : World} {v : Value} {n : Nat} {xs : List Value} {l : List Int} {T : TypeId} (hb : Below w.heap.size w w') (h : w'.ownsRow w.heap.size T 1 v n xs) (hl : xs = l.map fun i => .int .i64 i) : IntsPost l w (.returned v) w' := by
  subst hl
  exact ⟨v, rfl, hb, ints_of_own h fun g hg => h.lt g hg⟩
/-- the news of an append of a row -/
theorem news_of_slr {w : World} {ok : Nat → Prop} {b off c : Nat} {l : List Int} {c0 : Nat} (h : SlR w ok 1 RInt (.slice (some ⟨b, off, none⟩) c0 c) l) (hl : 0 < l.length) : ∀ j u, (l.map fun i => Value.int .i64 i)[j]? = some u → w.cell? ((⟨b, off, none⟩ : Addr).add j) = some u := by
  intro j u hu
  obtain ⟨b', off', c', hv, _, _, _, hel⟩ := h.form hl
  obtain ⟨rfl, rfl⟩ : b = b' ∧ off = off' := by injection hv with h1 _ _; injection h1 with h1; injection h1 with h1 h2; exact ⟨h1, h2⟩
  obtain ⟨hj, hju⟩ := List.getElem?_eq_some_iff.1 hu
  have hj' : j < l.length := by simpa using hj
  obtain ⟨cs, _, hcs, hc⟩ := hel j hj'
  subst hcs
  have := hc.at_ (j := 0) rfl
  rw [Addr.add_lit]
  rw [← hju, List.getElem_map]
  simpa using this
theorem ints_one (l : List Int) : ∀ u ∈ l.map (fun i => Value.int .i64 i), u.oneCell' = true := by
  intro u hu
  obtain ⟨_, _, rfl⟩ := List.mem_map.1 hu
  rfl

section
set_option maxHeartbeats 2000000
set_option maxRecDepth 100000
theorem uses_none (k d a b op n : Int) (s : ByteArray) (va : Value) (hk : k ≠ 2 ∧ k ≠ 3 ∧ k ≠ 4 ∧ k ≠ 5 ∧ k ≠ 6 ∧ k ≠ 8 ∧ k ≠ 9) (w : World) :
    Calls Tryz.prog 19 #[.agg #[.int .i64 k, .int .i64 d, .int .i64 a, .int .i64 b, .int .i64 op, .int .i64 n, .string s, va]] w (IntsPost [] w) := by
  have hh : havingL k = 33 ∨ havingL k = 1 ∨ havingL k = 0 := by
    unfold havingL
    obtain ⟨h2, h3, h4, h5, h6, h8, h9⟩ := hk
    rw [if_neg h2, if_neg h3, if_neg h4, if_neg h5, if_neg h6, if_neg h8, if_neg h9]
    by_cases h1 : k = 1
    · exact .inl (if_pos h1)
    · rw [if_neg h1]
      by_cases h7 : k = 7
      · exact .inr (.inl (if_pos h7))
      · exact .inr (.inr (if_neg h7))
  go_enter Tryz.func19, Tryz.ntmps19
  clear hk
  rcases hh with h | h | h
  all_goals
    have HK := fun W => having_any k W
    rw [h] at HK
    clear h
    go_wp2_with (first | (go_at_call 39; refine (HK _).mono ?_; rintro e w' ⟨rfl, rfl⟩) | go_in)
    go_ret
    exact ⟨_, rfl, below1 _ _, SlR.nil_ _ _ _ _⟩
theorem uses_a (k d a b op n : Int) (s : ByteArray) (va : Value) (hk : k = 2 ∨ k = 3 ∨ k = 5 ∨ k = 8) (w : World) :
    Calls Tryz.prog 19 #[.agg #[.int .i64 k, .int .i64 d, .int .i64 a, .int .i64 b, .int .i64 op, .int .i64 n, .string s, va]] w (IntsPost [a] w) := by
  go_enter Tryz.func19, Tryz.ntmps19
  obtain ⟨z0, hi0, hz0, hz1, hz2⟩ := info_parts info_int
  have HK := fun W => having_any k W
  rcases hk with rfl | rfl | rfl | rfl
  all_goals
    simp [havingL] at HK
    go_wp2_with (first | (go_at_call 39; refine (HK _).mono ?_; rintro e w' ⟨rfl, rfl⟩) | (at_builtin; refine wpList_append_lies _ rfl _ _ _ rfl w.heap.size 3 z0 _ 1 8 Tryz.underlying34 hi0 hz0 hz1 hz2 rfl (by decide) (.slice none 0 0) 0 [] rfl (World.ownsRow_nil _ _ _ _) ⟨w.heap.size + 1, 0, none⟩ 1 1 [.int .i64 a] rfl rfl (World.news_of_block (cs := #[.int .i64 a]) (t := 3) (fr := (0, 0)) ((Blk.new_at _ _ _ (by simp <;> omega)))) (by simp [Value.oneCell']) (by decide) (by unfold maxLen; omega) (by omega) (by simp <;> omega) (w.heap.size + 1 + 1) (by simp <;> omega) ?_; intro g cap w1 hown1 hgrow hat hlt1) | go_in)
    go_ret
    exact ints_post ((below2 _ _ _).grown hgrow (by simp <;> omega) (fun k e => by cases e)) hown1 rfl
theorem uses_ab (k d a b op n : Int) (s : ByteArray) (va : Value) (hk : k = 4 ∨ k = 6) (w : World) :
    Calls Tryz.prog 19 #[.agg #[.int .i64 k, .int .i64 d, .int .i64 a, .int .i64 b, .int .i64 op, .int .i64 n, .string s, va]] w (IntsPost [a, b] w) := by
  go_enter Tryz.func19, Tryz.ntmps19
  obtain ⟨z0, hi0, hz0, hz1, hz2⟩ := info_parts info_int
  have HK := fun W => having_any k W
  rcases hk with rfl | rfl
  all_goals
    simp [havingL] at HK
    go_wp2_with (first | (go_at_call 39; refine (HK _).mono ?_; rintro e w' ⟨rfl, rfl⟩) | (at_builtin; refine wpList_append_lies _ rfl (.tmp 9) _ _ rfl w.heap.size 3 z0 _ 1 8 Tryz.underlying34 hi0 hz0 hz1 hz2 rfl (by decide) (.slice none 0 0) 0 [] rfl (World.ownsRow_nil _ _ _ _) ⟨w.heap.size + 1, 0, none⟩ 1 1 [.int .i64 a] rfl rfl (World.news_of_block (cs := #[.int .i64 a]) (t := 3) (fr := (0, 0)) ((Blk.new_at _ _ _ (by simp <;> omega)))) (by simp [Value.oneCell']) (by decide) (by unfold maxLen; omega) (by omega) (by simp <;> omega) (w.heap.size + 1 + 1) (by simp <;> omega) ?_; intro g cap w1 hown1 hgrow hat hlt1; have hb1 : Below w.heap.size w w1 := ((below2 _ _ _).grown hgrow (by simp <;> omega) (fun k e => by cases e)); have o3 : w1.cell? ⟨w.heap.size, 3, none⟩ = some (.int .i64 b) := (hgrow.cell_far _ (by simp <;> omega) (by intro e; cases e)).trans ((World.cell?_alloc_lt _ _ _ (by simp <;> omega)).trans ((Blk.new w _ _).cell 3))) | (at_builtin; refine wpList_append_lies _ rfl (.tmp 16) _ _ rfl w.heap.size 3 z0 _ 1 8 Tryz.underlying34 hi0 hz0 hz1 hz2 rfl (by decide) _ _ _ rfl (hown1.alloc _) ⟨w1.heap.size, 0, none⟩ 1 1 [.int .i64 b] rfl rfl (World.news_of_block (cs := #[.int .i64 b]) (t := 3) (fr := (0, 0)) (heap_alloc_new w1 _)) (by simp [Value.oneCell']) (by decide) (by unfold maxLen; omega) (by omega) (by have := hb1.size; simp <;> omega) (w1.heap.size + 1) (by simp <;> omega) ?_; intro g2 cap2 w2 hown2 hgrow2 hat2 hlt2) | go_in)
    go_ret
    exact ints_post ((hb1.alloc hb1.size _).grown hgrow2 (by have := hb1.size; simp <;> omega) (fun k e => hown1.lt k e |>.1)) hown2 rfl
theorem uses_call (d a b op n : Int) (s : ByteArray) (va : Value) (l : List Int) (w : World) (hv : SlR w (· < w.heap.size) 1 RInt va l) (hsz : l.length * 8 ≤ 140737488355328) :
    Calls Tryz.prog 19 #[.agg #[.int .i64 9, .int .i64 d, .int .i64 a, .int .i64 b, .int .i64 op, .int .i64 n, .string s, va]] w (IntsPost l w) := by
  go_enter Tryz.func19, Tryz.ntmps19
  obtain ⟨z0, hi0, hz0, hz1, hz2⟩ := info_parts info_int
  by_cases hl : l.length = 0
  · obtain rfl := List.eq_nil_of_length_eq_zero hl
    obtain ⟨A, c, rfl, _, _⟩ := hv.val
    have hrun : ∀ W, (Builtin.append_ #[34, 34] 34 #[.slice none 0 0, .slice A 0 c]).run Tryz.prog W = .ok (.slice none 0 0) W := fun W =>
      run_append_nothing W 34 34 34 3 z0 Tryz.underlying34 hi0 none 0 0 (Nat.le_refl 0) _ (by cases A with
        | none => exact Src.ofNil (size := z0.size) W Tryz.underlying34 c
        | some ad => exact Src.ofSlice (size := z0.size) W Tryz.underlying34 ad 0 c [] (by simp) (by simp) (by simp))
    clear hv hsz hl
    have HK := fun W => having_any 9 W
    simp [havingL] at HK
    go_wp2_with (first | (go_at_call 39; refine (HK _).mono ?_; rintro e w' ⟨rfl, rfl⟩) | (at_builtin; refine Go.Lib.wpList_append_run_sl _ rfl _ _ 34 rfl _ _ rfl rfl (hrun _) ?_) | go_in)
    go_ret
    exact ⟨_, rfl, below1 _ _, SlR.nil_ _ _ _ _⟩
  · obtain ⟨bb, off, c, rfl, h1, h2, hb, _⟩ := hv.form (by omega)
    have hnews := news_of_slr (hv.imp (w' := w.alloc (.cells #[.int .i64 9, .int .i64 d, .int .i64 a, .int .i64 b, .int .i64 op, .int .i64 n, .string s, .slice (some ⟨bb, off, none⟩) l.length c] 36)) (fun _ h => h) (fun b hb => Below.heap_alloc w _ b hb) (fun _ _ _ r => r)) (by omega)
    have hm := Nat.le_trans h1 h2
    have h0 : 0 < l.length := by omega
    clear hv hl
    have HK := fun W => having_any 9 W
    simp [havingL] at HK
    go_wp2_with (first | (go_at_call 39; refine (HK _).mono ?_; rintro e w' ⟨rfl, rfl⟩) | (at_builtin; refine wpList_append_lies _ rfl _ _ _ rfl w.heap.size 3 z0 _ 1 8 Tryz.underlying34 hi0 hz0 hz1 hz2 rfl (by decide) (.slice none 0 0) 0 [] rfl (World.ownsRow_nil _ _ _ _) ⟨bb, off, none⟩ l.length c (l.map fun i => .int .i64 i) rfl (by simp <;> omega) hnews (ints_one l) h0 (by omega) (by omega) (by simp <;> omega) (w.heap.size + 1) (by simp <;> omega) ?_; intro g cap w1 hown1 hgrow hat hlt1) | go_in)
    go_ret
    simp only [Nat.zero_add, List.nil_append] at hown1
    exact ints_post ((below1 _ _).grown hgrow (by simp <;> omega) (fun k e => by cases e)) hown1 rfl
/-- ir.Uses at any instruction -/
theorem uses_any (x : LIns) (va : Value) (w : World) (hv : SlR w (· < w.heap.size) 1 RInt va x.args) (hsz : x.args.length * 8 ≤ 140737488355328) :
    Calls Tryz.prog 19 #[.agg #[.int .i64 x.kind, .int .i64 x.d, .int .i64 x.a, .int .i64 x.b, .int .i64 x.op, .int .i64 x.n, .string x.name, va]] w (IntsPost (usesL x) w) := by
  by_cases h9 : x.kind = 9
  · have e : usesL x = x.args := by unfold usesL; simp [h9, hasA, hasB]
    rw [e, h9]
    exact uses_call _ _ _ _ _ _ va x.args w hv hsz
  by_cases h4 : x.kind = 4 ∨ x.kind = 6
  · have e : usesL x = [x.a, x.b] := by rcases h4 with h | h <;> (unfold usesL; simp [h, hasA, hasB])
    rw [e]
    exact uses_ab _ _ _ _ _ _ _ va h4 w
  by_cases h2 : x.kind = 2 ∨ x.kind = 3 ∨ x.kind = 5 ∨ x.kind = 8
  · have e : usesL x = [x.a] := by rcases h2 with h | h | h | h <;> (unfold usesL; simp [h, hasA, hasB])
    rw [e]
    exact uses_a _ _ _ _ _ _ _ va h2 w
  have e : usesL x = [] := by
    have : ¬ (x.kind = 2 ∨ x.kind = 3 ∨ x.kind = 4 ∨ x.kind = 5 ∨ x.kind = 6 ∨ x.kind = 8) := by omega
    unfold usesL
    rw [if_neg (by simpa [hasA] using this), if_neg (by simpa [hasB] using h4), if_neg h9]
    rfl
  rw [e]
  exact uses_none _ _ _ _ _ _ _ va (by omega) w
end
end Go.Proofs.YtnpnhdmfdhnmfaaGreatDoor

namespace Go.Proofs.YtnpnhdmfdhnmfaaGreatDoor
open Go.RowKit

structure GoodIns (x : LIns) : Prop where
  uses : ∀ n ∈ usesL x, placeP n = true
  sets : ∀ n ∈ setsL x, placeP n = true
  args : x.args.length ≤ 1000
structure GoodB (n : Nat) (b : LBlock) : Prop where
  next : ∀ k ∈ nextL b.term, 0 ≤ k ∧ k < n
  wants : ∀ k ∈ wantsL b.term, placeP k = true
  ins : ∀ x ∈ b.ins, GoodIns x
def GoodF (f : LFlow) : Prop := ∀ b ∈ f.blocks, GoodB f.blocks.length b

theorem any_false {p : Int → Bool} {l : List Int} (h : ∀ n ∈ l, p n = false) : l.any p = false := by
  rw [Bool.eq_false_iff]
  intro e
  obtain ⟨x, hx, hp⟩ := List.any_eq_true.1 e
  rw [h x hx] at hp
  cases hp
end Go.Proofs.YtnpnhdmfdhnmfaaGreatDoor

namespace Go.Proofs.YtnpnhdmfdhnmfaaGreatDoor
open Go.RowKit

theorem ite_small {p : Prop} [Decidable p] {a b : Int} (ha : 0 ≤ a ∧ a < 10) (hb : 0 ≤ b ∧ b < 10) : 0 ≤ (if p then a else b) ∧ (if p then a else b) < 10 := by
  by_cases h : p
  · rw [if_pos h]; exact ha
  · rw [if_neg h]; exact hb
theorem pk_small (a : Int) : 0 ≤ pk a 10 ∧ pk a 10 < 10 := ⟨pk_lo a 10 (by omega), pk_hi a 10 (by omega)⟩
theorem fitIns_d (x : LIns) : 0 ≤ (fitIns x).d ∧ (fitIns x).d < 10 := ite_small ⟨by omega, by omega⟩ (pk_small _)
theorem fitIns_a (x : LIns) : 0 ≤ (fitIns x).a ∧ (fitIns x).a < 10 := ite_small ⟨by omega, by omega⟩ (pk_small _)
theorem fitIns_b (x : LIns) : 0 ≤ (fitIns x).b ∧ (fitIns x).b < 10 := ite_small (pk_small _) ⟨by omega, by omega⟩
theorem fitIns_args (x : LIns) : (∀ n ∈ (fitIns x).args, 0 ≤ n ∧ n < 10) ∧ (fitIns x).args.length ≤ 2 := by
  unfold fitIns
  simp only
  split
  · refine ⟨fun n hn => ?_, ?_⟩
    · obtain ⟨i, _, rfl⟩ := List.mem_map.1 hn
      exact pk_small _
    · have h1 := pk_hi x.n 3 (by omega)
      have h0 := pk_lo x.n 3 (by omega)
      simp
      omega
  · exact ⟨fun n hn => by simp at hn, by simp⟩
theorem fitIns_kind (x : LIns) : 1 ≤ (fitIns x).kind ∧ (fitIns x).kind ≤ 9 := by
  have h0 := pk_lo x.kind 9 (by omega)
  have h1 := pk_hi x.kind 9 (by omega)
  show 1 ≤ 1 + pk x.kind 9 ∧ 1 + pk x.kind 9 ≤ 9
  omega
theorem fitTerm_kind (t : LTerm) (n : Int) : 1 ≤ (fitTerm t n).kind ∧ (fitTerm t n).kind ≤ 4 := by
  have h0 := pk_lo t.kind 4 (by omega)
  have h1 := pk_hi t.kind 4 (by omega)
  show 1 ≤ 1 + pk t.kind 4 ∧ 1 + pk t.kind 4 ≤ 4
  omega
theorem fitTerm_a (t : LTerm) (n : Int) : 0 ≤ (fitTerm t n).a ∧ (fitTerm t n).a < 10 := ite_small ⟨by omega, by omega⟩ (pk_small _)
theorem fitTerm_to (t : LTerm) (n : Int) (hn : 0 < n) : 0 ≤ (fitTerm t n).to ∧ (fitTerm t n).to < n := by
  show 0 ≤ (if 1 + pk t.kind 4 ≤ 2 then pk t.to n else 0) ∧ (if 1 + pk t.kind 4 ≤ 2 then pk t.to n else 0) < n
  split
  · exact ⟨pk_lo _ _ hn, pk_hi _ _ hn⟩
  · omega
theorem fitTerm_els (t : LTerm) (n : Int) (hn : 0 < n) : 0 ≤ (fitTerm t n).els ∧ (fitTerm t n).els < n := by
  show 0 ≤ (if 1 + pk t.kind 4 = 2 then pk t.els n else 0) ∧ (if 1 + pk t.kind 4 = 2 then pk t.els n else 0) < n
  split
  · exact ⟨pk_lo _ _ hn, pk_hi _ _ hn⟩
  · omega
theorem place_of_small {n : Int} (h : 0 ≤ n ∧ n < 10) : placeP n = true := by unfold placeP; exact decide_eq_true (by omega)
theorem mem_next {t : LTerm} {k : Int} (h : k ∈ nextL t) : k = t.to ∨ k = t.els := by
  unfold nextL at h
  split at h
  · simpa using h
  · split at h
    · simp at h; exact .inl h
    · simp at h
theorem good_fitIns (x : LIns) : GoodIns (fitIns x) := by
  refine ⟨fun n hn => ?_, fun n hn => ?_, by have := (fitIns_args x).2; omega⟩
  · unfold usesL at hn
    rw [List.mem_append, List.mem_append] at hn
    rcases hn with (hn | hn) | hn
    · split at hn
      · rw [List.mem_singleton.1 hn]; exact place_of_small (fitIns_a x)
      · simp at hn
    · split at hn
      · rw [List.mem_singleton.1 hn]; exact place_of_small (fitIns_b x)
      · simp at hn
    · split at hn
      · exact place_of_small ((fitIns_args x).1 n hn)
      · simp at hn
  · unfold setsL at hn
    split at hn
    · simp at hn
    · rw [List.mem_singleton.1 hn]; exact place_of_small (fitIns_d x)
theorem good_fitBlock (b : LBlock) (n : Nat) (hn : 0 < n) : GoodB n (fitBlock b n) := by
  refine ⟨fun k hk => ?_, fun k hk => ?_, fun x hx => ?_⟩
  · rcases mem_next hk with rfl | rfl
    · exact fitTerm_to b.term n (by omega)
    · exact fitTerm_els b.term n (by omega)
  · unfold wantsL at hk
    split at hk
    · rw [List.mem_singleton.1 hk]; exact place_of_small (fitTerm_a b.term n)
    · simp at hk
  · obtain ⟨y, _, rfl⟩ := List.mem_map.1 hx
    exact good_fitIns y
theorem fit_len (raw : List LBlock) (k : Nat) : (fitFl raw k).blocks.length = (orOne (picks raw k 8)).length := by simp [fitFl]
theorem orOne_pos (l : List LBlock) : 0 < (orOne l).length := by
  unfold orOne
  split
  · simp
  · rename_i h; exact List.length_pos_iff.2 h
theorem orOne_le (l : List LBlock) (n : Nat) (h : l.length ≤ n) (hn : 1 ≤ n) : (orOne l).length ≤ n := by
  unfold orOne
  split
  · simpa using hn
  · exact h
theorem fit_pos (raw : List LBlock) (k : Nat) : 0 < (fitFl raw k).blocks.length := by rw [fit_len]; exact orOne_pos _
theorem fit_le (raw : List LBlock) (k : Nat) : (fitFl raw k).blocks.length ≤ 8 := by rw [fit_len]; exact orOne_le _ _ (picks_le raw k 8) (by omega)
theorem good_fit (raw : List LBlock) (k : Nat) : GoodF (fitFl raw k) := fun b hb => by
  rw [fit_len]
  obtain ⟨y, _, rfl⟩ := List.mem_map.1 hb
  exact good_fitBlock y _ (orOne_pos _)
theorem fit_ins (raw : List LBlock) (k : Nat) : ∀ b ∈ (fitFl raw k).blocks, b.ins.length ≤ 6 := fun b hb => by
  obtain ⟨y, _, rfl⟩ := List.mem_map.1 hb
  simp [fitBlock]
  omega
end Go.Proofs.YtnpnhdmfdhnmfaaGreatDoor
