/- slices.DeleteFunc at instructions and the closure of dead.sweep: what the closure lets stay. -/
import Derived.Test.YtkpigkopjfkepaaGreatDoorPrDeadSmall
import Derived.Test.YtkpigkopjfkepaaGreatDoorPrClones
import Derived.Lib.SliceRun
namespace Go.Proofs.YtkpigkopjfkepaaGreatDoor
open Go.RowKit
def keepN {α : Type} (q : Nat → Bool) : Nat → List α → List α
 | _, [] => []
 | i, x :: r => if q i = true then keepN q (i + 1) r else x :: keepN q (i + 1) r
theorem keepN_cons {α : Type} (q : Nat → Bool) (x : α) (l : List α) (i : Nat) : keepN q i (x :: l) = if q i = true then keepN q (i + 1) l else x :: keepN q (i + 1) l := rfl
theorem keepN_app {α : Type} (q : Nat → Bool) : ∀ (l m : List α) (i : Nat), keepN q i (l ++ m) = keepN q i l ++ keepN q (i + l.length) m
 | [], m, i => rfl
 | x :: l, m, i => by
  have e : i + (l.length + 1) = i + 1 + l.length := by omega
  rw [List.cons_append, keepN_cons, keepN_cons, keepN_app q l m (i + 1), List.length_cons, e]
  split <;> rfl
theorem keepN_succ {α : Type} {q : Nat → Bool} {l : List α} {j : Nat} (h : j < l.length) : keepN q 0 (l.take (j + 1)) = keepN q 0 (l.take j) ++ (if q j = true then [] else [l[j]]) := by
 rw [List.take_succ_eq_append_getElem h, keepN_app, List.length_take, Nat.min_eq_left (by omega), Nat.zero_add]
 rfl
theorem keepN_len {α β : Type} (q : Nat → Bool) : ∀ (l : List α) (m : List β) (i : Nat), l.length = m.length → (keepN q i l).length = (keepN q i m).length
 | [], [], _, _ => rfl
 | [], _ :: _, _, h => by simp at h
 | _ :: _, [], _, h => by simp at h
 | x :: l, y :: m, i, h => by
  have ih := keepN_len q l m (i + 1) (by simpa using h)
  unfold keepN
  split
  ·exact ih
  ·simp only [List.length_cons]; omega
theorem keepN_mem {α : Type} {q : Nat → Bool} : ∀ {l : List α} {i : Nat} {x : α}, x ∈ keepN q i l → x ∈ l
 | [], i, x, h => by simp [keepN] at h
 | y :: l, i, x, h => by
  unfold keepN at h
  split at h
  ·exact List.mem_cons_of_mem _ (keepN_mem h)
  ·rcases List.mem_cons.1 h with rfl | h
   ·exact List.mem_cons_self
   ·exact List.mem_cons_of_mem _ (keepN_mem h)
theorem keepN_all {α : Type} {q : Nat → Bool} : ∀ (l : List α) (i : Nat), (∀ j, j < l.length → q (i + j) = false) → keepN q i l = l
 | [], _, _ => rfl
 | x :: l, i, h => by
  have h0 := h 0 (by simp)
  unfold keepN
  rw [if_neg (by rw [show i = i + 0 from rfl, h0]; decide), keepN_all l (i + 1) fun j hj => by have := h (j + 1) (by simpa using hj); rw [show i + 1 + j = i + (j + 1) by omega]; exact this]
theorem keepN_pair {α β : Type} {q : Nat → Bool} {R : α → β → Prop} : ∀ {l : List α} {m : List β} {i : Nat}, l.length = m.length → (∀ j (h1 : j < l.length) (h2 : j < m.length), R l[j] m[j]) → ∀ j (h1 : j < (keepN q i l).length) (h2 : j < (keepN q i m).length), R (keepN q i l)[j] (keepN q i m)[j]
 | [], [], i, _, _, j, h1, _ => by simp [keepN] at h1
 | [], _ :: _, _, h, _, _, _, _ => by simp at h
 | _ :: _, [], _, h, _, _, _, _ => by simp at h
 | x :: l, y :: m, i, hl, h, j, h1, h2 => by
  have h0 : R x y := h 0 (by simp) (by simp)
  have hr : ∀ j (h1 : j < l.length) (h2 : j < m.length), R l[j] m[j] := fun j a b => by have := h (j + 1) (by simpa using a) (by simpa using b); simpa using this
  have ih := keepN_pair (q := q) (i := i + 1) (by simpa using hl) hr
  by_cases hq : q i = true
  ·have e1 : keepN q i (x :: l) = keepN q (i + 1) l := by show (if q i = true then _ else _) = _; rw [if_pos hq]
   have e2 : keepN q i (y :: m) = keepN q (i + 1) m := by show (if q i = true then _ else _) = _; rw [if_pos hq]
   have := ih j (by rw [← e1]; exact h1) (by rw [← e2]; exact h2)
   simpa only [e1, e2] using this
  ·have e1 : keepN q i (x :: l) = x :: keepN q (i + 1) l := by show (if q i = true then _ else _) = _; rw [if_neg hq]
   have e2 : keepN q i (y :: m) = y :: keepN q (i + 1) m := by show (if q i = true then _ else _) = _; rw [if_neg hq]
   cases j with
   | zero => simpa only [e1, e2, List.getElem_cons_zero] using h0
   | succ j =>
    have := ih j (by rw [e1] at h1; simpa using h1) (by rw [e2] at h2; simpa using h2)
    simpa only [e1, e2, List.getElem_cons_succ] using this
section
variable {w : World} {base g cap n m sz : Nat} {T : TypeId} {xs : List Value}
theorem own_shrink (h : w.ownsRow base T sz (.slice (some ⟨g, 0, none⟩) n cap) n xs) (hm : m ≤ n) : w.ownsRow base T sz (.slice (some ⟨g, 0, none⟩) m cap) m (xs.take (m * sz)) := by
 have hle : m * sz ≤ n * sz := Nat.mul_le_mul_right _ hm
 refine ⟨by rw [List.length_take, h.1]; omega, ?_⟩
 rcases h.2 with ⟨h', _⟩ | ⟨g', cap', cur, h', hb, hg, hnc, hcm, hcs, htake⟩
 ·simp at h'
 ·simp only [Value.slice.injEq, Option.some.injEq, Addr.mk.injEq, and_true, true_and] at h'
  obtain ⟨rfl, rfl⟩ := h'
  refine .inr ⟨g, cap, cur, rfl, hb, hg, by omega, hcm, hcs, ?_⟩
  rw [← htake, List.take_take, Nat.min_eq_left hle]
theorem own_past : ∀ (vs : List Value) (o : Nat), m * sz ≤ o → ∀ w : World, w.ownsRow base T sz (.slice (some ⟨g, 0, none⟩) m cap) m xs → (w.setCells g o vs).ownsRow base T sz (.slice (some ⟨g, 0, none⟩) m cap) m xs
 | [], _, _, _, h => h
 | v :: vs, o, ho, w, h => by
  have hl := h.1
  have h1 := (h.stored o v).1
  rw [List.set_eq_of_length_le (by omega)] at h1
  exact own_past vs (o + 1) (by omega) _ h1
end
theorem setCells_below {B b : Nat} {a : World} (hb : B ≤ b) : ∀ (vs : List Value) (o : Nat) (w : World), Below B a w → Below B a (w.setCells b o vs)
 | [], _, _, h => h
 | v :: r, o, _, h => setCells_below hb r (o + 1) _ (h.setCell (by exact hb) v)
theorem run_clear_cells {P : Program} (w : World) (t e ty : TypeId) (z : Value) (ht : P.underlying t = some (.slice e)) (hv : ∀ w, (zeroValue e).run P w = .ok z w) (b o n c : Nat) (hn : 0 < n)
  (h1 : ∀ v ∈ (Builtin.zeroCells z.cells n).toList, v.oneCell' = true)
  (hc : ∀ j, j < (Builtin.zeroCells z.cells n).toList.length → (w.cell? ⟨b, o + j, none⟩).isSome = true) (hf : ∀ j, j < (Builtin.zeroCells z.cells n).toList.length → w.frozen? ⟨b, o + j, none⟩ = false) :
  (Builtin.clear_ #[t] ty #[.slice (some ⟨b, o, none⟩) n c]).run P w = .ok (.tuple #[]) (w.setCells b o (Builtin.zeroCells z.cells n).toList) := by
 have hst := run_storeCells_cells (P := P) b o (Builtin.zeroCells z.cells n).toList 0 w (by simpa using hc) (by simpa using hf) h1
 simp only [Nat.add_zero] at hst
 obtain ⟨m, rfl⟩ : ∃ m, n = m + 1 := ⟨n - 1, by omega⟩
 simp [Builtin.clear_, run_underlying ht, hv, hst]
theorem own_put8 {w : World} {base g cap n : Nat} {T : TypeId} {css : List (List Value)} (hrow : w.ownsRow base T 8 (.slice (some ⟨g, 0, none⟩) n cap) n css.flatten) (hall : ∀ cs ∈ css, cs.length = 8) {j : Nat} (hj : j < css.length) (c0 c1 c2 c3 c4 c5 c6 c7 : Value) :
  ((((((((w.setCell ⟨g, j * 8, none⟩ c0).setCell ⟨g, j * 8 + 1, none⟩ c1).setCell ⟨g, j * 8 + 2, none⟩ c2).setCell ⟨g, j * 8 + 3, none⟩ c3).setCell ⟨g, j * 8 + 4, none⟩ c4).setCell ⟨g, j * 8 + 5, none⟩ c5).setCell ⟨g, j * 8 + 6, none⟩ c6).setCell ⟨g, j * 8 + 7, none⟩ c7).ownsRow base T 8 (.slice (some ⟨g, 0, none⟩) n cap) n (css.set j [c0, c1, c2, c3, c4, c5, c6, c7]).flatten := by
 have e1 : ∀ (css : List (List Value)), (∀ cs ∈ css, cs.length = 8) → ∀ j (hj : j < css.length) (cs : List Value), cs.length = 8 → ∀ c ∈ css.set j cs, c.length = 8 := by
  intro css hall j hj cs hcs c hc
  rcases List.mem_or_eq_of_mem_set hc with hc | hc
  ·exact hall c hc
  ·rw [hc]; exact hcs
 have hl : css[j].length = 8 := hall _ (List.getElem_mem _)
 obtain ⟨d0, d1, d2, d3, d4, d5, d6, d7, hd⟩ : ∃ d0 d1 d2 d3 d4 d5 d6 d7, css[j] = [d0, d1, d2, d3, d4, d5, d6, d7] := by
  match css[j], hl with
  | [d0, d1, d2, d3, d4, d5, d6, d7], _ => exact ⟨_, _, _, _, _, _, _, _, rfl⟩
 have step : ∀ (w : World) (css : List (List Value)) (hall : ∀ cs ∈ css, cs.length = 8) (hrow : w.ownsRow base T 8 (.slice (some ⟨g, 0, none⟩) n cap) n css.flatten) (hj : j < css.length) (i : Nat) (hi : i < 8) (c : Value),
   (w.setCell ⟨g, j * 8 + i, none⟩ c).ownsRow base T 8 (.slice (some ⟨g, 0, none⟩) n cap) n (css.set j (css[j].set i c)).flatten :=
  fun w css hall hrow hj i hi c => OwnL.put1 hrow hall hj hi c (0 : Nat)
 have s0 := step w css hall hrow hj 0 (by decide) c0
 simp only [hd, List.set_cons_zero, Nat.add_zero] at s0
 have s1 := step _ _ (e1 css hall j hj _ rfl) s0 (by simpa using hj) 1 (by decide) c1
 simp only [List.getElem_set_self, List.set_set, List.set_cons_succ, List.set_cons_zero] at s1
 have s2 := step _ _ (e1 css hall j hj _ rfl) s1 (by simpa using hj) 2 (by decide) c2
 simp only [List.getElem_set_self, List.set_set, List.set_cons_succ, List.set_cons_zero] at s2
 have s3 := step _ _ (e1 css hall j hj _ rfl) s2 (by simpa using hj) 3 (by decide) c3
 simp only [List.getElem_set_self, List.set_set, List.set_cons_succ, List.set_cons_zero] at s3
 have s4 := step _ _ (e1 css hall j hj _ rfl) s3 (by simpa using hj) 4 (by decide) c4
 simp only [List.getElem_set_self, List.set_set, List.set_cons_succ, List.set_cons_zero] at s4
 have s5 := step _ _ (e1 css hall j hj _ rfl) s4 (by simpa using hj) 5 (by decide) c5
 simp only [List.getElem_set_self, List.set_set, List.set_cons_succ, List.set_cons_zero] at s5
 have s6 := step _ _ (e1 css hall j hj _ rfl) s5 (by simpa using hj) 6 (by decide) c6
 simp only [List.getElem_set_self, List.set_set, List.set_cons_succ, List.set_cons_zero] at s6
 have s7 := step _ _ (e1 css hall j hj _ rfl) s6 (by simpa using hj) 7 (by decide) c7
 simp only [List.getElem_set_self, List.set_set, List.set_cons_succ, List.set_cons_zero] at s7
 exact s7
structure DW (w : World) (kb : Nat) (k : Int) (X : World) : Prop where
 below : Below kb w X
 cnt : Blk X kb 3 #[.int .i64 k]
def DelSays (w : World) (kb ab ib : Nat) (q : Nat → Bool) (l : List LIns) : Prop :=
 ∀ (X : World) (k : Nat) (h : k < l.length) (A : Option Addr) (c : Nat), DW w kb ((k : Int) - 1) X →
  Calls Tryz.prog 51 #[.agg #[.int .i64 l[k].kind, .int .i64 l[k].d, .int .i64 l[k].a, .int .i64 l[k].b, .int .i64 l[k].op, .int .i64 l[k].n, .string l[k].name, .slice A l[k].args.length c], .pointer (some ⟨kb, 0, none⟩), .pointer (some ⟨ab, 0, none⟩), .pointer (some ⟨ib, 0, none⟩)] X
   fun e X' => e = .returned (.bool (q k)) ∧ X.grownBy X' (some kb) ∧ Blk X' kb 3 #[.int .i64 (k : Int)]
structure InsRows (l : List LIns) (css : List (List Value)) : Prop where
 len : css.length = l.length
 each : ∀ (i : Nat) (h1 : i < css.length) (h2 : i < l.length), ∃ A c, css[i] = insCells l[i] (.slice A l[i].args.length c)
theorem InsRows.all {l : List LIns} {css : List (List Value)} (h : InsRows l css) : ∀ cs ∈ css, cs.length = 8 := fun cs hc => by
 obtain ⟨i, hi, rfl⟩ := List.getElem_of_mem hc
 obtain ⟨A, c, e⟩ := h.each i hi (by rw [← h.len]; exact hi)
 rw [e]; rfl
theorem InsRows.cells {l : List LIns} {css : List (List Value)} (h : InsRows l css) {w : World} {base g cap : Nat} (hrow : w.ownsRow base 44 8 (.slice (some ⟨g, 0, none⟩) l.length cap) l.length css.flatten) {k : Nat} (hk : k < l.length) :
  ∃ A c, css[k]'(by rw [h.len]; exact hk) = insCells l[k] (.slice A l[k].args.length c) ∧ w.cell? ⟨g, k * 8, none⟩ = some (.int .i64 l[k].kind) ∧ w.cell? ⟨g, k * 8 + 1, none⟩ = some (.int .i64 l[k].d) ∧ w.cell? ⟨g, k * 8 + 2, none⟩ = some (.int .i64 l[k].a) ∧ w.cell? ⟨g, k * 8 + 3, none⟩ = some (.int .i64 l[k].b) ∧ w.cell? ⟨g, k * 8 + 4, none⟩ = some (.int .i64 l[k].op) ∧ w.cell? ⟨g, k * 8 + 5, none⟩ = some (.int .i64 l[k].n) ∧ w.cell? ⟨g, k * 8 + 6, none⟩ = some (.string l[k].name) ∧ w.cell? ⟨g, k * 8 + 7, none⟩ = some (.slice A l[k].args.length c) := by
 have hk' : k < css.length := by rw [h.len]; exact hk
 obtain ⟨A, c, e⟩ := h.each k hk' hk
 have at_ : ∀ j (hj : j < 8), w.cell? ⟨g, k * 8 + j, none⟩ = some ((insCells l[k] (.slice A l[k].args.length c))[j]'hj) := fun j hj => by
  rw [hrow.cellAt (k * 8 + j) (by omega)]
  rw [flatten_get css h.all k j hk' (by rw [e]; exact hj)]
  simp only [e]; rfl
 exact ⟨A, c, e, at_ 0 (by decide), at_ 1 (by decide), at_ 2 (by decide), at_ 3 (by decide), at_ 4 (by decide), at_ 5 (by decide), at_ 6 (by decide), at_ 7 (by decide)⟩
def Hit (q : Nat → Bool) (n : Nat) (r k : Int) : Prop := (r = -1 ∧ k = (n : Int) - 1 ∧ ∀ j, j < n → q j = false) ∨ ∃ j : Nat, j < n ∧ r = j ∧ k = j ∧ q j = true ∧ ∀ i, i < j → q i = false
set_option maxHeartbeats 2000000 in
theorem idx_del (kb ab ib : Nat) (q : Nat → Bool) (l : List LIns) (css : List (List Value)) (A : Option Addr) (cap : Nat) (w : World) (hl : l.length ≤ 1000) (hin : InsRows l css)
  (hrow : w.ownsRow (kb + 1) 44 8 (.slice A l.length cap) l.length css.flatten) (hk : Blk w kb 3 #[.int .i64 (-1)]) (hP : DelSays w kb ab ib q l) :
  Calls Tryz.prog 85 #[.slice A l.length cap, .func (.func 51) #[] #[.pointer (some ⟨kb, 0, none⟩), .pointer (some ⟨ab, 0, none⟩), .pointer (some ⟨ib, 0, none⟩)]] w fun e w' => ∃ r k, e = .returned (.int .i64 r) ∧ Hit q l.length r k ∧ w.grownBy w' (some kb) ∧ Blk w' kb 3 #[.int .i64 k] := by
 have HIN := Lib.hid hin
 have HROW := Lib.hid hrow
 have HP := Lib.hid hP
 have HK := Lib.hid hk
 have hkb : kb < w.heap.size := hk.lt
 clear hin hrow hP hk
 go_enter Tryz.func85, Tryz.ntmps85
 go_wp2
 go_loopw [5, 8] (fun _ i wr => ∃ k : Nat, k ≤ l.length ∧ i = .int .i64 k ∧ (∀ j, j < k → q j = false) ∧ w.grownBy wr (some kb) ∧ Blk wr kb 3 #[.int .i64 ((k : Int) - 1)]) (fun _ i _ => l.length - (intOf i).toNat)
 case atStart => exact ⟨0, by omega, rfl, fun j h => by omega, ⟨rfl, rfl, rfl, Nat.le_refl _, fun _ _ _ => rfl⟩, HK.out⟩
 case round =>
  obtain ⟨k, hk, rfl, hno, hg, hc⟩ := hrel
  have HNO := Lib.hid hno
  have HG := Lib.hid hg
  have HC := Lib.hid hc
  clear hno
  by_cases hlt : k < l.length
  ·have d1 : decide ((k : Int) < (l.length : Int)) = true := decide_eq_true (by omega)
   obtain ⟨g, hA⟩ : ∃ g, A = some ⟨g, 0, none⟩ := by
    rcases HROW.out.2 with ⟨_, h0⟩ | ⟨g, cap', cur, h, _⟩
    ·omega
    ·injection h with h1; exact ⟨g, h1⟩
   subst hA
   have hne : g ≠ kb := by have := (HROW.out.lt g rfl).1; omega
   have hrw := HROW.out.kept hg (.inr (by simpa [Value.ownBlock] using hne))
   obtain ⟨A9, c9, hcs, i0, i1, i2, i3, i4, i5, i6, i7⟩ := HIN.out.cells hrw hlt
   have HS := HP.out wr k hlt A9 c9 ⟨(Below.refl kb w).grown hg (by omega) (fun b e => by injection e with e; omega), hc⟩
   obtain ⟨x, hx⟩ : ∃ x, x = l[k] := ⟨_, rfl⟩
   rw [← hx] at HS i0 i1 i2 i3 i4 i5 i6 i7
   clear hrw hcs hx hc hg
   cases hq : q k with
   | true =>
    rw [hq] at HS
    have HQ := Lib.hid hq
    clear hq
    go_wp2_with (go_at_call 51; refine HS.mono ?_; rintro e w' ⟨rfl, hg', hc'⟩)
    go_ret
    exact ⟨_, _, rfl, .inr ⟨k, hlt, rfl, rfl, HQ.out, HNO.out⟩, ⟨hg'.os.trans HG.out.os, hg'.tape.trans HG.out.tape, hg'.output.trans HG.out.output, Nat.le_trans HG.out.size hg'.size, fun b hb hne => (hg'.block b (Nat.lt_of_lt_of_le hb HG.out.size) hne).trans (HG.out.block b hb hne)⟩, hc'⟩
   | false =>
    rw [hq] at HS
    have HQ := Lib.hid hq
    clear hq
    go_wp2_with (go_at_call 51; refine HS.mono ?_; rintro e w' ⟨rfl, hg', hc'⟩)
    go_roundw
    case rel =>
     refine ⟨k + 1, by omega, by go_num, fun j hj => ?_, ⟨hg'.os.trans HG.out.os, hg'.tape.trans HG.out.tape, hg'.output.trans HG.out.output, Nat.le_trans HG.out.size hg'.size, fun b hb hne => (hg'.block b (Nat.lt_of_lt_of_le hb HG.out.size) hne).trans (HG.out.block b hb hne)⟩, ?_⟩
     ·by_cases e : j = k
      ·subst e; exact HQ.out
      ·exact HNO.out j (by omega)
     ·rw [show ((k + 1 : Nat) : Int) - 1 = (k : Int) by omega]; exact hc'
    case measure => simp [intOf]; omega
  ·have d1 : decide ((k : Int) < (l.length : Int)) = false := decide_eq_false (by omega)
   obtain rfl : k = l.length := by omega
   go_wp2
   go_ret
   exact ⟨_, _, rfl, .inl ⟨rfl, rfl, HNO.out⟩, HG.out, HC.out⟩
end Go.Proofs.YtkpigkopjfkepaaGreatDoor
