/- What the small functions of chapter 11's statements do: pick; Same and begins, where they tell true. Rows of a block that is known whole read as lists: what a literal lays. Chapter 11's example: awake of its statements is true. -/
import Derived.Test.YtknccacfhknnaaaGreatRunRun
import Derived.Deep.QuietTactic
import Derived.BigQuiet
namespace Go.Proofs.YtknccacfhknnaaaGreat
open Go.RowKit

set_option maxHeartbeats 1000000 in
theorem same_true (s c p : Int) (l : List Int) (va vb : Value) (w : World) (ha : SlR w (· < w.heap.size) 1 RInt va l) (hb : SlR w (· < w.heap.size) 1 RInt vb l) :
    Calls Tryz.prog 11 #[.agg #[.int .i64 s, .int .i64 c, va, .int .i64 p], .agg #[.int .i64 s, .int .i64 c, vb, .int .i64 p]] w fun e w' => e = .returned (.bool true) ∧ Below w.heap.size w w' := by
  obtain ⟨A1, k1, e1, h1, h1'⟩ := ha.val
  obtain ⟨A2, k2, e2, h2, h2'⟩ := hb.val
  subst e1 e2
  have HA := Lib.hid ha
  have HB := Lib.hid hb
  have hlen := Nat.le_trans h1 h1'
  unfold maxLen at hlen
  have b0 : ((l.length : Int) != (l.length : Int)) = false := by simp
  have b1 : (s != s) = false := by simp
  have b2 : (c != c) = false := by simp
  have b3 : (p != p) = false := by simp
  clear ha hb
  go_enter Tryz.func11, Tryz.ntmps11
  go_upto_region 3 with fail
  refine wp_world ?_
  intro W hW
  have hB : Below w.heap.size w W := by rw [← hW]; exact ((Below.refl _ _).alloc (Nat.le_refl _) _).alloc (by simp) _
  have hX : Blk W w.heap.size 32 #[.int .i64 s, .int .i64 c, .slice A1 l.length k1, .int .i64 p] := by rw [← hW]; exact (Blk.new w _ _).alloc _
  have hY : Blk W (w.heap.size + 1) 32 #[.int .i64 s, .int .i64 c, .slice A2 l.length k2, .int .i64 p] := by rw [← hW]; exact Blk.new_at _ _ _ (by simp)
  clear hW
  have x2 : W.cell? ⟨w.heap.size, 2, none⟩ = some (.slice A1 l.length k1) := hX.cell 2
  have y2 : W.cell? ⟨w.heap.size + 1, 2, none⟩ = some (.slice A2 l.length k2) := hY.cell 2
  have HBB := Lib.hid hB
  clear hX hY hB
  go_wp2_with fail
  go_loopw [5] (fun v wr => ∃ i : Nat, i ≤ l.length ∧ v = .int .i64 i ∧ ∃ nq, wr = W.drewN nq) (fun v _ => l.length - (intOf v).toNat)
  case atStart => exact ⟨0, by omega, rfl, 0, rfl⟩
  case round =>
    obtain ⟨i, hi, rfl, nq, rfl⟩ := hrel
    by_cases hlt : i < l.length
    · have d0 : decide ((i : Int) < (l.length : Int)) = true := decide_eq_true (by omega)
      obtain ⟨b3, o3, c3, f3, _, _, hb3, q3⟩ := HA.out.form (by omega)
      obtain ⟨b4, o4, c4, f4, _, _, hb4, q4⟩ := HB.out.form (by omega)
      obtain rfl : A1 = some ⟨b3, o3, none⟩ := by injection f3
      obtain rfl : A2 = some ⟨b4, o4, none⟩ := by injection f4
      obtain ⟨cs3, _, r3, s3⟩ := q3 i hlt
      obtain ⟨cs4, _, r4, s4⟩ := q4 i hlt
      subst r3
      subst r4
      obtain ⟨k, hk⟩ : ∃ k, k = l[i] := ⟨_, rfl⟩
      rw [← hk] at s3 s4
      have s3 := s3.keep (HBB.out.block b3 hb3)
      have s4 := s4.keep (HBB.out.block b4 hb4)
      have i3 : W.cell? ⟨b3, o3 + i, none⟩ = some (.int .i64 k) := by have h := s3.at_ (j := 0) rfl; simpa using h
      have i4 : W.cell? ⟨b4, o4 + i, none⟩ = some (.int .i64 k) := by have h := s4.at_ (j := 0) rfl; simpa using h
      have b5 : (k != k) = false := by simp
      have p2 : (i : Int) < (l.length : Int) := by omega
      clear f3 f4 q3 q4 s3 s4 hk
      go_wp2
      go_quiet (fail)
      go_wp2
      go_roundw
      case rel => exact ⟨i + 1, by omega, by go_num, _, rfl⟩
      case measure => simp [intOf]; omega
    · have d0 : decide ((i : Int) < (l.length : Int)) = false := decide_eq_false (by omega)
      go_wp2
      go_ret
      exact ⟨rfl, below_drewN HBB.out _⟩

end Go.Proofs.YtknccacfhknnaaaGreat

namespace Go.Proofs.YtknccacfhknnaaaGreat
open Go.RowKit

/-- each row stands for its element -/
def AllR {α : Type} (sz : Nat) (R : List Value → α → Prop) : List (List Value) → List α → Prop
  | [], [] => True
  | c :: cs, x :: xs => (c.length = sz ∧ R c x) ∧ AllR sz R cs xs
  | _, _ => False
theorem AllR.at_ {α : Type} {sz : Nat} {R : List Value → α → Prop} : ∀ {css : List (List Value)} {l : List α}, AllR sz R css l → css.length = l.length ∧ ∀ (i : Nat) (h1 : i < css.length) (h2 : i < l.length), css[i].length = sz ∧ R css[i] l[i]
  | [], [], _ => ⟨rfl, fun i h => absurd h (by simp)⟩
  | c :: cs, x :: xs, h => by
    obtain ⟨h1, h2⟩ := AllR.at_ h.2
    refine ⟨by simp [h1], fun i hi hi2 => ?_⟩
    cases i with
    | zero => exact h.1
    | succ i => exact h2 i (by simpa using hi) (by simpa using hi2)
  | [], _ :: _, h => h.elim
  | _ :: _, [], h => h.elim
theorem flat_at {sz : Nat} : ∀ (css : List (List Value)), (∀ cs ∈ css, cs.length = sz) → ∀ (i j : Nat) (hi : i < css.length) (hj : j < (css[i]).length), css.flatten[i * sz + j]? = some (css[i])[j] := by
  intro css
  induction css with
  | nil => intro _ i j hi; simp at hi
  | cons c r ih =>
    intro hall i j hi hj
    have hc : c.length = sz := hall c (by simp)
    rw [List.flatten_cons]
    match i, hi, hj with
    | 0, _, hj =>
      have hj' : j < c.length := hj
      rw [Nat.zero_mul, Nat.zero_add, List.getElem?_append_left hj']
      exact List.getElem?_eq_getElem hj'
    | i + 1, hi, hj =>
      have e1 : (i + 1) * sz + j = c.length + (i * sz + j) := by rw [hc, Nat.succ_mul]; omega
      rw [e1, List.getElem?_append_right (by omega), Nat.add_sub_cancel_left]
      exact ih (fun cs hcs => hall cs (by simp [hcs])) i j (by simpa using hi) hj
theorem SlR.lit {α : Type} {W : World} {ok : Nat → Prop} {g : Nat} {t : TypeId} {cs : Array Value} {sz : Nat} {R : List Value → α → Prop} {l : List α} (css : List (List Value)) {n : Nat} (h : Blk W g t cs) (hcs : cs = css.flatten.toArray) (ha : AllR sz R css l) (hn : n = l.length) (hok : ok g) (hl : n ≤ 1000) :
    SlR W ok sz R (.slice (some ⟨g, 0, none⟩) n n) l := by
  obtain ⟨h1, h2⟩ := ha.at_
  subst hn hcs
  refine ⟨_, _, rfl, Nat.le_refl _, by unfold maxLen; omega, .inr ⟨g, 0, rfl, hok, fun i hi => ?_⟩⟩
  have hi' : i < css.length := by omega
  obtain ⟨h3, h4⟩ := h2 i hi' hi
  refine ⟨css[i], h3, h4, fun j hj => ?_⟩
  have hall : ∀ cs ∈ css, cs.length = sz := fun c hc => by
    obtain ⟨q, hq, rfl⟩ := List.getElem_of_mem hc
    exact (h2 q hq (by omega)).1
  rw [Nat.zero_add, h.cell, List.getElem?_toArray]
  exact flat_at css hall i j hi' hj
theorem SlR.ints {W : World} {ok : Nat → Prop} {g : Nat} {t : TypeId} {cs : Array Value} (l : List Int) {n : Nat} (h : Blk W g t cs) (hcs : cs = (l.map (Value.int .i64)).toArray) (hn : n = l.length) (hok : ok g) (hl : n ≤ 1000) : SlR W ok 1 RInt (.slice (some ⟨g, 0, none⟩) n n) l := by
  have ha : ∀ l : List Int, AllR 1 RInt (l.map fun x => [Value.int .i64 x]) l := by
    intro l
    induction l with
    | nil => trivial
    | cons a r ih => exact ⟨⟨rfl, rfl⟩, ih⟩
  refine SlR.lit (l.map fun x => [Value.int .i64 x]) h ?_ (ha l) hn hok hl
  rw [hcs]
  congr 1
  have h2 := flatten_single (l.map (Value.int .i64))
  rw [List.map_map] at h2
  exact h2.symm
end Go.Proofs.YtknccacfhknnaaaGreat

namespace Go.Proofs.YtknccacfhknnaaaGreat
open Go.RowKit

def aw11 : LUnit := ⟨[], [⟨⟨#[109, 97, 105, 110]⟩, 0, 1, [⟨[⟨7, 0, 0, 0, 0, 0, ⟨#[]⟩, []⟩, ⟨8, 0, 0, 0, 0, 0, ⟨#[]⟩, []⟩], ⟨3, 0, 0, 0⟩⟩]⟩]⟩
theorem aw11_ok : UnitOk aw11 where
  sizes := fun a ha => by cases ha
  arrs := by decide
  fls := by decide
  good := fun s hs => by
    have h : s = (⟨#[109, 97, 105, 110]⟩ : ByteArray) := by simpa [allNames, aw11] using hs
    exact .inl h
  nodup := by simp [allNames, aw11]
  main := ⟨0, by decide, by decide, by decide⟩
  nums := fun f hf => by
    obtain rfl : f = _ := List.mem_singleton.1 hf
    decide
  lens := fun f hf b hb => by
    obtain rfl : f = _ := List.mem_singleton.1 hf
    obtain rfl : b = _ := List.mem_singleton.1 hb
    decide
  blocks := fun f hf => by
    obtain rfl : f = _ := List.mem_singleton.1 hf
    decide
theorem aw11_run1 : (runU aw11 [6] 99).status = 1 ∧ (runU aw11 [6] 99).code = 6 ∧ (runU aw11 [6] 99).steps = 3 ∧ (runU aw11 [6] 99).out = [6] := by
  refine ⟨?_, ?_, ?_, ?_⟩ <;> decide
theorem aw11_run2 : (runU aw11 [] 1).status = 0 ∧ (runU aw11 [] 1).code = 0 ∧ (runU aw11 [] 1).steps = 1 ∧ (runU aw11 [] 1).out = [] := by
  refine ⟨?_, ?_, ?_, ?_⟩ <;> decide

def awRow (a : Nat) : List (List Value) := [[.slice (some ⟨a, 0, none⟩) 2 2, .int .i64 3, .int .i64 0, .int .i64 0, .int .i64 0]]
structure Aw11 (W : World) (a : Nat) : Prop where
  h0 : Blk W a 44 #[.int .i64 7, .int .i64 0, .int .i64 0, .int .i64 0, .int .i64 0, .int .i64 0, .string ⟨#[]⟩, .slice none 0 0, .int .i64 8, .int .i64 0, .int .i64 0, .int .i64 0, .int .i64 0, .int .i64 0, .string ⟨#[]⟩, .slice none 0 0]
  h1 : Blk W (a + 1) 48 #[.slice (some ⟨a, 0, none⟩) 2 2, .int .i64 3, .int .i64 0, .int .i64 0, .int .i64 0]
  h2 : Blk W (a + 1 + 1) 35 #[.string ⟨#[109, 97, 105, 110]⟩, .int .i64 0, .int .i64 1, .slice (some ⟨a + 1, 0, none⟩) 1 1]
theorem Aw11.below {W W' : World} {a : Nat} (h : Aw11 W a) (hb : Below W.heap.size W W') : Aw11 W' a := ⟨h.h0.below hb h.h0.lt, h.h1.below hb h.h1.lt, h.h2.below hb h.h2.lt⟩
theorem Aw11.flows {W : World} {a : Nat} (h : Aw11 W a) : SlR W (· < W.heap.size) 4 (RFlow W (· < W.heap.size)) (.slice (some ⟨a + 1 + 1, 0, none⟩) 1 1) aw11.flows := by
  refine SlR.lit [[.string ⟨#[109, 97, 105, 110]⟩, .int .i64 0, .int .i64 1, .slice (some ⟨a + 1, 0, none⟩) 1 1]] h.h2 rfl ⟨⟨rfl, ⟨_, rfl, ?_⟩⟩, trivial⟩ rfl h.h2.lt (by omega)
  refine SlR.lit [[.slice (some ⟨a, 0, none⟩) 2 2, .int .i64 3, .int .i64 0, .int .i64 0, .int .i64 0]] h.h1 rfl ⟨⟨rfl, ⟨_, rfl, ?_⟩⟩, trivial⟩ rfl h.h1.lt (by omega)
  exact SlR.lit [[.int .i64 7, .int .i64 0, .int .i64 0, .int .i64 0, .int .i64 0, .int .i64 0, .string ⟨#[]⟩, .slice none 0 0], [.int .i64 8, .int .i64 0, .int .i64 0, .int .i64 0, .int .i64 0, .int .i64 0, .string ⟨#[]⟩, .slice none 0 0]] h.h0 rfl ⟨⟨rfl, ⟨_, rfl, SlR.nil_ _ _ _ _⟩⟩, ⟨rfl, ⟨_, rfl, SlR.nil_ _ _ _ _⟩⟩, trivial⟩ rfl h.h0.lt (by omega)
theorem Aw11.run {W : World} {a : Nat} (h : Aw11 W a) (inp : List Int) (n : Nat) (hn : n ≤ 20000) (vin : Value) (hin : SlR W (· < W.heap.size) 1 RInt vin inp) :
    Calls Tryz.prog 9 #[.agg #[.slice none 0 0, .slice (some ⟨a + 1 + 1, 0, none⟩) 1 1], vin, .int .i64 (n : Int)] W fun e w' => ∃ vout, e = .returned (.agg #[.int .i64 (runU aw11 inp n).status, .int .i64 (runU aw11 inp n).code, vout, .int .i64 (runU aw11 inp n).steps]) ∧ Below W.heap.size W w' ∧ w'.ownsRow W.heap.size 3 1 vout (runU aw11 inp n).out.length ((runU aw11 inp n).out.map (Value.int .i64)) :=
  run_any aw11 aw11_ok inp n hn none (some ⟨a + 1 + 1, 0, none⟩) 0 1 vin W (SlR.nil_ _ _ _ _) h.flows hin
theorem slr_of_own {w : World} {base : Nat} {v : Value} {n : Nat} {l : List Int} (h : w.ownsRow base 3 1 v n (l.map (Value.int .i64))) : SlR w (· < w.heap.size) 1 RInt v l := ints_of_own h (fun g e => (h.lt g e).2)
theorem aw_run1 {W : World} {a : Nat} (h : Aw11 W a) (vin : Value) (hin : SlR W (· < W.heap.size) 1 RInt vin [6]) :
    Calls Tryz.prog 9 #[.agg #[.slice none 0 0, .slice (some ⟨a + 1 + 1, 0, none⟩) 1 1], vin, .int .i64 99] W fun e w' => ∃ A c, e = .returned (.agg #[.int .i64 1, .int .i64 6, .slice A 1 c, .int .i64 3]) ∧ Below W.heap.size W w' ∧ SlR w' (· < w'.heap.size) 1 RInt (.slice A 1 c) [6] := by
  have hr := h.run [6] 99 (by omega) vin hin
  obtain ⟨e1, e2, e3, e4⟩ := aw11_run1
  rw [e1, e2, e3, e4] at hr
  refine hr.mono fun e w' ⟨vout, he, hb, ho⟩ => ?_
  obtain ⟨A, c, hv⟩ := own_form ho
  subst hv
  exact ⟨A, c, he, hb, slr_of_own ho⟩
theorem aw_run2 {W : World} {a : Nat} (h : Aw11 W a) :
    Calls Tryz.prog 9 #[.agg #[.slice none 0 0, .slice (some ⟨a + 1 + 1, 0, none⟩) 1 1], .slice none 0 0, .int .i64 1] W fun e w' => ∃ A c, e = .returned (.agg #[.int .i64 0, .int .i64 0, .slice A 0 c, .int .i64 1]) ∧ Below W.heap.size W w' ∧ c ≤ maxLen := by
  have hr := h.run [] 1 (by omega) (.slice none 0 0) (SlR.nil_ _ _ _ _)
  obtain ⟨e1, e2, e3, e4⟩ := aw11_run2
  rw [e1, e2, e3, e4] at hr
  refine hr.mono fun e w' ⟨vout, he, hb, ho⟩ => ?_
  obtain ⟨A, c, hv⟩ := own_form ho
  subst hv
  obtain ⟨_, _, hv, _, hc⟩ := (slr_of_own ho).val
  injection hv with _ _ hcc
  subst hcc
  exact ⟨A, c, he, hb, hc⟩
theorem slr_none {W : World} {A : Option Addr} {c : Nat} (hc : c ≤ maxLen) : SlR W (· < W.heap.size) 1 RInt (.slice A 0 c) [] := ⟨A, c, rfl, Nat.zero_le _, hc, .inl rfl⟩
theorem aw_same2 (A : Option Addr) (c : Nat) (hc : c ≤ maxLen) (W : World) : Calls Tryz.prog 11 #[.agg #[.int .i64 0, .int .i64 0, .slice A 0 c, .int .i64 1], .agg #[.int .i64 0, .int .i64 0, .slice none 0 0, .int .i64 1]] W fun e w' => e = .returned (.bool true) ∧ Below W.heap.size W w' :=
  same_true 0 0 1 [] _ _ W (slr_none hc) (SlR.nil_ _ _ _ _)
set_option maxHeartbeats 2000000 in
theorem awake11_any (w : World) : Calls Tryz.prog 6 #[] w fun e w' => e = .returned (.bool true) ∧ Below w.heap.size w w' := by
  go_enter Tryz.func6, Tryz.ntmps6
  go_upto_region 2 with fail
  refine wp_world ?_
  intro W hW
  have hA : Aw11 W w.heap.size := by
    rw [← hW]
    exact ⟨(((Blk.new w _ _).alloc _).alloc _).alloc _, ((Blk.new_at _ _ _ (by simp)).alloc _).alloc _, (Blk.new_at _ _ _ (by simp)).alloc _⟩
  have hU : Blk W (w.heap.size + 1 + 1 + 1) 28 #[.slice none 0 0, .slice (some ⟨w.heap.size + 1 + 1, 0, none⟩) 1 1] := by rw [← hW]; exact Blk.new_at _ _ _ (by simp)
  have hB : Below w.heap.size w W := by rw [← hW]; exact ((((Below.refl _ _).alloc (Nat.le_refl _) _).alloc (by simp) _).alloc (by simp <;> omega) _).alloc (by simp <;> omega) _
  clear hW
  have u0 : W.cell? ⟨w.heap.size + 1 + 1 + 1, 0, none⟩ = some (.slice none 0 0) := hU.cell 0
  have u1 : W.cell? ⟨w.heap.size + 1 + 1 + 1, 1, none⟩ = some (.slice (some ⟨w.heap.size + 1 + 1, 0, none⟩) 1 1) := hU.cell 1
  have hb1 : Below W.heap.size W (W.alloc (.cells #[.int .i64 6] 3)) := (Below.refl _ _).alloc (Nat.le_refl _) _
  have HR1 := Lib.hid (aw_run1 (hA.below hb1) (.slice (some ⟨W.heap.size, 0, none⟩) 1 1) (SlR.ints [6] (Blk.new W _ _) rfl rfl (by simp) (by omega)))
  have HA := Lib.hid hA
  have HU := Lib.hid hU
  have HB := Lib.hid hB
  have HB1 := Lib.hid hb1
  have hul := hU.lt
  clear hA hU hB hb1
  go_upto_region 3 with (go_at_call 9; refine HR1.out.mono ?_; rintro e w2 ⟨A, c, rfl, hb2, hs2⟩)
  refine wp_world ?_
  intro W3 hW3
  have hbW3 : Below W.heap.size W W3 := by rw [← hW3]; exact (HB1.out.trans (hb2.mono HB1.out.size)).alloc (Nat.le_trans HB1.out.size hb2.size) _
  have hR3 : Blk W3 w2.heap.size 32 #[.int .i64 1, .int .i64 6, .slice A 1 c, .int .i64 3] := by rw [← hW3]; exact Blk.new w2 _ _
  have hS3 : SlR W3 (· < W3.heap.size) 1 RInt (.slice A 1 c) [6] := by rw [← hW3]; exact hs2.imp (fun b hb => by have hb' : b < w2.heap.size := hb; simp; omega) (fun b hb => Below.heap_alloc w2 _ b hb) (fun _ _ _ r => r)
  clear hW3 hs2
  have HR2 := Lib.hid (aw_run2 (HA.out.below hbW3))
  have u30 : W3.cell? ⟨w.heap.size + 1 + 1 + 1, 0, none⟩ = some (.slice none 0 0) := (HU.out.below hbW3 hul).cell 0
  have u31 : W3.cell? ⟨w.heap.size + 1 + 1 + 1, 1, none⟩ = some (.slice (some ⟨w.heap.size + 1 + 1, 0, none⟩) 1 1) := (HU.out.below hbW3 hul).cell 1
  have HB3 := Lib.hid hbW3
  have HR3 := Lib.hid hR3
  have HS3 := Lib.hid hS3
  have hrl3 := hR3.lt
  clear u0 u1 hbW3 hR3 hS3
  go_upto_region 4 with (go_at_call 9; refine HR2.out.mono ?_; rintro e w4 ⟨A2, d, rfl, hb4, hd⟩)
  refine wp_world ?_
  intro W5 hW5
  have hbW5 : Below W3.heap.size W3 W5 := by rw [← hW5]; exact hb4.alloc hb4.size _
  have hR5 : Blk W5 w4.heap.size 32 #[.int .i64 0, .int .i64 0, .slice A2 0 d, .int .i64 1] := by rw [← hW5]; exact Blk.new w4 _ _
  clear hW5
  have r0 : W5.cell? ⟨w2.heap.size, 0, none⟩ = some (.int .i64 1) := (HR3.out.below hbW5 hrl3).cell 0
  have r1 : W5.cell? ⟨w2.heap.size, 1, none⟩ = some (.int .i64 6) := (HR3.out.below hbW5 hrl3).cell 1
  have r2 : W5.cell? ⟨w2.heap.size, 2, none⟩ = some (.slice A 1 c) := (HR3.out.below hbW5 hrl3).cell 2
  have r3 : W5.cell? ⟨w2.heap.size, 3, none⟩ = some (.int .i64 3) := (HR3.out.below hbW5 hrl3).cell 3
  have hb6 : Below W5.heap.size W5 (W5.alloc (.cells #[.int .i64 6] 3)) := (Below.refl _ _).alloc (Nat.le_refl _) _
  have hS6 : SlR (W5.alloc (.cells #[.int .i64 6] 3)) (· < (W5.alloc (.cells #[.int .i64 6] 3)).heap.size) 1 RInt (.slice A 1 c) [6] :=
    HS3.out.imp (fun b hb => by have hb' : b < W3.heap.size := hb; have := hbW5.size; simp; omega) (fun b hb => (hb6.block b (Nat.lt_of_lt_of_le hb hbW5.size)).trans (hbW5.block b hb)) (fun _ _ _ r => r)
  have HS1 := Lib.hid (same_true 1 6 3 [6] (.slice A 1 c) (.slice (some ⟨W5.heap.size, 0, none⟩) 1 1) _ hS6 (SlR.ints [6] (Blk.new W5 _ _) rfl rfl (by simp) (by omega)))
  have HS2 := Lib.hid (aw_same2 A2 d hd)
  have hr5l := hR5.lt
  have HR5 := Lib.hid hR5
  have HB5 := Lib.hid hbW5
  have HB6 := Lib.hid hb6
  have tok : True := trivial
  clear hS6 hb6 hR5 hbW5
  have HM := Lib.hid (fun (w7 : World) (hb7 : Below (W5.alloc (.cells #[.int .i64 6] 3)).heap.size (W5.alloc (.cells #[.int .i64 6] 3)) w7) => ((HR5.out.below HB6.out hr5l).below hb7 (by simp; omega)))
  go_wp2_with (first
    | (go_at_call 11; have _t := tok; refine HS1.out.mono ?_; rintro e w7 ⟨rfl, hb7⟩; clear tok; have q0 : w7.cell? ⟨w4.heap.size, 0, none⟩ = some (.int .i64 0) := (HM.out w7 hb7).cell 0; have q1 : w7.cell? ⟨w4.heap.size, 1, none⟩ = some (.int .i64 0) := (HM.out w7 hb7).cell 1; have q2 : w7.cell? ⟨w4.heap.size, 2, none⟩ = some (.slice A2 0 d) := (HM.out w7 hb7).cell 2; have q3 : w7.cell? ⟨w4.heap.size, 3, none⟩ = some (.int .i64 1) := (HM.out w7 hb7).cell 3)
    | (go_at_call 11; refine (HS2.out _).mono ?_; rintro e w8 ⟨rfl, hb8⟩))
  go_ret
  have h5 : Below w.heap.size w W5 := (HB.out.trans (HB3.out.mono HB.out.size)).trans (HB5.out.mono (Nat.le_trans HB.out.size HB3.out.size))
  have h6 := h5.trans (HB6.out.mono h5.size)
  have h7 := h6.trans (hb7.mono h6.size)
  exact ⟨rfl, h7.trans (hb8.mono h7.size)⟩
end Go.Proofs.YtknccacfhknnaaaGreat
