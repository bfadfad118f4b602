/- What the small functions of chapter 11's statements do: pick; Same and begins, where they tell true. Rows of a block that is known whole read as lists: what a literal lays. Chapter 11's example: awake of its statements is true. -/
import Derived.Test.YtnpnhdmfdhnmfaaGreatDoorRunRun
import Derived.Deep.QuietTactic
import Derived.BigQuiet
import Derived.Test.YtnpnhdmfdhnmfaaGreatDoorFitMem
namespace Go.Proofs.YtnpnhdmfdhnmfaaGreatDoor
open Go.RowKit

set_option maxHeartbeats 1000000 in
theorem same_true (s c p : Int) (l : List Int) (va vb : Value) (w : World) (ha : SlR w (· < w.heap.size) 1 RInt va l) (hb : SlR w (· < w.heap.size) 1 RInt vb l) :
    Calls Tryz.prog 29 #[.agg #[.int .i64 s, .int .i64 c, va, .int .i64 p], .agg #[.int .i64 s, .int .i64 c, vb, .int .i64 p]] w fun e w' => e = .returned (.bool true) ∧ Below w.heap.size w w' := by
  obtain ⟨A1, k1, e1, h1, h1'⟩ := ha.val
  obtain ⟨A2, k2, e2, h2, h2'⟩ := hb.val
  subst e1 e2
  have HA := Lib.hid ha
  have HB := Lib.hid hb
  have hlen := Nat.le_trans h1 h1'
  unfold maxLen at hlen
  have b0 : ((l.length : Int) != (l.length : Int)) = false := by simp
  have b1 : (s != s) = false := by simp
  have b2 : (c != c) = false := by simp
  have b3 : (p != p) = false := by simp
  clear ha hb
  go_enter Tryz.func29, Tryz.ntmps29
  go_upto_region 3 with fail
  refine wp_world ?_
  intro W hW
  have hB : Below w.heap.size w W := by rw [← hW]; exact ((Below.refl _ _).alloc (Nat.le_refl _) _).alloc (by simp) _
  have hX : Blk W w.heap.size 65 #[.int .i64 s, .int .i64 c, .slice A1 l.length k1, .int .i64 p] := by rw [← hW]; exact (Blk.new w _ _).alloc _
  have hY : Blk W (w.heap.size + 1) 65 #[.int .i64 s, .int .i64 c, .slice A2 l.length k2, .int .i64 p] := by rw [← hW]; exact Blk.new_at _ _ _ (by simp)
  clear hW
  have x2 : W.cell? ⟨w.heap.size, 2, none⟩ = some (.slice A1 l.length k1) := hX.cell 2
  have y2 : W.cell? ⟨w.heap.size + 1, 2, none⟩ = some (.slice A2 l.length k2) := hY.cell 2
  have HBB := Lib.hid hB
  clear hX hY hB
  go_wp2_with fail
  go_loopw [5] (fun v wr => ∃ i : Nat, i ≤ l.length ∧ v = .int .i64 i ∧ ∃ nq, wr = W.drewN nq) (fun v _ => l.length - (intOf v).toNat)
  case atStart => exact ⟨0, by omega, rfl, 0, rfl⟩
  case round =>
    obtain ⟨i, hi, rfl, nq, rfl⟩ := hrel
    by_cases hlt : i < l.length
    · have d0 : decide ((i : Int) < (l.length : Int)) = true := decide_eq_true (by omega)
      obtain ⟨b3, o3, c3, f3, _, _, hb3, q3⟩ := HA.out.form (by omega)
      obtain ⟨b4, o4, c4, f4, _, _, hb4, q4⟩ := HB.out.form (by omega)
      obtain rfl : A1 = some ⟨b3, o3, none⟩ := by injection f3
      obtain rfl : A2 = some ⟨b4, o4, none⟩ := by injection f4
      obtain ⟨cs3, _, r3, s3⟩ := q3 i hlt
      obtain ⟨cs4, _, r4, s4⟩ := q4 i hlt
      subst r3
      subst r4
      obtain ⟨k, hk⟩ : ∃ k, k = l[i] := ⟨_, rfl⟩
      rw [← hk] at s3 s4
      have s3 := s3.keep (HBB.out.block b3 hb3)
      have s4 := s4.keep (HBB.out.block b4 hb4)
      have i3 : W.cell? ⟨b3, o3 + i, none⟩ = some (.int .i64 k) := by have h := s3.at_ (j := 0) rfl; simpa using h
      have i4 : W.cell? ⟨b4, o4 + i, none⟩ = some (.int .i64 k) := by have h := s4.at_ (j := 0) rfl; simpa using h
      have b5 : (k != k) = false := by simp
      have p2 : (i : Int) < (l.length : Int) := by omega
      clear f3 f4 q3 q4 s3 s4 hk
      go_wp2
      go_quiet (fail)
      go_wp2
      go_roundw
      case rel => exact ⟨i + 1, by omega, by go_num, _, rfl⟩
      case measure => simp [intOf]; omega
    · have d0 : decide ((i : Int) < (l.length : Int)) = false := decide_eq_false (by omega)
      go_wp2
      go_ret
      exact ⟨rfl, below_drewN HBB.out _⟩

end Go.Proofs.YtnpnhdmfdhnmfaaGreatDoor

namespace Go.Proofs.YtnpnhdmfdhnmfaaGreatDoor
open Go.RowKit

def aw11 : LUnit := ⟨[], [⟨⟨#[109, 97, 105, 110]⟩, 0, 1, [⟨[⟨7, 0, 0, 0, 0, 0, ⟨#[]⟩, []⟩, ⟨8, 0, 0, 0, 0, 0, ⟨#[]⟩, []⟩], ⟨3, 0, 0, 0⟩⟩]⟩]⟩
theorem aw11_ok : UnitOk aw11 where
  sizes := fun a ha => by cases ha
  arrs := by decide
  fls := by decide
  good := fun s hs => by
    have h : s = (⟨#[109, 97, 105, 110]⟩ : ByteArray) := by simpa [allNames, aw11] using hs
    exact .inl h
  nodup := by simp [allNames, aw11]
  main := ⟨0, by decide, by decide, by decide⟩
  nums := fun f hf => by
    obtain rfl : f = _ := List.mem_singleton.1 hf
    decide
  lens := fun f hf b hb => by
    obtain rfl : f = _ := List.mem_singleton.1 hf
    obtain rfl : b = _ := List.mem_singleton.1 hb
    decide
  blocks := fun f hf => by
    obtain rfl : f = _ := List.mem_singleton.1 hf
    decide
theorem aw11_run1 : (runU aw11 [6] 99).status = 1 ∧ (runU aw11 [6] 99).code = 6 ∧ (runU aw11 [6] 99).steps = 3 ∧ (runU aw11 [6] 99).out = [6] := by
  refine ⟨?_, ?_, ?_, ?_⟩ <;> decide
theorem aw11_run2 : (runU aw11 [] 1).status = 0 ∧ (runU aw11 [] 1).code = 0 ∧ (runU aw11 [] 1).steps = 1 ∧ (runU aw11 [] 1).out = [] := by
  refine ⟨?_, ?_, ?_, ?_⟩ <;> decide

def awRow (a : Nat) : List (List Value) := [[.slice (some ⟨a, 0, none⟩) 2 2, .int .i64 3, .int .i64 0, .int .i64 0, .int .i64 0]]
structure Aw11 (W : World) (a : Nat) : Prop where
  h0 : Blk W a 36 #[.int .i64 7, .int .i64 0, .int .i64 0, .int .i64 0, .int .i64 0, .int .i64 0, .string ⟨#[]⟩, .slice none 0 0, .int .i64 8, .int .i64 0, .int .i64 0, .int .i64 0, .int .i64 0, .int .i64 0, .string ⟨#[]⟩, .slice none 0 0]
  h1 : Blk W (a + 1) 43 #[.slice (some ⟨a, 0, none⟩) 2 2, .int .i64 3, .int .i64 0, .int .i64 0, .int .i64 0]
  h2 : Blk W (a + 1 + 1) 45 #[.string ⟨#[109, 97, 105, 110]⟩, .int .i64 0, .int .i64 1, .slice (some ⟨a + 1, 0, none⟩) 1 1]
theorem Aw11.below {W W' : World} {a : Nat} (h : Aw11 W a) (hb : Below W.heap.size W W') : Aw11 W' a := ⟨h.h0.below hb h.h0.lt, h.h1.below hb h.h1.lt, h.h2.below hb h.h2.lt⟩
theorem Aw11.flows {W : World} {a : Nat} (h : Aw11 W a) : SlR W (· < W.heap.size) 4 (RFlow W (· < W.heap.size)) (.slice (some ⟨a + 1 + 1, 0, none⟩) 1 1) aw11.flows := by
  refine SlR.lit [[.string ⟨#[109, 97, 105, 110]⟩, .int .i64 0, .int .i64 1, .slice (some ⟨a + 1, 0, none⟩) 1 1]] h.h2 rfl ⟨⟨rfl, ⟨_, rfl, ?_⟩⟩, trivial⟩ rfl h.h2.lt (by omega)
  refine SlR.lit [[.slice (some ⟨a, 0, none⟩) 2 2, .int .i64 3, .int .i64 0, .int .i64 0, .int .i64 0]] h.h1 rfl ⟨⟨rfl, ⟨_, rfl, ?_⟩⟩, trivial⟩ rfl h.h1.lt (by omega)
  exact SlR.lit [[.int .i64 7, .int .i64 0, .int .i64 0, .int .i64 0, .int .i64 0, .int .i64 0, .string ⟨#[]⟩, .slice none 0 0], [.int .i64 8, .int .i64 0, .int .i64 0, .int .i64 0, .int .i64 0, .int .i64 0, .string ⟨#[]⟩, .slice none 0 0]] h.h0 rfl ⟨⟨rfl, ⟨_, rfl, SlR.nil_ _ _ _ _⟩⟩, ⟨rfl, ⟨_, rfl, SlR.nil_ _ _ _ _⟩⟩, trivial⟩ rfl h.h0.lt (by omega)
theorem Aw11.run {W : World} {a : Nat} (h : Aw11 W a) (inp : List Int) (n : Nat) (hn : n ≤ 20000) (vin : Value) (hin : SlR W (· < W.heap.size) 1 RInt vin inp) :
    Calls Tryz.prog 30 #[.agg #[.slice none 0 0, .slice (some ⟨a + 1 + 1, 0, none⟩) 1 1], vin, .int .i64 (n : Int)] W fun e w' => ∃ vout, e = .returned (.agg #[.int .i64 (runU aw11 inp n).status, .int .i64 (runU aw11 inp n).code, vout, .int .i64 (runU aw11 inp n).steps]) ∧ Below W.heap.size W w' ∧ w'.ownsRow W.heap.size 3 1 vout (runU aw11 inp n).out.length ((runU aw11 inp n).out.map (Value.int .i64)) :=
  run_any aw11 aw11_ok inp n hn none (some ⟨a + 1 + 1, 0, none⟩) 0 1 vin W (SlR.nil_ _ _ _ _) h.flows hin
theorem slr_of_own {w : World} {base : Nat} {v : Value} {n : Nat} {l : List Int} (h : w.ownsRow base 3 1 v n (l.map (Value.int .i64))) : SlR w (· < w.heap.size) 1 RInt v l := ints_of_own h (fun g e => (h.lt g e).2)
theorem aw_run1 {W : World} {a : Nat} (h : Aw11 W a) (vin : Value) (hin : SlR W (· < W.heap.size) 1 RInt vin [6]) :
    Calls Tryz.prog 30 #[.agg #[.slice none 0 0, .slice (some ⟨a + 1 + 1, 0, none⟩) 1 1], vin, .int .i64 99] W fun e w' => ∃ A c, e = .returned (.agg #[.int .i64 1, .int .i64 6, .slice A 1 c, .int .i64 3]) ∧ Below W.heap.size W w' ∧ SlR w' (· < w'.heap.size) 1 RInt (.slice A 1 c) [6] := by
  have hr := h.run [6] 99 (by omega) vin hin
  obtain ⟨e1, e2, e3, e4⟩ := aw11_run1
  rw [e1, e2, e3, e4] at hr
  refine hr.mono fun e w' ⟨vout, he, hb, ho⟩ => ?_
  obtain ⟨A, c, hv⟩ := own_form ho
  subst hv
  exact ⟨A, c, he, hb, slr_of_own ho⟩
theorem aw_run2 {W : World} {a : Nat} (h : Aw11 W a) :
    Calls Tryz.prog 30 #[.agg #[.slice none 0 0, .slice (some ⟨a + 1 + 1, 0, none⟩) 1 1], .slice none 0 0, .int .i64 1] W fun e w' => ∃ A c, e = .returned (.agg #[.int .i64 0, .int .i64 0, .slice A 0 c, .int .i64 1]) ∧ Below W.heap.size W w' ∧ c ≤ maxLen := by
  have hr := h.run [] 1 (by omega) (.slice none 0 0) (SlR.nil_ _ _ _ _)
  obtain ⟨e1, e2, e3, e4⟩ := aw11_run2
  rw [e1, e2, e3, e4] at hr
  refine hr.mono fun e w' ⟨vout, he, hb, ho⟩ => ?_
  obtain ⟨A, c, hv⟩ := own_form ho
  subst hv
  obtain ⟨_, _, hv, _, hc⟩ := (slr_of_own ho).val
  injection hv with _ _ hcc
  subst hcc
  exact ⟨A, c, he, hb, hc⟩
theorem slr_none {W : World} {A : Option Addr} {c : Nat} (hc : c ≤ maxLen) : SlR W (· < W.heap.size) 1 RInt (.slice A 0 c) [] := ⟨A, c, rfl, Nat.zero_le _, hc, .inl rfl⟩
theorem aw_same2 (A : Option Addr) (c : Nat) (hc : c ≤ maxLen) (W : World) : Calls Tryz.prog 29 #[.agg #[.int .i64 0, .int .i64 0, .slice A 0 c, .int .i64 1], .agg #[.int .i64 0, .int .i64 0, .slice none 0 0, .int .i64 1]] W fun e w' => e = .returned (.bool true) ∧ Below W.heap.size W w' :=
  same_true 0 0 1 [] _ _ W (slr_none hc) (SlR.nil_ _ _ _ _)
end Go.Proofs.YtnpnhdmfdhnmfaaGreatDoor
