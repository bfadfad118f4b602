/- Chapter 11's statement on arrays: what was stored is loaded, at its place and nowhere else; beyond there is none. For all places and numbers. -/
import Derived.Test.YtknccacfhknnaaaArrPlain
namespace Go.Proofs.Ytknccacfhknnaaa
open Go.RowKit

structure ArrW (W : World) (i n k : Int) (p q r s : Nat) : Prop where
  ha : Blk W p 59 #[.string ⟨#[97]⟩, .int .i64 10, .string ⟨#[98]⟩, .int .i64 10]
  h0 : Blk W q 43 #[.int .i64 1, .int .i64 0, .int .i64 0, .int .i64 0, .int .i64 0, .int .i64 i, .string ⟨#[]⟩, .slice none 0 0, .int .i64 1, .int .i64 1, .int .i64 0, .int .i64 0, .int .i64 0, .int .i64 n, .string ⟨#[]⟩, .slice none 0 0, .int .i64 6, .int .i64 0, .int .i64 0, .int .i64 1, .int .i64 0, .int .i64 0, .string ⟨#[97]⟩, .slice none 0 0, .int .i64 1, .int .i64 2, .int .i64 0, .int .i64 0, .int .i64 0, .int .i64 k, .string ⟨#[]⟩, .slice none 0 0, .int .i64 5, .int .i64 3, .int .i64 2, .int .i64 0, .int .i64 0, .int .i64 0, .string ⟨#[97]⟩, .slice none 0 0, .int .i64 5, .int .i64 4, .int .i64 2, .int .i64 0, .int .i64 0, .int .i64 0, .string ⟨#[98]⟩, .slice none 0 0, .int .i64 8, .int .i64 0, .int .i64 3, .int .i64 0, .int .i64 0, .int .i64 0, .string ⟨#[]⟩, .slice none 0 0, .int .i64 8, .int .i64 0, .int .i64 4, .int .i64 0, .int .i64 0, .int .i64 0, .string ⟨#[]⟩, .slice none 0 0]
  h1 : Blk W r 38 #[.slice (some ⟨q, 0, none⟩) 8 8, .int .i64 3, .int .i64 1, .int .i64 0, .int .i64 0]
  h2 : Blk W s 25 #[.string ⟨#[109, 97, 105, 110]⟩, .int .i64 0, .int .i64 5, .slice (some ⟨r, 0, none⟩) 1 1]
theorem ArrW.flows {W : World} {i n k : Int} {p q r s : Nat} (h : ArrW W i n k p q r s) : SlR W (· < W.heap.size) 4 (RFlow W (· < W.heap.size)) (.slice (some ⟨s, 0, none⟩) 1 1) (arrU i n k).flows := by
  refine SlR.lit [[.string ⟨#[109, 97, 105, 110]⟩, .int .i64 0, .int .i64 5, .slice (some ⟨r, 0, none⟩) 1 1]] h.h2 rfl ⟨⟨rfl, ⟨_, rfl, ?_⟩⟩, trivial⟩ rfl h.h2.lt (by omega)
  refine SlR.lit [[.slice (some ⟨q, 0, none⟩) 8 8, .int .i64 3, .int .i64 1, .int .i64 0, .int .i64 0]] h.h1 rfl ⟨⟨rfl, ⟨_, rfl, ?_⟩⟩, trivial⟩ rfl h.h1.lt (by omega)
  exact SlR.lit [[.int .i64 1, .int .i64 0, .int .i64 0, .int .i64 0, .int .i64 0, .int .i64 i, .string ⟨#[]⟩, .slice none 0 0], [.int .i64 1, .int .i64 1, .int .i64 0, .int .i64 0, .int .i64 0, .int .i64 n, .string ⟨#[]⟩, .slice none 0 0], [.int .i64 6, .int .i64 0, .int .i64 0, .int .i64 1, .int .i64 0, .int .i64 0, .string ⟨#[97]⟩, .slice none 0 0], [.int .i64 1, .int .i64 2, .int .i64 0, .int .i64 0, .int .i64 0, .int .i64 k, .string ⟨#[]⟩, .slice none 0 0], [.int .i64 5, .int .i64 3, .int .i64 2, .int .i64 0, .int .i64 0, .int .i64 0, .string ⟨#[97]⟩, .slice none 0 0], [.int .i64 5, .int .i64 4, .int .i64 2, .int .i64 0, .int .i64 0, .int .i64 0, .string ⟨#[98]⟩, .slice none 0 0], [.int .i64 8, .int .i64 0, .int .i64 3, .int .i64 0, .int .i64 0, .int .i64 0, .string ⟨#[]⟩, .slice none 0 0], [.int .i64 8, .int .i64 0, .int .i64 4, .int .i64 0, .int .i64 0, .int .i64 0, .string ⟨#[]⟩, .slice none 0 0]] h.h0 rfl ⟨⟨rfl, ⟨_, rfl, SlR.nil_ _ _ _ _⟩⟩, ⟨rfl, ⟨_, rfl, SlR.nil_ _ _ _ _⟩⟩, ⟨rfl, ⟨_, rfl, SlR.nil_ _ _ _ _⟩⟩, ⟨rfl, ⟨_, rfl, SlR.nil_ _ _ _ _⟩⟩, ⟨rfl, ⟨_, rfl, SlR.nil_ _ _ _ _⟩⟩, ⟨rfl, ⟨_, rfl, SlR.nil_ _ _ _ _⟩⟩, ⟨rfl, ⟨_, rfl, SlR.nil_ _ _ _ _⟩⟩, ⟨rfl, ⟨_, rfl, SlR.nil_ _ _ _ _⟩⟩, trivial⟩ rfl h.h0.lt (by omega)
theorem ArrW.arrays {W : World} {i n k : Int} {p q r s : Nat} (h : ArrW W i n k p q r s) : SlR W (· < W.heap.size) 2 RArr (.slice (some ⟨p, 0, none⟩) 2 2) (arrU i n k).arrays :=
  SlR.lit [[.string ⟨#[97]⟩, .int .i64 10], [.string ⟨#[98]⟩, .int .i64 10]] h.ha rfl ⟨⟨rfl, rfl⟩, ⟨rfl, rfl⟩, trivial⟩ rfl h.ha.lt (by omega)
theorem arr_run_any {W : World} {i n k : Int} {p q r s : Nat} (h : ArrW W i n k p q r s) {st co sp : Int} {out : List Int} {m : Nat} (hm : m = out.length) (hx : ArrX i n k st co sp out) :
    Calls Try.prog 20 #[.agg #[.slice (some ⟨p, 0, none⟩) 2 2, .slice (some ⟨s, 0, none⟩) 1 1], .slice none 0 0, .int .i64 99] W fun e w' => ∃ A c, e = .returned (.agg #[.int .i64 st, .int .i64 co, .slice A m c, .int .i64 sp]) ∧ Below W.heap.size W w' ∧ SlR w' (· < w'.heap.size) 1 RInt (.slice A m c) out := by
  have hr := run_any (arrU i n k) (arr_unit i n k) [] 99 (by omega) (some ⟨p, 0, none⟩) (some ⟨s, 0, none⟩) 2 1 (.slice none 0 0) W h.arrays h.flows (SlR.nil_ _ _ _ _)
  rw [hx.status, hx.code, hx.steps, hx.out] at hr
  subst hm
  refine hr.mono fun e w' ⟨vout, he, hb, hown⟩ => ?_
  obtain ⟨A, c, hv⟩ := own_form hown
  subst hv
  exact ⟨A, c, he, hb, slr_of_own hown⟩
set_option maxRecDepth 100000 in
set_option maxHeartbeats 8000000 in
theorem irrunArrays_walk (at_ other n : Int) (wa : (Lit.int .i64 at_).wf = true) (wo : (Lit.int .i64 other).wf = true) (_wn : (Lit.int .i64 n).wf = true) (w : World) :
    Calls Try.prog 10 #[.int .i64 at_, .int .i64 other, .int .i64 n] w fun e w' => e = .returned (.bool true) ∧ Below w.heap.size w w' := by
  obtain ⟨io, io'⟩ := i64_of_wf wa
  obtain ⟨jo, jo'⟩ := i64_of_wf wo
  have HAW := Lib.hid (awake11_any w)
  have HP1 := Lib.hid (fun w2 => pick11_any at_ 14 io io' (by omega) w2)
  have HP2 := Lib.hid (fun w2 => pick11_any other 10 jo jo' (by omega) w2)
  have p0 := pk_lo at_ 14 (by omega)
  have p1 := pk_hi at_ 14 (by omega)
  have k0 := pk_lo other 10 (by omega)
  have k1 := pk_hi other 10 (by omega)
  generalize pk at_ 14 = j at *
  generalize pk other 10 = k at *
  obtain ⟨i, hij⟩ : ∃ i, i = j - 2 := ⟨_, rfl⟩
  have w1 : IntKind.i64.wrap (j - 2) = i := by rw [hij, IntKind.wrap_i64]; omega
  clear p0 p1 hij
  have tok : True := trivial
  go_enter Try.func10, Try.ntmps10
  go_upto_region 4 with (first | (go_at_call 18; refine HAW.out.mono ?_; rintro e w2 ⟨rfl, hb2⟩) | (go_at_call 19; have _t := tok; refine (HP1.out _).mono ?_; rintro e w3 ⟨rfl, rfl⟩; clear tok) | (go_at_call 19; refine (HP2.out _).mono ?_; rintro e w4 ⟨rfl, rfl⟩))
  refine wp_world ?_
  intro W0 hW0
  have hB0 : Below w.heap.size w W0 := by rw [← hW0]; exact hb2
  have HB0 := Lib.hid hB0
  clear hW0 hb2 hB0
  go_upto_region 5 with fail
  refine wp_world ?_
  intro W hW
  have hO : ArrW W i n k W0.heap.size (W0.heap.size + 1) (W0.heap.size + 1 + 1) (W0.heap.size + 1 + 1 + 1) := by
    rw [← hW]
    exact ⟨((((Blk.new W0 _ _).alloc _).alloc _).alloc _).alloc _, (((Blk.new_at _ _ _ (by simp)).alloc _).alloc _).alloc _, ((Blk.new_at _ _ _ (by simp)).alloc _).alloc _, (Blk.new_at _ _ _ (by simp)).alloc _⟩
  have hU : Blk W (W0.heap.size + 1 + 1 + 1 + 1) 29 #[.slice (some ⟨W0.heap.size, 0, none⟩) 2 2, .slice (some ⟨W0.heap.size + 1 + 1 + 1, 0, none⟩) 1 1] := by rw [← hW]; exact Blk.new_at _ _ _ (by simp)
  have hB : Below w.heap.size w W := by
    have hs := HB0.out.size
    rw [← hW]
    exact ((((HB0.out.alloc hs _).alloc (by simp; omega) _).alloc (by simp; omega) _).alloc (by simp; omega) _).alloc (by simp; omega) _
  clear hW
  have u0 : W.cell? ⟨W0.heap.size + 1 + 1 + 1 + 1, 0, none⟩ = some (.slice (some ⟨W0.heap.size, 0, none⟩) 2 2) := hU.cell 0
  have u1 : W.cell? ⟨W0.heap.size + 1 + 1 + 1 + 1, 1, none⟩ = some (.slice (some ⟨W0.heap.size + 1 + 1 + 1, 0, none⟩) 1 1) := hU.cell 1
  have HB := Lib.hid hB
  have HO := Lib.hid hO
  clear hU hB hO
  by_cases hi : i < 0 ∨ 9 < i
  · have HR := Lib.hid (arr_run_any HO.out (m := 0) rfl (arr_out k0 k1 hi))
    have hdd : (decide (i < 0) = true) ∨ (decide (i < 0) = false ∧ decide (i > 9) = true ∧ decide (9 < i) = true) := by
      by_cases h : i < 0
      · exact .inl (decide_eq_true h)
      · exact .inr ⟨decide_eq_false h, decide_eq_true (by omega), decide_eq_true (by omega)⟩
    clear hi
    go_upto_region 6 with (go_at_call 20; refine HR.out.mono ?_; rintro e w5 ⟨A, c, rfl, hb5, hs5⟩)
    refine wp_world ?_
    intro W6 hW6
    have hB6 : Below w.heap.size w W6 := by
      have h2 := HB.out.trans (hb5.mono HB.out.size)
      rw [← hW6]; exact h2.alloc h2.size _
    have hR6 : Blk W6 w5.heap.size 48 #[.int .i64 3, .int .i64 0, .slice A 0 c, .int .i64 3] := by rw [← hW6]; exact Blk.new w5 _ _
    have hS6 : SlR W6 (· < W6.heap.size) 1 RInt (.slice A 0 c) [] := by rw [← hW6]; exact hs5.imp (fun b hb => by have hb' : b < w5.heap.size := hb; simp; omega) (fun b hb => Below.heap_alloc w5 _ b hb) (fun _ _ _ r => r)
    clear hW6 hs5 u0 u1
    have r0 : W6.cell? ⟨w5.heap.size, 0, none⟩ = some (.int .i64 3) := hR6.cell 0
    have r1 : W6.cell? ⟨w5.heap.size, 1, none⟩ = some (.int .i64 0) := hR6.cell 1
    have r2 : W6.cell? ⟨w5.heap.size, 2, none⟩ = some (.slice A 0 c) := hR6.cell 2
    have r3 : W6.cell? ⟨w5.heap.size, 3, none⟩ = some (.int .i64 3) := hR6.cell 3
    have HS := Lib.hid (same_true 3 0 3 [] (.slice A 0 c) (.slice none 0 0) W6 hS6 (SlR.nil_ _ _ _ _))
    have HB6 := Lib.hid hB6
    clear hR6 hS6 hB6
    rcases hdd with hd | ⟨hd, hd2, hd3⟩
    all_goals
      go_wp2_with (go_at_call 22; refine HS.out.mono ?_; rintro e w8 ⟨rfl, hb8⟩)
      go_ret
      exact ⟨rfl, HB6.out.trans (hb8.mono HB6.out.size)⟩
  · have d0 : decide (i < 0) = false := decide_eq_false (by omega)
    have d1 : decide (i > 9) = false := decide_eq_false (by omega)
    have d2 : decide (9 < i) = false := decide_eq_false (by omega)
    have HR := Lib.hid (arr_run_any HO.out (m := 2) rfl (arr_in (n := n) k0 k1 (by omega : 0 ≤ i) (by omega)))
    obtain ⟨y, hy⟩ : ∃ y, y = if i = k then n else 0 := ⟨_, rfl⟩
    rw [← hy] at HR
    have HY := Lib.hid hy
    clear hi hy
    go_upto_region 6 with (go_at_call 20; refine HR.out.mono ?_; rintro e w5 ⟨A, c, rfl, hb5, hs5⟩)
    refine wp_world ?_
    intro W6 hW6
    have hB6 : Below w.heap.size w W6 := by
      have h2 := HB.out.trans (hb5.mono HB.out.size)
      rw [← hW6]; exact h2.alloc h2.size _
    have hR6 : Blk W6 w5.heap.size 48 #[.int .i64 1, .int .i64 n, .slice A 2 c, .int .i64 9] := by rw [← hW6]; exact Blk.new w5 _ _
    have hS6 : SlR W6 (· < W6.heap.size) 1 RInt (.slice A 2 c) [y, 0] := by rw [← hW6]; exact hs5.imp (fun b hb => by have hb' : b < w5.heap.size := hb; simp; omega) (fun b hb => Below.heap_alloc w5 _ b hb) (fun _ _ _ r => r)
    clear hW6 hs5 u0 u1
    have r0 : W6.cell? ⟨w5.heap.size, 0, none⟩ = some (.int .i64 1) := hR6.cell 0
    have r1 : W6.cell? ⟨w5.heap.size, 1, none⟩ = some (.int .i64 n) := hR6.cell 1
    have r2 : W6.cell? ⟨w5.heap.size, 2, none⟩ = some (.slice A 2 c) := hR6.cell 2
    have r3 : W6.cell? ⟨w5.heap.size, 3, none⟩ = some (.int .i64 9) := hR6.cell 3
    have hb7 : Below W6.heap.size W6 (W6.alloc (.cells #[.int .i64 y, .int .i64 0] 3)) := (Below.refl _ _).alloc (Nat.le_refl _) _
    have HS := Lib.hid (same_true 1 n 9 [y, 0] (.slice A 2 c) (.slice (some ⟨W6.heap.size, 0, none⟩) 2 2) (W6.alloc (.cells #[.int .i64 y, .int .i64 0] 3)) (hS6.imp (fun b hb => by have hb' : b < W6.heap.size := hb; simp; omega) (fun b hb => hb7.block b hb) (fun _ _ _ r => r)) (SlR.ints [y, 0] (Blk.new W6 _ _) rfl rfl (by simp) (by omega)))
    have HB7 := Lib.hid hb7
    have HB6 := Lib.hid hB6
    clear hR6 hS6 hb7 hB6
    by_cases hik : i = k
    · have e0 : (i == k) = true := by simp [hik]
      have ey := HY.out
      rw [if_pos hik] at ey
      subst ey
      have HIK := Lib.hid hik
      clear hik
      go_wp2_with (go_at_call 22; refine HS.out.mono ?_; rintro e w8 ⟨rfl, hb8⟩)
      go_ret
      have h7 := HB6.out.trans (HB7.out.mono HB6.out.size)
      exact ⟨rfl, h7.trans (hb8.mono h7.size)⟩
    · have e0 : (i == k) = false := by simp [hik]
      have ey := HY.out
      rw [if_neg hik] at ey
      subst ey
      clear hik
      go_wp2_with (go_at_call 22; refine HS.out.mono ?_; rintro e w8 ⟨rfl, hb8⟩)
      go_ret
      have h7 := HB6.out.trans (HB7.out.mono HB6.out.size)
      exact ⟨rfl, h7.trans (hb8.mono h7.size)⟩
end Go.Proofs.Ytknccacfhknnaaa
