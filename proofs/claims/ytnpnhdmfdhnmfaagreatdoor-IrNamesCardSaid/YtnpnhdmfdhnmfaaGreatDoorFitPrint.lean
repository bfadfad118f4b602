/- The units that Fit makes may be printed. -/
import Derived.Test.YtnpnhdmfdhnmfaaGreatDoorPrint
import Derived.Test.YtnpnhdmfdhnmfaaGreatDoorItoaTab
import Derived.Test.YtnpnhdmfdhnmfaaGreatDoorFit
import Derived.Test.YtnpnhdmfdhnmfaaGreatDoorIrFit
namespace Go.Proofs.YtnpnhdmfdhnmfaaGreatDoor
open Go.RowKit

theorem slr_flows {w : World} {base : Nat} {T : TypeId} {v : Value} {l : List LFlow} {css : List (List Value)} (h : OwnL w base T 4 RFlow v l css) : SlR w (· < w.heap.size) 4 (RFlow w (· < w.heap.size)) v l :=
  SlR.of_own h.row rfl h.len h.each (fun i h1 h2 => (h.elems i h1 h2).imp (fun _ hb => hb.2.1) (Keeps.refl _ _)) (fun g e => (h.lt g e).2)
theorem ln_len : ∀ (l : List (List UInt8)) (m : Nat), (∀ x ∈ l, x.length ≤ m) → (ln l).length ≤ (m + 1) * l.length
  | [], m, _ => by simp [ln]
  | x :: l, m, h => by
    have h1 := h x (by simp)
    have h2 := ln_len l m fun y hy => h y (by simp [hy])
    rw [ln_cons, List.length_append, List.length_append]
    simp only [List.length_cons, List.length_nil, Nat.mul_succ]
    omega
theorem blocksLn_short : ∀ (l : List LBlock) (k : Nat), l.length + k ≤ 100 → (∀ b ∈ l, ∀ x ∈ b.ins, TextOk x) → (∀ b ∈ l, Pl b.term.a ∧ Pl b.term.to ∧ Pl b.term.els) → ∀ y ∈ blocksLn k l, y.length ≤ 1300
  | [], _, _, _, _, y, hy => by simp [blocksLn] at hy
  | b :: r, k, hk, hi, he, y, hy => by
    rw [List.length_cons] at hk
    rw [blocksLn] at hy
    rcases List.mem_cons.1 hy with rfl | hy
    · have := bT_len (n := (k : Int)) ⟨by omega, by omega⟩
      simp [labelT]; omega
    · rcases List.mem_append.1 hy with hy | hy
      · rw [body9] at hy
        rcases List.mem_append.1 hy with hy | hy
        · obtain ⟨x, hx, rfl⟩ := List.mem_map.1 hy
          have := insT_len (hi b (by simp) x hx)
          simp; omega
        · rw [List.mem_singleton.1 hy]
          obtain ⟨h1, h2, h3⟩ := he b (by simp)
          have := endT_len h1 h2 h3
          simp; omega
      · exact blocksLn_short r (k + 1) (by omega) (fun b' hb' => hi b' (by simp [hb'])) (fun b' hb' => he b' (by simp [hb'])) y hy
theorem PrintOk.mk' {u : LUnit} (ok : UnitOk u) (arrs : ∀ a ∈ u.arrays, a.1.size ≤ 1000 ∧ Pl a.2) (fls : ∀ f ∈ u.flows, f.name.size ≤ 1000 ∧ Pl f.params ∧ Pl f.values ∧ f.blocks.length ≤ 100) (ins : ∀ f ∈ u.flows, ∀ b ∈ f.blocks, ∀ x ∈ b.ins, TextOk x)
    (ends : ∀ f ∈ u.flows, ∀ b ∈ f.blocks, Pl b.term.a ∧ Pl b.term.to ∧ Pl b.term.els ∧ (b.term.kind = 1 ∨ b.term.kind = 2 ∨ b.term.kind = 3 ∨ b.term.kind = 4)) (hl : (unitLn u).length ≤ 700000) : PrintOk u := by
  refine ⟨ok, arrs, fls, ins, ends, ?_⟩
  have h := ln_len (unitLn u) 1300 fun y hy => by
    rcases List.mem_append.1 hy with hy | hy
    · obtain ⟨a, ha, rfl⟩ := List.mem_map.1 hy
      obtain ⟨h1, h2⟩ := arrs a ha
      have h3 := itoa_len2 h2.1 h2.2
      have h4 : (L8 a.1).length ≤ 1000 := h1
      simp [arrT]; omega
    · unfold flowsLn at hy
      obtain ⟨l, hl, hy⟩ := List.mem_flatten.1 hy
      obtain ⟨f, hf, rfl⟩ := List.mem_map.1 hl
      obtain ⟨h1, h2, h3, h4⟩ := fls f hf
      rcases List.mem_cons.1 hy with rfl | hy
      · have h5 := itoa_len2 h2.1 h2.2
        have h6 := itoa_len2 h3.1 h3.2
        have h7 : (L8 f.name).length ≤ 1000 := h1
        simp [headT]; omega
      · exact blocksLn_short f.blocks 0 (by omega) (ins f hf) (fun b hb => ⟨(ends f hf b hb).1, (ends f hf b hb).2.1, (ends f hf b hb).2.2.1⟩) y hy
  show (ln (unitLn u)).length ≤ 1000000000
  have : (1300 + 1) * (unitLn u).length ≤ 1301 * 700000 := Nat.mul_le_mul_left _ hl
  omega

theorem Pl.of10 {n : Int} (h0 : 0 ≤ n) (h1 : n < 10) : Pl n := ⟨h0, by omega⟩
theorem pl0 : Pl 0 := ⟨by omega, by omega⟩
theorem no_args : ∀ n ∈ ([] : List Int), Pl n := fun _ h => absurd h List.not_mem_nil
theorem text_of {k d a b op n : Int} {nm : ByteArray} {args : List Int} (hk : 1 ≤ k ∧ k ≤ 9) (hd : Pl d) (ha : Pl a) (hb : Pl b) (hn : I64 n) (hm : nm.size ≤ 1000) (hg : ∀ n ∈ args, Pl n) (hl : args.length ≤ 10) : TextOk ⟨k, d, a, b, op, n, nm, args⟩ := ⟨hk, hd, ha, hb, hn, hm, hg, hl⟩
theorem insC_text {x : LIns} (h : InsC x) (hn : I64 x.n) : TextOk x := by
  have z : I64 0 := ⟨by omega, by omega⟩
  have n0 : sNone.size ≤ 1000 := by decide
  have nA : sA.size ≤ 1000 := by decide
  have nB : sB.size ≤ 1000 := by decide
  have nM : sMain.size ≤ 1000 := by decide
  have nF : sF.size ≤ 1000 := by decide
  have nG : sG.size ≤ 1000 := by decide
  cases h with
  | num d n h0 h1 => exact text_of (by omega) (.of10 h0 h1) pl0 pl0 hn n0 no_args (by simp)
  | move d a h0 h1 a0 a1 => exact text_of (by omega) (.of10 h0 h1) (.of10 a0 a1) pl0 z n0 no_args (by simp)
  | one d a op h0 h1 a0 a1 _ _ => exact text_of (by omega) (.of10 h0 h1) (.of10 a0 a1) pl0 z n0 no_args (by simp)
  | two d a b op h0 h1 a0 a1 b0 b1 _ _ => exact text_of (by omega) (.of10 h0 h1) (.of10 a0 a1) (.of10 b0 b1) z n0 no_args (by simp)
  | load d a s h0 h1 a0 a1 hs => exact text_of (by omega) (.of10 h0 h1) (.of10 a0 a1) pl0 z (by rcases hs with rfl | rfl <;> assumption) no_args (by simp)
  | store a b s a0 a1 b0 b1 hs => exact text_of (by omega) pl0 (.of10 a0 a1) (.of10 b0 b1) z (by rcases hs with rfl | rfl <;> assumption) no_args (by simp)
  | read d h0 h1 => exact text_of (by omega) (.of10 h0 h1) pl0 pl0 z n0 no_args (by simp)
  | print a a0 a1 => exact text_of (by omega) pl0 (.of10 a0 a1) pl0 z n0 no_args (by simp)
  | call0 d h0 h1 => exact text_of (by omega) (.of10 h0 h1) pl0 pl0 z nM no_args (by simp)
  | call1 d p h0 h1 p0 p1 => exact text_of (by omega) (.of10 h0 h1) pl0 pl0 z nF (fun m h => by rw [List.mem_singleton.1 h]; exact .of10 p0 p1) (by simp)
  | call2 d p q h0 h1 p0 p1 q0 q1 =>
    refine text_of (by omega) (.of10 h0 h1) pl0 pl0 z nG (fun m h => ?_) (by simp)
    rcases List.mem_cons.1 h with rfl | h
    · exact .of10 p0 p1
    · rw [List.mem_singleton.1 h]; exact .of10 q0 q1
theorem orOne_mem {l : List LBlock} {y : LBlock} (h : y ∈ orOne l) : y ∈ l ∨ y = noBlock := by
  unfold orOne at h
  by_cases hl : l = []
  · rw [if_pos hl] at h; exact .inr (List.mem_singleton.1 h)
  · rw [if_neg hl] at h; exact .inl h
theorem fit_insI (raw : List LBlock) (hI : ∀ x ∈ raw, x.I) (k : Nat) : ∀ b ∈ (fitFl raw k).blocks, ∀ x ∈ b.ins, I64 x.n := fun b hb x hx => by
  obtain ⟨y, hy, rfl⟩ := List.mem_map.1 hb
  obtain ⟨z, hz, rfl⟩ := List.mem_map.1 hx
  have hz' : z ∈ y.ins := List.mem_of_mem_take hz
  have hzI : z.I := by
    rcases orOne_mem hy with h | rfl
    · exact (hI y (picks_mem h)).ins z hz'
    · cases hz'
  show I64 (if 1 + pk z.kind 9 = 1 then z.n else 0)
  by_cases h : 1 + pk z.kind 9 = 1
  · rw [if_pos h]; exact hzI.n
  · rw [if_neg h]; exact ⟨by omega, by omega⟩
theorem sum_le {α : Type} (f : α → Nat) (m : Nat) : ∀ l : List α, (∀ x ∈ l, f x ≤ m) → (l.map f).sum ≤ m * l.length
  | [], _ => by simp
  | a :: l, h => by
    have h1 := h a (by simp)
    have h2 := sum_le f m l fun x hx => h x (by simp [hx])
    rw [List.map_cons, List.sum_cons, List.length_cons, Nat.mul_succ]
    omega
theorem fit_wants (raw : List LBlock) : wantLines (fitU raw) ≤ 1000 := by
  have h : ∀ k, ((fitFl raw k).blocks.map fun b => 2 + b.ins.length).sum ≤ 64 := fun k => by
    have h1 := sum_le (fun b : LBlock => 2 + b.ins.length) 8 (fitFl raw k).blocks fun b hb => by have := fit_ins raw k b hb; omega
    have h2 := fit_le raw k
    omega
  have h0 := h 0
  have h1 := h 1
  have h2 := h 2
  unfold wantLines
  rw [fit_three]
  simp only [List.map_cons, List.map_nil, List.sum_cons, List.sum_nil]
  have : (fitU raw).arrays.length = 2 := rfl
  omega
theorem fit_printOk (raw : List LBlock) (hI : ∀ x ∈ raw, x.I) : PrintOk (fitU raw) := by
  have hfl : ∀ f ∈ (fitU raw).flows, ∃ k, k < 3 ∧ f = fitFl raw k := fun f hf => by
    obtain ⟨k, hk, rfl⟩ := List.mem_map.1 hf
    exact ⟨k, List.mem_range.1 hk, rfl⟩
  refine PrintOk.mk' (unit_fit raw) (fun a ha => ?_) (fun f hf => ?_) (fun f hf b hb x hx => ?_) (fun f hf b hb => ?_) ?_
  · rcases (by simpa [fitU, fitArrays] using ha : a = (sA, 4) ∨ a = (sB, 10)) with rfl | rfl <;> exact ⟨by decide, by decide, by decide⟩
  · obtain ⟨k, hk, rfl⟩ := hfl f hf
    have hn : (fnName (k : Int)).size ≤ 1000 := by
      unfold fnName
      split
      · decide
      · split <;> decide
    exact ⟨hn, ⟨by show (0 : Int) ≤ (k : Int); omega, by show (k : Int) < 100; omega⟩, ⟨by show (0 : Int) ≤ 10; omega, by show (10 : Int) < 100; omega⟩, by have := fit_le raw k; omega⟩
  · obtain ⟨k, hk, rfl⟩ := hfl f hf
    exact insC_text ((fit_blkC raw k b hb).ins x hx) (fit_insI raw hI k b hb x hx)
  · obtain ⟨k, hk, rfl⟩ := hfl f hf
    have hle := fit_le raw k
    have he := (fit_blkC raw k b hb).term.up (by omega)
    generalize b.term = t at *
    cases he with
    | jump dst h0 h1 => exact ⟨pl0, .of10 h0 h1, pl0, .inl rfl⟩
    | if_ a dst els a0 a1 t0 t1 e0 e1 => exact ⟨.of10 a0 a1, .of10 t0 t1, .of10 e0 e1, .inr (.inl rfl)⟩
    | ret a a0 a1 => exact ⟨.of10 a0 a1, pl0, pl0, .inr (.inr (.inl rfl))⟩
    | trap a a0 a1 => exact ⟨.of10 a0 a1, pl0, pl0, .inr (.inr (.inr rfl))⟩
  · rw [unitLn_len]
    have := fit_wants raw
    omega
/-- ir.Print at a unit that Fit has made, where the table is laid -/
theorem print_fit (raw : List LBlock) (hI : ∀ x ∈ raw, x.I) (A1 A2 : Option Addr) (c1 c2 : Nat) (w : World) (ht : TabAt w) (ha : SlR w (· < w.heap.size) 2 RArr (.slice A1 (fitU raw).arrays.length c1) (fitU raw).arrays) (hf : SlR w (· < w.heap.size) 4 (RFlow w (· < w.heap.size)) (.slice A2 (fitU raw).flows.length c2) (fitU raw).flows) :
    Calls Tryz.prog 15 #[.agg #[.slice A1 (fitU raw).arrays.length c1, .slice A2 (fitU raw).flows.length c2]] w fun e w' => e = .returned (.tuple #[.string (S8 (unitT (fitU raw))), .int .i64 0]) ∧ Below w.heap.size w w' :=
  print_any (fitU raw) (fit_printOk raw hI) A1 A2 c1 c2 w ha hf (fun f hf b hb x hx _ => itoa_tab x.n ((fit_printOk raw hI).ins f hf b hb x hx).n w ht)
end Go.Proofs.YtnpnhdmfdhnmfaaGreatDoor
