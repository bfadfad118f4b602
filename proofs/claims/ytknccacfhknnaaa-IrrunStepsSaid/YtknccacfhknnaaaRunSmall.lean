/- What irrun's small functions do: end, top, read. -/
import Derived.Test.YtknccacfhknnaaaRunMem
import Derived.Deep.QuietTactic
import Derived.BigQuiet
namespace Go.Proofs.Ytknccacfhknnaaa
open Go.RowKit

/-- the run's own block, its cells written out -/
structure RunBlk (w : World) (rb : Nat) (va vf vm vin vcalls : Value) (st co : Int) (vout : Value) (sp : Int) : Prop where
  blk : Blk w rb 80 #[va, vf, vm, vin, vcalls, .int .i64 st, .int .i64 co, vout, .int .i64 sp]
theorem grown_set1 (W : World) (p : Addr) (v : Value) : W.grownBy (W.setCell p v) (some p.block) :=
  ⟨rfl, rfl, rfl, by simp [World.setCell], fun k _ hne => Below.heap_setCell W _ _ k (fun e => hne (by rw [e]))⟩
theorem grown_set2 (w : World) (rb i j : Nat) (u v : Value) : w.grownBy ((w.setCell ⟨rb, i, none⟩ u).setCell ⟨rb, j, none⟩ v) (some rb) := (grown_set1 w ⟨rb, i, none⟩ u).trans (grown_set1 _ ⟨rb, j, none⟩ v)

set_option maxHeartbeats 2000000 in
theorem end_any (rb : Nat) (va vf vm vin vcalls vout : Value) (st co sp s c : Int) (w : World) (h : RunBlk w rb va vf vm vin vcalls st co vout sp) :
    Calls Try.prog 107 #[.pointer (some ⟨rb, 0, none⟩), .int .i64 s, .int .i64 c] w fun e w' => e = .returned (.tuple #[]) ∧ RunBlk w' rb va vf vm vin vcalls s c vout sp ∧ w.grownBy w' (some rb) := by
  have c5 : w.cell? ⟨rb, 5, none⟩ = some (.int .i64 st) := h.blk.cell 5
  have c6 : w.cell? ⟨rb, 6, none⟩ = some (.int .i64 co) := h.blk.cell 6
  have z5 := h.blk.frozen 5
  have z6 := h.blk.frozen 6
  have HH := Lib.hid h
  clear h
  go_enter Try.func107, Try.ntmps107
  go_wp2
  go_end0
  refine ⟨rfl, ⟨?_⟩, grown_set2 _ _ _ _ _ _⟩
  exact (HH.out.blk.set_ 5 _).set_ 6 _

set_option maxHeartbeats 2000000 in
theorem top_any (base rb n cap g cb : Nat) (va vf vm vin vout : Value) (st co sp : Int) (bs : List Nat) (w : World) (hn : n = bs.length + 1) (h : RunBlk w rb va vf vm vin (.slice (some ⟨g, 0, none⟩) n cap) st co vout sp) (hr : w.ownsRow base 113 1 (.slice (some ⟨g, 0, none⟩) n cap) n ((cb :: bs).reverse.map fun b => .pointer (some ⟨b, 0, none⟩))) (hm : n ≤ maxLen) :
    Calls Try.prog 59 #[.pointer (some ⟨rb, 0, none⟩)] w fun e w' => e = .returned (.pointer (some ⟨cb, 0, none⟩)) ∧ ∃ k, w' = w.drewN k := by
  have c4 : w.cell? ⟨rb, 4, none⟩ = some (.slice (some ⟨g, 0, none⟩) n cap) := h.blk.cell 4
  have hc := Cells.of_own hr rfl
  have p0 : w.cell? ⟨g, bs.length, none⟩ = some (.pointer (some ⟨cb, 0, none⟩)) := by
    have h1 := hc bs.length (by simp)
    simpa using h1
  clear hc hr h
  subst hn
  unfold maxLen at hm
  have w1 : IntKind.i64.wrap (((bs.length + 1 : Nat) : Int) - 1) = (bs.length : Int) := by rw [IntKind.wrap_i64]; omega
  have w2 : 0 ≤ (bs.length : Int) := by omega
  have w3 : (bs.length : Int) < ((bs.length + 1 : Nat) : Int) := by omega
  have w4 : ((bs.length : Int)).toNat = bs.length := by omega
  go_enter Try.func59, Try.ntmps59
  go_wp2
  go_quiet (fail)
  go_wp2
  go_ret
  exact ⟨rfl, _, rfl⟩

theorem grown_refl' (w : World) (row : Option Nat) : w.grownBy w row := ⟨rfl, rfl, rfl, Nat.le_refl _, fun _ _ _ => rfl⟩
/-- what read leaves -/
def ReadPost (base rb : Nat) (va vf vm vcalls vout : Value) (st co sp : Int) (inp : List Int) (w : World) (e : Ending) (w' : World) : Prop :=
  e = .returned (.int .i64 (inp.headD (-1))) ∧ ∃ vin', RunBlk w' rb va vf vm vin' vcalls st co vout sp ∧ w.grownBy w' (some rb) ∧ SlR w' (· < base) 1 RInt vin' inp.tail
set_option maxHeartbeats 2000000 in
theorem read_any (base rb : Nat) (va vf vm vin vcalls vout : Value) (st co sp : Int) (inp : List Int) (w : World) (h : RunBlk w rb va vf vm vin vcalls st co vout sp) (hi : SlR w (· < base) 1 RInt vin inp) (hb : base ≤ rb) :
    Calls Try.prog 109 #[.pointer (some ⟨rb, 0, none⟩)] w (ReadPost base rb va vf vm vcalls vout st co sp inp w) := by
  obtain ⟨A, c, hv, hlc, hcm⟩ := hi.val
  subst hv
  have c3 : w.cell? ⟨rb, 3, none⟩ = some (.slice A inp.length c) := h.blk.cell 3
  have z3 := h.blk.frozen 3
  have HH := Lib.hid h
  have HI := Lib.hid hi
  have hll := hi.len_le
  unfold maxLen at hll
  clear h hi
  cases inp with
  | nil =>
    go_enter Try.func109, Try.ntmps109
    go_wp2
    go_ret
    exact ⟨rfl, _, HH.out, grown_refl' _ _, HI.out⟩
  | cons a r =>
    obtain ⟨b, off, c', hf, _, _, hbl, hel⟩ := HI.out.form (by simp)
    obtain ⟨rfl, rfl⟩ : A = some ⟨b, off, none⟩ ∧ c = c' := by injection hf with h1 _ h2; exact ⟨h1, h2⟩
    obtain ⟨cs, _, hcs, hcell⟩ := hel 0 (by simp)
    subst hcs
    have i0 : w.cell? ⟨b, off, none⟩ = some (.int .i64 a) := by have h := hcell.at_ (j := 0) rfl; simpa using h
    have HE := Lib.hid hel
    have l0 : (a :: r).length = r.length + 1 := rfl
    rw [l0] at c3 hlc hll
    have e0 : (((r.length + 1 : Nat) : Int) == 0) = false := by rw [beq_dec]; exact decide_eq_false (by omega)
    have p0 : (0 : Int) < ((r.length + 1 : Nat) : Int) := by omega
    clear hf hel hcell l0
    go_enter Try.func109, Try.ntmps109
    have q1 : (1 : Int) ≤ ((r.length + 1 : Nat) : Int) := by omega
    have q2 : ((r.length + 1 : Nat) : Int) ≤ (c : Int) := by omega
    go_wp2
    · have h1 : c = 1 := by assumption
      obtain rfl : r = [] := List.eq_nil_of_length_eq_zero (by omega)
      go_ret
      refine ⟨rfl, _, ⟨HH.out.blk.set_ 3 _⟩, grown_set1 _ _ _, ?_⟩
      exact ⟨_, 0, rfl, Nat.le_refl _, by unfold maxLen; omega, .inl rfl⟩
    · go_ret
      refine ⟨rfl, _, ⟨HH.out.blk.set_ 3 _⟩, grown_set1 _ _ _, ?_⟩
      refine ⟨some ⟨b, off + 1, none⟩, c - 1, rfl, by show r.length ≤ c - 1; omega, by omega, ?_⟩
      by_cases hr : r = []
      · exact .inl hr
      · refine .inr ⟨b, off + 1, rfl, hbl, fun i hi => ?_⟩
        have hi' : i < r.length := hi
        obtain ⟨cs, h1, hR, hc⟩ := HE.out (i + 1) (by show i + 1 < r.length + 1; omega)
        refine ⟨cs, h1, hR, ?_⟩
        have e1 : off + 1 + i * 1 = off + (i + 1) * 1 := by omega
        rw [e1]
        exact hc.keep (Below.heap_setCell w ⟨rb, 3, none⟩ _ b (by show b ≠ rb; omega))
end Go.Proofs.Ytknccacfhknnaaa
