/- What the two closures of turned tell: where a block goes, and a value. -/
import Derived.Test.YtknccacfhknnaaaGreatSims
import Derived.Test.YtknccacfhknnaaaGreatUnitMem
import Derived.Test.YtknccacfhknnaaaGreatRegion
import Derived.Deep.DeepCutAuto
import Derived.Deep.CutBlock
import Derived.Deep.CutRange
namespace Go.Proofs.YtknccacfhknnaaaGreat
open Go.RowKit
open Go.Deep

set_option maxHeartbeats 400000 in
theorem tblock_any (n by_ k : Nat) (hn : n ≤ 8) (hb : by_ < 8) (hk : k < n) (bn bb : Nat) (w : World) (h1 : w.cell? ⟨bn, 0, none⟩ = some (.int .i64 (n : Int))) (h2 : w.cell? ⟨bb, 0, none⟩ = some (.int .i64 (by_ : Int))) :
    Calls Tryz.prog 22 #[.int .i64 (k : Int), .pointer (some ⟨bn, 0, none⟩), .pointer (some ⟨bb, 0, none⟩)] w fun e w' => e = .returned (.int .i64 ((blN n by_ k : Nat) : Int)) ∧ w = w' := by
  by_cases h0 : k = 0
  · subst h0
    have hp : Hid (((blN n by_ 0 : Nat) : Int) = ((0 : Nat) : Int)) := Lib.hid (by unfold blN; rw [if_pos (.inl rfl)])
    have e0 : ((((0 : Nat) : Int)) == 0) = true := by decide
    go_enter Tryz.func22, Tryz.ntmps22
    go_wp2
    go_ret
    exact ⟨ret_int hp.out.symm, rfl⟩
  · have e0 : ((k : Int) == 0) = false := beq_eq_false_iff_ne.2 (by omega)
    have e1 : decide ((n : Int) < 2) = false := decide_eq_false (by omega)
    have e2 : ((n : Int) - 1 == 0) = false := beq_eq_false_iff_ne.2 (by omega)
    have hr : ((k : Int) - 1 + (by_ : Int)).tmod ((n : Int) - 1) = (((k - 1 + by_) % (n - 1) : Nat) : Int) := by
      have a1 : (k : Int) - 1 + (by_ : Int) = ((k - 1 + by_ : Nat) : Int) := by omega
      have a2 : (n : Int) - 1 = ((n - 1 : Nat) : Int) := by omega
      rw [a1, a2, Int.tmod_eq_emod_of_nonneg (by omega), Int.natCast_emod]
    have hlt := Nat.mod_lt (k - 1 + by_) (show 0 < n - 1 by omega)
    have hp : Hid (((blN n by_ k : Nat) : Int) = 1 + (((k - 1 + by_) % (n - 1) : Nat) : Int)) := Lib.hid (by unfold blN; rw [if_neg (by omega)]; omega)
    generalize (k - 1 + by_) % (n - 1) = q at *
    go_enter Tryz.func22, Tryz.ntmps22
    go_wp2
    go_ret
    exact ⟨ret_int hp.out.symm, rfl⟩
set_option maxHeartbeats 400000 in
theorem tvalue_any (p t : Nat) (hp : p < 3) (ht : t < 8) (k : Int) (k0 : 0 ≤ k) (k1 : k < 10) (bf bt : Nat) (w : World) (h1 : w.cell? ⟨bf, 1, none⟩ = some (.int .i64 (p : Int))) (h2 : w.cell? ⟨bf, 2, none⟩ = some (.int .i64 10)) (h3 : w.cell? ⟨bt, 0, none⟩ = some (.int .i64 (t : Int))) :
    Calls Tryz.prog 23 #[.int .i64 k, .pointer (some ⟨bf, 0, none⟩), .pointer (some ⟨bt, 0, none⟩)] w fun e w' => e = .returned (.int .i64 ((vaN p t k.toNat : Nat) : Int)) ∧ Below w.heap.size w w' := by
  by_cases h0 : k < (p : Int)
  · have hq : Hid (((vaN p t k.toNat : Nat) : Int) = k) := Lib.hid (by unfold vaN; rw [if_pos (by omega)]; omega)
    have e0 : decide (k < (p : Int)) = true := decide_eq_true h0
    go_enter Tryz.func23, Tryz.ntmps23
    go_wp2
    go_ret
    exact ⟨ret_int hq.out.symm, Below.refl _ _⟩
  · have e0 : decide (k < (p : Int)) = false := decide_eq_false h0
    have e2 : ((10 : Int) - (p : Int) == 0) = false := beq_eq_false_iff_ne.2 (by omega)
    have hr : (k - (p : Int) + (t : Int)).tmod (10 - (p : Int)) = (((k.toNat - p + t) % (10 - p) : Nat) : Int) := by
      have a1 : k - (p : Int) + (t : Int) = ((k.toNat - p + t : Nat) : Int) := by omega
      have a2 : (10 : Int) - (p : Int) = ((10 - p : Nat) : Int) := by omega
      rw [a1, a2, Int.tmod_eq_emod_of_nonneg (by omega), Int.natCast_emod]
    have hlt := Nat.mod_lt (k.toNat - p + t) (show 0 < 10 - p by omega)
    have hq : Hid (((vaN p t k.toNat : Nat) : Int) = (p : Int) + (((k.toNat - p + t) % (10 - p) : Nat) : Int)) := Lib.hid (by unfold vaN; rw [if_neg (by omega)]; omega)
    generalize (k.toNat - p + t) % (10 - p) = q at *
    go_enter Tryz.func23, Tryz.ntmps23
    go_upto_region 3 with fail
    go_quiet (fail)
    go_wp2
    go_ret
    exact ⟨ret_int hq.out.symm, below_drewN (Below.refl _ _) _⟩
end Go.Proofs.YtknccacfhknnaaaGreat
