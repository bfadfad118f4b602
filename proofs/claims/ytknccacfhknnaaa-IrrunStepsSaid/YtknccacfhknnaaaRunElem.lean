/- What irrun's element does: where a number of an array stands. -/
import Derived.Test.YtknccacfhknnaaaRunTerm
import Derived.Test.YtknccacfhknnaaaRunArr
namespace Go.Proofs.Ytknccacfhknnaaa
open Go.RowKit

set_option maxRecDepth 100000 in
set_option maxHeartbeats 4000000 in
theorem element_in (rb mb g n : Nat) (va vf vin vcalls vout : Value) (st co sp k : Int) (s : ByteArray) (w : World) (h : RunBlk w rb va vf (.map (some mb)) vin vcalls st co vout sp)
    (hl : (Instr.lookup 77 (.map (some mb)) (.string s) false).run Try.prog w = .ok (.slice (some ⟨g, 0, none⟩) n n) w) (h0 : 0 ≤ k) (h1 : k < (n : Int)) :
    Calls Try.prog 108 #[.pointer (some ⟨rb, 0, none⟩), .string s, .int .i64 k] w fun e w' => e = .returned (.pointer (some ⟨g, k.toNat, none⟩)) ∧ w' = w := by
  have c2 : w.cell? ⟨rb, 2, none⟩ = some (.map (some mb)) := h.blk.cell 2
  have d1 : decide (k < 0) = false := decide_eq_false (by omega)
  have d2 : decide (k ≥ (n : Int)) = false := decide_eq_false (by omega)
  have d3 : decide ((n : Int) ≤ k) = false := decide_eq_false (by omega)
  clear h
  go_enter Try.func108, Try.ntmps108
  go_wp2
  go_ret
  exact ⟨by simp, rfl⟩
set_option maxRecDepth 100000 in
set_option maxHeartbeats 4000000 in
theorem element_out (rb mb g n : Nat) (va vf vin vcalls vout : Value) (st co sp k : Int) (s : ByteArray) (w : World) (h : RunBlk w rb va vf (.map (some mb)) vin vcalls st co vout sp)
    (hl : (Instr.lookup 77 (.map (some mb)) (.string s) false).run Try.prog w = .ok (.slice (some ⟨g, 0, none⟩) n n) w) (h0 : k < 0 ∨ (n : Int) ≤ k) :
    Calls Try.prog 108 #[.pointer (some ⟨rb, 0, none⟩), .string s, .int .i64 k] w fun e w' => e = .returned (.pointer none) ∧ RunBlk w' rb va vf (.map (some mb)) vin vcalls 3 0 vout sp ∧ w.grownBy w' (some rb) := by
  have c2 : w.cell? ⟨rb, 2, none⟩ = some (.map (some mb)) := h.blk.cell 2
  have HE := Lib.hid (end_any rb va vf (.map (some mb)) vin vcalls vout st co sp 3 0 w h)
  clear h
  by_cases hk : k < 0
  · have d1 : decide (k < 0) = true := decide_eq_true hk
    clear h0
    go_enter Try.func108, Try.ntmps108
    go_wp2_with (go_at_call 107; refine HE.out.mono ?_; rintro e w4 ⟨rfl, hb4, hg4⟩)
    go_ret
    exact ⟨rfl, hb4, hg4⟩
  · have d1 : decide (k < 0) = false := decide_eq_false hk
    have d2 : decide (k ≥ (n : Int)) = true := decide_eq_true (by omega)
    have d3 : decide ((n : Int) ≤ k) = true := decide_eq_true (by omega)
    clear h0
    go_enter Try.func108, Try.ntmps108
    go_wp2_with (go_at_call 107; refine HE.out.mono ?_; rintro e w4 ⟨rfl, hb4, hg4⟩)
    go_ret
    exact ⟨rfl, hb4, hg4⟩
end Go.Proofs.Ytknccacfhknnaaa
