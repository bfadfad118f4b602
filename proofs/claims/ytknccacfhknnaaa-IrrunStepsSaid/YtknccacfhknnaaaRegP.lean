/- A region whose order is the text's own, walked operation by operation. -/
import Derived.Deep.RegionHeld
namespace Go.Proofs.Ytknccacfhknnaaa
open Go

section
variable {P : Program} {ops : Array Oper} {Q : Exit → Act → World → Prop} {o : Oper} {rest : List Oper} {tm : Array Value} {df : List Deferred} {w : World}
theorem takeP (n : Nat) (v : Value) (hd : o.dst = some n) (hw : Region.wanted o (yielded ops tm) = true) (hy : (execOp (Act.eval ⟨tm, df⟩) o).run P w = .ok (.value v) w)
    (h : wpList P ops Q rest ⟨tm.setIfInBounds n v, df⟩ w) : wpList P ops Q (o :: rest) ⟨tm, df⟩ w := by
  unfold wpList
  rw [if_pos hw]
  refine .inl ?_
  unfold Oper.wp
  rw [hy]
  show wpList P ops Q rest (Act.put ⟨tm, df⟩ o.dst v) w
  rw [hd]
  exact h
theorem takeP_no (n : Nat) (hd : o.dst = some n) (hw : Region.wanted o (yielded ops tm) = false) (h : wpList P ops Q rest ⟨tm.setIfInBounds n undef, df⟩ w) : wpList P ops Q (o :: rest) ⟨tm, df⟩ w := by
  unfold wpList
  rw [if_neg (by rw [hw]; decide), hd]
  exact h
theorem stepP (hw : Region.wanted o (yielded ops tm) = true) (h : ∀ K : Act → World → Prop, Shut (∀ a w, wpList P ops Q rest a w → K a w) → o.wp P ⟨tm, df⟩ w K Q) : wpList P ops Q (o :: rest) ⟨tm, df⟩ w := by
  unfold wpList
  rw [if_pos hw]
  exact .inl (h _ (fun _ _ h => h))
end
end Go.Proofs.Ytknccacfhknnaaa
