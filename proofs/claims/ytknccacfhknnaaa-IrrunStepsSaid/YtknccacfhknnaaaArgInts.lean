/- A statement's argument of numbers: as it reads, it lies in memory as a row of numbers. -/
import Derived.Test.YtknccacfhknnaaaArgs
import Derived.ChangeSlices
import Derived.SizedLaws
namespace Go.Proofs.Ytknccacfhknnaaa
open Go.ChangeShapes Go.WideShapes Go.ChangeAt Go.RowKit

section
variable {H : Type} {enc : TypeId × Value → H} {w : World} {spare : Nat → Bool} {held : Bool}
theorem open_ints_sl {v : Value} {d : DataW H} {ps : List MemPlace} (h : DataW.Trod enc Try.prog w 0 spare held 41 v d ps) (hv : ∃ A n c, v = .slice A n c) :
    ∃ l : List Int, SlR w (· < w.heap.size) 1 RInt v l ∧ ((d = .nil ∧ l = []) ∨ ∃ es sp, d = .slice es sp ∧ es.length = l.length) := by
  obtain ⟨fuel, h⟩ := h
  obtain ⟨A, n, c, rfl⟩ := hv
  obtain ⟨u, l, e, hs⟩ := slr_of_trod RInt Try.underlying41 (show Try.prog.cellsOf 3 = 1 by kernel_rfl) (by omega) (fun _ _ _ h => by
    obtain ⟨a, e0, _, _⟩ := DataW.trod_int Try.underlying3 h
    exact ⟨a, e0⟩) h
  have e' : Value.slice A n c = u := by simpa [Value.cells] using e
  subst e'
  refine ⟨l, hs, ?_⟩
  obtain ⟨A', c', hv', _, _⟩ := hs.val
  injection hv' with _ hn _
  rcases ChangeShapes.open_ints Try.underlying41 Try.underlying3 (show Try.prog.cellsOf 3 = 1 by kernel_rfl) h with ⟨hcs, hx⟩ | ⟨a, len, cap, zs, hcs, _, hl, hm, hz, hx, _, _⟩
  · have e2 : Value.slice A n c = .slice none 0 0 := by simpa [Value.cells] using hcs
    injection e2 with _ h0 _
    simp only [Prod.mk.injEq] at hx
    exact .inl ⟨hx.1, List.eq_nil_of_length_eq_zero (by omega)⟩
  · have e2 : Value.slice A n c = .slice (some a) len cap := by simpa [Value.cells] using hcs
    injection e2 with _ h0 _
    simp only [Prod.mk.injEq] at hx
    refine .inr ⟨_, _, hx.1, ?_⟩
    have hzl : len ≤ zs.length := by rw [hz]; split <;> omega
    simp [lits]
    omega
end
end Go.Proofs.Ytknccacfhknnaaa
