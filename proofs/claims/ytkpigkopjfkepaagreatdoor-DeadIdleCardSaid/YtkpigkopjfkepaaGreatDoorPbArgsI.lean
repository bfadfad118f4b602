/- An argument []int whose numbers are known to be numbers of 64 bits. -/
import Derived.Test.YtkpigkopjfkepaaGreatDoorPbArgs
namespace Go.Proofs.YtkpigkopjfkepaaGreatDoor
open Go.ChangeShapes Go.WideShapes Go.ChangeAt Go.RowKit

section
variable {H : Type} {enc : TypeId × Value → H} {w : World} {spare : Nat → Bool} {held : Bool}
theorem open_ints_I {v : Value} {d : DataW H} {ps : List MemPlace} (h : DataW.Trod enc Tryz.prog w 0 spare held 38 v d ps) (hv : ∃ A n c, v = .slice A n c) :
    ∃ l : List Int, (∀ x ∈ l, I64 x) ∧ SlR w (· < w.heap.size) 1 RInt v l ∧ ((d = .nil ∧ l = []) ∨ ∃ es sp, d = .slice es sp ∧ es.length = l.length) := by
  obtain ⟨l0, hsl0, hd⟩ := open_ints_sl h hv
  obtain ⟨fuel, h⟩ := h
  obtain ⟨A, n, c, rfl⟩ := hv
  obtain ⟨u, l, e, hs⟩ := slr_of_trod (fun cs (y : Int) => RInt cs y ∧ I64 y) Tryz.underlying38 (show Tryz.prog.cellsOf 3 = 1 by kernel_rfl) (by omega) (fun _ _ _ h => by
    obtain ⟨a, e0, _, hw⟩ := DataW.trod_int Tryz.underlying3 h
    exact ⟨a, e0, i64_of_wf hw⟩) h
  have e' : Value.slice A n c = u := by simpa [Value.cells] using e
  subst e'
  have hs' : SlR w (· < w.heap.size) 1 RInt (.slice A n c) l := hs.imp (fun _ h => h) (Keeps.refl _ _) (fun _ _ _ h => h.1)
  refine ⟨l, slr_all hs (fun _ _ h => h.2), hs', ?_⟩
  obtain ⟨A', c', hv', _, _⟩ := hs'.val
  injection hv' with _ hn _
  obtain ⟨A0, c0, hv0, _, _⟩ := hsl0.val
  injection hv0 with _ hn0 _
  rcases hd with ⟨h1, h2⟩ | ⟨es, sp, h1, h2⟩
  · subst h2
    exact .inl ⟨h1, List.eq_nil_of_length_eq_zero (by rw [← hn, hn0]; rfl)⟩
  · exact .inr ⟨es, sp, h1, by rw [h2, ← hn0, hn]⟩
end
end Go.Proofs.YtkpigkopjfkepaaGreatDoor
