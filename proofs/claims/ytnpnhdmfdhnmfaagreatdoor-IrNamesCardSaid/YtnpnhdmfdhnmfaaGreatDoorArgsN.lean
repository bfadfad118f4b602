/- An argument api.Ins. -/
import Derived.Test.YtnpnhdmfdhnmfaaGreatDoorArgs
import Derived.WideShapes
namespace Go.Proofs.YtnpnhdmfdhnmfaaGreatDoor
open Go.ChangeShapes Go.WideShapes Go.ChangeAt Go.RowKit

theorem okWide_struct9 {P : Program} {w : World} {r : Reach} {base : Nat} {t : TypeId} {fs : Array Field} {v : Value} (ht : P.underlying t = some (.struct fs)) (h : Value.okWide P w r base t v) : ∃ cs, v = .agg cs := by
  unfold Value.okWide at h
  simp only [ht] at h
  obtain ⟨cs, rfl, _⟩ := h
  exact ⟨cs, rfl⟩
section
variable {H : Type} {enc : TypeId × Value → H} {w : World} {spare : Nat → Bool} {held : Bool}
set_option maxRecDepth 100000 in
theorem open_ins {v : Value} {d : DataW H} {ps : List MemPlace} {r : Reach} {base : Nat} (h : DataW.Trod enc Tryz.prog w 0 spare held 36 v d ps) (hok : Value.okWide Tryz.prog w r base 36 v) :
    ∃ y : LIns, y.I ∧ ∃ A n c, v = .agg #[.int .i64 y.kind, .int .i64 y.d, .int .i64 y.a, .int .i64 y.b, .int .i64 y.op, .int .i64 y.n, .string y.name, .slice A n c] := by
  obtain ⟨fuel, h⟩ := h
  obtain ⟨cs, rfl⟩ := okWide_struct9 Tryz.underlying36 hok
  obtain ⟨y, ⟨va, hcs, hs⟩, hI⟩ := trod_ins h
  obtain ⟨A, c, hva, _, _⟩ := hs.val
  subst hva
  refine ⟨y, hI, A, y.args.length, c, ?_⟩
  have e : cs.toList = insCells y (.slice A y.args.length c) := by simpa [Value.cells] using hcs
  have e2 : cs = (insCells y (.slice A y.args.length c)).toArray := by rw [← e]
  rw [e2]; rfl
end
end Go.Proofs.YtnpnhdmfdhnmfaaGreatDoor
