/- strconv.Itoa at every int, where the table of powers of ten is laid. -/
import Derived.Test.YtnpnhdmfdhnmfaaGreatDoorPrintT
import Derived.Shelf.Strconv.Itoa3
import Derived.Lib.LaidTab
import Derived.Lib.AppendIntMem
import Derived.LaidMore
import Derived.MakeChecks
import Derived.Stop.LaidErr
namespace Go.Proofs.YtnpnhdmfdhnmfaaGreatDoor
open Go.RowKit

/-- the table of powers of ten is laid -/
def TabAt (w : World) : Prop := Lib.TabIs Tryz.prog w "internal/strconv.uint64pow10" .u64 Lib.pow10Tab
theorem gTab : Tryz.prog.globalNamed "internal/strconv.uint64pow10" = some 0 := by kernel_rfl
theorem gTabT : (Tryz.prog.globals[0]?).map (·.type) = some 182 := by kernel_rfl
theorem TabAt.below {w w' : World} (h : TabAt w) (hb : Below w.heap.size w w') : TabAt w' := by
  unfold TabAt Lib.TabIs at *
  have hlt : 0 < w.heap.size := by
    unfold World.var? at h
    rw [gTab] at h
    simp only [Option.bind_some] at h
    rcases Nat.lt_or_ge 0 w.heap.size with h' | h'
    · exact h'
    · rw [Array.getElem?_eq_none h'] at h
      cases h
  have hk := hb.block _ hlt
  unfold World.var? at *
  rw [gTab] at h ⊢
  simp only [Option.bind_some] at h ⊢
  rw [hk]
  exact h
theorem itoa_tab (n : Int) (hn : I64 n) (w : World) (h : TabAt w) : ItoaAt n w := fun X hb => by
  refine (Any.strconv_Itoa Tryz.itoaM n hn.1 hn.2 X (h.below hb)).mono ?_
  rintro e X' ⟨rfl, k, os, rfl⟩
  exact ⟨rfl, Lib.below_grow _ _ (Nat.le_refl _) _ _⟩
theorem tab_of_laid {W : World} (h : laidMetH Tryz.prog [("math/bits.deBruijn32tab", Rows.laid_math_bits_deBruijn32tab), ("math/bits.deBruijn64tab", Rows.laid_math_bits_deBruijn64tab), ("internal/strconv.uint64pow10", Rows.laid_internal_strconv_uint64pow10)] W) : TabAt W := by
  rw [MakeChecks.laidMetH_plain _ _ _ (by kernel_rfl)] at h
  have h2 := laidMet.tail (laidMet.tail h)
  have e : (Rows.laid_internal_strconv_uint64pow10 : DataW Unit) = Lib.tabData .u64 Lib.pow10Tab := by rfl
  rw [e] at h2
  exact Lib.tabIs_of_head gTab gTabT Tryz.underlying182 Tryz.underlying162 (by kernel_rfl) (by kernel_rfl) h2
end Go.Proofs.YtnpnhdmfdhnmfaaGreatDoor
