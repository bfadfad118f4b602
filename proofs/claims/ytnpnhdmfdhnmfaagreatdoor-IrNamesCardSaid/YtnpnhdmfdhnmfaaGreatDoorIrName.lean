/- What scan.Name does at the names that there are here: it tells that they may be. -/
import Derived.Test.YtnpnhdmfdhnmfaaGreatDoorIrSmall
import Derived.Laws.RangeString
import Derived.Laws.RangeAny
namespace Go.Proofs.YtnpnhdmfdhnmfaaGreatDoor
open Go.RowKit

/-- the names of the units here -/
def NameG (s : ByteArray) : Prop := s = sMain ∨ s = sF ∨ s = sG ∨ s = sA ∨ s = sB
theorem NameG.size {s : ByteArray} (h : NameG s) : 0 < s.size ∧ s.size ≤ 20 := by
  rcases h with rfl | rfl | rfl | rfl | rfl <;> decide
theorem NameG.low {s : ByteArray} (h : NameG s) : ∀ (i : Nat) (hi : i < s.size), 97 ≤ (s[i]'hi).toNat ∧ (s[i]'hi).toNat ≤ 122 := by
  rcases h with rfl | rfl | rfl | rfl | rfl <;> decide

theorem word_any {s : ByteArray} (h : NameG s) (w : World) : Calls Tryz.prog 82 #[.string s] w fun e w' => e = .returned (.bool false) ∧ w = w' := by
  rcases h with rfl | rfl | rfl | rfl | rfl
  · unfold sMain
    go_enter Tryz.func82, Tryz.ntmps82
    go_wp2
    go_ret
    exact ⟨rfl, rfl⟩
  · unfold sF
    go_enter Tryz.func82, Tryz.ntmps82
    go_wp2
    go_ret
    exact ⟨rfl, rfl⟩
  · unfold sG
    go_enter Tryz.func82, Tryz.ntmps82
    go_wp2
    go_ret
    exact ⟨rfl, rfl⟩
  · unfold sA
    go_enter Tryz.func82, Tryz.ntmps82
    go_wp2
    go_ret
    exact ⟨rfl, rfl⟩
  · unfold sB
    go_enter Tryz.func82, Tryz.ntmps82
    go_wp2
    go_ret
    exact ⟨rfl, rfl⟩
theorem letter_any (r : Int) (h1 : 97 ≤ r) (h2 : r ≤ 122) (w : World) : Calls Tryz.prog 83 #[.int .i32 r] w fun e w' => e = .returned (.bool true) ∧ w = w' := by
  have b0 : (r == 95) = false := by rw [beq_dec]; exact decide_eq_false (by omega)
  have d1 : decide (97 ≤ r) = true := decide_eq_true h1
  have d2 : decide (r ≤ 122) = true := decide_eq_true h2
  go_enter Tryz.func83, Tryz.ntmps83
  go_wp2
  go_ret
  exact ⟨rfl, rfl⟩
set_option maxRecDepth 100000 in
set_option maxHeartbeats 2000000 in
theorem name_any {s : ByteArray} (h : NameG s) (w : World) : Calls Tryz.prog 60 #[.string s] w fun e w' => e = .returned (.bool true) ∧ Below w.heap.size w w' := by
  have HL := Lib.hid h.low
  have HW := Lib.hid (fun w => word_any h w)
  obtain ⟨hs0, hs20⟩ := h.size
  have dn : ¬ s.toList = [] := fun e => by
    rw [ByteArray.toList_eq] at e
    have : s.size = 0 := by show s.data.size = 0; rw [← Array.length_toList, e]; rfl
    omega
  have dn2 : s.toList.isEmpty = false := by rw [List.isEmpty_eq_false_iff]; exact dn
  have dn3 : (s.toList == []) = false := by simp [dn]
  have d1 : decide ((s.size : Int) > 20) = false := decide_eq_false (by omega)
  have d2 : decide (20 < (s.size : Int)) = false := decide_eq_false (by omega)
  clear h
  go_enter Tryz.func60, Tryz.ntmps60
  go_wp2_with (go_at_call 82; refine (HW.out _).mono ?_; rintro e w' ⟨rfl, rfl⟩)
  clear dn dn2 dn3 d1 d2
  go_loopw [3] (fun _ wr => ∃ pos : Nat, wr = w.iter s pos) (fun _ w' => s.size - w'.iterPos w.heap.size)
  case atStart => exact ⟨0, rfl⟩
  case round =>
    obtain ⟨pos, rfl⟩ := hrel
    by_cases hp : pos < s.size
    · have hlo := HL.out pos hp
      have hnx : ∀ ty, (Instr.next (.pointer (some ⟨w.heap.size, 0, none⟩)) true ty).run Tryz.prog (w.iter s pos) = _ := fun ty => run_next_ascii w s pos ty hp (by omega)
      have HLE := Lib.hid (fun w => letter_any ((s[pos]'hp).toNat : Int) (by omega) (by omega) w)
      clear hlo
      go_wp2_with (go_at_call 83; refine (HLE.out _).mono ?_; rintro e w' ⟨rfl, rfl⟩)
      go_roundw
      case rel => exact ⟨_, rfl⟩
      case measure => simp; omega
    · have hnx : ∀ ty, (Instr.next (.pointer (some ⟨w.heap.size, 0, none⟩)) true ty).run Tryz.prog (w.iter s pos) = _ := fun ty => run_next_end w s pos ty hp
      go_wp2
      go_ret
      exact ⟨rfl, below1 _ _⟩
theorem names1_pred (l : List ByteArray) (w : World) (hl : ∀ s ∈ l, NameG s) : Pred_str 59 #[] (fun _ => false) l w := by
  intro W x hx hb
  have HN := Lib.hid (name_any (hl x hx) W)
  go_enter Tryz.func59, Tryz.ntmps59
  go_wp2_with (go_at_call 60; refine HN.out.mono ?_; rintro e w' ⟨rfl, hb1⟩)
  go_ret
  exact ⟨rfl, hb.trans (hb1.mono hb.size)⟩
end Go.Proofs.YtnpnhdmfdhnmfaaGreatDoor
