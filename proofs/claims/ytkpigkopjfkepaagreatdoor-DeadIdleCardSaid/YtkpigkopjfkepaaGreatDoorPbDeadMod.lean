/- A unit's function made anew between two calls of dead.Dead: what both 'DeadIdleSaid' and 'DeadBlocksSaid' lean on. -/
import Derived.Test.YtkpigkopjfkepaaGreatDoorPbDeadAgain
import Derived.Test.YtkpigkopjfkepaaGreatDoorPbUnitMem
import Derived.Test.YtkpigkopjfkepaaGreatDoorPbFit
import Derived.Test.YtkpigkopjfkepaaGreatDoorPbArgs
import Derived.Test.YtkpigkopjfkepaaGreatDoorPbMoreS
import Derived.Test.YtkpigkopjfkepaaGreatDoorPbFlowAfter
import Derived.Deep.QuietTactic
import Derived.BigQuiet
import Derived.Deep.Upon
import Derived.Lib.SlFresh
import Derived.Deep.AppendLies
import Derived.Test.YtkpigkopjfkepaaGreatDoorPbFlowSm
import Derived.Test.YtkpigkopjfkepaaGreatDoorPbRegion
namespace Go.Proofs.YtkpigkopjfkepaaGreatDoor
open Go.RowKit

theorem pick15_n (a : Int) (ha : I64 a) (n : Nat) (hn : 0 < n) (hn2 : n ≤ 1000) : ∃ i : Nat, i < n ∧ (i : Int) = pk a n ∧ ∀ w, Calls Tryz.prog 14 #[.int .i64 a, .int .i64 (n : Int)] w fun e w' => e = .returned (.int .i64 (i : Int)) ∧ w = w' := by
  have h0 := pk_lo a n (by omega)
  have h1 := pk_hi a n (by omega)
  refine ⟨(pk a n).toNat, by omega, by omega, fun w => (pick15_any a n ha.1 ha.2 (by omega) w).mono ?_⟩
  rintro e w' ⟨he, hw⟩
  refine ⟨?_, hw⟩
  rw [he]
  congr 2
  omega
theorem DeadOut.keep {u : LUnit} {w w' X : World} {xb : Nat} {B1 B2 : Option Addr} {d1 d2 : Nat} (h : DeadOut u w xb w' B1 B2 d1 d2) (hxb : xb < w.heap.size) (hs : w'.heap.size ≤ X.heap.size) (hk : Keeps (fun b => b < w'.heap.size ∧ b ≠ xb) w' X) : UIn (deadE u) X B1 B2 d1 d2 := by
  have e : (deadE u).flows.length = u.flows.length := List.length_map _
  obtain ⟨css, hown⟩ := h.own
  have hup : ∀ b, (b < w'.heap.size ∧ b ≠ xb) → b < X.heap.size := fun b hb => by omega
  refine ⟨h.arr.imp (fun b hb => by omega) (fun b hb => hk b ⟨hb.2.1, by omega⟩) (fun _ _ _ r => r), ?_⟩
  rw [e]
  have hs1 := hown.slr (ok' := fun b => b < w'.heap.size ∧ b ≠ xb) mono_flow (fun b hb => ⟨hb.1, hb.2.1⟩) (fun b eb => by have := hown.row.lt b eb; exact ⟨this.2, by omega⟩)
  exact hs1.imp hup hk (fun _ _ _ r => r.imp hup hk)
/-- Dead of a unit whose functions' row is xb: what it made keeps what lies elsewhere -/
theorem dead_x {u : LUnit} {X : World} {gf cf : Nat} {A1 : Option Addr} {c1 : Nat} {B : Nat} {css : List (List Value)} {fls : List LFlow} (hu : UnitOk u) (hs : SmallU u) (ha : SlR X (· < X.heap.size) 2 RArr (.slice A1 u.arrays.length c1) u.arrays) (hfl : u.flows = fls) (hl : fls.length = 3)
    (ho : OwnL X B 41 4 RFlow (.slice (some ⟨gf, 0, none⟩) 3 cf) fls css) :
    Calls Tryz.prog 10 #[.agg #[.slice A1 u.arrays.length c1, .slice (some ⟨gf, 0, none⟩) 3 cf]] X fun e w' => ∃ B1 B2 d1 d2, e = .returned (.tuple #[.agg #[.slice B1 u.arrays.length d1, .slice B2 3 d2], .int .i64 0]) ∧ Below X.heap.size X w' ∧ DeadOut u X gf w' B1 B2 d1 d2 := by
  subst hfl
  have hgf : gf < X.heap.size := (ho.row.lt gf rfl).2
  have hfx : SlR X (· < X.heap.size) 4 (RFlow X (fun b => b < X.heap.size ∧ b ≠ gf)) (.slice (some ⟨gf, 0, none⟩) 3 cf) u.flows := by
    have hr := ho.row
    rw [hl] at hr
    exact SlR.of_own hr hl.symm ho.len ho.each (fun i h1 h2 => mono_flow _ _ _ _ _ _ (ho.elems i h1 h2) (fun b hb => ⟨hb.2.1, fun e => hb.2.2 (by rw [e]; rfl)⟩) (Keeps.refl _ _)) (fun g e => by have e' : gf = g := (by simpa [Value.ownBlock] using e); omega)
  have hui : UIn u X A1 (some ⟨gf, 0, none⟩) c1 cf := ⟨ha, by rw [hl]; exact hfx.imp (fun _ h => h) (Keeps.refl _ _) (fun _ _ _ r => r.imp (fun b hb => hb.1) (Keeps.refl _ _))⟩
  have h := dead_full gf (Nat.le_of_lt hgf) hu hs hui (by rw [hl]; exact hfx)
  rw [hl] at h
  exact h
/-- blocks are of values below 17 where they are of values below 10 -/
theorem placeIf_up {n a b : Int} {is : Bool} (hab : a ≤ b) (h : placeIf n a is = true) : placeIf n b is = true := by
  unfold placeIf at *
  cases is with
  | true => rw [if_pos rfl] at *; exact decide_eq_true (by have := of_decide_eq_true h; omega)
  | false => exact h
theorem named_up {u : LUnit} {a b : Int} (hab : a ≤ b) {x : LIns} (h : namedOk u a x = true) : namedOk u b x = true := by
  unfold namedOk at *
  split
  · rename_i h1; rw [if_pos h1] at h; exact h
  · rename_i h1
    rw [if_neg h1] at h
    split
    · rename_i h2
      rw [if_pos h2] at h
      unfold callOk at *
      cases hf : u.flows.find? (fun f => decide (f.name = x.name)) with
      | none => rw [hf] at h; exact h
      | some g =>
        rw [hf] at h
        simp only [Bool.and_eq_true, decide_eq_true_eq, Bool.not_eq_true', List.any_eq_false] at h ⊢
        refine ⟨h.1, fun n hn hp => h.2 n hn ?_⟩
        cases e : placeIf n a true with
        | false => rfl
        | true => rw [placeIf_up hab e] at hp; cases hp
    · rename_i h2; rw [if_neg h2] at h; exact h
theorem insOk_up {u : LUnit} {a b : Int} (hab : a ≤ b) {x : LIns} (h : insOk u a x = true) : insOk u b x = true := by
  unfold insOk at *
  simp only [Bool.and_eq_true] at *
  obtain ⟨⟨⟨⟨⟨⟨h1, h2⟩, h3⟩, h4⟩, h5⟩, h6⟩, h7⟩ := h
  exact ⟨⟨⟨⟨⟨⟨h1, placeIf_up hab h2⟩, placeIf_up hab h3⟩, placeIf_up hab h4⟩, h5⟩, h6⟩, named_up hab h7⟩
theorem termOk_up {n a b : Int} (hab : a ≤ b) {t : LTerm} (h : termOk n a t = true) : termOk n b t = true := by
  unfold termOk at *
  simp only [Bool.and_eq_true] at *
  exact ⟨⟨⟨h.1.1.1, placeIf_up hab h.1.1.2⟩, h.1.2⟩, h.2⟩
end Go.Proofs.YtkpigkopjfkepaaGreatDoor
