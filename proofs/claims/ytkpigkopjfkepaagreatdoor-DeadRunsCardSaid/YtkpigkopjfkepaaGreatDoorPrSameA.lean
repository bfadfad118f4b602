/- Are two units the same: counterproofref10.Same tells just that. Printed by wip/gen_same.py. What the frames of all statements share: the row's last step out of 'Below'. A statement's argument of raw blocks: as it reads, it lies in memory as a row of blocks. A statement's argument of numbers: as it reads, it lies in memory as a row of numbers. -/
import Derived.Test.YtkpigkopjfkepaaGreatDoorPrFlowSm
import Derived.Test.YtkpigkopjfkepaaGreatDoorPrIrNamed
import Derived.Test.YtkpigkopjfkepaaGreatDoorPrRegion
import Derived.Deep.QuietTactic
import Derived.BigQuiet
import Derived.Laws.StructEq
import Derived.Test.YtkpigkopjfkepaaGreatDoorRows
import Derived.Test.YtkpigkopjfkepaaGreatDoorPrFitI
import Derived.WalkKit
import Derived.ProofKit
import Derived.OpenShut
import Derived.Deep.Slices
import Derived.Carry
import Derived.ChangeOld
import Derived.ChangeSlices
import Derived.SizedLaws
namespace Go.Proofs.YtkpigkopjfkepaaGreatDoor
open Go.RowKit
section
set_option maxHeartbeats 4000000
set_option maxRecDepth 100000
theorem slr_at {α : Type} {w w' : World} {sz : Nat} {R : World → (Nat → Prop) → List Value → α → Prop} {v : Value} {l : List α} (hm : MonoR R) (h : SlR w (· < w.heap.size) sz (R w (· < w.heap.size)) v l) (hb : Below w.heap.size w w') : SlR w' (· < w'.heap.size) sz (R w' (· < w'.heap.size)) v l :=
 h.imp (fun _ g => Nat.lt_of_lt_of_le g hb.size) (fun b g => hb.block b g) (fun _ _ _ r => hm _ _ _ _ _ _ r (fun _ g => Nat.lt_of_lt_of_le g hb.size) (fun b g => hb.block b g))
end
end Go.Proofs.YtkpigkopjfkepaaGreatDoor
namespace Go.Proofs.YtkpigkopjfkepaaGreatDoor
open Go.ChangeShapes Go.WideShapes Go.ChangeAt Go.RowKit
theorem own_ : ownKnob Tryz.prog.godebug = none := by kernel_rfl
section
variable {H : Type} {enc : TypeId × Value → H} {P : Program}
theorem post_law {f : Func} {s : ChangeSpec} {apart fresh handsOn : Bool} {W W' : World} {args : Array Value} {v : Value} {ds : List (DataW H)} {ps : List MemPlace}
  (hW : DataW.Whole enc P f.params.toList s.vars apart W args.toList ds [] ps)
  (hres : ∀ (b : Nat) (sp : Nat → Bool) (hd : Bool), DataW.TrodAll enc P W' b sp hd f.resultTypes.toList (v.resultList f.resultTypes.size) (s.fn H (ds ++ [])).results [])
  (hargs : DataW.TrodAll enc P W' 0 (fun b => decide (b < W.heap.size)) true f.params.toList args.toList (s.fn H (ds ++ [])).args ps)
  (hvars : DataW.TrodVars enc P W' (fun b => decide (b < W.heap.size)) s.vars (s.fn H (ds ++ [])).vars [])
  (hb : Below W.heap.size W W') : s.post enc P f apart fresh handsOn false W args v W' :=
 ⟨ds, [], ps, [], ps, [], hW, hres _ _ _, hargs, hvars, World.keptBut_mono (fun p hp => ⟨hp, Or.inr (Or.inl hp)⟩) (hb.frame (· ∈ ps)), fun h => by cases h⟩
end
end Go.Proofs.YtkpigkopjfkepaaGreatDoor
namespace Go.Proofs.YtkpigkopjfkepaaGreatDoor
open Go.ChangeShapes Go.WideShapes Go.ChangeAt Go.RowKit
theorem list_of {β : Type} {n : Nat} {Q : Nat → β → Prop} (h : ∀ i, i < n → ∃ y, Q i y) : ∃ l : List β, l.length = n ∧ ∀ (i : Nat) (hi : i < l.length), Q i l[i] := by
 induction n with
 | zero => exact ⟨[], rfl, fun i hi => by simp at hi⟩
 | succ n ih =>
  obtain ⟨l, hl, hq⟩ := ih fun i hi => h i (by omega)
  obtain ⟨y, hy⟩ := h n (by omega)
  refine ⟨l ++ [y], by simp [hl], fun i hi => ?_⟩
  by_cases hi' : i < l.length
  ·rw [List.getElem_append_left hi']; exact hq i hi'
  ·have e : i = n := by simp at hi; omega
   subst e
   rw [List.getElem_append_right (by omega)]
   simp only [hl, Nat.sub_self, List.getElem_singleton]
   exact hy
section
variable {H : Type} {enc : TypeId × Value → H} {P : Program} {w : World} {spare : Nat → Bool} {held : Bool}
theorem slr_of_trod {α : Type} (R : List Value → α → Prop) {t e sz : Nat} (ht : P.underlying t = some (.slice e)) (hs : P.cellsOf e = sz) (hsz : 0 < sz)
  (hR : ∀ fuel cs x, DataW.trod enc P w 0 spare held fuel e cs = some x → ∃ y, R cs y) {fuel : Nat} {cs : List Value} {x : DataW H × List MemPlace} (h : DataW.trod enc P w 0 spare held fuel t cs = some x) :
  ∃ v l, cs = [v] ∧ SlR w (· < w.heap.size) sz R v l := by
 rcases Deep.open_slice ht h with ⟨h0, _⟩ | ⟨a, len, cap, m, n, D, Pl, hc, _, hl, hm, hmm, _, hel⟩
 ·exact ⟨_, [], h0, SlR.nil_ _ _ _ _⟩
 ·have hlm : len ≤ m := by rw [hmm]; split <;> omega
  obtain ⟨l, hll, hq⟩ := list_of (n := len) (Q := fun i y => ∃ cs', w.cells? 0 (a.add (i * sz)) sz = some cs' ∧ R cs' y) fun i hi => by
   obtain ⟨cs', h1, h2⟩ := hel i (by omega)
   rw [hs] at h1
   obtain ⟨y, hy⟩ := hR _ _ _ h2
   exact ⟨y, cs', h1, hy⟩
  refine ⟨.slice (some a) len cap, l, hc, some a, cap, by rw [hll], by omega, hm, ?_⟩
  by_cases h0 : len = 0
  ·exact .inl (List.eq_nil_of_length_eq_zero (by omega))
  ·obtain ⟨b, off, spot⟩ := a
   have hcell : ∀ (i : Nat) (hi : i < l.length), ∃ cs', cs'.length = sz ∧ R cs' l[i] ∧ ∀ j, j < sz → w.cell? ((⟨b, off, spot⟩ : Addr).add (i * sz + j)) = cs'[j]? := fun i hi => by
    obtain ⟨cs', h1, h2⟩ := hq i hi
    obtain ⟨_, h3, h4⟩ := World.cells?_some h1
    exact ⟨cs', h3, h2, fun j hj => by rw [← Deep.add_add]; exact h4 j hj⟩
   have hsp : spot = none := by
    obtain ⟨cs', h1, _, h3⟩ := hcell 0 (by omega)
    have h4 := h3 0 hsz
    rw [List.getElem?_eq_getElem (by omega)] at h4
    simpa [Addr.add] using World.cell?_spot h4
   subst hsp
   have hadd : ∀ k, (⟨b, off, none⟩ : Addr).add k = ⟨b, off + k, none⟩ := fun k => by unfold Addr.add; split <;> simp_all
   refine .inr ⟨b, off, rfl, ?_, fun i hi => ?_⟩
   ·obtain ⟨cs', h1, _, h3⟩ := hcell 0 (by omega)
    have h4 := h3 0 hsz
    rw [List.getElem?_eq_getElem (by omega), hadd] at h4
    exact World.block_lt_of_cell? w _ h4
   ·obtain ⟨cs', h1, h2, h3⟩ := hcell i hi
    refine ⟨cs', h1, h2, fun j hj => ?_⟩
    have h4 := h3 j (by omega)
    rw [hadd, List.getElem?_eq_getElem hj] at h4
    rw [Nat.add_assoc]
    exact h4
theorem slr_all {α : Type} {ok : Nat → Prop} {sz : Nat} {R : List Value → α → Prop} {v : Value} {l : List α} (h : SlR w ok sz R v l) {Q : α → Prop} (hq : ∀ cs x, R cs x → Q x) : ∀ x ∈ l, Q x := fun x hx => by
 obtain ⟨A, c, _, _, _, h3⟩ := h
 rcases h3 with rfl | ⟨b, off, _, _, hi⟩
 ·simp at hx
 ·obtain ⟨i, hl, rfl⟩ := List.getElem_of_mem hx
  obtain ⟨cs, _, hr, _⟩ := hi i hl
  exact hq cs _ hr
end
section
variable {H : Type} {enc : TypeId × Value → H} {w : World} {spare : Nat → Bool} {held : Bool}
theorem one_cell {cs : List Value} {k : Nat} {v : Value} (h : (cs.drop k).take 1 = [v]) : cs[k]? = some v := by
 have h1 : ((cs.drop k).take 1)[0]? = some v := by rw [h]; rfl
 rw [List.getElem?_take_of_lt (by omega), List.getElem?_drop] at h1
 simpa using h1
theorem trod_intf {fuel k : Nat} {cs : List Value} {x : Option (DataW H × List MemPlace)} (h : DataW.trod enc Tryz.prog w 0 spare held fuel 3 ((cs.drop k).take (Tryz.prog.cellsOf 3)) = x) (hx : x.isSome = true) : ∃ n, cs[k]? = some (.int .i64 n) ∧ I64 n := by
 obtain ⟨y, rfl⟩ := Option.isSome_iff_exists.1 hx
 obtain ⟨n, h1, _, h2⟩ := DataW.trod_int Tryz.underlying3 h
 rw [show Tryz.prog.cellsOf 3 = 1 by kernel_rfl] at h1
 exact ⟨n, one_cell h1, i64_of_wf h2⟩
theorem trod_ins {fuel : Nat} {cs : List Value} {x : DataW H × List MemPlace} (h : DataW.trod enc Tryz.prog w 0 spare held fuel 44 cs = some x) : ∃ y : LIns, RIns w (· < w.heap.size) cs y ∧ y.I := by
 obtain ⟨xs, n, _, _, hl, hxl, hf⟩ := DataW.trod_struct Tryz.underlying44 h
 have hl8 : cs.length = 8 := by rw [hl]; kernel_rfl
 have hx8 : xs.length = 8 := hxl
 have hsm : ∀ i, i < 8 → (xs[i]?).isSome = true := fun i hi => by rw [List.getElem?_eq_getElem (by omega)]; rfl
 obtain ⟨k0, e0, w0⟩ := trod_intf (hf 0 _ rfl) (hsm 0 (by omega))
 obtain ⟨k1, e1, w1⟩ := trod_intf (hf 1 _ rfl) (hsm 1 (by omega))
 obtain ⟨k2, e2, w2⟩ := trod_intf (hf 2 _ rfl) (hsm 2 (by omega))
 obtain ⟨k3, e3, w3⟩ := trod_intf (hf 3 _ rfl) (hsm 3 (by omega))
 obtain ⟨k4, e4, w4⟩ := trod_intf (hf 4 _ rfl) (hsm 4 (by omega))
 obtain ⟨k5, e5, w5⟩ := trod_intf (hf 5 _ rfl) (hsm 5 (by omega))
 have h6 : DataW.trod enc Tryz.prog w 0 spare held n 9 ((cs.drop 6).take (Tryz.prog.cellsOf 9)) = xs[6]? := hf 6 _ rfl
 rw [List.getElem?_eq_getElem (by omega), show Tryz.prog.cellsOf 9 = 1 by kernel_rfl] at h6
 obtain ⟨s, e6, _, _⟩ := DataW.trod_string Tryz.underlying9 h6
 have h7 : DataW.trod enc Tryz.prog w 0 spare held n 38 ((cs.drop 7).take (Tryz.prog.cellsOf 38)) = xs[7]? := hf 7 _ rfl
 rw [List.getElem?_eq_getElem (by omega), show Tryz.prog.cellsOf 38 = 1 by kernel_rfl] at h7
 obtain ⟨va, l, e7, hs⟩ := slr_of_trod RInt Tryz.underlying38 (show Tryz.prog.cellsOf 3 = 1 by kernel_rfl) (by omega) (fun fuel cs x h => by obtain ⟨n, h1, _, _⟩ := DataW.trod_int Tryz.underlying3 h; exact ⟨n, h1⟩) h7
 refine ⟨⟨k0, k1, k2, k3, k4, k5, s, l⟩, ⟨va, ?_, hs⟩, ⟨w0, w1, w2, w3, w4, w5⟩⟩
 have e6' := one_cell e6
 have e7' := one_cell e7
 apply List.ext_getElem?
 intro i
 by_cases hi : i < 8
 ·rcases (by omega : i = 0 ∨ i = 1 ∨ i = 2 ∨ i = 3 ∨ i = 4 ∨ i = 5 ∨ i = 6 ∨ i = 7) with rfl | rfl | rfl | rfl | rfl | rfl | rfl | rfl <;> first | exact e0 | exact e1 | exact e2 | exact e3 | exact e4 | exact e5 | exact e6' | exact e7'
 ·rw [List.getElem?_eq_none (by omega), List.getElem?_eq_none (by simp [insCells]; omega)]
theorem trod_block {fuel : Nat} {cs : List Value} {x : DataW H × List MemPlace} (h : DataW.trod enc Tryz.prog w 0 spare held fuel 48 cs = some x) : ∃ y : LBlock, RBlock w (· < w.heap.size) cs y ∧ y.I := by
 obtain ⟨xs, n, _, _, hl, hxl, hf⟩ := DataW.trod_struct Tryz.underlying48 h
 have hl5 : cs.length = 5 := by rw [hl]; kernel_rfl
 have hx2 : xs.length = 2 := hxl
 have h0 : DataW.trod enc Tryz.prog w 0 spare held n 42 ((cs.drop 0).take (Tryz.prog.cellsOf 42)) = xs[0]? := hf 0 _ rfl
 rw [List.getElem?_eq_getElem (by omega), show Tryz.prog.cellsOf 42 = 1 by kernel_rfl] at h0
 obtain ⟨vi, l, e0, hs⟩ := slr_of_trod (fun cs (y : LIns) => RIns w (· < w.heap.size) cs y ∧ y.I) Tryz.underlying42 (show Tryz.prog.cellsOf 44 = 8 by kernel_rfl) (by omega) (fun _ _ _ h => trod_ins h) h0
 have h1 : DataW.trod enc Tryz.prog w 0 spare held n 46 ((cs.drop 1).take (Tryz.prog.cellsOf 46)) = xs[1]? := hf 1 _ rfl
 rw [List.getElem?_eq_getElem (by omega), show Tryz.prog.cellsOf 46 = 4 by kernel_rfl] at h1
 obtain ⟨ys, n2, _, _, hl2, hyl, hg⟩ := DataW.trod_struct Tryz.underlying46 h1
 have hy4 : ys.length = 4 := hyl
 have hsm : ∀ i, i < 4 → (ys[i]?).isSome = true := fun i hi => by rw [List.getElem?_eq_getElem (by omega)]; rfl
 obtain ⟨k0, q0, w0⟩ := trod_intf (hg 0 _ rfl) (hsm 0 (by omega))
 obtain ⟨k1, q1, w1⟩ := trod_intf (hg 1 _ rfl) (hsm 1 (by omega))
 obtain ⟨k2, q2, w2⟩ := trod_intf (hg 2 _ rfl) (hsm 2 (by omega))
 obtain ⟨k3, q3, w3⟩ := trod_intf (hg 3 _ rfl) (hsm 3 (by omega))
 have sub : ∀ i v, ((cs.drop 1).take 4)[i]? = some v → i < 4 → cs[1 + i]? = some v := fun i v h hi => by
  rw [List.getElem?_take_of_lt hi, List.getElem?_drop] at h
  exact h
 have p0 := sub 0 _ q0 (by omega)
 have p1 := sub 1 _ q1 (by omega)
 have p2 := sub 2 _ q2 (by omega)
 have p3 := sub 3 _ q3 (by omega)
 have e0' := one_cell e0
 refine ⟨⟨l, ⟨k0, k1, k2, k3⟩⟩, ⟨vi, ?_, hs.imp (fun _ h => h) (Keeps.refl _ _) (fun _ _ _ h => h.1)⟩, ⟨slr_all hs (fun _ _ h => h.2), ⟨w0, w1, w2, w3⟩⟩⟩
 apply List.ext_getElem?
 intro i
 by_cases hi : i < 5
 ·rcases (by omega : i = 0 ∨ i = 1 ∨ i = 2 ∨ i = 3 ∨ i = 4) with rfl | rfl | rfl | rfl | rfl <;> first | exact e0' | exact p0 | exact p1 | exact p2 | exact p3
 ·rw [List.getElem?_eq_none (by omega), List.getElem?_eq_none (by simp [termCells]; omega)]
theorem open_blocks {v : Value} {d : DataW H} {ps : List MemPlace} (h : DataW.Trod enc Tryz.prog w 0 spare held 22 v d ps) (hv : ∃ A n c, v = .slice A n c) : ∃ raw : List LBlock, (∀ x ∈ raw, x.I) ∧ SlR w (· < w.heap.size) 5 (RBlock w (· < w.heap.size)) v raw := by
 obtain ⟨fuel, h⟩ := h
 obtain ⟨A, n, c, rfl⟩ := hv
 obtain ⟨u, l, e, hs⟩ := slr_of_trod (fun cs (y : LBlock) => RBlock w (· < w.heap.size) cs y ∧ y.I) Tryz.underlying22 (show Tryz.prog.cellsOf 48 = 5 by kernel_rfl) (by omega) (fun _ _ _ h => trod_block h) h
 have e' : Value.slice A n c = u := by simpa [Value.cells] using e
 subst e'
 exact ⟨l, slr_all hs (fun _ _ h => h.2), hs.imp (fun _ h => h) (Keeps.refl _ _) (fun _ _ _ h => h.1)⟩
end
end Go.Proofs.YtkpigkopjfkepaaGreatDoor
namespace Go.Proofs.YtkpigkopjfkepaaGreatDoor
open Go.ChangeShapes Go.WideShapes Go.ChangeAt Go.RowKit
section
variable {H : Type} {enc : TypeId × Value → H} {w : World} {spare : Nat → Bool} {held : Bool}
theorem open_ints_sl {v : Value} {d : DataW H} {ps : List MemPlace} (h : DataW.Trod enc Tryz.prog w 0 spare held 38 v d ps) (hv : ∃ A n c, v = .slice A n c) :
  ∃ l : List Int, SlR w (· < w.heap.size) 1 RInt v l ∧ ((d = .nil ∧ l = []) ∨ ∃ es sp, d = .slice es sp ∧ es.length = l.length) := by
 obtain ⟨fuel, h⟩ := h
 obtain ⟨A, n, c, rfl⟩ := hv
 obtain ⟨u, l, e, hs⟩ := slr_of_trod RInt Tryz.underlying38 (show Tryz.prog.cellsOf 3 = 1 by kernel_rfl) (by omega) (fun _ _ _ h => by
  obtain ⟨a, e0, _, _⟩ := DataW.trod_int Tryz.underlying3 h
  exact ⟨a, e0⟩) h
 have e' : Value.slice A n c = u := by simpa [Value.cells] using e
 subst e'
 refine ⟨l, hs, ?_⟩
 obtain ⟨A', c', hv', _, _⟩ := hs.val
 injection hv' with _ hn _
 rcases ChangeShapes.open_ints Tryz.underlying38 Tryz.underlying3 (show Tryz.prog.cellsOf 3 = 1 by kernel_rfl) h with ⟨hcs, hx⟩ | ⟨a, len, cap, zs, hcs, _, hl, hm, hz, hx, _, _⟩
 ·have e2 : Value.slice A n c = .slice none 0 0 := by simpa [Value.cells] using hcs
  injection e2 with _ h0 _
  simp only [Prod.mk.injEq] at hx
  exact .inl ⟨hx.1, List.eq_nil_of_length_eq_zero (by omega)⟩
 ·have e2 : Value.slice A n c = .slice (some a) len cap := by simpa [Value.cells] using hcs
  injection e2 with _ h0 _
  simp only [Prod.mk.injEq] at hx
  refine .inr ⟨_, _, hx.1, ?_⟩
  have hzl : len ≤ zs.length := by rw [hz]; split <;> omega
  simp [lits]
  omega
end
end Go.Proofs.YtkpigkopjfkepaaGreatDoor
