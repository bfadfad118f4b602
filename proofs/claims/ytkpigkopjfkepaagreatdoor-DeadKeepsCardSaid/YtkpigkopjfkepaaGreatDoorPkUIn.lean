/- A unit that lies in memory: what Fit, Check and Same make of it, in one form. What lies in the rows of a unit in memory, cell by cell. Printed by wip/gen_uin.py. -/
import Derived.Test.YtkpigkopjfkepaaGreatDoorPkFit
import Derived.Test.YtkpigkopjfkepaaGreatDoorPkSame
import Derived.Test.YtkpigkopjfkepaaGreatDoorPkIrCheck
import Derived.Test.YtkpigkopjfkepaaGreatDoorPkIrFit
import Derived.Test.YtkpigkopjfkepaaGreatDoorPkUnitMem
import Derived.Laws.ResultCell
namespace Go.Proofs.YtkpigkopjfkepaaGreatDoor
open Go.RowKit
open Go.Deep

theorem results_cellT {P : Program} {fn : Func} {p q : Tmp} {ty : TypeId} (h : fn.results = #[.cell p ty, .tmp q]) (tmps : Array Value) (w : World) (g : Nat) (t : TypeId) (cs : Array Value) (fr : Nat × Nat) (d : TypeDesc) (x : Value)
    (hp : tmps.getD p undef = .pointer (some ⟨g, 0, none⟩)) (hq : tmps.getD q undef = x) (hg : w.heap[g]? = some (.cells cs t fr))
    (hu : P.underlying ty = some d) (hd : (match d with | .struct _ | .array _ _ => true | _ => false) = true) (hi : (P.info? ty).map (·.size) = some cs.size) :
    (results fn tmps).run P w = .ok (.tuple #[.agg cs, x]) w := by
  rw [results_cell_tmp h, hp, hq]
  have ha : (asAddr (.pointer (some ⟨g, 0, none⟩))).run P w = .ok ⟨g, 0, none⟩ w := rfl
  rw [ha]
  show ((loadVar ty ⟨g, 0, none⟩).run P w).andThen _ = _
  rw [run_loadVar_row w g t ty cs fr d hg hu hd hi]; rfl

theorem hb_slr {α : Type} {w X : World} {sz : Nat} {R : List Value → α → Prop} {v : Value} {l : List α} (h : SlR w (· < w.heap.size) sz R v l) (hb : Below w.heap.size w X) : SlR X (· < X.heap.size) sz R v l :=
  h.imp (fun _ h => Nat.lt_of_lt_of_le h hb.size) (fun b h => hb.block b h) (fun _ _ _ r => r)
theorem hb_flows {w X : World} {v : Value} {l : List LFlow} (h : SlR w (· < w.heap.size) 4 (RFlow w (· < w.heap.size)) v l) (hb : Below w.heap.size w X) : SlR X (· < X.heap.size) 4 (RFlow X (· < X.heap.size)) v l :=
  h.imp (fun _ h => Nat.lt_of_lt_of_le h hb.size) (fun b h => hb.block b h) (fun _ _ _ r => r.imp (fun _ h => Nat.lt_of_lt_of_le h hb.size) (fun b h => hb.block b h))

structure UIn (u : LUnit) (X : World) (A1 A2 : Option Addr) (c1 c2 : Nat) : Prop where
  arr : SlR X (· < X.heap.size) 2 RArr (.slice A1 u.arrays.length c1) u.arrays
  flo : SlR X (· < X.heap.size) 4 (RFlow X (· < X.heap.size)) (.slice A2 u.flows.length c2) u.flows
section
variable {u v : LUnit} {X W : World} {A1 A2 B1 B2 : Option Addr} {c1 c2 d1 d2 : Nat}
theorem UIn.below (h : UIn u X A1 A2 c1 c2) (hb : Below X.heap.size X W) : UIn u W A1 A2 c1 c2 := ⟨hb_slr h.arr hb, hb_flows h.flo hb⟩
theorem fit_u (raw : List LBlock) (hI : ∀ x ∈ raw, x.I) (vr : Value) (w : World) (hv : SlR w (· < w.heap.size) 5 (RBlock w (· < w.heap.size)) vr raw) :
    Calls Tryz.prog 9 #[vr] w fun e w' => ∃ A1 A2 c1 c2, e = .returned (.agg #[.slice A1 (fitU raw).arrays.length c1, .slice A2 (fitU raw).flows.length c2]) ∧ Below w.heap.size w w' ∧ UIn (fitU raw) w' A1 A2 c1 c2 := by
  refine (fit_any raw hI vr w hv).mono ?_
  rintro e w' ⟨va, vf, css, rfl, hb, ha, hf⟩
  have hf' : SlR w' (· < w'.heap.size) 4 (RFlow w' (· < w'.heap.size)) vf (fitU raw).flows := (hf.slr mono_flow).imp (fun _ h => h.2) (Keeps.refl _ _) (fun _ _ _ r => r.imp (fun _ h => h.2) (Keeps.refl _ _))
  have ha' : SlR w' (· < w'.heap.size) 2 RArr va (fitU raw).arrays := ha.imp (fun _ h => h.2) (Keeps.refl _ _) (fun _ _ _ r => r)
  obtain ⟨A1, c1, e1, _, _⟩ := ha'.val
  obtain ⟨A2, c2, e2, _, _⟩ := hf'.val
  subst e1 e2
  exact ⟨A1, A2, c1, c2, rfl, hb, ha', hf'⟩
theorem check_u (hu : UnitOk u) (h : UIn u X A1 A2 c1 c2) : Calls Tryz.prog 11 #[.agg #[.slice A1 u.arrays.length c1, .slice A2 u.flows.length c2]] X fun e w' => e = .returned (.tuple #[.int .i64 0, .agg #[.int .i64 0, .int .i64 0]]) ∧ Below X.heap.size X w' :=
  check_ok u hu A1 A2 c1 c2 X h.arr h.flo
end
/-- a unit that lies in a block -/
theorem blk_unit {X : World} {A1 A2 : Option Addr} {n1 n2 c1 c2 b : Nat} {W : World} (h : Blk X b 27 #[.slice A1 n1 c1, .slice A2 n2 c2]) (hb : Below X.heap.size X W) : W.cell? ⟨b, 0, none⟩ = some (.slice A1 n1 c1) ∧ W.cell? ⟨b, 1, none⟩ = some (.slice A2 n2 c2) :=
  ⟨(h.below hb h.lt).cell 0, (h.below hb h.lt).cell 1⟩
/-! ### what lies in a unit's rows -/
theorem sl_some {α : Type} {W : World} {ok : Nat → Prop} {sz n c : Nat} {R : List Value → α → Prop} {A : Option Addr} {l : List α} (h : SlR W ok sz R (.slice A n c) l) (h0 : 0 < l.length) : ∃ g o, A = some ⟨g, o, none⟩ := by
  obtain ⟨g, o, c', e, _⟩ := h.form h0
  injection e with e1 _ _
  exact ⟨g, o, e1⟩
theorem flow_cells {W : World} {g o n c : Nat} {l : List LFlow} (h : SlR W (· < W.heap.size) 4 (RFlow W (· < W.heap.size)) (.slice (some ⟨g, o, none⟩) n c) l) {i : Nat} (hi : i < l.length) :
    ∃ Ab cb, SlR W (· < W.heap.size) 5 (RBlock W (· < W.heap.size)) (.slice Ab l[i].blocks.length cb) l[i].blocks ∧ ∀ X, Below W.heap.size W X → X.cell? ⟨g, o + i * 4, none⟩ = some (.string l[i].name) ∧ X.cell? ⟨g, o + i * 4 + 1, none⟩ = some (.int .i64 l[i].params) ∧ X.cell? ⟨g, o + i * 4 + 2, none⟩ = some (.int .i64 l[i].values) ∧ X.cell? ⟨g, o + i * 4 + 3, none⟩ = some (.slice Ab l[i].blocks.length cb) := by
  obtain ⟨g', o', c', hform, _, _, hgl, hq⟩ := h.form (by omega)
  obtain ⟨rfl, rfl⟩ : g = g' ∧ o = o' := by injection hform with h1 _ h2; injection h1 with h1; injection h1 with h1 h2; exact ⟨h1, h2⟩
  obtain ⟨cs, _, ⟨vb, hcs, hsb⟩, hcell⟩ := hq i hi
  obtain ⟨Ab, cb, hvb, _, _⟩ := hsb.val
  subst hvb
  subst hcs
  refine ⟨Ab, cb, hsb, fun X hb => ?_⟩
  have hcw := hcell.keep (hb.block g hgl)
  exact ⟨by have h := hcw.at_ (j := 0) rfl; simpa using h, hcw.at_ (j := 1) rfl, hcw.at_ (j := 2) rfl, hcw.at_ (j := 3) rfl⟩
theorem block_cells {W : World} {g o n c : Nat} {l : List LBlock} (h : SlR W (· < W.heap.size) 5 (RBlock W (· < W.heap.size)) (.slice (some ⟨g, o, none⟩) n c) l) {k : Nat} (hk : k < l.length) :
    ∃ Ai ci, SlR W (· < W.heap.size) 8 (RIns W (· < W.heap.size)) (.slice Ai l[k].ins.length ci) l[k].ins ∧ ∀ X, Below W.heap.size W X → X.cell? ⟨g, o + k * 5, none⟩ = some (.slice Ai l[k].ins.length ci) ∧ X.cell? ⟨g, o + k * 5 + 1, none⟩ = some (.int .i64 l[k].term.kind) ∧ X.cell? ⟨g, o + k * 5 + 2, none⟩ = some (.int .i64 l[k].term.a) ∧ X.cell? ⟨g, o + k * 5 + 3, none⟩ = some (.int .i64 l[k].term.to) ∧ X.cell? ⟨g, o + k * 5 + 4, none⟩ = some (.int .i64 l[k].term.els) := by
  obtain ⟨g', o', c', hform, _, _, hgl, hq⟩ := h.form (by omega)
  obtain ⟨rfl, rfl⟩ : g = g' ∧ o = o' := by injection hform with h1 _ h2; injection h1 with h1; injection h1 with h1 h2; exact ⟨h1, h2⟩
  obtain ⟨cs, _, ⟨vi, hcs, hsi⟩, hcell⟩ := hq k hk
  obtain ⟨Ai, ci, hvi, _, _⟩ := hsi.val
  subst hvi
  subst hcs
  refine ⟨Ai, ci, hsi, fun X hb => ?_⟩
  have hcw := hcell.keep (hb.block g hgl)
  exact ⟨by have h := hcw.at_ (j := 0) rfl; simpa using h, hcw.at_ (j := 1) rfl, hcw.at_ (j := 2) rfl, hcw.at_ (j := 3) rfl, hcw.at_ (j := 4) rfl⟩
theorem ins_cells {W : World} {g o n c : Nat} {l : List LIns} (h : SlR W (· < W.heap.size) 8 (RIns W (· < W.heap.size)) (.slice (some ⟨g, o, none⟩) n c) l) {j : Nat} (hj : j < l.length) :
    ∃ Ax cx, SlR W (· < W.heap.size) 1 RInt (.slice Ax l[j].args.length cx) l[j].args ∧ ∀ X, Below W.heap.size W X → X.cell? ⟨g, o + j * 8, none⟩ = some (.int .i64 l[j].kind) ∧ X.cell? ⟨g, o + j * 8 + 1, none⟩ = some (.int .i64 l[j].d) ∧ X.cell? ⟨g, o + j * 8 + 2, none⟩ = some (.int .i64 l[j].a) ∧ X.cell? ⟨g, o + j * 8 + 3, none⟩ = some (.int .i64 l[j].b) ∧ X.cell? ⟨g, o + j * 8 + 4, none⟩ = some (.int .i64 l[j].op) ∧ X.cell? ⟨g, o + j * 8 + 5, none⟩ = some (.int .i64 l[j].n) ∧ X.cell? ⟨g, o + j * 8 + 6, none⟩ = some (.string l[j].name) ∧ X.cell? ⟨g, o + j * 8 + 7, none⟩ = some (.slice Ax l[j].args.length cx) := by
  obtain ⟨g', o', c', hform, _, _, hgl, hq⟩ := h.form (by omega)
  obtain ⟨rfl, rfl⟩ : g = g' ∧ o = o' := by injection hform with h1 _ h2; injection h1 with h1; injection h1 with h1 h2; exact ⟨h1, h2⟩
  obtain ⟨cs, _, ⟨va, hcs, hsa⟩, hcell⟩ := hq j hj
  obtain ⟨Ax, cx, hva, _, _⟩ := hsa.val
  subst hva
  subst hcs
  refine ⟨Ax, cx, hsa, fun X hb => ?_⟩
  have hcw := hcell.keep (hb.block g hgl)
  exact ⟨by have h := hcw.at_ (j := 0) rfl; simpa using h, hcw.at_ (j := 1) rfl, hcw.at_ (j := 2) rfl, hcw.at_ (j := 3) rfl, hcw.at_ (j := 4) rfl, hcw.at_ (j := 5) rfl, hcw.at_ (j := 6) rfl, hcw.at_ (j := 7) rfl⟩
end Go.Proofs.YtkpigkopjfkepaaGreatDoor
