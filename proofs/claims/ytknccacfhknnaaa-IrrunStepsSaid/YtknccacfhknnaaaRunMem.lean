/- How a run of irrun lies in memory. -/
import Derived.Test.YtknccacfhknnaaaIrCheck
import Derived.Test.YtknccacfhknnaaaRunPlain
namespace Go.Proofs.Ytknccacfhknnaaa
open Go.RowKit

/-- a call: its own block, its values' block, the function's blocks from before -/
structure CallAt (w : World) (base cb vb : Nat) (c : MCall) (A : Option Addr) (k : Nat) : Prop where
  blocks : SlR w (· < base) 5 (RBlock w (· < base)) (.slice A c.flow.blocks.length k) c.flow.blocks
  blk : Blk w cb 115 #[.string c.flow.name, .int .i64 c.flow.params, .int .i64 c.flow.values, .slice A c.flow.blocks.length k, .slice (some ⟨vb, 0, none⟩) c.values.length c.values.length, .int .i64 c.block, .int .i64 c.at_, .int .i64 c.into]
  vals : Blk w vb 3 (c.values.map (Value.int .i64)).toArray
  cge : base ≤ cb
  vge : base ≤ vb
/-- the run's own block -/
def runCells (u : LUnit) (A1 A2 : Option Addr) (c1 c2 mb : Nat) (vin vcalls vout : Value) (m : MRun) : Array Value :=
  #[.slice A1 u.arrays.length c1, .slice A2 u.flows.length c2, .map (some mb), vin, vcalls, .int .i64 m.status, .int .i64 m.code, vout, .int .i64 m.steps]
/-- all but the run's own block and the arrays -/
structure RunRest (w : World) (base : Nat) (u : LUnit) (A1 A2 : Option Addr) (c1 c2 : Nat) (vin vcalls vout : Value) (cbs vbs : List Nat) (inp out : List Int) (calls : List MCall) : Prop where
  arrs : SlR w (· < base) 2 RArr (.slice A1 u.arrays.length c1) u.arrays
  flows : SlR w (· < base) 4 (RFlow w (· < base)) (.slice A2 u.flows.length c2) u.flows
  inp : SlR w (· < base) 1 RInt vin inp
  row : w.ownsRow base 113 1 vcalls cbs.length (cbs.reverse.map fun b => .pointer (some ⟨b, 0, none⟩))
  out : w.ownsRow base 3 1 vout out.length (out.map (Value.int .i64))
  len1 : cbs.length = calls.length
  len2 : vbs.length = calls.length
  call : ∀ (i : Nat) (h : i < calls.length) (h1 : i < cbs.length) (h2 : i < vbs.length), ∃ A k, CallAt w base cbs[i] vbs[i] calls[i] A k
  nd1 : cbs.Nodup
  nd2 : vbs.Nodup
  outv : ∀ g, vout.ownBlock = some g → g ∉ vbs
theorem CallAt.keep {w w' : World} {base cb vb : Nat} {c : MCall} {A : Option Addr} {k : Nat} {row : Option Nat} (h : CallAt w base cb vb c A k) (hb : Keeps (· < base) w w') (hg : w.grownBy w' row) (h1 : row ≠ some cb) (h2 : row ≠ some vb) : CallAt w' base cb vb c A k :=
  ⟨h.blocks.imp (fun _ h => h) hb (fun _ _ _ r => r.imp (fun _ h => h) hb), h.blk.grown hg h1, h.vals.grown hg h2, h.cge, h.vge⟩
theorem keeps_grown {w w' : World} {base : Nat} {row : Option Nat} (hg : w.grownBy w' row) (hr : ∀ k, row = some k → base ≤ k) (hb : base ≤ w.heap.size) : Keeps (· < base) w w' := fun b h => hg.block b (Nat.lt_of_lt_of_le h hb) (fun e => by have := hr b e.symm; omega)
theorem kept_or {o row : Option Nat} (h : row ≠ none → row ≠ o) : o = none ∨ o ≠ row := by
  cases o with
  | none => exact .inl rfl
  | some k => exact .inr fun e => h (by rw [← e]; simp) e.symm
theorem RunRest.keep {w w' : World} {base : Nat} {u : LUnit} {A1 A2 : Option Addr} {c1 c2 : Nat} {vin vcalls vout : Value} {cbs vbs : List Nat} {inp out : List Int} {calls : List MCall} {row : Option Nat}
    (h : RunRest w base u A1 A2 c1 c2 vin vcalls vout cbs vbs inp out calls) (hg : w.grownBy w' row) (hr : ∀ k, row = some k → base ≤ k) (hb : base ≤ w.heap.size) (h1 : ∀ b ∈ cbs, row ≠ some b) (h2 : ∀ b ∈ vbs, row ≠ some b) (h3 : row ≠ none → row ≠ vcalls.ownBlock) (h4 : row ≠ none → row ≠ vout.ownBlock) :
    RunRest w' base u A1 A2 c1 c2 vin vcalls vout cbs vbs inp out calls := by
  have kp := keeps_grown hg hr hb
  refine ⟨h.arrs.imp (fun _ h => h) kp (fun _ _ _ r => r), h.flows.imp (fun _ h => h) kp (fun _ _ _ r => r.imp (fun _ h => h) kp), h.inp.imp (fun _ h => h) kp (fun _ _ _ r => r), h.row.kept hg (kept_or h3), h.out.kept hg (kept_or h4), h.len1, h.len2, fun i hi ha hv => ?_, h.nd1, h.nd2, h.outv⟩
  obtain ⟨A, k, hc⟩ := h.call i hi ha hv
  exact ⟨A, k, hc.keep kp hg (h1 _ (List.getElem_mem _)) (h2 _ (List.getElem_mem _))⟩
/-- a block of another type is none of a row's -/
theorem own_ne {w : World} {base : Nat} {e t : TypeId} {size : Nat} {v : Value} {n : Nat} {xs : List Value} {b : Nat} {cs : Array Value} (h : w.ownsRow base e size v n xs) (hb : Blk w b t cs) (ht : t ≠ e) : some b ≠ v.ownBlock := fun e' => by
  rcases h.2 with ⟨hn, _⟩ | ⟨g, cap, cur, hv, _, hg, _⟩
  · rw [hn] at e'; cases e'
  · rw [hv] at e'
    have : b = g := by simpa [Value.ownBlock] using e'
    subst this
    rw [Blk, hg] at hb
    injection hb with hb
    injection hb with _ h2 _
    exact ht h2.symm
theorem blk_ne {w : World} {b b' : Nat} {t t' : TypeId} {cs cs' : Array Value} (h : Blk w b t cs) (h' : Blk w b' t' cs') (ht : t ≠ t') : b ≠ b' := fun e => by
  subst e
  rw [Blk, h'] at h
  injection h with h
  injection h with _ h2 _
  exact ht h2.symm
theorem RunRest.run_ne {w : World} {base : Nat} {u : LUnit} {A1 A2 : Option Addr} {c1 c2 : Nat} {vin vcalls vout : Value} {cbs vbs : List Nat} {inp out : List Int} {calls : List MCall} {rb : Nat} {cs : Array Value}
    (h : RunRest w base u A1 A2 c1 c2 vin vcalls vout cbs vbs inp out calls) (hb : Blk w rb 80 cs) : (∀ b ∈ cbs, some rb ≠ some b) ∧ (∀ b ∈ vbs, some rb ≠ some b) ∧ (some rb ≠ vcalls.ownBlock) ∧ some rb ≠ vout.ownBlock := by
  refine ⟨fun b hm => ?_, fun b hm => ?_, own_ne h.row hb (by decide), own_ne h.out hb (by decide)⟩
  · obtain ⟨i, hi, rfl⟩ := List.getElem_of_mem hm
    have h1 := h.len1
    have h2 := h.len2
    obtain ⟨A, k, hc⟩ := h.call i (by omega) hi (by omega)
    exact fun e => blk_ne hb hc.blk (by decide) (by injection e)
  · obtain ⟨i, hi, rfl⟩ := List.getElem_of_mem hm
    have h1 := h.len1
    have h2 := h.len2
    obtain ⟨A, k, hc⟩ := h.call i (by omega) (by omega) hi
    exact fun e => blk_ne hb hc.vals (by decide) (by injection e)
/-- what only turns the run's own block keeps the rest -/
theorem RunRest.run_keep {w w' : World} {base : Nat} {u : LUnit} {A1 A2 : Option Addr} {c1 c2 : Nat} {vin vcalls vout : Value} {cbs vbs : List Nat} {inp out : List Int} {calls : List MCall} {rb : Nat} {cs : Array Value}
    (h : RunRest w base u A1 A2 c1 c2 vin vcalls vout cbs vbs inp out calls) (hb : Blk w rb 80 cs) (hr : base ≤ rb) (hg : w.grownBy w' (some rb)) : RunRest w' base u A1 A2 c1 c2 vin vcalls vout cbs vbs inp out calls := by
  obtain ⟨h1, h2, h3, h4⟩ := h.run_ne hb
  exact h.keep hg (fun k e => by injection e with e; omega) (Nat.le_trans hr (Nat.le_of_lt hb.lt)) h1 h2 (fun _ => h3) (fun _ => h4)
end Go.Proofs.Ytknccacfhknnaaa
