/- How a run of irrun as a plain state lies in memory, and what each kind of change of memory makes of it. No walk in sight. -/
import Derived.Test.YtknccacfhknnaaaRunEnter
namespace Go.Proofs.Ytknccacfhknnaaa
open Go.RowKit

/-- the run's state lies in memory -/
structure RunAtX (w : World) (base rb mb : Nat) (u : LUnit) (A1 A2 : Option Addr) (c1 c2 : Nat) (m : MRun) (vin vcalls vout : Value) (cbs vbs gs : List Nat) (nD : Nat) (D : DataW Value) : Prop where
  run : RunBlk w rb (.slice A1 u.arrays.length c1) (.slice A2 u.flows.length c2) (.map (some mb)) vin vcalls m.status m.code vout m.steps
  rest : RunRest w base u A1 A2 c1 c2 vin vcalls vout cbs vbs m.inp m.out m.calls
  arrs : ArrsAt w base mb nD D gs m.arrays
  gv : ∀ g ∈ gs, g ∉ vbs
  go : ∀ g ∈ gs, vout.ownBlock ≠ some g
  rge : base ≤ rb
  bw : base ≤ w.heap.size
def RunAt (w : World) (base rb mb : Nat) (u : LUnit) (A1 A2 : Option Addr) (c1 c2 : Nat) (m : MRun) : Prop :=
  ∃ vin vcalls vout cbs vbs gs nD D, RunAtX w base rb mb u A1 A2 c1 c2 m vin vcalls vout cbs vbs gs nD D

theorem CallAt.same {w w' : World} {base cb vb : Nat} {c : MCall} {A : Option Addr} {k : Nat} (h : CallAt w base cb vb c A k) (kp : Keeps (· < base) w w') (h1 : w'.heap[cb]? = w.heap[cb]?) (h2 : w'.heap[vb]? = w.heap[vb]?) : CallAt w' base cb vb c A k :=
  ⟨h.blocks.imp (fun _ h => h) kp (fun _ _ _ r => r.imp (fun _ h => h) kp), h.blk.keep h1, h.vals.keep h2, h.cge, h.vge⟩
/-- the same, but for the call that goes on last -/
theorem RunRest.top {w w' : World} {base : Nat} {u : LUnit} {A1 A2 : Option Addr} {c1 c2 : Nat} {vin vcalls vout : Value} {cb vb : Nat} {cbs vbs : List Nat} {inp out : List Int} {c c' : MCall} {r : List MCall} {A : Option Addr} {k : Nat}
    (h : RunRest w base u A1 A2 c1 c2 vin vcalls vout (cb :: cbs) (vb :: vbs) inp out (c :: r)) (kp : Keeps (· < base) w w') (hvc : ∀ g, vcalls.ownBlock = some g → w'.heap[g]? = w.heap[g]?) (hvo : ∀ g, vout.ownBlock = some g → w'.heap[g]? = w.heap[g]?)
    (hcs : ∀ b ∈ cbs, w'.heap[b]? = w.heap[b]?) (hvs : ∀ b ∈ vbs, w'.heap[b]? = w.heap[b]?) (ht : CallAt w' base cb vb c' A k) : RunRest w' base u A1 A2 c1 c2 vin vcalls vout (cb :: cbs) (vb :: vbs) inp out (c' :: r) := by
  refine ⟨h.arrs.imp (fun _ h => h) kp (fun _ _ _ r => r), h.flows.imp (fun _ h => h) kp (fun _ _ _ r => r.imp (fun _ h => h) kp), h.inp.imp (fun _ h => h) kp (fun _ _ _ r => r), own_keep h.row hvc, own_keep h.out hvo, h.len1, h.len2, fun i hi ha hv => ?_, h.nd1, h.nd2, h.outv⟩
  cases i with
  | zero => exact ⟨A, k, ht⟩
  | succ i =>
    obtain ⟨A', k', hc⟩ := h.call (i + 1) (by simpa using hi) ha hv
    exact ⟨A', k', hc.same kp (hcs _ (by simp [List.getElem_cons_succ])) (hvs _ (by simp [List.getElem_cons_succ]))⟩
theorem RunRest.same {w w' : World} {base : Nat} {u : LUnit} {A1 A2 : Option Addr} {c1 c2 : Nat} {vin vin' vcalls vout : Value} {cbs vbs : List Nat} {inp inp' out : List Int} {calls : List MCall}
    (h : RunRest w base u A1 A2 c1 c2 vin vcalls vout cbs vbs inp out calls) (kp : Keeps (· < base) w w') (hvc : ∀ g, vcalls.ownBlock = some g → w'.heap[g]? = w.heap[g]?) (hvo : ∀ g, vout.ownBlock = some g → w'.heap[g]? = w.heap[g]?)
    (hcs : ∀ b ∈ cbs, w'.heap[b]? = w.heap[b]?) (hvs : ∀ b ∈ vbs, w'.heap[b]? = w.heap[b]?) (hin : SlR w' (· < base) 1 RInt vin' inp') : RunRest w' base u A1 A2 c1 c2 vin' vcalls vout cbs vbs inp' out calls := by
  refine ⟨h.arrs.imp (fun _ h => h) kp (fun _ _ _ r => r), h.flows.imp (fun _ h => h) kp (fun _ _ _ r => r.imp (fun _ h => h) kp), hin, own_keep h.row hvc, own_keep h.out hvo, h.len1, h.len2, fun i hi ha hv => ?_, h.nd1, h.nd2, h.outv⟩
  obtain ⟨A', k', hc⟩ := h.call i hi ha hv
  exact ⟨A', k', hc.same kp (hcs _ (List.getElem_mem _)) (hvs _ (List.getElem_mem _))⟩
theorem ArrsAt.same {w w' : World} {base mb n : Nat} {D : DataW Value} {gs : List Nat} {arrays : List (ByteArray × List Int)} (h : ArrsAt w base mb n D gs arrays) (h1 : w'.heap[mb]? = w.heap[mb]?) (h2 : ∀ g ∈ gs, w'.heap[g]? = w.heap[g]?) : ArrsAt w' base mb n D gs arrays := by
  refine ⟨?_, h.len, fun i hi hi1 => ?_, h.nd, h.names, h.mge⟩
  · obtain ⟨es, clock, hb, r⟩ := h.map
    exact ⟨es, clock, by rw [h1]; exact hb, r⟩
  · obtain ⟨a, b, c⟩ := h.each i hi hi1
    exact ⟨a, b.keep (h2 _ (List.getElem_mem _)), c⟩

section
variable {w w' : World} {base rb mb : Nat} {u : LUnit} {A1 A2 : Option Addr} {c1 c2 : Nat} {m : MRun} {vin vcalls vout : Value} {cbs vbs gs : List Nat} {nD : Nat} {D : DataW Value}

theorem RunAtX.cb_blk (h : RunAtX w base rb mb u A1 A2 c1 c2 m vin vcalls vout cbs vbs gs nD D) {b : Nat} (hb : b ∈ cbs) : base ≤ b ∧ ∃ cs, Blk w b 115 cs := by
  obtain ⟨i, hi, rfl⟩ := List.getElem_of_mem hb
  have h1 := h.rest.len1
  have h2 := h.rest.len2
  obtain ⟨A, k, hc⟩ := h.rest.call i (by omega) hi (by omega)
  exact ⟨hc.cge, _, hc.blk⟩
theorem RunAtX.vb_blk (h : RunAtX w base rb mb u A1 A2 c1 c2 m vin vcalls vout cbs vbs gs nD D) {b : Nat} (hb : b ∈ vbs) : base ≤ b ∧ ∃ cs, Blk w b 3 cs := by
  obtain ⟨i, hi, rfl⟩ := List.getElem_of_mem hb
  have h1 := h.rest.len1
  have h2 := h.rest.len2
  obtain ⟨A, k, hc⟩ := h.rest.call i (by omega) (by omega) hi
  exact ⟨hc.vge, _, hc.vals⟩
theorem RunAtX.mb_lt (h : RunAtX w base rb mb u A1 A2 c1 c2 m vin vcalls vout cbs vbs gs nD D) : mb < w.heap.size := h.arrs.map.lt

/-- only a values' block, and blocks that are new, have turned: a value of the call that goes on last is set -/
theorem RunAtX.put {cb vb : Nat} {c : MCall} {r : List MCall} (h : RunAtX w base rb mb u A1 A2 c1 c2 m vin vcalls vout (cb :: cbs) (vb :: vbs) gs nD D) (hm : m.calls = c :: r) {w1 : World} (hg : w.grownBy w1 none) {d v : Int} (hw : w' = w1.setCell ⟨vb, d.toNat, none⟩ (.int .i64 v)) :
    RunAtX w' base rb mb u A1 A2 c1 c2 (m.top (c.put d v)) vin vcalls vout (cb :: cbs) (vb :: vbs) gs nD D ∧ Chg w w' (base ≤ ·) := by
  have hs : ∀ b, b < w.heap.size → b ≠ vb → w'.heap[b]? = w.heap[b]? := fun b hb hn => by rw [hw, Below.heap_setCell w1 _ _ b hn, hg.block b hb (by simp)]
  obtain ⟨hvge, _, hvb⟩ := h.vb_blk (b := vb) (by simp)
  have hrest := h.rest
  rw [hm] at hrest
  obtain ⟨A, k, hc⟩ := hrest.call 0 (by simp) (by simp) (by simp)
  simp only [List.getElem_cons_zero] at hc
  have hsz : w.heap.size ≤ w'.heap.size := by rw [hw]; have := hg.size; simpa [World.setCell] using this
  have kp : Keeps (· < base) w w' := fun b hb => hs b (Nat.lt_of_lt_of_le hb h.bw) (by omega)
  have hnd := h.rest.nd2
  rw [List.nodup_cons] at hnd
  have hne : ∀ b ∈ cb :: cbs, b ≠ vb := fun b hb => by obtain ⟨_, _, hbb⟩ := h.cb_blk hb; exact blk_ne hbb hvb (by decide)
  refine ⟨⟨?_, ?_, ?_, h.gv, h.go, h.rge, Nat.le_trans h.bw hsz⟩, ⟨by rw [hw]; exact hg.os, by rw [hw]; exact hg.tape, by rw [hw]; exact hg.output, hsz, fun b hb hn => hs b hb (by omega)⟩⟩
  · exact ⟨h.run.blk.keep (hs rb h.run.blk.lt (blk_ne h.run.blk hvb (by decide)))⟩
  · have e : (m.top (c.put d v)).calls = c.put d v :: r := by simp [MRun.top, hm]
    rw [e]
    show RunRest w' base u A1 A2 c1 c2 vin vcalls vout (cb :: cbs) (vb :: vbs) m.inp m.out (c.put d v :: r)
    refine hrest.top (A := A) (k := k) kp (fun g e => hs g (h.rest.row.lt g e).2 (fun e' => own_ne h.rest.row hvb (by decide) (by rw [e, e']))) (fun g e => hs g (h.rest.out.lt g e).2 (fun e' => h.rest.outv g e (by simp [e']))) (fun b hb => hs b ?_ (hne b (by simp [hb]))) (fun b hb => hs b ?_ (fun e' => hnd.1 (e' ▸ hb))) ?_
    · obtain ⟨_, _, hbb⟩ := h.cb_blk (b := b) (by simp [hb]); exact hbb.lt
    · obtain ⟨_, _, hbb⟩ := h.vb_blk (b := b) (by simp [hb]); exact hbb.lt
    · refine ⟨hc.blocks.imp (fun _ h => h) kp (fun _ _ _ r => r.imp (fun _ h => h) kp), ?_, ?_, hc.cge, hc.vge⟩
      · have := hc.blk.keep (hs cb hc.blk.lt (hne cb (by simp)))
        simpa [MCall.put] using this
      · have h1 : Blk w1 vb 3 (c.values.map (Value.int .i64)).toArray := hc.vals.grown hg (by simp)
        have h2 := h1.set_ d.toNat (.int .i64 v)
        rw [map_set_ints] at h2
        rw [hw]
        exact h2
  · exact h.arrs.same (hs mb h.mb_lt (fun e => map_blk h.arrs.map hvb e.symm)) (fun g hg => by obtain ⟨_, _, hbb⟩ := h.arrs.mem_blk hg; exact hs g hbb.lt (fun e => h.gv g hg (by simp [e])))

/-- only the run's block, and blocks that are new, have turned -/
theorem RunAtX.own (h : RunAtX w base rb mb u A1 A2 c1 c2 m vin vcalls vout cbs vbs gs nD D) (hg : w.grownBy w' (some rb)) {m' : MRun} {vin' : Value} (h1 : RunBlk w' rb (.slice A1 u.arrays.length c1) (.slice A2 u.flows.length c2) (.map (some mb)) vin' vcalls m'.status m'.code vout m'.steps) (h2 : m'.arrays = m.arrays) (h3 : m'.calls = m.calls) (h4 : m'.out = m.out) (hin : SlR w' (· < base) 1 RInt vin' m'.inp) :
    RunAtX w' base rb mb u A1 A2 c1 c2 m' vin' vcalls vout cbs vbs gs nD D ∧ Chg w w' (base ≤ ·) := by
  have hs : ∀ b, b < w.heap.size → b ≠ rb → w'.heap[b]? = w.heap[b]? := fun b hb hn => hg.block b hb (fun e => hn (by injection e))
  have hr := h.run.blk
  have hrge := h.rge
  refine ⟨⟨h1, ?_, ?_, h.gv, h.go, h.rge, Nat.le_trans h.bw hg.size⟩, ⟨hg.os, hg.tape, hg.output, hg.size, fun b hb hn => hs b hb (by omega)⟩⟩
  · rw [h3, h4]
    exact h.rest.same (fun b hb => hs b (Nat.lt_of_lt_of_le hb h.bw) (by omega)) (fun g e => hs g (h.rest.row.lt g e).2 (fun e' => own_ne h.rest.row hr (by decide) (by rw [e, e']))) (fun g e => hs g (h.rest.out.lt g e).2 (fun e' => own_ne h.rest.out hr (by decide) (by rw [e, e'])))
      (fun b hb => by obtain ⟨_, _, hbb⟩ := h.cb_blk hb; exact hs b hbb.lt (blk_ne hbb hr (by decide))) (fun b hb => by obtain ⟨_, _, hbb⟩ := h.vb_blk hb; exact hs b hbb.lt (blk_ne hbb hr (by decide))) hin
  · rw [h2]
    exact h.arrs.same (hs mb h.mb_lt (fun e => map_blk h.arrs.map hr e.symm)) (fun g hg => by obtain ⟨_, _, hbb⟩ := h.arrs.mem_blk hg; exact hs g hbb.lt (blk_ne hbb hr (by decide)))
theorem RunAtX.inp_keep (h : RunAtX w base rb mb u A1 A2 c1 c2 m vin vcalls vout cbs vbs gs nD D) (hc : Chg w w' (base ≤ ·)) : SlR w' (· < base) 1 RInt vin m.inp :=
  h.rest.inp.imp (fun _ h => h) (fun b hb => hc.block b (Nat.lt_of_lt_of_le hb h.bw) (by omega)) (fun _ _ _ r => r)
/-- the run stops -/
theorem RunAtX.stop (h : RunAtX w base rb mb u A1 A2 c1 c2 m vin vcalls vout cbs vbs gs nD D) (hg : w.grownBy w' (some rb)) {s co : Int} (h1 : RunBlk w' rb (.slice A1 u.arrays.length c1) (.slice A2 u.flows.length c2) (.map (some mb)) vin vcalls s co vout m.steps) :
    RunAtX w' base rb mb u A1 A2 c1 c2 (m.stop s co) vin vcalls vout cbs vbs gs nD D ∧ Chg w w' (base ≤ ·) :=
  h.own hg (m' := m.stop s co) h1 rfl rfl rfl (h.inp_keep (Chg.of_grown hg (fun k e _ => by injection e with e; rw [← e]; exact h.rge)))
/-- nothing but blocks that are new -/
theorem RunAtX.grown (h : RunAtX w base rb mb u A1 A2 c1 c2 m vin vcalls vout cbs vbs gs nD D) (hg : w.grownBy w' none) : RunAtX w' base rb mb u A1 A2 c1 c2 m vin vcalls vout cbs vbs gs nD D := by
  have hg' : w.grownBy w' (some rb) := ⟨hg.os, hg.tape, hg.output, hg.size, fun k hk _ => hg.block k hk (by simp)⟩
  exact (h.own hg' ⟨h.run.blk.grown hg (by simp)⟩ rfl rfl rfl (h.inp_keep (Chg.of_grown hg (fun k e _ => by cases e)))).1

/-- a number of an array is set -/
theorem RunAtX.store (h : RunAtX w base rb mb u A1 A2 c1 c2 m vin vcalls vout cbs vbs gs nD D) {w1 : World} (hg : w.grownBy w1 none) {i k : Nat} {v : Int} (hi : i < m.arrays.length) (hi1 : i < gs.length) (hw : w' = w1.setCell ⟨gs[i], k, none⟩ (.int .i64 v)) :
    RunAtX w' base rb mb u A1 A2 c1 c2 { m with arrays := setArr m.arrays m.arrays[i].1 k v } vin vcalls vout cbs vbs gs nD D ∧ Chg w w' (base ≤ ·) := by
  have h1 := h.grown hg
  obtain ⟨hge, cs, hgb⟩ := h1.arrs.mem_blk (g := gs[i]) (List.getElem_mem _)
  have hs : ∀ b, b ≠ gs[i] → w'.heap[b]? = w1.heap[b]? := fun b hn => by rw [hw, Below.heap_setCell w1 _ _ b hn]
  have hsz : w1.heap.size = w'.heap.size := by rw [hw]; simp [World.setCell]
  refine ⟨⟨?_, ?_, ?_, h.gv, h.go, h.rge, ?_⟩, ?_⟩
  · exact ⟨h1.run.blk.keep (hs rb (blk_ne h1.run.blk hgb (by decide)))⟩
  · refine h1.rest.same (fun b hb => hs b (by omega)) (fun g e => hs g (fun e' => own_ne h1.rest.row hgb (by decide) (by rw [e, e']))) (fun g e => hs g (fun e' => h.go gs[i] (List.getElem_mem _) (by rw [e, e'])))
      (fun b hb => by obtain ⟨_, _, hbb⟩ := h1.cb_blk hb; exact hs b (blk_ne hbb hgb (by decide))) (fun b hb => hs b (fun e => h.gv gs[i] (List.getElem_mem _) (e ▸ hb))) (h1.rest.inp.imp (fun _ h => h) (fun b hb => hs b (by omega)) (fun _ _ _ r => r))
  · rw [hw]; exact h1.arrs.store hi hi1 k v
  · rw [← hsz]; exact h1.bw
  · exact (Chg.of_grown hg (fun k e _ => by cases e)).trans (by rw [hw]; exact Chg.of_grown (grown_set1 w1 ⟨gs[i], k, none⟩ _) (fun k e _ => by injection e with e; rw [← e]; exact hge))

/-- the call that goes on last stands elsewhere -/
theorem RunAtX.at_ {cb vb : Nat} {c : MCall} {r : List MCall} {bl at_ : Int} (h : RunAtX w base rb mb u A1 A2 c1 c2 m vin vcalls vout (cb :: cbs) (vb :: vbs) gs nD D) (hm : m.calls = c :: r) (hg : w.grownBy w' (some cb)) {A : Option Addr} {k : Nat} (hA : ∃ cs, Blk w cb 115 cs ∧ cs[3]? = some (.slice A c.flow.blocks.length k))
    (hb : CallBlk w' cb c.flow.name c.flow.params c.flow.values (.slice A c.flow.blocks.length k) (.slice (some ⟨vb, 0, none⟩) c.values.length c.values.length) bl at_ c.into) :
    RunAtX w' base rb mb u A1 A2 c1 c2 (m.top { c with block := bl, at_ := at_ }) vin vcalls vout (cb :: cbs) (vb :: vbs) gs nD D ∧ Chg w w' (base ≤ ·) := by
  have hs : ∀ b, b < w.heap.size → b ≠ cb → w'.heap[b]? = w.heap[b]? := fun b hb hn => hg.block b hb (fun e => hn (by injection e))
  obtain ⟨hcge, _, hcb⟩ := h.cb_blk (b := cb) (by simp)
  have hrest := h.rest
  rw [hm] at hrest
  obtain ⟨A', k', hc⟩ := hrest.call 0 (by simp) (by simp) (by simp)
  simp only [List.getElem_cons_zero] at hc
  obtain ⟨cs, hcs, h3⟩ := hA
  have e1 : cs = #[.string c.flow.name, .int .i64 c.flow.params, .int .i64 c.flow.values, .slice A' c.flow.blocks.length k', .slice (some ⟨vb, 0, none⟩) c.values.length c.values.length, .int .i64 c.block, .int .i64 c.at_, .int .i64 c.into] := by
    have h5 := hc.blk
    rw [Blk, hcs] at h5
    injection h5 with h5
    injection h5
  rw [e1] at h3
  simp at h3
  obtain ⟨rfl, rfl⟩ := h3
  have kp : Keeps (· < base) w w' := fun b hb => hs b (Nat.lt_of_lt_of_le hb h.bw) (by omega)
  have hnd := h.rest.nd1
  rw [List.nodup_cons] at hnd
  have hne : ∀ b ∈ vb :: vbs, b ≠ cb := fun b hb => by obtain ⟨_, _, hbb⟩ := h.vb_blk hb; exact blk_ne hbb hcb (by decide)
  refine ⟨⟨?_, ?_, ?_, h.gv, h.go, h.rge, Nat.le_trans h.bw hg.size⟩, ⟨hg.os, hg.tape, hg.output, hg.size, fun b hb hn => hs b hb (by omega)⟩⟩
  · exact ⟨h.run.blk.keep (hs rb h.run.blk.lt (blk_ne h.run.blk hcb (by decide)))⟩
  · have e : (m.top { c with block := bl, at_ := at_ }).calls = { c with block := bl, at_ := at_ } :: r := by simp [MRun.top, hm]
    rw [e]
    show RunRest w' base u A1 A2 c1 c2 vin vcalls vout (cb :: cbs) (vb :: vbs) m.inp m.out ({ c with block := bl, at_ := at_ } :: r)
    refine hrest.top (A := A') (k := k') kp (fun g e => hs g (h.rest.row.lt g e).2 (fun e' => own_ne h.rest.row hcb (by decide) (by rw [e, e']))) (fun g e => hs g (h.rest.out.lt g e).2 (fun e' => own_ne h.rest.out hcb (by decide) (by rw [e, e']))) (fun b hb => hs b ?_ (fun e' => hnd.1 (e' ▸ hb))) (fun b hb => hs b ?_ (hne b (by simp [hb]))) ?_
    · obtain ⟨_, _, hbb⟩ := h.cb_blk (b := b) (by simp [hb]); exact hbb.lt
    · obtain ⟨_, _, hbb⟩ := h.vb_blk (b := b) (by simp [hb]); exact hbb.lt
    · exact ⟨hc.blocks.imp (fun _ h => h) kp (fun _ _ _ r => r.imp (fun _ h => h) kp), hb.blk, hc.vals.keep (hs vb hc.vals.lt (hne vb (by simp))), hc.cge, hc.vge⟩
  · exact h.arrs.same (hs mb h.mb_lt (fun e => map_blk h.arrs.map hcb e.symm)) (fun g hg => by obtain ⟨_, _, hbb⟩ := h.arrs.mem_blk hg; exact hs g hbb.lt (blk_ne hbb hcb (by decide)))

/-- a number more is told -/
theorem RunAtX.print {z : Int} {g' cap' : Nat} (h : RunAtX w base rb mb u A1 A2 c1 c2 m vin vcalls vout cbs vbs gs nD D) (h1 : RunBlk w' rb (.slice A1 u.arrays.length c1) (.slice A2 u.flows.length c2) (.map (some mb)) vin vcalls m.status m.code (.slice (some ⟨g', 0, none⟩) (m.out.length + 1) cap') m.steps)
    (ho : w'.ownsRow base 3 1 (.slice (some ⟨g', 0, none⟩) (m.out.length + 1) cap') (m.out.length + 1) (m.out.map (Value.int .i64) ++ [.int .i64 z])) (how : vout.ownBlock = some g' ∨ w.heap.size ≤ g') (hc : Chg w w' (fun b => b = rb ∨ vout.ownBlock = some b)) :
    RunAtX w' base rb mb u A1 A2 c1 c2 { m with out := m.out ++ [z] } vin vcalls (.slice (some ⟨g', 0, none⟩) (m.out.length + 1) cap') cbs vbs gs nD D ∧ Chg w w' (base ≤ ·) := by
  have hr := h.run.blk
  have hrge := h.rge
  have hge : ∀ b, b = rb ∨ vout.ownBlock = some b → base ≤ b := fun b hb => hb.elim (fun e => by omega) (fun e => (h.rest.out.lt b e).1)
  have hs : ∀ b, b < w.heap.size → b ≠ rb → vout.ownBlock ≠ some b → w'.heap[b]? = w.heap[b]? := fun b hb h1 h2 => hc.block b hb (fun e => e.elim h1 h2)
  have kp : Keeps (· < base) w w' := fun b hb => hc.block b (Nat.lt_of_lt_of_le hb h.bw) (fun e => by have := hge b e; omega)
  have hcb : ∀ b ∈ cbs, w'.heap[b]? = w.heap[b]? := fun b hb => by
    obtain ⟨_, _, hbb⟩ := h.cb_blk hb
    exact hs b hbb.lt (blk_ne hbb hr (by decide)) (fun e => own_ne h.rest.out hbb (by decide) e.symm)
  have hvb : ∀ b ∈ vbs, w'.heap[b]? = w.heap[b]? := fun b hb => by
    obtain ⟨_, _, hbb⟩ := h.vb_blk hb
    exact hs b hbb.lt (blk_ne hbb hr (by decide)) (fun e => h.rest.outv b e hb)
  have hout : ∀ g, (Value.slice (some ⟨g', 0, none⟩) (m.out.length + 1) cap').ownBlock = some g → g = g' := fun g e => by simpa [Value.ownBlock] using e.symm
  refine ⟨⟨h1, ?_, ?_, h.gv, ?_, h.rge, Nat.le_trans h.bw hc.size⟩, hc.mono hge⟩
  · refine ⟨h.rest.arrs.imp (fun _ h => h) kp (fun _ _ _ r => r), h.rest.flows.imp (fun _ h => h) kp (fun _ _ _ r => r.imp (fun _ h => h) kp), h.rest.inp.imp (fun _ h => h) kp (fun _ _ _ r => r), ?_, ?_, h.rest.len1, h.rest.len2, fun i hi ha hv => ?_, h.rest.nd1, h.rest.nd2, fun g e hm => ?_⟩
    · refine own_keep h.rest.row (fun g e => hs g (h.rest.row.lt g e).2 (fun e' => own_ne h.rest.row hr (by decide) (by rw [e, e'])) (fun e' => ?_))
      rcases h.rest.row.2 with ⟨hn, _⟩ | ⟨g1, k1, cur1, hv1, _, hg1, _⟩
      · rw [hn] at e; cases e
      · rw [hv1] at e
        have e0 : g1 = g := by simpa [Value.ownBlock] using e
        subst e0
        have hb1 : Blk w g1 113 cur1 := hg1
        exact own_ne h.rest.out hb1 (by decide) e'.symm
    · simpa using ho
    · obtain ⟨A', k', hc'⟩ := h.rest.call i hi ha hv
      exact ⟨A', k', hc'.same kp (hcb _ (List.getElem_mem _)) (hvb _ (List.getElem_mem _))⟩
    · have e1 := hout g e
      subst e1
      rcases how with h1 | h1
      · exact h.rest.outv g h1 hm
      · obtain ⟨_, _, hbb⟩ := h.vb_blk hm
        have := hbb.lt
        omega
  · exact h.arrs.same (hs mb h.mb_lt (fun e => map_blk h.arrs.map hr e.symm) (fun e => by
      rcases h.rest.out.2 with ⟨hn, _⟩ | ⟨g1, k1, cur1, hv1, _, hg1, _⟩
      · rw [hn] at e; cases e
      · rw [hv1] at e
        have e0 : g1 = mb := by simpa [Value.ownBlock] using e
        exact map_blk h.arrs.map (show Blk w g1 _ _ from hg1) e0)) (fun g hg => by obtain ⟨_, _, hbb⟩ := h.arrs.mem_blk hg; exact hs g hbb.lt (blk_ne hbb hr (by decide)) (h.go g hg))
  · intro g hg e
    have e1 := hout g e
    subst e1
    rcases how with h1 | h1
    · exact h.go g hg h1
    · obtain ⟨_, _, hbb⟩ := h.arrs.mem_blk hg
      have := hbb.lt
      omega

theorem argVals_len (n : Nat) (args : List Int) : (argVals (n : Int) args).length = n := by
  unfold argVals
  have e : ((n : Int)).toNat = n := by omega
  rw [e]
  simp
  omega
/-- a call more -/
theorem RunAtX.push {f : LFlow} {args : List Int} {into : Int} {cb vb g cap kb mm : Nat} {Ab : Option Addr} (h : RunAtX w base rb mb u A1 A2 c1 c2 m vin vcalls vout cbs vbs gs nD D) (hf : f.values = (mm : Int))
    (hp : PushPost base rb cbs.length mm (.slice A1 u.arrays.length c1) (.slice A2 u.flows.length c2) (.map (some mb)) vin vcalls vout m.status m.code m.steps into (cbs.reverse.map fun b => .pointer (some ⟨b, 0, none⟩)) f args w w' cb vb g cap Ab kb) :
    RunAtX w' base rb mb u A1 A2 c1 c2 { m with calls := newCall f args into :: m.calls } vin (.slice (some ⟨g, 0, none⟩) (cbs.length + 1) cap) vout (cb :: cbs) (vb :: vbs) gs nD D ∧ Chg w w' (base ≤ ·) := by
  have hr := h.run.blk
  have hrge := h.rge
  have hge : ∀ b, b = rb ∨ vcalls.ownBlock = some b → base ≤ b := fun b hb => hb.elim (fun e => by omega) (fun e => (h.rest.row.lt b e).1)
  have hs : ∀ b, b < w.heap.size → b ≠ rb → vcalls.ownBlock ≠ some b → w'.heap[b]? = w.heap[b]? := fun b hb h1 h2 => hp.chg.block b hb (fun e => e.elim h1 h2)
  have kp : Keeps (· < base) w w' := fun b hb => hp.chg.block b (Nat.lt_of_lt_of_le hb h.bw) (fun e => by have := hge b e; omega)
  have hbase := h.bw
  have hcn := hp.cnew
  have hvn := hp.vnew
  have ho : ∀ {t : TypeId} {b : Nat} {cs : Array Value}, Blk w b t cs → t ≠ 113 → vcalls.ownBlock ≠ some b := fun hbb ht e => own_ne h.rest.row hbb ht e.symm
  have hcb : ∀ b ∈ cbs, w'.heap[b]? = w.heap[b]? := fun b hb => by
    obtain ⟨_, _, hbb⟩ := h.cb_blk hb
    exact hs b hbb.lt (blk_ne hbb hr (by decide)) (ho hbb (by decide))
  have hvb : ∀ b ∈ vbs, w'.heap[b]? = w.heap[b]? := fun b hb => by
    obtain ⟨_, _, hbb⟩ := h.vb_blk hb
    exact hs b hbb.lt (blk_ne hbb hr (by decide)) (ho hbb (by decide))
  have hvs : ∀ b ∈ vbs, b < w.heap.size := fun b hb => by obtain ⟨_, _, hbb⟩ := h.vb_blk hb; exact hbb.lt
  have hcs : ∀ b ∈ cbs, b < w.heap.size := fun b hb => by obtain ⟨_, _, hbb⟩ := h.cb_blk hb; exact hbb.lt
  have hgs : ∀ b ∈ gs, b < w.heap.size := fun b hb => by obtain ⟨_, _, hbb⟩ := h.arrs.mem_blk hb; exact hbb.lt
  refine ⟨⟨hp.run, ?_, ?_, ?_, h.go, h.rge, Nat.le_trans h.bw hp.chg.size⟩, hp.chg.mono hge⟩
  · refine ⟨h.rest.arrs.imp (fun _ h => h) kp (fun _ _ _ r => r), h.rest.flows.imp (fun _ h => h) kp (fun _ _ _ r => r.imp (fun _ h => h) kp), h.rest.inp.imp (fun _ h => h) kp (fun _ _ _ r => r), ?_, ?_, by simp [h.rest.len1], by simp [h.rest.len2], fun i hi ha hv => ?_, ?_, ?_, ?_⟩
    · have := hp.row
      simpa using this
    · refine own_keep h.rest.out (fun g e => ?_)
      rcases h.rest.out.2 with ⟨hn, _⟩ | ⟨g1, k1, cur1, hv1, _, hg1, _⟩
      · rw [hn] at e; cases e
      · rw [hv1] at e
        have e0 : g1 = g := by simpa [Value.ownBlock] using e
        subst e0
        have hb1 : Blk w g1 3 cur1 := hg1
        exact hs g1 hb1.lt (blk_ne hb1 hr (by decide)) (ho hb1 (by decide))
    · cases i with
      | zero =>
        refine ⟨Ab, kb, hp.blocks, ?_, hp.vals, by show base ≤ cb; omega, by show base ≤ vb; omega⟩
        have e := hp.call
        have e2 : (argVals f.values args).length = mm := by rw [hf]; exact argVals_len mm args
        simp only [List.getElem_cons_zero, newCall, e2]
        exact e
      | succ i =>
        obtain ⟨A', k', hc'⟩ := h.rest.call i (by simpa using hi) (by simpa using ha) (by simpa using hv)
        exact ⟨A', k', hc'.same kp (hcb _ (List.getElem_mem _)) (hvb _ (List.getElem_mem _))⟩
    · rw [List.nodup_cons]; exact ⟨fun e => by have := hcs cb e; omega, h.rest.nd1⟩
    · rw [List.nodup_cons]; exact ⟨fun e => by have := hvs vb e; omega, h.rest.nd2⟩
    · intro g e hm
      rcases List.mem_cons.1 hm with rfl | hm
      · have := (h.rest.out.lt g e).2; omega
      · exact h.rest.outv g e hm
  · exact h.arrs.same (hs mb h.mb_lt (fun e => map_blk h.arrs.map hr e.symm) (fun e => by
      rcases h.rest.row.2 with ⟨hn, _⟩ | ⟨g1, k1, cur1, hv1, _, hg1, _⟩
      · rw [hn] at e; cases e
      · rw [hv1] at e
        have e0 : g1 = mb := by simpa [Value.ownBlock] using e
        exact map_blk h.arrs.map (show Blk w g1 _ _ from hg1) e0)) (fun g hg => by obtain ⟨_, _, hbb⟩ := h.arrs.mem_blk hg; exact hs g hbb.lt (blk_ne hbb hr (by decide)) (ho hbb (by decide)))
  · intro g hg hm
    rcases List.mem_cons.1 hm with rfl | hm
    · have := hgs g hg; omega
    · exact h.gv g hg hm
/-- the call that goes on last is gone -/
theorem RunAtX.tail {cb vb g cap k : Nat} {c : MCall} {r : List MCall} (h : RunAtX w base rb mb u A1 A2 c1 c2 m vin (.slice (some ⟨g, 0, none⟩) (k + 1) cap) vout (cb :: cbs) (vb :: vbs) gs nD D) (hm : m.calls = c :: r) (hk : k = cbs.length) (hg : w.grownBy w' (some rb)) {m' : MRun}
    (h1 : RunBlk w' rb (.slice A1 u.arrays.length c1) (.slice A2 u.flows.length c2) (.map (some mb)) vin (.slice (some ⟨g, 0, none⟩) k cap) m'.status m'.code vout m'.steps) (h2 : m'.arrays = m.arrays) (h3 : m'.calls = r) (h4 : m'.out = m.out) (h5 : m'.inp = m.inp) :
    RunAtX w' base rb mb u A1 A2 c1 c2 m' vin (.slice (some ⟨g, 0, none⟩) k cap) vout cbs vbs gs nD D ∧ Chg w w' (base ≤ ·) := by
  have hr := h.run.blk
  have hrge := h.rge
  have hs : ∀ b, b < w.heap.size → b ≠ rb → w'.heap[b]? = w.heap[b]? := fun b hb hn => hg.block b hb (fun e => hn (by injection e))
  have kp : Keeps (· < base) w w' := fun b hb => hs b (Nat.lt_of_lt_of_le hb h.bw) (by omega)
  have hrow := h.rest.row
  have hl1 := h.rest.len1
  have hl2 := h.rest.len2
  rw [hm] at hl1 hl2
  simp only [List.length_cons] at hl1 hl2
  refine ⟨⟨h1, ?_, ?_, fun g hg hm => h.gv g hg (by simp [hm]), h.go, h.rge, Nat.le_trans h.bw hg.size⟩, ⟨hg.os, hg.tape, hg.output, hg.size, fun b hb hn => hs b hb (by omega)⟩⟩
  · rw [h3, h4, h5]
    refine ⟨h.rest.arrs.imp (fun _ h => h) kp (fun _ _ _ r => r), h.rest.flows.imp (fun _ h => h) kp (fun _ _ _ r => r.imp (fun _ h => h) kp), h.rest.inp.imp (fun _ h => h) kp (fun _ _ _ r => r), ?_, own_keep h.rest.out (fun g e => hs g (h.rest.out.lt g e).2 (fun e' => own_ne h.rest.out hr (by decide) (by rw [e, e']))), by omega, by omega, fun i hi ha hv => ?_, (List.nodup_cons.1 h.rest.nd1).2, (List.nodup_cons.1 h.rest.nd2).2, fun g e hm => h.rest.outv g e (by simp [hm])⟩
    · subst hk
      have h6 : w.ownsRow base 113 1 (.slice (some ⟨g, 0, none⟩) cbs.length cap) cbs.length (cbs.reverse.map fun b => .pointer (some ⟨b, 0, none⟩)) := row_cut (x := .pointer (some ⟨cb, 0, none⟩)) (by simpa using hrow) (by simp)
      exact own_keep h6 (fun g e => hs g (h6.lt g e).2 (fun e' => own_ne h6 hr (by decide) (by rw [e, e'])))
    · have hi' : i + 1 < m.calls.length := by rw [hm]; simpa using hi
      obtain ⟨A', k', hc'⟩ := h.rest.call (i + 1) hi' (by simpa using ha) (by simpa using hv)
      have e : m.calls[i + 1] = r[i] := by simp [hm]
      rw [e] at hc'
      simp only [List.getElem_cons_succ] at hc'
      exact ⟨A', k', hc'.same kp (hs _ hc'.blk.lt (blk_ne hc'.blk hr (by decide))) (hs _ hc'.vals.lt (blk_ne hc'.vals hr (by decide)))⟩
  · rw [h2]
    exact h.arrs.same (hs mb h.mb_lt (fun e => map_blk h.arrs.map hr e.symm)) (fun g hg => by obtain ⟨_, _, hbb⟩ := h.arrs.mem_blk hg; exact hs g hbb.lt (blk_ne hbb hr (by decide)))
end
end Go.Proofs.Ytknccacfhknnaaa
