/- A block's end, and so a step of irrun, makes of the run's state what the plain one makes of it. -/
import Derived.Test.YtknccacfhknnaaaRunStepAt
namespace Go.Proofs.Ytknccacfhknnaaa
open Go.RowKit

section
variable {w w' : World} {base rb mb : Nat} {u : LUnit} {A1 A2 : Option Addr} {c1 c2 : Nat} {m : MRun} {vin vcalls vout : Value} {cbs vbs gs : List Nat} {nD : Nat} {D : DataW Value} {c : MCall} {r : List MCall}
theorem termM_1 {t : LTerm} (h : t.kind = 1) : termM m c t = m.top { c with at_ := 0, block := t.to } := by unfold termM; rw [if_pos h]
theorem termM_2 {t : LTerm} (h : t.kind = 2) : termM m c t = m.top { c with at_ := 0, block := if c.val t.a ≠ 0 then t.to else t.els } := by unfold termM; rw [if_neg (by omega), if_pos h]
theorem termM_3 {t : LTerm} (h : t.kind = 3) : termM m c t = MRun.pop m c.into (c.val t.a) := by unfold termM; rw [if_neg (by omega), if_neg (by omega), if_pos h]
theorem termM_4 {t : LTerm} (h : t.kind = 4) : termM m c t = (m.top { c with at_ := 0 }).stop 5 (c.val t.a) := by unfold termM; rw [if_neg (by omega), if_neg (by omega), if_neg (by omega), if_pos h]
theorem TopAt.at_ {cb vb : Nat} {bs vs : List Nat} {g cap : Nat} {A : Option Addr} {k : Nat} {bl at_ : Int} (h : RunAtX w base rb mb u A1 A2 c1 c2 m vin vcalls vout cbs vbs gs nD D) (hm : m.calls = c :: r) (t : TopAt w base rb vcalls vout cbs vbs c cb vb bs vs g cap A k) (hg : w.grownBy w' (some cb))
    (hb : CallBlk w' cb c.flow.name c.flow.params c.flow.values (.slice A c.flow.blocks.length k) (.slice (some ⟨vb, 0, none⟩) c.values.length c.values.length) bl at_ c.into) : RunAtX w' base rb mb u A1 A2 c1 c2 (m.top { c with block := bl, at_ := at_ }) vin vcalls vout cbs vbs gs nD D ∧ Chg w w' (base ≤ ·) := by
  obtain ⟨rfl, rfl⟩ := And.intro t.cbs_ t.vbs_
  exact h.at_ hm hg ⟨_, t.top.blk, rfl⟩ hb
theorem top_calls (hm : m.calls = c :: r) (c' : MCall) : (m.top c').calls = c' :: r := by simp [MRun.top, hm]

set_option maxHeartbeats 1000000 in
theorem pop_at (h : RunAtX w base rb mb u A1 A2 c1 c2 m vin vcalls vout cbs vbs gs nD D) (hl : Linked m.calls) (hm : m.calls = c :: r) (x : Int) :
    Calls Try.prog 106 #[.pointer (some ⟨rb, 0, none⟩), .int .i64 x] w (Done w base rb mb u A1 A2 c1 c2 (MRun.pop m c.into x)) := by
  obtain ⟨cb, vb, bs, vs, g, cap, A, k, t⟩ := h.open_top hm
  have hrun := h.run
  rw [t.calls] at hrun
  have hrow := t.row
  have hlen : r.length = bs.length := by have h1 := h.rest.len1; rw [hm, t.cbs_] at h1; simpa using h1.symm
  have h7 : w.cell? ⟨cb, 7, none⟩ = some (.int .i64 c.into) := t.blk.blk.cell 7
  have h0 := h
  rw [t.calls, t.cbs_, t.vbs_] at h0
  cases r with
  | nil =>
    obtain rfl : bs = [] := List.eq_nil_of_length_eq_zero (by simpa using hlen.symm)
    refine (pop_last base rb cap g cb c.into _ _ _ _ _ _ _ _ x w hrun t.room.1 hrow t.room.2 h7).mono fun e w' hp => ?_
    obtain ⟨he, h1, hg⟩ := hp
    have e1 : MRun.pop m c.into x = { m with calls := [], status := 1, code := x } := by unfold MRun.pop; rw [hm]; rfl
    rw [e1]
    obtain ⟨h3, h4⟩ := h0.tail (k := 0) hm rfl hg (m' := { m with calls := [], status := 1, code := x }) h1 rfl rfl rfl rfl
    exact ⟨he, h3.at', h4⟩
  | cons d r =>
    cases bs with
    | nil => simp at hlen
    | cons cb2 bs =>
      have hl2 := h.rest.len2
      cases vs with
      | nil => rw [hm, t.vbs_] at hl2; simp at hl2
      | cons vb2 vs =>
        have hrest := h0.rest
        rw [hm] at hrest
        obtain ⟨A', k', hc2⟩ := hrest.call 1 (by simp) (by simp) (by simp)
        simp only [List.getElem_cons_succ, List.getElem_cons_zero] at hc2
        rw [hm] at hl
        obtain ⟨⟨i0, i1⟩, _⟩ := hl
        have hn : c.into.toNat < d.values.length := by omega
        refine (pop_more base rb cap g cb cb2 vb2 d.values.length (bs.length + 1) c.into _ _ _ _ _ _ _ _ x bs w hrun hrow rfl t.room.1 t.room.2 h7 i0 i1 (hc2.blk.cell 4) ⟨d.values[c.into.toNat], by rw [hc2.vals.cell]; simp [hn]⟩ (hc2.vals.frozen _) (blk_ne hc2.blk h.run.blk (by decide)) (blk_ne hc2.vals h.run.blk (by decide)) t.ne5).mono fun e w' hp => ?_
        obtain ⟨he, w1, h1, hg, hw⟩ := hp
        obtain ⟨h3, h4⟩ := h0.tail (k := bs.length + 1) hm (by simp) hg (m' := { m with calls := d :: r }) h1 rfl rfl rfl rfl
        obtain ⟨h5, h6⟩ := h3.put (c := d) (r := r) rfl (grown_refl' w1 none) hw
        have e1 : MRun.pop m c.into x = MRun.top { m with calls := d :: r } (d.put c.into x) := by unfold MRun.pop; rw [hm]; rfl
        rw [e1]
        exact ⟨he, h5.at', h4.trans h6⟩

set_option maxHeartbeats 1000000 in
theorem term_at (h : RunAtX w base rb mb u A1 A2 c1 c2 m vin vcalls vout cbs vbs gs nD D) (hk : MOk u m) (hm : m.calls = c :: r) (x : LTerm) (hx : TermK c.flow.blocks.length c.flow.values x) :
    Calls Try.prog 60 #[.pointer (some ⟨rb, 0, none⟩), .agg #[.int .i64 x.kind, .int .i64 x.a, .int .i64 x.to, .int .i64 x.els]] w (Done w base rb mb u A1 A2 c1 c2 (termM m c x)) := by
  obtain ⟨cb, vb, bs, vs, g, cap, A, k, t⟩ := h.open_top hm
  have hrow := t.row
  have hblk := t.blk
  have hm1 : bs.length + 1 ≤ maxLen := Nat.le_trans t.room.1 t.room.2
  have hrun := h.run
  rw [t.calls] at hrun
  have hcv := (hk.calls c (by rw [hm]; simp)).vals
  have hkd := hx.kind
  have hA := hx.a
  rw [← hcv] at hA
  rcases (by omega : x.kind = 1 ∨ x.kind = 2 ∨ x.kind = 3 ∨ x.kind = 4) with e | e | e | e
  · rw [termM_1 e, e]
    refine (term_jump base rb _ cap g cb _ _ _ _ _ _ _ _ bs _ _ _ _ _ _ _ _ _ _ _ w rfl hrun hrow hm1 hblk).mono fun _ _ hp => ?_
    obtain ⟨he, h1, hg⟩ := hp
    obtain ⟨h2, h3⟩ := t.at_ h hm hg h1
    exact ⟨he, h2.at', h3⟩
  · have ha := hA (by omega)
    rw [termM_2 e, e]
    refine (term_if base rb _ cap g cb _ _ _ _ _ _ _ _ bs _ _ _ _ vb _ _ _ _ _ _ _ _ w rfl hrun hrow hm1 hblk ha.1 ha.2 (t.val ha.1 ha.2).1 t.ne2 _ rfl).mono fun _ _ hp => ?_
    obtain ⟨he, h1, hg⟩ := hp
    obtain ⟨h2, h3⟩ := t.at_ h hm hg h1
    exact ⟨he, h2.at', h3⟩
  · have ha := hA (by omega)
    rw [termM_3 e, e]
    have hl := hk.linked
    rw [hm] at hl
    refine (term_ret base rb _ cap g cb _ _ _ _ _ _ _ _ bs _ _ _ _ vb _ _ _ _ _ _ _ _ w rfl hrun hrow hm1 hblk ha.1 ha.2 (t.val ha.1 ha.2).1 t.ne2 t.ne3 (fun _ w' => Done w base rb mb u A1 A2 c1 c2 (MRun.pop m c.into (c.val x.a)) (.returned (.tuple #[])) w') (fun W2 h1 hg _ => ?_)).mono fun _ _ hp => ?_
    · obtain ⟨h2, h3⟩ := t.at_ h hm hg h1
      have hP := pop_at h2 (by rw [top_calls hm]; exact hl.top rfl) (top_calls hm _) (c.val x.a)
      have e1 : MRun.pop (m.top { c with block := c.block, at_ := 0 }) c.into (c.val x.a) = MRun.pop m c.into (c.val x.a) := by unfold MRun.pop; rw [top_calls hm, hm]; rfl
      rw [e1] at hP
      exact hP.mono fun _ _ hp => ⟨hp.1, rfl, hp.2.1, h3.trans hp.2.2⟩
    · obtain ⟨he, w1, _, _, _, hq⟩ := hp
      exact ⟨he, hq.2⟩
  · have ha := hA (by omega)
    rw [termM_4 e, e]
    refine (term_trap base rb _ cap g cb _ _ _ _ _ _ _ _ bs _ _ _ _ vb _ _ _ _ _ _ _ _ w rfl hrun hrow hm1 hblk ha.1 ha.2 (t.val ha.1 ha.2).1 t.ne2 t.ne3).mono fun _ _ hp => ?_
    obtain ⟨he, w1, h1, hg, h2, hg2⟩ := hp
    obtain ⟨h3, h4⟩ := t.at_ h hm hg h1
    rw [← t.calls] at h2
    obtain ⟨h5, h6⟩ := h3.stop hg2 h2
    exact ⟨he, h5.at', h4.trans h6⟩

set_option maxHeartbeats 1000000 in
/-- a step -/
theorem step_at (hu : UnitOk u) (h : RunAt w base rb mb u A1 A2 c1 c2 m) (hk : MOk u m) (hm0 : m.status = 0) (hout : m.out.length ≤ 100000) :
    Calls Try.prog 35 #[.pointer (some ⟨rb, 0, none⟩)] w (Done w base rb mb u A1 A2 c1 c2 (stepM u m)) := by
  obtain ⟨vin, vcalls, vout, cbs, vbs, gs, nD, D, h⟩ := h
  cases hm : m.calls with
  | nil => exact absurd hm (hk.ne hm0)
  | cons c r =>
    have hc := hk.calls c (by rw [hm]; simp)
    obtain ⟨hb, hbe⟩ := hc.block_at
    obtain ⟨ht, hi⟩ := block_ok hu hc.flow (List.getElem_mem hb)
    have hlen := hu.lens c.flow hc.flow _ (List.getElem_mem hb)
    have ha0 := hc.a0
    have ha1 := hc.a1 _ hbe
    have hb0 := hc.b0
    have hb1 := hc.b1
    obtain ⟨cb, vb, bs, vs, g, cap, A, k, t⟩ := h.open_top hm
    have hrow := t.row
    have hblk := t.blk
    have hm1 : bs.length + 1 ≤ maxLen := Nat.le_trans t.room.1 t.room.2
    have hrun := h.run
    rw [t.calls] at hrun
    obtain ⟨bb, bo, k', hform, _, _, hbb, hel⟩ := t.top.blocks.form (by omega)
    obtain ⟨rfl, rfl⟩ : A = some ⟨bb, bo, none⟩ ∧ k = k' := by injection hform with h1 _ h2; exact ⟨h1, h2⟩
    obtain ⟨bcs, _, ⟨vi, hbcs, hins⟩, hcell⟩ := hel c.block.toNat hb
    obtain ⟨Ai, ki, hvi, _, _⟩ := hins.val
    subst hvi hbcs
    generalize hbk : c.flow.blocks[c.block.toNat] = b at *
    by_cases hat : c.at_ = (b.ins.length : Int)
    · have e1 : stepM u m = termM m c b.term := by unfold stepM; rw [hm]; simp only []; rw [hbe]; simp only []; rw [if_pos hat]
      rw [e1]
      refine (step_term base rb _ cap g cb bb bo _ _ b.ins.length ki _ _ _ _ _ _ _ _ bs _ _ _ _ Ai _ _ _ b.term.kind b.term.a b.term.to b.term.els w rfl hrun hrow hm1 hblk hb0 hb1 hcell hat (fun _ w' => Done w base rb mb u A1 A2 c1 c2 (termM m c b.term) (.returned (.tuple #[])) w') (fun W hW => ?_)).mono fun _ _ hp => ?_
      · exact (term_at (h.grown hW) hk hm b.term (termK_of ht)).mono fun _ _ hp => ⟨hp.1, rfl, hp.2.1, (Chg.of_grown hW (fun k e _ => by cases e)).trans hp.2.2⟩
      · obtain ⟨he, W, _, hq⟩ := hp
        exact ⟨he, hq.2⟩
    · have hlt : c.at_.toNat < b.ins.length := by omega
      have hxe : b.ins[c.at_.toNat]? = some b.ins[c.at_.toNat] := List.getElem?_eq_getElem hlt
      have e1 : stepM u m = insM u (m.top { c with at_ := c.at_ + 1 }) { c with at_ := c.at_ + 1 } b.ins[c.at_.toNat] := by unfold stepM; rw [hm]; simp only []; rw [hbe]; simp only []; rw [if_neg hat, hxe]
      rw [e1]
      have hxk := insK_of (hi _ (List.getElem_mem hlt))
      obtain ⟨bi, bo2, ki', hform2, _, _, hbi, hel2⟩ := hins.form (by omega)
      obtain ⟨rfl, rfl⟩ : Ai = some ⟨bi, bo2, none⟩ ∧ ki = ki' := by injection hform2 with h1 _ h2; exact ⟨h1, h2⟩
      obtain ⟨ics, _, ⟨va, hics, hargs⟩, hcell2⟩ := hel2 c.at_.toNat hlt
      obtain ⟨Aa, ca, hva, _, _⟩ := hargs.val
      subst hva hics
      generalize b.ins[c.at_.toNat] = x at *
      have hbk1 := hk.ahead hm hbe hat
      refine (step_ins base rb _ cap g cb bb bo _ _ b.ins.length ki _ _ _ _ _ _ _ _ bs _ _ _ _ _ _ _ _ b.term.kind b.term.a b.term.to b.term.els w rfl hrun hrow hm1 hblk hb0 hb1 hcell bi bo2 rfl ha0 (by omega) hlen (by have := t.top.cge; omega) x.kind x.d x.a x.b x.op x.n x.name Aa x.args.length ca hcell2
        (fun _ w' => Done w base rb mb u A1 A2 c1 c2 (insM u (m.top { c with at_ := c.at_ + 1 }) { c with at_ := c.at_ + 1 } x) (.returned (.tuple #[])) w') (fun W1 W hW hg hcb => ?_)).mono fun _ _ hp => ?_
      · have h1 := h.grown hW
        obtain ⟨cb', vb', bs', vs', g', cap', A', k', t'⟩ := h1.open_top hm
        have ecb : cb = cb' := by have e := t.cbs_; rw [t'.cbs_] at e; injection e with e; exact e.symm
        have evb : vb = vb' := by have e := t.vbs_; rw [t'.vbs_] at e; injection e with e; exact e.symm
        subst ecb evb
        have eA : Value.slice A' c.flow.blocks.length k' = .slice (some ⟨bb, bo, none⟩) c.flow.blocks.length k := by
          have e1 := t'.top.blk.cell 3
          have e2 := (t.top.blk.grown hW (by simp)).cell 3
          rw [e1] at e2
          injection e2
        rw [← eA] at hcb
        obtain ⟨h2, h3⟩ := t'.at_ h1 hm hg hcb
        have hP := ins_at hu (c := { c with at_ := c.at_ + 1 }) (r := r) h2 hbk1.1 (top_calls hm _) hout x hxk Aa ca (hargs.imp (fun _ h => h) (fun b hb => (hg.block b (Nat.lt_of_lt_of_le hb h1.bw) (fun e => by injection e with e; have := t.top.cge; omega)).trans (hW.block b (Nat.lt_of_lt_of_le hb h.bw) (by simp))) (fun _ _ _ r => r))
        exact hP.mono fun _ _ hp => ⟨hp.1, rfl, hp.2.1, ((Chg.of_grown hW (fun k e _ => by cases e)).trans h3).trans hp.2.2⟩
      · obtain ⟨he, W1, W, _, _, _, hq⟩ := hp
        exact ⟨he, hq.2⟩
end
end Go.Proofs.Ytknccacfhknnaaa
