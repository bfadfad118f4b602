/- irrun.Run as a plain function over units: a run's state, what a step makes of it, and what a run with more steps, or with more to read, has to do with another one. How a run of irrun lies in memory. What irrun's small functions do: end, top, read. What irrun's pop does. What irrun's term does. -/
import Derived.Test.YtkpigkopjfkepaaGreatDoorPrMem
import Derived.Test.YtkpigkopjfkepaaGreatDoorPrArPW
import Derived.Test.YtkpigkopjfkepaaGreatDoorPrIrCheck
import Derived.Deep.QuietTactic
import Derived.BigQuiet
import Derived.StillTailTactics
namespace Go.Proofs.YtkpigkopjfkepaaGreatDoor
structure MCall where
 flow : LFlow
 values : List Int
 block : Int
 at_ : Int
 into : Int
structure MRun where
 arrays : List (ByteArray × List Int)
 inp : List Int
 calls : List MCall
 status : Int
 code : Int
 out : List Int
 steps : Int
def MRun.stop (m : MRun) (s c : Int) : MRun := { m with status := s, code := c }
def MCall.val (c : MCall) (n : Int) : Int := c.values.getD n.toNat 0
def MCall.put (c : MCall) (n v : Int) : MCall := { c with values := c.values.set n.toNat v }
def MRun.top (m : MRun) (c : MCall) : MRun := { m with calls := c :: m.calls.tail }
def MRun.arr (m : MRun) (s : ByteArray) : List Int := ((m.arrays.find? fun a => decide (a.1 = s)).map (·.2)).getD []
def setArr (l : List (ByteArray × List Int)) (s : ByteArray) (i : Nat) (v : Int) : List (ByteArray × List Int) := l.map fun a => if a.1 = s then (a.1, a.2.set i v) else a
def argVals (n : Int) (args : List Int) : List Int := (args ++ List.replicate (n.toNat - args.length) 0).take n.toNat
def newCall (f : LFlow) (args : List Int) (into : Int) : MCall := ⟨f, argVals f.values args, 0, 0, into⟩
def MRun.push (u : LUnit) (m : MRun) (s : ByteArray) (args : List Int) (into : Int) : MRun :=
 match u.flows.find? (fun f => decide (f.name = s)) with
 | some f => { m with calls := newCall f args into :: m.calls }
 | none => m
def MRun.pop (m : MRun) (into n : Int) : MRun :=
 match m.calls.tail with
 | [] => { m with calls := [], status := 1, code := n }
 | c :: r => { m with calls := c.put into n :: r }
def insM (u : LUnit) (m : MRun) (c : MCall) (x : LIns) : MRun :=
 if x.kind = 1 then m.top (c.put x.d x.n)
 else if x.kind = 2 then m.top (c.put x.d (c.val x.a))
 else if x.kind = 3 then m.top (c.put x.d (Ar.one x.op (c.val x.a)))
 else if x.kind = 4 then (if Ar.twoOk x.op (c.val x.b) = true then m.top (c.put x.d (Ar.two x.op (c.val x.a) (c.val x.b))) else m.stop 2 0)
 else if x.kind = 5 then (if 0 ≤ c.val x.a ∧ c.val x.a < (m.arr x.name).length then m.top (c.put x.d ((m.arr x.name).getD (c.val x.a).toNat 0)) else m.stop 3 0)
 else if x.kind = 6 then (if 0 ≤ c.val x.a ∧ c.val x.a < (m.arr x.name).length then { m with arrays := setArr m.arrays x.name (c.val x.a).toNat (c.val x.b) } else m.stop 3 0)
 else if x.kind = 7 then { m.top (c.put x.d (m.inp.headD (-1))) with inp := m.inp.tail }
 else if x.kind = 8 then { m with out := m.out ++ [c.val x.a] }
 else if x.kind = 9 then (if m.calls.length ≥ 50 then m.stop 4 0 else m.push u x.name (x.args.map c.val) x.d)
 else m
def termM (m : MRun) (c : MCall) (t : LTerm) : MRun :=
 if t.kind = 1 then m.top { c with at_ := 0, block := t.to }
 else if t.kind = 2 then m.top { c with at_ := 0, block := if c.val t.a ≠ 0 then t.to else t.els }
 else if t.kind = 3 then MRun.pop m c.into (c.val t.a)
 else if t.kind = 4 then (m.top { c with at_ := 0 }).stop 5 (c.val t.a)
 else m.top { c with at_ := 0 }
def stepM (u : LUnit) (m : MRun) : MRun :=
 match m.calls with
 | [] => m
 | c :: _ =>
  match c.flow.blocks[c.block.toNat]? with
  | none => m
  | some b =>
   if c.at_ = b.ins.length then termM m c b.term
   else match b.ins[c.at_.toNat]? with
    | none => m
    | some x => insM u (m.top { c with at_ := c.at_ + 1 }) { c with at_ := c.at_ + 1 } x
def runM (u : LUnit) : Nat → MRun → MRun
 | 0, m => m
 | k + 1, m => if m.status = 0 then runM u k (stepM u { m with steps := m.steps + 1 }) else m
theorem runM_end {u : LUnit} {m : MRun} (h : m.status ≠ 0) : ∀ k, runM u k m = m
 | 0 => rfl
 | k + 1 => by unfold runM; rw [if_neg h]
theorem runM_succ (u : LUnit) (k : Nat) (m : MRun) : runM u (k + 1) m = if m.status = 0 then runM u k (stepM u { m with steps := m.steps + 1 }) else m := rfl
theorem runM_add (u : LUnit) : ∀ (a b : Nat) (m : MRun), runM u (a + b) m = runM u b (runM u a m)
 | 0, b, m => by rw [Nat.zero_add]; rfl
 | a + 1, b, m => by
  rw [Nat.succ_add]
  by_cases h : m.status = 0
  ·rw [runM_succ, runM_succ, if_pos h, if_pos h]
   exact runM_add u a b (stepM u { m with steps := m.steps + 1 })
  ·rw [runM_end h, runM_end h, runM_end h]
theorem ite_steps {p : Prop} [Decidable p] {a b : MRun} {n : Int} (ha : a.steps = n) (hb : b.steps = n) : (if p then a else b).steps = n := by split <;> assumption
theorem ite_pre {p : Prop} [Decidable p] {a b : MRun} {l : List Int} (ha : l <+: a.out) (hb : l <+: b.out) : l <+: (if p then a else b).out := by split <;> assumption
theorem push_steps (u : LUnit) (m : MRun) (s : ByteArray) (args : List Int) (into : Int) : (m.push u s args into).steps = m.steps := by
 unfold MRun.push; cases u.flows.find? (fun f => decide (f.name = s)) <;> rfl
theorem push_out (u : LUnit) (m : MRun) (s : ByteArray) (args : List Int) (into : Int) : (m.push u s args into).out = m.out := by
 unfold MRun.push; cases u.flows.find? (fun f => decide (f.name = s)) <;> rfl
theorem pop_steps (m : MRun) (into n : Int) : (m.pop into n).steps = m.steps := by
 unfold MRun.pop; cases m.calls.tail <;> rfl
theorem pop_out (m : MRun) (into n : Int) : (m.pop into n).out = m.out := by
 unfold MRun.pop; cases m.calls.tail <;> rfl
theorem insM_steps (u : LUnit) (m : MRun) (c : MCall) (x : LIns) : (insM u m c x).steps = m.steps := by
 unfold insM
 repeat' apply ite_steps
 all_goals first | rfl | exact push_steps _ _ _ _ _
theorem termM_steps (m : MRun) (c : MCall) (t : LTerm) : (termM m c t).steps = m.steps := by
 unfold termM
 repeat' apply ite_steps
 all_goals first | rfl | exact pop_steps _ _ _
theorem stepM_steps (u : LUnit) (m : MRun) : (stepM u m).steps = m.steps := by
 unfold stepM
 repeat' split
 all_goals first | rfl | exact termM_steps _ _ _ | exact insM_steps _ _ _ _
theorem insM_out (u : LUnit) (m : MRun) (c : MCall) (x : LIns) : m.out <+: (insM u m c x).out := by
 unfold insM
 repeat' apply ite_pre
 all_goals first | exact List.prefix_refl _ | exact List.prefix_append _ _ | (rw [push_out]; exact List.prefix_refl _)
theorem termM_out (m : MRun) (c : MCall) (t : LTerm) : m.out <+: (termM m c t).out := by
 unfold termM
 repeat' apply ite_pre
 all_goals first | exact List.prefix_refl _ | (rw [pop_out]; exact List.prefix_refl _)
theorem stepM_out (u : LUnit) (m : MRun) : m.out <+: (stepM u m).out := by
 unfold stepM
 repeat' split
 all_goals first | exact List.prefix_refl _ | exact termM_out _ _ _ | exact List.IsPrefix.trans (List.prefix_refl _) (insM_out u (m.top _) _ _)
theorem runM_out (u : LUnit) : ∀ (k : Nat) (m : MRun), m.out <+: (runM u k m).out
 | 0, m => List.prefix_refl _
 | k + 1, m => by
  unfold runM
  split
  ·exact (stepM_out u { m with steps := m.steps + 1 }).trans (runM_out u k _)
  ·exact List.prefix_refl _
theorem runM_steps (u : LUnit) : ∀ (k : Nat) (m : MRun), m.steps ≤ (runM u k m).steps ∧ (runM u k m).steps ≤ m.steps + k
 | 0, m => by unfold runM; omega
 | k + 1, m => by
  unfold runM
  split
  ·have := runM_steps u k (stepM u { m with steps := m.steps + 1 })
   rw [stepM_steps] at this
   have e : ({ m with steps := m.steps + 1 } : MRun).steps = m.steps + 1 := rfl
   rw [e] at this
   omega
  ·omega
theorem runM_going (u : LUnit) : ∀ (k : Nat) (m : MRun), (runM u k m).status = 0 → (runM u k m).steps = m.steps + k
 | 0, m, _ => by unfold runM; omega
 | k + 1, m, h => by
  unfold runM at h ⊢
  split
  ·rename_i h0
   rw [if_pos h0] at h
   have := runM_going u k _ h
   rw [stepM_steps] at this
   have e : ({ m with steps := m.steps + 1 } : MRun).steps = m.steps + 1 := rfl
   rw [e] at this
   omega
  ·rename_i h0
   rw [if_neg h0] at h
   exact absurd h h0
end Go.Proofs.YtkpigkopjfkepaaGreatDoor
namespace Go.Proofs.YtkpigkopjfkepaaGreatDoor
open Go.RowKit
structure CallAt (w : World) (base cb vb : Nat) (c : MCall) (A : Option Addr) (k : Nat) : Prop where
 blocks : SlR w (· < base) 5 (RBlock w (· < base)) (.slice A c.flow.blocks.length k) c.flow.blocks
 blk : Blk w cb 126 #[.string c.flow.name, .int .i64 c.flow.params, .int .i64 c.flow.values, .slice A c.flow.blocks.length k, .slice (some ⟨vb, 0, none⟩) c.values.length c.values.length, .int .i64 c.block, .int .i64 c.at_, .int .i64 c.into]
 vals : Blk w vb 3 (c.values.map (Value.int .i64)).toArray
 cge : base ≤ cb
 vge : base ≤ vb
structure RunRest (w : World) (base : Nat) (u : LUnit) (A1 A2 : Option Addr) (c1 c2 : Nat) (vin vcalls vout : Value) (cbs vbs : List Nat) (inp out : List Int) (calls : List MCall) : Prop where
 arrs : SlR w (· < base) 2 RArr (.slice A1 u.arrays.length c1) u.arrays
 flows : SlR w (· < base) 4 (RFlow w (· < base)) (.slice A2 u.flows.length c2) u.flows
 inp : SlR w (· < base) 1 RInt vin inp
 row : w.ownsRow base 124 1 vcalls cbs.length (cbs.reverse.map fun b => .pointer (some ⟨b, 0, none⟩))
 out : w.ownsRow base 3 1 vout out.length (out.map (Value.int .i64))
 len1 : cbs.length = calls.length
 len2 : vbs.length = calls.length
 call : ∀ (i : Nat) (h : i < calls.length) (h1 : i < cbs.length) (h2 : i < vbs.length), ∃ A k, CallAt w base cbs[i] vbs[i] calls[i] A k
 nd1 : cbs.Nodup
 nd2 : vbs.Nodup
 outv : ∀ g, vout.ownBlock = some g → g ∉ vbs
theorem own_ne {w : World} {base : Nat} {e t : TypeId} {size : Nat} {v : Value} {n : Nat} {xs : List Value} {b : Nat} {cs : Array Value} (h : w.ownsRow base e size v n xs) (hb : Blk w b t cs) (ht : t ≠ e) : some b ≠ v.ownBlock := fun e' => by
 rcases h.2 with ⟨hn, _⟩ | ⟨g, cap, cur, hv, _, hg, _⟩
 ·rw [hn] at e'; cases e'
 ·rw [hv] at e'
  have : b = g := by simpa [Value.ownBlock] using e'
  subst this
  rw [Blk, hg] at hb
  injection hb with hb
  injection hb with _ h2 _
  exact ht h2.symm
theorem blk_ne {w : World} {b b' : Nat} {t t' : TypeId} {cs cs' : Array Value} (h : Blk w b t cs) (h' : Blk w b' t' cs') (ht : t ≠ t') : b ≠ b' := fun e => by
 subst e
 rw [Blk, h'] at h
 injection h with h
 injection h with _ h2 _
 exact ht h2.symm
end Go.Proofs.YtkpigkopjfkepaaGreatDoor
namespace Go.Proofs.YtkpigkopjfkepaaGreatDoor
open Go.RowKit
structure RunBlk (w : World) (rb : Nat) (va vf vm vin vcalls : Value) (st co : Int) (vout : Value) (sp : Int) : Prop where
 blk : Blk w rb 87 #[va, vf, vm, vin, vcalls, .int .i64 st, .int .i64 co, vout, .int .i64 sp]
theorem grown_set1 (W : World) (p : Addr) (v : Value) : W.grownBy (W.setCell p v) (some p.block) :=
 ⟨rfl, rfl, rfl, by simp [World.setCell], fun k _ hne => Below.heap_setCell W _ _ k (fun e => hne (by rw [e]))⟩
theorem grown_set2 (w : World) (rb i j : Nat) (u v : Value) : w.grownBy ((w.setCell ⟨rb, i, none⟩ u).setCell ⟨rb, j, none⟩ v) (some rb) := (grown_set1 w ⟨rb, i, none⟩ u).trans (grown_set1 _ ⟨rb, j, none⟩ v)
set_option maxHeartbeats 2000000 in
theorem rend_any (rb : Nat) (va vf vm vin vcalls vout : Value) (st co sp s c : Int) (w : World) (h : RunBlk w rb va vf vm vin vcalls st co vout sp) :
  Calls Tryz.prog 102 #[.pointer (some ⟨rb, 0, none⟩), .int .i64 s, .int .i64 c] w fun e w' => e = .returned (.tuple #[]) ∧ RunBlk w' rb va vf vm vin vcalls s c vout sp ∧ w.grownBy w' (some rb) := by
 have c5 : w.cell? ⟨rb, 5, none⟩ = some (.int .i64 st) := h.blk.cell 5
 have c6 : w.cell? ⟨rb, 6, none⟩ = some (.int .i64 co) := h.blk.cell 6
 have z5 := h.blk.frozen 5
 have z6 := h.blk.frozen 6
 have HH := Lib.hid h
 clear h
 go_enter Tryz.func102, Tryz.ntmps102
 go_wp2
 go_end0
 refine ⟨rfl, ⟨?_⟩, grown_set2 _ _ _ _ _ _⟩
 exact (HH.out.blk.set_ 5 _).set_ 6 _
set_option maxHeartbeats 2000000 in
theorem top_any (base rb n cap g cb : Nat) (va vf vm vin vout : Value) (st co sp : Int) (bs : List Nat) (w : World) (hn : n = bs.length + 1) (h : RunBlk w rb va vf vm vin (.slice (some ⟨g, 0, none⟩) n cap) st co vout sp) (hr : w.ownsRow base 124 1 (.slice (some ⟨g, 0, none⟩) n cap) n ((cb :: bs).reverse.map fun b => .pointer (some ⟨b, 0, none⟩))) (hm : n ≤ maxLen) :
  Calls Tryz.prog 75 #[.pointer (some ⟨rb, 0, none⟩)] w fun e w' => e = .returned (.pointer (some ⟨cb, 0, none⟩)) ∧ ∃ k, w' = w.drewN k := by
 have c4 : w.cell? ⟨rb, 4, none⟩ = some (.slice (some ⟨g, 0, none⟩) n cap) := h.blk.cell 4
 have hc := Cells.of_own hr rfl
 have p0 : w.cell? ⟨g, bs.length, none⟩ = some (.pointer (some ⟨cb, 0, none⟩)) := by
  have h1 := hc bs.length (by simp)
  simpa using h1
 clear hc hr h
 subst hn
 unfold maxLen at hm
 have w1 : IntKind.i64.wrap (((bs.length + 1 : Nat) : Int) - 1) = (bs.length : Int) := by rw [IntKind.wrap_i64]; omega
 have w2 : 0 ≤ (bs.length : Int) := by omega
 have w3 : (bs.length : Int) < ((bs.length + 1 : Nat) : Int) := by omega
 have w4 : ((bs.length : Int)).toNat = bs.length := by omega
 go_enter Tryz.func75, Tryz.ntmps75
 go_wp2
 go_quiet (fail)
 go_wp2
 go_ret
 exact ⟨rfl, _, rfl⟩
theorem grown_refl' (w : World) (row : Option Nat) : w.grownBy w row := ⟨rfl, rfl, rfl, Nat.le_refl _, fun _ _ _ => rfl⟩
def ReadPost (base rb : Nat) (va vf vm vcalls vout : Value) (st co sp : Int) (inp : List Int) (w : World) (e : Ending) (w' : World) : Prop :=
 e = .returned (.int .i64 (inp.headD (-1))) ∧ ∃ vin', RunBlk w' rb va vf vm vin' vcalls st co vout sp ∧ w.grownBy w' (some rb) ∧ SlR w' (· < base) 1 RInt vin' inp.tail
set_option maxHeartbeats 2000000 in
theorem read_any (base rb : Nat) (va vf vm vin vcalls vout : Value) (st co sp : Int) (inp : List Int) (w : World) (h : RunBlk w rb va vf vm vin vcalls st co vout sp) (hi : SlR w (· < base) 1 RInt vin inp) (hb : base ≤ rb) :
  Calls Tryz.prog 106 #[.pointer (some ⟨rb, 0, none⟩)] w (ReadPost base rb va vf vm vcalls vout st co sp inp w) := by
 obtain ⟨A, c, hv, hlc, hcm⟩ := hi.val
 subst hv
 have c3 : w.cell? ⟨rb, 3, none⟩ = some (.slice A inp.length c) := h.blk.cell 3
 have z3 := h.blk.frozen 3
 have HH := Lib.hid h
 have HI := Lib.hid hi
 have hll := hi.len_le
 unfold maxLen at hll
 clear h hi
 cases inp with
 | nil =>
  go_enter Tryz.func106, Tryz.ntmps106
  go_wp2
  go_ret
  exact ⟨rfl, _, HH.out, grown_refl' _ _, HI.out⟩
 | cons a r =>
  obtain ⟨b, off, c', hf, _, _, hbl, hel⟩ := HI.out.form (by simp)
  obtain ⟨rfl, rfl⟩ : A = some ⟨b, off, none⟩ ∧ c = c' := by injection hf with h1 _ h2; exact ⟨h1, h2⟩
  obtain ⟨cs, _, hcs, hcell⟩ := hel 0 (by simp)
  subst hcs
  have i0 : w.cell? ⟨b, off, none⟩ = some (.int .i64 a) := by have h := hcell.at_ (j := 0) rfl; simpa using h
  have HE := Lib.hid hel
  have l0 : (a :: r).length = r.length + 1 := rfl
  rw [l0] at c3 hlc hll
  have e0 : (((r.length + 1 : Nat) : Int) == 0) = false := by rw [beq_dec]; exact decide_eq_false (by omega)
  have p0 : (0 : Int) < ((r.length + 1 : Nat) : Int) := by omega
  clear hf hel hcell l0
  go_enter Tryz.func106, Tryz.ntmps106
  have q1 : (1 : Int) ≤ ((r.length + 1 : Nat) : Int) := by omega
  have q2 : ((r.length + 1 : Nat) : Int) ≤ (c : Int) := by omega
  go_wp2
  ·have h1 : c = 1 := by assumption
   obtain rfl : r = [] := List.eq_nil_of_length_eq_zero (by omega)
   go_ret
   refine ⟨rfl, _, ⟨HH.out.blk.set_ 3 _⟩, grown_set1 _ _ _, ?_⟩
   exact ⟨_, 0, rfl, Nat.le_refl _, by unfold maxLen; omega, .inl rfl⟩
  ·go_ret
   refine ⟨rfl, _, ⟨HH.out.blk.set_ 3 _⟩, grown_set1 _ _ _, ?_⟩
   refine ⟨some ⟨b, off + 1, none⟩, c - 1, rfl, by show r.length ≤ c - 1; omega, by omega, ?_⟩
   by_cases hr : r = []
   ·exact .inl hr
   ·refine .inr ⟨b, off + 1, rfl, hbl, fun i hi => ?_⟩
    have hi' : i < r.length := hi
    obtain ⟨cs, h1, hR, hc⟩ := HE.out (i + 1) (by show i + 1 < r.length + 1; omega)
    refine ⟨cs, h1, hR, ?_⟩
    have e1 : off + 1 + i * 1 = off + (i + 1) * 1 := by omega
    rw [e1]
    exact hc.keep (Below.heap_setCell w ⟨rb, 3, none⟩ _ b (by show b ≠ rb; omega))
end Go.Proofs.YtkpigkopjfkepaaGreatDoor
namespace Go.Proofs.YtkpigkopjfkepaaGreatDoor
open Go.RowKit
set_option maxRecDepth 100000 in
set_option maxHeartbeats 4000000 in
theorem pop_last (base rb cap g cb : Nat) (into : Int) (va vf vm vin vout : Value) (st co sp n : Int) (w : World) (h : RunBlk w rb va vf vm vin (.slice (some ⟨g, 0, none⟩) 1 cap) st co vout sp) (hcap : 1 ≤ cap) (hr : w.ownsRow base 124 1 (.slice (some ⟨g, 0, none⟩) 1 cap) 1 ([cb].reverse.map fun b => .pointer (some ⟨b, 0, none⟩))) (hm : cap ≤ maxLen)
  (hi : w.cell? ⟨cb, 7, none⟩ = some (.int .i64 into)) :
  Calls Tryz.prog 101 #[.pointer (some ⟨rb, 0, none⟩), .int .i64 n] w fun e w' => e = .returned (.tuple #[]) ∧ RunBlk w' rb va vf vm vin (.slice (some ⟨g, 0, none⟩) 0 cap) 1 n vout sp ∧ w.grownBy w' (some rb) := by
 have HT := Lib.hid (top_any base rb 1 cap g cb va vf vm vin vout st co sp [] w rfl h hr (by unfold maxLen; omega))
 have HH := Lib.hid h
 unfold maxLen at hm
 clear h hr
 go_enter Tryz.func101, Tryz.ntmps101
 go_upto_region 1 with (go_at_call 75; refine HT.out.mono ?_; rintro e w' ⟨rfl, k, rfl⟩)
 refine wp_world ?_
 intro W hW
 have hb : RunBlk W rb va vf vm vin (.slice (some ⟨g, 0, none⟩) 1 cap) st co vout sp := ⟨by rw [← hW]; exact HH.out.blk⟩
 have hg : w.grownBy W (some rb) := by rw [← hW]; exact (below_drewN (Below.refl w.heap.size w) _ |> fun b => ⟨b.os, b.tape, b.output, b.size, fun k hk _ => b.block k hk⟩)
 have c4 : W.cell? ⟨rb, 4, none⟩ = some (.slice (some ⟨g, 0, none⟩) 1 cap) := hb.blk.cell 4
 have z4 := hb.blk.frozen 4
 have HB := Lib.hid hb
 have HG := Lib.hid hg
 clear hW hb hg hi c4 z4
 obtain ⟨W2, hW2⟩ : ∃ W2, W2 = W.drew := ⟨_, rfl⟩
 have hb2 : RunBlk W2 rb va vf vm vin (.slice (some ⟨g, 0, none⟩) 1 cap) st co vout sp := ⟨by rw [hW2]; exact HB.out.blk⟩
 have hg2 : w.grownBy W2 (some rb) := by rw [hW2]; exact ⟨HG.out.os, HG.out.tape, HG.out.output, HG.out.size, HG.out.block⟩
 have c4 : W.cell? ⟨rb, 4, none⟩ = some (.slice (some ⟨g, 0, none⟩) 1 cap) := HB.out.blk.cell 4
 have p1 : (0 : Int) ≤ (cap : Int) := by omega
 have p3 : IntKind.i64.wrap 0 = 0 := by decide
 go_still_tail 14, (by kernel_rfl)
 change wpList _ _ _ _ _ W.drew
 rw [← hW2]
 have HB2 := Lib.hid hb2
 have HG2 := Lib.hid hg2
 have d4 : W2.cell? ⟨rb, 4, none⟩ = some (.slice (some ⟨g, 0, none⟩) 1 cap) := hb2.blk.cell 4
 have z4 := hb2.blk.frozen 4
 clear hW2 c4 hb2 hg2 HB HG
 have HE := Lib.hid (fun (w3 : World) (h : RunBlk w3 rb va vf vm vin (.slice (some ⟨g, 0, none⟩) 0 cap) st co vout sp) => rend_any rb va vf vm vin (.slice (some ⟨g, 0, none⟩) 0 cap) vout st co sp 1 n w3 h)
 go_wp2_with (go_at_call 102; refine (HE.out _ ⟨HB2.out.blk.set_ 4 _⟩).mono ?_; rintro e w4 ⟨rfl, hb4, hg4⟩)
 refine bodyPost_ret (results_none rfl _ _ _) rfl ?_
 exact ⟨rfl, hb4, (HG2.out.trans (grown_set1 _ _ _)).trans hg4⟩
theorem row_cut {w : World} {base g cap k : Nat} {e : TypeId} {xs : List Value} {x : Value} (h : w.ownsRow base e 1 (.slice (some ⟨g, 0, none⟩) (k + 1) cap) (k + 1) (xs ++ [x])) (hk : xs.length = k) : w.ownsRow base e 1 (.slice (some ⟨g, 0, none⟩) k cap) k xs := by
 rcases h.2 with ⟨hn, _⟩ | ⟨g', cap', cur, hv, hb, hg, h1, h2, h3, h4⟩
 ·cases hn
 ·obtain ⟨rfl, rfl⟩ : g = g' ∧ cap = cap' := by injection hv with h5 _ h6; injection h5 with h5; injection h5 with h5; exact ⟨h5, h6⟩
  refine ⟨by simp [hk], .inr ⟨g, cap, cur, rfl, hb, hg, by omega, h2, h3, ?_⟩⟩
  have h5 := congrArg (List.take k) h4
  rw [Nat.mul_one, List.take_take, List.take_append_of_le_length (by omega)] at h5
  rw [Nat.mul_one]
  rw [show min k (k + 1) = k by omega] at h5
  rw [h5, List.take_of_length_le (by omega)]
set_option maxRecDepth 100000 in
set_option maxHeartbeats 4000000 in
theorem pop_more (base rb cap g cb cb2 vb m k : Nat) (into : Int) (va vf vm vin vout : Value) (st co sp n : Int) (bs : List Nat) (w : World) (h : RunBlk w rb va vf vm vin (.slice (some ⟨g, 0, none⟩) (k + 1) cap) st co vout sp) (hr : w.ownsRow base 124 1 (.slice (some ⟨g, 0, none⟩) (k + 1) cap) (k + 1) ((cb :: cb2 :: bs).reverse.map fun b => .pointer (some ⟨b, 0, none⟩))) (hk : k = bs.length + 1) (hcap : k + 1 ≤ cap) (hm : cap ≤ maxLen)
  (hi : w.cell? ⟨cb, 7, none⟩ = some (.int .i64 into)) (h0 : 0 ≤ into) (h1 : into < (m : Int)) (hv : w.cell? ⟨cb2, 4, none⟩ = some (.slice (some ⟨vb, 0, none⟩) m m)) (hx : ∃ x, w.cell? ⟨vb, into.toNat, none⟩ = some (.int .i64 x)) (hz : w.frozen? ⟨vb, into.toNat, none⟩ = false) (hne : cb2 ≠ rb) (hne2 : vb ≠ rb) (hng : g ≠ rb) :
  Calls Tryz.prog 101 #[.pointer (some ⟨rb, 0, none⟩), .int .i64 n] w fun e w' => e = .returned (.tuple #[]) ∧ ∃ w1, RunBlk w1 rb va vf vm vin (.slice (some ⟨g, 0, none⟩) k cap) st co vout sp ∧ w.grownBy w1 (some rb) ∧ w' = w1.setCell ⟨vb, into.toNat, none⟩ (.int .i64 n) := by
 have HT := Lib.hid (top_any base rb (k + 1) cap g cb va vf vm vin vout st co sp (cb2 :: bs) w (by simp [hk]) h hr (by omega))
 have HH := Lib.hid h
 obtain ⟨x, hx⟩ := hx
 have hrow := row_cut (xs := (cb2 :: bs).reverse.map fun b => .pointer (some ⟨b, 0, none⟩)) (x := .pointer (some ⟨cb, 0, none⟩)) (k := k) (by simpa using hr) (by simp [hk])
 have HROW := Lib.hid hrow
 have HV := Lib.hid hv
 have HX := Lib.hid hx
 have HZ := Lib.hid hz
 have hcb2 : cb2 < w.heap.size := World.block_lt_of_cell? w _ hv
 have hvb : vb < w.heap.size := World.block_lt_of_cell? w _ hx
 unfold maxLen at hm
 clear h hr hrow hv hx hz
 go_enter Tryz.func101, Tryz.ntmps101
 go_upto_region 1 with (go_at_call 75; refine HT.out.mono ?_; rintro e w' ⟨rfl, kk, rfl⟩)
 refine wp_world ?_
 intro W hW
 have hW2 : W.drew.heap = w.heap := by rw [← hW]; rfl
 have hb : RunBlk W rb va vf vm vin (.slice (some ⟨g, 0, none⟩) (k + 1) cap) st co vout sp := ⟨by rw [← hW]; exact HH.out.blk⟩
 have hg2 : w.grownBy W.drew (some rb) := by rw [← hW]; exact ⟨rfl, rfl, rfl, Nat.le_refl _, fun _ _ _ => rfl⟩
 have hc2 : W.cell? ⟨rb, 4, none⟩ = some (.slice (some ⟨g, 0, none⟩) (k + 1) cap) := hb.blk.cell 4
 have HB := Lib.hid hb
 clear hW hb hi HT
 have p1 : (0 : Int) ≤ (cap : Int) := by omega
 have p3 : IntKind.i64.wrap (k : Int) = (k : Int) := by rw [IntKind.wrap_i64]; omega
 have p5 : (k : Int) ≤ (cap : Int) := by omega
 have HKB := Lib.hid hk
 clear hk
 go_still_tail 14, (by kernel_rfl)
 change wpList _ _ _ _ _ W.drew
 have hb2 : RunBlk W.drew rb va vf vm vin (.slice (some ⟨g, 0, none⟩) (k + 1) cap) st co vout sp := ⟨HB.out.blk⟩
 generalize W.drew = W2 at *
 have d4 : W2.cell? ⟨rb, 4, none⟩ = some (.slice (some ⟨g, 0, none⟩) (k + 1) cap) := hb2.blk.cell 4
 have z4 := hb2.blk.frozen 4
 have HB2 := Lib.hid hb2
 have HG2 := Lib.hid hg2
 clear hb2 hg2 hc2 hW2 HB HH p3
 go_upto_region 2 with fail
 refine wp_world ?_
 intro W3 hW3
 have hb3 : RunBlk W3 rb va vf vm vin (.slice (some ⟨g, 0, none⟩) k cap) st co vout sp := ⟨by rw [← hW3]; exact HB2.out.blk.set_ 4 _⟩
 have hg3 : w.grownBy W3 (some rb) := by rw [← hW3]; exact HG2.out.trans (grown_set1 _ _ _)
 clear hW3 d4 z4 HB2 HG2
 have far : ∀ b i, b < w.heap.size → b ≠ rb → W3.cell? ⟨b, i, none⟩ = w.cell? ⟨b, i, none⟩ := fun b i h hn => World.cell?_of_block (w := w) (w' := W3) (a := ⟨b, i, none⟩) (hg3.block b h (fun e => by injection e with e; exact hn e))
 have hr3 : W3.ownsRow base 124 1 (.slice (some ⟨g, 0, none⟩) k cap) k ((cb2 :: bs).reverse.map fun b => .pointer (some ⟨b, 0, none⟩)) := HROW.out.kept hg3 (.inr (fun e => hng (by injection e)))
 have HT3 := Lib.hid (top_any base rb k cap g cb2 va vf vm vin vout st co sp bs W3 HKB.out hb3 hr3 (by unfold maxLen; omega))
 have v4 : W3.cell? ⟨cb2, 4, none⟩ = some (.slice (some ⟨vb, 0, none⟩) m m) := (far cb2 4 hcb2 hne).trans HV.out
 have vx : W3.cell? ⟨vb, into.toNat, none⟩ = some (.int .i64 x) := (far vb _ hvb hne2).trans HX.out
 have vz : W3.frozen? ⟨vb, into.toNat, none⟩ = false := by
  have h := hg3.block vb hvb (fun e => by injection e with e; exact hne2 e)
  have hz := HZ.out
  simp only [World.frozen?] at hz ⊢
  rw [h]; exact hz
 have c4 : W3.cell? ⟨rb, 4, none⟩ = some (.slice (some ⟨g, 0, none⟩) k cap) := hb3.blk.cell 4
 have e0 : ((k : Int) == 0) = false := by have := HKB.out; rw [beq_dec]; exact decide_eq_false (by omega)
 have HB3 := Lib.hid hb3
 have HG3 := Lib.hid hg3
 clear hb3 hg3 far hr3 HROW HV HX HZ
 go_wp2_with (go_at_call 75; refine HT3.out.mono ?_; rintro e w' ⟨rfl, kk, rfl⟩)
 go_end0
 refine ⟨rfl, W3.drewN kk, ⟨HB3.out.blk⟩, ⟨HG3.out.os, HG3.out.tape, HG3.out.output, HG3.out.size, HG3.out.block⟩, rfl⟩
end Go.Proofs.YtkpigkopjfkepaaGreatDoor
namespace Go.Proofs.YtkpigkopjfkepaaGreatDoor
open Go.RowKit
structure CallBlk (w : World) (cb : Nat) (nm : ByteArray) (pr vl : Int) (vf : Value) (vv : Value) (bl at_ into : Int) : Prop where
 blk : Blk w cb 126 #[.string nm, .int .i64 pr, .int .i64 vl, vf, vv, .int .i64 bl, .int .i64 at_, .int .i64 into]
theorem grown_drew (w : World) (k : Nat) (row : Option Nat) : w.grownBy (w.drewN k) row := ⟨rfl, rfl, rfl, Nat.le_refl _, fun _ _ _ => rfl⟩
theorem grown_alloc1 (w : World) (o : Obj) (row : Option Nat) : w.grownBy (w.alloc o) row := World.grownBy_alloc w o row
set_option maxRecDepth 100000 in
set_option maxHeartbeats 4000000 in
theorem term_jump (base rb k cap g cb : Nat) (va vf vm vin vout : Value) (st co sp : Int) (bs : List Nat) (nm : ByteArray) (pr vl : Int) (vfl vv : Value) (bl at_ into a tt els : Int) (w : World) (hk : k = bs.length + 1) (h : RunBlk w rb va vf vm vin (.slice (some ⟨g, 0, none⟩) k cap) st co vout sp) (hr : w.ownsRow base 124 1 (.slice (some ⟨g, 0, none⟩) k cap) k ((cb :: bs).reverse.map fun b => .pointer (some ⟨b, 0, none⟩))) (hm : k ≤ maxLen)
  (hc : CallBlk w cb nm pr vl vfl vv bl at_ into) :
  Calls Tryz.prog 76 #[.pointer (some ⟨rb, 0, none⟩), .agg #[.int .i64 1, .int .i64 a, .int .i64 tt, .int .i64 els]] w fun e w' => e = .returned (.tuple #[]) ∧ CallBlk w' cb nm pr vl vfl vv tt 0 into ∧ w.grownBy w' (some cb) := by
 have HT := Lib.hid (fun (W : World) (hb : Below w.heap.size w W) (hg : w.heap.size ≤ W.heap.size) => top_any base rb k cap g cb va vf vm vin vout st co sp bs W hk ⟨h.blk.below hb h.blk.lt⟩ (hr.kept (grown_below' (row := none) hb) (Classical.em _)) hm)
 have HC := Lib.hid hc
 have hcl := hc.blk.lt
 clear h hr hc hk
 go_enter Tryz.func76, Tryz.ntmps76
 go_upto_region 2 with (go_at_call 75; refine (HT.out _ (below1 _ _) (below1 _ _).size).mono ?_; rintro e w' ⟨rfl, kk, rfl⟩)
 refine wp_world ?_
 intro W hW
 have hb : CallBlk W cb nm pr vl vfl vv bl at_ into := ⟨by rw [← hW]; exact HC.out.blk.alloc _⟩
 have hg : w.grownBy W (some cb) := by rw [← hW]; exact (grown_alloc1 w _ _).trans (grown_drew _ _ _)
 have hx : Blk W w.heap.size 46 #[.int .i64 1, .int .i64 a, .int .i64 tt, .int .i64 els] := by rw [← hW]; exact Blk.new w _ _
 have x0 : W.cell? ⟨w.heap.size, 0, none⟩ = some (.int .i64 1) := hx.cell 0
 have x2 : W.cell? ⟨w.heap.size, 2, none⟩ = some (.int .i64 tt) := hx.cell 2
 have y5 : W.cell? ⟨cb, 5, none⟩ = some (.int .i64 bl) := hb.blk.cell 5
 have y6 : W.cell? ⟨cb, 6, none⟩ = some (.int .i64 at_) := hb.blk.cell 6
 have z5 := hb.blk.frozen 5
 have z6 := hb.blk.frozen 6
 have n1 : w.heap.size ≠ cb := by omega
 have HB := Lib.hid hb
 have HG := Lib.hid hg
 clear hW hb hg hx HC HT
 go_wp2
 go_end0
 exact ⟨rfl, ⟨(HB.out.blk.set_ 6 _).set_ 5 _⟩, HG.out.trans (grown_set2 _ _ _ _ _ _)⟩
set_option maxRecDepth 100000 in
set_option maxHeartbeats 4000000 in
theorem term_if (base rb k cap g cb : Nat) (va vf vm vin vout : Value) (st co sp : Int) (bs : List Nat) (nm : ByteArray) (pr vl : Int) (vfl : Value) (vb m : Nat) (x bl at_ into a tt els : Int) (w : World) (hk : k = bs.length + 1) (h : RunBlk w rb va vf vm vin (.slice (some ⟨g, 0, none⟩) k cap) st co vout sp) (hr : w.ownsRow base 124 1 (.slice (some ⟨g, 0, none⟩) k cap) k ((cb :: bs).reverse.map fun b => .pointer (some ⟨b, 0, none⟩))) (hm : k ≤ maxLen)
  (hc : CallBlk w cb nm pr vl vfl (.slice (some ⟨vb, 0, none⟩) m m) bl at_ into) (ha0 : 0 ≤ a) (ha1 : a < (m : Int)) (hvx : w.cell? ⟨vb, a.toNat, none⟩ = some (.int .i64 x)) (hnv : vb ≠ cb) (nb : Int) (hnb : nb = if x ≠ 0 then tt else els) :
  Calls Tryz.prog 76 #[.pointer (some ⟨rb, 0, none⟩), .agg #[.int .i64 2, .int .i64 a, .int .i64 tt, .int .i64 els]] w fun e w' => e = .returned (.tuple #[]) ∧ CallBlk w' cb nm pr vl vfl (.slice (some ⟨vb, 0, none⟩) m m) nb 0 into ∧ w.grownBy w' (some cb) := by
 have HT := Lib.hid (fun (W : World) (hb : Below w.heap.size w W) (hg : w.heap.size ≤ W.heap.size) => top_any base rb k cap g cb va vf vm vin vout st co sp bs W hk ⟨h.blk.below hb h.blk.lt⟩ (hr.kept (grown_below' (row := none) hb) (Classical.em _)) hm)
 have HC := Lib.hid hc
 have HNB := Lib.hid hnb
 clear hnb
 have hcl := hc.blk.lt
 clear h hr hc hk
 go_enter Tryz.func76, Tryz.ntmps76
 go_upto_region 2 with (go_at_call 75; refine (HT.out _ (below1 _ _) (below1 _ _).size).mono ?_; rintro e w' ⟨rfl, kk, rfl⟩)
 refine wp_world ?_
 intro W hW
 have hb : CallBlk W cb nm pr vl vfl (.slice (some ⟨vb, 0, none⟩) m m) bl at_ into := ⟨by rw [← hW]; exact HC.out.blk.alloc _⟩
 have hg : w.grownBy W (some cb) := by rw [← hW]; exact (grown_alloc1 w _ _).trans (grown_drew _ _ _)
 have hx : Blk W w.heap.size 46 #[.int .i64 2, .int .i64 a, .int .i64 tt, .int .i64 els] := by rw [← hW]; exact Blk.new w _ _
 have x0 : W.cell? ⟨w.heap.size, 0, none⟩ = some (.int .i64 2) := hx.cell 0
 have x1 : W.cell? ⟨w.heap.size, 1, none⟩ = some (.int .i64 a) := hx.cell 1
 have x3 : W.cell? ⟨w.heap.size, 3, none⟩ = some (.int .i64 els) := hx.cell 3
 have y4 : W.cell? ⟨cb, 4, none⟩ = some (.slice (some ⟨vb, 0, none⟩) m m) := hb.blk.cell 4
 have hvl : vb < w.heap.size := World.block_lt_of_cell? w _ hvx
 have vx : W.cell? ⟨vb, a.toNat, none⟩ = some (.int .i64 x) := (World.cell?_of_block (w := w) (w' := W) (a := ⟨vb, a.toNat, none⟩) (hg.block vb hvl (fun e => by injection e with e; exact hnv e))).trans hvx
 have x2 : W.cell? ⟨w.heap.size, 2, none⟩ = some (.int .i64 tt) := hx.cell 2
 have y5 : W.cell? ⟨cb, 5, none⟩ = some (.int .i64 bl) := hb.blk.cell 5
 have y6 : W.cell? ⟨cb, 6, none⟩ = some (.int .i64 at_) := hb.blk.cell 6
 have z5 := hb.blk.frozen 5
 have z6 := hb.blk.frozen 6
 have n1 : w.heap.size ≠ cb := by omega
 have HB := Lib.hid hb
 have HG := Lib.hid hg
 clear hW hb hg hx HC HT
 by_cases hx0 : x = 0
 ·have e0 : (x != 0) = false := by simp [hx0]
  have HX := Lib.hid (show nb = els from by rw [HNB.out]; exact if_neg (by simp [hx0]))
  clear hx0
  go_wp2
  go_quiet (fail)
  go_wp2
  go_end0
  refine ⟨rfl, ⟨?_⟩, ?_⟩
  ·rw [HX.out]
   exact ((HB.out.blk.set_ 6 _).set_ 5 _)
  ·exact HG.out.trans ((grown_set2 _ _ _ _ _ _).trans (grown_drew _ _ _))
 ·have e0 : (x != 0) = true := by simp [hx0]
  have HX := Lib.hid (show nb = tt from by rw [HNB.out]; exact if_pos hx0)
  clear hx0
  go_wp2
  go_quiet (fail)
  go_wp2
  go_end0
  refine ⟨rfl, ⟨?_⟩, ?_⟩
  ·rw [HX.out]
   have h1 := (HB.out.blk.set_ 6 (.int .i64 0)).set_ 5 (.int .i64 els)
   exact Blk.set_ h1 5 _
  ·exact HG.out.trans (((grown_set2 _ _ _ _ _ _).trans (grown_drew _ _ _)).trans (grown_set1 _ _ _))
set_option maxRecDepth 100000 in
set_option maxHeartbeats 4000000 in
theorem term_trap (base rb k cap g cb : Nat) (va vf vm vin vout : Value) (st co sp : Int) (bs : List Nat) (nm : ByteArray) (pr vl : Int) (vfl : Value) (vb m : Nat) (x bl at_ into a tt els : Int) (w : World) (hk : k = bs.length + 1) (h : RunBlk w rb va vf vm vin (.slice (some ⟨g, 0, none⟩) k cap) st co vout sp) (hr : w.ownsRow base 124 1 (.slice (some ⟨g, 0, none⟩) k cap) k ((cb :: bs).reverse.map fun b => .pointer (some ⟨b, 0, none⟩))) (hm : k ≤ maxLen)
  (hc : CallBlk w cb nm pr vl vfl (.slice (some ⟨vb, 0, none⟩) m m) bl at_ into) (ha0 : 0 ≤ a) (ha1 : a < (m : Int)) (hvx : w.cell? ⟨vb, a.toNat, none⟩ = some (.int .i64 x)) (hnv : vb ≠ cb) (hne : cb ≠ rb) :
  Calls Tryz.prog 76 #[.pointer (some ⟨rb, 0, none⟩), .agg #[.int .i64 4, .int .i64 a, .int .i64 tt, .int .i64 els]] w fun e w' => e = .returned (.tuple #[]) ∧ ∃ w1, CallBlk w1 cb nm pr vl vfl (.slice (some ⟨vb, 0, none⟩) m m) bl 0 into ∧ w.grownBy w1 (some cb) ∧ RunBlk w' rb va vf vm vin (.slice (some ⟨g, 0, none⟩) k cap) 5 x vout sp ∧ w1.grownBy w' (some rb) := by
 have HT := Lib.hid (fun (W : World) (hb : Below w.heap.size w W) (hg : w.heap.size ≤ W.heap.size) => top_any base rb k cap g cb va vf vm vin vout st co sp bs W hk ⟨h.blk.below hb h.blk.lt⟩ (hr.kept (grown_below' (row := none) hb) (Classical.em _)) hm)
 have HC := Lib.hid hc
 have HRB := Lib.hid h
 have hcl := hc.blk.lt
 clear h hr hc hk
 go_enter Tryz.func76, Tryz.ntmps76
 go_upto_region 2 with (go_at_call 75; refine (HT.out _ (below1 _ _) (below1 _ _).size).mono ?_; rintro e w' ⟨rfl, kk, rfl⟩)
 refine wp_world ?_
 intro W hW
 have hb : CallBlk W cb nm pr vl vfl (.slice (some ⟨vb, 0, none⟩) m m) bl at_ into := ⟨by rw [← hW]; exact HC.out.blk.alloc _⟩
 have hg : w.grownBy W (some cb) := by rw [← hW]; exact (grown_alloc1 w _ _).trans (grown_drew _ _ _)
 have hx : Blk W w.heap.size 46 #[.int .i64 4, .int .i64 a, .int .i64 tt, .int .i64 els] := by rw [← hW]; exact Blk.new w _ _
 have x0 : W.cell? ⟨w.heap.size, 0, none⟩ = some (.int .i64 4) := hx.cell 0
 have x1 : W.cell? ⟨w.heap.size, 1, none⟩ = some (.int .i64 a) := hx.cell 1
 have x3 : W.cell? ⟨w.heap.size, 3, none⟩ = some (.int .i64 els) := hx.cell 3
 have y4 : W.cell? ⟨cb, 4, none⟩ = some (.slice (some ⟨vb, 0, none⟩) m m) := hb.blk.cell 4
 have hvl : vb < w.heap.size := World.block_lt_of_cell? w _ hvx
 have vx : W.cell? ⟨vb, a.toNat, none⟩ = some (.int .i64 x) := (World.cell?_of_block (w := w) (w' := W) (a := ⟨vb, a.toNat, none⟩) (hg.block vb hvl (fun e => by injection e with e; exact hnv e))).trans hvx
 have x2 : W.cell? ⟨w.heap.size, 2, none⟩ = some (.int .i64 tt) := hx.cell 2
 have y5 : W.cell? ⟨cb, 5, none⟩ = some (.int .i64 bl) := hb.blk.cell 5
 have y6 : W.cell? ⟨cb, 6, none⟩ = some (.int .i64 at_) := hb.blk.cell 6
 have z5 := hb.blk.frozen 5
 have z6 := hb.blk.frozen 6
 have n1 : w.heap.size ≠ cb := by omega
 have HB := Lib.hid hb
 have HG := Lib.hid hg
 clear hW hb hg hx HC HT
 have hrb : RunBlk W rb va vf vm vin (.slice (some ⟨g, 0, none⟩) k cap) st co vout sp := ⟨HRB.out.blk.grown HG.out (fun e => hne (by injection e))⟩
 have HR := Lib.hid hrb
 clear hrb x2 x3 y5 z5
 go_upto_region 13 with fail
 refine wp_world ?_
 intro W1 hW1
 have hb1 : CallBlk W1 cb nm pr vl vfl (.slice (some ⟨vb, 0, none⟩) m m) bl 0 into := ⟨by rw [← hW1]; exact HB.out.blk.set_ 6 _⟩
 have hg1 : w.grownBy W1 (some cb) := by rw [← hW1]; exact HG.out.trans (grown_set1 _ _ _)
 have hr1 : RunBlk W1 rb va vf vm vin (.slice (some ⟨g, 0, none⟩) k cap) st co vout sp := ⟨by rw [← hW1]; exact HR.out.blk.far (fun e => hne e.symm) _⟩
 have s1 : W1.cell? ⟨w.heap.size, 1, none⟩ = some (.int .i64 a) := by rw [← hW1]; exact (World.cell?_setCell_other W _ _ _ (by intro e; injection e with e; exact n1 e.symm)).trans x1
 have s4 : W1.cell? ⟨cb, 4, none⟩ = some (.slice (some ⟨vb, 0, none⟩) m m) := hb1.blk.cell 4
 have sx : W1.cell? ⟨vb, a.toNat, none⟩ = some (.int .i64 x) := (World.cell?_of_block (w := w) (w' := W1) (a := ⟨vb, a.toNat, none⟩) (hg1.block vb hvl (fun e => by injection e with e; exact hnv e))).trans hvx
 have HB1 := Lib.hid hb1
 have HG1 := Lib.hid hg1
 have HR1 := Lib.hid hr1
 clear hW1 hb1 hg1 hr1 x0 x1 y4 y6 z6 vx hvx HB HG HR
 go_still_tail 9, (by kernel_rfl)
 change wpList _ _ _ _ _ W1.drew
 have HB2 := Lib.hid (show CallBlk W1.drew cb nm pr vl vfl (.slice (some ⟨vb, 0, none⟩) m m) bl 0 into from ⟨HB1.out.blk⟩)
 have HG2 := Lib.hid (show w.grownBy W1.drew (some cb) from ⟨HG1.out.os, HG1.out.tape, HG1.out.output, HG1.out.size, HG1.out.block⟩)
 have HR2 := Lib.hid (show RunBlk W1.drew rb va vf vm vin (.slice (some ⟨g, 0, none⟩) k cap) st co vout sp from ⟨HR1.out.blk⟩)
 clear HB1 HG1 HR1 s1 s4 sx
 generalize W1.drew = W2 at *
 have HE := Lib.hid (rend_any rb va vf vm vin (.slice (some ⟨g, 0, none⟩) k cap) vout st co sp 5 x W2 HR2.out)
 go_wp2_with (go_at_call 102; refine HE.out.mono ?_; rintro e w4 ⟨rfl, hb4, hg4⟩)
 go_end0
 exact ⟨rfl, W2, HB2.out, HG2.out, hb4, hg4⟩
set_option maxRecDepth 100000 in
set_option maxHeartbeats 4000000 in
theorem term_ret (base rb k cap g cb : Nat) (va vf vm vin vout : Value) (st co sp : Int) (bs : List Nat) (nm : ByteArray) (pr vl : Int) (vfl : Value) (vb m : Nat) (x bl at_ into a tt els : Int) (w : World) (hk : k = bs.length + 1) (h : RunBlk w rb va vf vm vin (.slice (some ⟨g, 0, none⟩) k cap) st co vout sp) (hr : w.ownsRow base 124 1 (.slice (some ⟨g, 0, none⟩) k cap) k ((cb :: bs).reverse.map fun b => .pointer (some ⟨b, 0, none⟩))) (hm : k ≤ maxLen)
  (hc : CallBlk w cb nm pr vl vfl (.slice (some ⟨vb, 0, none⟩) m m) bl at_ into) (ha0 : 0 ≤ a) (ha1 : a < (m : Int)) (hvx : w.cell? ⟨vb, a.toNat, none⟩ = some (.int .i64 x)) (hnv : vb ≠ cb) (hne : cb ≠ rb) (Q : World → World → Prop)
  (HP : ∀ W2, CallBlk W2 cb nm pr vl vfl (.slice (some ⟨vb, 0, none⟩) m m) bl 0 into → w.grownBy W2 (some cb) → RunBlk W2 rb va vf vm vin (.slice (some ⟨g, 0, none⟩) k cap) st co vout sp → Calls Tryz.prog 101 #[.pointer (some ⟨rb, 0, none⟩), .int .i64 x] W2 fun e w' => e = .returned (.tuple #[]) ∧ Q W2 w') :
  Calls Tryz.prog 76 #[.pointer (some ⟨rb, 0, none⟩), .agg #[.int .i64 3, .int .i64 a, .int .i64 tt, .int .i64 els]] w fun e w' => e = .returned (.tuple #[]) ∧ ∃ w1, CallBlk w1 cb nm pr vl vfl (.slice (some ⟨vb, 0, none⟩) m m) bl 0 into ∧ w.grownBy w1 (some cb) ∧ RunBlk w1 rb va vf vm vin (.slice (some ⟨g, 0, none⟩) k cap) st co vout sp ∧ Q w1 w' := by
 have HT := Lib.hid (fun (W : World) (hb : Below w.heap.size w W) (hg : w.heap.size ≤ W.heap.size) => top_any base rb k cap g cb va vf vm vin vout st co sp bs W hk ⟨h.blk.below hb h.blk.lt⟩ (hr.kept (grown_below' (row := none) hb) (Classical.em _)) hm)
 have HC := Lib.hid hc
 have HRB := Lib.hid h
 have HPP := Lib.hid HP
 clear HP
 have hcl := hc.blk.lt
 clear h hr hc hk
 go_enter Tryz.func76, Tryz.ntmps76
 go_upto_region 2 with (go_at_call 75; refine (HT.out _ (below1 _ _) (below1 _ _).size).mono ?_; rintro e w' ⟨rfl, kk, rfl⟩)
 refine wp_world ?_
 intro W hW
 have hb : CallBlk W cb nm pr vl vfl (.slice (some ⟨vb, 0, none⟩) m m) bl at_ into := ⟨by rw [← hW]; exact HC.out.blk.alloc _⟩
 have hg : w.grownBy W (some cb) := by rw [← hW]; exact (grown_alloc1 w _ _).trans (grown_drew _ _ _)
 have hx : Blk W w.heap.size 46 #[.int .i64 3, .int .i64 a, .int .i64 tt, .int .i64 els] := by rw [← hW]; exact Blk.new w _ _
 have x0 : W.cell? ⟨w.heap.size, 0, none⟩ = some (.int .i64 3) := hx.cell 0
 have x1 : W.cell? ⟨w.heap.size, 1, none⟩ = some (.int .i64 a) := hx.cell 1
 have x3 : W.cell? ⟨w.heap.size, 3, none⟩ = some (.int .i64 els) := hx.cell 3
 have y4 : W.cell? ⟨cb, 4, none⟩ = some (.slice (some ⟨vb, 0, none⟩) m m) := hb.blk.cell 4
 have hvl : vb < w.heap.size := World.block_lt_of_cell? w _ hvx
 have vx : W.cell? ⟨vb, a.toNat, none⟩ = some (.int .i64 x) := (World.cell?_of_block (w := w) (w' := W) (a := ⟨vb, a.toNat, none⟩) (hg.block vb hvl (fun e => by injection e with e; exact hnv e))).trans hvx
 have x2 : W.cell? ⟨w.heap.size, 2, none⟩ = some (.int .i64 tt) := hx.cell 2
 have y5 : W.cell? ⟨cb, 5, none⟩ = some (.int .i64 bl) := hb.blk.cell 5
 have y6 : W.cell? ⟨cb, 6, none⟩ = some (.int .i64 at_) := hb.blk.cell 6
 have z5 := hb.blk.frozen 5
 have z6 := hb.blk.frozen 6
 have n1 : w.heap.size ≠ cb := by omega
 have HB := Lib.hid hb
 have HG := Lib.hid hg
 clear hW hb hg hx HC HT
 have hrb : RunBlk W rb va vf vm vin (.slice (some ⟨g, 0, none⟩) k cap) st co vout sp := ⟨HRB.out.blk.grown HG.out (fun e => hne (by injection e))⟩
 have HR := Lib.hid hrb
 clear hrb x2 x3 y5 z5
 go_upto_region 11 with fail
 refine wp_world ?_
 intro W1 hW1
 have hb1 : CallBlk W1 cb nm pr vl vfl (.slice (some ⟨vb, 0, none⟩) m m) bl 0 into := ⟨by rw [← hW1]; exact HB.out.blk.set_ 6 _⟩
 have hg1 : w.grownBy W1 (some cb) := by rw [← hW1]; exact HG.out.trans (grown_set1 _ _ _)
 have hr1 : RunBlk W1 rb va vf vm vin (.slice (some ⟨g, 0, none⟩) k cap) st co vout sp := ⟨by rw [← hW1]; exact HR.out.blk.far (fun e => hne e.symm) _⟩
 have s1 : W1.cell? ⟨w.heap.size, 1, none⟩ = some (.int .i64 a) := by rw [← hW1]; exact (World.cell?_setCell_other W _ _ _ (by intro e; injection e with e; exact n1 e.symm)).trans x1
 have s4 : W1.cell? ⟨cb, 4, none⟩ = some (.slice (some ⟨vb, 0, none⟩) m m) := hb1.blk.cell 4
 have sx : W1.cell? ⟨vb, a.toNat, none⟩ = some (.int .i64 x) := (World.cell?_of_block (w := w) (w' := W1) (a := ⟨vb, a.toNat, none⟩) (hg1.block vb hvl (fun e => by injection e with e; exact hnv e))).trans hvx
 have HB1 := Lib.hid hb1
 have HG1 := Lib.hid hg1
 have HR1 := Lib.hid hr1
 clear hW1 hb1 hg1 hr1 x0 x1 y4 y6 z6 vx hvx HB HG HR
 go_still_tail 9, (by kernel_rfl)
 change wpList _ _ _ _ _ W1.drew
 have HB2 := Lib.hid (show CallBlk W1.drew cb nm pr vl vfl (.slice (some ⟨vb, 0, none⟩) m m) bl 0 into from ⟨HB1.out.blk⟩)
 have HG2 := Lib.hid (show w.grownBy W1.drew (some cb) from ⟨HG1.out.os, HG1.out.tape, HG1.out.output, HG1.out.size, HG1.out.block⟩)
 have HR2 := Lib.hid (show RunBlk W1.drew rb va vf vm vin (.slice (some ⟨g, 0, none⟩) k cap) st co vout sp from ⟨HR1.out.blk⟩)
 clear HB1 HG1 HR1 s1 s4 sx
 generalize W1.drew = W2 at *
 have HE := Lib.hid (HPP.out W2 HB2.out HG2.out HR2.out)
 go_wp2_with (go_at_call 101; refine HE.out.mono ?_; rintro e w4 ⟨rfl, hq⟩)
 go_end0
 exact ⟨rfl, W2, HB2.out, HG2.out, HR2.out, hq⟩
end Go.Proofs.YtkpigkopjfkepaaGreatDoor
