/- irrun.Run as a plain function over units: a run's state, what a step makes of it, and what a run with more steps, or with more to read, has to do with another one. -/
import Derived.Test.YtnpnhdmfdhnmfaaGreatDoorMem
import Derived.Test.YtnpnhdmfdhnmfaaGreatDoorArP
namespace Go.Proofs.YtnpnhdmfdhnmfaaGreatDoor

structure MCall where
  flow : LFlow
  values : List Int
  block : Int
  at_ : Int
  into : Int
/-- the calls: the one that goes on last is the first one -/
structure MRun where
  arrays : List (ByteArray × List Int)
  inp : List Int
  calls : List MCall
  status : Int
  code : Int
  out : List Int
  steps : Int
def MRun.stop (m : MRun) (s c : Int) : MRun := { m with status := s, code := c }
def MCall.val (c : MCall) (n : Int) : Int := c.values.getD n.toNat 0
def MCall.put (c : MCall) (n v : Int) : MCall := { c with values := c.values.set n.toNat v }
/-- the call that goes on last becomes another one -/
def MRun.top (m : MRun) (c : MCall) : MRun := { m with calls := c :: m.calls.tail }
def MRun.arr (m : MRun) (s : ByteArray) : List Int := ((m.arrays.find? fun a => decide (a.1 = s)).map (·.2)).getD []
def setArr (l : List (ByteArray × List Int)) (s : ByteArray) (i : Nat) (v : Int) : List (ByteArray × List Int) := l.map fun a => if a.1 = s then (a.1, a.2.set i v) else a
/-- the values that a call begins with: its args, then 0 -/
def argVals (n : Int) (args : List Int) : List Int := (args ++ List.replicate (n.toNat - args.length) 0).take n.toNat
def newCall (f : LFlow) (args : List Int) (into : Int) : MCall := ⟨f, argVals f.values args, 0, 0, into⟩
def MRun.push (u : LUnit) (m : MRun) (s : ByteArray) (args : List Int) (into : Int) : MRun :=
  match u.flows.find? (fun f => decide (f.name = s)) with
  | some f => { m with calls := newCall f args into :: m.calls }
  | none => m
def MRun.pop (m : MRun) (into n : Int) : MRun :=
  match m.calls.tail with
  | [] => { m with calls := [], status := 1, code := n }
  | c :: r => { m with calls := c.put into n :: r }
/-- an instruction; c is the call that goes on last -/
def insM (u : LUnit) (m : MRun) (c : MCall) (x : LIns) : MRun :=
  if x.kind = 1 then m.top (c.put x.d x.n)
  else if x.kind = 2 then m.top (c.put x.d (c.val x.a))
  else if x.kind = 3 then m.top (c.put x.d (Ar.one x.op (c.val x.a)))
  else if x.kind = 4 then (if Ar.twoOk x.op (c.val x.b) = true then m.top (c.put x.d (Ar.two x.op (c.val x.a) (c.val x.b))) else m.stop 2 0)
  else if x.kind = 5 then (if 0 ≤ c.val x.a ∧ c.val x.a < (m.arr x.name).length then m.top (c.put x.d ((m.arr x.name).getD (c.val x.a).toNat 0)) else m.stop 3 0)
  else if x.kind = 6 then (if 0 ≤ c.val x.a ∧ c.val x.a < (m.arr x.name).length then { m with arrays := setArr m.arrays x.name (c.val x.a).toNat (c.val x.b) } else m.stop 3 0)
  else if x.kind = 7 then { m.top (c.put x.d (m.inp.headD (-1))) with inp := m.inp.tail }
  else if x.kind = 8 then { m with out := m.out ++ [c.val x.a] }
  else if x.kind = 9 then (if m.calls.length ≥ 50 then m.stop 4 0 else m.push u x.name (x.args.map c.val) x.d)
  else m
def termM (m : MRun) (c : MCall) (t : LTerm) : MRun :=
  if t.kind = 1 then m.top { c with at_ := 0, block := t.to }
  else if t.kind = 2 then m.top { c with at_ := 0, block := if c.val t.a ≠ 0 then t.to else t.els }
  else if t.kind = 3 then MRun.pop m c.into (c.val t.a)
  else if t.kind = 4 then (m.top { c with at_ := 0 }).stop 5 (c.val t.a)
  else m.top { c with at_ := 0 }
def stepM (u : LUnit) (m : MRun) : MRun :=
  match m.calls with
  | [] => m
  | c :: _ =>
    match c.flow.blocks[c.block.toNat]? with
    | none => m
    | some b =>
      if c.at_ = b.ins.length then termM m c b.term
      else match b.ins[c.at_.toNat]? with
        | none => m
        | some x => insM u (m.top { c with at_ := c.at_ + 1 }) { c with at_ := c.at_ + 1 } x
/-- k steps more, at most -/
def runM (u : LUnit) : Nat → MRun → MRun
  | 0, m => m
  | k + 1, m => if m.status = 0 then runM u k (stepM u { m with steps := m.steps + 1 }) else m
theorem runM_end {u : LUnit} {m : MRun} (h : m.status ≠ 0) : ∀ k, runM u k m = m
  | 0 => rfl
  | k + 1 => by unfold runM; rw [if_neg h]
theorem runM_succ (u : LUnit) (k : Nat) (m : MRun) : runM u (k + 1) m = if m.status = 0 then runM u k (stepM u { m with steps := m.steps + 1 }) else m := rfl
theorem runM_add (u : LUnit) : ∀ (a b : Nat) (m : MRun), runM u (a + b) m = runM u b (runM u a m)
  | 0, b, m => by rw [Nat.zero_add]; rfl
  | a + 1, b, m => by
    rw [Nat.succ_add]
    by_cases h : m.status = 0
    · rw [runM_succ, runM_succ, if_pos h, if_pos h]
      exact runM_add u a b (stepM u { m with steps := m.steps + 1 })
    · rw [runM_end h, runM_end h, runM_end h]

/-! ### what a step does to the steps and to what was told -/
theorem ite_steps {p : Prop} [Decidable p] {a b : MRun} {n : Int} (ha : a.steps = n) (hb : b.steps = n) : (if p then a else b).steps = n := by split <;> assumption
theorem ite_pre {p : Prop} [Decidable p] {a b : MRun} {l : List Int} (ha : l <+: a.out) (hb : l <+: b.out) : l <+: (if p then a else b).out := by split <;> assumption
theorem push_steps (u : LUnit) (m : MRun) (s : ByteArray) (args : List Int) (into : Int) : (m.push u s args into).steps = m.steps := by
  unfold MRun.push; cases u.flows.find? (fun f => decide (f.name = s)) <;> rfl
theorem push_out (u : LUnit) (m : MRun) (s : ByteArray) (args : List Int) (into : Int) : (m.push u s args into).out = m.out := by
  unfold MRun.push; cases u.flows.find? (fun f => decide (f.name = s)) <;> rfl
theorem pop_steps (m : MRun) (into n : Int) : (m.pop into n).steps = m.steps := by
  unfold MRun.pop; cases m.calls.tail <;> rfl
theorem pop_out (m : MRun) (into n : Int) : (m.pop into n).out = m.out := by
  unfold MRun.pop; cases m.calls.tail <;> rfl
theorem insM_steps (u : LUnit) (m : MRun) (c : MCall) (x : LIns) : (insM u m c x).steps = m.steps := by
  unfold insM
  repeat' apply ite_steps
  all_goals first | rfl | exact push_steps _ _ _ _ _
theorem termM_steps (m : MRun) (c : MCall) (t : LTerm) : (termM m c t).steps = m.steps := by
  unfold termM
  repeat' apply ite_steps
  all_goals first | rfl | exact pop_steps _ _ _
theorem stepM_steps (u : LUnit) (m : MRun) : (stepM u m).steps = m.steps := by
  unfold stepM
  repeat' split
  all_goals first | rfl | exact termM_steps _ _ _ | exact insM_steps _ _ _ _
theorem insM_out (u : LUnit) (m : MRun) (c : MCall) (x : LIns) : m.out <+: (insM u m c x).out := by
  unfold insM
  repeat' apply ite_pre
  all_goals first | exact List.prefix_refl _ | exact List.prefix_append _ _ | (rw [push_out]; exact List.prefix_refl _)
theorem termM_out (m : MRun) (c : MCall) (t : LTerm) : m.out <+: (termM m c t).out := by
  unfold termM
  repeat' apply ite_pre
  all_goals first | exact List.prefix_refl _ | (rw [pop_out]; exact List.prefix_refl _)
theorem stepM_out (u : LUnit) (m : MRun) : m.out <+: (stepM u m).out := by
  unfold stepM
  repeat' split
  all_goals first | exact List.prefix_refl _ | exact termM_out _ _ _ | exact List.IsPrefix.trans (List.prefix_refl _) (insM_out u (m.top _) _ _)
theorem runM_out (u : LUnit) : ∀ (k : Nat) (m : MRun), m.out <+: (runM u k m).out
  | 0, m => List.prefix_refl _
  | k + 1, m => by
    unfold runM
    split
    · exact (stepM_out u { m with steps := m.steps + 1 }).trans (runM_out u k _)
    · exact List.prefix_refl _
theorem runM_steps (u : LUnit) : ∀ (k : Nat) (m : MRun), m.steps ≤ (runM u k m).steps ∧ (runM u k m).steps ≤ m.steps + k
  | 0, m => by unfold runM; omega
  | k + 1, m => by
    unfold runM
    split
    · have := runM_steps u k (stepM u { m with steps := m.steps + 1 })
      rw [stepM_steps] at this
      have e : ({ m with steps := m.steps + 1 } : MRun).steps = m.steps + 1 := rfl
      rw [e] at this
      omega
    · omega
theorem runM_going (u : LUnit) : ∀ (k : Nat) (m : MRun), (runM u k m).status = 0 → (runM u k m).steps = m.steps + k
  | 0, m, _ => by unfold runM; omega
  | k + 1, m, h => by
    unfold runM at h ⊢
    split
    · rename_i h0
      rw [if_pos h0] at h
      have := runM_going u k _ h
      rw [stepM_steps] at this
      have e : ({ m with steps := m.steps + 1 } : MRun).steps = m.steps + 1 := rfl
      rw [e] at this
      omega
    · rename_i h0
      rw [if_neg h0] at h
      exact absurd h h0

/-! ### what is read -/
def MRun.inpd (m : MRun) (y : List Int) : MRun := { m with inp := y }
/-- a step at another row to read that begins with the same number -/
def SameRead (f : MRun → MRun) (m : MRun) (y : List Int) : Prop := ∃ b : Bool, (f m).inp = (if b = true then m.inp.tail else m.inp) ∧ f (m.inpd y) = (f m).inpd (if b = true then y.tail else y)
theorem same_ite {p : Prop} [Decidable p] {f g : MRun → MRun} {m : MRun} {y : List Int} (hf : SameRead f m y) (hg : SameRead g m y) : SameRead (fun m => if p then f m else g m) m y := by
  by_cases h : p
  · obtain ⟨b, h1, h2⟩ := hf
    exact ⟨b, by simp only [if_pos h]; exact h1, by simp only [if_pos h]; exact h2⟩
  · obtain ⟨b, h1, h2⟩ := hg
    exact ⟨b, by simp only [if_neg h]; exact h1, by simp only [if_neg h]; exact h2⟩
theorem same_not {f : MRun → MRun} {m : MRun} {y : List Int} (h1 : (f m).inp = m.inp) (h2 : f (m.inpd y) = (f m).inpd y) : SameRead f m y := ⟨false, h1, h2⟩
theorem arr_inpd (m : MRun) (y : List Int) (s : ByteArray) : (m.inpd y).arr s = m.arr s := rfl
theorem push_inpd (u : LUnit) (m : MRun) (y : List Int) (s : ByteArray) (args : List Int) (into : Int) : (m.inpd y).push u s args into = (m.push u s args into).inpd y := by
  unfold MRun.push; cases u.flows.find? (fun f => decide (f.name = s)) <;> rfl
theorem push_inp (u : LUnit) (m : MRun) (s : ByteArray) (args : List Int) (into : Int) : (m.push u s args into).inp = m.inp := by
  unfold MRun.push; cases u.flows.find? (fun f => decide (f.name = s)) <;> rfl
theorem pop_inpd (m : MRun) (y : List Int) (into n : Int) : (m.inpd y).pop into n = (m.pop into n).inpd y := by
  unfold MRun.pop MRun.inpd
  cases m.calls.tail <;> rfl
theorem pop_inp (m : MRun) (into n : Int) : (m.pop into n).inp = m.inp := by
  unfold MRun.pop; cases m.calls.tail <;> rfl
theorem insM_read (u : LUnit) (m : MRun) (c : MCall) (x : LIns) (y : List Int) (hy : y.headD (-1) = m.inp.headD (-1)) : SameRead (fun m => insM u m c x) m y := by
  unfold insM
  refine same_ite (same_not rfl rfl) (same_ite (same_not rfl rfl) (same_ite (same_not rfl rfl) (same_ite (same_ite (same_not rfl rfl) (same_not rfl rfl)) (same_ite ?_ (same_ite ?_ (same_ite ?_ (same_ite (same_not rfl rfl) (same_ite ?_ (same_not rfl rfl)))))))))
  · by_cases h : 0 ≤ c.val x.a ∧ c.val x.a < (m.arr x.name).length
    · exact same_not (by simp only [if_pos h]; rfl) (by show (if 0 ≤ c.val x.a ∧ c.val x.a < (m.arr x.name).length then _ else _) = _; rw [if_pos h]; simp only [if_pos h]; rfl)
    · exact same_not (by simp only [if_neg h]; rfl) (by show (if 0 ≤ c.val x.a ∧ c.val x.a < (m.arr x.name).length then _ else _) = _; rw [if_neg h]; simp only [if_neg h]; rfl)
  · by_cases h : 0 ≤ c.val x.a ∧ c.val x.a < (m.arr x.name).length
    · exact same_not (by simp only [if_pos h]) (by show (if 0 ≤ c.val x.a ∧ c.val x.a < (m.arr x.name).length then _ else _) = _; rw [if_pos h]; simp only [if_pos h]; rfl)
    · exact same_not (by simp only [if_neg h]; rfl) (by show (if 0 ≤ c.val x.a ∧ c.val x.a < (m.arr x.name).length then _ else _) = _; rw [if_neg h]; simp only [if_neg h]; rfl)
  · refine ⟨true, rfl, ?_⟩
    show MRun.inpd (MRun.top (m.inpd y) (c.put x.d (y.headD (-1)))) y.tail = _
    rw [hy]; rfl
  · by_cases h : m.calls.length ≥ 50
    · exact same_not (by simp only [if_pos h]; rfl) (by show (if m.calls.length ≥ 50 then _ else _) = _; simp only [if_pos h]; rfl)
    · exact same_not (by simp only [if_neg h]; exact push_inp _ _ _ _ _) (by show (if m.calls.length ≥ 50 then _ else _) = _; simp only [if_neg h]; exact push_inpd _ _ _ _ _ _)
theorem termM_read (m : MRun) (c : MCall) (t : LTerm) (y : List Int) : SameRead (fun m => termM m c t) m y := by
  unfold termM
  exact same_ite (same_not rfl rfl) (same_ite (same_not rfl rfl) (same_ite (same_not (pop_inp _ _ _) (pop_inpd _ _ _ _)) (same_ite (same_not rfl rfl) (same_not rfl rfl))))
theorem stepM_read (u : LUnit) (m : MRun) (y : List Int) (hy : y.headD (-1) = m.inp.headD (-1)) : SameRead (stepM u) m y := by
  obtain ⟨ar, inp, calls, st, co, out, sp⟩ := m
  cases calls with
  | nil => exact same_not rfl rfl
  | cons c r =>
    unfold SameRead stepM
    show ∃ b : Bool, _
    simp only [MRun.inpd]
    cases hb : c.flow.blocks[c.block.toNat]? with
    | none => exact ⟨false, rfl, rfl⟩
    | some b =>
      simp only []
      by_cases h : c.at_ = b.ins.length
      · rw [if_pos h, if_pos h]
        exact termM_read ⟨ar, inp, c :: r, st, co, out, sp⟩ c b.term y
      · rw [if_neg h, if_neg h]
        cases hx : b.ins[c.at_.toNat]? with
        | none => exact ⟨false, rfl, rfl⟩
        | some x =>
          exact insM_read u (MRun.top ⟨ar, inp, c :: r, st, co, out, sp⟩ { c with at_ := c.at_ + 1 }) { c with at_ := c.at_ + 1 } x y hy
/-- a row to read with -1 behind it is read as it was, for so many steps -/
theorem runM_pad (u : LUnit) (e : List Int) : ∀ (k j : Nat) (m : MRun), k ≤ j → ∃ y, runM u k (m.inpd (m.inp ++ (List.replicate j (-1) ++ e))) = (runM u k m).inpd y
  | 0, j, m, _ => ⟨_, rfl⟩
  | k + 1, j, m, h => by
    rw [runM_succ, runM_succ]
    show ∃ y, (if m.status = 0 then runM u k (stepM u (MRun.inpd { m with steps := m.steps + 1 } (m.inp ++ (List.replicate j (-1) ++ e)))) else _) = _
    by_cases h0 : m.status = 0
    · rw [if_pos h0, if_pos h0]
      obtain ⟨j', rfl⟩ : ∃ j', j = j' + 1 := ⟨j - 1, by omega⟩
      have hy : (m.inp ++ (List.replicate (j' + 1) (-1) ++ e)).headD (-1) = m.inp.headD (-1) := by
        cases m.inp <;> simp [List.replicate_succ]
      obtain ⟨b, h1, h2⟩ := stepM_read u { m with steps := m.steps + 1 } (m.inp ++ (List.replicate (j' + 1) (-1) ++ e)) hy
      rw [h2]
      have h1' : (stepM u { m with steps := m.steps + 1 }).inp = if b = true then m.inp.tail else m.inp := h1
      cases b with
      | false =>
        have := runM_pad u e k (j' + 1) (stepM u { m with steps := m.steps + 1 }) (by omega)
        rw [h1'] at this
        exact this
      | true =>
        cases hi : m.inp with
        | nil =>
          have := runM_pad u e k j' (stepM u { m with steps := m.steps + 1 }) (by omega)
          rw [h1', hi] at this
          exact this
        | cons a r =>
          have := runM_pad u e k (j' + 1) (stepM u { m with steps := m.steps + 1 }) (by omega)
          rw [h1', hi] at this
          exact this
    · rw [if_neg h0, if_neg h0]
      exact ⟨_, rfl⟩
end Go.Proofs.YtnpnhdmfdhnmfaaGreatDoor
