/- What holds of a run's state on and on: its calls stand in the unit's functions, and so on. -/
import Derived.Test.YtknccacfhknnaaaIrCheck
import Derived.Test.YtknccacfhknnaaaRunPlain
namespace Go.Proofs.Ytknccacfhknnaaa

structure CallOk (u : LUnit) (c : MCall) : Prop where
  flow : c.flow ∈ u.flows
  vals : (c.values.length : Int) = c.flow.values
  b0 : 0 ≤ c.block
  b1 : c.block < (c.flow.blocks.length : Int)
  a0 : 0 ≤ c.at_
  a1 : ∀ b, c.flow.blocks[c.block.toNat]? = some b → c.at_ ≤ (b.ins.length : Int)
/-- each call knows where its caller wants what it returns -/
def Linked : List MCall → Prop
  | c :: c2 :: r => (0 ≤ c.into ∧ c.into < (c2.values.length : Int)) ∧ Linked (c2 :: r)
  | _ => True
structure MOk (u : LUnit) (m : MRun) : Prop where
  calls : ∀ c ∈ m.calls, CallOk u c
  linked : Linked m.calls
  deep : m.calls.length ≤ 50
  ne : m.status = 0 → m.calls ≠ []
  names : m.arrays.map (·.1) = u.arrays.map (·.1)
  sizes : ∀ a ∈ m.arrays, a.2.length ≤ 1048576
  out : (m.out.length : Int) ≤ m.steps
theorem Linked.top {c c' : MCall} {r : List MCall} (h : Linked (c :: r)) (hi : c'.into = c.into) : Linked (c' :: r) := by
  cases r with
  | nil => trivial
  | cons d r => unfold Linked at h ⊢; rw [hi]; exact h
theorem Linked.second {c c' : MCall} {r : List MCall} (h : Linked (c :: r)) (hi : c'.into = c.into) (_hv : c'.values.length = c.values.length) : Linked (c' :: r) := h.top hi
theorem Linked.tail {c : MCall} {r : List MCall} (h : Linked (c :: r)) : Linked r := by
  cases r with
  | nil => trivial
  | cons d r => exact h.2

theorem flow_ok {u : LUnit} (hu : UnitOk u) {f : LFlow} (hf : f ∈ u.flows) : 0 ≤ f.params ∧ f.params ≤ 6 ∧ f.params ≤ f.values ∧ f.values ≤ 50000 ∧ 0 < f.blocks.length ∧ f.blocks.length ≤ 20000 := by
  have h := hu.nums f hf
  unfold flowBad at h
  have h := of_decide_eq_false h
  omega
theorem block_ok {u : LUnit} (hu : UnitOk u) {f : LFlow} (hf : f ∈ u.flows) {b : LBlock} (hb : b ∈ f.blocks) : termOk f.blocks.length f.values b.term = true ∧ (∀ x ∈ b.ins, insOk u f.values x = true) := by
  have h := hu.blocks f hf
  rw [List.any_eq_false] at h
  have h := h b hb
  unfold blockBad at h
  simp only [Bool.not_eq_true, Bool.or_eq_false_iff, Bool.not_eq_false', List.any_eq_false] at h
  exact ⟨h.1, fun x hx => by have := h.2 x hx; simpa using this⟩
theorem placeIf_true {n top : Int} (h : placeIf n top true = true) : 0 ≤ n ∧ n < top := by unfold placeIf at h; simpa using h
/-- what an instruction that may be is -/
structure InsK (u : LUnit) (vals : Int) (x : LIns) : Prop where
  kind : 1 ≤ x.kind ∧ x.kind ≤ 9
  d : hasD x.kind = true → 0 ≤ x.d ∧ x.d < vals
  a : hasA x.kind = true → 0 ≤ x.a ∧ x.a < vals
  b : hasB x.kind = true → 0 ≤ x.b ∧ x.b < vals
  arr : x.kind = 5 ∨ x.kind = 6 → ∃ (i : Nat) (h : i < u.arrays.length), u.arrays[i].1 = x.name
  call : x.kind = 9 → ∃ g, u.flows.find? (fun f => decide (f.name = x.name)) = some g ∧ (x.args.length : Int) = g.params ∧ ∀ n ∈ x.args, 0 ≤ n ∧ n < vals
theorem insK_of {u : LUnit} {vals : Int} {x : LIns} (h : insOk u vals x = true) : InsK u vals x := by
  unfold insOk at h
  simp only [Bool.and_eq_true, decide_eq_true_eq] at h
  obtain ⟨⟨⟨⟨⟨⟨h1, h2⟩, h3⟩, h4⟩, _⟩, _⟩, h7⟩ := h
  refine ⟨h1, fun e => ?_, fun e => ?_, fun e => ?_, fun e => ?_, fun e => ?_⟩
  · rw [e] at h2; exact placeIf_true h2
  · rw [e] at h3; exact placeIf_true h3
  · rw [e] at h4; exact placeIf_true h4
  · unfold namedOk at h7
    rw [if_pos e] at h7
    simp only [Bool.and_eq_true, List.any_eq_true, decide_eq_true_eq] at h7
    obtain ⟨_, a, ha, hn⟩ := h7
    obtain ⟨i, hi, rfl⟩ := List.getElem_of_mem ha
    exact ⟨i, hi, hn⟩
  · unfold namedOk at h7
    rw [if_neg (by omega), if_pos e] at h7
    unfold callOk at h7
    cases hg : u.flows.find? (fun f => decide (f.name = x.name)) with
    | none => rw [hg] at h7; cases h7
    | some g =>
      rw [hg] at h7
      simp only [Bool.and_eq_true, decide_eq_true_eq, Bool.not_eq_true', List.any_eq_false] at h7
      refine ⟨g, rfl, h7.1, fun n hn => ?_⟩
      have := h7.2 n hn
      exact placeIf_true (by simpa using this)
structure TermK (nb vals : Int) (t : LTerm) : Prop where
  kind : 1 ≤ t.kind ∧ t.kind ≤ 4
  a : t.kind ≠ 1 → 0 ≤ t.a ∧ t.a < vals
  dest : t.kind = 1 ∨ t.kind = 2 → 0 ≤ t.to ∧ t.to < nb
  els : t.kind = 2 → 0 ≤ t.els ∧ t.els < nb
theorem termK_of {nb vals : Int} {t : LTerm} (h : termOk nb vals t = true) : TermK nb vals t := by
  unfold termOk at h
  simp only [Bool.and_eq_true, decide_eq_true_eq] at h
  obtain ⟨⟨⟨h1, h2⟩, h3⟩, h4⟩ := h
  refine ⟨h1, fun e => ?_, fun e => ?_, fun e => ?_⟩
  · rw [decide_eq_true e] at h2; exact placeIf_true h2
  · rw [decide_eq_true e] at h3; exact placeIf_true h3
  · rw [decide_eq_true e] at h4; exact placeIf_true h4

/-- what a call of the state stands at -/
theorem CallOk.block_at {u : LUnit} {c : MCall} (h : CallOk u c) : ∃ (hb : c.block.toNat < c.flow.blocks.length), c.flow.blocks[c.block.toNat]? = some c.flow.blocks[c.block.toNat] := by
  have h0 := h.b0
  have h1 := h.b1
  have hb : c.block.toNat < c.flow.blocks.length := by omega
  exact ⟨hb, List.getElem?_eq_getElem hb⟩
theorem newCall_ok {u : LUnit} (hu : UnitOk u) {f : LFlow} (hf : f ∈ u.flows) (args : List Int) (into : Int) : CallOk u (newCall f args into) := by
  obtain ⟨h1, h2, h3, h4, h5, h6⟩ := flow_ok hu hf
  refine ⟨hf, ?_, Int.le_refl _, ?_, Int.le_refl _, fun b _ => ?_⟩
  · show ((argVals f.values args).length : Int) = f.values
    unfold argVals
    simp
    omega
  · show (0 : Int) < (f.blocks.length : Int); omega
  · show (0 : Int) ≤ (b.ins.length : Int); omega

section
variable {u : LUnit} {m : MRun} {c : MCall} {r : List MCall}
theorem MOk.of_top (h : MOk u m) (hm : m.calls = c :: r) {m' : MRun} {c' : MCall} (hc : m'.calls = c' :: r) (hc' : CallOk u c') (hi : c'.into = c.into) (h1 : m'.arrays.map (·.1) = u.arrays.map (·.1)) (h2 : ∀ a ∈ m'.arrays, a.2.length ≤ 1048576) (h3 : (m'.out.length : Int) ≤ m'.steps) : MOk u m' := by
  have hl := h.linked
  have hd := h.deep
  rw [hm] at hl hd
  refine ⟨fun d hd => ?_, by rw [hc]; exact hl.top hi, by rw [hc]; simpa using hd, fun _ => by rw [hc]; simp, h1, h2, h3⟩
  rw [hc] at hd
  rcases List.mem_cons.1 hd with rfl | hd
  · exact hc'
  · exact h.calls d (by rw [hm]; simp [hd])
theorem CallOk.put (h : CallOk u c) (d v : Int) : CallOk u (c.put d v) := ⟨h.flow, by simpa [MCall.put] using h.vals, h.b0, h.b1, h.a0, h.a1⟩
theorem MOk.put (h : MOk u m) (hm : m.calls = c :: r) (hc : CallOk u c) (d v : Int) : MOk u (m.top (c.put d v)) :=
  h.of_top hm (c' := c.put d v) (by simp [MRun.top, hm]) (hc.put d v) rfl h.names h.sizes h.out
theorem MOk.stop (h : MOk u m) (hne : m.calls ≠ []) (s co : Int) : MOk u (m.stop s co) := ⟨h.calls, h.linked, h.deep, fun _ => hne, h.names, h.sizes, h.out⟩
theorem setArr_sizes {l : List (ByteArray × List Int)} {N : Nat} (h : ∀ a ∈ l, a.2.length ≤ N) (s : ByteArray) (k : Nat) (v : Int) : ∀ a ∈ setArr l s k v, a.2.length ≤ N := fun a ha => by
  unfold setArr at ha
  obtain ⟨b, hb, rfl⟩ := List.mem_map.1 ha
  split
  · simpa using h b hb
  · exact h b hb
theorem setArr_names' (l : List (ByteArray × List Int)) (s : ByteArray) (k : Nat) (v : Int) : (setArr l s k v).map (·.1) = l.map (·.1) := by
  unfold setArr
  rw [List.map_map]
  apply List.map_congr_left
  intro a _
  simp only [Function.comp]
  split <;> rfl
theorem MOk.ins (hu : UnitOk u) (h : MOk u m) (hm : m.calls = c :: r) (hs : (m.out.length : Int) + 1 ≤ m.steps) {x : LIns} (hx : InsK u c.flow.values x) : MOk u (insM u m c x) := by
  have hc := h.calls c (by rw [hm]; simp)
  have hne : m.calls ≠ [] := by rw [hm]; simp
  unfold insM
  split
  · exact h.put hm hc _ _
  split
  · exact h.put hm hc _ _
  split
  · exact h.put hm hc _ _
  split
  · split
    · exact h.put hm hc _ _
    · exact h.stop hne _ _
  split
  · split
    · exact h.put hm hc _ _
    · exact h.stop hne _ _
  split
  · split
    · exact ⟨h.calls, h.linked, h.deep, h.ne, by show (setArr _ _ _ _).map (·.1) = _; rw [setArr_names']; exact h.names, setArr_sizes h.sizes _ _ _, h.out⟩
    · exact h.stop hne _ _
  split
  · have := h.put hm hc x.d (m.inp.headD (-1))
    exact ⟨this.calls, this.linked, this.deep, this.ne, this.names, this.sizes, this.out⟩
  split
  · exact ⟨h.calls, h.linked, h.deep, h.ne, h.names, h.sizes, by simp; omega⟩
  split
  · rename_i hk
    split
    · exact h.stop hne _ _
    · rename_i hd
      obtain ⟨g, hg, hp, ha⟩ := hx.call hk
      have hd9 : hasD x.kind = true := by rw [hk]; decide
      obtain ⟨d0, d1⟩ := hx.d hd9
      unfold MRun.push
      rw [hg]
      refine ⟨fun d hd => ?_, ?_, ?_, fun _ => by simp, h.names, h.sizes, h.out⟩
      · rcases List.mem_cons.1 hd with rfl | hd
        · exact newCall_ok hu (List.mem_of_find?_eq_some hg) _ _
        · exact h.calls d hd
      · show Linked (newCall g _ x.d :: m.calls)
        rw [hm]
        have hl := h.linked
        rw [hm] at hl
        refine ⟨⟨d0, ?_⟩, hl⟩
        show x.d < (c.values.length : Int)
        rw [hc.vals]; exact d1
      · show (newCall g _ x.d :: m.calls).length ≤ 50
        simp; omega
  · exact h
theorem MOk.term (h : MOk u m) (hm : m.calls = c :: r) {t : LTerm} (ht : TermK c.flow.blocks.length c.flow.values t) : MOk u (termM m c t) := by
  have hc := h.calls c (by rw [hm]; simp)
  have at0 : ∀ k : Int, 0 ≤ k → k < (c.flow.blocks.length : Int) → CallOk u { c with at_ := 0, block := k } := fun k h0 h1 => ⟨hc.flow, hc.vals, h0, h1, Int.le_refl _, fun b _ => by show (0 : Int) ≤ (b.ins.length : Int); omega⟩
  have tc : ∀ c', (m.top c').calls = c' :: r := fun c' => by simp [MRun.top, hm]
  unfold termM
  split
  · rename_i hk
    obtain ⟨h0, h1⟩ := ht.dest (.inl hk)
    exact h.of_top hm (tc _) (at0 _ h0 h1) rfl h.names h.sizes h.out
  split
  · rename_i hk
    obtain ⟨h0, h1⟩ := ht.dest (.inr hk)
    obtain ⟨h2, h3⟩ := ht.els hk
    refine h.of_top hm (tc _) (at0 _ ?_ ?_) rfl h.names h.sizes h.out
    · split <;> assumption
    · split <;> assumption
  split
  · unfold MRun.pop
    rw [hm]
    cases r with
    | nil => exact ⟨(fun d hd => by cases hd), trivial, by simp, (fun e => by cases e), h.names, h.sizes, h.out⟩
    | cons c2 r =>
      have hl := h.linked
      have hd := h.deep
      rw [hm] at hl hd
      refine ⟨fun d hd => ?_, ?_, by simpa using Nat.le_trans (Nat.le_succ _) hd, fun _ => by simp, h.names, h.sizes, h.out⟩
      · rcases List.mem_cons.1 hd with rfl | hd
        · exact (h.calls c2 (by rw [hm]; simp)).put _ _
        · exact h.calls d (by rw [hm]; simp [hd])
      · exact hl.tail.top rfl
  split
  · have h1 : MOk u (m.top { c with at_ := 0 }) := h.of_top hm (tc _) (at0 _ hc.b0 hc.b1) rfl h.names h.sizes h.out
    exact h1.stop (by rw [tc]; simp) _ _
  · exact h.of_top hm (tc _) (at0 _ hc.b0 hc.b1) rfl h.names h.sizes h.out
theorem MOk.ahead (h : MOk u m) (hm : m.calls = c :: r) {b : LBlock} (hb : c.flow.blocks[c.block.toNat]? = some b) (hat : c.at_ ≠ (b.ins.length : Int)) : MOk u (m.top { c with at_ := c.at_ + 1 }) ∧ CallOk u { c with at_ := c.at_ + 1 } := by
  have hc := h.calls c (by rw [hm]; simp)
  have h1 : CallOk u { c with at_ := c.at_ + 1 } := by
    refine ⟨hc.flow, hc.vals, hc.b0, hc.b1, by have := hc.a0; show 0 ≤ c.at_ + 1; omega, fun b' hb' => ?_⟩
    have e : some b' = some b := by rw [← hb']; exact hb
    injection e with e
    subst e
    have := hc.a1 b' hb
    show c.at_ + 1 ≤ _
    omega
  exact ⟨h.of_top hm (c' := { c with at_ := c.at_ + 1 }) (by simp [MRun.top, hm]) h1 rfl h.names h.sizes h.out, h1⟩
theorem MOk.step (hu : UnitOk u) (h : MOk u m) (hs : (m.out.length : Int) + 1 ≤ m.steps) : MOk u (stepM u m) := by
  unfold stepM
  cases hm : m.calls with
  | nil => exact h
  | cons c r =>
    have hc := h.calls c (by rw [hm]; simp)
    obtain ⟨hb, hbe⟩ := hc.block_at
    simp only []
    rw [hbe]
    obtain ⟨ht, hi⟩ := block_ok hu hc.flow (List.getElem_mem hb)
    simp only []
    split
    · exact h.term hm (termK_of ht)
    · rename_i hat
      cases hx : (c.flow.blocks[c.block.toNat]).ins[c.at_.toNat]? with
      | none => exact h
      | some x =>
        obtain ⟨h1, h2⟩ := h.ahead hm hbe hat
        exact MOk.ins hu h1 (c := { c with at_ := c.at_ + 1 }) (r := r) (by simp [MRun.top, hm]) hs (insK_of (hi x (List.mem_of_getElem? hx)))
/-- a round of Run's loop -/
theorem MOk.round (hu : UnitOk u) (h : MOk u m) : MOk u (stepM u { m with steps := m.steps + 1 }) := by
  have h1 : MOk u { m with steps := m.steps + 1 } := ⟨h.calls, h.linked, h.deep, h.ne, h.names, h.sizes, by have := h.out; show (m.out.length : Int) ≤ m.steps + 1; omega⟩
  exact h1.step hu (by have := h.out; show (m.out.length : Int) + 1 ≤ m.steps + 1; omega)
end
end Go.Proofs.Ytknccacfhknnaaa
