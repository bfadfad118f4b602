/- What stands in blocks that are not come to makes no difference for a run. A unit without idle instructions does what it did, in as many steps, or fewer. A value that is not wanted at a block's beginning may be anything there. A unit whose blocks and values are turned may be, and runs as it did. -/
import Derived.Test.YtkpigkopjfkepaaGreatDoorPrMore
import Derived.Test.YtkpigkopjfkepaaGreatDoorPrVisitF
import Derived.Test.YtkpigkopjfkepaaGreatDoorPrSetsA
namespace Go.Proofs.YtkpigkopjfkepaaGreatDoor
theorem nextL_to {t : LTerm} (h : t.kind = 1 ∨ t.kind = 2) : t.to ∈ nextL t := by
 unfold nextL
 by_cases e : t.kind = 2 ∧ t.to ≠ t.els
 ·rw [if_pos e]; simp
 ·rw [if_neg e, if_pos (by omega)]; simp
theorem nextL_els {t : LTerm} (h : t.kind = 2) : t.els ∈ nextL t := by
 unfold nextL
 by_cases e : t.kind = 2 ∧ t.to ≠ t.els
 ·rw [if_pos e]; simp
 ·rw [if_neg e, if_pos (by omega)]
  have : t.to = t.els := by
   by_cases e2 : t.to = t.els
   ·exact e2
   ·exact absurd ⟨h, e2⟩ e
  simp [this]
end Go.Proofs.YtkpigkopjfkepaaGreatDoor
namespace Go.Proofs.YtkpigkopjfkepaaGreatDoor
def IdleL (W : Int → Bool) (x : LIns) : Prop := (x.kind = 2 ∧ x.a = x.d) ∨ ((x.kind = 1 ∨ x.kind = 2 ∨ x.kind = 3 ∨ (x.kind = 4 ∧ x.op ≠ 4 ∧ x.op ≠ 5)) ∧ W x.d = false)
inductive Thin (S : Int → Bool) : List LIns → List LIns → Prop
 | nil : Thin S [] []
 | keep (x : LIns) (l l' : List LIns) : Thin S l l' → Thin S (x :: l) (x :: l')
 | drop (x : LIns) (l l' : List LIns) : IdleL (stepsS l S) x → Thin S l l' → Thin S (x :: l) l'
theorem Thin.le {S : Int → Bool} {l l' : List LIns} (h : Thin S l l') : l'.length ≤ l.length := by
 induction h with
 | nil => exact Nat.le_refl _
 | keep x l l' _ ih => simp only [List.length_cons]; omega
 | drop x l l' _ _ ih => simp only [List.length_cons]; omega
theorem Thin.nil_of {S : Int → Bool} {l' : List LIns} (h : Thin S [] l') : l' = [] := by cases h; rfl
structure SwL (d : Nat) (L : Nat → Int → Bool) (f f' : LFlow) : Prop where
 name : f'.name = f.name
 params : f'.params = f.params
 values : f'.values = f.values
 len : f'.blocks.length = f.blocks.length
 pre : Pre f L
 term : ∀ (i : Nat) (b b' : LBlock), f.blocks[i]? = some b → f'.blocks[i]? = some b' → b'.term = b.term
 thin : ∀ (i : Nat) (b b' : LBlock), f.blocks[i]? = some b → f'.blocks[i]? = some b' → Thin (endS b.term L) b.ins b'.ins
 few : ∀ (i : Nat) (b b' : LBlock), f.blocks[i]? = some b → f'.blocks[i]? = some b' → b.ins.length ≤ b'.ins.length + d
structure UnitSw (d : Nat) (u u' : LUnit) (g : LFlow → LFlow) (L : LFlow → Nat → Int → Bool) : Prop where
 find : ∀ (s : ByteArray) (f : LFlow), u.flows.find? (fun f => decide (f.name = s)) = some f → u'.flows.find? (fun f => decide (f.name = s)) = some (g f)
 sw : ∀ f ∈ u.flows, SwL d (L f) f (g f)
 arrays : u'.arrays = u.arrays
structure SwC (d : Nat) (L : LFlow → Nat → Int → Bool) (g : LFlow → LFlow) (but : Int → Prop) (c c' : MCall) : Prop where
 flow : c'.flow = g c.flow
 block : c'.block = c.block
 into : c'.into = c.into
 b0 : 0 ≤ c.block
 at0 : 0 ≤ c'.at_
 len : c'.values.length = c.values.length
 here : ∀ b b', c.flow.blocks[c.block.toNat]? = some b → (g c.flow).blocks[c.block.toNat]? = some b' →
  Thin (endS b.term (L c.flow)) (b.ins.drop c.at_.toNat) (b'.ins.drop c'.at_.toNat) ∧ (b.ins.drop c.at_.toNat).length ≤ (b'.ins.drop c'.at_.toNat).length + d ∧
  ∀ v, 0 ≤ v → ¬ but v → stepsS (b.ins.drop c.at_.toNat) (endS b.term (L c.flow)) v = true → c'.val v = c.val v
def SwR (d : Nat) (L : LFlow → Nat → Int → Bool) (g : LFlow → LFlow) : Int → List MCall → List MCall → Prop
 | _, [], [] => True
 | n, c :: l, c' :: l' => SwC d L g (fun v => v = n) c c' ∧ SwR d L g c.into l l'
 | _, _, _ => False
def SwT (d : Nat) (L : LFlow → Nat → Int → Bool) (g : LFlow → LFlow) : List MCall → List MCall → Prop
 | [], [] => True
 | c :: l, c' :: l' => SwC d L g (fun _ => False) c c' ∧ SwR d L g c.into l l'
 | _, _ => False
structure SwM (d : Nat) (L : LFlow → Nat → Int → Bool) (g : LFlow → LFlow) (m m' : MRun) : Prop where
 out : m'.out = m.out
 status : m'.status = m.status
 code : m'.code = m.code
 steps : m'.steps ≤ m.steps
 arrays : m'.arrays = m.arrays
 inp : m'.inp = m.inp
 calls : m.status = 0 → SwT d L g m.calls m'.calls
section
variable {d : Nat} {u u' : LUnit} {g : LFlow → LFlow} {L : LFlow → Nat → Int → Bool}
theorem SwR.length : ∀ {l l' : List MCall} {n : Int}, SwR d L g n l l' → l'.length = l.length
 | [], [], _, _ => rfl
 | _ :: _, _ :: _, _, h => by simp [SwR.length h.2]
 | [], _ :: _, _, h => h.elim
 | _ :: _, [], _, h => h.elim
theorem put_val {c : MCall} {d v : Int} {k : Int} (h0 : 0 ≤ d) (h1 : d < (c.values.length : Int)) (k0 : 0 ≤ k) : (c.put d v).val k = if k = d then v else c.val k := by
 show (c.values.set d.toNat v).getD k.toNat 0 = _
 by_cases e : k = d
 ·subst e; rw [if_pos rfl, getD_set_self (by omega)]
 ·rw [if_neg e, getD_set_ne (by omega)]; rfl
theorem put_neg {c : MCall} {d v : Int} {k : Int} (k0 : k.toNat ≠ d.toNat) : (c.put d v).val k = c.val k := by
 show (c.values.set d.toNat v).getD k.toNat 0 = _
 rw [getD_set_ne (Ne.symm k0)]; rfl
theorem put_same {c c' : MCall} (hl : c'.values.length = c.values.length) {d k v : Int} (h : k ≠ d → c'.val k = c.val k) : (c'.put d v).val k = (c.put d v).val k := by
 by_cases e : k = d
 ·subst e
  show (c'.values.set k.toNat v).getD k.toNat 0 = (c.values.set k.toNat v).getD k.toNat 0
  by_cases hk : k.toNat < c.values.length
  ·rw [getD_set_self hk, getD_set_self (by omega)]
  ·simp [List.getD_eq_getElem?_getD, hk, hl]
 ·by_cases e2 : k.toNat = d.toNat
  ·show (c'.values.set d.toNat v).getD k.toNat 0 = (c.values.set d.toNat v).getD k.toNat 0
   rw [e2]
   by_cases hk : d.toNat < c.values.length
   ·rw [getD_set_self hk, getD_set_self (by omega)]
   ·simp [List.getD_eq_getElem?_getD, hk, hl]
  ·rw [put_neg e2, put_neg e2]; exact h e
theorem SwC.put {c c' : MCall} {n : Int} (h : SwC d L g (fun v => v = n) c c') (v : Int) : SwC d L g (fun _ => False) (c.put n v) (c'.put n v) :=
 ⟨h.flow, h.block, h.into, h.b0, h.at0, by simp [MCall.put, h.len], fun b b' hb hb' => by
  obtain ⟨h1, h2, h3⟩ := h.here b b' hb hb'
  exact ⟨h1, h2, fun k k0 _ hk => put_same h.len fun e => h3 k k0 e hk⟩⟩
theorem SwC.new {f : LFlow} (h : SwL d (L f) f (g f)) (args : List Int) (into : Int) : SwC d L g (fun _ => False) (newCall f args into) (newCall (g f) args into) := by
 refine ⟨rfl, rfl, rfl, Int.le_refl _, Int.le_refl _, ?_, fun b b' hb hb' => ?_⟩
 ·show (argVals (g f).values args).length = (argVals f.values args).length; rw [h.values]
 ·refine ⟨h.thin _ b b' hb hb', h.few _ b b' hb hb', fun v _ _ _ => ?_⟩
  show (argVals (g f).values args).getD v.toNat 0 = (argVals f.values args).getD v.toNat 0; rw [h.values]
theorem SwC.goto {c c' : MCall} {p : Int → Prop} (h : SwL d (L c.flow) c.flow (g c.flow)) (hc : SwC d L g p c c') {k : Int} (hk : 0 ≤ k) (hv : ∀ v, 0 ≤ v → L c.flow k.toNat v = true → c'.val v = c.val v) : SwC d L g (fun _ => False) { c with at_ := 0, block := k } { c' with at_ := 0, block := k } := by
 refine ⟨hc.flow, rfl, hc.into, hk, Int.le_refl _, hc.len, fun b b' hb hb' => ?_⟩
 have hb2 : c.flow.blocks[k.toNat]? = some b := hb
 refine ⟨h.thin _ b b' hb hb', h.few _ b b' hb hb', fun v h0 _ hv2 => hv v h0 ?_⟩
 have hlt : k.toNat < c.flow.blocks.length := (List.getElem?_eq_some_iff.1 hb2).1
 have hbe : c.flow.blocks[k.toNat] = b := (List.getElem?_eq_some_iff.1 hb2).2
 exact h.pre k.toNat hlt v (by rw [hbe]; exact hv2)
theorem ite_sw {p p' : Prop} [Decidable p] [Decidable p'] {a b a' b' : MRun} (hp : p' ↔ p) (h1 : p → SwM d L g a a') (h2 : ¬ p → SwM d L g b b') : SwM d L g (if p then a else b) (if p' then a' else b') := by
 by_cases h : p
 ·rw [if_pos h, if_pos (hp.2 h)]; exact h1 h
 ·rw [if_neg h, if_neg (fun e => h (hp.1 e))]; exact h2 h
theorem sets_iff (x : LIns) (hk : 1 ≤ x.kind ∧ x.kind ≤ 9) : ∀ v, v ∈ setsL x ↔ (hasD x.kind = true ∧ v = x.d) := fun v => by
 unfold setsL
 rw [hasD_iff]
 by_cases h : x.kind < 1 ∨ x.kind > 9 ∨ x.kind = 6 ∨ x.kind = 8
 ·rw [if_pos h]; simp; omega
 ·rw [if_neg h]
  constructor
  ·intro e; exact ⟨by omega, by simpa using e⟩
  ·intro e; simp [e.2]
theorem sw_uses_a {x : LIns} (h : hasA x.kind = true) : x.a ∈ usesL x := by unfold usesL; simp [h]
theorem sw_uses_b {x : LIns} (h : hasB x.kind = true) : x.b ∈ usesL x := by unfold usesL; simp [h]
theorem sw_uses_args {x : LIns} (h : x.kind = 9) {n : Int} (hn : n ∈ x.args) : n ∈ usesL x := by unfold usesL; simp [h, hn]
theorem sw_ins_at (h : UnitSw d u u' g L) {m m' : MRun} {c c' : MCall} {l l' : List MCall} (m1 : m'.out = m.out) (m2 : m'.status = m.status) (m3 : m'.code = m.code) (m4 : m'.steps ≤ m.steps) (m5 : m'.arrays = m.arrays) (m6 : m'.inp = m.inp) (hc0 : m.calls = c :: l) (hc0' : m'.calls = c' :: l') {x : LIns} (hx : InsK u c.flow.values x) (S : Int → Bool)
  (hlen : c'.values.length = c.values.length)
  (hv : ∀ v, 0 ≤ v → stepS S x v = true → c'.val v = c.val v)
  (hmk : ∀ but : Int → Prop, ∀ k k' : MCall, k.flow = c.flow → k'.flow = c'.flow → k.block = c.block → k'.block = c'.block → k.into = c.into → k'.into = c'.into → k.at_ = c.at_ → k'.at_ = c'.at_ → k'.values.length = k.values.length → (∀ v, 0 ≤ v → ¬ but v → S v = true → k'.val v = k.val v) → SwC d L g but k k')
  (htail : SwR d L g c.into l l') : SwM d L g (insM u m c x) (insM u' m' c' x) := by
 have put : ∀ v : Int, hasD x.kind = true → SwM d L g (m.top (c.put x.d v)) (m'.top (c'.put x.d v)) := fun v hd => by
  refine ⟨m1, m2, m3, m4, m5, m6, fun _ => ?_⟩
  show SwT d L g (_ :: m.calls.tail) (_ :: m'.calls.tail)
  rw [hc0, hc0']
  refine ⟨hmk _ _ _ rfl rfl rfl rfl rfl rfl rfl rfl (by simp [MCall.put, hlen]) fun k h0 _ hk => ?_, htail⟩
  exact put_same hlen fun e => hv k h0 (stepS_iff.2 (.inr ⟨fun e2 => e ((sets_iff x hx.kind k).1 e2).2, hk⟩))
 have stop : ∀ s co : Int, s ≠ 0 → SwM d L g (m.stop s co) (m'.stop s co) := fun s co hs => ⟨m1, rfl, rfl, m4, m5, m6, fun e => absurd e hs⟩
 have ea : hasA x.kind = true → c'.val x.a = c.val x.a := fun ha => hv _ (hx.a ha).1 (stepS_iff.2 (.inl (sw_uses_a ha)))
 have eb : hasB x.kind = true → c'.val x.b = c.val x.b := fun hb => hv _ (hx.b hb).1 (stepS_iff.2 (.inl (sw_uses_b hb)))
 have noset : hasD x.kind = false → SwT d L g m.calls m'.calls := fun hd => by
  rw [hc0, hc0']
  refine ⟨hmk _ _ _ rfl rfl rfl rfl rfl rfl rfl rfl hlen fun k h0 _ hk => hv k h0 (stepS_iff.2 (.inr ⟨fun e => ?_, hk⟩)), htail⟩
  have := ((sets_iff x hx.kind k).1 e).1
  rw [hd] at this; cases this
 have hcl : m'.calls.length = m.calls.length := by rw [hc0, hc0']; simp [htail.length]
 have harr : m'.arr x.name = m.arr x.name := by unfold MRun.arr; rw [m5]
 unfold insM
 refine ite_sw Iff.rfl (fun hk => ?_) fun k1 => ite_sw Iff.rfl (fun hk => ?_) fun k2 => ite_sw Iff.rfl (fun hk => ?_) fun k3 => ite_sw Iff.rfl (fun hk => ?_) fun k4 => ite_sw Iff.rfl (fun hk => ?_) fun k5 => ite_sw Iff.rfl (fun hk => ?_) fun k6 => ite_sw Iff.rfl (fun hk => ?_) fun k7 => ite_sw Iff.rfl (fun hk => ?_) fun k8 => ite_sw Iff.rfl (fun hk => ?_) fun k9 => ?_
 ·exact put _ (by rw [hk]; rfl)
 ·rw [ea (by rw [hk]; rfl)]; exact put _ (by rw [hk]; rfl)
 ·rw [ea (by rw [hk]; rfl)]; exact put _ (by rw [hk]; rfl)
 ·rw [ea (by rw [hk]; rfl), eb (by rw [hk]; rfl)]
  exact ite_sw Iff.rfl (fun _ => put _ (by rw [hk]; rfl)) fun _ => stop _ _ (by decide)
 ·rw [ea (by rw [hk]; rfl), harr]
  exact ite_sw Iff.rfl (fun _ => put _ (by rw [hk]; rfl)) fun _ => stop _ _ (by decide)
 ·rw [ea (by rw [hk]; rfl), eb (by rw [hk]; rfl), harr]
  refine ite_sw Iff.rfl (fun _ => ?_) fun _ => stop _ _ (by decide)
  exact ⟨m1, m2, m3, m4, by show setArr m'.arrays _ _ _ = setArr m.arrays _ _ _; rw [m5], m6, fun _ => noset (by rw [hk]; rfl)⟩
 ·rw [m6]
  have p := put (m.inp.headD (-1)) (by rw [hk]; rfl)
  exact ⟨p.out, p.status, p.code, p.steps, p.arrays, rfl, p.calls⟩
 ·rw [ea (by rw [hk]; rfl)]
  exact ⟨by show m'.out ++ _ = m.out ++ _; rw [m1], m2, m3, m4, m5, m6, fun _ => noset (by rw [hk]; rfl)⟩
 ·refine ite_sw (by rw [hcl]) (fun _ => stop _ _ (by decide)) fun _ => ?_
  obtain ⟨f, hf, _, hargs⟩ := hx.call hk
  have e1 : x.args.map c'.val = x.args.map c.val := List.map_congr_left fun n hn => hv _ (hargs n hn).1 (stepS_iff.2 (.inl (sw_uses_args hk hn)))
  rw [e1]
  unfold MRun.push
  rw [hf, h.find x.name f hf]
  refine ⟨m1, m2, m3, m4, m5, m6, fun _ => ⟨SwC.new (h.sw f (List.mem_of_find?_eq_some hf)) _ _, ?_⟩⟩
  rw [hc0, hc0']
  refine ⟨hmk _ _ _ rfl rfl rfl rfl rfl rfl rfl rfl hlen fun k h0 hne hk2 => hv k h0 (stepS_iff.2 (.inr ⟨fun e => hne ((sets_iff x hx.kind k).1 e).2, hk2⟩)), htail⟩
 ·exact absurd hx.kind (by omega)
theorem sw_two_ok {vals : Int} {x : LIns} (h : insOk u vals x = true) (hk : x.kind = 4) (h4 : x.op ≠ 4) (h5 : x.op ≠ 5) (b : Int) : Ar.twoOk x.op b = true := by
 unfold insOk at h
 simp only [Bool.and_eq_true] at h
 have ho := h.1.1.2
 unfold opOk at ho
 rw [if_neg (by omega), if_pos hk] at ho
 have ho := of_decide_eq_true ho
 unfold Ar.twoOk
 simp [ho, h4, h5]
theorem idle_ins {vals : Int} {x : LIns} (ho : insOk u vals x = true) {W : Int → Bool} (hi : IdleL W x) (m : MRun) (c : MCall) : ∃ v, insM u m c x = m.top (c.put x.d v) ∧ (W x.d = true → v = c.val x.d) := by
 have hdec : ∀ v, W x.d = false → (W x.d = true → v = c.val x.d) := fun v h e => by rw [h] at e; cases e
 unfold insM
 rcases hi with ⟨h1, h2⟩ | ⟨h1 | h1 | h1 | ⟨h1, h4, h5⟩, hW⟩
 ·rw [if_neg (by omega), if_pos h1]; exact ⟨_, rfl, fun _ => by rw [h2]⟩
 ·rw [if_pos h1]; exact ⟨_, rfl, hdec _ hW⟩
 ·rw [if_neg (by omega), if_pos h1]; exact ⟨_, rfl, hdec _ hW⟩
 ·rw [if_neg (by omega), if_neg (by omega), if_pos h1]; exact ⟨_, rfl, hdec _ hW⟩
 ·rw [if_neg (by omega), if_neg (by omega), if_neg (by omega), if_pos h1, if_pos (sw_two_ok ho h1 h4 h5 _)]; exact ⟨_, rfl, hdec _ hW⟩
def NoExc (m m' : MRun) : Prop := ∀ c l c' l' b b', m.calls = c :: l → m'.calls = c' :: l' → c.flow.blocks[c.block.toNat]? = some b → c'.flow.blocks[c'.block.toNat]? = some b' → (b.ins.drop c.at_.toNat).length ≤ (b'.ins.drop c'.at_.toNat).length
theorem SwR.cons {n : Int} {l l' : List MCall} {e : MCall} {r : List MCall} (h : SwR d L g n l l') (hl : l = e :: r) : ∃ e' r', l' = e' :: r' ∧ SwC d L g (fun v => v = n) e e' ∧ SwR d L g e.into r r' := by
 subst hl
 cases l' with
 | nil => exact h.elim
 | cons e' r' => exact ⟨e', r', rfl, h.1, h.2⟩
theorem SwM.term (h : UnitSw d u u' g L) {m m' : MRun} (hm : SwM d L g m m') {c c' : MCall} {l l' : List MCall} (hc : m.calls = c :: l) (hc' : m'.calls = c' :: l') (hf : c.flow ∈ u.flows) (hC : SwC d L g (fun _ => False) c c') (htail : SwR d L g c.into l l') {b : LBlock}
  (ht : TermK c.flow.blocks.length c.flow.values b.term) (hv : ∀ v, 0 ≤ v → endS b.term (L c.flow) v = true → c'.val v = c.val v) : SwM d L g (termM m c b.term) (termM m' c' b.term) := by
 have hsw := h.sw c.flow hf
 have go : ∀ k : Int, k ∈ nextL b.term → 0 ≤ k → SwM d L g (m.top { c with at_ := 0, block := k }) (m'.top { c' with at_ := 0, block := k }) := fun k hk h0 => by
  refine ⟨hm.out, hm.status, hm.code, hm.steps, hm.arrays, hm.inp, fun _ => ?_⟩
  show SwT d L g (_ :: m.calls.tail) (_ :: m'.calls.tail)
  rw [hc, hc']
  exact ⟨hC.goto hsw h0 fun v v0 hL => hv v v0 (endS_iff.2 (.inr ⟨k, hk, hL⟩)), htail⟩
 have wa : b.term.kind = 2 ∨ b.term.kind = 3 ∨ b.term.kind = 4 → c'.val b.term.a = c.val b.term.a := fun hk => by
  refine hv _ (ht.a (by omega)).1 (endS_iff.2 (.inl ?_))
  unfold wantsL
  rw [if_pos hk]; simp
 unfold termM
 refine ite_sw Iff.rfl (fun hk => ?_) fun k1 => ite_sw Iff.rfl (fun hk => ?_) fun k2 => ite_sw Iff.rfl (fun hk => ?_) fun k3 => ite_sw Iff.rfl (fun hk => ?_) fun k4 => ?_
 ·exact go _ (nextL_to (.inl hk)) (ht.dest (.inl hk)).1
 ·rw [wa (.inl hk)]
  by_cases hz : c.val b.term.a ≠ 0
  ·rw [if_pos hz]; exact go _ (nextL_to (.inr hk)) (ht.dest (.inr hk)).1
  ·rw [if_neg hz]; exact go _ (nextL_els hk) (ht.els hk).1
 ·rw [wa (.inr (.inl hk)), hC.into]
  unfold MRun.pop
  rw [hc, hc']
  cases l with
  | nil =>
   cases l' with
   | nil => exact ⟨hm.out, rfl, rfl, hm.steps, hm.arrays, hm.inp, fun e => absurd (show (1 : Int) = 0 from e) (by decide)⟩
   | cons e' r' => exact htail.elim
  | cons e r =>
   obtain ⟨e', r', rfl, h1, h2⟩ := htail.cons rfl
   exact ⟨hm.out, hm.status, hm.code, hm.steps, hm.arrays, hm.inp, fun _ => ⟨h1.put _, h2⟩⟩
 ·rw [wa (.inr (.inr hk))]
  exact ⟨hm.out, rfl, rfl, hm.steps, hm.arrays, hm.inp, fun e => absurd (show (5 : Int) = 0 from e) (by decide)⟩
 ·exact absurd ht.kind (by omega)
theorem sw_step (hu : UnitOk u) (h : UnitSw d u u' g L) {m m' : MRun} (hm : SwM d L g m m') (hok : MOk u m) (hok' : MOk u' m') (hst : m.status = 0) :
  SwM d L g (stepM u m) (stepM u' m') ∨ (SwM d L g (stepM u m) m' ∧ ¬ NoExc m m' ∧ (d ≤ 1 → NoExc (stepM u m) m')) := by
 have hT := hm.calls hst
 have hne := hok.ne hst
 cases hc : m.calls with
 | nil => exact absurd hc hne
 | cons c l =>
  cases hc' : m'.calls with
  | nil => rw [hc, hc'] at hT; exact hT.elim
  | cons c' l' =>
   rw [hc, hc'] at hT
   obtain ⟨hC, htail⟩ := hT
   have hco := hok.calls c (by rw [hc]; simp)
   have hco' := hok'.calls c' (by rw [hc']; simp)
   obtain ⟨hb, hbe⟩ := hco.block_at
   obtain ⟨hb', hbe'⟩ := hco'.block_at
   obtain ⟨ht, hins⟩ := block_ok hu hco.flow (List.getElem_mem hb)
   obtain ⟨b, hbd⟩ : ∃ b, b = c.flow.blocks[c.block.toNat] := ⟨_, rfl⟩
   obtain ⟨b', hbd'⟩ : ∃ b', b' = c'.flow.blocks[c'.block.toNat] := ⟨_, rfl⟩
   rw [← hbd] at hbe ht hins
   rw [← hbd'] at hbe'
   have hbg : (g c.flow).blocks[c.block.toNat]? = some b' := by rw [← hC.flow, ← hC.block]; exact hbe'
   obtain ⟨hthin, hexc, hval⟩ := hC.here b b' hbe hbg
   have hterm := (h.sw _ hco.flow).term _ b b' hbe hbg
   have ha0 := hco.a0
   have ha1 := hco.a1 b hbe
   have hb0 := hC.at0
   have hb1 := hco'.a1 b' hbe'
   have es : stepM u m = if c.at_ = b.ins.length then termM m c b.term else match b.ins[c.at_.toNat]? with | none => m | some x => insM u (m.top { c with at_ := c.at_ + 1 }) { c with at_ := c.at_ + 1 } x := by unfold stepM; rw [hc]; simp only []; rw [hbe]; rfl
   have es' : stepM u' m' = if c'.at_ = b'.ins.length then termM m' c' b'.term else match b'.ins[c'.at_.toNat]? with | none => m' | some x => insM u' (m'.top { c' with at_ := c'.at_ + 1 }) { c' with at_ := c'.at_ + 1 } x := by unfold stepM; rw [hc']; simp only []; rw [hbe']; rfl
   by_cases hat : c.at_ = b.ins.length
   ·have e0 : b.ins.drop c.at_.toNat = [] := List.drop_eq_nil_of_le (by omega)
    rw [e0] at hthin hval
    have e1 : c'.at_ = b'.ins.length := by
     have := hthin.nil_of
     have := List.drop_eq_nil_iff.1 this
     omega
    left
    rw [es, es', if_pos hat, if_pos e1, hterm]
    exact hm.term h hc hc' hco.flow hC htail (termK_of ht) fun v v0 hv => hval v v0 id hv
   ·have hlt : c.at_.toNat < b.ins.length := by omega
    obtain ⟨x, hx⟩ : ∃ x, x = b.ins[c.at_.toNat] := ⟨_, rfl⟩
    have hxe : b.ins[c.at_.toNat]? = some x := by rw [List.getElem?_eq_getElem hlt, hx]
    have hdrop : b.ins.drop c.at_.toNat = x :: b.ins.drop (c.at_.toNat + 1) := by rw [List.drop_eq_getElem_cons hlt, hx]
    have hn : (c.at_ + 1).toNat = c.at_.toNat + 1 := by omega
    have hxo : insOk u c.flow.values x = true := hins x (by rw [hx]; exact List.getElem_mem _)
    rw [es, if_neg hat, hxe]
    simp only []
    rw [hdrop] at hthin hexc hval
    obtain ⟨S, hS⟩ : ∃ S, S = endS b.term (L c.flow) := ⟨_, rfl⟩
    obtain ⟨r', hr'⟩ : ∃ r', r' = b'.ins.drop c'.at_.toNat := ⟨_, rfl⟩
    obtain ⟨r, hr⟩ : ∃ r, r = b.ins.drop (c.at_.toNat + 1) := ⟨_, rfl⟩
    rw [← hS, ← hr', ← hr] at hthin
    rw [← hr', ← hr] at hexc
    rw [← hS, ← hr] at hval
    cases hthin with
    | keep _ _ t' hth =>
     left
     have hlt' : c'.at_.toNat < b'.ins.length := by
      by_cases e : c'.at_.toNat < b'.ins.length
      ·exact e
      ·rw [List.drop_eq_nil_of_le (by omega)] at hr'; cases hr'
     have hd' := List.drop_eq_getElem_cons hlt'
     rw [← hr'] at hd'
     injection hd' with hx' ht'
     have hxe' : b'.ins[c'.at_.toNat]? = some x := by rw [List.getElem?_eq_getElem hlt', ← hx']
     have hn' : (c'.at_ + 1).toNat = c'.at_.toNat + 1 := by omega
     rw [es', if_neg (by omega), hxe']
     simp only []
     have hm1 : SwM d L g (m.top { c with at_ := c.at_ + 1 }) (m'.top { c' with at_ := c'.at_ + 1 }) → True := fun _ => trivial
     -- the two stand one instruction further
     have key : ∀ but : Int → Prop, ∀ k k' : MCall, k.flow = c.flow → k'.flow = c'.flow → k.block = c.block → k'.block = c'.block → k.into = c.into → k'.into = c'.into → k.at_ = c.at_ + 1 → k'.at_ = c'.at_ + 1 → k'.values.length = k.values.length → (∀ v, 0 ≤ v → ¬ but v → stepsS r S v = true → k'.val v = k.val v) → SwC d L g but k k' := by
      intro but k k' f1 f2 f3 f4 f5 f6 f7 f8 f9 f10
      refine ⟨by rw [f1, f2, hC.flow], by rw [f3, f4, hC.block], by rw [f5, f6, hC.into], by rw [f3]; exact hC.b0, by rw [f8]; omega, f9, fun b2 b2' h2 h2' => ?_⟩
      rw [f1, f3] at h2
      rw [f1, f3] at h2'
      rw [hbe] at h2
      rw [hbg] at h2'
      injection h2 with h2; injection h2' with h2'
      subst h2; subst h2'
      rw [f1, f7, f8, hn, hn', ← hr, ← ht', ← hS]
      exact ⟨hth, by simp only [List.length_cons] at hexc; omega, f10⟩
     have hok1 := hok.ahead hc hbe hat
     have hm0 : ∀ q : SwT d L g ({ c with at_ := c.at_ + 1 } :: l) ({ c' with at_ := c'.at_ + 1 } :: l') → Prop, True := fun _ => trivial
     have mm : (m.top { c with at_ := c.at_ + 1 }).calls = { c with at_ := c.at_ + 1 } :: l := by simp [MRun.top, hc]
     have mm' : (m'.top { c' with at_ := c'.at_ + 1 }).calls = { c' with at_ := c'.at_ + 1 } :: l' := by simp [MRun.top, hc']
     exact sw_ins_at h (m := m.top { c with at_ := c.at_ + 1 }) (m' := m'.top { c' with at_ := c'.at_ + 1 }) hm.out hm.status hm.code hm.steps hm.arrays hm.inp mm mm' (insK_of hxo) (stepsS r S) hC.len (fun v v0 hv => hval v v0 id hv) key htail
    | drop _ _ _ hidle hth =>
     right
     obtain ⟨v, hv1, hv2⟩ := idle_ins hxo hidle (m.top { c with at_ := c.at_ + 1 }) { c with at_ := c.at_ + 1 }
     rw [hv1]
     refine ⟨⟨hm.out, hm.status, hm.code, hm.steps, hm.arrays, hm.inp, fun _ => ?_⟩, fun hne => ?_, fun hd1 => ?_⟩
     ·show SwT d L g (MCall.put { c with at_ := c.at_ + 1 } x.d v :: (m.top { c with at_ := c.at_ + 1 }).calls.tail) m'.calls
      rw [hc']
      have ett : (m.top { c with at_ := c.at_ + 1 }).calls.tail = l := by simp [MRun.top, hc]
      rw [ett]
      refine ⟨⟨hC.flow, hC.block, hC.into, hC.b0, hC.at0, by simp [MCall.put, hC.len], fun b2 b2' h2 h2' => ?_⟩, htail⟩
      have h2a : c.flow.blocks[c.block.toNat]? = some b2 := h2
      have h2b : (g c.flow).blocks[c.block.toNat]? = some b2' := h2'
      rw [hbe] at h2a
      rw [hbg] at h2b
      injection h2a with h2a; injection h2b with h2b
      subst h2a; subst h2b
      show Thin (endS b.term (L c.flow)) (b.ins.drop (c.at_ + 1).toNat) _ ∧ (b.ins.drop (c.at_ + 1).toNat).length ≤ _ ∧ ∀ k, 0 ≤ k → ¬ False → stepsS (b.ins.drop (c.at_ + 1).toNat) (endS b.term (L c.flow)) k = true → c'.val k = (MCall.put { c with at_ := c.at_ + 1 } x.d v).val k
      rw [hn, ← hr, ← hr', ← hS]
      refine ⟨hth, by simp only [List.length_cons] at hexc; omega, fun k k0 _ hk => ?_⟩
      have hdK : hasD x.kind = true := by
       rcases hidle with ⟨e, _⟩ | ⟨e | e | e | ⟨e, _⟩, _⟩ <;> rw [e] <;> rfl
      have hxk := insK_of hxo
      obtain ⟨d0, d1⟩ := hxk.d hdK
      have hvl : x.d < (c.values.length : Int) := by rw [hco.vals]; exact d1
      rw [put_val (c := { c with at_ := c.at_ + 1 }) d0 hvl k0]
      by_cases e : k = x.d
      ·rw [if_pos e, hv2 (by rw [← e]; exact hk), e]
       refine hval x.d d0 id ?_
       rw [stepsS_cons, stepS_iff]
       rw [e] at hk
       rcases hidle with ⟨e1, e2⟩ | ⟨_, e2⟩
       ·left; rw [← e2]; exact sw_uses_a (by rw [e1]; rfl)
       ·rw [hk] at e2; cases e2
      ·rw [if_neg e]
       refine hval k k0 id ?_
       rw [stepsS_cons, stepS_iff]
       exact .inr ⟨fun e3 => e ((sets_iff x hxk.kind k).1 e3).2, hk⟩
     ·have := hne c l c' l' b b' hc hc' hbe hbe'
      rw [hdrop, ← hr, ← hr'] at this
      have h3 := hth.le
      simp only [List.length_cons] at this
      omega
     ·intro c2 l2 c2' l2' b2 b2' g1 g2 g3 g4
      have e1 : c2 = MCall.put { c with at_ := c.at_ + 1 } x.d v := by
       have : MCall.put { c with at_ := c.at_ + 1 } x.d v :: l = c2 :: l2 := by rw [← g1]; simp [MRun.top, hc]
       injection this with this _; exact this.symm
      have e2 : c2' = c' := by rw [hc'] at g2; injection g2 with g2 _; exact g2.symm
      subst e1; subst e2
      have g3' : c.flow.blocks[c.block.toNat]? = some b2 := g3
      rw [hbe] at g3'
      rw [hbe'] at g4
      injection g3' with g3'; injection g4 with g4
      subst g3'; subst g4
      show (b.ins.drop (c.at_ + 1).toNat).length ≤ _
      rw [hn, ← hr, ← hr']
      simp only [List.length_cons] at hexc
      omega
theorem sw_runM (hu : UnitOk u) (hu' : UnitOk u') (h : UnitSw d u u' g L) : ∀ (K : Nat) {m m' : MRun}, SwM d L g m m' → MOk u m → MOk u' m' →
  ∃ j, j ≤ K ∧ SwM d L g (runM u K m) (runM u' j m') ∧ (d ≤ 1 → (runM u K m).status = 0 → K ≤ 2 * j + 1 ∧ (NoExc m m' → K ≤ 2 * j))
 | 0, m, m', hm, _, _ => ⟨0, Nat.le_refl _, hm, fun _ _ => ⟨by omega, fun _ => by omega⟩⟩
 | K + 1, m, m', hm, hok, hok' => by
  rw [runM_succ]
  by_cases h0 : m.status = 0
  ·rw [if_pos h0]
   have hokr := hok.round hu
   have hokr' := hok'.round hu'
   have h0' : m'.status = 0 := by rw [hm.status]; exact h0
   obtain ⟨mp, hmp⟩ : ∃ mp, mp = { m with steps := m.steps + 1 } := ⟨_, rfl⟩
   have hms : ∀ s : Int, s ≤ m.steps + 1 → SwM d L g mp { m' with steps := s } := fun s hs => by
    rw [hmp]; exact ⟨hm.out, hm.status, hm.code, hs, hm.arrays, hm.inp, hm.calls⟩
   have okp : MOk u mp := by rw [hmp]; exact ⟨hok.calls, hok.linked, hok.deep, hok.ne, hok.names, hok.sizes, by have := hok.out; show (m.out.length : Int) ≤ m.steps + 1; omega⟩
   have okp' : MOk u' { m' with steps := m'.steps + 1 } := ⟨hok'.calls, hok'.linked, hok'.deep, hok'.ne, hok'.names, hok'.sizes, by have := hok'.out; show (m'.out.length : Int) ≤ m'.steps + 1; omega⟩
   have hstp := hm.steps
   rw [← hmp] at hokr ⊢
   have st : mp.status = 0 := by rw [hmp]; exact h0
   have ecalls : mp.calls = m.calls := by rw [hmp]
   rcases sw_step hu h (hms (m'.steps + 1) (by omega)) okp okp' st with hA | ⟨hB, hne, hd1⟩
   ·obtain ⟨j, hj, h1, h2⟩ := sw_runM hu hu' h K hA hokr hokr'
    refine ⟨j + 1, by omega, ?_, fun hd hs => ?_⟩
    ·rw [runM_succ, if_pos h0']; exact h1
    ·have := (h2 hd hs).1
     exact ⟨by omega, fun _ => by omega⟩
   ·have hB' : SwM d L g (stepM u mp) m' := ⟨hB.out, hB.status, hB.code, by rw [stepM_steps, hmp]; show m'.steps ≤ m.steps + 1; omega, hB.arrays, hB.inp, hB.calls⟩
    obtain ⟨j, hj, h1, h2⟩ := sw_runM hu hu' h K hB' hokr hok'
    refine ⟨j, by omega, h1, fun hd hs => ?_⟩
    have h3 := (h2 hd hs).2 (fun c l c' l' b b' g1 g2 => hd1 hd c l c' l' b b' g1 g2)
    exact ⟨by omega, fun hN => absurd (fun c l c' l' b b' g1 g2 => hN c l c' l' b b' (by rw [← ecalls]; exact g1) g2) hne⟩
  ·rw [if_neg h0]
   exact ⟨0, by omega, hm, fun _ e => absurd e h0⟩
theorem sw_start (hu : UnitOk u) (h : UnitSw d u u' g L) (inp : List Int) : SwM d L g (startRun u inp) (startRun u' inp) := by
 obtain ⟨f, hf, hmem⟩ := main_find hu
 rw [startRun_eq hf, startRun_eq (h.find _ f hf)]
 refine ⟨rfl, rfl, rfl, Int.le_refl _, ?_, rfl, fun _ => ⟨SwC.new (h.sw f hmem) [] 0, trivial⟩⟩
 show zeroArrs u'.arrays = zeroArrs u.arrays
 rw [h.arrays]
theorem sw_run (hu : UnitOk u) (hu' : UnitOk u') (h : UnitSw d u u' g L) (inp : List Int) (K : Nat) : ∃ j, j ≤ K ∧ SwM d L g (runU u inp K) (runU u' inp j) ∧ (d ≤ 1 → (runU u inp K).status = 0 → K ≤ 2 * j + 1) := by
 obtain ⟨j, h1, h2, h3⟩ := sw_runM hu hu' h K (sw_start hu h inp) (startRun_ok hu inp) (startRun_ok hu' inp)
 exact ⟨j, h1, h2, fun a b => (h3 a b).1⟩
end
theorem run_same {u : LUnit} (inp : List Int) {a b : Nat} (ha : (runU u inp a).status ≠ 0) (hb : (runU u inp b).status ≠ 0 ∨ a ≤ b) : runU u inp b = runU u inp a := by
 rcases Nat.le_total a b with h | h
 ·obtain ⟨c, rfl⟩ := Nat.le.dest h
  exact more_end u inp a c ha
 ·rcases hb with hb | hb
  ·obtain ⟨c, rfl⟩ := Nat.le.dest h
   exact (more_end u inp b c hb).symm
  ·have : a = b := by omega
   rw [this]
def FollowsP (a b : MRun) : Prop := if a.status = 0 then a.out <+: b.out else b.status = a.status ∧ b.code = a.code ∧ b.out = a.out
theorem sw_followed {d : Nat} {u u' : LUnit} {g : LFlow → LFlow} {L : LFlow → Nat → Int → Bool} (hu : UnitOk u) (hu' : UnitOk u') (h : UnitSw d u u' g L) (inp : List Int) (n : Nat) : FollowsP (runU u inp n) (runU u' inp n) ∧ ((runU u inp n).status = 0 ∨ (runU u' inp n).steps ≤ (runU u inp n).steps) := by
 obtain ⟨j, hj, hm, _⟩ := sw_run hu hu' h inp n
 unfold FollowsP
 by_cases ha : (runU u inp n).status = 0
 ·refine ⟨?_, .inl ha⟩
  rw [if_pos ha, ← hm.out]
  obtain ⟨c, rfl⟩ := Nat.le.dest hj
  obtain ⟨t, ht⟩ := more_out u' inp j c
  exact ⟨t, ht.symm⟩
 ·have h1 : runU u' inp n = runU u' inp j := run_same inp (by rw [hm.status]; exact ha) (.inr hj)
  rw [if_neg ha, h1]
  exact ⟨⟨hm.status, hm.code, hm.out⟩, .inr hm.steps⟩
end Go.Proofs.YtkpigkopjfkepaaGreatDoor
namespace Go.Proofs.YtkpigkopjfkepaaGreatDoor
end Go.Proofs.YtkpigkopjfkepaaGreatDoor
namespace Go.Proofs.YtkpigkopjfkepaaGreatDoor
section
variable {n p by_ t : Nat}
end
end Go.Proofs.YtkpigkopjfkepaaGreatDoor
