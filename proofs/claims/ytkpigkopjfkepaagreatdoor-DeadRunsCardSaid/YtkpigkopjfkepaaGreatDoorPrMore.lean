/- The units that Fit makes may be, for ir.Check. What a run has to do with one of more steps, and with one that has more to read. A run of a unit that lies in memory: what is kept of its result. A unit whose functions' blocks and values are numbered anew runs as it did. -/
import Derived.Test.YtkpigkopjfkepaaGreatDoorPrIrFit
import Derived.Test.YtkpigkopjfkepaaGreatDoorPrIrCheck
import Derived.Test.YtkpigkopjfkepaaGreatDoorPrFlowSm
import Derived.Test.YtkpigkopjfkepaaGreatDoorPrAw11
import Derived.Test.YtkpigkopjfkepaaGreatDoorPrFit
namespace Go.Proofs.YtkpigkopjfkepaaGreatDoor
theorem runU_add (u : LUnit) (inp : List Int) (n m : Nat) : runU u inp (n + m) = runM u m (runU u inp n) := by unfold runU; rw [runM_add]
theorem more_out (u : LUnit) (inp : List Int) (n m : Nat) : ∃ t, (runU u inp (n + m)).out = (runU u inp n).out ++ t := by
 rw [runU_add]
 obtain ⟨t, ht⟩ := runM_out u m (runU u inp n)
 exact ⟨t, ht.symm⟩
theorem more_end (u : LUnit) (inp : List Int) (n m : Nat) (h : (runU u inp n).status ≠ 0) : runU u inp (n + m) = runU u inp n := by
 rw [runU_add, runM_end h]
end Go.Proofs.YtkpigkopjfkepaaGreatDoor
namespace Go.Proofs.YtkpigkopjfkepaaGreatDoor
open Go.RowKit
end Go.Proofs.YtkpigkopjfkepaaGreatDoor
namespace Go.Proofs.YtkpigkopjfkepaaGreatDoor
structure Renum where
 R : Int → Prop
 bl : Int → Int
 va : Int → Int
def renIns (r : Renum) (x : LIns) : LIns :=
 {x with d := if hasD x.kind = true then r.va x.d else x.d, a := if hasA x.kind = true then r.va x.a else x.a, b := if hasB x.kind = true then r.va x.b else x.b, args := x.args.map r.va }
def renTerm (r : Renum) (t : LTerm) : LTerm :=
 ⟨t.kind, if t.kind = 1 then t.a else r.va t.a, if t.kind = 1 ∨ t.kind = 2 then r.bl t.to else t.to, if t.kind = 2 then r.bl t.els else t.els⟩
def renBlock (r : Renum) (b : LBlock) : LBlock := ⟨b.ins.map (renIns r), renTerm r b.term⟩
structure RenOk (f f' : LFlow) (r : Renum) : Prop where
 name : f'.name = f.name
 params : f'.params = f.params
 values : f'.values = f.values
 zero : r.R 0
 b0 : r.bl 0 = 0
 blk : ∀ (k : Int) (b : LBlock), r.R k → f.blocks[k.toNat]? = some b → f'.blocks[(r.bl k).toNat]? = some (renBlock r b)
 dest : ∀ (k : Int) (b : LBlock), r.R k → f.blocks[k.toNat]? = some b → b.term.kind = 1 ∨ b.term.kind = 2 → r.R b.term.to
 els : ∀ (k : Int) (b : LBlock), r.R k → f.blocks[k.toNat]? = some b → b.term.kind = 2 → r.R b.term.els
 vrange : ∀ k : Int, 0 ≤ k → k < f.values → 0 ≤ r.va k ∧ r.va k < f.values
 vinj : ∀ j k : Int, 0 ≤ j → j < f.values → 0 ≤ k → k < f.values → r.va j = r.va k → j = k
 vparam : ∀ k : Int, 0 ≤ k → k < f.params → r.va k = k
structure UnitRen (u : LUnit) (g : LFlow → LFlow) (r : LFlow → Renum) : Prop where
 each : ∀ f ∈ u.flows, RenOk f (g f) (r f)
structure RelC (g : LFlow → LFlow) (r : LFlow → Renum) (c c' : MCall) : Prop where
 flow : c'.flow = g c.flow
 inR : (r c.flow).R c.block
 block : c'.block = (r c.flow).bl c.block
 at_ : c'.at_ = c.at_
 len : c'.values.length = c.values.length
 vals : ∀ k : Int, 0 ≤ k → k < c.flow.values → c'.val ((r c.flow).va k) = c.val k
def RelI (r : LFlow → Renum) (c c' : MCall) : List MCall → Prop
 | [] => True
 | d :: _ => c'.into = (r d.flow).va c.into
def RelL (g : LFlow → LFlow) (r : LFlow → Renum) : List MCall → List MCall → Prop
 | [], [] => True
 | c :: l, c' :: l' => RelC g r c c' ∧ RelI r c c' l ∧ RelL g r l l'
 | _, _ => False
structure RelM (g : LFlow → LFlow) (r : LFlow → Renum) (m m' : MRun) : Prop where
 arrays : m'.arrays = m.arrays
 inp : m'.inp = m.inp
 calls : RelL g r m.calls m'.calls
 status : m'.status = m.status
 code : m'.code = m.code
 out : m'.out = m.out
 steps : m'.steps = m.steps
section
variable {u : LUnit} {g : LFlow → LFlow} {r : LFlow → Renum}
theorem RelL.length : ∀ {l l' : List MCall}, RelL g r l l' → l'.length = l.length
 | [], [], _ => rfl
 | _ :: _, _ :: _, h => by simp [RelL.length h.2.2]
 | [], _ :: _, h => h.elim
 | _ :: _, [], h => h.elim
theorem ren_find (h : UnitRen u g r) (s : ByteArray) : ∀ l : List LFlow, (∀ f ∈ l, f ∈ u.flows) → (l.map g).find? (fun f => decide (f.name = s)) = (l.find? (fun f => decide (f.name = s))).map g
 | [], _ => rfl
 | f :: l, hl => by
  rw [List.map_cons, List.find?_cons, List.find?_cons, (h.each f (hl f (by simp))).name]
  split
  ·rfl
  ·exact ren_find h s l fun f hf => hl f (by simp [hf])
theorem getD_set_self {l : List Int} {i : Nat} {v : Int} (h : i < l.length) : (l.set i v).getD i 0 = v := by simp [List.getD, h]
theorem getD_set_ne {l : List Int} {i j : Nat} {v : Int} (h : i ≠ j) : (l.set i v).getD j 0 = l.getD j 0 := by simp [List.getD, List.getElem?_set_ne h]
theorem RelC.put {c c' : MCall} (h : RelC g r c c') (hr : RenOk c.flow (g c.flow) (r c.flow)) (hl : (c.values.length : Int) = c.flow.values) {d : Int} (h0 : 0 ≤ d) (h1 : d < c.flow.values) (v : Int) :
  RelC g r (c.put d v) (c'.put ((r c.flow).va d) v) := by
 refine ⟨h.flow, h.inR, h.block, h.at_, by simp [MCall.put, h.len], fun k k0 k1 => ?_⟩
 have hk1 : k < c.flow.values := k1
 obtain ⟨r0, r1⟩ := hr.vrange d h0 h1
 obtain ⟨s0, s1⟩ := hr.vrange k k0 hk1
 show (c'.values.set ((r c.flow).va d).toNat v).getD ((r c.flow).va k).toNat 0 = (c.values.set d.toNat v).getD k.toNat 0
 by_cases e : k = d
 ·subst e
  rw [getD_set_self (by rw [h.len]; omega), getD_set_self (by omega)]
 ·have e1 : ((r c.flow).va d).toNat ≠ ((r c.flow).va k).toNat := fun e2 => e (hr.vinj k d k0 hk1 h0 h1 (by omega))
  have e2 : d.toNat ≠ k.toNat := by omega
  rw [getD_set_ne e1, getD_set_ne e2]
  exact h.vals k k0 hk1
theorem RelI.same {c c' d d' : MCall} {l : List MCall} (h : RelI r c c' l) (h1 : d.into = c.into) (h2 : d'.into = c'.into) : RelI r d d' l := by
 cases l with
 | nil => trivial
 | cons e l => show d'.into = _; rw [h2, h1]; exact h
theorem RelM.set_top {m m' : MRun} (h : RelM g r m m') {c c' d d' : MCall} {l l' : List MCall} (hm : m.calls = c :: l) (hm' : m'.calls = c' :: l') (hd : RelC g r d d') (h1 : d.into = c.into) (h2 : d'.into = c'.into) : RelM g r (m.top d) (m'.top d') := by
 have hc := h.calls
 rw [hm, hm'] at hc
 refine ⟨h.arrays, h.inp, ?_, h.status, h.code, h.out, h.steps⟩
 show RelL g r (d :: m.calls.tail) (d' :: m'.calls.tail)
 rw [hm, hm']
 exact ⟨hd, hc.2.1.same h1 h2, hc.2.2⟩
theorem RelM.stop {m m' : MRun} (h : RelM g r m m') (s c : Int) : RelM g r (m.stop s c) (m'.stop s c) := ⟨h.arrays, h.inp, h.calls, rfl, rfl, h.out, h.steps⟩
theorem RelM.arr {m m' : MRun} (h : RelM g r m m') (s : ByteArray) : m'.arr s = m.arr s := by unfold MRun.arr; rw [h.arrays]
theorem argVals_get (n : Int) (args : List Int) (k : Int) (h0 : 0 ≤ k) (h1 : k < n) : (argVals n args).getD k.toNat 0 = args.getD k.toNat 0 := by
 unfold argVals
 have e : k.toNat < n.toNat := by omega
 simp only [List.getD_eq_getElem?_getD, List.getElem?_take, e, if_true]
 by_cases hk : k.toNat < args.length
 ·rw [List.getElem?_append_left hk]
 ·rw [List.getElem?_append_right (by omega), List.getElem?_eq_none (by omega : args.length ≤ k.toNat), List.getElem?_replicate]
  split <;> rfl
theorem RelC.new {f : LFlow} (hr : RenOk f (g f) (r f)) (args : List Int) (hp : (args.length : Int) ≤ f.params) (into into' : Int) : RelC g r (newCall f args into) (newCall (g f) args into') := by
 refine ⟨rfl, hr.zero, hr.b0.symm, rfl, ?_, fun k k0 k1 => ?_⟩
 ·show (argVals (g f).values args).length = (argVals f.values args).length
  rw [hr.values]
 have hk1 : k < f.values := k1
 obtain ⟨r0, r1⟩ := hr.vrange k k0 hk1
 show (argVals (g f).values args).getD ((r f).va k).toNat 0 = (argVals f.values args).getD k.toNat 0
 rw [hr.values, argVals_get _ _ _ r0 r1, argVals_get _ _ _ k0 hk1]
 by_cases hkp : k < f.params
 ·rw [hr.vparam k k0 hkp]
 ·have e : ¬ (r f).va k < f.params := fun e => by
   have e1 := hr.vparam _ r0 e
   have e2 := hr.vinj _ _ r0 r1 k0 hk1 e1
   omega
  have n1 : args.length ≤ ((r f).va k).toNat := by omega
  have n2 : args.length ≤ k.toNat := by omega
  simp [List.getD_eq_getElem?_getD, List.getElem?_eq_none n1, List.getElem?_eq_none n2]
theorem RelM.push (h : UnitRen u g r) {m m' : MRun} (hm : RelM g r m m') (s : ByteArray) (args : List Int) (into into' : Int) (hi : ∀ d l, m.calls = d :: l → into' = (r d.flow).va into)
  (hp : ∀ f, u.flows.find? (fun f => decide (f.name = s)) = some f → (args.length : Int) ≤ f.params) : RelM g r (m.push u s args into) (m'.push (mapU g u) s args into') := by
 unfold MRun.push
 show RelM g r _ (match (u.flows.map g).find? (fun f => decide (f.name = s)) with | some f => { m' with calls := newCall f args into' :: m'.calls } | none => m')
 rw [ren_find h s u.flows fun _ h => h]
 cases hf : u.flows.find? (fun f => decide (f.name = s)) with
 | none => exact hm
 | some f =>
  have hmem := List.mem_of_find?_eq_some hf
  refine ⟨hm.arrays, hm.inp, ⟨RelC.new (h.each f hmem) args (hp f hf) _ _, ?_, hm.calls⟩, hm.status, hm.code, hm.out, hm.steps⟩
  cases hc : m.calls with
  | nil => trivial
  | cons d l => exact hi d l hc
theorem rel_args (h : UnitRen u g r) {c c' : MCall} (hc : RelC g r c c') : ∀ l : List Int, (∀ n ∈ l, 0 ≤ n ∧ n < c.flow.values) → (l.map (r c.flow).va).map c'.val = l.map c.val
 | [], _ => rfl
 | n :: l, hl => by
  have hn := hl n (by simp)
  rw [List.map_cons, List.map_cons, List.map_cons, hc.vals n hn.1 hn.2, rel_args h hc l fun k hk => hl k (by simp [hk])]
theorem ite_rel {p p' : Prop} [Decidable p] [Decidable p'] {a b a' b' : MRun} (hp : p' ↔ p) (h1 : p → RelM g r a a') (h2 : ¬ p → RelM g r b b') : RelM g r (if p then a else b) (if p' then a' else b') := by
 by_cases h : p
 ·rw [if_pos h, if_pos (hp.2 h)]; exact h1 h
 ·rw [if_neg h, if_neg (fun e => h (hp.1 e))]; exact h2 h
theorem RelM.ins (h : UnitRen u g r) {m m' : MRun} (hr : RelM g r m m') {c c' : MCall} {l l' : List MCall} (hm : m.calls = c :: l) (hm' : m'.calls = c' :: l') (hok : CallOk u c) {x : LIns} (hx : InsK u c.flow.values x) :
  RelM g r (insM u m c x) (insM (mapU g u) m' c' (renIns (r c.flow) x)) := by
 have hcl := hr.calls
 rw [hm, hm'] at hcl
 obtain ⟨hc, hi, hl⟩ := hcl
 have hf := h.each c.flow hok.flow
 have put : ∀ v : Int, hasD x.kind = true → RelM g r (m.top (c.put x.d v)) (m'.top (c'.put (renIns (r c.flow) x).d v)) := fun v hd => by
  obtain ⟨d0, d1⟩ := hx.d hd
  have e : (renIns (r c.flow) x).d = (r c.flow).va x.d := if_pos hd
  rw [e]
  exact hr.set_top hm hm' (hc.put hf hok.vals d0 d1 v) rfl rfl
 have ea : hasA x.kind = true → c'.val (renIns (r c.flow) x).a = c.val x.a := fun ha => by
  obtain ⟨a0, a1⟩ := hx.a ha
  have e : (renIns (r c.flow) x).a = (r c.flow).va x.a := if_pos ha
  rw [e]; exact hc.vals _ a0 a1
 have eb : hasB x.kind = true → c'.val (renIns (r c.flow) x).b = c.val x.b := fun hb => by
  obtain ⟨a0, a1⟩ := hx.b hb
  have e : (renIns (r c.flow) x).b = (r c.flow).va x.b := if_pos hb
  rw [e]; exact hc.vals _ a0 a1
 unfold insM
 show RelM g r _ (if x.kind = 1 then _ else if x.kind = 2 then _ else if x.kind = 3 then _ else if x.kind = 4 then _ else if x.kind = 5 then _ else if x.kind = 6 then _ else if x.kind = 7 then _ else if x.kind = 8 then _ else if x.kind = 9 then _ else _)
 refine ite_rel Iff.rfl (fun hk => ?_) fun _ => ite_rel Iff.rfl (fun hk => ?_) fun _ => ite_rel Iff.rfl (fun hk => ?_) fun _ => ite_rel Iff.rfl (fun hk => ?_) fun _ => ite_rel Iff.rfl (fun hk => ?_) fun _ => ite_rel Iff.rfl (fun hk => ?_) fun _ => ite_rel Iff.rfl (fun hk => ?_) fun _ => ite_rel Iff.rfl (fun hk => ?_) fun _ => ite_rel Iff.rfl (fun hk => ?_) fun _ => hr
 ·exact put _ (by rw [hk]; rfl)
 ·rw [ea (by rw [hk]; rfl)]; exact put _ (by rw [hk]; rfl)
 ·rw [ea (by rw [hk]; rfl)]; exact put _ (by rw [hk]; rfl)
 ·rw [ea (by rw [hk]; rfl), eb (by rw [hk]; rfl)]
  refine ite_rel Iff.rfl (fun _ => put _ (by rw [hk]; rfl)) fun _ => hr.stop _ _
 ·rw [ea (by rw [hk]; rfl)]
  have e : m'.arr (renIns (r c.flow) x).name = m.arr x.name := hr.arr _
  rw [e]
  exact ite_rel Iff.rfl (fun _ => put _ (by rw [hk]; rfl)) fun _ => hr.stop _ _
 ·rw [ea (by rw [hk]; rfl), eb (by rw [hk]; rfl)]
  have e : m'.arr (renIns (r c.flow) x).name = m.arr x.name := hr.arr _
  rw [e]
  refine ite_rel Iff.rfl (fun _ => ?_) fun _ => hr.stop _ _
  exact ⟨by show setArr m'.arrays _ _ _ = setArr m.arrays _ _ _; rw [hr.arrays]; rfl, hr.inp, hr.calls, hr.status, hr.code, hr.out, hr.steps⟩
 ·rw [hr.inp]
  have p := put (m.inp.headD (-1)) (by rw [hk]; rfl)
  exact ⟨p.arrays, rfl, p.calls, p.status, p.code, p.out, p.steps⟩
 ·rw [ea (by rw [hk]; rfl)]
  exact ⟨hr.arrays, hr.inp, hr.calls, hr.status, hr.code, by show m'.out ++ _ = m.out ++ _; rw [hr.out], hr.steps⟩
 ·obtain ⟨f9, hf9, hlen, hargs⟩ := hx.call hk
  refine ite_rel (by rw [hr.calls.length]) (fun _ => hr.stop _ _) fun _ => ?_
  have e1 : (renIns (r c.flow) x).args.map c'.val = x.args.map c.val := rel_args h hc x.args hargs
  have hd9 : hasD x.kind = true := by rw [hk]; rfl
  have e2 : (renIns (r c.flow) x).d = (r c.flow).va x.d := if_pos hd9
  rw [e1, e2]
  refine RelM.push h hr x.name _ _ _ (fun d l2 hd => ?_) fun f hff => ?_
  ·rw [hm] at hd
   injection hd with hd _
   rw [← hd]
  ·rw [hf9] at hff
   injection hff with hff
   subst hff
   simp [hlen]
theorem RelM.pop (h : UnitRen u g r) {m m' : MRun} (hr : RelM g r m m') (hok : MOk u m) {c c' : MCall} {l l' : List MCall} (hm : m.calls = c :: l) (hm' : m'.calls = c' :: l') (n : Int) :
  RelM g r (m.pop c.into n) (m'.pop c'.into n) := by
 have hcl := hr.calls
 rw [hm, hm'] at hcl
 obtain ⟨hc, hi, hl⟩ := hcl
 unfold MRun.pop
 rw [hm, hm']
 cases l with
 | nil =>
  cases l' with
  | nil => exact ⟨hr.arrays, hr.inp, trivial, rfl, rfl, hr.out, hr.steps⟩
  | cons d' l' => exact hl.elim
 | cons d l =>
  cases l' with
  | nil => exact hl.elim
  | cons d' l' =>
   have hlk := hok.linked
   rw [hm] at hlk
   obtain ⟨⟨i0, i1⟩, _⟩ := hlk
   have hd := hok.calls d (by rw [hm]; simp)
   obtain ⟨hd1, hd2, hd3⟩ := hl
   have e : c'.into = (r d.flow).va c.into := hi
   rw [e]
   exact ⟨hr.arrays, hr.inp, ⟨hd1.put (h.each _ hd.flow) hd.vals i0 (by rw [← hd.vals]; exact i1) n, hd2.same rfl rfl, hd3⟩, hr.status, hr.code, hr.out, hr.steps⟩
theorem RelM.term (h : UnitRen u g r) {m m' : MRun} (hr : RelM g r m m') (hok : MOk u m) {c c' : MCall} {l l' : List MCall} (hm : m.calls = c :: l) (hm' : m'.calls = c' :: l') {b : LBlock} (hb : c.flow.blocks[c.block.toNat]? = some b)
  (ht : TermK c.flow.blocks.length c.flow.values b.term) : RelM g r (termM m c b.term) (termM m' c' (renTerm (r c.flow) b.term)) := by
 have hcl := hr.calls
 rw [hm, hm'] at hcl
 obtain ⟨hc, hi, hl⟩ := hcl
 have hco := hok.calls c (by rw [hm]; simp)
 have hf := h.each c.flow hco.flow
 have ea : b.term.kind ≠ 1 → c'.val (renTerm (r c.flow) b.term).a = c.val b.term.a := fun hk => by
  obtain ⟨a0, a1⟩ := ht.a hk
  have e : (renTerm (r c.flow) b.term).a = (r c.flow).va b.term.a := if_neg hk
  rw [e]; exact hc.vals _ a0 a1
 have go : ∀ k : Int, (r c.flow).R k → RelM g r (m.top { c with at_ := 0, block := k }) (m'.top { c' with at_ := 0, block := (r c.flow).bl k }) := fun k hk =>
  hr.set_top hm hm' ⟨hc.flow, hk, rfl, rfl, hc.len, hc.vals⟩ rfl rfl
 have eto : b.term.kind = 1 ∨ b.term.kind = 2 → (renTerm (r c.flow) b.term).to = (r c.flow).bl b.term.to := fun hk => if_pos hk
 have eel : b.term.kind = 2 → (renTerm (r c.flow) b.term).els = (r c.flow).bl b.term.els := fun hk => if_pos hk
 unfold termM
 show RelM g r _ (if b.term.kind = 1 then _ else if b.term.kind = 2 then _ else if b.term.kind = 3 then _ else if b.term.kind = 4 then _ else _)
 refine ite_rel Iff.rfl (fun hk => ?_) fun _ => ite_rel Iff.rfl (fun hk => ?_) fun _ => ite_rel Iff.rfl (fun hk => ?_) fun _ => ite_rel Iff.rfl (fun hk => ?_) fun _ => ?_
 ·rw [eto (.inl hk)]; exact go _ (hf.dest _ _ hc.inR hb (.inl hk))
 ·rw [ea (by omega), eto (.inr hk), eel hk]
  by_cases hv : c.val b.term.a ≠ 0
  ·rw [if_pos hv, if_pos hv]; exact go _ (hf.dest _ _ hc.inR hb (.inr hk))
  ·rw [if_neg hv, if_neg hv]; exact go _ (hf.els _ _ hc.inR hb hk)
 ·rw [ea (by omega)]; exact hr.pop h hok hm hm' _
 ·rw [ea (by omega)]
  exact (hr.set_top hm hm' (d := { c with at_ := 0 }) (d' := { c' with at_ := 0 }) ⟨hc.flow, hc.inR, hc.block, rfl, hc.len, hc.vals⟩ rfl rfl).stop _ _
 ·exact hr.set_top hm hm' (d := { c with at_ := 0 }) (d' := { c' with at_ := 0 }) ⟨hc.flow, hc.inR, hc.block, rfl, hc.len, hc.vals⟩ rfl rfl
theorem ren_step (hu : UnitOk u) (h : UnitRen u g r) {m m' : MRun} (hr : RelM g r m m') (hok : MOk u m) : RelM g r (stepM u m) (stepM (mapU g u) m') := by
 have hcl := hr.calls
 unfold stepM
 cases hm : m.calls with
 | nil =>
  rw [hm] at hcl
  cases hm' : m'.calls with
  | nil => exact hr
  | cons c' l' => rw [hm'] at hcl; exact hcl.elim
 | cons c l =>
  rw [hm] at hcl
  cases hm' : m'.calls with
  | nil => rw [hm'] at hcl; exact hcl.elim
  | cons c' l' =>
   rw [hm'] at hcl
   obtain ⟨hc, hi, hl⟩ := hcl
   have hco := hok.calls c (by rw [hm]; simp)
   obtain ⟨hb, hbe⟩ := hco.block_at
   have hf := h.each c.flow hco.flow
   have hbe' : c'.flow.blocks[c'.block.toNat]? = some (renBlock (r c.flow) c.flow.blocks[c.block.toNat]) := by
    rw [hc.flow, hc.block]; exact hf.blk _ _ hc.inR hbe
   obtain ⟨ht, hins⟩ := block_ok hu hco.flow (List.getElem_mem hb)
   simp only []
   rw [hbe, hbe']
   simp only []
   have elen : (renBlock (r c.flow) c.flow.blocks[c.block.toNat]).ins.length = c.flow.blocks[c.block.toNat].ins.length := by simp [renBlock]
   refine ite_rel (by rw [hc.at_, elen]) (fun _ => hr.term h hok hm hm' hbe (termK_of ht)) fun hat => ?_
   have ex : (renBlock (r c.flow) c.flow.blocks[c.block.toNat]).ins[c'.at_.toNat]? = (c.flow.blocks[c.block.toNat].ins[c.at_.toNat]?).map (renIns (r c.flow)) := by
    rw [hc.at_]; simp [renBlock]
   rw [ex]
   cases hx : c.flow.blocks[c.block.toNat].ins[c.at_.toNat]? with
   | none => exact hr
   | some x =>
    obtain ⟨h1, h2⟩ := hok.ahead hm hbe hat
    have hr' : RelM g r (m.top { c with at_ := c.at_ + 1 }) (m'.top { c' with at_ := c'.at_ + 1 }) :=
     hr.set_top hm hm' ⟨hc.flow, hc.inR, hc.block, by show c'.at_ + 1 = c.at_ + 1; rw [hc.at_], hc.len, hc.vals⟩ rfl rfl
    exact RelM.ins h hr' (c := { c with at_ := c.at_ + 1 }) (c' := { c' with at_ := c'.at_ + 1 }) (l := l) (l' := l') (by simp [MRun.top, hm]) (by simp [MRun.top, hm']) h2 (insK_of (hins x (List.mem_of_getElem? hx)))
theorem ren_runM (hu : UnitOk u) (h : UnitRen u g r) : ∀ (k : Nat) {m m' : MRun}, RelM g r m m' → MOk u m → RelM g r (runM u k m) (runM (mapU g u) k m')
 | 0, _, _, hr, _ => hr
 | k + 1, m, m', hr, hok => by
  rw [runM_succ, runM_succ]
  refine ite_rel (by rw [hr.status]) (fun _ => ?_) fun _ => hr
  refine ren_runM hu h k (ren_step hu h ?_ ?_) (hok.round hu)
  ·exact ⟨hr.arrays, hr.inp, hr.calls, hr.status, hr.code, hr.out, by show m'.steps + 1 = m.steps + 1; rw [hr.steps]⟩
  ·exact ⟨hok.calls, hok.linked, hok.deep, hok.ne, hok.names, hok.sizes, by have := hok.out; show (m.out.length : Int) ≤ m.steps + 1; omega⟩
theorem ren_start (hu : UnitOk u) (h : UnitRen u g r) (inp : List Int) : RelM g r (startRun u inp) (startRun (mapU g u) inp) := by
 obtain ⟨f, hf, hmem⟩ := main_find hu
 have hf' : (mapU g u).flows.find? (fun f => decide (f.name = sMain)) = some (g f) := by
  show (u.flows.map g).find? _ = _
  rw [ren_find h sMain u.flows fun _ h => h, hf]; rfl
 rw [startRun_eq hf, startRun_eq hf']
 have hpar := (flow_ok hu hmem).1
 exact ⟨rfl, rfl, ⟨RelC.new (h.each f hmem) [] (by simpa using hpar) _ _, trivial, trivial⟩, rfl, rfl, rfl, rfl⟩
theorem ren_run (hu : UnitOk u) (h : UnitRen u g r) (inp : List Int) (n : Nat) : RelM g r (runU u inp n) (runU (mapU g u) inp n) :=
 ren_runM hu h n (ren_start hu h inp) (startRun_ok hu inp)
end
end Go.Proofs.YtkpigkopjfkepaaGreatDoor
