/- What stands in blocks that are not come to makes no difference for a run. A unit without idle instructions does what it did, in as many steps, or fewer. A value that is not wanted at a block's beginning may be anything there. A unit whose blocks and values are turned may be, and runs as it did. -/
import Derived.Test.YtknccacfhknnaaaGreatMore
import Derived.Test.YtknccacfhknnaaaGreatFlowVisit
import Derived.Test.YtknccacfhknnaaaGreatLivePlain
namespace Go.Proofs.YtknccacfhknnaaaGreat

/-! ### units whose functions are made anew may be, too -/
theorem find_map {g : LFlow → LFlow} (s : ByteArray) : ∀ l : List LFlow, (∀ f ∈ l, (g f).name = f.name) → (l.map g).find? (fun f => decide (f.name = s)) = (l.find? (fun f => decide (f.name = s))).map g
  | [], _ => rfl
  | f :: l, hl => by
    rw [List.map_cons, List.find?_cons, List.find?_cons, hl f (by simp)]
    split
    · rfl
    · exact find_map s l fun f hf => hl f (by simp [hf])
theorem names_map {g : LFlow → LFlow} {u : LUnit} (hn : ∀ f ∈ u.flows, (g f).name = f.name) : allNames (mapU g u) = allNames u := by
  unfold allNames mapU
  show u.arrays.map (·.1) ++ (u.flows.map g).map (·.name) = _
  rw [List.map_map]
  congr 1
  exact List.map_congr_left hn
theorem callOk_map {g : LFlow → LFlow} {u : LUnit} (hn : ∀ f ∈ u.flows, (g f).name = f.name) (hp : ∀ f ∈ u.flows, (g f).params = f.params) (vals : Int) (s : ByteArray) (args : List Int) : callOk (mapU g u) vals s args = callOk u vals s args := by
  unfold callOk
  show (match (u.flows.map g).find? (fun f => decide (f.name = s)) with | some g => _ | none => _) = _
  rw [find_map s u.flows hn]
  cases h : u.flows.find? (fun f => decide (f.name = s)) with
  | none => rfl
  | some f => show (decide ((args.length : Int) = (g f).params) && _) = _; rw [hp f (List.mem_of_find?_eq_some h)]
theorem insOk_map {g : LFlow → LFlow} {u : LUnit} (hn : ∀ f ∈ u.flows, (g f).name = f.name) (hp : ∀ f ∈ u.flows, (g f).params = f.params) (vals : Int) (x : LIns) : insOk (mapU g u) vals x = insOk u vals x := by
  unfold insOk namedOk
  rw [callOk_map hn hp]
  rfl
theorem blockBad_map {g : LFlow → LFlow} {u : LUnit} (hn : ∀ f ∈ u.flows, (g f).name = f.name) (hp : ∀ f ∈ u.flows, (g f).params = f.params) (f : LFlow) (b : LBlock) : blockBad (mapU g u) f b = blockBad u f b := by
  unfold blockBad
  congr 1
  induction b.ins with
  | nil => rfl
  | cons x l ih => rw [List.any_cons, List.any_cons, insOk_map hn hp, ih]
theorem findI_map {g : LFlow → LFlow} (s : ByteArray) : ∀ (l : List LFlow), (∀ f ∈ l, (g f).name = f.name) → findI (fun f => decide (f.name = s)) (l.map g) = findI (fun f => decide (f.name = s)) l := fun l hn => by
  have h1 : ∀ l : List LFlow, (∀ f ∈ l, (g f).name = f.name) → (l.map g).any (fun f => decide (f.name = s)) = l.any (fun f => decide (f.name = s)) ∧ (l.map g).findIdx (fun f => decide (f.name = s)) = l.findIdx (fun f => decide (f.name = s)) := by
    intro l
    induction l with
    | nil => intro _; exact ⟨rfl, rfl⟩
    | cons f l ih =>
      intro hl
      obtain ⟨i1, i2⟩ := ih fun f hf => hl f (by simp [hf])
      rw [List.map_cons, List.any_cons, List.any_cons, List.findIdx_cons, List.findIdx_cons, hl f (by simp), i1, i2]
      exact ⟨rfl, rfl⟩
  obtain ⟨e1, e2⟩ := h1 l hn
  unfold findI
  rw [e1, e2]
theorem unit_map {g : LFlow → LFlow} {u : LUnit} (hu : UnitOk u) (hn : ∀ f ∈ u.flows, (g f).name = f.name) (hp : ∀ f ∈ u.flows, (g f).params = f.params) (hnum : ∀ f ∈ u.flows, flowBad (g f) = false) (hl : ∀ f ∈ u.flows, ∀ b ∈ (g f).blocks, b.ins.length ≤ 1000)
    (hb : ∀ f ∈ u.flows, ∀ b ∈ (g f).blocks, blockBad u (g f) b = false) : UnitOk (mapU g u) := by
  refine ⟨hu.sizes, hu.arrs, by show (u.flows.map g).length ≤ 500; rw [List.length_map]; exact hu.fls, by rw [names_map hn]; exact hu.good, by rw [names_map hn]; exact hu.nodup, ?_, fun f hf => ?_, fun f hf => ?_, fun f hf => ?_⟩
  · obtain ⟨i, hi, h1, h2⟩ := hu.main
    refine ⟨i, by show i < (u.flows.map g).length; rw [List.length_map]; exact hi, ?_, ?_⟩
    · show findI _ (u.flows.map g) = _
      rw [findI_map sMain u.flows hn]; exact h1
    · show ((u.flows.map g)[i]'(by simpa using hi)).params ≤ 0
      rw [List.getElem_map, hp _ (List.getElem_mem hi)]; exact h2
  · obtain ⟨f0, h0, rfl⟩ := List.mem_map.1 (show f ∈ u.flows.map g from hf); exact hnum f0 h0
  · obtain ⟨f0, h0, rfl⟩ := List.mem_map.1 (show f ∈ u.flows.map g from hf); exact hl f0 h0
  · obtain ⟨f0, h0, rfl⟩ := List.mem_map.1 (show f ∈ u.flows.map g from hf)
    rw [List.any_eq_false]
    intro b hb'
    rw [blockBad_map hn hp, hb f0 h0 b hb']; decide
/-! ### one function made anew -/
def swapF (f f' h : LFlow) : LFlow := if h.name = f.name then f' else h
theorem swap_set {f f' : LFlow} : ∀ {l : List LFlow} {k : Nat}, l[k]? = some f → (l.map (·.name)).Nodup → l.map (swapF f f') = l.set k f'
  | [], k, h, _ => by simp at h
  | a :: l, 0, h, hn => by
    have e : a = f := by simpa using h
    subst e
    rw [List.map_cons, List.nodup_cons] at hn
    rw [List.map_cons, List.set_cons_zero]
    have e1 : swapF a f' a = f' := if_pos rfl
    rw [e1]
    congr 1
    conv => rhs; rw [← List.map_id l]
    refine List.map_congr_left fun b hb => ?_
    exact if_neg fun e => hn.1 (List.mem_map.2 ⟨b, hb, e⟩)
  | a :: l, k + 1, h, hn => by
    rw [List.map_cons, List.nodup_cons] at hn
    have hk : l[k]? = some f := by simpa using h
    rw [List.map_cons, List.set_cons_succ, swap_set (l := l) hk hn.2]
    have e1 : swapF f f' a = a := if_neg fun e => hn.1 (List.mem_map.2 ⟨f, List.mem_of_getElem? hk, e.symm⟩)
    rw [e1]
def keepR : Renum := ⟨fun _ => True, id, id⟩
theorem renIns_id (R : Int → Prop) (x : LIns) : renIns ⟨R, id, id⟩ x = x := by
  unfold renIns
  simp
theorem renBlock_id (R : Int → Prop) (b : LBlock) : renBlock ⟨R, id, id⟩ b = b := by
  unfold renBlock renTerm
  obtain ⟨ins, t⟩ := b
  have e : ins.map (renIns ⟨R, id, id⟩) = ins := by
    conv => rhs; rw [← List.map_id ins]
    exact List.map_congr_left fun x _ => renIns_id R x
  rw [e]
  simp
theorem ren_keep (f : LFlow) : RenOk f f keepR :=
  ⟨rfl, rfl, rfl, trivial, rfl, fun k b _ h => by rw [show renBlock keepR b = b from renBlock_id _ b]; exact h, fun _ _ _ _ _ => trivial, fun _ _ _ _ _ => trivial, fun k h0 h1 => ⟨h0, h1⟩, fun _ _ _ _ _ _ h => h, fun _ _ _ => rfl⟩
/-! ### blocks that are not come to -/
def trapIns : LIns := ⟨8, 0, 0, 0, 0, 0, ⟨#[]⟩, []⟩
def trapBlock : LBlock := ⟨[trapIns], ⟨4, 0, 0, 0⟩⟩
def trapF (f : LFlow) (i : Nat) : LFlow := { f with blocks := f.blocks.set i trapBlock }
def comeR (M : List Bool) : Renum := ⟨fun k => M[k.toNat]? = some true, id, id⟩
theorem nextL_to {t : LTerm} (h : t.kind = 1 ∨ t.kind = 2) : t.to ∈ nextL t := by
  unfold nextL
  by_cases e : t.kind = 2 ∧ t.to ≠ t.els
  · rw [if_pos e]; simp
  · rw [if_neg e, if_pos (by omega)]; simp
theorem nextL_els {t : LTerm} (h : t.kind = 2) : t.els ∈ nextL t := by
  unfold nextL
  by_cases e : t.kind = 2 ∧ t.to ≠ t.els
  · rw [if_pos e]; simp
  · rw [if_neg e, if_pos (by omega)]
    have : t.to = t.els := by
      by_cases e2 : t.to = t.els
      · exact e2
      · exact absurd ⟨h, e2⟩ e
    simp [this]
theorem ren_trap {f : LFlow} {i : Nat} {M : List Bool} (hv : Visited (succF f) 0 (List.replicate f.blocks.length false) M) (hi : M[i]? = some false) : RenOk f (trapF f i) (comeR M) := by
  have hno : ∀ k : Nat, (List.replicate f.blocks.length false)[k]? ≠ some true := fun k h => by rw [List.getElem?_replicate] at h; split at h <;> simp at h
  have succ : ∀ (k : Int) (b : LBlock), M[k.toNat]? = some true → f.blocks[k.toNat]? = some b → ∀ s ∈ nextL b.term, M[s.toNat]? = some true := fun k b hk hb s hs =>
    hv.closed k.toNat hk (hno _) s (by unfold succF; rw [hb]; exact hs)
  refine ⟨rfl, rfl, rfl, hv.at_, rfl, fun k b hk hb => ?_, fun k b hk hb h => succ k b hk hb _ (nextL_to h), fun k b hk hb h => succ k b hk hb _ (nextL_els h), fun k h0 h1 => ⟨h0, h1⟩, fun _ _ _ _ _ _ h => h, fun _ _ _ => rfl⟩
  rw [show renBlock (comeR M) b = b from renBlock_id _ b]
  show (f.blocks.set i trapBlock)[k.toNat]? = _
  have hne : i ≠ k.toNat := fun e => by
    have hk' : M[k.toNat]? = some true := hk
    rw [← e, hi] at hk'; cases hk'
  rw [List.getElem?_set_ne hne]; exact hb
theorem insCount_set {l : List LBlock} {i : Nat} {b : LBlock} (h : b.ins.length ≤ 6) (hl : ∀ b ∈ l, b.ins.length ≤ 6) : ∀ c ∈ l.set i b, c.ins.length ≤ 6 := fun c hc => by
  rcases List.mem_or_eq_of_mem_set hc with h1 | h1
  · exact hl c h1
  · rw [h1]; exact h
theorem insCount_le6 : ∀ {l : List LBlock} (_ : ∀ b ∈ l, b.ins.length ≤ 6), insCount l ≤ 6 * l.length
  | [], _ => Nat.le_refl _
  | b :: l, h => by
    have h1 := h b (by simp)
    have h2 := insCount_le6 (l := l) fun c hc => h c (by simp [hc])
    unfold insCount at h2 ⊢
    simp only [List.map_cons, List.sum_cons, List.length_cons]
    omega
/-- the unit that FlowReach makes: it may be, and runs alike -/
theorem fit_names_nodup (raw : List LBlock) : ((fitU raw).flows.map (·.name)).Nodup := by
  have h := (unit_fit raw).nodup
  unfold allNames at h
  exact (List.nodup_append.1 h).2.1
theorem trap_unit (raw : List LBlock) (k i : Nat) (hk : k < 3) (M : List Bool) (hv : Visited (succF (fitFl raw k)) 0 (List.replicate (fitFl raw k).blocks.length false) M) (hi : M[i]? = some false) :
    ∃ u : LUnit, u.arrays = (fitU raw).arrays ∧ u.flows = (fitU raw).flows.set k (trapF (fitFl raw k) i) ∧ UnitOk u ∧ ∀ inp n, (runU u inp n).status = (runU (fitU raw) inp n).status ∧ (runU u inp n).code = (runU (fitU raw) inp n).code ∧ (runU u inp n).out = (runU (fitU raw) inp n).out ∧ (runU u inp n).steps = (runU (fitU raw) inp n).steps := by
  have hf : (fitU raw).flows[k]? = some (fitFl raw k) := by
    rw [fitU_flows]; rcases (by omega : k = 0 ∨ k = 1 ∨ k = 2) with rfl | rfl | rfl <;> rfl
  have hmem := List.mem_of_getElem? hf
  have hok := unit_fit raw
  have huniq : ∀ h ∈ (fitU raw).flows, h.name = (fitFl raw k).name → h = fitFl raw k := fun h hh e => by
    obtain ⟨j, hj, rfl⟩ := List.getElem_of_mem hh
    have hnd := fit_names_nodup raw
    have hkl : k < (fitU raw).flows.length := (List.getElem?_eq_some_iff.1 hf).1
    have e2 : ((fitU raw).flows.map (·.name))[j]'(by simpa using hj) = ((fitU raw).flows.map (·.name))[k]'(by simpa using hkl) := by
      rw [List.getElem_map, List.getElem_map, e, (List.getElem?_eq_some_iff.1 hf).2]
    have e3 : j = k := (List.getElem_inj hnd).1 e2
    subst e3
    exact (List.getElem?_eq_some_iff.1 hf).2
  refine ⟨mapU (swapF (fitFl raw k) (trapF (fitFl raw k) i)) (fitU raw), rfl, swap_set (l := (fitU raw).flows) hf (fit_names_nodup raw), ?_, ?_⟩
  · have key : ∀ f ∈ (fitU raw).flows, swapF (fitFl raw k) (trapF (fitFl raw k) i) f = f ∨ (f = fitFl raw k ∧ swapF (fitFl raw k) (trapF (fitFl raw k) i) f = trapF (fitFl raw k) i) := fun f hf => by
      by_cases e : f.name = (fitFl raw k).name
      · exact .inr ⟨huniq f hf e, if_pos e⟩
      · exact .inl (if_neg e)
    have hp := fit_pos raw k
    have hle := fit_le raw k
    have hins := insCount_set (i := i) (b := trapBlock) (by decide) (fit_ins raw k)
    have hcnt := insCount_le6 hins
    rw [List.length_set] at hcnt
    have hfb : flowBad (trapF (fitFl raw k) i) = false := by
      unfold flowBad
      refine decide_eq_false ?_
      show ¬ ((k : Int) < 0 ∨ (k : Int) > 6 ∨ (10 : Int) < (k : Int) ∨ (10 : Int) > 50000 ∨ ((fitFl raw k).blocks.set i trapBlock).length = 0 ∨ ((fitFl raw k).blocks.set i trapBlock).length > 20000 ∨ insCount ((fitFl raw k).blocks.set i trapBlock) > 200000)
      rw [List.length_set]
      omega
    refine unit_map hok (fun f hf => ?_) (fun f hf => ?_) (fun f hf => ?_) (fun f hf => ?_) fun f hf => ?_
    · rcases key f hf with e | ⟨e, e2⟩
      · rw [e]
      · rw [e2, e]; rfl
    · rcases key f hf with e | ⟨e, e2⟩
      · rw [e]
      · rw [e2, e]; rfl
    · rcases key f hf with e | ⟨e, e2⟩
      · rw [e]; exact hok.nums f hf
      · rw [e2]; exact hfb
    · rcases key f hf with e | ⟨e, e2⟩
      · rw [e]; exact hok.lens f hf
      · rw [e2]; intro b hb; have := hins b hb; omega
    · rcases key f hf with e | ⟨e, e2⟩
      · rw [e]; intro b hb; have := hok.blocks f hf; rw [List.any_eq_false] at this; simpa using this b hb
      · rw [e2]
        intro b hb
        rcases List.mem_or_eq_of_mem_set (show b ∈ (fitFl raw k).blocks.set i trapBlock from hb) with h1 | h1
        · have := hok.blocks _ hmem
          rw [List.any_eq_false] at this
          have h2 := this b h1
          simp only [Bool.not_eq_true] at h2
          unfold blockBad at h2 ⊢
          show (!termOk ((fitFl raw k).blocks.set i trapBlock).length 10 b.term || b.ins.any (fun x => !insOk (fitU raw) 10 x)) = false
          rw [List.length_set]; exact h2
        · rw [h1]; rfl
  · intro inp n
    have hr : UnitRen (fitU raw) (swapF (fitFl raw k) (trapF (fitFl raw k) i)) (fun f => if f.name = (fitFl raw k).name then comeR M else keepR) := ⟨fun f hf => by
      by_cases e : f.name = (fitFl raw k).name
      · rw [if_pos e, show swapF (fitFl raw k) (trapF (fitFl raw k) i) f = trapF (fitFl raw k) i from if_pos e, huniq f hf e]
        exact ren_trap hv hi
      · rw [if_neg e, show swapF (fitFl raw k) (trapF (fitFl raw k) i) f = f from if_neg e]
        exact ren_keep f⟩
    have h := ren_run hok hr inp n
    exact ⟨h.status, h.code, h.out, h.steps⟩
end Go.Proofs.YtknccacfhknnaaaGreat

namespace Go.Proofs.YtknccacfhknnaaaGreat

/-- an instruction that may be left out where W is wanted behind it -/
def IdleL (W : Int → Bool) (x : LIns) : Prop := (x.kind = 2 ∧ x.a = x.d) ∨ ((x.kind = 1 ∨ x.kind = 2 ∨ x.kind = 3 ∨ (x.kind = 4 ∧ x.op ≠ 4 ∧ x.op ≠ 5)) ∧ W x.d = false)
/-- the second row is the first one without idle instructions; S is wanted behind both -/
inductive Thin (S : Int → Bool) : List LIns → List LIns → Prop
  | nil : Thin S [] []
  | keep (x : LIns) (l l' : List LIns) : Thin S l l' → Thin S (x :: l) (x :: l')
  | drop (x : LIns) (l l' : List LIns) : IdleL (stepsS l S) x → Thin S l l' → Thin S (x :: l) l'
theorem Thin.refl (S : Int → Bool) : ∀ l : List LIns, Thin S l l
  | [] => .nil
  | x :: l => .keep x l l (Thin.refl S l)
theorem Thin.le {S : Int → Bool} {l l' : List LIns} (h : Thin S l l') : l'.length ≤ l.length := by
  induction h with
  | nil => exact Nat.le_refl _
  | keep x l l' _ ih => simp only [List.length_cons]; omega
  | drop x l l' _ _ ih => simp only [List.length_cons]; omega
theorem Thin.nil_of {S : Int → Bool} {l' : List LIns} (h : Thin S [] l') : l' = [] := by cases h; rfl
/-- f' is f without idle instructions; L: sets that hold what is wanted at the blocks' beginnings; d: how many are left out of a block, at most -/
structure SwL (d : Nat) (L : Nat → Int → Bool) (f f' : LFlow) : Prop where
  name : f'.name = f.name
  params : f'.params = f.params
  values : f'.values = f.values
  len : f'.blocks.length = f.blocks.length
  pre : Pre f L
  term : ∀ (i : Nat) (b b' : LBlock), f.blocks[i]? = some b → f'.blocks[i]? = some b' → b'.term = b.term
  thin : ∀ (i : Nat) (b b' : LBlock), f.blocks[i]? = some b → f'.blocks[i]? = some b' → Thin (endS b.term L) b.ins b'.ins
  few : ∀ (i : Nat) (b b' : LBlock), f.blocks[i]? = some b → f'.blocks[i]? = some b' → b.ins.length ≤ b'.ins.length + d
structure UnitSw (d : Nat) (u u' : LUnit) (g : LFlow → LFlow) (L : LFlow → Nat → Int → Bool) : Prop where
  find : ∀ (s : ByteArray) (f : LFlow), u.flows.find? (fun f => decide (f.name = s)) = some f → u'.flows.find? (fun f => decide (f.name = s)) = some (g f)
  sw : ∀ f ∈ u.flows, SwL d (L f) f (g f)
  arrays : u'.arrays = u.arrays
/-- two calls that stand at the same place; but: a value that may be another one (what is called will set it) -/
structure SwC (d : Nat) (L : LFlow → Nat → Int → Bool) (g : LFlow → LFlow) (but : Int → Prop) (c c' : MCall) : Prop where
  flow : c'.flow = g c.flow
  block : c'.block = c.block
  into : c'.into = c.into
  b0 : 0 ≤ c.block
  at0 : 0 ≤ c'.at_
  len : c'.values.length = c.values.length
  here : ∀ b b', c.flow.blocks[c.block.toNat]? = some b → (g c.flow).blocks[c.block.toNat]? = some b' →
    Thin (endS b.term (L c.flow)) (b.ins.drop c.at_.toNat) (b'.ins.drop c'.at_.toNat) ∧ (b.ins.drop c.at_.toNat).length ≤ (b'.ins.drop c'.at_.toNat).length + d ∧
    ∀ v, 0 ≤ v → ¬ but v → stepsS (b.ins.drop c.at_.toNat) (endS b.term (L c.flow)) v = true → c'.val v = c.val v
def SwR (d : Nat) (L : LFlow → Nat → Int → Bool) (g : LFlow → LFlow) : Int → List MCall → List MCall → Prop
  | _, [], [] => True
  | n, c :: l, c' :: l' => SwC d L g (fun v => v = n) c c' ∧ SwR d L g c.into l l'
  | _, _, _ => False
/-- the calls: at the one that goes on last all that is wanted is alike -/
def SwT (d : Nat) (L : LFlow → Nat → Int → Bool) (g : LFlow → LFlow) : List MCall → List MCall → Prop
  | [], [] => True
  | c :: l, c' :: l' => SwC d L g (fun _ => False) c c' ∧ SwR d L g c.into l l'
  | _, _ => False
structure SwM (d : Nat) (L : LFlow → Nat → Int → Bool) (g : LFlow → LFlow) (m m' : MRun) : Prop where
  out : m'.out = m.out
  status : m'.status = m.status
  code : m'.code = m.code
  steps : m'.steps ≤ m.steps
  arrays : m'.arrays = m.arrays
  inp : m'.inp = m.inp
  calls : m.status = 0 → SwT d L g m.calls m'.calls
section
variable {d : Nat} {u u' : LUnit} {g : LFlow → LFlow} {L : LFlow → Nat → Int → Bool}
theorem SwR.length : ∀ {l l' : List MCall} {n : Int}, SwR d L g n l l' → l'.length = l.length
  | [], [], _, _ => rfl
  | _ :: _, _ :: _, _, h => by simp [SwR.length h.2]
  | [], _ :: _, _, h => h.elim
  | _ :: _, [], _, h => h.elim
theorem SwC.mono {p q : Int → Prop} {c c' : MCall} (h : SwC d L g p c c') (hpq : ∀ v, p v → q v) : SwC d L g q c c' :=
  ⟨h.flow, h.block, h.into, h.b0, h.at0, h.len, fun b b' hb hb' => by obtain ⟨h1, h2, h3⟩ := h.here b b' hb hb'; exact ⟨h1, h2, fun v h0 hv => h3 v h0 fun e => hv (hpq v e)⟩⟩
theorem put_val {c : MCall} {d v : Int} {k : Int} (h0 : 0 ≤ d) (h1 : d < (c.values.length : Int)) (k0 : 0 ≤ k) : (c.put d v).val k = if k = d then v else c.val k := by
  show (c.values.set d.toNat v).getD k.toNat 0 = _
  by_cases e : k = d
  · subst e; rw [if_pos rfl, getD_set_self (by omega)]
  · rw [if_neg e, getD_set_ne (by omega)]; rfl
theorem put_neg {c : MCall} {d v : Int} {k : Int} (k0 : k.toNat ≠ d.toNat) : (c.put d v).val k = c.val k := by
  show (c.values.set d.toNat v).getD k.toNat 0 = _
  rw [getD_set_ne (Ne.symm k0)]; rfl
/-- what the two put alike is alike -/
theorem put_same {c c' : MCall} (hl : c'.values.length = c.values.length) {d k v : Int} (h : k ≠ d → c'.val k = c.val k) : (c'.put d v).val k = (c.put d v).val k := by
  by_cases e : k = d
  · subst e
    show (c'.values.set k.toNat v).getD k.toNat 0 = (c.values.set k.toNat v).getD k.toNat 0
    by_cases hk : k.toNat < c.values.length
    · rw [getD_set_self hk, getD_set_self (by omega)]
    · simp [List.getD_eq_getElem?_getD, hk, hl]
  · by_cases e2 : k.toNat = d.toNat
    · show (c'.values.set d.toNat v).getD k.toNat 0 = (c.values.set d.toNat v).getD k.toNat 0
      rw [e2]
      by_cases hk : d.toNat < c.values.length
      · rw [getD_set_self hk, getD_set_self (by omega)]
      · simp [List.getD_eq_getElem?_getD, hk, hl]
    · rw [put_neg e2, put_neg e2]; exact h e
/-- what a call returns is put -/
theorem SwC.put {c c' : MCall} {n : Int} (h : SwC d L g (fun v => v = n) c c') (v : Int) : SwC d L g (fun _ => False) (c.put n v) (c'.put n v) :=
  ⟨h.flow, h.block, h.into, h.b0, h.at0, by simp [MCall.put, h.len], fun b b' hb hb' => by
    obtain ⟨h1, h2, h3⟩ := h.here b b' hb hb'
    exact ⟨h1, h2, fun k k0 _ hk => put_same h.len fun e => h3 k k0 e hk⟩⟩
/-- a call of a function begins -/
theorem SwC.new {f : LFlow} (h : SwL d (L f) f (g f)) (args : List Int) (into : Int) : SwC d L g (fun _ => False) (newCall f args into) (newCall (g f) args into) := by
  refine ⟨rfl, rfl, rfl, Int.le_refl _, Int.le_refl _, ?_, fun b b' hb hb' => ?_⟩
  · show (argVals (g f).values args).length = (argVals f.values args).length; rw [h.values]
  · refine ⟨h.thin _ b b' hb hb', h.few _ b b' hb hb', fun v _ _ _ => ?_⟩
    show (argVals (g f).values args).getD v.toNat 0 = (argVals f.values args).getD v.toNat 0; rw [h.values]
/-- a block begins -/
theorem SwC.goto {c c' : MCall} {p : Int → Prop} (h : SwL d (L c.flow) c.flow (g c.flow)) (hc : SwC d L g p c c') {k : Int} (hk : 0 ≤ k) (hv : ∀ v, 0 ≤ v → L c.flow k.toNat v = true → c'.val v = c.val v) : SwC d L g (fun _ => False) { c with at_ := 0, block := k } { c' with at_ := 0, block := k } := by
  refine ⟨hc.flow, rfl, hc.into, hk, Int.le_refl _, hc.len, fun b b' hb hb' => ?_⟩
  have hb2 : c.flow.blocks[k.toNat]? = some b := hb
  refine ⟨h.thin _ b b' hb hb', h.few _ b b' hb hb', fun v h0 _ hv2 => hv v h0 ?_⟩
  have hlt : k.toNat < c.flow.blocks.length := (List.getElem?_eq_some_iff.1 hb2).1
  have hbe : c.flow.blocks[k.toNat] = b := (List.getElem?_eq_some_iff.1 hb2).2
  exact h.pre k.toNat hlt v (by rw [hbe]; exact hv2)
theorem SwM.push (h : UnitSw d u u' g L) {m m' : MRun} (hm : SwM d L g m m') (s : ByteArray) (args : List Int) (into : Int) (hr : SwR d L g into m.calls m'.calls) (hs : ∃ f, u.flows.find? (fun f => decide (f.name = s)) = some f) :
    SwM d L g (m.push u s args into) (m'.push u' s args into) := by
  obtain ⟨f, hf⟩ := hs
  unfold MRun.push
  rw [hf, h.find s f hf]
  exact ⟨hm.out, hm.status, hm.code, hm.steps, hm.arrays, hm.inp, fun _ => ⟨SwC.new (h.sw f (List.mem_of_find?_eq_some hf)) args into, hr⟩⟩
theorem ite_sw {p p' : Prop} [Decidable p] [Decidable p'] {a b a' b' : MRun} (hp : p' ↔ p) (h1 : p → SwM d L g a a') (h2 : ¬ p → SwM d L g b b') : SwM d L g (if p then a else b) (if p' then a' else b') := by
  by_cases h : p
  · rw [if_pos h, if_pos (hp.2 h)]; exact h1 h
  · rw [if_neg h, if_neg (fun e => h (hp.1 e))]; exact h2 h
theorem SwM.stop {m m' : MRun} (h : SwM d L g m m') {s : Int} (hs : s ≠ 0) (c : Int) : SwM d L g (m.stop s c) (m'.stop s c) := ⟨h.out, rfl, rfl, h.steps, h.arrays, h.inp, fun e => absurd e hs⟩
theorem sets_iff (x : LIns) (hk : 1 ≤ x.kind ∧ x.kind ≤ 9) : ∀ v, v ∈ setsL x ↔ (hasD x.kind = true ∧ v = x.d) := fun v => by
  unfold setsL
  rw [hasD_iff]
  by_cases h : x.kind < 1 ∨ x.kind > 9 ∨ x.kind = 6 ∨ x.kind = 8
  · rw [if_pos h]; simp; omega
  · rw [if_neg h]
    constructor
    · intro e; exact ⟨by omega, by simpa using e⟩
    · intro e; simp [e.2]
theorem sw_uses_a {x : LIns} (h : hasA x.kind = true) : x.a ∈ usesL x := by unfold usesL; simp [h]
theorem sw_uses_b {x : LIns} (h : hasB x.kind = true) : x.b ∈ usesL x := by unfold usesL; simp [h]
theorem sw_uses_args {x : LIns} (h : x.kind = 9) {n : Int} (hn : n ∈ x.args) : n ∈ usesL x := by unfold usesL; simp [h, hn]
/-- the same instruction at both -/
theorem sw_ins_at (h : UnitSw d u u' g L) {m m' : MRun} {c c' : MCall} {l l' : List MCall} (m1 : m'.out = m.out) (m2 : m'.status = m.status) (m3 : m'.code = m.code) (m4 : m'.steps ≤ m.steps) (m5 : m'.arrays = m.arrays) (m6 : m'.inp = m.inp) (hc0 : m.calls = c :: l) (hc0' : m'.calls = c' :: l') {x : LIns} (hx : InsK u c.flow.values x) (S : Int → Bool)
    (hlen : c'.values.length = c.values.length)
    (hv : ∀ v, 0 ≤ v → stepS S x v = true → c'.val v = c.val v)
    (hmk : ∀ but : Int → Prop, ∀ k k' : MCall, k.flow = c.flow → k'.flow = c'.flow → k.block = c.block → k'.block = c'.block → k.into = c.into → k'.into = c'.into → k.at_ = c.at_ → k'.at_ = c'.at_ → k'.values.length = k.values.length → (∀ v, 0 ≤ v → ¬ but v → S v = true → k'.val v = k.val v) → SwC d L g but k k')
    (htail : SwR d L g c.into l l') : SwM d L g (insM u m c x) (insM u' m' c' x) := by
  have put : ∀ v : Int, hasD x.kind = true → SwM d L g (m.top (c.put x.d v)) (m'.top (c'.put x.d v)) := fun v hd => by
    refine ⟨m1, m2, m3, m4, m5, m6, fun _ => ?_⟩
    show SwT d L g (_ :: m.calls.tail) (_ :: m'.calls.tail)
    rw [hc0, hc0']
    refine ⟨hmk _ _ _ rfl rfl rfl rfl rfl rfl rfl rfl (by simp [MCall.put, hlen]) fun k h0 _ hk => ?_, htail⟩
    exact put_same hlen fun e => hv k h0 (stepS_iff.2 (.inr ⟨fun e2 => e ((sets_iff x hx.kind k).1 e2).2, hk⟩))
  have stop : ∀ s co : Int, s ≠ 0 → SwM d L g (m.stop s co) (m'.stop s co) := fun s co hs => ⟨m1, rfl, rfl, m4, m5, m6, fun e => absurd e hs⟩
  have ea : hasA x.kind = true → c'.val x.a = c.val x.a := fun ha => hv _ (hx.a ha).1 (stepS_iff.2 (.inl (sw_uses_a ha)))
  have eb : hasB x.kind = true → c'.val x.b = c.val x.b := fun hb => hv _ (hx.b hb).1 (stepS_iff.2 (.inl (sw_uses_b hb)))
  have noset : hasD x.kind = false → SwT d L g m.calls m'.calls := fun hd => by
    rw [hc0, hc0']
    refine ⟨hmk _ _ _ rfl rfl rfl rfl rfl rfl rfl rfl hlen fun k h0 _ hk => hv k h0 (stepS_iff.2 (.inr ⟨fun e => ?_, hk⟩)), htail⟩
    have := ((sets_iff x hx.kind k).1 e).1
    rw [hd] at this; cases this
  have hcl : m'.calls.length = m.calls.length := by rw [hc0, hc0']; simp [htail.length]
  have harr : m'.arr x.name = m.arr x.name := by unfold MRun.arr; rw [m5]
  unfold insM
  refine ite_sw Iff.rfl (fun hk => ?_) fun k1 => ite_sw Iff.rfl (fun hk => ?_) fun k2 => ite_sw Iff.rfl (fun hk => ?_) fun k3 => ite_sw Iff.rfl (fun hk => ?_) fun k4 => ite_sw Iff.rfl (fun hk => ?_) fun k5 => ite_sw Iff.rfl (fun hk => ?_) fun k6 => ite_sw Iff.rfl (fun hk => ?_) fun k7 => ite_sw Iff.rfl (fun hk => ?_) fun k8 => ite_sw Iff.rfl (fun hk => ?_) fun k9 => ?_
  · exact put _ (by rw [hk]; rfl)
  · rw [ea (by rw [hk]; rfl)]; exact put _ (by rw [hk]; rfl)
  · rw [ea (by rw [hk]; rfl)]; exact put _ (by rw [hk]; rfl)
  · rw [ea (by rw [hk]; rfl), eb (by rw [hk]; rfl)]
    exact ite_sw Iff.rfl (fun _ => put _ (by rw [hk]; rfl)) fun _ => stop _ _ (by decide)
  · rw [ea (by rw [hk]; rfl), harr]
    exact ite_sw Iff.rfl (fun _ => put _ (by rw [hk]; rfl)) fun _ => stop _ _ (by decide)
  · rw [ea (by rw [hk]; rfl), eb (by rw [hk]; rfl), harr]
    refine ite_sw Iff.rfl (fun _ => ?_) fun _ => stop _ _ (by decide)
    exact ⟨m1, m2, m3, m4, by show setArr m'.arrays _ _ _ = setArr m.arrays _ _ _; rw [m5], m6, fun _ => noset (by rw [hk]; rfl)⟩
  · rw [m6]
    have p := put (m.inp.headD (-1)) (by rw [hk]; rfl)
    exact ⟨p.out, p.status, p.code, p.steps, p.arrays, rfl, p.calls⟩
  · rw [ea (by rw [hk]; rfl)]
    exact ⟨by show m'.out ++ _ = m.out ++ _; rw [m1], m2, m3, m4, m5, m6, fun _ => noset (by rw [hk]; rfl)⟩
  · refine ite_sw (by rw [hcl]) (fun _ => stop _ _ (by decide)) fun _ => ?_
    obtain ⟨f, hf, _, hargs⟩ := hx.call hk
    have e1 : x.args.map c'.val = x.args.map c.val := List.map_congr_left fun n hn => hv _ (hargs n hn).1 (stepS_iff.2 (.inl (sw_uses_args hk hn)))
    rw [e1]
    unfold MRun.push
    rw [hf, h.find x.name f hf]
    refine ⟨m1, m2, m3, m4, m5, m6, fun _ => ⟨SwC.new (h.sw f (List.mem_of_find?_eq_some hf)) _ _, ?_⟩⟩
    rw [hc0, hc0']
    refine ⟨hmk _ _ _ rfl rfl rfl rfl rfl rfl rfl rfl hlen fun k h0 hne hk2 => hv k h0 (stepS_iff.2 (.inr ⟨fun e => hne ((sets_iff x hx.kind k).1 e).2, hk2⟩)), htail⟩
  · exact absurd hx.kind (by omega)
theorem sw_two_ok {vals : Int} {x : LIns} (h : insOk u vals x = true) (hk : x.kind = 4) (h4 : x.op ≠ 4) (h5 : x.op ≠ 5) (b : Int) : Ar.twoOk x.op b = true := by
  unfold insOk at h
  simp only [Bool.and_eq_true] at h
  have ho := h.1.1.2
  unfold opOk at ho
  rw [if_neg (by omega), if_pos hk] at ho
  have ho := of_decide_eq_true ho
  unfold Ar.twoOk
  simp [ho, h4, h5]
/-- what an idle instruction does: one value, that is not wanted, becomes another one -/
theorem idle_ins {vals : Int} {x : LIns} (ho : insOk u vals x = true) {W : Int → Bool} (hi : IdleL W x) (m : MRun) (c : MCall) : ∃ v, insM u m c x = m.top (c.put x.d v) ∧ (W x.d = true → v = c.val x.d) := by
  have hdec : ∀ v, W x.d = false → (W x.d = true → v = c.val x.d) := fun v h e => by rw [h] at e; cases e
  unfold insM
  rcases hi with ⟨h1, h2⟩ | ⟨h1 | h1 | h1 | ⟨h1, h4, h5⟩, hW⟩
  · rw [if_neg (by omega), if_pos h1]; exact ⟨_, rfl, fun _ => by rw [h2]⟩
  · rw [if_pos h1]; exact ⟨_, rfl, hdec _ hW⟩
  · rw [if_neg (by omega), if_pos h1]; exact ⟨_, rfl, hdec _ hW⟩
  · rw [if_neg (by omega), if_neg (by omega), if_pos h1]; exact ⟨_, rfl, hdec _ hW⟩
  · rw [if_neg (by omega), if_neg (by omega), if_neg (by omega), if_pos h1, if_pos (sw_two_ok ho h1 h4 h5 _)]; exact ⟨_, rfl, hdec _ hW⟩
/-- nothing more is to be left out of the block that goes on -/
def NoExc (m m' : MRun) : Prop := ∀ c l c' l' b b', m.calls = c :: l → m'.calls = c' :: l' → c.flow.blocks[c.block.toNat]? = some b → c'.flow.blocks[c'.block.toNat]? = some b' → (b.ins.drop c.at_.toNat).length ≤ (b'.ins.drop c'.at_.toNat).length
theorem SwR.cons {n : Int} {l l' : List MCall} {e : MCall} {r : List MCall} (h : SwR d L g n l l') (hl : l = e :: r) : ∃ e' r', l' = e' :: r' ∧ SwC d L g (fun v => v = n) e e' ∧ SwR d L g e.into r r' := by
  subst hl
  cases l' with
  | nil => exact h.elim
  | cons e' r' => exact ⟨e', r', rfl, h.1, h.2⟩
theorem SwM.term (h : UnitSw d u u' g L) {m m' : MRun} (hm : SwM d L g m m') {c c' : MCall} {l l' : List MCall} (hc : m.calls = c :: l) (hc' : m'.calls = c' :: l') (hf : c.flow ∈ u.flows) (hC : SwC d L g (fun _ => False) c c') (htail : SwR d L g c.into l l') {b : LBlock}
    (ht : TermK c.flow.blocks.length c.flow.values b.term) (hv : ∀ v, 0 ≤ v → endS b.term (L c.flow) v = true → c'.val v = c.val v) : SwM d L g (termM m c b.term) (termM m' c' b.term) := by
  have hsw := h.sw c.flow hf
  have go : ∀ k : Int, k ∈ nextL b.term → 0 ≤ k → SwM d L g (m.top { c with at_ := 0, block := k }) (m'.top { c' with at_ := 0, block := k }) := fun k hk h0 => by
    refine ⟨hm.out, hm.status, hm.code, hm.steps, hm.arrays, hm.inp, fun _ => ?_⟩
    show SwT d L g (_ :: m.calls.tail) (_ :: m'.calls.tail)
    rw [hc, hc']
    exact ⟨hC.goto hsw h0 fun v v0 hL => hv v v0 (endS_iff.2 (.inr ⟨k, hk, hL⟩)), htail⟩
  have wa : b.term.kind = 2 ∨ b.term.kind = 3 ∨ b.term.kind = 4 → c'.val b.term.a = c.val b.term.a := fun hk => by
    refine hv _ (ht.a (by omega)).1 (endS_iff.2 (.inl ?_))
    unfold wantsL
    rw [if_pos hk]; simp
  unfold termM
  refine ite_sw Iff.rfl (fun hk => ?_) fun k1 => ite_sw Iff.rfl (fun hk => ?_) fun k2 => ite_sw Iff.rfl (fun hk => ?_) fun k3 => ite_sw Iff.rfl (fun hk => ?_) fun k4 => ?_
  · exact go _ (nextL_to (.inl hk)) (ht.dest (.inl hk)).1
  · rw [wa (.inl hk)]
    by_cases hz : c.val b.term.a ≠ 0
    · rw [if_pos hz]; exact go _ (nextL_to (.inr hk)) (ht.dest (.inr hk)).1
    · rw [if_neg hz]; exact go _ (nextL_els hk) (ht.els hk).1
  · rw [wa (.inr (.inl hk)), hC.into]
    unfold MRun.pop
    rw [hc, hc']
    cases l with
    | nil =>
      cases l' with
      | nil => exact ⟨hm.out, rfl, rfl, hm.steps, hm.arrays, hm.inp, fun e => absurd (show (1 : Int) = 0 from e) (by decide)⟩
      | cons e' r' => exact htail.elim
    | cons e r =>
      obtain ⟨e', r', rfl, h1, h2⟩ := htail.cons rfl
      exact ⟨hm.out, hm.status, hm.code, hm.steps, hm.arrays, hm.inp, fun _ => ⟨h1.put _, h2⟩⟩
  · rw [wa (.inr (.inr hk))]
    exact ⟨hm.out, rfl, rfl, hm.steps, hm.arrays, hm.inp, fun e => absurd (show (5 : Int) = 0 from e) (by decide)⟩
  · exact absurd ht.kind (by omega)
/-- a step: the same step there, or none -/
theorem sw_step (hu : UnitOk u) (h : UnitSw d u u' g L) {m m' : MRun} (hm : SwM d L g m m') (hok : MOk u m) (hok' : MOk u' m') (hst : m.status = 0) :
    SwM d L g (stepM u m) (stepM u' m') ∨ (SwM d L g (stepM u m) m' ∧ ¬ NoExc m m' ∧ (d ≤ 1 → NoExc (stepM u m) m')) := by
  have hT := hm.calls hst
  have hne := hok.ne hst
  cases hc : m.calls with
  | nil => exact absurd hc hne
  | cons c l =>
    cases hc' : m'.calls with
    | nil => rw [hc, hc'] at hT; exact hT.elim
    | cons c' l' =>
      rw [hc, hc'] at hT
      obtain ⟨hC, htail⟩ := hT
      have hco := hok.calls c (by rw [hc]; simp)
      have hco' := hok'.calls c' (by rw [hc']; simp)
      obtain ⟨hb, hbe⟩ := hco.block_at
      obtain ⟨hb', hbe'⟩ := hco'.block_at
      obtain ⟨ht, hins⟩ := block_ok hu hco.flow (List.getElem_mem hb)
      obtain ⟨b, hbd⟩ : ∃ b, b = c.flow.blocks[c.block.toNat] := ⟨_, rfl⟩
      obtain ⟨b', hbd'⟩ : ∃ b', b' = c'.flow.blocks[c'.block.toNat] := ⟨_, rfl⟩
      rw [← hbd] at hbe ht hins
      rw [← hbd'] at hbe'
      have hbg : (g c.flow).blocks[c.block.toNat]? = some b' := by rw [← hC.flow, ← hC.block]; exact hbe'
      obtain ⟨hthin, hexc, hval⟩ := hC.here b b' hbe hbg
      have hterm := (h.sw _ hco.flow).term _ b b' hbe hbg
      have ha0 := hco.a0
      have ha1 := hco.a1 b hbe
      have hb0 := hC.at0
      have hb1 := hco'.a1 b' hbe'
      have es : stepM u m = if c.at_ = b.ins.length then termM m c b.term else match b.ins[c.at_.toNat]? with | none => m | some x => insM u (m.top { c with at_ := c.at_ + 1 }) { c with at_ := c.at_ + 1 } x := by unfold stepM; rw [hc]; simp only []; rw [hbe]; rfl
      have es' : stepM u' m' = if c'.at_ = b'.ins.length then termM m' c' b'.term else match b'.ins[c'.at_.toNat]? with | none => m' | some x => insM u' (m'.top { c' with at_ := c'.at_ + 1 }) { c' with at_ := c'.at_ + 1 } x := by unfold stepM; rw [hc']; simp only []; rw [hbe']; rfl
      by_cases hat : c.at_ = b.ins.length
      · have e0 : b.ins.drop c.at_.toNat = [] := List.drop_eq_nil_of_le (by omega)
        rw [e0] at hthin hval
        have e1 : c'.at_ = b'.ins.length := by
          have := hthin.nil_of
          have := List.drop_eq_nil_iff.1 this
          omega
        left
        rw [es, es', if_pos hat, if_pos e1, hterm]
        exact hm.term h hc hc' hco.flow hC htail (termK_of ht) fun v v0 hv => hval v v0 id hv
      · have hlt : c.at_.toNat < b.ins.length := by omega
        obtain ⟨x, hx⟩ : ∃ x, x = b.ins[c.at_.toNat] := ⟨_, rfl⟩
        have hxe : b.ins[c.at_.toNat]? = some x := by rw [List.getElem?_eq_getElem hlt, hx]
        have hdrop : b.ins.drop c.at_.toNat = x :: b.ins.drop (c.at_.toNat + 1) := by rw [List.drop_eq_getElem_cons hlt, hx]
        have hn : (c.at_ + 1).toNat = c.at_.toNat + 1 := by omega
        have hxo : insOk u c.flow.values x = true := hins x (by rw [hx]; exact List.getElem_mem _)
        rw [es, if_neg hat, hxe]
        simp only []
        rw [hdrop] at hthin hexc hval
        obtain ⟨S, hS⟩ : ∃ S, S = endS b.term (L c.flow) := ⟨_, rfl⟩
        obtain ⟨r', hr'⟩ : ∃ r', r' = b'.ins.drop c'.at_.toNat := ⟨_, rfl⟩
        obtain ⟨r, hr⟩ : ∃ r, r = b.ins.drop (c.at_.toNat + 1) := ⟨_, rfl⟩
        rw [← hS, ← hr', ← hr] at hthin
        rw [← hr', ← hr] at hexc
        rw [← hS, ← hr] at hval
        cases hthin with
        | keep _ _ t' hth =>
          left
          have hlt' : c'.at_.toNat < b'.ins.length := by
            by_cases e : c'.at_.toNat < b'.ins.length
            · exact e
            · rw [List.drop_eq_nil_of_le (by omega)] at hr'; cases hr'
          have hd' := List.drop_eq_getElem_cons hlt'
          rw [← hr'] at hd'
          injection hd' with hx' ht'
          have hxe' : b'.ins[c'.at_.toNat]? = some x := by rw [List.getElem?_eq_getElem hlt', ← hx']
          have hn' : (c'.at_ + 1).toNat = c'.at_.toNat + 1 := by omega
          rw [es', if_neg (by omega), hxe']
          simp only []
          have hm1 : SwM d L g (m.top { c with at_ := c.at_ + 1 }) (m'.top { c' with at_ := c'.at_ + 1 }) → True := fun _ => trivial
          -- the two stand one instruction further
          have key : ∀ but : Int → Prop, ∀ k k' : MCall, k.flow = c.flow → k'.flow = c'.flow → k.block = c.block → k'.block = c'.block → k.into = c.into → k'.into = c'.into → k.at_ = c.at_ + 1 → k'.at_ = c'.at_ + 1 → k'.values.length = k.values.length → (∀ v, 0 ≤ v → ¬ but v → stepsS r S v = true → k'.val v = k.val v) → SwC d L g but k k' := by
            intro but k k' f1 f2 f3 f4 f5 f6 f7 f8 f9 f10
            refine ⟨by rw [f1, f2, hC.flow], by rw [f3, f4, hC.block], by rw [f5, f6, hC.into], by rw [f3]; exact hC.b0, by rw [f8]; omega, f9, fun b2 b2' h2 h2' => ?_⟩
            rw [f1, f3] at h2
            rw [f1, f3] at h2'
            rw [hbe] at h2
            rw [hbg] at h2'
            injection h2 with h2; injection h2' with h2'
            subst h2; subst h2'
            rw [f1, f7, f8, hn, hn', ← hr, ← ht', ← hS]
            exact ⟨hth, by simp only [List.length_cons] at hexc; omega, f10⟩
          have hok1 := hok.ahead hc hbe hat
          have hm0 : ∀ q : SwT d L g ({ c with at_ := c.at_ + 1 } :: l) ({ c' with at_ := c'.at_ + 1 } :: l') → Prop, True := fun _ => trivial
          have mm : (m.top { c with at_ := c.at_ + 1 }).calls = { c with at_ := c.at_ + 1 } :: l := by simp [MRun.top, hc]
          have mm' : (m'.top { c' with at_ := c'.at_ + 1 }).calls = { c' with at_ := c'.at_ + 1 } :: l' := by simp [MRun.top, hc']
          exact sw_ins_at h (m := m.top { c with at_ := c.at_ + 1 }) (m' := m'.top { c' with at_ := c'.at_ + 1 }) hm.out hm.status hm.code hm.steps hm.arrays hm.inp mm mm' (insK_of hxo) (stepsS r S) hC.len (fun v v0 hv => hval v v0 id hv) key htail
        | drop _ _ _ hidle hth =>
          right
          obtain ⟨v, hv1, hv2⟩ := idle_ins hxo hidle (m.top { c with at_ := c.at_ + 1 }) { c with at_ := c.at_ + 1 }
          rw [hv1]
          refine ⟨⟨hm.out, hm.status, hm.code, hm.steps, hm.arrays, hm.inp, fun _ => ?_⟩, fun hne => ?_, fun hd1 => ?_⟩
          · show SwT d L g (MCall.put { c with at_ := c.at_ + 1 } x.d v :: (m.top { c with at_ := c.at_ + 1 }).calls.tail) m'.calls
            rw [hc']
            have ett : (m.top { c with at_ := c.at_ + 1 }).calls.tail = l := by simp [MRun.top, hc]
            rw [ett]
            refine ⟨⟨hC.flow, hC.block, hC.into, hC.b0, hC.at0, by simp [MCall.put, hC.len], fun b2 b2' h2 h2' => ?_⟩, htail⟩
            have h2a : c.flow.blocks[c.block.toNat]? = some b2 := h2
            have h2b : (g c.flow).blocks[c.block.toNat]? = some b2' := h2'
            rw [hbe] at h2a
            rw [hbg] at h2b
            injection h2a with h2a; injection h2b with h2b
            subst h2a; subst h2b
            show Thin (endS b.term (L c.flow)) (b.ins.drop (c.at_ + 1).toNat) _ ∧ (b.ins.drop (c.at_ + 1).toNat).length ≤ _ ∧ ∀ k, 0 ≤ k → ¬ False → stepsS (b.ins.drop (c.at_ + 1).toNat) (endS b.term (L c.flow)) k = true → c'.val k = (MCall.put { c with at_ := c.at_ + 1 } x.d v).val k
            rw [hn, ← hr, ← hr', ← hS]
            refine ⟨hth, by simp only [List.length_cons] at hexc; omega, fun k k0 _ hk => ?_⟩
            have hdK : hasD x.kind = true := by
              rcases hidle with ⟨e, _⟩ | ⟨e | e | e | ⟨e, _⟩, _⟩ <;> rw [e] <;> rfl
            have hxk := insK_of hxo
            obtain ⟨d0, d1⟩ := hxk.d hdK
            have hvl : x.d < (c.values.length : Int) := by rw [hco.vals]; exact d1
            rw [put_val (c := { c with at_ := c.at_ + 1 }) d0 hvl k0]
            by_cases e : k = x.d
            · rw [if_pos e, hv2 (by rw [← e]; exact hk), e]
              refine hval x.d d0 id ?_
              rw [stepsS_cons, stepS_iff]
              rw [e] at hk
              rcases hidle with ⟨e1, e2⟩ | ⟨_, e2⟩
              · left; rw [← e2]; exact sw_uses_a (by rw [e1]; rfl)
              · rw [hk] at e2; cases e2
            · rw [if_neg e]
              refine hval k k0 id ?_
              rw [stepsS_cons, stepS_iff]
              exact .inr ⟨fun e3 => e ((sets_iff x hxk.kind k).1 e3).2, hk⟩
          · have := hne c l c' l' b b' hc hc' hbe hbe'
            rw [hdrop, ← hr, ← hr'] at this
            have h3 := hth.le
            simp only [List.length_cons] at this
            omega
          · intro c2 l2 c2' l2' b2 b2' g1 g2 g3 g4
            have e1 : c2 = MCall.put { c with at_ := c.at_ + 1 } x.d v := by
              have : MCall.put { c with at_ := c.at_ + 1 } x.d v :: l = c2 :: l2 := by rw [← g1]; simp [MRun.top, hc]
              injection this with this _; exact this.symm
            have e2 : c2' = c' := by rw [hc'] at g2; injection g2 with g2 _; exact g2.symm
            subst e1; subst e2
            have g3' : c.flow.blocks[c.block.toNat]? = some b2 := g3
            rw [hbe] at g3'
            rw [hbe'] at g4
            injection g3' with g3'; injection g4 with g4
            subst g3'; subst g4
            show (b.ins.drop (c.at_ + 1).toNat).length ≤ _
            rw [hn, ← hr, ← hr']
            simp only [List.length_cons] at hexc
            omega
/-- so many steps: as many there, or fewer -/
theorem sw_runM (hu : UnitOk u) (hu' : UnitOk u') (h : UnitSw d u u' g L) : ∀ (K : Nat) {m m' : MRun}, SwM d L g m m' → MOk u m → MOk u' m' →
    ∃ j, j ≤ K ∧ SwM d L g (runM u K m) (runM u' j m') ∧ (d ≤ 1 → (runM u K m).status = 0 → K ≤ 2 * j + 1 ∧ (NoExc m m' → K ≤ 2 * j))
  | 0, m, m', hm, _, _ => ⟨0, Nat.le_refl _, hm, fun _ _ => ⟨by omega, fun _ => by omega⟩⟩
  | K + 1, m, m', hm, hok, hok' => by
    rw [runM_succ]
    by_cases h0 : m.status = 0
    · rw [if_pos h0]
      have hokr := hok.round hu
      have hokr' := hok'.round hu'
      have h0' : m'.status = 0 := by rw [hm.status]; exact h0
      obtain ⟨mp, hmp⟩ : ∃ mp, mp = { m with steps := m.steps + 1 } := ⟨_, rfl⟩
      have hms : ∀ s : Int, s ≤ m.steps + 1 → SwM d L g mp { m' with steps := s } := fun s hs => by
        rw [hmp]; exact ⟨hm.out, hm.status, hm.code, hs, hm.arrays, hm.inp, hm.calls⟩
      have okp : MOk u mp := by rw [hmp]; exact ⟨hok.calls, hok.linked, hok.deep, hok.ne, hok.names, hok.sizes, by have := hok.out; show (m.out.length : Int) ≤ m.steps + 1; omega⟩
      have okp' : MOk u' { m' with steps := m'.steps + 1 } := ⟨hok'.calls, hok'.linked, hok'.deep, hok'.ne, hok'.names, hok'.sizes, by have := hok'.out; show (m'.out.length : Int) ≤ m'.steps + 1; omega⟩
      have hstp := hm.steps
      rw [← hmp] at hokr ⊢
      have st : mp.status = 0 := by rw [hmp]; exact h0
      have ecalls : mp.calls = m.calls := by rw [hmp]
      rcases sw_step hu h (hms (m'.steps + 1) (by omega)) okp okp' st with hA | ⟨hB, hne, hd1⟩
      · obtain ⟨j, hj, h1, h2⟩ := sw_runM hu hu' h K hA hokr hokr'
        refine ⟨j + 1, by omega, ?_, fun hd hs => ?_⟩
        · rw [runM_succ, if_pos h0']; exact h1
        · have := (h2 hd hs).1
          exact ⟨by omega, fun _ => by omega⟩
      · have hB' : SwM d L g (stepM u mp) m' := ⟨hB.out, hB.status, hB.code, by rw [stepM_steps, hmp]; show m'.steps ≤ m.steps + 1; omega, hB.arrays, hB.inp, hB.calls⟩
        obtain ⟨j, hj, h1, h2⟩ := sw_runM hu hu' h K hB' hokr hok'
        refine ⟨j, by omega, h1, fun hd hs => ?_⟩
        have h3 := (h2 hd hs).2 (fun c l c' l' b b' g1 g2 => hd1 hd c l c' l' b b' g1 g2)
        exact ⟨by omega, fun hN => absurd (fun c l c' l' b b' g1 g2 => hN c l c' l' b b' (by rw [← ecalls]; exact g1) g2) hne⟩
    · rw [if_neg h0]
      exact ⟨0, by omega, hm, fun _ e => absurd e h0⟩
theorem sw_start (hu : UnitOk u) (h : UnitSw d u u' g L) (inp : List Int) : SwM d L g (startRun u inp) (startRun u' inp) := by
  obtain ⟨f, hf, hmem⟩ := main_find hu
  rw [startRun_eq hf, startRun_eq (h.find _ f hf)]
  refine ⟨rfl, rfl, rfl, Int.le_refl _, ?_, rfl, fun _ => ⟨SwC.new (h.sw f hmem) [] 0, trivial⟩⟩
  show zeroArrs u'.arrays = zeroArrs u.arrays
  rw [h.arrays]
/-- a run of the unit with idle instructions is one without them, of as many steps, or fewer -/
theorem sw_run (hu : UnitOk u) (hu' : UnitOk u') (h : UnitSw d u u' g L) (inp : List Int) (K : Nat) : ∃ j, j ≤ K ∧ SwM d L g (runU u inp K) (runU u' inp j) ∧ (d ≤ 1 → (runU u inp K).status = 0 → K ≤ 2 * j + 1) := by
  obtain ⟨j, h1, h2, h3⟩ := sw_runM hu hu' h K (sw_start hu h inp) (startRun_ok hu inp) (startRun_ok hu' inp)
  exact ⟨j, h1, h2, fun a b => (h3 a b).1⟩
end
/-- two runs of one unit, of which the one has ended: the other one, if it has ended, too, or has more steps, is the same -/
theorem run_same {u : LUnit} (inp : List Int) {a b : Nat} (ha : (runU u inp a).status ≠ 0) (hb : (runU u inp b).status ≠ 0 ∨ a ≤ b) : runU u inp b = runU u inp a := by
  rcases Nat.le_total a b with h | h
  · obtain ⟨c, rfl⟩ := Nat.le.dest h
    exact more_end u inp a c ha
  · rcases hb with hb | hb
    · obtain ⟨c, rfl⟩ := Nat.le.dest h
      exact (more_end u inp b c hb).symm
    · have : a = b := by omega
      rw [this]
/-- what Follows asks -/
def FollowsP (a b : MRun) : Prop := if a.status = 0 then a.out <+: b.out else b.status = a.status ∧ b.code = a.code ∧ b.out = a.out
/-- with twice as many steps, and more, the unit with idle instructions (one a block) follows the one without -/
theorem sw_follows {u u' : LUnit} {g : LFlow → LFlow} {L : LFlow → Nat → Int → Bool} (hu : UnitOk u) (hu' : UnitOk u') (h : UnitSw 1 u u' g L) (inp : List Int) (m : Nat) : FollowsP (runU u' inp m) (runU u inp (2 * m + 2)) := by
  obtain ⟨j, hj, hm, hd⟩ := sw_run hu hu' h inp (2 * m + 2)
  unfold FollowsP
  by_cases ha : (runU u' inp m).status = 0
  · rw [if_pos ha, ← hm.out]
    by_cases hjm : m ≤ j
    · obtain ⟨c, rfl⟩ := Nat.le.dest hjm
      obtain ⟨t, ht⟩ := more_out u' inp m c
      exact ⟨t, ht.symm⟩
    · by_cases hs : (runU u inp (2 * m + 2)).status = 0
      · have := hd (Nat.le_refl _) hs; omega
      · have hs' : (runU u' inp j).status ≠ 0 := by rw [hm.status]; exact hs
        have := run_same inp hs' (b := m) (.inr (by omega))
        rw [this]; exact List.prefix_refl _
  · rw [if_neg ha]
    by_cases hs : (runU u inp (2 * m + 2)).status = 0
    · have := hd (Nat.le_refl _) hs
      have h2 := run_same inp ha (b := j) (.inr (by omega))
      exfalso
      apply ha
      rw [← h2, hm.status]; exact hs
    · have h2 := run_same inp ha (b := j) (.inl (by rw [hm.status]; exact hs))
      rw [h2] at hm
      exact ⟨hm.status.symm, hm.code.symm, hm.out.symm⟩
/-- with as many steps the unit without idle instructions follows the one with them -/
theorem sw_followed {d : Nat} {u u' : LUnit} {g : LFlow → LFlow} {L : LFlow → Nat → Int → Bool} (hu : UnitOk u) (hu' : UnitOk u') (h : UnitSw d u u' g L) (inp : List Int) (n : Nat) : FollowsP (runU u inp n) (runU u' inp n) ∧ ((runU u inp n).status = 0 ∨ (runU u' inp n).steps ≤ (runU u inp n).steps) := by
  obtain ⟨j, hj, hm, _⟩ := sw_run hu hu' h inp n
  unfold FollowsP
  by_cases ha : (runU u inp n).status = 0
  · refine ⟨?_, .inl ha⟩
    rw [if_pos ha, ← hm.out]
    obtain ⟨c, rfl⟩ := Nat.le.dest hj
    obtain ⟨t, ht⟩ := more_out u' inp j c
    exact ⟨t, ht.symm⟩
  · have h1 : runU u' inp n = runU u' inp j := run_same inp (by rw [hm.status]; exact ha) (.inr hj)
    rw [if_neg ha, h1]
    exact ⟨⟨hm.status, hm.code, hm.out⟩, .inr hm.steps⟩
end Go.Proofs.YtknccacfhknnaaaGreat

namespace Go.Proofs.YtknccacfhknnaaaGreat

def numIns (v n : Int) : LIns := ⟨1, v, 0, 0, 0, n, ⟨#[]⟩, []⟩
def anyB (b : LBlock) (v n : Int) : LBlock := ⟨numIns v n :: b.ins, b.term⟩
def anyF (f : LFlow) (i : Nat) (b : LBlock) (v n : Int) : LFlow := { f with blocks := f.blocks.set i (anyB b v n) }
theorem fit_at {raw : List LBlock} {k : Nat} (hk : k < 3) : (fitU raw).flows[k]? = some (fitFl raw k) := by
  rw [fitU_flows]; rcases (by omega : k = 0 ∨ k = 1 ∨ k = 2) with rfl | rfl | rfl <;> rfl
theorem fit_uniq {raw : List LBlock} {k : Nat} (hk : k < 3) : ∀ h ∈ (fitU raw).flows, h.name = (fitFl raw k).name → h = fitFl raw k := fun h hh e => by
  have hf := fit_at (raw := raw) hk
  obtain ⟨j, hj, rfl⟩ := List.getElem_of_mem hh
  have hnd := fit_names_nodup raw
  have hkl : k < (fitU raw).flows.length := (List.getElem?_eq_some_iff.1 hf).1
  have e2 : ((fitU raw).flows.map (·.name))[j]'(by simpa using hj) = ((fitU raw).flows.map (·.name))[k]'(by simpa using hkl) := by
    rw [List.getElem_map, List.getElem_map, e, (List.getElem?_eq_some_iff.1 hf).2]
  have e3 : j = k := (List.getElem_inj hnd).1 e2
  subst e3
  exact (List.getElem?_eq_some_iff.1 hf).2
/-- one of the three functions made anew: the unit may be -/
theorem fit_swap (raw : List LBlock) {k : Nat} (hk : k < 3) {f' : LFlow} (hname : f'.name = (fitFl raw k).name) (hpar : f'.params = (fitFl raw k).params) (hnum : flowBad f' = false) (hlen : ∀ b ∈ f'.blocks, b.ins.length ≤ 1000) (hblk : ∀ b ∈ f'.blocks, blockBad (fitU raw) f' b = false) :
    UnitOk (mapU (swapF (fitFl raw k) f') (fitU raw)) ∧ (mapU (swapF (fitFl raw k) f') (fitU raw)).flows = (fitU raw).flows.set k f' := by
  have hok := unit_fit raw
  have key : ∀ f ∈ (fitU raw).flows, swapF (fitFl raw k) f' f = f ∨ (f = fitFl raw k ∧ swapF (fitFl raw k) f' f = f') := fun f hf => by
    by_cases e : f.name = (fitFl raw k).name
    · exact .inr ⟨fit_uniq hk f hf e, if_pos e⟩
    · exact .inl (if_neg e)
  refine ⟨unit_map hok (fun f hf => ?_) (fun f hf => ?_) (fun f hf => ?_) (fun f hf => ?_) fun f hf => ?_, swap_set (l := (fitU raw).flows) (fit_at hk) (fit_names_nodup raw)⟩
  · rcases key f hf with e | ⟨e, e2⟩
    · rw [e]
    · rw [e2, e]; exact hname
  · rcases key f hf with e | ⟨e, e2⟩
    · rw [e]
    · rw [e2, e]; exact hpar
  · rcases key f hf with e | ⟨e, e2⟩
    · rw [e]; exact hok.nums f hf
    · rw [e2]; exact hnum
  · rcases key f hf with e | ⟨e, e2⟩
    · rw [e]; exact hok.lens f hf
    · rw [e2]; exact hlen
  · rcases key f hf with e | ⟨e, e2⟩
    · rw [e]; intro b hb; have := hok.blocks f hf; rw [List.any_eq_false] at this; simpa using this b hb
    · rw [e2]; exact hblk
theorem insCount_le7 : ∀ {l : List LBlock} (_ : ∀ b ∈ l, b.ins.length ≤ 7), insCount l ≤ 7 * l.length
  | [], _ => Nat.le_refl _
  | b :: l, h => by
    have h1 := h b (by simp)
    have h2 := insCount_le7 (l := l) fun c hc => h c (by simp [hc])
    unfold insCount at h2 ⊢
    simp only [List.map_cons, List.sum_cons, List.length_cons]
    omega
theorem sw_same (f : LFlow) : SwL 1 (liveS f) f f :=
  ⟨rfl, rfl, rfl, rfl, liveS_pre f, fun i b b' h h' => by rw [h] at h'; injection h' with e; rw [e], fun i b b' h h' => by rw [h] at h'; injection h' with e; rw [e]; exact Thin.refl _ _, fun i b b' h h' => by rw [h] at h'; injection h' with e; rw [e]; omega⟩
theorem sw_any {f : LFlow} {i : Nat} {b : LBlock} (hb : f.blocks[i]? = some b) (v n : Int) (hl : liveS f i v = false) : SwL 1 (liveS f) (anyF f i b v n) f := by
  have hi : i < f.blocks.length := (List.getElem?_eq_some_iff.1 hb).1
  have hbe : f.blocks[i] = b := (List.getElem?_eq_some_iff.1 hb).2
  have hset : ∀ j c, (f.blocks.set i (anyB b v n))[j]? = some c → (j = i ∧ c = anyB b v n) ∨ (j ≠ i ∧ f.blocks[j]? = some c) := fun j c hc => by
    by_cases e : i = j
    · subst e
      rw [List.getElem?_set_self hi] at hc
      injection hc with hc
      exact .inl ⟨rfl, hc.symm⟩
    · rw [List.getElem?_set_ne e] at hc
      exact .inr ⟨Ne.symm e, hc⟩
  have same : ∀ j c c', (f.blocks.set i (anyB b v n))[j]? = some c → f.blocks[j]? = some c' → (c = anyB b v n ∧ c' = b) ∨ c = c' := fun j c c' hc hc' => by
    rcases hset j c hc with ⟨rfl, e⟩ | ⟨_, e⟩
    · rw [hb] at hc'; injection hc' with hc'; exact .inl ⟨e, hc'.symm⟩
    · rw [hc'] at e; injection e with e; exact .inr e.symm
  have hu : usesL (numIns v n) = [] := by unfold usesL numIns; rfl
  have hs : setsL (numIns v n) = [v] := by unfold setsL numIns; rfl
  refine ⟨rfl, rfl, rfl, by show f.blocks.length = (f.blocks.set i _).length; rw [List.length_set], fun j hj x hx => ?_, fun j c c' hc hc' => ?_, fun j c c' hc hc' => ?_, fun j c c' hc hc' => ?_⟩
  · have hj' : j < (f.blocks.set i (anyB b v n)).length := hj
    have hjf : j < f.blocks.length := by rw [List.length_set] at hj'; exact hj'
    have hx' : transS ((f.blocks.set i (anyB b v n))[j]) (liveS f) x = true := hx
    by_cases e : i = j
    · subst e
      rw [List.getElem_set_self] at hx'
      have h2 : stepS (stepsS b.ins (endS b.term (liveS f))) (numIns v n) x = true := hx'
      rw [stepS_iff, hu] at h2
      rcases h2 with h2 | ⟨_, h2⟩
      · cases h2
      · exact liveS_pre f i hjf x (by rw [hbe]; exact h2)
    · rw [List.getElem_set_ne e] at hx'
      exact liveS_pre f j hjf x hx'
  · rcases same j c c' hc hc' with ⟨e1, e2⟩ | e
    · rw [e1, e2]; rfl
    · rw [e]
  · rcases same j c c' hc hc' with ⟨e1, e2⟩ | e
    · rw [e1, e2]
      refine .drop _ _ _ (.inr ⟨.inl rfl, ?_⟩) (Thin.refl _ _)
      show transS b (liveS f) v = false
      rw [← hbe, ← liveS_eq f i hi]; exact hl
    · rw [e]; exact Thin.refl _ _
  · rcases same j c c' hc hc' with ⟨e1, e2⟩ | e
    · rw [e1, e2]; show (numIns v n :: b.ins).length ≤ _; simp
    · rw [e]; omega
/-- the unit that FlowAnything makes -/
theorem any_unit (raw : List LBlock) (k i : Nat) (hk : k < 3) (b : LBlock) (hb : (fitFl raw k).blocks[i]? = some b) (v n : Int) (h0 : 0 ≤ v) (h1 : v < 10) (hl : liveS (fitFl raw k) i v = false) :
    ∃ u : LUnit, u.arrays = (fitU raw).arrays ∧ u.flows = (fitU raw).flows.set k (anyF (fitFl raw k) i b v n) ∧ UnitOk u ∧ ∀ inp m, FollowsP (runU (fitU raw) inp m) (runU u inp (2 * m + 2)) := by
  have hok := unit_fit raw
  have hmem := List.mem_of_getElem? (fit_at (raw := raw) hk)
  have hbm := List.mem_of_getElem? hb
  have hle := fit_le raw k
  have hp := fit_pos raw k
  have hins : ∀ c ∈ (anyF (fitFl raw k) i b v n).blocks, c.ins.length ≤ 7 := fun c hc => by
    rcases List.mem_or_eq_of_mem_set (show c ∈ (fitFl raw k).blocks.set i (anyB b v n) from hc) with h1 | h1
    · have := fit_ins raw k c h1; omega
    · rw [h1]
      have := fit_ins raw k b hbm
      show (numIns v n :: b.ins).length ≤ 7
      simp only [List.length_cons]; omega
  have hcnt := insCount_le7 hins
  have hlen : (anyF (fitFl raw k) i b v n).blocks.length = (fitFl raw k).blocks.length := List.length_set
  have hfb : flowBad (anyF (fitFl raw k) i b v n) = false := by
    unfold flowBad
    refine decide_eq_false ?_
    show ¬ ((k : Int) < 0 ∨ (k : Int) > 6 ∨ (10 : Int) < (k : Int) ∨ (10 : Int) > 50000 ∨ (anyF (fitFl raw k) i b v n).blocks.length = 0 ∨ (anyF (fitFl raw k) i b v n).blocks.length > 20000 ∨ insCount (anyF (fitFl raw k) i b v n).blocks > 200000)
    omega
  have good : ∀ c ∈ (fitFl raw k).blocks, blockBad (fitU raw) (fitFl raw k) c = false := fun c hc => by
    have := hok.blocks _ hmem
    rw [List.any_eq_false] at this
    simpa using this c hc
  obtain ⟨h3, h4⟩ := fit_swap raw hk (f' := anyF (fitFl raw k) i b v n) rfl rfl hfb (fun c hc => by have := hins c hc; omega) fun c hc => by
    rcases List.mem_or_eq_of_mem_set (show c ∈ (fitFl raw k).blocks.set i (anyB b v n) from hc) with h5 | h5
    · have := good c h5
      unfold blockBad at this ⊢
      rw [hlen]; exact this
    · rw [h5]
      have := good b hbm
      unfold blockBad at this ⊢
      rw [hlen]
      show (!termOk (fitFl raw k).blocks.length (fitFl raw k).values b.term || (numIns v n :: b.ins).any (fun x => !insOk (fitU raw) (fitFl raw k).values x)) = false
      rw [List.any_cons]
      have hn : insOk (fitU raw) (fitFl raw k).values (numIns v n) = true := by
        show ((((((true && placeIf v 10 true) && placeIf 0 10 false) && placeIf 0 10 false) && true) && true) && true) = true
        rw [place_in ⟨h0, h1⟩]; rfl
      rw [hn]
      simpa using this
  refine ⟨mapU (swapF (fitFl raw k) (anyF (fitFl raw k) i b v n)) (fitU raw), rfl, h4, h3, fun inp m => ?_⟩
  have hback : ∀ s f, (mapU (swapF (fitFl raw k) (anyF (fitFl raw k) i b v n)) (fitU raw)).flows.find? (fun f => decide (f.name = s)) = some f → (fitU raw).flows.find? (fun f => decide (f.name = s)) = some (swapF (fitFl raw k) (fitFl raw k) f) := fun s f hf => by
    have hn : ∀ f ∈ (fitU raw).flows, (swapF (fitFl raw k) (anyF (fitFl raw k) i b v n) f).name = f.name := fun f hf => by
      unfold swapF
      split
      · rename_i e; exact e.symm
      · rfl
    have h5 := find_map s (fitU raw).flows hn
    rw [show (mapU (swapF (fitFl raw k) (anyF (fitFl raw k) i b v n)) (fitU raw)).flows = (fitU raw).flows.map (swapF (fitFl raw k) (anyF (fitFl raw k) i b v n)) from rfl, h5] at hf
    cases hg : (fitU raw).flows.find? (fun f => decide (f.name = s)) with
    | none => rw [hg] at hf; cases hf
    | some f0 =>
      rw [hg] at hf
      injection hf with hf
      have hm0 := List.mem_of_find?_eq_some hg
      rw [← hf]
      by_cases e : f0.name = (fitFl raw k).name
      · rw [fit_uniq hk f0 hm0 e]
        have e1 : swapF (fitFl raw k) (anyF (fitFl raw k) i b v n) (fitFl raw k) = anyF (fitFl raw k) i b v n := if_pos rfl
        rw [e1]
        have e2 : swapF (fitFl raw k) (fitFl raw k) (anyF (fitFl raw k) i b v n) = fitFl raw k := if_pos rfl
        rw [e2]
      · have e1 : swapF (fitFl raw k) (anyF (fitFl raw k) i b v n) f0 = f0 := if_neg e
        rw [e1]
        have e2 : swapF (fitFl raw k) (fitFl raw k) f0 = f0 := if_neg e
        rw [e2]
  have hsw : UnitSw 1 (mapU (swapF (fitFl raw k) (anyF (fitFl raw k) i b v n)) (fitU raw)) (fitU raw) (swapF (fitFl raw k) (fitFl raw k)) (fun f => if f.name = (fitFl raw k).name then liveS (fitFl raw k) else liveS f) := by
    refine ⟨hback, fun f hf => ?_, rfl⟩
    obtain ⟨f0, hf0, rfl⟩ := List.mem_map.1 (show f ∈ (fitU raw).flows.map (swapF (fitFl raw k) (anyF (fitFl raw k) i b v n)) from hf)
    by_cases e : f0.name = (fitFl raw k).name
    · have e1 : swapF (fitFl raw k) (anyF (fitFl raw k) i b v n) f0 = anyF (fitFl raw k) i b v n := if_pos e
      rw [e1]
      have e2 : swapF (fitFl raw k) (fitFl raw k) (anyF (fitFl raw k) i b v n) = fitFl raw k := if_pos rfl
      rw [e2, if_pos (show (anyF (fitFl raw k) i b v n).name = (fitFl raw k).name from rfl)]
      exact sw_any hb v n hl
    · have e1 : swapF (fitFl raw k) (anyF (fitFl raw k) i b v n) f0 = f0 := if_neg e
      rw [e1]
      have e2 : swapF (fitFl raw k) (fitFl raw k) f0 = f0 := if_neg e
      rw [e2, if_neg e]
      exact sw_same f0
  exact sw_follows h3 hok hsw inp m
end Go.Proofs.YtknccacfhknnaaaGreat

namespace Go.Proofs.YtknccacfhknnaaaGreat

/-- where block k goes, among n; where value k goes, of a function of p params and 10 values -/
def blN (n by_ k : Nat) : Nat := if k = 0 ∨ n < 2 then k else 1 + (k - 1 + by_) % (n - 1)
def vaN (p t k : Nat) : Nat := if k < p then k else p + (k - p + t) % (10 - p)
theorem blN_lt {n by_ k : Nat} (h : k < n) : blN n by_ k < n := by
  unfold blN
  by_cases e : k = 0 ∨ n < 2
  · rw [if_pos e]; exact h
  · rw [if_neg e]
    have := Nat.mod_lt (k - 1 + by_) (show 0 < n - 1 by omega)
    omega
theorem blN_onto {n by_ : Nat} (hn : n < 9) (hb : by_ < 8) {j : Nat} (hj : j < n) : ∃ i, i < n ∧ blN n by_ i = j := by
  have key : ∀ n : Fin 9, ∀ b : Fin 8, ∀ j : Fin 8, j.val < n.val → ∃ i : Fin 8, i.val < n.val ∧ blN n.val b.val i.val = j.val := by decide +kernel
  obtain ⟨i, h1, h2⟩ := key ⟨n, hn⟩ ⟨by_, hb⟩ ⟨j, by omega⟩ hj
  exact ⟨i.val, h1, h2⟩
theorem blN_inj {n by_ : Nat} (hn : n < 9) (hb : by_ < 8) {i j : Nat} (hi : i < n) (hj : j < n) (h : blN n by_ i = blN n by_ j) : i = j := by
  have key : ∀ n : Fin 9, ∀ b : Fin 8, ∀ i : Fin 8, ∀ j : Fin 8, i.val < n.val → j.val < n.val → blN n.val b.val i.val = blN n.val b.val j.val → i = j := by decide +kernel
  have := key ⟨n, hn⟩ ⟨by_, hb⟩ ⟨i, by omega⟩ ⟨j, by omega⟩ hi hj h
  exact Fin.val_eq_of_eq this
theorem vaN_lt {p t k : Nat} (hp : p < 3) (hk : k < 10) : vaN p t k < 10 := by
  unfold vaN
  by_cases e : k < p
  · rw [if_pos e]; exact hk
  · rw [if_neg e]
    have := Nat.mod_lt (k - p + t) (show 0 < 10 - p by omega)
    omega
theorem vaN_inj {p t : Nat} (hp : p < 3) (ht : t < 8) {i j : Nat} (hi : i < 10) (hj : j < 10) (h : vaN p t i = vaN p t j) : i = j := by
  have key : ∀ p : Fin 3, ∀ t : Fin 8, ∀ i : Fin 10, ∀ j : Fin 10, vaN p.val t.val i.val = vaN p.val t.val j.val → i = j := by decide +kernel
  exact Fin.val_eq_of_eq (key ⟨p, hp⟩ ⟨t, ht⟩ ⟨i, hi⟩ ⟨j, hj⟩ h)
def turnR (n p by_ t : Nat) : Renum := ⟨fun k => 0 ≤ k ∧ k < (n : Int), fun k => (blN n by_ k.toNat : Int), fun k => (vaN p t k.toNat : Int)⟩
/-- the blocks bs are f's, turned -/
structure TurnedL (l : List LBlock) (p by_ t : Nat) (bs : List LBlock) : Prop where
  len : bs.length = l.length
  at_ : ∀ (i : Nat) (h : i < l.length), bs[blN l.length by_ i]? = some (renBlock (turnR l.length p by_ t) l[i])
theorem turned_mem {l : List LBlock} {p by_ t : Nat} {bs : List LBlock} (h : TurnedL l p by_ t bs) (hn : l.length < 9) (hb : by_ < 8) : ∀ b ∈ bs, ∃ c ∈ l, b = renBlock (turnR l.length p by_ t) c := fun b hb' => by
  obtain ⟨j, hj, rfl⟩ := List.getElem_of_mem hb'
  obtain ⟨i, hi, e⟩ := blN_onto hn hb (by rw [← h.len]; exact hj : j < l.length)
  have := h.at_ i hi
  rw [e, List.getElem?_eq_getElem hj] at this
  injection this with this
  exact ⟨l[i], List.getElem_mem hi, this⟩
section
variable {n p by_ t : Nat}
theorem turn_va (hp : p < 3) {k : Int} (h0 : 0 ≤ k) (h1 : k < 10) : 0 ≤ (turnR n p by_ t).va k ∧ (turnR n p by_ t).va k < 10 := by
  have := vaN_lt (t := t) hp (show k.toNat < 10 by omega)
  show 0 ≤ ((vaN p t k.toNat : Nat) : Int) ∧ ((vaN p t k.toNat : Nat) : Int) < 10
  omega
theorem turn_bl {k : Int} (h0 : 0 ≤ k) (h1 : k < (n : Int)) : 0 ≤ (turnR n p by_ t).bl k ∧ (turnR n p by_ t).bl k < (n : Int) := by
  have := blN_lt (by_ := by_) (show k.toNat < n by omega)
  show 0 ≤ ((blN n by_ k.toNat : Nat) : Int) ∧ ((blN n by_ k.toNat : Nat) : Int) < (n : Int)
  omega
theorem placeIf_iff {n top : Int} {is : Bool} : placeIf n top is = true ↔ (if is = true then 0 ≤ n ∧ n < top else n = 0) := by
  unfold placeIf; cases is <;> simp
theorem place_turn (hp : p < 3) {k : Int} {is : Bool} (h : placeIf k 10 is = true) : placeIf (if is = true then (turnR n p by_ t).va k else k) 10 is = true := by
  cases is with
  | false => exact h
  | true =>
    have h := placeIf_iff.1 h
    exact placeIf_iff.2 (turn_va hp h.1 h.2)
theorem ins_turn {u : LUnit} (hp : p < 3) {x : LIns} (h : insOk u 10 x = true) : insOk u 10 (renIns (turnR n p by_ t) x) = true := by
  unfold insOk at h ⊢
  simp only [Bool.and_eq_true] at h ⊢
  obtain ⟨⟨⟨⟨⟨⟨h1, h2⟩, h3⟩, h4⟩, h5⟩, h6⟩, h7⟩ := h
  refine ⟨⟨⟨⟨⟨⟨h1, place_turn hp h2⟩, place_turn hp h3⟩, place_turn hp h4⟩, h5⟩, h6⟩, ?_⟩
  unfold namedOk at h7 ⊢
  show (if x.kind = 5 ∨ x.kind = 6 then decide ((x.args.map _).length = 0) && u.arrays.any (fun a => decide (a.1 = x.name)) else if x.kind = 9 then callOk u 10 x.name (x.args.map (turnR n p by_ t).va) else decide (x.name = ⟨#[]⟩) && decide ((x.args.map _).length = 0)) = true
  rw [List.length_map]
  by_cases e1 : x.kind = 5 ∨ x.kind = 6
  · rw [if_pos e1] at h7 ⊢; exact h7
  · rw [if_neg e1] at h7 ⊢
    by_cases e2 : x.kind = 9
    · rw [if_pos e2] at h7 ⊢
      unfold callOk at h7 ⊢
      cases hg : u.flows.find? (fun f => decide (f.name = x.name)) with
      | none => rw [hg] at h7; cases h7
      | some g9 =>
        rw [hg] at h7
        simp only [Bool.and_eq_true, decide_eq_true_eq, Bool.not_eq_true', List.any_eq_false] at h7 ⊢
        refine ⟨by rw [List.length_map]; exact h7.1, fun q hq => ?_⟩
        obtain ⟨a, ha, rfl⟩ := List.mem_map.1 hq
        have h8 := h7.2 a ha
        have h9 : placeIf a 10 true = true := by simpa using h8
        have := place_turn (n := n) (by_ := by_) (t := t) hp h9
        rw [if_pos rfl] at this
        rw [this]; decide
    · rw [if_neg e2] at h7 ⊢
      exact h7
theorem term_turn (hp : p < 3) {x : LTerm} (h : termOk n 10 x = true) : termOk n 10 (renTerm (turnR n p by_ t) x) = true := by
  have hk := termK_of h
  unfold termOk at h ⊢
  simp only [Bool.and_eq_true] at h ⊢
  obtain ⟨⟨⟨h1, h2⟩, h3⟩, h4⟩ := h
  refine ⟨⟨⟨h1, ?_⟩, ?_⟩, ?_⟩
  · show placeIf (if x.kind = 1 then x.a else (turnR n p by_ t).va x.a) 10 (decide (x.kind ≠ 1)) = true
    by_cases e : x.kind = 1
    · rw [if_pos e]; exact h2
    · have d : decide (x.kind ≠ 1) = true := decide_eq_true e
      rw [if_neg e, d]
      have := hk.a e
      exact placeIf_iff.2 (turn_va hp this.1 this.2)
  · show placeIf (if x.kind = 1 ∨ x.kind = 2 then (turnR n p by_ t).bl x.to else x.to) n (decide (x.kind = 1 ∨ x.kind = 2)) = true
    by_cases e : x.kind = 1 ∨ x.kind = 2
    · have d : decide (x.kind = 1 ∨ x.kind = 2) = true := decide_eq_true e
      rw [if_pos e, d]
      have := hk.dest e
      exact placeIf_iff.2 (turn_bl this.1 this.2)
    · rw [if_neg e]; exact h3
  · show placeIf (if x.kind = 2 then (turnR n p by_ t).bl x.els else x.els) n (decide (x.kind = 2)) = true
    by_cases e : x.kind = 2
    · have d : decide (x.kind = 2) = true := decide_eq_true e
      rw [if_pos e, d]
      have := hk.els e
      exact placeIf_iff.2 (turn_bl this.1 this.2)
    · rw [if_neg e]; exact h4
end
/-- a function of Fit's, turned -/
def turnF (f : LFlow) (bs : List LBlock) : LFlow := { f with blocks := bs }
theorem turn_ren {raw : List LBlock} {k by_ t : Nat} {bs : List LBlock} (hk : k < 3) (ht : t < 8) (h : TurnedL (fitFl raw k).blocks k by_ t bs) : RenOk (fitFl raw k) (turnF (fitFl raw k) bs) (turnR (fitFl raw k).blocks.length k by_ t) := by
  have hle := fit_le raw k
  have hpos := fit_pos raw k
  have hok := unit_fit raw
  have hmem := List.mem_of_getElem? (fit_at (raw := raw) hk)
  refine ⟨rfl, rfl, rfl, ⟨by omega, by show (0 : Int) < ((fitFl raw k).blocks.length : Int); omega⟩, rfl, fun j b hj hjb => ?_, fun j b hj hjb hkd => ?_, fun j b hj hjb hkd => ?_, fun j h0 h1 => ?_, fun i j i0 i1 j0 j1 e => ?_, fun j h0 h1 => ?_⟩
  · have hlt : j.toNat < (fitFl raw k).blocks.length := (List.getElem?_eq_some_iff.1 hjb).1
    have := h.at_ j.toNat hlt
    rw [(List.getElem?_eq_some_iff.1 hjb).2] at this
    show bs[((blN (fitFl raw k).blocks.length by_ j.toNat : Nat) : Int).toNat]? = _
    rw [Int.toNat_natCast]
    exact this
  · have hx := block_ok hok hmem (List.mem_of_getElem? hjb)
    exact (termK_of hx.1).dest hkd
  · have hx := block_ok hok hmem (List.mem_of_getElem? hjb)
    exact (termK_of hx.1).els hkd
  · exact turn_va hk h0 h1
  · have i1' : i < 10 := i1
    have j1' : j < 10 := j1
    have e' : ((vaN k t i.toNat : Nat) : Int) = ((vaN k t j.toNat : Nat) : Int) := e
    have := vaN_inj hk ht (i := i.toNat) (j := j.toNat) (by omega) (by omega) (by omega)
    omega
  · have h1' : j < (k : Int) := h1
    show ((vaN k t j.toNat : Nat) : Int) = j
    unfold vaN
    rw [if_pos (by omega)]
    omega
theorem fits3 (raw : List LBlock) {P : LFlow → Prop} (h : ∀ k, k < 3 → P (fitFl raw k)) : ∀ f ∈ (fitU raw).flows, P f := fun f hf => by
  rw [fitU_flows] at hf
  simp only [List.mem_cons, List.not_mem_nil, or_false] at hf
  rcases hf with rfl | rfl | rfl
  · exact h 0 (by omega)
  · exact h 1 (by omega)
  · exact h 2 (by omega)
/-- the unit that IrrunTurned makes: it may be, and runs alike -/
theorem turn_unit (raw : List LBlock) (by_ t : Nat) (hb : by_ < 8) (ht : t < 8) (bs0 bs1 bs2 : List LBlock) (h0 : TurnedL (fitFl raw 0).blocks 0 by_ t bs0) (h1 : TurnedL (fitFl raw 1).blocks 1 by_ t bs1) (h2 : TurnedL (fitFl raw 2).blocks 2 by_ t bs2) :
    ∃ u : LUnit, u.arrays = (fitU raw).arrays ∧ u.flows = [turnF (fitFl raw 0) bs0, turnF (fitFl raw 1) bs1, turnF (fitFl raw 2) bs2] ∧ UnitOk u ∧ ∀ inp n, (runU u inp n).status = (runU (fitU raw) inp n).status ∧ (runU u inp n).code = (runU (fitU raw) inp n).code ∧ (runU u inp n).out = (runU (fitU raw) inp n).out ∧ (runU u inp n).steps = (runU (fitU raw) inp n).steps := by
  have hok := unit_fit raw
  obtain ⟨n01, n02, n12, _⟩ := s_ne
  have g1 : ¬ (fitFl raw 1).name = sMain := fun e => n01 e.symm
  have g2 : ¬ (fitFl raw 2).name = sMain := fun e => n02 e.symm
  have g3 : ¬ (fitFl raw 2).name = sF := fun e => n12 e.symm
  obtain ⟨bs, hbs⟩ : ∃ bs : LFlow → List LBlock, bs = fun f => if f.name = sMain then bs0 else if f.name = sF then bs1 else bs2 := ⟨_, rfl⟩
  have e0 : bs (fitFl raw 0) = bs0 := by rw [hbs]; exact if_pos rfl
  have e1 : bs (fitFl raw 1) = bs1 := by rw [hbs]; exact (if_neg g1).trans (if_pos rfl)
  have e2 : bs (fitFl raw 2) = bs2 := by rw [hbs]; exact (if_neg g2).trans (if_neg g3)
  have hT : ∀ k, k < 3 → TurnedL (fitFl raw k).blocks k by_ t (bs (fitFl raw k)) := fun k hk => by
    rcases (by omega : k = 0 ∨ k = 1 ∨ k = 2) with rfl | rfl | rfl
    · rw [e0]; exact h0
    · rw [e1]; exact h1
    · rw [e2]; exact h2
  refine ⟨mapU (fun f => turnF f (bs f)) (fitU raw), rfl, ?_, ?_, fun inp n => ?_⟩
  · show ((fitU raw).flows.map fun f => turnF f (bs f)) = _
    rw [fitU_flows, List.map_cons, List.map_cons, List.map_cons, List.map_nil, e0, e1, e2]
  · refine unit_map hok (fun _ _ => rfl) (fun _ _ => rfl) (fits3 raw fun k hk => ?_) (fits3 raw fun k hk => ?_) (fits3 raw fun k hk => ?_)
    · have hle := fit_le raw k
      have hp := fit_pos raw k
      have hl := (hT k hk).len
      have hins : ∀ c ∈ bs (fitFl raw k), c.ins.length ≤ 6 := fun c hc => by
        obtain ⟨d, hd, rfl⟩ := turned_mem (hT k hk) (by omega) hb c hc
        have := fit_ins raw k d hd
        simpa [renBlock] using this
      have hcnt := insCount_le6 hins
      unfold flowBad
      refine decide_eq_false ?_
      show ¬ ((k : Int) < 0 ∨ (k : Int) > 6 ∨ (10 : Int) < (k : Int) ∨ (10 : Int) > 50000 ∨ (bs (fitFl raw k)).length = 0 ∨ (bs (fitFl raw k)).length > 20000 ∨ insCount (bs (fitFl raw k)) > 200000)
      omega
    · intro b hb'
      have hle := fit_le raw k
      obtain ⟨d, hd, rfl⟩ := turned_mem (hT k hk) (by omega) hb b hb'
      have := fit_ins raw k d hd
      show (d.ins.map _).length ≤ 1000
      rw [List.length_map]; omega
    · intro b hb'
      have hle := fit_le raw k
      obtain ⟨d, hd, rfl⟩ := turned_mem (hT k hk) (by omega) hb b hb'
      have hx := block_ok hok (List.mem_of_getElem? (fit_at (raw := raw) hk)) hd
      unfold blockBad
      rw [Bool.or_eq_false_iff]
      constructor
      · show (!termOk (bs (fitFl raw k)).length 10 (renTerm _ d.term)) = false
        rw [(hT k hk).len, term_turn hk hx.1]; rfl
      · show (d.ins.map _).any (fun x => !insOk (fitU raw) 10 x) = false
        rw [List.any_eq_false]
        intro y hy
        obtain ⟨x, hx2, rfl⟩ := List.mem_map.1 hy
        rw [ins_turn hk (hx.2 x hx2)]; decide
  · have hr : UnitRen (fitU raw) (fun f => turnF f (bs f)) (fun f => turnR f.blocks.length f.params.toNat by_ t) := ⟨fits3 raw fun k hk => turn_ren hk ht (hT k hk)⟩
    have h := ren_run hok hr inp n
    exact ⟨h.status, h.code, h.out, h.steps⟩
end Go.Proofs.YtknccacfhknnaaaGreat
