/- A unit that is folded does what it did, step by step. -/
import Derived.Test.YtnpnhdmfdhnmfaaGreatDoorFoldLaws
import Derived.Test.YtnpnhdmfdhnmfaaGreatDoorRunRun
namespace Go.Proofs.YtnpnhdmfdhnmfaaGreatDoor

theorem rput_val {c : MCall} {d v : Int} {k : Int} (h0 : 0 ≤ d) (h1 : d < (c.values.length : Int)) (k0 : 0 ≤ k) : (c.put d v).val k = if k = d then v else c.val k := by
  show (c.values.set d.toNat v).getD k.toNat 0 = _
  by_cases e : k = d
  · subst e; rw [if_pos rfl]
    have h : k.toNat < c.values.length := by omega
    simp [List.getD, h]
  · rw [if_neg e]
    have h : d.toNat ≠ k.toNat := by omega
    simp [List.getD, List.getElem?_set_ne h]; rfl
/-! ### a run of what was folded -/
/-- what is known is so -/
def Holds (E : Env) (c : MCall) : Prop := (∀ k n, E k = some (.num n) → c.val k = n) ∧ (∀ k o, E k = some (.val o) → c.val k = c.val o)
/-- what is known where a call goes on -/
def envAt (c : MCall) : Env := match c.flow.blocks[c.block.toNat]? with
  | some b => envE E0 (b.ins.take c.at_.toNat)
  | none => E0
def foldC (c : MCall) : MCall := { c with flow := flowE c.flow }
def foldM (m : MRun) : MRun := { m with calls := m.calls.map foldC }
/-- what is known is so in each call that waits, as soon as what it waits for is put -/
def HoldsR : Int → List MCall → Prop
  | _, [] => True
  | n, c :: r => (∀ v, Holds (envAt c) (c.put n v)) ∧ HoldsR c.into r
def HoldsT : List MCall → Prop
  | [] => True
  | c :: r => Holds (envAt c) c ∧ HoldsR c.into r
theorem holds0 (c : MCall) : Holds E0 c := ⟨fun _ _ h => by simp [E0] at h, fun _ _ h => by simp [E0] at h⟩
theorem val_fold {E : Env} {c : MCall} (h : Holds E c) (k : Int) : c.val (valueE E k) = c.val k := by
  rcases valueE_cases E k with ⟨o, h1, h2⟩ | ⟨_, h2⟩
  · rw [h2]; exact (h.2 k o h1).symm
  · rw [h2]
theorem num_fold {E : Env} {c : MCall} (h : Holds E c) {k : Int} (hn : isNum (E k) = true) : c.val k = numOf (E k) := by
  cases e : E k with
  | none => rw [e] at hn; cases hn
  | some f =>
    cases f with
    | num n => exact h.1 k n e
    | val o => rw [e] at hn; cases hn
theorem Holds.forget {vals : Int} {E : Env} {c : MCall} (h : Holds E c) (hE : EnvK vals E) (hl : (c.values.length : Int) = vals) {d : Int} (hd : 0 ≤ d ∧ d < vals) (v : Int) : Holds (forgetE E d) (c.put d v) := by
  have key : ∀ k f, forgetE E d k = some f → E k = some f ∧ k ≠ d ∧ f ≠ .val d := fun k f e => by
    have hv := forget_val E d k
    have h0 : k ≠ d := fun e2 => by subst e2; rw [forget_none] at e; cases e
    refine ⟨?_, h0, fun e2 => by subst e2; exact hv e⟩
    unfold forgetE at e
    rw [if_neg h0] at e
    split at e
    · cases e
    · exact e
  refine ⟨fun k n e => ?_, fun k o e => ?_⟩
  · obtain ⟨e1, e2, _⟩ := key k _ e
    have hk := hE.keys k (by rw [e1]; rfl)
    rw [rput_val hd.1 (by omega) hk.1, if_neg e2]
    exact h.1 k n e1
  · obtain ⟨e1, e2, e3⟩ := key k _ e
    have hk := hE.keys k (by rw [e1]; rfl)
    have ho := hE.vals k o e1
    have hod : o ≠ d := fun e4 => e3 (by rw [e4])
    rw [rput_val hd.1 (by omega) hk.1, if_neg e2, rput_val hd.1 (by omega) ho.1, if_neg hod]
    exact h.2 k o e1
theorem Holds.put_num {vals : Int} {E : Env} {c : MCall} (h : Holds E c) (hE : EnvK vals E) (hl : (c.values.length : Int) = vals) {d : Int} (hd : 0 ≤ d ∧ d < vals) (v : Int) : Holds (putE (forgetE E d) d (.num v)) (c.put d v) := by
  have hf := h.forget hE hl hd v
  refine ⟨fun k n e => ?_, fun k o e => ?_⟩
  · unfold putE at e
    split at e
    · rename_i e1
      injection e with e; injection e with e
      rw [e1, rput_val hd.1 (by omega) hd.1, if_pos rfl, e]
    · exact hf.1 k n e
  · unfold putE at e
    split at e
    · cases e
    · exact hf.2 k o e
theorem Holds.put_val {vals : Int} {E : Env} {c : MCall} (h : Holds E c) (hE : EnvK vals E) (hl : (c.values.length : Int) = vals) {d a : Int} (hd : 0 ≤ d ∧ d < vals) (ha : 0 ≤ a ∧ a < vals) (hne : a ≠ d) : Holds (putE (forgetE E d) d (.val a)) (c.put d (c.val a)) := by
  have hf := h.forget hE hl hd (c.val a)
  refine ⟨fun k n e => ?_, fun k o e => ?_⟩
  · unfold putE at e
    split at e
    · cases e
    · exact hf.1 k n e
  · unfold putE at e
    split at e
    · rename_i e1
      injection e with e; injection e with e
      rw [← e, e1, rput_val hd.1 (by omega) hd.1, if_pos rfl, rput_val hd.1 (by omega) ha.1, if_neg hne]
    · exact hf.2 k o e
theorem Holds.same {vals : Int} {E : Env} {c : MCall} (h : Holds E c) (hE : EnvK vals E) (hl : (c.values.length : Int) = vals) {d : Int} (hd : 0 ≤ d ∧ d < vals) : Holds E (c.put d (c.val d)) := by
  have key : ∀ k, 0 ≤ k → (c.put d (c.val d)).val k = c.val k := fun k hk => by
    rw [rput_val hd.1 (by omega) hk]
    split
    · rename_i e; rw [e]
    · rfl
  refine ⟨fun k n e => ?_, fun k o e => ?_⟩
  · rw [key k (hE.keys k (by rw [e]; rfl)).1]; exact h.1 k n e
  · rw [key k (hE.keys k (by rw [e]; rfl)).1, key o (hE.vals k o e).1]; exact h.2 k o e

/-! #### a step -/
theorem fold_find (s : ByteArray) (u : LUnit) : (foldE u).flows.find? (fun f => decide (f.name = s)) = (u.flows.find? (fun f => decide (f.name = s))).map flowE :=
  find_map s u.flows fun _ _ => rfl
theorem foldC_new (f : LFlow) (args : List Int) (into : Int) : foldC (newCall f args into) = newCall (flowE f) args into := rfl
theorem foldM_top (m : MRun) (c : MCall) : (foldM m).top (foldC c) = foldM (m.top c) := by
  unfold foldM MRun.top
  simp [List.map_tail]
theorem foldM_stop (m : MRun) (s co : Int) : (foldM m).stop s co = foldM (m.stop s co) := rfl
theorem foldM_push (u : LUnit) (m : MRun) (s : ByteArray) (args : List Int) (into : Int) : (foldM m).push (foldE u) s args into = foldM (m.push u s args into) := by
  unfold MRun.push
  rw [fold_find]
  cases u.flows.find? (fun f => decide (f.name = s)) with
  | none => rfl
  | some f => rfl
theorem foldM_pop (m : MRun) (into n : Int) : (foldM m).pop into n = foldM (m.pop into n) := by
  unfold MRun.pop foldM
  rw [← List.map_tail]
  cases m.calls.tail with
  | nil => rfl
  | cons c r => rfl
theorem fold_block {f : LFlow} {k : Nat} : (flowE f).blocks[k]? = (f.blocks[k]?).map blockE := by
  show (f.blocks.map blockE)[k]? = _
  rw [List.getElem?_map]
/-- the same instruction there, or what is known of it -/
theorem insM_fold {u : LUnit} {m : MRun} {c : MCall} {E : Env} (h : Holds E c) {vals : Int} {x : LIns} (hx : InsK u vals x) : insM (foldE u) (foldM m) (foldC c) (insE E x) = foldM (insM u m c x) := by
  have hval : ∀ k, (foldC c).val k = c.val k := fun _ => rfl
  have hput : ∀ d v, (foldC c).put d v = foldC (c.put d v) := fun _ _ => rfl
  have harr : ∀ s, (foldM m).arr s = m.arr s := fun _ => rfl
  have hA : ∀ x : LIns, hasA x.kind = true → c.val (subE E x).a = c.val x.a := fun x h1 => by rw [subE_a E x h1, val_fold h]
  have hB : ∀ x : LIns, hasB x.kind = true → c.val (subE E x).b = c.val x.b := fun x h1 => by rw [subE_b E x h1, val_fold h]
  rcases insE_or E x with ⟨hk, e⟩ | ⟨hk, e⟩
  · rw [e, insM_1 rfl]
    show (foldM m).top ((foldC c).put x.d (knownN E (subE E x))) = _
    rw [hput, foldM_top]
    congr 1
    have hkk := isKnown_kind hk
    rw [subE_kind] at hkk
    have haN := num_fold h hkk.2
    have hax : hasA x.kind = true := (hasA_iff _).2 (by omega)
    rw [hA x hax] at haN
    unfold isKnown at hk
    unfold knownN
    rw [if_pos hkk.2] at hk ⊢
    rw [subE_kind] at hk ⊢
    rw [← haN]
    rcases hkk.1 with k2 | k3 | k4
    · rw [if_pos k2, insM_2 k2]
    · rw [if_neg (by omega), if_pos k3, insM_3 k3, (subE_rest E x).1]
    · rw [if_neg (by omega), if_neg (by omega), if_pos k4] at hk ⊢
      split at hk
      · rename_i hbn
        rw [if_pos hbn]
        have hbN := num_fold h hbn
        rw [hB x ((hasB_iff _).2 (by omega))] at hbN
        rw [← hbN, (subE_rest E x).1] at hk ⊢
        rw [insM_4 k4, if_pos hk]
      · cases hk
  · rw [e]
    have hkd := subE_kind E x
    have hd := subE_d E x
    obtain ⟨r1, r2, r3⟩ := subE_rest E x
    have hkinds : x.kind = 1 ∨ x.kind = 2 ∨ x.kind = 3 ∨ x.kind = 4 ∨ x.kind = 5 ∨ x.kind = 6 ∨ x.kind = 7 ∨ x.kind = 8 ∨ x.kind = 9 := by have := hx.kind; omega
    have hAx : x.kind = 2 ∨ x.kind = 3 ∨ x.kind = 4 ∨ x.kind = 5 ∨ x.kind = 6 ∨ x.kind = 8 → c.val (subE E x).a = c.val x.a := fun e => hA x ((hasA_iff _).2 e)
    have hBx : x.kind = 4 ∨ x.kind = 6 → c.val (subE E x).b = c.val x.b := fun e => hB x ((hasB_iff _).2 e)
    rcases hkinds with k | k | k | k | k | k | k | k | k
    · rw [insM_1 k, insM_1 (hkd.trans k), hput, foldM_top, hd, r2]
    · rw [insM_2 k, insM_2 (hkd.trans k), hput, foldM_top, hd, hval, hAx (by omega)]
    · rw [insM_3 k, insM_3 (hkd.trans k), hput, foldM_top, hd, hval, hAx (by omega), r1]
    · rw [insM_4 k, insM_4 (hkd.trans k), hput, foldM_top, hd, hval, hval, hAx (by omega), hBx (by omega), r1, foldM_stop]
      split <;> rfl
    · rw [insM_5 k, insM_5 (hkd.trans k), hput, foldM_top, hd, hval, hAx (by omega), r3, harr, foldM_stop]
      split <;> rfl
    · rw [insM_6 k, insM_6 (hkd.trans k), hval, hval, hAx (by omega), hBx (by omega), r3, harr, foldM_stop]
      split <;> rfl
    · rw [insM_7 k, insM_7 (hkd.trans k), hput, foldM_top, hd]; rfl
    · rw [insM_8 k, insM_8 (hkd.trans k), hval, hAx (by omega)]; rfl
    · rw [insM_9 k, insM_9 (hkd.trans k), subE_args9 E x k, r3, hd, foldM_push, foldM_stop]
      have hmap : (x.args.map (valueE E)).map (foldC c).val = x.args.map c.val := by
        rw [List.map_map]
        exact List.map_congr_left fun n _ => val_fold h n
      rw [hmap]
      have hlen : (foldM m).calls.length = m.calls.length := List.length_map _
      rw [hlen]
      split <;> rfl
theorem termM_fold {m : MRun} {c : MCall} {E : Env} (h : Holds E c) (t : LTerm) : termM (foldM m) (foldC c) (termE E t) = foldM (termM m c t) := by
  have hval : ∀ k, (foldC c).val k = c.val k := fun _ => rfl
  rcases termE_or E t with ⟨h1, e⟩ | ⟨h2, hn, e⟩ | ⟨h1, h2, e⟩ <;> rw [e]
  · rw [termM_1 h1, termM_1 h1]
    exact foldM_top m { c with at_ := 0, block := t.to }
  · rw [termM_1 rfl, termM_2 h2]
    have hv := num_fold h hn
    rw [val_fold h] at hv
    rw [← hv]
    have := foldM_top m { c with at_ := 0, block := if c.val t.a ≠ 0 then t.to else t.els }
    rw [← this]
    show (foldM m).top { foldC c with at_ := 0, block := if c.val t.a = 0 then t.els else t.to } = (foldM m).top { foldC c with at_ := 0, block := if c.val t.a ≠ 0 then t.to else t.els }
    congr 2
    by_cases h0 : c.val t.a = 0
    · rw [if_pos h0, if_neg (by simp [h0])]
    · rw [if_neg h0, if_pos h0]
  · unfold termM
    show (if t.kind = 1 then _ else if t.kind = 2 then (foldM m).top { foldC c with at_ := 0, block := if (foldC c).val (valueE E t.a) ≠ 0 then t.to else t.els } else if t.kind = 3 then MRun.pop (foldM m) c.into ((foldC c).val (valueE E t.a)) else if t.kind = 4 then ((foldM m).top { foldC c with at_ := 0 }).stop 5 ((foldC c).val (valueE E t.a)) else (foldM m).top { foldC c with at_ := 0 }) = _
    rw [hval, val_fold h]
    by_cases k2 : t.kind = 2
    · rw [if_neg h1, if_neg h1, if_pos k2, if_pos k2]
      exact foldM_top m { c with at_ := 0, block := if c.val t.a ≠ 0 then t.to else t.els }
    · by_cases k3 : t.kind = 3
      · rw [if_neg h1, if_neg h1, if_neg k2, if_neg k2, if_pos k3, if_pos k3, foldM_pop]
      · by_cases k4 : t.kind = 4
        · rw [if_neg h1, if_neg h1, if_neg k2, if_neg k2, if_neg k3, if_neg k3, if_pos k4, if_pos k4, ← foldM_stop]
          congr 1
          exact foldM_top m { c with at_ := 0 }
        · rw [if_neg h1, if_neg h1, if_neg k2, if_neg k2, if_neg k3, if_neg k3, if_neg k4, if_neg k4]
          exact foldM_top m { c with at_ := 0 }

/-- what is known of an instruction is what it makes -/
theorem known_val {E : Env} {c : MCall} (h : Holds E c) {x : LIns} (hk : isKnown E (subE E x) = true) : (x.kind = 2 → knownN E (subE E x) = c.val x.a) ∧ (x.kind = 3 → knownN E (subE E x) = Ar.one x.op (c.val x.a)) ∧ (x.kind = 4 → knownN E (subE E x) = Ar.two x.op (c.val x.a) (c.val x.b)) := by
  have hkk := isKnown_kind hk
  rw [subE_kind] at hkk
  have haN := num_fold h hkk.2
  rw [subE_a E x ((hasA_iff _).2 (by omega)), val_fold h] at haN
  have haE := subE_a E x ((hasA_iff _).2 (by omega))
  unfold isKnown at hk
  unfold knownN
  rw [if_pos hkk.2] at hk ⊢
  rw [subE_kind] at hk ⊢
  refine ⟨fun k2 => ?_, fun k3 => ?_, fun k4 => ?_⟩
  · rw [if_pos k2, haE, haN]
  · rw [if_neg (by omega), if_pos k3, haE, haN, (subE_rest E x).1]
  · rw [if_neg (by omega), if_neg (by omega), if_pos k4] at hk ⊢
    split at hk
    · rename_i hbn
      rw [if_pos hbn]
      have hbN := num_fold h hbn
      have hbE := subE_b E x ((hasB_iff _).2 (by omega))
      rw [hbE, val_fold h] at hbN
      rw [haE, haN, hbE, hbN, (subE_rest E x).1]
    · cases hk
/-- what is known behind an instruction is so -/
theorem learn_holds {vals : Int} {E : Env} {c : MCall} (h : Holds E c) (hE : EnvK vals E) (hl : (c.values.length : Int) = vals) {x : LIns} (hx : InsP vals x) (hD : hasD x.kind = true) {v : Int} (h1 : x.kind = 1 → v = x.n) (h2 : x.kind = 2 → v = c.val x.a) (h3 : x.kind = 3 → v = Ar.one x.op (c.val x.a)) (h4 : x.kind = 4 → v = Ar.two x.op (c.val x.a) (c.val x.b)) : Holds (learnE E (insE E x)) (c.put x.d v) := by
  have hs : setsE x = x.d := by unfold setsE; rw [if_pos hD]
  have hd := hx.d hD
  unfold learnE
  rw [insE_sets, hs]
  rcases insE_or E x with ⟨hk, e⟩ | ⟨hk, e⟩
  · rw [e]
    rw [if_neg (by intro e1; rcases e1 with e1 | ⟨e1, _⟩; omega; exact absurd e1 (by show ¬ ((1 : Int) = 2); decide)), if_pos rfl]
    have hkv := known_val h hk
    have hv : v = knownN E (subE E x) := by
      have hkk := (isKnown_kind hk).1
      rw [subE_kind] at hkk
      rcases hkk with k | k | k
      · rw [h2 k, hkv.1 k]
      · rw [h3 k, hkv.2.1 k]
      · rw [h4 k, hkv.2.2 k]
    rw [hv]
    exact h.put_num hE hl hd _
  · rw [e, subE_kind]
    split
    · rename_i h0
      rcases h0 with h0 | ⟨k2, h0⟩
      · omega
      · have hA : hasA x.kind = true := (hasA_iff _).2 (by omega)
        rw [subE_a E x hA] at h0
        have hv : v = c.val x.d := by rw [h2 k2, ← val_fold h x.a, h0]
        rw [hv]
        exact h.same hE hl hd
    · rename_i h0
      split
      · rename_i k1
        rw [(subE_rest E x).2.1, h1 k1]
        exact h.put_num hE hl hd _
      · split
        · rename_i k2
          have hA : hasA x.kind = true := (hasA_iff _).2 (by omega)
          have hne : (subE E x).a ≠ x.d := fun e1 => h0 (.inr ⟨k2, e1⟩)
          rw [subE_a E x hA] at hne ⊢
          rw [h2 k2, ← val_fold h x.a]
          exact h.put_val hE hl hd (hE.value (hx.a hA)) hne
        · exact h.forget hE hl hd v
theorem envAt_block {c : MCall} {b : LBlock} (h : c.flow.blocks[c.block.toNat]? = some b) : envAt c = envE E0 (b.ins.take c.at_.toNat) := by
  unfold envAt; rw [h]
theorem envAt_zero {c : MCall} (h : c.at_ = 0) : envAt c = E0 := by
  unfold envAt
  cases c.flow.blocks[c.block.toNat]? with
  | none => rfl
  | some b => rw [h]; rfl
theorem HoldsT.top {m : MRun} {c : MCall} {r : List MCall} (hm : m.calls = c :: r) (hr : HoldsR c.into r) {c' : MCall} (hi : c'.into = c.into) (h : Holds (envAt c') c') : HoldsT (m.top c').calls := by
  have e : (m.top c').calls = c' :: r := by simp [MRun.top, hm]
  rw [e]
  exact ⟨h, by rw [hi]; exact hr⟩
theorem holds_ins {u : LUnit} (_hu : UnitOk u) {m : MRun} (hm : MOk u m) {c : MCall} {r : List MCall} (hc : m.calls = c :: r) {E : Env} (hE : EnvK c.flow.values E) (h : Holds E c) (hr : HoldsR c.into r) {x : LIns} (hx : insOk u c.flow.values x = true) (he : envAt c = learnE E (insE E x)) (hs : (insM u m c x).status = 0) : HoldsT (insM u m c x).calls := by
  have hok := hm.calls c (by rw [hc]; simp)
  have hl := hok.vals
  have hk := insK_of hx
  have hp := insK_p hx
  have hkinds : x.kind = 1 ∨ x.kind = 2 ∨ x.kind = 3 ∨ x.kind = 4 ∨ x.kind = 5 ∨ x.kind = 6 ∨ x.kind = 7 ∨ x.kind = 8 ∨ x.kind = 9 := by have := hk.kind; omega
  have hput : ∀ v, hasD x.kind = true → (x.kind = 1 → v = x.n) → (x.kind = 2 → v = c.val x.a) → (x.kind = 3 → v = Ar.one x.op (c.val x.a)) → (x.kind = 4 → v = Ar.two x.op (c.val x.a) (c.val x.b)) → HoldsT (m.top (c.put x.d v)).calls := fun v hD h1 h2 h3 h4 =>
    HoldsT.top hc hr rfl (by show Holds (envAt c) _; rw [he]; exact learn_holds h hE hl hp hD h1 h2 h3 h4)
  have hkeep : x.kind = 6 ∨ x.kind = 8 → HoldsT (c :: r) := fun k => by
    refine ⟨?_, hr⟩
    have hset : setsE (insE E x) = -1 := by
      rw [insE_sets]
      unfold setsE
      rw [if_neg (by rw [hasD_iff]; omega)]
    have hl0 : learnE E (insE E x) = E := by
      unfold learnE
      rw [hset, if_pos (.inl (by decide))]
    rw [he, hl0]; exact h
  rcases hkinds with k | k | k | k | k | k | k | k | k
  · rw [insM_1 k]; exact hput _ ((hasD_iff _).2 (by omega)) (fun _ => rfl) (by omega) (by omega) (by omega)
  · rw [insM_2 k]; exact hput _ ((hasD_iff _).2 (by omega)) (by omega) (fun _ => rfl) (by omega) (by omega)
  · rw [insM_3 k]; exact hput _ ((hasD_iff _).2 (by omega)) (by omega) (by omega) (fun _ => rfl) (by omega)
  · rw [insM_4 k] at hs ⊢
    split at hs
    · rename_i h0; rw [if_pos h0]; exact hput _ ((hasD_iff _).2 (by omega)) (by omega) (by omega) (by omega) (fun _ => rfl)
    · exact absurd hs (by show ¬ ((2 : Int) = 0); decide)
  · rw [insM_5 k] at hs ⊢
    split at hs
    · rename_i h0; rw [if_pos h0]; exact hput _ ((hasD_iff _).2 (by omega)) (by omega) (by omega) (by omega) (by omega)
    · exact absurd hs (by show ¬ ((3 : Int) = 0); decide)
  · rw [insM_6 k] at hs ⊢
    split at hs
    · rename_i h0; rw [if_pos h0]
      show HoldsT m.calls
      rw [hc]; exact hkeep (.inl k)
    · exact absurd hs (by show ¬ ((3 : Int) = 0); decide)
  · rw [insM_7 k]; exact hput _ ((hasD_iff _).2 (by omega)) (by omega) (by omega) (by omega) (by omega)
  · rw [insM_8 k]
    show HoldsT m.calls
    rw [hc]; exact hkeep (.inr k)
  · rw [insM_9 k] at hs ⊢
    split at hs
    · exact absurd hs (by show ¬ ((4 : Int) = 0); decide)
    · rename_i h0; rw [if_neg h0]
      obtain ⟨g, hg, _⟩ := hk.call k
      unfold MRun.push
      rw [hg]
      show HoldsT (newCall g (x.args.map c.val) x.d :: m.calls)
      rw [hc]
      refine ⟨by rw [envAt_zero rfl]; exact holds0 _, fun v => ?_, hr⟩
      rw [he]
      exact learn_holds h hE hl hp ((hasD_iff _).2 (by omega)) (by omega) (by omega) (by omega) (by omega)
theorem holds_term {m : MRun} {c : MCall} {r : List MCall} (hc : m.calls = c :: r) (hr : HoldsR c.into r) {nb vals : Int} {t : LTerm} (ht : TermK nb vals t) (hs : (termM m c t).status = 0) : HoldsT (termM m c t).calls := by
  have hk : t.kind = 1 ∨ t.kind = 2 ∨ t.kind = 3 ∨ t.kind = 4 := by have := ht.kind; omega
  have hg : ∀ k, HoldsT (m.top { c with at_ := 0, block := k }).calls := fun k => HoldsT.top hc hr rfl (by rw [envAt_zero rfl]; exact holds0 _)
  rcases hk with k | k | k | k
  · rw [termM_1 k]; exact hg _
  · rw [termM_2 k]; exact hg _
  · rw [termM_3 k]
    unfold MRun.pop
    rw [hc]
    simp only [List.tail_cons]
    cases r with
    | nil => exact trivial
    | cons d q =>
      show HoldsT (d.put c.into (c.val t.a) :: q)
      exact ⟨hr.1 _, hr.2⟩
  · rw [termM_4 k] at hs; exact absurd hs (by show ¬ ((5 : Int) = 0); decide)
/-- a step alike -/
theorem fold_step {u : LUnit} (hu : UnitOk u) {m : MRun} (hm : MOk u m) (h : HoldsT m.calls) : stepM (foldE u) (foldM m) = foldM (stepM u m) ∧ ((stepM u m).status = 0 → HoldsT (stepM u m).calls) := by
  unfold stepM
  show (match m.calls.map foldC with | [] => _ | c :: _ => _ : MRun) = _ ∧ _
  cases hc : m.calls with
  | nil =>
    refine ⟨rfl, fun _ => ?_⟩
    show HoldsT m.calls
    rw [hc]; trivial
  | cons c r =>
    rw [hc] at h
    have hok := hm.calls c (by rw [hc]; simp)
    obtain ⟨hb, hbe⟩ := hok.block_at
    obtain ⟨b, hbb⟩ : ∃ b, c.flow.blocks[c.block.toNat] = b := ⟨_, rfl⟩
    rw [hbb] at hbe
    have hbm : b ∈ c.flow.blocks := List.mem_of_getElem? hbe
    obtain ⟨ht, hi⟩ := block_ok hu hok.flow hbm
    have hbe' : (foldC c).flow.blocks[(foldC c).block.toNat]? = some (blockE b) := by
      show (flowE c.flow).blocks[c.block.toNat]? = _
      rw [fold_block, hbe]; rfl
    have hEat := envAt_block hbe
    have hins : ∀ j, EnvK c.flow.values (envE E0 (b.ins.take j)) := fun j => EnvK.env _ (EnvK.e0 _) fun x hx => insK_p (hi x (List.mem_of_mem_take hx))
    simp only [List.map_cons]
    rw [hbe, hbe']
    simp only []
    have hlen : (blockE b).ins.length = b.ins.length := insL_length b.ins E0
    rw [hlen]
    by_cases hat : c.at_ = (b.ins.length : Int)
    · have hat' : (foldC c).at_ = (b.ins.length : Int) := hat
      rw [if_pos hat, if_pos hat']
      have hE : envAt c = envE E0 b.ins := by
        rw [hEat]
        congr 1
        rw [hat]; simp
      refine ⟨?_, fun hs => holds_term hc h.2 (termK_of ht) hs⟩
      exact termM_fold (E := envE E0 b.ins) (by rw [← hE]; exact h.1) b.term
    · have hat' : ¬ ((foldC c).at_ = (b.ins.length : Int)) := hat
      rw [if_neg hat, if_neg hat']
      show (match (insL E0 b.ins)[c.at_.toNat]? with | none => _ | some x => _ : MRun) = _ ∧ _
      rw [insL_get]
      cases hx : b.ins[c.at_.toNat]? with
      | none =>
        refine ⟨rfl, fun _ => ?_⟩
        show HoldsT m.calls
        rw [hc]; exact h
      | some x =>
        simp only [Option.map_some]
        have hxo := hi x (List.mem_of_getElem? hx)
        have hE := hEat
        have hh : Holds (envE E0 (b.ins.take c.at_.toNat)) { c with at_ := c.at_ + 1 } := by
          rw [← hE]; exact h.1
        have ht1 : (foldM m).top { foldC c with at_ := (foldC c).at_ + 1 } = foldM (m.top { c with at_ := c.at_ + 1 }) := foldM_top m { c with at_ := c.at_ + 1 }
        refine ⟨?_, fun hs => ?_⟩
        · rw [ht1]
          exact insM_fold (c := { c with at_ := c.at_ + 1 }) hh (insK_of hxo)
        · obtain ⟨h1, h2⟩ := hm.ahead hc hbe hat
          have ha0 := hok.a0
          refine holds_ins hu h1 (c := { c with at_ := c.at_ + 1 }) (r := r) (by simp [MRun.top, hc]) (hins c.at_.toNat) hh h.2 hxo ?_ hs
          rw [envAt_block (c := { c with at_ := c.at_ + 1 }) hbe]
          show envE E0 (b.ins.take (c.at_ + 1).toNat) = _
          rw [show (c.at_ + 1).toNat = c.at_.toNat + 1 by omega]
          exact envE_step hx
theorem fold_runM {u : LUnit} (hu : UnitOk u) : ∀ (k : Nat) {m : MRun}, MOk u m → (m.status = 0 → HoldsT m.calls) → runM (foldE u) k (foldM m) = foldM (runM u k m)
  | 0, _, _, _ => rfl
  | k + 1, m, hm, h => by
    rw [runM_succ, runM_succ]
    show (if m.status = 0 then runM (foldE u) k (stepM (foldE u) (foldM { m with steps := m.steps + 1 })) else foldM m) = _
    by_cases h0 : m.status = 0
    · rw [if_pos h0, if_pos h0]
      have hm1 : MOk u { m with steps := m.steps + 1 } := ⟨hm.calls, hm.linked, hm.deep, hm.ne, hm.names, hm.sizes, by have := hm.out; show (m.out.length : Int) ≤ m.steps + 1; omega⟩
      obtain ⟨h1, h2⟩ := fold_step hu hm1 (h h0)
      rw [h1]
      exact fold_runM hu k (hm.round hu) h2
    · rw [if_neg h0, if_neg h0]
theorem fold_start {u : LUnit} (hu : UnitOk u) (inp : List Int) : startRun (foldE u) inp = foldM (startRun u inp) ∧ HoldsT (startRun u inp).calls := by
  obtain ⟨f, hf, hmem⟩ := main_find hu
  have hf' : (foldE u).flows.find? (fun f => decide (f.name = sMain)) = some (flowE f) := by rw [fold_find, hf]; rfl
  rw [startRun_eq hf, startRun_eq hf']
  refine ⟨rfl, ?_, trivial⟩
  rw [envAt_zero rfl]; exact holds0 _
/-- what the unit does is what it did, step by step -/
theorem fold_run {u : LUnit} (hu : UnitOk u) (inp : List Int) (n : Nat) : runU (foldE u) inp n = foldM (runU u inp n) := by
  obtain ⟨h1, h2⟩ := fold_start hu inp
  show runM (foldE u) n (startRun (foldE u) inp) = _
  rw [h1]
  exact fold_runM hu n (startRun_ok hu inp) fun _ => h2
end Go.Proofs.YtnpnhdmfdhnmfaaGreatDoor
