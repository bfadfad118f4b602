/- A unit that is folded may be, is folded no more, and has at least as much that is known. -/
import Derived.Test.YtnpnhdmfdhnmfaaGreatDoorFoldKnown
import Derived.Test.YtnpnhdmfdhnmfaaGreatDoorIrCheck
namespace Go.Proofs.YtnpnhdmfdhnmfaaGreatDoor

/-! ### what is known, in plain words -/
/-- what is known speaks of values of a function alone, and what a value is known to be is not known to be anything -/
structure EnvK (vals : Int) (E : Env) : Prop where
  keys : ∀ k, (E k).isSome = true → 0 ≤ k ∧ k < vals
  vals : ∀ k o, E k = some (.val o) → 0 ≤ o ∧ o < vals
  flat : ∀ k o, E k = some (.val o) → E o = none
theorem EnvK.e0 (vals : Int) : EnvK vals E0 := by
  constructor
  · intro k h; exact absurd h (by simp [E0])
  · intro k o h; exact absurd h (by simp [E0])
  · intro k o h; exact absurd h (by simp [E0])
theorem valueE_cases (E : Env) (k : Int) : (∃ o, E k = some (.val o) ∧ valueE E k = o) ∨ ((∀ o, E k ≠ some (.val o)) ∧ valueE E k = k) := by
  unfold valueE
  cases h : E k with
  | none => exact .inr ⟨fun o e => by simp at e, rfl⟩
  | some f =>
    cases f with
    | num n => exact .inr ⟨fun o e => by simp at e, rfl⟩
    | val o => exact .inl ⟨o, rfl, rfl⟩
theorem EnvK.value {vals : Int} {E : Env} (h : EnvK vals E) {k : Int} (hk : 0 ≤ k ∧ k < vals) : 0 ≤ valueE E k ∧ valueE E k < vals := by
  rcases valueE_cases E k with ⟨o, h1, h2⟩ | ⟨_, h2⟩
  · rw [h2]; exact h.vals k o h1
  · rw [h2]; exact hk
theorem EnvK.value2 {vals : Int} {E : Env} (h : EnvK vals E) (k : Int) : valueE E (valueE E k) = valueE E k := by
  rcases valueE_cases E k with ⟨o, h1, h2⟩ | ⟨_, h2⟩
  · rw [h2]
    rcases valueE_cases E o with ⟨p, h3, _⟩ | ⟨_, h4⟩
    · rw [h.flat k o h1] at h3; cases h3
    · exact h4
  · rw [h2, h2]
theorem EnvK.value_none {vals : Int} {E : Env} (h : EnvK vals E) (k : Int) (hn : isNum (E (valueE E k)) = false) : E (valueE E k) = none := by
  rcases valueE_cases E k with ⟨o, h1, h2⟩ | ⟨h1, h2⟩
  · rw [h2]; exact h.flat k o h1
  · rw [h2] at hn ⊢
    cases hk : E k with
    | none => rfl
    | some f =>
      cases f with
      | num n => rw [hk] at hn; cases hn
      | val o => exact absurd hk (h1 o)
theorem subE_kind (E : Env) (x : LIns) : (subE E x).kind = x.kind := by
  unfold subE; split
  · rfl
  · split
    · rfl
    · split <;> rfl
theorem subE_d (E : Env) (x : LIns) : (subE E x).d = x.d := by
  unfold subE; split
  · rfl
  · split
    · rfl
    · split <;> rfl
theorem subE_args (E : Env) (x : LIns) : (subE E x).args.length = x.args.length := by
  unfold subE; split
  · rfl
  · split
    · rfl
    · split
      · simp
      · rfl
theorem subE_rest (E : Env) (x : LIns) : (subE E x).op = x.op ∧ (subE E x).n = x.n ∧ (subE E x).name = x.name := by
  unfold subE; split
  · exact ⟨rfl, rfl, rfl⟩
  · split
    · exact ⟨rfl, rfl, rfl⟩
    · split <;> exact ⟨rfl, rfl, rfl⟩
theorem subE_a (E : Env) (x : LIns) (h : hasA x.kind = true) : (subE E x).a = valueE E x.a := by
  have := (hasA_iff x.kind).1 h
  unfold subE; split
  · rfl
  · split
    · rfl
    · omega
theorem subE_a' (E : Env) (x : LIns) (h : hasA x.kind = false) : (subE E x).a = x.a := by
  have h : ¬ (x.kind = 2 ∨ x.kind = 3 ∨ x.kind = 4 ∨ x.kind = 5 ∨ x.kind = 6 ∨ x.kind = 8) := fun e => by rw [(hasA_iff x.kind).2 e] at h; cases h
  unfold subE; split
  · omega
  · split
    · omega
    · split <;> rfl
theorem subE_b (E : Env) (x : LIns) (h : hasB x.kind = true) : (subE E x).b = valueE E x.b := by
  have := (hasB_iff x.kind).1 h
  unfold subE
  rw [if_neg (by omega), if_pos (by omega)]
theorem subE_b' (E : Env) (x : LIns) (h : hasB x.kind = false) : (subE E x).b = x.b := by
  have h : ¬ (x.kind = 4 ∨ x.kind = 6) := fun e => by rw [(hasB_iff x.kind).2 e] at h; cases h
  unfold subE
  rw [if_neg h]
  split
  · rfl
  · split <;> rfl
theorem subE_args9 (E : Env) (x : LIns) (h : x.kind = 9) : (subE E x).args = x.args.map (valueE E) := by
  unfold subE
  rw [if_neg (by omega), if_neg (by omega), if_pos h]
theorem subE_args' (E : Env) (x : LIns) (h : x.kind ≠ 9) : (subE E x).args = x.args := by
  unfold subE; split
  · rfl
  · split
    · rfl
    · rfl
theorem subE_other (E : Env) (x : LIns) (h : x.kind = 1 ∨ x.kind = 7) : subE E x = x := by
  unfold subE
  rw [if_neg (by omega), if_neg (by omega), if_neg (by omega)]
theorem isKnown_kind {E : Env} {x : LIns} (h : isKnown E x = true) : (x.kind = 2 ∨ x.kind = 3 ∨ x.kind = 4) ∧ isNum (E x.a) = true := by
  unfold isKnown at h
  split at h
  · rename_i h1
    refine ⟨?_, h1⟩
    split at h
    · omega
    · split at h
      · omega
      · split at h
        · omega
        · cases h
  · cases h
theorem isKnown_other {E : Env} {x : LIns} (h : x.kind ≠ 2 ∧ x.kind ≠ 3 ∧ x.kind ≠ 4) : isKnown E x = false := by
  cases hk : isKnown E x with
  | false => rfl
  | true => have := isKnown_kind hk; omega
/-- an instruction becomes a number, or other values stand in it -/
theorem insE_or (E : Env) (x : LIns) : (isKnown E (subE E x) = true ∧ insE E x = ⟨1, x.d, 0, 0, 0, knownN E (subE E x), ⟨#[]⟩, []⟩) ∨ (isKnown E (subE E x) = false ∧ insE E x = subE E x) := by
  unfold insE
  cases h : isKnown E (subE E x) with
  | true => left; rw [if_pos rfl]; exact ⟨rfl, rfl⟩
  | false => right; rw [if_neg (by decide)]; exact ⟨rfl, rfl⟩
theorem insE_d (E : Env) (x : LIns) : (insE E x).d = x.d := by
  rcases insE_or E x with ⟨_, e⟩ | ⟨_, e⟩ <;> rw [e]
  exact subE_d E x
theorem insE_sets (E : Env) (x : LIns) : setsE (insE E x) = setsE x := by
  unfold setsE
  rw [insE_d]
  rcases insE_or E x with ⟨h, e⟩ | ⟨_, e⟩ <;> rw [e]
  · have := (isKnown_kind h).1
    rw [subE_kind] at this
    rw [show hasD x.kind = true from (hasD_iff _).2 (by omega)]
    rfl
  · rw [subE_kind]
theorem insE_num {E : Env} {x : LIns} (h : x.kind = 1) : insE E x = x := by
  rcases insE_or E x with ⟨hk, _⟩ | ⟨_, e⟩
  · have := (isKnown_kind hk).1; rw [subE_kind] at this; omega
  · rw [e]; exact subE_other E x (by omega)
theorem insL_length : ∀ (l : List LIns) (E : Env), (insL E l).length = l.length
  | [], _ => rfl
  | _ :: r, _ => by show (insL _ r).length + 1 = _; rw [insL_length r]; rfl
theorem envE_append : ∀ (l r : List LIns) (E : Env), envE E (l ++ r) = envE (envE E l) r
  | [], _, _ => rfl
  | _ :: l, r, _ => envE_append l r _
theorem insL_get : ∀ (l : List LIns) (E : Env) (i : Nat), (insL E l)[i]? = (l[i]?).map (insE (envE E (l.take i)))
  | [], _, i => by simp [insL]
  | x :: l, E, 0 => by simp [insL, envE]
  | x :: l, E, i + 1 => by
    show (insL _ l)[i]? = (l[i]?).map _
    rw [insL_get l _ i]; rfl
theorem envE_step {l : List LIns} {E : Env} {i : Nat} {x : LIns} (h : l[i]? = some x) : envE E (l.take (i + 1)) = learnE (envE E (l.take i)) (insE (envE E (l.take i)) x) := by
  obtain ⟨hi, e⟩ := List.getElem?_eq_some_iff.1 h
  rw [List.take_succ_eq_append_getElem hi, envE_append, e]; rfl
/-! #### what is learnt -/
theorem EnvK.forget {vals : Int} {E : Env} (h : EnvK vals E) (d : Int) : EnvK vals (forgetE E d) := by
  have key : ∀ k f, forgetE E d k = some f → E k = some f ∧ k ≠ d := fun k f e => by
    unfold forgetE at e
    split at e
    · cases e
    · split at e
      · cases e
      · exact ⟨e, by assumption⟩
  refine ⟨fun k hk => ?_, fun k o e => h.vals k o (key k _ e).1, fun k o e => ?_⟩
  · cases e : forgetE E d k with
    | none => rw [e] at hk; cases hk
    | some f => exact h.keys k (by rw [(key k f e).1]; rfl)
  · have := h.flat k o (key k _ e).1
    unfold forgetE
    rw [this]
    split
    · rfl
    · rfl
theorem forget_none (E : Env) (d : Int) : forgetE E d d = none := by unfold forgetE; rw [if_pos rfl]
theorem forget_val (E : Env) (d k : Int) : forgetE E d k ≠ some (.val d) := by
  unfold forgetE
  split
  · simp
  · split
    · simp
    · assumption
theorem EnvK.put_num {vals : Int} {E : Env} (h : EnvK vals E) {d : Int} (h0 : 0 ≤ d ∧ d < vals) (n : Int) : EnvK vals (putE (forgetE E d) d (.num n)) := by
  have hf := h.forget d
  refine ⟨fun k hk => ?_, fun k o e => ?_, fun k o e => ?_⟩
  · unfold putE at hk
    split at hk
    · rename_i e; rw [e]; exact h0
    · exact hf.keys k hk
  · unfold putE at e
    split at e
    · cases e
    · exact hf.vals k o e
  · unfold putE at e
    split at e
    · cases e
    · unfold putE
      rw [if_neg (fun (e2 : o = d) => forget_val E d k (e2 ▸ e))]
      exact hf.flat k o e
theorem EnvK.put_val {vals : Int} {E : Env} (h : EnvK vals E) {d a : Int} (h0 : 0 ≤ d ∧ d < vals) (h1 : 0 ≤ a ∧ a < vals) (hne : a ≠ d) (hn : E a = none) : EnvK vals (putE (forgetE E d) d (.val a)) := by
  have hf := h.forget d
  refine ⟨fun k hk => ?_, fun k o e => ?_, fun k o e => ?_⟩
  · unfold putE at hk
    split at hk
    · rename_i e; rw [e]; exact h0
    · exact hf.keys k hk
  · unfold putE at e
    split at e
    · injection e with e; injection e with e; rw [← e]; exact h1
    · exact hf.vals k o e
  · unfold putE at e
    split at e
    · injection e with e; injection e with e; rw [← e]
      unfold putE forgetE
      rw [if_neg hne, if_neg hne, hn]; rfl
    · unfold putE
      rw [if_neg (fun (e2 : o = d) => forget_val E d k (e2 ▸ e))]
      exact hf.flat k o e
/-- what an instruction that may be is, by its kind -/
structure InsP (vals : Int) (x : LIns) : Prop where
  d : hasD x.kind = true → 0 ≤ x.d ∧ x.d < vals
  a : hasA x.kind = true → 0 ≤ x.a ∧ x.a < vals
theorem EnvK.learn {vals : Int} {E : Env} (h : EnvK vals E) {x : LIns} (hx : InsP vals x) : EnvK vals (learnE E (insE E x)) := by
  unfold learnE
  rw [insE_sets]
  by_cases hD : hasD x.kind = true
  · have hs : setsE x = x.d := by unfold setsE; rw [if_pos hD]
    have hd := hx.d hD
    rw [hs]
    split
    · exact h
    · rename_i hne
      split
      · exact h.put_num hd _
      · split
        · rename_i h1 h2
          rcases insE_or E x with ⟨hk, e⟩ | ⟨hk, e⟩
          · rw [e] at h1; exact absurd rfl h1
          · rw [e] at h2 hne ⊢
            rw [subE_kind] at h2
            have hA : hasA x.kind = true := (hasA_iff _).2 (by omega)
            have ha := subE_a E x hA
            rw [ha] at hne ⊢
            refine h.put_val hd (h.value (hx.a hA)) (fun e2 => hne (.inr ⟨by rw [subE_kind]; exact h2, e2⟩)) (h.value_none _ ?_)
            cases hn : isNum (E (valueE E x.a)) with
            | false => rfl
            | true =>
              unfold isKnown at hk
              rw [ha, hn, if_pos rfl, if_pos (by rw [subE_kind]; exact h2)] at hk
              cases hk
        · exact h.forget _
  · have hs : setsE x = -1 := by unfold setsE; rw [if_neg hD]
    rw [hs, if_pos (.inl (by decide))]
    exact h
theorem EnvK.env {vals : Int} : ∀ (l : List LIns) {E : Env}, EnvK vals E → (∀ x ∈ l, InsP vals x) → EnvK vals (envE E l)
  | [], _, h, _ => h
  | x :: r, _, h, hl => EnvK.env r (h.learn (hl x (by simp))) fun y hy => hl y (by simp [hy])
theorem insK_p {u : LUnit} {vals : Int} {x : LIns} (h : insOk u vals x = true) : InsP vals x := ⟨(insK_of h).d, (insK_of h).a⟩

/-! ### what is folded may be -/
theorem place_value {vals : Int} {E : Env} (h : EnvK vals E) {n : Int} (hn : placeIf n vals true = true) : placeIf (valueE E n) vals true = true := by
  have := h.value (placeIf_true hn)
  unfold placeIf
  rw [if_pos rfl]
  exact decide_eq_true this
theorem insOk_fold {u : LUnit} {vals : Int} {E : Env} (h : EnvK vals E) {x : LIns} (hx : insOk u vals x = true) : insOk u vals (insE E x) = true := by
  have hk := insK_of hx
  rcases insE_or E x with ⟨hkn, e⟩ | ⟨_, e⟩ <;> rw [e]
  · have := (isKnown_kind hkn).1
    rw [subE_kind] at this
    have hd := hk.d ((hasD_iff _).2 (by omega))
    unfold insOk
    have p1 : placeIf x.d vals (hasD 1) = true := by
      rw [show hasD 1 = true from rfl]; unfold placeIf; rw [if_pos rfl]; exact decide_eq_true hd
    have p2 : placeIf 0 vals (hasA 1) = true := by
      rw [show hasA 1 = false from rfl]; unfold placeIf; rfl
    have p3 : placeIf 0 vals (hasB 1) = true := by
      rw [show hasB 1 = false from rfl]; unfold placeIf; rfl
    show (decide (1 ≤ (1 : Int) ∧ (1 : Int) ≤ 9) && placeIf x.d vals (hasD 1) && placeIf 0 vals (hasA 1) && placeIf 0 vals (hasB 1) && opOk 1 0 && (decide ((1 : Int) = 1) || _) && namedOk u vals ⟨1, x.d, 0, 0, 0, _, ⟨#[]⟩, []⟩) = true
    rw [p1, p2, p3]
    simp [opOk, namedOk]
  · unfold insOk at hx ⊢
    rw [subE_kind, subE_d, (subE_rest E x).1, (subE_rest E x).2.1]
    simp only [Bool.and_eq_true] at hx ⊢
    obtain ⟨⟨⟨⟨⟨⟨h1, h2⟩, h3⟩, h4⟩, h5⟩, h6⟩, h7⟩ := hx
    refine ⟨⟨⟨⟨⟨⟨h1, h2⟩, ?_⟩, ?_⟩, h5⟩, h6⟩, ?_⟩
    · cases hA : hasA x.kind with
      | true => rw [subE_a E x hA]; rw [hA] at h3; exact place_value h h3
      | false => rw [subE_a' E x hA]; rw [hA] at h3; exact h3
    · cases hB : hasB x.kind with
      | true => rw [subE_b E x hB]; rw [hB] at h4; exact place_value h h4
      | false => rw [subE_b' E x hB]; rw [hB] at h4; exact h4
    · unfold namedOk at h7 ⊢
      rw [subE_kind, (subE_rest E x).2.2, subE_args]
      by_cases h9 : x.kind = 9
      · rw [if_neg (by omega), if_pos h9] at h7 ⊢
        rw [subE_args9 E x h9]
        unfold callOk at h7 ⊢
        cases hf : u.flows.find? (fun f => decide (f.name = x.name)) with
        | none => rw [hf] at h7; cases h7
        | some g =>
          rw [hf] at h7
          simp only [Bool.and_eq_true, decide_eq_true_eq, Bool.not_eq_true', List.any_eq_false] at h7 ⊢
          refine ⟨by rw [List.length_map]; exact h7.1, fun n hn => ?_⟩
          obtain ⟨m, hm, rfl⟩ := List.mem_map.1 hn
          have := h7.2 m hm
          rw [place_value h (by simpa using this)]
          decide
      · rw [if_neg h9] at h7 ⊢
        exact h7
theorem insL_ok64 {u : LUnit} {vals : Int} : ∀ (l : List LIns) {E : Env}, EnvK vals E → (∀ x ∈ l, insOk u vals x = true) → ∀ y ∈ insL E l, insOk u vals y = true
  | [], _, _, _, y, hy => by simp [insL] at hy
  | x :: r, E, h, hl, y, hy => by
    have hx := hl x (by simp)
    rcases List.mem_cons.1 (show y ∈ insE E x :: insL _ r from hy) with rfl | hy
    · exact insOk_fold h hx
    · exact insL_ok64 r (h.learn (insK_p hx)) (fun z hz => hl z (by simp [hz])) y hy
theorem termE_or (E : Env) (t : LTerm) : (t.kind = 1 ∧ termE E t = t) ∨ (t.kind = 2 ∧ isNum (E (valueE E t.a)) = true ∧ termE E t = ⟨1, 0, if numOf (E (valueE E t.a)) = 0 then t.els else t.to, 0⟩) ∨ (t.kind ≠ 1 ∧ ¬ (isNum (E (valueE E t.a)) = true ∧ t.kind = 2) ∧ termE E t = { t with a := valueE E t.a }) := by
  unfold termE
  by_cases h1 : t.kind = 1
  · rw [if_pos h1]; exact .inl ⟨h1, rfl⟩
  · rw [if_neg h1]
    by_cases h2 : isNum (E (valueE E t.a)) = true ∧ t.kind = 2
    · rw [if_pos h2]
      refine .inr (.inl ⟨h2.2, h2.1, ?_⟩)
      split <;> rfl
    · rw [if_neg h2]; exact .inr (.inr ⟨h1, h2, rfl⟩)
theorem termOk_fold {nb vals : Int} {E : Env} (h : EnvK vals E) {t : LTerm} (ht : termOk nb vals t = true) : termOk nb vals (termE E t) = true := by
  have hk := termK_of ht
  rcases termE_or E t with ⟨_, e⟩ | ⟨h2, _, e⟩ | ⟨h1, _, e⟩ <;> rw [e]
  · exact ht
  · have d1 := hk.dest (.inr h2)
    have d2 := hk.els h2
    have d3 : 0 ≤ (if numOf (E (valueE E t.a)) = 0 then t.els else t.to) ∧ (if numOf (E (valueE E t.a)) = 0 then t.els else t.to) < nb := by split <;> assumption
    unfold termOk
    simp [placeIf, d3]
  · unfold termOk at ht ⊢
    simp only [Bool.and_eq_true] at ht ⊢
    obtain ⟨⟨⟨q1, q2⟩, q3⟩, q4⟩ := ht
    refine ⟨⟨⟨q1, ?_⟩, q3⟩, q4⟩
    rw [decide_eq_true h1] at q2 ⊢
    exact place_value h q2
theorem insCount_fold : ∀ l : List LBlock, insCount (l.map blockE) = insCount l
  | [] => rfl
  | b :: r => by
    show (insL E0 b.ins).length + insCount (r.map blockE) = b.ins.length + insCount r
    rw [insCount_fold r, insL_length]
theorem foldE_map (u : LUnit) : foldE u = mapU flowE u := rfl
/-- a unit that may be, folded, may be -/
theorem fold_ok {u : LUnit} (hu : UnitOk u) : UnitOk (foldE u) := by
  rw [foldE_map]
  refine unit_map hu (fun _ _ => rfl) (fun _ _ => rfl) (fun f hf => ?_) (fun f hf b hb => ?_) (fun f hf b hb => ?_)
  · have h := hu.nums f hf
    unfold flowBad at h ⊢
    show decide (f.params < 0 ∨ f.params > 6 ∨ f.values < f.params ∨ f.values > 50000 ∨ (f.blocks.map blockE).length = 0 ∨ (f.blocks.map blockE).length > 20000 ∨ insCount (f.blocks.map blockE) > 200000) = false
    rw [List.length_map, insCount_fold]; exact h
  · obtain ⟨c, hc, rfl⟩ := List.mem_map.1 (show b ∈ f.blocks.map blockE from hb)
    show (insL E0 c.ins).length ≤ 1000
    rw [insL_length]; exact hu.lens f hf c hc
  · obtain ⟨c, hc, rfl⟩ := List.mem_map.1 (show b ∈ f.blocks.map blockE from hb)
    obtain ⟨h1, h2⟩ := block_ok hu hf hc
    have hE : EnvK f.values (envE E0 c.ins) := EnvK.env c.ins (EnvK.e0 _) fun x hx => insK_p (h2 x hx)
    unfold blockBad
    simp only [Bool.or_eq_false_iff, Bool.not_eq_false', List.any_eq_false]
    refine ⟨?_, fun x hx => by have := insL_ok64 c.ins (EnvK.e0 f.values) h2 x hx; show ¬ ((!insOk u f.values x) = true); rw [this]; decide⟩
    show termOk ((f.blocks.map blockE).length) f.values (termE (envE E0 c.ins) c.term) = true
    rw [List.length_map]
    exact termOk_fold hE h1

/-! ### fold of what was folded -/
theorem insE_again {vals : Int} {E : Env} (h : EnvK vals E) (x : LIns) : insE E (insE E x) = insE E x := by
  rcases insE_or E x with ⟨_, e⟩ | ⟨hk, e⟩
  · rw [e]; exact insE_num rfl
  · have hs : subE E (subE E x) = subE E x := by
      obtain ⟨kind, d, a, b, op, n, nm, args⟩ := x
      unfold subE
      by_cases h1 : kind = 2 ∨ kind = 3 ∨ kind = 5 ∨ kind = 8
      · simp [h1, h.value2]
      · by_cases h2 : kind = 4 ∨ kind = 6
        · simp [h1, h2, h.value2]
        · by_cases h3 : kind = 9
          · simp [h3, h.value2]
          · simp [h1, h2, h3]
    rw [e]
    rcases insE_or E (subE E x) with ⟨hk2, _⟩ | ⟨_, e2⟩
    · rw [hs, hk] at hk2; cases hk2
    · rw [e2, hs]
theorem insL_again {vals : Int} : ∀ (l : List LIns) {E : Env}, EnvK vals E → (∀ x ∈ l, InsP vals x) → insL E (insL E l) = insL E l ∧ envE E (insL E l) = envE E l
  | [], _, _, _ => ⟨rfl, rfl⟩
  | x :: r, E, h, hl => by
    have hx := hl x (by simp)
    have ha := insE_again h x
    obtain ⟨h1, h2⟩ := insL_again r (h.learn hx) fun y hy => hl y (by simp [hy])
    constructor
    · show insE E (insE E x) :: insL (learnE E (insE E (insE E x))) (insL (learnE E (insE E x)) r) = insE E x :: insL (learnE E (insE E x)) r
      rw [ha, h1]
    · show envE (learnE E (insE E (insE E x))) (insL (learnE E (insE E x)) r) = envE (learnE E (insE E x)) r
      rw [ha, h2]
theorem termE_again {vals : Int} {E : Env} (h : EnvK vals E) (t : LTerm) : termE E (termE E t) = termE E t := by
  rcases termE_or E t with ⟨h1, e⟩ | ⟨_, _, e⟩ | ⟨h1, h2, e⟩
  · rw [e, e]
  · rw [e]; unfold termE; rw [if_pos rfl]
  · rw [e]
    unfold termE
    rw [if_neg h1]
    show (if isNum (E (valueE E (valueE E t.a))) = true ∧ t.kind = 2 then _ else _) = _
    rw [h.value2, if_neg h2]
theorem blockE_again {u : LUnit} (hu : UnitOk u) {f : LFlow} (hf : f ∈ u.flows) {b : LBlock} (hb : b ∈ f.blocks) : blockE (blockE b) = blockE b := by
  obtain ⟨_, h2⟩ := block_ok hu hf hb
  obtain ⟨h3, h4⟩ := insL_again b.ins (EnvK.e0 f.values) fun x hx => insK_p (h2 x hx)
  have hE : EnvK f.values (envE E0 b.ins) := EnvK.env b.ins (EnvK.e0 _) fun x hx => insK_p (h2 x hx)
  show LBlock.mk (insL E0 (insL E0 b.ins)) (termE (envE E0 (insL E0 b.ins)) (termE (envE E0 b.ins) b.term)) = _
  rw [h3, h4, termE_again hE]; rfl
/-- fold of what was folded is itself -/
theorem foldE_again {u : LUnit} (hu : UnitOk u) : foldE (foldE u) = foldE u := by
  unfold foldE
  simp only [List.map_map]
  congr 1
  refine List.map_congr_left fun f hf => ?_
  show LFlow.mk f.name f.params f.values ((f.blocks.map blockE).map blockE) = LFlow.mk f.name f.params f.values (f.blocks.map blockE)
  rw [List.map_map]
  congr 1
  exact List.map_congr_left fun b hb => blockE_again hu hf hb
/-! ### how much is known -/
/-- how many instructions of a unit set a number, and how many ends are no choice -/
def numsB (b : LBlock) : Nat := (b.ins.filter fun x => decide (x.kind = 1)).length
def endsB (b : LBlock) : Nat := if b.term.kind ≠ 2 then 1 else 0
def allBlocks (u : LUnit) : List LBlock := (u.flows.map (·.blocks)).flatten
def knownA (u : LUnit) : Nat := ((allBlocks u).map numsB).sum
def knownB (u : LUnit) : Nat := ((allBlocks u).map endsB).sum
theorem nums_le : ∀ (l : List LIns) (E : Env), (l.filter fun x => decide (x.kind = 1)).length ≤ ((insL E l).filter fun x => decide (x.kind = 1)).length
  | [], _ => Nat.le_refl _
  | x :: r, E => by
    show _ ≤ ((insE E x :: insL (learnE E (insE E x)) r).filter fun x => decide (x.kind = 1)).length
    have h := nums_le r (learnE E (insE E x))
    by_cases hk : x.kind = 1
    · rw [insE_num hk] at h ⊢
      rw [List.filter_cons_of_pos (by simpa using hk), List.filter_cons_of_pos (by simpa using hk)]
      simp only [List.length_cons]; omega
    · rw [List.filter_cons_of_neg (by simpa using hk)]
      by_cases hk2 : (insE E x).kind = 1
      · rw [List.filter_cons_of_pos (by simpa using hk2)]
        simp only [List.length_cons]; omega
      · rw [List.filter_cons_of_neg (by simpa using hk2)]; exact h
theorem termE_kind (E : Env) (t : LTerm) : (termE E t).kind = t.kind ∨ (t.kind = 2 ∧ (termE E t).kind = 1 ∧ ((termE E t).to = t.to ∨ (termE E t).to = t.els)) := by
  rcases termE_or E t with ⟨_, e⟩ | ⟨h2, _, e⟩ | ⟨_, _, e⟩ <;> rw [e]
  · exact .inl rfl
  · refine .inr ⟨h2, rfl, ?_⟩
    show (if _ then t.els else t.to) = _ ∨ (if _ then t.els else t.to) = _
    split
    · exact .inr rfl
    · exact .inl rfl
  · exact .inl rfl
theorem ends_le (b : LBlock) : endsB b ≤ endsB (blockE b) := by
  unfold endsB
  show _ ≤ if (termE (envE E0 b.ins) b.term).kind ≠ 2 then 1 else 0
  rcases termE_kind (envE E0 b.ins) b.term with h | ⟨h1, h2, _⟩
  · rw [h]; exact Nat.le_refl _
  · rw [if_neg (by simp [h1])]; exact Nat.zero_le _
theorem blocks_fold (u : LUnit) : allBlocks (foldE u) = (allBlocks u).map blockE := by
  unfold allBlocks
  show ((u.flows.map flowE).map (·.blocks)).flatten = _
  rw [List.map_flatten, List.map_map, List.map_map]; rfl
theorem sum_le {α : Type} {f g : α → Nat} (h : ∀ a, f a ≤ g a) : ∀ l : List α, (l.map f).sum ≤ (l.map g).sum
  | [] => Nat.le_refl _
  | a :: l => by
    have := h a
    have := sum_le h l
    simp only [List.map_cons, List.sum_cons]; omega
theorem known_le (u : LUnit) : knownA u ≤ knownA (foldE u) ∧ knownB u ≤ knownB (foldE u) := by
  unfold knownA knownB
  rw [blocks_fold, List.map_map, List.map_map]
  exact ⟨sum_le (fun b : LBlock => nums_le b.ins E0) _, sum_le (fun b => ends_le b) _⟩
end Go.Proofs.YtnpnhdmfdhnmfaaGreatDoor
