/- Dead in plain words: a unit that Dead made may be, Dead of it is itself, and it does what it did, with as many steps, or fewer; blocks that nobody leads to, and numbers that nobody wants, are left out again; what does more than set a value stays. -/
import Derived.Test.YtkpigkopjfkepaaGreatDoorPbSetsA
import Derived.Test.YtkpigkopjfkepaaGreatDoorPbFlowVisit
import Derived.Test.YtkpigkopjfkepaaGreatDoorPbMoreS
namespace Go.Proofs.YtkpigkopjfkepaaGreatDoor

/-! ### Dead in plain words -/
/-- does an instruction nothing but set a value -/
def harmB (x : LIns) : Bool := decide (x.kind = 1 ∨ x.kind = 2 ∨ x.kind = 3 ∨ (x.kind = 4 ∧ x.op ≠ 4 ∧ x.op ≠ 5))
/-- may an instruction be left out where W is wanted behind it -/
def idleB (W : Int → Bool) (x : LIns) : Bool := decide (x.kind = 2 ∧ x.a = x.d) || (harmB x && !W x.d)
theorem idle_iff {W : Int → Bool} {x : LIns} : idleB W x = true ↔ IdleL W x := by
  unfold idleB harmB IdleL
  simp only [Bool.or_eq_true, Bool.and_eq_true, decide_eq_true_eq, Bool.not_eq_true']
/-- a row without idle instructions; S is wanted behind it -/
def sweepI (S : Int → Bool) : List LIns → List LIns
  | [] => []
  | x :: l => if idleB (stepsS l S) x = true then sweepI S l else x :: sweepI S l
def sweepB (L : Nat → Int → Bool) (b : LBlock) : LBlock := ⟨sweepI (endS b.term L) b.ins, b.term⟩
noncomputable def sweepF (f : LFlow) : LFlow := { f with blocks := f.blocks.map (sweepB (liveS f)) }
noncomputable def sweeps : Nat → LFlow → LFlow
  | 0, f => f
  | n + 1, f => sweeps n (sweepF f)
/-- a function, swept until there is nothing to sweep -/
noncomputable def sweptF (f : LFlow) : LFlow := sweeps (insCount f.blocks) f
open Classical in
/-- is block k come to -/
noncomputable def comeB (f : LFlow) (k : Nat) : Bool := decide (∀ C : Nat → Prop, (∀ p, C p → ∀ s ∈ succF f p, C s.toNat) → C 0 → C k)
/-- how many blocks that are come to stand ahead of block k -/
noncomputable def placeN (f : LFlow) (k : Nat) : Nat := ((List.range k).filter (comeB f)).length
noncomputable def trimR (f : LFlow) : Renum := ⟨fun k => comeB f k.toNat = true, fun k => (placeN f k.toNat : Int), id⟩
/-- the blocks that are come to -/
noncomputable def comeL (f : LFlow) : List LBlock := ((List.range f.blocks.length).filter (comeB f)).filterMap fun i => f.blocks[i]?
noncomputable def trimF (f : LFlow) : LFlow := { f with blocks := (comeL f).map (renBlock (trimR f)) }
noncomputable def deadF (f : LFlow) : LFlow := trimF (sweptF f)
noncomputable def deadE (u : LUnit) : LUnit := mapU deadF u

/-! ### one sweep -/
theorem sweepI_le (S : Int → Bool) : ∀ l : List LIns, (sweepI S l).length ≤ l.length
  | [] => Nat.le_refl _
  | x :: l => by
    unfold sweepI
    have := sweepI_le S l
    split <;> simp only [List.length_cons] <;> omega
theorem sweepI_same {S : Int → Bool} : ∀ {l : List LIns}, (sweepI S l).length = l.length → sweepI S l = l
  | [], _ => rfl
  | x :: l, h => by
    unfold sweepI at h ⊢
    have := sweepI_le S l
    split at h
    · simp only [List.length_cons] at h; omega
    · rename_i hx
      rw [if_neg hx, sweepI_same (by simpa using h)]
theorem sweepI_mem {S : Int → Bool} : ∀ {l : List LIns} {x : LIns}, x ∈ sweepI S l → x ∈ l
  | [], x, h => by simp [sweepI] at h
  | y :: l, x, h => by
    unfold sweepI at h
    split at h
    · exact List.mem_cons_of_mem _ (sweepI_mem h)
    · rcases List.mem_cons.1 h with rfl | h
      · exact List.mem_cons_self
      · exact List.mem_cons_of_mem _ (sweepI_mem h)
theorem sweep_len (f : LFlow) : (sweepF f).blocks.length = f.blocks.length := by simp [sweepF]
theorem insCount_cons (b : LBlock) (l : List LBlock) : insCount (b :: l) = b.ins.length + insCount l := by simp [insCount]
theorem insCountLe : ∀ {l l' : List LBlock}, l'.length = l.length → (∀ i (h : i < l.length) (h' : i < l'.length), l'[i].ins.length ≤ l[i].ins.length) → insCount l' ≤ insCount l
  | [], [], _, _ => Nat.le_refl _
  | [], _ :: _, h, _ => by simp at h
  | _ :: _, [], h, _ => by simp at h
  | b :: l, b' :: l', hl, h => by
    rw [insCount_cons, insCount_cons]
    have h0 := h 0 (by simp) (by simp)
    have := insCountLe (l := l) (l' := l') (by simpa using hl) fun i h1 h2 => by have := h (i + 1) (by simpa using h1) (by simpa using h2); simpa using this
    simp only [List.getElem_cons_zero] at h0
    omega
theorem insCount_sweep : ∀ (L : Nat → Int → Bool) (l : List LBlock), insCount (l.map (sweepB L)) ≤ insCount l := fun L l =>
  insCountLe (by simp) fun i h h' => by rw [List.getElem_map]; exact sweepI_le _ _
theorem map_same {L : Nat → Int → Bool} : ∀ {l : List LBlock}, insCount (l.map (sweepB L)) = insCount l → l.map (sweepB L) = l
  | [], _ => rfl
  | b :: l, h => by
    rw [List.map_cons, insCount_cons, insCount_cons] at h
    have h1 := insCount_sweep L l
    have h2 : (sweepB L b).ins.length ≤ b.ins.length := sweepI_le _ _
    have h3 : (sweepB L b).ins.length = b.ins.length := by omega
    rw [List.map_cons, map_same (by omega)]
    have : sweepB L b = b := by
      have := sweepI_same (S := endS b.term L) (l := b.ins) h3
      unfold sweepB
      rw [this]
    rw [this]
theorem sweep_le (f : LFlow) : insCount (sweepF f).blocks ≤ insCount f.blocks := insCount_sweep _ _
theorem sweep_same {f : LFlow} (h : insCount (sweepF f).blocks = insCount f.blocks) : sweepF f = f := by
  have := map_same (L := liveS f) (l := f.blocks) h
  unfold sweepF
  rw [this]
theorem sweeps_same {f : LFlow} (h : sweepF f = f) : ∀ n, sweeps n f = f
  | 0 => rfl
  | n + 1 => by show sweeps n (sweepF f) = f; rw [h]; exact sweeps_same h n
theorem sweeps_enough : ∀ (m n : Nat) (f : LFlow), insCount f.blocks ≤ n → n ≤ m → sweeps m f = sweeps n f
  | 0, n, f, _, h2 => by
    have : n = 0 := by omega
    rw [this]
  | m + 1, 0, f, h1, _ => by
    have := sweep_le f
    exact sweeps_same (sweep_same (by omega)) _
  | m + 1, n + 1, f, h1, h2 => by
    by_cases e : insCount (sweepF f).blocks = insCount f.blocks
    · have := sweep_same e
      rw [sweeps_same this, sweeps_same this]
    · show sweeps m (sweepF f) = sweeps n (sweepF f)
      have := sweep_le f
      exact sweeps_enough m n _ (by omega) (by omega)
theorem swept_eq {f : LFlow} {n : Nat} (h : insCount f.blocks ≤ n) : sweeps n f = sweptF f := sweeps_enough n _ f (Nat.le_refl _) h
theorem swept_sweep (f : LFlow) : sweptF (sweepF f) = sweptF f := by
  have h := sweep_le f
  rw [← swept_eq (f := f) (n := insCount f.blocks + 1) (by omega)]
  show _ = sweeps (insCount f.blocks) (sweepF f)
  rw [swept_eq h]
theorem swept_self {f : LFlow} (h : sweepF f = f) : sweptF f = f := sweeps_same h _
/-- what holds of a function, and is kept by a sweep, holds of what is swept -/
theorem sweeps_ind {Q : LFlow → Prop} (h : ∀ f, Q f → Q (sweepF f)) : ∀ (n : Nat) (f : LFlow), Q f → Q (sweeps n f)
  | 0, _, hf => hf
  | n + 1, f, hf => sweeps_ind h n _ (h f hf)
theorem swept_ind {Q : LFlow → Prop} (h : ∀ f, Q f → Q (sweepF f)) (f : LFlow) (hf : Q f) : Q (sweptF f) := sweeps_ind h _ f hf
theorem swept_le (f : LFlow) : insCount (sweptF f).blocks ≤ insCount f.blocks := swept_ind (Q := fun g => insCount g.blocks ≤ insCount f.blocks) (fun g h => Nat.le_trans (sweep_le g) h) f (Nat.le_refl _)
/-- the ends are what they were -/
structure Ends (f g : LFlow) : Prop where
  name : g.name = f.name
  params : g.params = f.params
  values : g.values = f.values
  len : g.blocks.length = f.blocks.length
  term : ∀ i (h : i < f.blocks.length) (h' : i < g.blocks.length), g.blocks[i].term = f.blocks[i].term
  mem : ∀ i (h : i < f.blocks.length) (h' : i < g.blocks.length), ∀ x ∈ g.blocks[i].ins, x ∈ f.blocks[i].ins
  le : ∀ i (h : i < f.blocks.length) (h' : i < g.blocks.length), g.blocks[i].ins.length ≤ f.blocks[i].ins.length
theorem Ends.refl (f : LFlow) : Ends f f := ⟨rfl, rfl, rfl, rfl, fun _ _ _ => rfl, fun _ _ _ _ h => h, fun _ _ _ => Nat.le_refl _⟩
theorem Ends.trans {f g h : LFlow} (a : Ends f g) (b : Ends g h) : Ends f h :=
  ⟨b.name.trans a.name, b.params.trans a.params, b.values.trans a.values, b.len.trans a.len, fun i h1 h2 => (b.term i (by rw [a.len]; exact h1) h2).trans (a.term i h1 (by rw [a.len]; exact h1)),
    fun i h1 h2 x hx => a.mem i h1 (by rw [a.len]; exact h1) x (b.mem i (by rw [a.len]; exact h1) h2 x hx), fun i h1 h2 => Nat.le_trans (b.le i (by rw [a.len]; exact h1) h2) (a.le i h1 (by rw [a.len]; exact h1))⟩
theorem ends_sweep (f : LFlow) : Ends f (sweepF f) :=
  ⟨rfl, rfl, rfl, sweep_len f, fun i h h' => by simp [sweepF, sweepB], fun i h h' x hx => by simp only [sweepF, List.getElem_map] at hx; exact sweepI_mem hx, fun i h h' => by simp only [sweepF, List.getElem_map]; exact sweepI_le _ _⟩
theorem ends_sweeps : ∀ (n : Nat) (f : LFlow), Ends f (sweeps n f)
  | 0, f => .refl f
  | n + 1, f => (ends_sweep f).trans (ends_sweeps n _)
theorem ends_swept (f : LFlow) : Ends f (sweptF f) := ends_sweeps _ f

/-! ### the order in which idle instructions are left out makes no difference -/
/-- f' is f without some idle instructions -/
structure Om (f f' : LFlow) : Prop where
  name : f'.name = f.name
  params : f'.params = f.params
  values : f'.values = f.values
  len : f'.blocks.length = f.blocks.length
  term : ∀ i (h : i < f.blocks.length) (h' : i < f'.blocks.length), f'.blocks[i].term = f.blocks[i].term
  thin : ∀ i (h : i < f.blocks.length) (h' : i < f'.blocks.length), Thin (endS f.blocks[i].term (liveS f)) f.blocks[i].ins f'.blocks[i].ins
theorem idle_sets {W : Int → Bool} {x : LIns} (h : IdleL W x) : setsL x = [x.d] := by
  unfold IdleL at h
  unfold setsL
  rw [if_neg (by omega)]
theorem idle_keeps {W : Int → Bool} {x : LIns} (h : IdleL W x) (v : Int) (hv : W v = true) : stepS W x v = true := by
  rw [stepS_iff]
  by_cases e : v = x.d
  · subst e
    rcases h with ⟨hk, ha⟩ | ⟨_, hw⟩
    · left; unfold usesL hasA; simp [hk, ha]
    · rw [hw] at hv; cases hv
  · right
    refine ⟨?_, hv⟩
    rw [idle_sets h]; simpa using e
theorem idle_mono {W W' : Int → Bool} {x : LIns} (hw : ∀ v, W' v = true → W v = true) (h : IdleL W x) : IdleL W' x := by
  rcases h with h | ⟨h1, h2⟩
  · exact .inl h
  · refine .inr ⟨h1, ?_⟩
    cases e : W' x.d with
    | false => rfl
    | true => rw [hw _ e] at h2; cases h2
theorem thin_le {S : Int → Bool} {l l' : List LIns} (h : Thin S l l') : ∀ v, stepsS l' S v = true → stepsS l S v = true := by
  induction h with
  | nil => exact fun _ h => h
  | keep x l l' _ ih => exact stepS_mono ih x
  | drop x l l' hx _ ih => exact fun v hv => idle_keeps hx v (ih v hv)
theorem thin_same {S : Int → Bool} {l l' : List LIns} (h : Thin S l l') (hl : l'.length = l.length) : l' = l := by
  induction h with
  | nil => rfl
  | keep x l l' _ ih => rw [ih (by simpa using hl)]
  | drop x l l' _ h ih => have := h.le; simp only [List.length_cons] at hl; omega
theorem thin_sweep {S S' : Int → Bool} (hs : ∀ v, S' v = true → S v = true) {l l' : List LIns} (h : Thin S l l') : Thin S' l' (sweepI S l) := by
  induction h with
  | nil => exact .nil
  | keep x l l' ht ih =>
    unfold sweepI
    split
    · rename_i hx
      exact .drop x _ _ (idle_mono (fun v hv => thin_le ht v (stepsS_mono hs l' v hv)) (idle_iff.1 hx)) ih
    · exact .keep x _ _ ih
  | drop x l l' hx _ ih =>
    unfold sweepI
    rw [if_pos (idle_iff.2 hx)]
    exact ih
theorem om_live {f f' : LFlow} (h : Om f f') (i : Nat) (v : Int) (hv : liveS f' i v = true) : liveS f i v = true := by
  refine liveS_le (f := f') (L := liveS f) (fun i hi v hv => ?_) i v hv
  have hi' : i < f.blocks.length := by rw [← h.len]; exact hi
  refine liveS_pre f i hi' v ?_
  unfold transS at hv ⊢
  rw [h.term i hi' hi] at hv
  exact thin_le (h.thin i hi' hi) v hv
theorem om_next {f f' : LFlow} (h : Om f f') : Om f' (sweepF f) := by
  have hl : (sweepF f).blocks.length = f'.blocks.length := by rw [sweep_len, h.len]
  refine ⟨h.name.symm, h.params.symm, h.values.symm, hl, fun i h1 h2 => ?_, fun i h1 h2 => ?_⟩
  · have h0 : i < f.blocks.length := by rw [← h.len]; exact h1
    rw [(ends_sweep f).term i h0 h2, h.term i h0 h1]
  · have h0 : i < f.blocks.length := by rw [← h.len]; exact h1
    have := h.thin i h0 h1
    simp only [sweepF, List.getElem_map]
    rw [h.term i h0 h1]
    exact thin_sweep (fun v hv => endS_mono (om_live h) _ v hv) this
theorem om_le {f f' : LFlow} (h : Om f f') : insCount f'.blocks ≤ insCount f.blocks := insCountLe h.len fun i h1 h2 => (h.thin i h1 h2).le
theorem insCount_same : ∀ {l l' : List LBlock}, l'.length = l.length → (∀ i (h : i < l.length) (h' : i < l'.length), l'[i].ins.length ≤ l[i].ins.length) → insCount l' = insCount l → ∀ i (h : i < l.length) (h' : i < l'.length), l'[i].ins.length = l[i].ins.length
  | [], _, _, _, _, i, h, _ => by simp at h
  | _ :: _, [], hl, _, _, _, _, _ => by simp at hl
  | b :: l, b' :: l', hl, hle, he, i, h, h' => by
    rw [insCount_cons, insCount_cons] at he
    have h0 := hle 0 (by simp) (by simp)
    simp only [List.getElem_cons_zero] at h0
    have hr : ∀ i (h : i < l.length) (h' : i < l'.length), l'[i].ins.length ≤ l[i].ins.length := fun i h1 h2 => by have := hle (i + 1) (by simpa using h1) (by simpa using h2); simpa using this
    have h1 := insCountLe (l := l) (l' := l') (by simpa using hl) hr
    cases i with
    | zero => simp only [List.getElem_cons_zero]; omega
    | succ i => simp only [List.getElem_cons_succ]; exact insCount_same (by simpa using hl) hr (by omega) i (by simpa using h) (by simpa using h')
theorem om_same {f f' : LFlow} (h : Om f f') (he : insCount f'.blocks = insCount f.blocks) : f' = f := by
  have hb : f'.blocks = f.blocks := by
    refine List.ext_getElem h.len fun i h2 h1 => ?_
    have e := insCount_same h.len (fun i h1 h2 => (h.thin i h1 h2).le) he i h1 h2
    have e2 := thin_same (h.thin i h1 h2) e
    have e3 := h.term i h1 h2
    cases e4 : f'.blocks[i] with
    | mk i' t' =>
      cases e5 : f.blocks[i] with
      | mk i0 t0 => rw [e4, e5] at e2 e3; simp only at e2 e3; rw [e2, e3]
  cases f; cases f'
  have h1 := h.name; have h2 := h.params; have h3 := h.values
  simp only at h1 h2 h3 hb
  subst h1 h2 h3 hb
  rfl
theorem om_swept : ∀ (n : Nat) {f f' : LFlow}, insCount f.blocks ≤ n → Om f f' → sweptF f' = sweptF f
  | 0, f, f', hn, h => by
    have := om_le h
    rw [om_same h (by omega)]
  | n + 1, f, f', hn, h => by
    by_cases e : insCount f'.blocks = insCount f.blocks
    · rw [om_same h e]
    · have := om_le h
      rw [← swept_sweep f]
      exact (om_swept n (f := f') (by omega) (om_next h)).symm

/-! ### another number of values -/
def vals (f : LFlow) (n : Int) : LFlow := { f with values := n }
theorem sweep_vals (f : LFlow) (n : Int) : sweepF (vals f n) = vals (sweepF f) n := rfl
theorem sweeps_vals : ∀ (m : Nat) (f : LFlow) (n : Int), sweeps m (vals f n) = vals (sweeps m f) n
  | 0, _, _ => rfl
  | m + 1, f, n => by show sweeps m (sweepF (vals f n)) = _; rw [sweep_vals, sweeps_vals m]; rfl
theorem swept_vals (f : LFlow) (n : Int) : sweptF (vals f n) = vals (sweptF f) n := sweeps_vals _ f n
theorem trim_vals (f : LFlow) (n : Int) : trimF (vals f n) = vals (trimF f) n := rfl
theorem dead_vals (f : LFlow) (n : Int) : deadF (vals f n) = vals (deadF f) n := by unfold deadF; rw [swept_vals, trim_vals]

/-! ### the blocks that are come to -/
theorem come_iff {f : LFlow} {k : Nat} : comeB f k = true ↔ ∀ C : Nat → Prop, (∀ p, C p → ∀ s ∈ succF f p, C s.toNat) → C 0 → C k := by
  classical
  unfold comeB
  rw [decide_eq_true_eq]
theorem come_zero (f : LFlow) : comeB f 0 = true := come_iff.2 fun _ _ h => h
theorem come_next {f : LFlow} {p : Nat} (h : comeB f p = true) {s : Int} (hs : s ∈ succF f p) : comeB f s.toNat = true :=
  come_iff.2 fun C hc h0 => hc p (come_iff.1 h C hc h0) s hs
theorem come_least {f : LFlow} {C : Nat → Prop} (hc : ∀ p, comeB f p = true → C p → ∀ s ∈ succF f p, C s.toNat) (h0 : C 0) {k : Nat} (h : comeB f k = true) : C k :=
  (come_iff.1 h (fun p => comeB f p = true ∧ C p) (fun p hp s hs => ⟨come_next hp.1 hs, hc p hp.1 hp.2 s hs⟩) ⟨come_zero f, h0⟩).2
theorem come_visited {f : LFlow} {M : List Bool} (h : Visited (succF f) 0 (List.replicate f.blocks.length false) M) (k : Nat) : M[k]? = some true ↔ comeB f k = true := by
  have hno : ∀ k : Nat, (List.replicate f.blocks.length false)[k]? ≠ some true := fun k h => by rw [List.getElem?_replicate] at h; split at h <;> simp at h
  refine ⟨fun hk => come_iff.2 fun C hc h0 => h.least C hc h0 (fun k hk => absurd hk (hno k)) k hk, fun hk => come_iff.1 hk (fun k => M[k]? = some true) (fun p hp => h.closed p hp (hno p)) h.at_⟩
theorem succ_at {f : LFlow} {k : Nat} (h : k < f.blocks.length) : succF f k = nextL f.blocks[k].term := by unfold succF; rw [List.getElem?_eq_getElem h]
theorem succ_out {f : LFlow} {k : Nat} (h : f.blocks.length ≤ k) : succF f k = [] := by unfold succF; rw [List.getElem?_eq_none h]
/-- ends lead to blocks that there are -/
def NextOk (f : LFlow) : Prop := 0 < f.blocks.length ∧ ∀ b ∈ f.blocks, ∀ k ∈ nextL b.term, 0 ≤ k ∧ k < (f.blocks.length : Int)
theorem next_of {f : LFlow} (h : NextOk f) {p : Nat} {s : Int} (hs : s ∈ succF f p) : 0 ≤ s ∧ s.toNat < f.blocks.length := by
  by_cases hp : p < f.blocks.length
  · rw [succ_at hp] at hs
    have := h.2 _ (List.getElem_mem hp) s hs
    omega
  · rw [succ_out (by omega)] at hs; simp at hs
theorem come_lt {f : LFlow} (h : NextOk f) {k : Nat} (hk : comeB f k = true) : k < f.blocks.length :=
  come_least (C := fun k => k < f.blocks.length) (fun _ _ _ _ hs => (next_of h hs).2) h.1 hk
theorem next_ends {f g : LFlow} (h : Ends f g) (hf : NextOk f) : NextOk g := by
  refine ⟨by rw [h.len]; exact hf.1, fun b hb k hk => ?_⟩
  obtain ⟨i, hi, rfl⟩ := List.getElem_of_mem hb
  have hi' : i < f.blocks.length := by rw [← h.len]; exact hi
  rw [h.term i hi' hi] at hk
  rw [h.len]
  exact hf.2 _ (List.getElem_mem hi') k hk
theorem succ_ends {f g : LFlow} (h : Ends f g) : succF g = succF f := by
  funext k
  by_cases hk : k < f.blocks.length
  · rw [succ_at hk, succ_at (by rw [h.len]; exact hk), h.term k hk]
  · have e1 : f.blocks.length ≤ k := by omega
    have e2 : g.blocks.length ≤ k := by rw [h.len]; exact e1
    rw [succ_out e1, succ_out e2]
theorem come_ends {f g : LFlow} (h : Ends f g) : comeB g = comeB f := by
  funext k
  unfold comeB
  rw [succ_ends h]
theorem place_ends {f g : LFlow} (h : Ends f g) : placeN g = placeN f := by
  funext k
  unfold placeN
  rw [come_ends h]
theorem place_zero (f : LFlow) : placeN f 0 = 0 := by simp [placeN]
theorem place_succ (f : LFlow) (k : Nat) : placeN f (k + 1) = placeN f k + (if comeB f k = true then 1 else 0) := by
  unfold placeN
  rw [List.range_succ, List.filter_append, List.length_append]
  congr 1
  by_cases h : comeB f k = true
  · rw [if_pos h]; simp [h]
  · rw [if_neg h]; simp [h]
theorem place_mono (f : LFlow) {j k : Nat} (h : j ≤ k) : placeN f j ≤ placeN f k := by
  obtain ⟨d, rfl⟩ := Nat.le.dest h
  induction d with
  | zero => exact Nat.le_refl _
  | succ d ih => rw [show j + (d + 1) = j + d + 1 by omega, place_succ]; have := ih (by omega); omega
theorem place_lt (f : LFlow) {j k : Nat} (hj : comeB f j = true) (h : j < k) : placeN f j < placeN f k := by
  have := place_mono f (show j + 1 ≤ k by omega)
  rw [place_succ, if_pos hj] at this
  omega
/-- a list of the numbers below n that are come to, and the place of each -/
theorem come_filter (f : LFlow) : ∀ n k, k < n → comeB f k = true → ((List.range n).filter (comeB f))[placeN f k]? = some k
  | 0, k, h, _ => by omega
  | n + 1, k, h, hk => by
    rw [List.range_succ, List.filter_append]
    by_cases e : k = n
    · subst e
      rw [List.getElem?_append_right (by unfold placeN; exact Nat.le_refl _)]
      unfold placeN
      simp [hk]
    · have ih := come_filter f n k (by omega) hk
      rw [List.getElem?_append_left (List.getElem?_eq_some_iff.1 ih).1]
      exact ih
theorem filterMap_some {α β : Type} (p : α → Option β) (q : α → β) : ∀ l : List α, (∀ a ∈ l, p a = some (q a)) → l.filterMap p = l.map q
  | [], _ => rfl
  | a :: l, h => by rw [List.filterMap_cons, h a (by simp), List.map_cons, filterMap_some p q l fun b hb => h b (by simp [hb])]
theorem comeL_len (f : LFlow) : (comeL f).length = placeN f f.blocks.length := by
  unfold comeL placeN
  by_cases h0 : 0 < f.blocks.length
  · rw [filterMap_some (fun i => f.blocks[i]?) (fun i => f.blocks.getD i ⟨[], ⟨0, 0, 0, 0⟩⟩), List.length_map]
    intro a ha
    rw [List.mem_filter, List.mem_range] at ha
    simp [List.getD, ha.1]
  · rw [show f.blocks.length = 0 by omega]; simp
theorem comeL_at {f : LFlow} {k : Nat} (h : k < f.blocks.length) (hk : comeB f k = true) : (comeL f)[placeN f k]? = some f.blocks[k] := by
  unfold comeL
  rw [filterMap_some (fun i => f.blocks[i]?) (fun i => f.blocks.getD i ⟨[], ⟨0, 0, 0, 0⟩⟩), List.getElem?_map, come_filter f _ k h hk]
  · simp [h]
  · intro a ha
    rw [List.mem_filter, List.mem_range] at ha
    simp [List.getD, ha.1]
theorem comeL_mem {f : LFlow} {b : LBlock} (h : b ∈ comeL f) : ∃ k, ∃ hk : k < f.blocks.length, comeB f k = true ∧ b = f.blocks[k] := by
  unfold comeL at h
  rw [List.mem_filterMap] at h
  obtain ⟨k, hk, e⟩ := h
  rw [List.mem_filter, List.mem_range] at hk
  rw [List.getElem?_eq_getElem hk.1] at e
  exact ⟨k, hk.1, hk.2, by injection e with e; exact e.symm⟩
theorem come_place {f : LFlow} {j : Nat} (h : j < placeN f f.blocks.length) : ∃ k, k < f.blocks.length ∧ comeB f k = true ∧ placeN f k = j := by
  have key : ∀ n, j < placeN f n → ∃ k, k < n ∧ comeB f k = true ∧ placeN f k = j := by
    intro n
    induction n with
    | zero => intro h; rw [place_zero] at h; omega
    | succ n ih =>
      intro h
      rw [place_succ] at h
      by_cases e : comeB f n = true
      · rw [if_pos e] at h
        by_cases e2 : j = placeN f n
        · exact ⟨n, by omega, e, e2.symm⟩
        · obtain ⟨k, h1, h2, h3⟩ := ih (by omega)
          exact ⟨k, by omega, h2, h3⟩
      · rw [if_neg e] at h
        obtain ⟨k, h1, h2, h3⟩ := ih (by omega)
        exact ⟨k, by omega, h2, h3⟩
  exact key _ h
theorem trim_len (f : LFlow) : (trimF f).blocks.length = placeN f f.blocks.length := by show ((comeL f).map _).length = _; rw [List.length_map, comeL_len]
theorem trim_at {f : LFlow} {k : Nat} (h : k < f.blocks.length) (hk : comeB f k = true) : (trimF f).blocks[placeN f k]? = some (renBlock (trimR f) f.blocks[k]) := by
  show ((comeL f).map _)[_]? = _
  rw [List.getElem?_map, comeL_at h hk]; rfl
/-- each block of what is trimmed is one that is come to -/
theorem trim_from {f : LFlow} {j : Nat} (h : j < (trimF f).blocks.length) : ∃ k, ∃ hk : k < f.blocks.length, comeB f k = true ∧ placeN f k = j ∧ (trimF f).blocks[j] = renBlock (trimR f) f.blocks[k] := by
  obtain ⟨k, h1, h2, h3⟩ := come_place (f := f) (j := j) (by rw [← trim_len]; exact h)
  refine ⟨k, h1, h2, h3, ?_⟩
  have := trim_at h1 h2
  rw [h3, List.getElem?_eq_getElem h] at this
  injection this
theorem renB_ins {f : LFlow} (b : LBlock) : (renBlock (trimR f) b).ins = b.ins := by
  unfold renBlock
  show b.ins.map (renIns (trimR f)) = b.ins
  conv => rhs; rw [← List.map_id b.ins]
  refine List.map_congr_left fun x _ => ?_
  unfold renIns trimR
  simp
theorem renT_kind (f : LFlow) (t : LTerm) : (renTerm (trimR f) t).kind = t.kind ∧ (renTerm (trimR f) t).a = t.a := by
  unfold renTerm trimR
  refine ⟨rfl, ?_⟩
  show (if t.kind = 1 then t.a else t.a) = t.a
  split <;> rfl
theorem next_come {f : LFlow} (hn : NextOk f) {k : Nat} (h : k < f.blocks.length) (hk : comeB f k = true) : ∀ s ∈ nextL f.blocks[k].term, 0 ≤ s ∧ comeB f s.toNat = true := fun s hs => by
  rw [← succ_at h] at hs
  exact ⟨(next_of hn hs).1, come_next hk hs⟩
theorem all_place {g : LFlow} (h : ∀ j, j < g.blocks.length → comeB g j = true) : ∀ k, k ≤ g.blocks.length → placeN g k = k
  | 0, _ => place_zero g
  | k + 1, hk => by rw [place_succ, if_pos (h k (by omega)), all_place h k (by omega)]
/-- where each block is come to nothing is trimmed -/
theorem trim_id {g : LFlow} (hn : NextOk g) (h : ∀ j, j < g.blocks.length → comeB g j = true) : trimF g = g := by
  have hb : (trimF g).blocks = g.blocks := by
    refine List.ext_getElem (by rw [trim_len, all_place h _ (Nat.le_refl _)]) fun j h1 h2 => ?_
    have h3 := trim_at h2 (h j h2)
    rw [all_place h j (by omega), List.getElem?_eq_getElem h1] at h3
    injection h3 with h3
    rw [h3]
    have hnx : ∀ k ∈ nextL g.blocks[j].term, 0 ≤ k ∧ k < (g.blocks.length : Int) := hn.2 _ (List.getElem_mem h2)
    have ep : ∀ k : Int, 0 ≤ k → k < (g.blocks.length : Int) → (placeN g k.toNat : Int) = k := fun k h0 h1 => by rw [all_place h _ (by omega)]; omega
    have et : renTerm (trimR g) g.blocks[j].term = g.blocks[j].term := by
      obtain ⟨k1, k2⟩ := renT_kind g g.blocks[j].term
      have e3 : (renTerm (trimR g) g.blocks[j].term).to = g.blocks[j].term.to := by
        show (if _ then _ else _) = _
        split
        · rename_i hk
          have := hnx _ (nextL_to hk)
          exact ep _ this.1 this.2
        · rfl
      have e4 : (renTerm (trimR g) g.blocks[j].term).els = g.blocks[j].term.els := by
        show (if _ then _ else _) = _
        split
        · rename_i hk
          have := hnx _ (nextL_els hk)
          exact ep _ this.1 this.2
        · rfl
      cases e5 : renTerm (trimR g) g.blocks[j].term with
      | mk a b c d =>
        cases e6 : g.blocks[j].term with
        | mk a' b' c' d' =>
          rw [e5, e6] at e3 e4
          rw [e5, e6] at k1 k2
          simp only at e3 e4 k1 k2
          rw [k1, k2, e3, e4]
    show (⟨(renBlock (trimR g) g.blocks[j]).ins, renTerm (trimR g) g.blocks[j].term⟩ : LBlock) = _
    rw [renB_ins, et]
  unfold trimF
  unfold trimF at hb
  rw [show (comeL g).map (renBlock (trimR g)) = g.blocks from hb]

/-! ### a unit that Dead made may be, and Dead of it is itself -/
theorem next_unit {u : LUnit} (hu : UnitOk u) {f : LFlow} (hf : f ∈ u.flows) : NextOk f := by
  refine ⟨(flow_ok hu hf).2.2.2.2.1, fun b hb k hk => ?_⟩
  have ht := termK_of (block_ok hu hf hb).1
  unfold nextL at hk
  by_cases e : b.term.kind = 2 ∧ b.term.to ≠ b.term.els
  · rw [if_pos e] at hk
    simp only [List.mem_cons, List.not_mem_nil, or_false] at hk
    rcases hk with rfl | rfl
    · exact ht.dest (.inr e.1)
    · exact ht.els e.1
  · rw [if_neg e] at hk
    by_cases e2 : b.term.kind = 2 ∨ b.term.kind = 1
    · rw [if_pos e2] at hk
      simp only [List.mem_cons, List.not_mem_nil, or_false] at hk
      subst hk
      exact ht.dest (by omega)
    · rw [if_neg e2] at hk; simp at hk
theorem sub_count {l l' : List LBlock} (h : List.Sublist l l') : insCount l ≤ insCount l' := by
  induction h with
  | slnil => exact Nat.le_refl _
  | cons a _ ih => rw [insCount_cons]; omega
  | cons_cons a _ ih => rw [insCount_cons, insCount_cons]; omega
theorem range_get {α : Type} (l : List α) : (List.range l.length).filterMap (fun i => l[i]?) = l := by
  induction l with
  | nil => rfl
  | cons a l ih =>
    rw [List.length_cons, List.range_succ_eq_map, List.filterMap_cons]
    show a :: (List.map Nat.succ (List.range l.length)).filterMap _ = _
    rw [List.filterMap_map]
    congr 1
theorem comeL_sub (f : LFlow) : List.Sublist (comeL f) f.blocks := by
  have h : List.Sublist (comeL f) ((List.range f.blocks.length).filterMap fun i => f.blocks[i]?) := by
    unfold comeL
    exact List.Sublist.filterMap _ List.filter_sublist
  rw [range_get] at h
  exact h
theorem insCount_ren (f : LFlow) : ∀ l : List LBlock, insCount (l.map (renBlock (trimR f))) = insCount l
  | [] => rfl
  | b :: l => by rw [List.map_cons, insCount_cons, insCount_cons, insCount_ren f l, renB_ins]
theorem trim_count (f : LFlow) : insCount (trimF f).blocks ≤ insCount f.blocks := by
  show insCount ((comeL f).map _) ≤ _
  rw [insCount_ren]
  exact sub_count (comeL_sub f)
theorem place_le (f : LFlow) : ∀ k, placeN f k ≤ k
  | 0 => by rw [place_zero]; exact Nat.le_refl _
  | k + 1 => by have := place_le f k; rw [place_succ]; split <;> omega
theorem dead_name (f : LFlow) : (deadF f).name = f.name := (ends_swept f).name
theorem dead_params (f : LFlow) : (deadF f).params = f.params := (ends_swept f).params
theorem dead_values (f : LFlow) : (deadF f).values = f.values := (ends_swept f).values
theorem dead_count (f : LFlow) : insCount (deadF f).blocks ≤ insCount f.blocks := Nat.le_trans (trim_count _) (swept_le f)
theorem dead_len (f : LFlow) : (deadF f).blocks.length = placeN f f.blocks.length := by
  unfold deadF
  rw [trim_len, place_ends (ends_swept f), (ends_swept f).len]
theorem dead_len_le (f : LFlow) : (deadF f).blocks.length ≤ f.blocks.length := by rw [dead_len]; exact place_le _ _
/-- each block of what Dead made: its ends are those of one that is come to, and its instructions are some of that one's -/
theorem dead_from {f : LFlow} {j : Nat} (h : j < (deadF f).blocks.length) : ∃ k, ∃ hk : k < f.blocks.length, comeB f k = true ∧ placeN f k = j ∧ (deadF f).blocks[j].term = renTerm (trimR f) f.blocks[k].term ∧ (∀ x ∈ (deadF f).blocks[j].ins, x ∈ f.blocks[k].ins) ∧ (deadF f).blocks[j].ins.length ≤ f.blocks[k].ins.length := by
  have he := ends_swept f
  obtain ⟨k, hk, hc, e, eb⟩ := trim_from (f := sweptF f) (j := j) h
  have hk' : k < f.blocks.length := by rw [← he.len]; exact hk
  rw [come_ends he] at hc
  rw [place_ends he] at e
  have er : trimR (sweptF f) = trimR f := by unfold trimR; rw [come_ends he, place_ends he]
  have eb' : (deadF f).blocks[j] = renBlock (trimR (sweptF f)) (sweptF f).blocks[k] := eb
  refine ⟨k, hk', hc, e, ?_, ?_, ?_⟩
  · rw [eb', er]
    show renTerm (trimR f) _ = _
    rw [he.term k hk' hk]
  · rw [eb', renB_ins]; exact he.mem k hk' hk
  · rw [eb', renB_ins]; exact he.le k hk' hk
theorem dead_term {f : LFlow} (hn : NextOk f) {k : Nat} (hk : k < f.blocks.length) (hc : comeB f k = true) {vals : Int} (h : termOk f.blocks.length vals f.blocks[k].term = true) : termOk (placeN f f.blocks.length) vals (renTerm (trimR f) f.blocks[k].term) = true := by
  have hx := termK_of h
  have hnc := next_come hn hk hc
  obtain ⟨e1, e2⟩ := renT_kind f f.blocks[k].term
  have hto : f.blocks[k].term.kind = 1 ∨ f.blocks[k].term.kind = 2 → placeIf (renTerm (trimR f) f.blocks[k].term).to (placeN f f.blocks.length) true = true := fun hk => by
    have e : (renTerm (trimR f) f.blocks[k].term).to = (placeN f f.blocks[k].term.to.toNat : Int) := if_pos hk
    rw [e]
    have a := hnc _ (nextL_to hk)
    have := place_lt f a.2 (come_lt hn a.2)
    unfold placeIf
    rw [if_pos rfl]
    exact decide_eq_true ⟨by omega, by omega⟩
  have els : f.blocks[k].term.kind = 2 → placeIf (renTerm (trimR f) f.blocks[k].term).els (placeN f f.blocks.length) true = true := fun hk => by
    have e : (renTerm (trimR f) f.blocks[k].term).els = (placeN f f.blocks[k].term.els.toNat : Int) := if_pos hk
    rw [e]
    have a := hnc _ (nextL_els hk)
    have := place_lt f a.2 (come_lt hn a.2)
    unfold placeIf
    rw [if_pos rfl]
    exact decide_eq_true ⟨by omega, by omega⟩
  unfold termOk at h ⊢
  rw [e1, e2]
  simp only [Bool.and_eq_true] at h ⊢
  obtain ⟨⟨⟨h1, h2⟩, h3⟩, h4⟩ := h
  refine ⟨⟨⟨h1, h2⟩, ?_⟩, ?_⟩
  · by_cases e : f.blocks[k].term.kind = 1 ∨ f.blocks[k].term.kind = 2
    · rw [decide_eq_true e]; exact hto e
    · have e3 : (renTerm (trimR f) f.blocks[k].term).to = f.blocks[k].term.to := if_neg e
      rw [e3, decide_eq_false e]
      rw [decide_eq_false e] at h3
      exact h3
  · by_cases e : f.blocks[k].term.kind = 2
    · rw [decide_eq_true e]; exact els e
    · have e3 : (renTerm (trimR f) f.blocks[k].term).els = f.blocks[k].term.els := if_neg e
      rw [e3, decide_eq_false e]
      rw [decide_eq_false e] at h4
      exact h4
theorem place_pos {f : LFlow} (hn : NextOk f) : 0 < placeN f f.blocks.length := by
  have := place_lt f (come_zero f) hn.1
  rw [place_zero] at this
  exact this
/-- a unit that Dead made may be -/
theorem dead_ok {u : LUnit} (hu : UnitOk u) : UnitOk (deadE u) := by
  refine unit_map hu (fun f _ => dead_name f) (fun f _ => dead_params f) (fun f hf => ?_) (fun f hf b hb => ?_) fun f hf b hb => ?_
  · have h1 := flow_ok hu hf
    have h2 := hu.nums f hf
    unfold flowBad at h2 ⊢
    have h2 := of_decide_eq_false h2
    have h3 := dead_count f
    have h4 := dead_len_le f
    have h5 : 0 < (deadF f).blocks.length := by rw [dead_len]; exact place_pos (next_unit hu hf)
    rw [dead_params, dead_values]
    exact decide_eq_false (by omega)
  · obtain ⟨j, hj, rfl⟩ := List.getElem_of_mem hb
    obtain ⟨k, hk, _, _, _, _, h⟩ := dead_from hj
    have := hu.lens f hf _ (List.getElem_mem hk)
    omega
  · obtain ⟨j, hj, rfl⟩ := List.getElem_of_mem hb
    obtain ⟨k, hk, hc, e, ht, hm, _⟩ := dead_from hj
    have hx := block_ok hu hf (List.getElem_mem hk)
    unfold blockBad
    rw [Bool.or_eq_false_iff]
    constructor
    · rw [ht, dead_values, dead_len, dead_term (next_unit hu hf) hk hc hx.1]; rfl
    · rw [List.any_eq_false]
      intro x hx2
      rw [dead_values, hx.2 x (hm x hx2)]; decide
/-- how many instructions, and blocks, there are -/
def sizeI (u : LUnit) : Nat := (u.flows.map fun f => insCount f.blocks).sum
def sizeB (u : LUnit) : Nat := (u.flows.map fun f => f.blocks.length).sum
/-! ### what a unit does that Dead made -/
theorem swept_unit {u : LUnit} (hu : UnitOk u) (n : Nat) : UnitOk (mapU (sweeps n) u) := by
  refine unit_map hu (fun f _ => (ends_sweeps n f).name) (fun f _ => (ends_sweeps n f).params) (fun f hf => ?_) (fun f hf b hb => ?_) fun f hf b hb => ?_
  · have h1 := flow_ok hu hf
    have h2 := hu.nums f hf
    have he := ends_sweeps n f
    unfold flowBad at h2 ⊢
    have h2 := of_decide_eq_false h2
    have h3 : insCount (sweeps n f).blocks ≤ insCount f.blocks := insCountLe he.len he.le
    rw [he.params, he.values, he.len]
    exact decide_eq_false (by omega)
  · have he := ends_sweeps n f
    obtain ⟨j, hj, rfl⟩ := List.getElem_of_mem hb
    have hj' : j < f.blocks.length := by rw [← he.len]; exact hj
    have := he.le j hj' hj
    have := hu.lens f hf _ (List.getElem_mem hj')
    omega
  · have he := ends_sweeps n f
    obtain ⟨j, hj, rfl⟩ := List.getElem_of_mem hb
    have hj' : j < f.blocks.length := by rw [← he.len]; exact hj
    have hx := block_ok hu hf (List.getElem_mem hj')
    unfold blockBad
    rw [Bool.or_eq_false_iff]
    constructor
    · rw [he.term j hj' hj, he.values, he.len, hx.1]; rfl
    · rw [List.any_eq_false]
      intro x hx2
      rw [he.values, hx.2 x (he.mem j hj' hj x hx2)]; decide
/-! ### blocks put behind all others that nobody leads to -/
structure Ext (f g : LFlow) : Prop where
  name : g.name = f.name
  params : g.params = f.params
  values : g.values = f.values
  pre : f.blocks <+: g.blocks
  next : NextOk f
theorem Ext.len {f g : LFlow} (h : Ext f g) : f.blocks.length ≤ g.blocks.length := h.pre.length_le
theorem Ext.at_ {f g : LFlow} (h : Ext f g) {i : Nat} (hi : i < f.blocks.length) : g.blocks[i]'(Nat.lt_of_lt_of_le hi h.len) = f.blocks[i] := (List.IsPrefix.getElem h.pre hi).symm
theorem endS_at {t : LTerm} {L M : Nat → Int → Bool} (h : ∀ k ∈ nextL t, L k.toNat = M k.toNat) : endS t L = endS t M := by
  funext v
  rw [Bool.eq_iff_iff, endS_iff, endS_iff]
  constructor
  · rintro (h1 | ⟨k, hk, h1⟩)
    · exact .inl h1
    · exact .inr ⟨k, hk, by rw [← h k hk]; exact h1⟩
  · rintro (h1 | ⟨k, hk, h1⟩)
    · exact .inl h1
    · exact .inr ⟨k, hk, by rw [h k hk]; exact h1⟩
theorem ext_live {f g : LFlow} (h : Ext f g) {i : Nat} (hi : i < f.blocks.length) : liveS g i = liveS f i := by
  have nx : ∀ i (hi : i < f.blocks.length), ∀ k ∈ nextL f.blocks[i].term, k.toNat < f.blocks.length := fun i hi k hk => by
    have := h.next.2 _ (List.getElem_mem hi) k hk
    omega
  funext v
  rw [Bool.eq_iff_iff]
  constructor
  · intro hv
    have hp : Pre g (fun i v => if i < f.blocks.length then liveS f i v else true) := fun j hj v hv => by
      show (if j < f.blocks.length then liveS f j v else true) = true
      by_cases hj' : j < f.blocks.length
      · rw [if_pos hj']
        refine liveS_pre f j hj' v ?_
        unfold transS at hv ⊢
        rw [h.at_ hj'] at hv
        rw [endS_at (M := liveS f)] at hv
        · exact hv
        · intro k hk
          funext v
          exact if_pos (nx j hj' k hk)
      · rw [if_neg hj']
    have := liveS_le hp i v hv
    change (if i < f.blocks.length then liveS f i v else true) = true at this
    rw [if_pos hi] at this
    exact this
  · intro hv
    refine liveS_le (f := f) (L := liveS g) (fun j hj v hv => ?_) i v hv
    refine liveS_pre g j (Nat.lt_of_lt_of_le hj h.len) v ?_
    rw [h.at_ hj]; exact hv
theorem ext_sweep {f g : LFlow} (h : Ext f g) : Ext (sweepF f) (sweepF g) := by
  refine ⟨h.name, h.params, h.values, ?_, next_ends (ends_sweep f) h.next⟩
  obtain ⟨t, ht⟩ := h.pre
  have e : f.blocks.map (sweepB (liveS f)) = f.blocks.map (sweepB (liveS g)) := List.map_congr_left fun b hb => by
    obtain ⟨i, hi, rfl⟩ := List.getElem_of_mem hb
    unfold sweepB
    rw [endS_at (L := liveS f) (M := liveS g)]
    intro k hk
    have := h.next.2 _ hb k hk
    exact (ext_live h (by omega)).symm
  refine ⟨t.map (sweepB (liveS g)), ?_⟩
  show f.blocks.map (sweepB (liveS f)) ++ _ = g.blocks.map (sweepB (liveS g))
  rw [e, ← ht, List.map_append]
theorem ext_sweeps : ∀ (n : Nat) {f g : LFlow}, Ext f g → Ext (sweeps n f) (sweeps n g)
  | 0, _, _, h => h
  | n + 1, _, _, h => ext_sweeps n (ext_sweep h)
theorem ext_swept {f g : LFlow} (h : Ext f g) : Ext (sweptF f) (sweptF g) := by
  rw [← swept_eq (f := f) (n := insCount f.blocks + insCount g.blocks) (by omega), ← swept_eq (f := g) (n := insCount f.blocks + insCount g.blocks) (by omega)]
  exact ext_sweeps _ h
theorem ext_come {f g : LFlow} (h : Ext f g) : comeB g = comeB f := by
  have hs : ∀ k, k < f.blocks.length → succF g k = succF f k := fun k hk => by
    rw [succ_at hk, succ_at (Nat.lt_of_lt_of_le hk h.len), h.at_ hk]
  funext k
  rw [Bool.eq_iff_iff]
  constructor
  · intro hk
    refine (come_least (f := g) (C := fun k => comeB f k = true ∧ k < f.blocks.length) (fun p _ hp s hsp => ?_) ⟨come_zero f, h.next.1⟩ hk).1
    rw [hs p hp.2] at hsp
    exact ⟨come_next hp.1 hsp, (next_of h.next hsp).2⟩
  · intro hk
    refine come_least (f := f) (C := fun k => comeB g k = true) (fun p _ hp s hsp => ?_) (come_zero g) hk
    by_cases hl : p < f.blocks.length
    · rw [← hs p hl] at hsp
      exact come_next hp hsp
    · rw [succ_out (by omega)] at hsp; simp at hsp
theorem filter_lt {p : Nat → Bool} {n : Nat} : ∀ m, n ≤ m → (∀ k, n ≤ k → k < m → p k = false) → (List.range m).filter p = (List.range n).filter p
  | 0, h, _ => by rw [show n = 0 by omega]
  | m + 1, h, hp => by
    by_cases e : n = m + 1
    · rw [e]
    · rw [List.range_succ, List.filter_append, filter_lt m (by omega) fun k h1 h2 => hp k h1 (by omega)]
      simp [hp m (by omega) (by omega)]
theorem ext_trim {f g : LFlow} (h : Ext f g) : trimF g = trimF f := by
  have hc := ext_come h
  have hp : placeN g = placeN f := by funext k; unfold placeN; rw [hc]
  have hr : trimR g = trimR f := by unfold trimR; rw [hc, hp]
  have hl : comeL g = comeL f := by
    unfold comeL
    rw [hc, filter_lt g.blocks.length h.len fun k h1 _ => by
      cases e : comeB f k with
      | false => rfl
      | true => have := come_lt h.next e; omega]
    have key : ∀ l : List Nat, (∀ i ∈ l, i < f.blocks.length) → l.filterMap (fun i => g.blocks[i]?) = l.filterMap (fun i => f.blocks[i]?) := fun l => by
      induction l with
      | nil => intro _; rfl
      | cons a l ih =>
        intro hl
        have ha := hl a (by simp)
        rw [List.filterMap_cons, List.filterMap_cons, ih fun i hi => hl i (by simp [hi]), List.getElem?_eq_getElem (Nat.lt_of_lt_of_le ha h.len), List.getElem?_eq_getElem ha, h.at_ ha]
    exact key _ fun i hi => by rw [List.mem_filter, List.mem_range] at hi; exact hi.1
  unfold trimF
  rw [hl, hr, h.name, h.params, h.values] <;> rfl
theorem ext_dead {f g : LFlow} (h : Ext f g) : deadF g = deadF f := ext_trim (ext_swept h)

/-! ### numbers put ahead that nobody wants -/
/-- the one in place i of what is put ahead -/
def aheadI (b : Nat → Int) (i : Nat) : LIns := if i = 0 then ⟨1, 10, 0, 0, 0, b 0, ⟨#[]⟩, []⟩ else ⟨4, 10 + (i : Int), 9 + (i : Int), b i, 1, 0, ⟨#[]⟩, []⟩
def aheadL (b : Nat → Int) (m : Nat) : List LIns := (List.range m).map (aheadI b)
def aheadF (b : Nat → Int) (m : Nat) (f : LFlow) : LFlow := { f with blocks := f.blocks.set 0 ⟨aheadL b m ++ (f.blocks.getD 0 ⟨[], ⟨0, 0, 0, 0⟩⟩).ins, (f.blocks.getD 0 ⟨[], ⟨0, 0, 0, 0⟩⟩).term⟩ }
/-- what a function uses is below 10 -/
def Low (f : LFlow) : Prop := ∀ b ∈ f.blocks, (∀ v ∈ wantsL b.term, v < 10) ∧ ∀ x ∈ b.ins, ∀ v ∈ usesL x, v < 10
theorem low_steps {S : Int → Bool} (hS : ∀ v, S v = true → v < 10) : ∀ {l : List LIns}, (∀ x ∈ l, ∀ v ∈ usesL x, v < 10) → ∀ v, stepsS l S v = true → v < 10
  | [], _, v, hv => hS v hv
  | x :: l, h, v, hv => by
    rw [stepsS_cons, stepS_iff] at hv
    rcases hv with hv | ⟨_, hv⟩
    · exact h x (by simp) v hv
    · exact low_steps hS (fun y hy => h y (by simp [hy])) v hv
theorem ahead_succ (b : Nat → Int) (m : Nat) : aheadL b (m + 1) = aheadL b m ++ [aheadI b m] := by simp [aheadL, List.range_succ]
theorem ahead_uses {b : Nat → Int} (hb : ∀ i, 0 < i → b i < 10) (i : Nat) : ∀ v ∈ usesL (aheadI b i), v < 10 ∨ (0 < i ∧ v = 9 + (i : Int)) := fun v hv => by
  unfold aheadI at hv
  by_cases e : i = 0
  · rw [if_pos e] at hv; simp [usesL, hasA, hasB] at hv
  · rw [if_neg e] at hv
    simp [usesL, hasA, hasB] at hv
    rcases hv with hv | hv
    · exact .inr ⟨by omega, hv⟩
    · have := hb i (by omega); omega
theorem ahead_sets (b : Nat → Int) (i : Nat) : setsL (aheadI b i) = [10 + (i : Int)] := by
  unfold aheadI
  by_cases e : i = 0
  · subst e; rfl
  · rw [if_neg e]; rfl
/-- ahead of what is put ahead nothing of it is wanted -/
theorem ahead_steps {b : Nat → Int} (hb : ∀ i, 0 < i → b i < 10) : ∀ (m : Nat) {S : Int → Bool}, (∀ v, S v = true → v < 10 ∨ (0 < m ∧ v = 9 + (m : Int))) → ∀ v, stepsS (aheadL b m) S v = true → v < 10
  | 0, S, h, v, hv => by
    rcases h v hv with h | h
    · exact h
    · omega
  | m + 1, S, h, v, hv => by
    rw [ahead_succ] at hv
    unfold stepsS at hv
    rw [List.foldr_append] at hv
    refine ahead_steps hb m (S := stepS S (aheadI b m)) (fun w hw => ?_) v hv
    rw [stepS_iff] at hw
    rcases hw with hw | ⟨hn, hw⟩
    · rcases ahead_uses hb m w hw with h1 | h1
      · exact .inl h1
      · exact .inr h1
    · rw [ahead_sets] at hn
      rcases h w hw with h1 | ⟨_, h1⟩
      · exact .inl h1
      · exfalso; apply hn; simp; omega
theorem steps_app (l l' : List LIns) (S : Int → Bool) : stepsS (l ++ l') S = stepsS l (stepsS l' S) := by unfold stepsS; rw [List.foldr_append]
section
variable {f : LFlow} {b : Nat → Int}
theorem ahead_len (m : Nat) : (aheadF b m f).blocks.length = f.blocks.length := by simp [aheadF]
theorem ahead_at0 (h0 : 0 < f.blocks.length) (m : Nat) : (aheadF b m f).blocks[0]'(by rw [ahead_len]; exact h0) = ⟨aheadL b m ++ f.blocks[0].ins, f.blocks[0].term⟩ := by simp [aheadF, h0, List.getD]
theorem ahead_at {i : Nat} (hi : i < f.blocks.length) (h : i ≠ 0) (m : Nat) : (aheadF b m f).blocks[i]'(by rw [ahead_len]; exact hi) = f.blocks[i] := by
  simp only [aheadF]
  rw [List.getElem_set_ne (Ne.symm h)]
theorem ahead_live (hl : Low f) (h0 : 0 < f.blocks.length) (hb : ∀ i, 0 < i → b i < 10) (m : Nat) : ∀ i v, liveS (aheadF b m f) i v = true → v < 10 := fun i v hv => by
  have hp : Pre (aheadF b m f) (fun _ v => decide (v < 10)) := fun i hi v hv => by
    refine decide_eq_true ?_
    rw [ahead_len] at hi
    have he : ∀ b ∈ f.blocks, ∀ v, endS b.term (fun _ v => decide (v < 10)) v = true → v < 10 := fun b hb v hv => by
      rw [endS_iff] at hv
      rcases hv with hv | ⟨k, _, hv⟩
      · exact (hl b hb).1 v hv
      · exact of_decide_eq_true hv
    by_cases e : i = 0
    · subst e
      rw [ahead_at0 h0] at hv
      unfold transS at hv
      rw [steps_app] at hv
      exact ahead_steps hb m (fun w hw => .inl (low_steps (he _ (List.getElem_mem hi)) (hl _ (List.getElem_mem hi)).2 w hw)) v hv
    · rw [ahead_at hi e] at hv
      exact low_steps (he _ (List.getElem_mem hi)) (hl _ (List.getElem_mem hi)).2 v hv
  exact of_decide_eq_true (liveS_le hp i v hv)
theorem ahead_idle (b : Nat → Int) (i : Nat) {W : Int → Bool} (hW : ∀ v, W v = true → v < 10) : IdleL W (aheadI b i) := by
  have hd : W (10 + (i : Int)) = false := by
    cases e : W (10 + (i : Int)) with
    | false => rfl
    | true => have := hW _ e; omega
  unfold aheadI
  by_cases e : i = 0
  · subst e
    rw [if_pos rfl]
    exact .inr ⟨.inl rfl, hd⟩
  · rw [if_neg e]
    exact .inr ⟨.inr (.inr (.inr ⟨rfl, by show (1 : Int) ≠ 4; decide, by show (1 : Int) ≠ 5; decide⟩)), hd⟩
theorem thin_app {S : Int → Bool} {l m m' : List LIns} (h : Thin S m m') : Thin S (l ++ m) (l ++ m') := by
  induction l with
  | nil => exact h
  | cons x l ih => exact .keep x _ _ ih
theorem ahead_om (hl : Low f) (h0 : 0 < f.blocks.length) (hb : ∀ i, 0 < i → b i < 10) (m : Nat) : Om (aheadF b (m + 1) f) (aheadF b m f) := by
  refine ⟨rfl, rfl, rfl, by rw [ahead_len, ahead_len], fun i h1 h2 => ?_, fun i h1 h2 => ?_⟩
  · have hi : i < f.blocks.length := by rw [ahead_len] at h1; exact h1
    by_cases e : i = 0
    · subst e; rw [ahead_at0 h0, ahead_at0 h0]
    · rw [ahead_at hi e, ahead_at hi e]
  · have hi : i < f.blocks.length := by rw [ahead_len] at h1; exact h1
    by_cases e : i = 0
    · subst e
      rw [ahead_at0 h0, ahead_at0 h0]
      show Thin (endS f.blocks[0].term _) (aheadL b (m + 1) ++ f.blocks[0].ins) (aheadL b m ++ f.blocks[0].ins)
      rw [ahead_succ, List.append_assoc]
      refine thin_app (.drop _ _ _ (ahead_idle b m fun v hv => ?_) (Thin.refl _ _))
      refine low_steps (S := endS f.blocks[0].term (liveS (aheadF b (m + 1) f))) (fun v hv => ?_) (hl _ (List.getElem_mem hi)).2 v hv
      rw [endS_iff] at hv
      rcases hv with hv | ⟨k, _, hv⟩
      · exact (hl _ (List.getElem_mem hi)).1 v hv
      · exact ahead_live hl h0 hb (m + 1) _ v hv
    · rw [ahead_at hi e, ahead_at hi e]
      exact Thin.refl _ _
theorem ahead_zero (h0 : 0 < f.blocks.length) : aheadF b 0 f = f := by
  unfold aheadF
  have : (⟨aheadL b 0 ++ (f.blocks.getD 0 ⟨[], ⟨0, 0, 0, 0⟩⟩).ins, (f.blocks.getD 0 ⟨[], ⟨0, 0, 0, 0⟩⟩).term⟩ : LBlock) = f.blocks[0] := by simp [aheadL, List.getD, h0]
  rw [this, List.set_getElem_self]
theorem ahead_dead (hl : Low f) (h0 : 0 < f.blocks.length) (hb : ∀ i, 0 < i → b i < 10) : ∀ m, deadF (aheadF b m f) = deadF f
  | 0 => by rw [ahead_zero h0]
  | m + 1 => by
    rw [← ahead_dead hl h0 hb m]
    unfold deadF
    rw [om_swept _ (Nat.le_refl _) (ahead_om hl h0 hb m)]
end

/-! ### what does more than set a value stays -/
end Go.Proofs.YtkpigkopjfkepaaGreatDoor
