/- Dead in plain words: a unit that Dead made may be, Dead of it is itself, and it does what it did, with as many steps, or fewer; blocks that nobody leads to, and numbers that nobody wants, are left out again; what does more than set a value stays. -/
import Derived.Test.YtkpigkopjfkepaaGreatDoorPrSetsA
import Derived.Test.YtkpigkopjfkepaaGreatDoorPrVisitF
import Derived.Test.YtkpigkopjfkepaaGreatDoorPrSims
namespace Go.Proofs.YtkpigkopjfkepaaGreatDoor
def harmB (x : LIns) : Bool := decide (x.kind = 1 ∨ x.kind = 2 ∨ x.kind = 3 ∨ (x.kind = 4 ∧ x.op ≠ 4 ∧ x.op ≠ 5))
def idleB (W : Int → Bool) (x : LIns) : Bool := decide (x.kind = 2 ∧ x.a = x.d) || (harmB x && !W x.d)
theorem idle_iff {W : Int → Bool} {x : LIns} : idleB W x = true ↔ IdleL W x := by
 unfold idleB harmB IdleL
 simp only [Bool.or_eq_true, Bool.and_eq_true, decide_eq_true_eq, Bool.not_eq_true']
def sweepI (S : Int → Bool) : List LIns → List LIns
 | [] => []
 | x :: l => if idleB (stepsS l S) x = true then sweepI S l else x :: sweepI S l
def sweepB (L : Nat → Int → Bool) (b : LBlock) : LBlock := ⟨sweepI (endS b.term L) b.ins, b.term⟩
noncomputable def sweepF (f : LFlow) : LFlow := { f with blocks := f.blocks.map (sweepB (liveS f)) }
noncomputable def sweeps : Nat → LFlow → LFlow
 | 0, f => f
 | n + 1, f => sweeps n (sweepF f)
noncomputable def sweptF (f : LFlow) : LFlow := sweeps (insCount f.blocks) f
open Classical in
noncomputable def comeB (f : LFlow) (k : Nat) : Bool := decide (∀ C : Nat → Prop, (∀ p, C p → ∀ s ∈ succF f p, C s.toNat) → C 0 → C k)
noncomputable def placeN (f : LFlow) (k : Nat) : Nat := ((List.range k).filter (comeB f)).length
noncomputable def trimR (f : LFlow) : Renum := ⟨fun k => comeB f k.toNat = true, fun k => (placeN f k.toNat : Int), id⟩
noncomputable def comeL (f : LFlow) : List LBlock := ((List.range f.blocks.length).filter (comeB f)).filterMap fun i => f.blocks[i]?
noncomputable def trimF (f : LFlow) : LFlow := { f with blocks := (comeL f).map (renBlock (trimR f)) }
noncomputable def deadF (f : LFlow) : LFlow := trimF (sweptF f)
noncomputable def deadE (u : LUnit) : LUnit := mapU deadF u
theorem sweepI_le (S : Int → Bool) : ∀ l : List LIns, (sweepI S l).length ≤ l.length
 | [] => Nat.le_refl _
 | x :: l => by
  unfold sweepI
  have := sweepI_le S l
  split <;> simp only [List.length_cons] <;> omega
theorem sweepI_same {S : Int → Bool} : ∀ {l : List LIns}, (sweepI S l).length = l.length → sweepI S l = l
 | [], _ => rfl
 | x :: l, h => by
  unfold sweepI at h ⊢
  have := sweepI_le S l
  split at h
  ·simp only [List.length_cons] at h; omega
  ·rename_i hx
   rw [if_neg hx, sweepI_same (by simpa using h)]
theorem sweepI_mem {S : Int → Bool} : ∀ {l : List LIns} {x : LIns}, x ∈ sweepI S l → x ∈ l
 | [], x, h => by simp [sweepI] at h
 | y :: l, x, h => by
  unfold sweepI at h
  split at h
  ·exact List.mem_cons_of_mem _ (sweepI_mem h)
  ·rcases List.mem_cons.1 h with rfl | h
   ·exact List.mem_cons_self
   ·exact List.mem_cons_of_mem _ (sweepI_mem h)
theorem sweepI_thin (S : Int → Bool) : ∀ l : List LIns, Thin S l (sweepI S l)
 | [] => .nil
 | x :: l => by
  unfold sweepI
  split
  ·rename_i hx; exact .drop x _ _ (idle_iff.1 hx) (sweepI_thin S l)
  ·exact .keep x _ _ (sweepI_thin S l)
theorem sweep_len (f : LFlow) : (sweepF f).blocks.length = f.blocks.length := by simp [sweepF]
theorem sweep_at {f : LFlow} {i : Nat} (h : i < f.blocks.length) : (sweepF f).blocks[i]? = some (sweepB (liveS f) f.blocks[i]) := by simp [sweepF, h]
theorem insCount_cons (b : LBlock) (l : List LBlock) : insCount (b :: l) = b.ins.length + insCount l := by simp [insCount]
theorem insCountLe : ∀ {l l' : List LBlock}, l'.length = l.length → (∀ i (h : i < l.length) (h' : i < l'.length), l'[i].ins.length ≤ l[i].ins.length) → insCount l' ≤ insCount l
 | [], [], _, _ => Nat.le_refl _
 | [], _ :: _, h, _ => by simp at h
 | _ :: _, [], h, _ => by simp at h
 | b :: l, b' :: l', hl, h => by
  rw [insCount_cons, insCount_cons]
  have h0 := h 0 (by simp) (by simp)
  have := insCountLe (l := l) (l' := l') (by simpa using hl) fun i h1 h2 => by have := h (i + 1) (by simpa using h1) (by simpa using h2); simpa using this
  simp only [List.getElem_cons_zero] at h0
  omega
theorem insCount_sweep : ∀ (L : Nat → Int → Bool) (l : List LBlock), insCount (l.map (sweepB L)) ≤ insCount l := fun L l =>
 insCountLe (by simp) fun i h h' => by rw [List.getElem_map]; exact sweepI_le _ _
theorem map_same {L : Nat → Int → Bool} : ∀ {l : List LBlock}, insCount (l.map (sweepB L)) = insCount l → l.map (sweepB L) = l
 | [], _ => rfl
 | b :: l, h => by
  rw [List.map_cons, insCount_cons, insCount_cons] at h
  have h1 := insCount_sweep L l
  have h2 : (sweepB L b).ins.length ≤ b.ins.length := sweepI_le _ _
  have h3 : (sweepB L b).ins.length = b.ins.length := by omega
  rw [List.map_cons, map_same (by omega)]
  have : sweepB L b = b := by
   have := sweepI_same (S := endS b.term L) (l := b.ins) h3
   unfold sweepB
   rw [this]
  rw [this]
theorem sweep_le (f : LFlow) : insCount (sweepF f).blocks ≤ insCount f.blocks := insCount_sweep _ _
theorem sweep_same {f : LFlow} (h : insCount (sweepF f).blocks = insCount f.blocks) : sweepF f = f := by
 have := map_same (L := liveS f) (l := f.blocks) h
 unfold sweepF
 rw [this]
theorem sweeps_same {f : LFlow} (h : sweepF f = f) : ∀ n, sweeps n f = f
 | 0 => rfl
 | n + 1 => by show sweeps n (sweepF f) = f; rw [h]; exact sweeps_same h n
theorem sweeps_enough : ∀ (m n : Nat) (f : LFlow), insCount f.blocks ≤ n → n ≤ m → sweeps m f = sweeps n f
 | 0, n, f, _, h2 => by
  have : n = 0 := by omega
  rw [this]
 | m + 1, 0, f, h1, _ => by
  have := sweep_le f
  exact sweeps_same (sweep_same (by omega)) _
 | m + 1, n + 1, f, h1, h2 => by
  by_cases e : insCount (sweepF f).blocks = insCount f.blocks
  ·have := sweep_same e
   rw [sweeps_same this, sweeps_same this]
  ·show sweeps m (sweepF f) = sweeps n (sweepF f)
   have := sweep_le f
   exact sweeps_enough m n _ (by omega) (by omega)
theorem swept_eq {f : LFlow} {n : Nat} (h : insCount f.blocks ≤ n) : sweeps n f = sweptF f := sweeps_enough n _ f (Nat.le_refl _) h
theorem swept_sweep (f : LFlow) : sweptF (sweepF f) = sweptF f := by
 have h := sweep_le f
 rw [← swept_eq (f := f) (n := insCount f.blocks + 1) (by omega)]
 show _ = sweeps (insCount f.blocks) (sweepF f)
 rw [swept_eq h]
theorem swept_self {f : LFlow} (h : sweepF f = f) : sweptF f = f := sweeps_same h _
theorem sweeps_ind {Q : LFlow → Prop} (h : ∀ f, Q f → Q (sweepF f)) : ∀ (n : Nat) (f : LFlow), Q f → Q (sweeps n f)
 | 0, _, hf => hf
 | n + 1, f, hf => sweeps_ind h n _ (h f hf)
theorem swept_ind {Q : LFlow → Prop} (h : ∀ f, Q f → Q (sweepF f)) (f : LFlow) (hf : Q f) : Q (sweptF f) := sweeps_ind h _ f hf
theorem swept_le (f : LFlow) : insCount (sweptF f).blocks ≤ insCount f.blocks := swept_ind (Q := fun g => insCount g.blocks ≤ insCount f.blocks) (fun g h => Nat.le_trans (sweep_le g) h) f (Nat.le_refl _)
structure Ends (f g : LFlow) : Prop where
 name : g.name = f.name
 params : g.params = f.params
 values : g.values = f.values
 len : g.blocks.length = f.blocks.length
 term : ∀ i (h : i < f.blocks.length) (h' : i < g.blocks.length), g.blocks[i].term = f.blocks[i].term
 mem : ∀ i (h : i < f.blocks.length) (h' : i < g.blocks.length), ∀ x ∈ g.blocks[i].ins, x ∈ f.blocks[i].ins
 le : ∀ i (h : i < f.blocks.length) (h' : i < g.blocks.length), g.blocks[i].ins.length ≤ f.blocks[i].ins.length
theorem Ends.refl (f : LFlow) : Ends f f := ⟨rfl, rfl, rfl, rfl, fun _ _ _ => rfl, fun _ _ _ _ h => h, fun _ _ _ => Nat.le_refl _⟩
theorem Ends.trans {f g h : LFlow} (a : Ends f g) (b : Ends g h) : Ends f h :=
 ⟨b.name.trans a.name, b.params.trans a.params, b.values.trans a.values, b.len.trans a.len, fun i h1 h2 => (b.term i (by rw [a.len]; exact h1) h2).trans (a.term i h1 (by rw [a.len]; exact h1)),
  fun i h1 h2 x hx => a.mem i h1 (by rw [a.len]; exact h1) x (b.mem i (by rw [a.len]; exact h1) h2 x hx), fun i h1 h2 => Nat.le_trans (b.le i (by rw [a.len]; exact h1) h2) (a.le i h1 (by rw [a.len]; exact h1))⟩
theorem ends_sweep (f : LFlow) : Ends f (sweepF f) :=
 ⟨rfl, rfl, rfl, sweep_len f, fun i h h' => by simp [sweepF, sweepB], fun i h h' x hx => by simp only [sweepF, List.getElem_map] at hx; exact sweepI_mem hx, fun i h h' => by simp only [sweepF, List.getElem_map]; exact sweepI_le _ _⟩
theorem ends_sweeps : ∀ (n : Nat) (f : LFlow), Ends f (sweeps n f)
 | 0, f => .refl f
 | n + 1, f => (ends_sweep f).trans (ends_sweeps n _)
theorem ends_swept (f : LFlow) : Ends f (sweptF f) := ends_sweeps _ f
def vals (f : LFlow) (n : Int) : LFlow := { f with values := n }
theorem come_iff {f : LFlow} {k : Nat} : comeB f k = true ↔ ∀ C : Nat → Prop, (∀ p, C p → ∀ s ∈ succF f p, C s.toNat) → C 0 → C k := by
 classical
 unfold comeB
 rw [decide_eq_true_eq]
theorem come_zero (f : LFlow) : comeB f 0 = true := come_iff.2 fun _ _ h => h
theorem come_next {f : LFlow} {p : Nat} (h : comeB f p = true) {s : Int} (hs : s ∈ succF f p) : comeB f s.toNat = true :=
 come_iff.2 fun C hc h0 => hc p (come_iff.1 h C hc h0) s hs
theorem come_least {f : LFlow} {C : Nat → Prop} (hc : ∀ p, comeB f p = true → C p → ∀ s ∈ succF f p, C s.toNat) (h0 : C 0) {k : Nat} (h : comeB f k = true) : C k :=
 (come_iff.1 h (fun p => comeB f p = true ∧ C p) (fun p hp s hs => ⟨come_next hp.1 hs, hc p hp.1 hp.2 s hs⟩) ⟨come_zero f, h0⟩).2
theorem come_visited {f : LFlow} {M : List Bool} (h : Visited (succF f) 0 (List.replicate f.blocks.length false) M) (k : Nat) : M[k]? = some true ↔ comeB f k = true := by
 have hno : ∀ k : Nat, (List.replicate f.blocks.length false)[k]? ≠ some true := fun k h => by rw [List.getElem?_replicate] at h; split at h <;> simp at h
 refine ⟨fun hk => come_iff.2 fun C hc h0 => h.least C hc h0 (fun k hk => absurd hk (hno k)) k hk, fun hk => come_iff.1 hk (fun k => M[k]? = some true) (fun p hp => h.closed p hp (hno p)) h.at_⟩
theorem succ_at {f : LFlow} {k : Nat} (h : k < f.blocks.length) : succF f k = nextL f.blocks[k].term := by unfold succF; rw [List.getElem?_eq_getElem h]
theorem succ_out {f : LFlow} {k : Nat} (h : f.blocks.length ≤ k) : succF f k = [] := by unfold succF; rw [List.getElem?_eq_none h]
def NextOk (f : LFlow) : Prop := 0 < f.blocks.length ∧ ∀ b ∈ f.blocks, ∀ k ∈ nextL b.term, 0 ≤ k ∧ k < (f.blocks.length : Int)
theorem next_of {f : LFlow} (h : NextOk f) {p : Nat} {s : Int} (hs : s ∈ succF f p) : 0 ≤ s ∧ s.toNat < f.blocks.length := by
 by_cases hp : p < f.blocks.length
 ·rw [succ_at hp] at hs
  have := h.2 _ (List.getElem_mem hp) s hs
  omega
 ·rw [succ_out (by omega)] at hs; simp at hs
theorem come_lt {f : LFlow} (h : NextOk f) {k : Nat} (hk : comeB f k = true) : k < f.blocks.length :=
 come_least (C := fun k => k < f.blocks.length) (fun _ _ _ _ hs => (next_of h hs).2) h.1 hk
theorem next_ends {f g : LFlow} (h : Ends f g) (hf : NextOk f) : NextOk g := by
 refine ⟨by rw [h.len]; exact hf.1, fun b hb k hk => ?_⟩
 obtain ⟨i, hi, rfl⟩ := List.getElem_of_mem hb
 have hi' : i < f.blocks.length := by rw [← h.len]; exact hi
 rw [h.term i hi' hi] at hk
 rw [h.len]
 exact hf.2 _ (List.getElem_mem hi') k hk
theorem succ_ends {f g : LFlow} (h : Ends f g) : succF g = succF f := by
 funext k
 by_cases hk : k < f.blocks.length
 ·rw [succ_at hk, succ_at (by rw [h.len]; exact hk), h.term k hk]
 ·have e1 : f.blocks.length ≤ k := by omega
  have e2 : g.blocks.length ≤ k := by rw [h.len]; exact e1
  rw [succ_out e1, succ_out e2]
theorem come_ends {f g : LFlow} (h : Ends f g) : comeB g = comeB f := by
 funext k
 unfold comeB
 rw [succ_ends h]
theorem place_ends {f g : LFlow} (h : Ends f g) : placeN g = placeN f := by
 funext k
 unfold placeN
 rw [come_ends h]
theorem place_zero (f : LFlow) : placeN f 0 = 0 := by simp [placeN]
theorem place_succ (f : LFlow) (k : Nat) : placeN f (k + 1) = placeN f k + (if comeB f k = true then 1 else 0) := by
 unfold placeN
 rw [List.range_succ, List.filter_append, List.length_append]
 congr 1
 by_cases h : comeB f k = true
 ·rw [if_pos h]; simp [h]
 ·rw [if_neg h]; simp [h]
theorem place_mono (f : LFlow) {j k : Nat} (h : j ≤ k) : placeN f j ≤ placeN f k := by
 obtain ⟨d, rfl⟩ := Nat.le.dest h
 induction d with
 | zero => exact Nat.le_refl _
 | succ d ih => rw [show j + (d + 1) = j + d + 1 by omega, place_succ]; have := ih (by omega); omega
theorem place_lt (f : LFlow) {j k : Nat} (hj : comeB f j = true) (h : j < k) : placeN f j < placeN f k := by
 have := place_mono f (show j + 1 ≤ k by omega)
 rw [place_succ, if_pos hj] at this
 omega
theorem come_filter (f : LFlow) : ∀ n k, k < n → comeB f k = true → ((List.range n).filter (comeB f))[placeN f k]? = some k
 | 0, k, h, _ => by omega
 | n + 1, k, h, hk => by
  rw [List.range_succ, List.filter_append]
  by_cases e : k = n
  ·subst e
   rw [List.getElem?_append_right (by unfold placeN; exact Nat.le_refl _)]
   unfold placeN
   simp [hk]
  ·have ih := come_filter f n k (by omega) hk
   rw [List.getElem?_append_left (List.getElem?_eq_some_iff.1 ih).1]
   exact ih
theorem filterMap_some {α β : Type} (p : α → Option β) (q : α → β) : ∀ l : List α, (∀ a ∈ l, p a = some (q a)) → l.filterMap p = l.map q
 | [], _ => rfl
 | a :: l, h => by rw [List.filterMap_cons, h a (by simp), List.map_cons, filterMap_some p q l fun b hb => h b (by simp [hb])]
theorem comeL_len (f : LFlow) : (comeL f).length = placeN f f.blocks.length := by
 unfold comeL placeN
 by_cases h0 : 0 < f.blocks.length
 ·rw [filterMap_some (fun i => f.blocks[i]?) (fun i => f.blocks.getD i ⟨[], ⟨0, 0, 0, 0⟩⟩), List.length_map]
  intro a ha
  rw [List.mem_filter, List.mem_range] at ha
  simp [List.getD, ha.1]
 ·rw [show f.blocks.length = 0 by omega]; simp
theorem comeL_at {f : LFlow} {k : Nat} (h : k < f.blocks.length) (hk : comeB f k = true) : (comeL f)[placeN f k]? = some f.blocks[k] := by
 unfold comeL
 rw [filterMap_some (fun i => f.blocks[i]?) (fun i => f.blocks.getD i ⟨[], ⟨0, 0, 0, 0⟩⟩), List.getElem?_map, come_filter f _ k h hk]
 ·simp [h]
 ·intro a ha
  rw [List.mem_filter, List.mem_range] at ha
  simp [List.getD, ha.1]
theorem comeL_mem {f : LFlow} {b : LBlock} (h : b ∈ comeL f) : ∃ k, ∃ hk : k < f.blocks.length, comeB f k = true ∧ b = f.blocks[k] := by
 unfold comeL at h
 rw [List.mem_filterMap] at h
 obtain ⟨k, hk, e⟩ := h
 rw [List.mem_filter, List.mem_range] at hk
 rw [List.getElem?_eq_getElem hk.1] at e
 exact ⟨k, hk.1, hk.2, by injection e with e; exact e.symm⟩
theorem come_place {f : LFlow} {j : Nat} (h : j < placeN f f.blocks.length) : ∃ k, k < f.blocks.length ∧ comeB f k = true ∧ placeN f k = j := by
 have key : ∀ n, j < placeN f n → ∃ k, k < n ∧ comeB f k = true ∧ placeN f k = j := by
  intro n
  induction n with
  | zero => intro h; rw [place_zero] at h; omega
  | succ n ih =>
   intro h
   rw [place_succ] at h
   by_cases e : comeB f n = true
   ·rw [if_pos e] at h
    by_cases e2 : j = placeN f n
    ·exact ⟨n, by omega, e, e2.symm⟩
    ·obtain ⟨k, h1, h2, h3⟩ := ih (by omega)
     exact ⟨k, by omega, h2, h3⟩
   ·rw [if_neg e] at h
    obtain ⟨k, h1, h2, h3⟩ := ih (by omega)
    exact ⟨k, by omega, h2, h3⟩
 exact key _ h
theorem trim_len (f : LFlow) : (trimF f).blocks.length = placeN f f.blocks.length := by show ((comeL f).map _).length = _; rw [List.length_map, comeL_len]
theorem trim_at {f : LFlow} {k : Nat} (h : k < f.blocks.length) (hk : comeB f k = true) : (trimF f).blocks[placeN f k]? = some (renBlock (trimR f) f.blocks[k]) := by
 show ((comeL f).map _)[_]? = _
 rw [List.getElem?_map, comeL_at h hk]; rfl
theorem trim_from {f : LFlow} {j : Nat} (h : j < (trimF f).blocks.length) : ∃ k, ∃ hk : k < f.blocks.length, comeB f k = true ∧ placeN f k = j ∧ (trimF f).blocks[j] = renBlock (trimR f) f.blocks[k] := by
 obtain ⟨k, h1, h2, h3⟩ := come_place (f := f) (j := j) (by rw [← trim_len]; exact h)
 refine ⟨k, h1, h2, h3, ?_⟩
 have := trim_at h1 h2
 rw [h3, List.getElem?_eq_getElem h] at this
 injection this
theorem renB_ins {f : LFlow} (b : LBlock) : (renBlock (trimR f) b).ins = b.ins := by
 unfold renBlock
 show b.ins.map (renIns (trimR f)) = b.ins
 conv => rhs; rw [← List.map_id b.ins]
 refine List.map_congr_left fun x _ => ?_
 unfold renIns trimR
 simp
theorem renT_kind (f : LFlow) (t : LTerm) : (renTerm (trimR f) t).kind = t.kind ∧ (renTerm (trimR f) t).a = t.a := by
 unfold renTerm trimR
 refine ⟨rfl, ?_⟩
 show (if t.kind = 1 then t.a else t.a) = t.a
 split <;> rfl
theorem next_come {f : LFlow} (hn : NextOk f) {k : Nat} (h : k < f.blocks.length) (hk : comeB f k = true) : ∀ s ∈ nextL f.blocks[k].term, 0 ≤ s ∧ comeB f s.toNat = true := fun s hs => by
 rw [← succ_at h] at hs
 exact ⟨(next_of hn hs).1, come_next hk hs⟩
theorem all_place {g : LFlow} (h : ∀ j, j < g.blocks.length → comeB g j = true) : ∀ k, k ≤ g.blocks.length → placeN g k = k
 | 0, _ => place_zero g
 | k + 1, hk => by rw [place_succ, if_pos (h k (by omega)), all_place h k (by omega)]
theorem trim_id {g : LFlow} (hn : NextOk g) (h : ∀ j, j < g.blocks.length → comeB g j = true) : trimF g = g := by
 have hb : (trimF g).blocks = g.blocks := by
  refine List.ext_getElem (by rw [trim_len, all_place h _ (Nat.le_refl _)]) fun j h1 h2 => ?_
  have h3 := trim_at h2 (h j h2)
  rw [all_place h j (by omega), List.getElem?_eq_getElem h1] at h3
  injection h3 with h3
  rw [h3]
  have hnx : ∀ k ∈ nextL g.blocks[j].term, 0 ≤ k ∧ k < (g.blocks.length : Int) := hn.2 _ (List.getElem_mem h2)
  have ep : ∀ k : Int, 0 ≤ k → k < (g.blocks.length : Int) → (placeN g k.toNat : Int) = k := fun k h0 h1 => by rw [all_place h _ (by omega)]; omega
  have et : renTerm (trimR g) g.blocks[j].term = g.blocks[j].term := by
   obtain ⟨k1, k2⟩ := renT_kind g g.blocks[j].term
   have e3 : (renTerm (trimR g) g.blocks[j].term).to = g.blocks[j].term.to := by
    show (if _ then _ else _) = _
    split
    ·rename_i hk
     have := hnx _ (nextL_to hk)
     exact ep _ this.1 this.2
    ·rfl
   have e4 : (renTerm (trimR g) g.blocks[j].term).els = g.blocks[j].term.els := by
    show (if _ then _ else _) = _
    split
    ·rename_i hk
     have := hnx _ (nextL_els hk)
     exact ep _ this.1 this.2
    ·rfl
   cases e5 : renTerm (trimR g) g.blocks[j].term with
   | mk a b c d =>
    cases e6 : g.blocks[j].term with
    | mk a' b' c' d' =>
     rw [e5, e6] at e3 e4
     rw [e5, e6] at k1 k2
     simp only at e3 e4 k1 k2
     rw [k1, k2, e3, e4]
  show (⟨(renBlock (trimR g) g.blocks[j]).ins, renTerm (trimR g) g.blocks[j].term⟩ : LBlock) = _
  rw [renB_ins, et]
 unfold trimF
 unfold trimF at hb
 rw [show (comeL g).map (renBlock (trimR g)) = g.blocks from hb]
theorem next_unit {u : LUnit} (hu : UnitOk u) {f : LFlow} (hf : f ∈ u.flows) : NextOk f := by
 refine ⟨(flow_ok hu hf).2.2.2.2.1, fun b hb k hk => ?_⟩
 have ht := termK_of (block_ok hu hf hb).1
 unfold nextL at hk
 by_cases e : b.term.kind = 2 ∧ b.term.to ≠ b.term.els
 ·rw [if_pos e] at hk
  simp only [List.mem_cons, List.not_mem_nil, or_false] at hk
  rcases hk with rfl | rfl
  ·exact ht.dest (.inr e.1)
  ·exact ht.els e.1
 ·rw [if_neg e] at hk
  by_cases e2 : b.term.kind = 2 ∨ b.term.kind = 1
  ·rw [if_pos e2] at hk
   simp only [List.mem_cons, List.not_mem_nil, or_false] at hk
   subst hk
   exact ht.dest (by omega)
  ·rw [if_neg e2] at hk; simp at hk
theorem sub_count {l l' : List LBlock} (h : List.Sublist l l') : insCount l ≤ insCount l' := by
 induction h with
 | slnil => exact Nat.le_refl _
 | cons a _ ih => rw [insCount_cons]; omega
 | cons_cons a _ ih => rw [insCount_cons, insCount_cons]; omega
theorem range_get {α : Type} (l : List α) : (List.range l.length).filterMap (fun i => l[i]?) = l := by
 induction l with
 | nil => rfl
 | cons a l ih =>
  rw [List.length_cons, List.range_succ_eq_map, List.filterMap_cons]
  show a :: (List.map Nat.succ (List.range l.length)).filterMap _ = _
  rw [List.filterMap_map]
  congr 1
theorem comeL_sub (f : LFlow) : List.Sublist (comeL f) f.blocks := by
 have h : List.Sublist (comeL f) ((List.range f.blocks.length).filterMap fun i => f.blocks[i]?) := by
  unfold comeL
  exact List.Sublist.filterMap _ List.filter_sublist
 rw [range_get] at h
 exact h
theorem insCount_ren (f : LFlow) : ∀ l : List LBlock, insCount (l.map (renBlock (trimR f))) = insCount l
 | [] => rfl
 | b :: l => by rw [List.map_cons, insCount_cons, insCount_cons, insCount_ren f l, renB_ins]
theorem trim_count (f : LFlow) : insCount (trimF f).blocks ≤ insCount f.blocks := by
 show insCount ((comeL f).map _) ≤ _
 rw [insCount_ren]
 exact sub_count (comeL_sub f)
theorem place_le (f : LFlow) : ∀ k, placeN f k ≤ k
 | 0 => by rw [place_zero]; exact Nat.le_refl _
 | k + 1 => by have := place_le f k; rw [place_succ]; split <;> omega
theorem dead_name (f : LFlow) : (deadF f).name = f.name := (ends_swept f).name
theorem dead_params (f : LFlow) : (deadF f).params = f.params := (ends_swept f).params
theorem dead_values (f : LFlow) : (deadF f).values = f.values := (ends_swept f).values
theorem dead_count (f : LFlow) : insCount (deadF f).blocks ≤ insCount f.blocks := Nat.le_trans (trim_count _) (swept_le f)
theorem dead_len (f : LFlow) : (deadF f).blocks.length = placeN f f.blocks.length := by
 unfold deadF
 rw [trim_len, place_ends (ends_swept f), (ends_swept f).len]
theorem dead_len_le (f : LFlow) : (deadF f).blocks.length ≤ f.blocks.length := by rw [dead_len]; exact place_le _ _
theorem dead_from {f : LFlow} {j : Nat} (h : j < (deadF f).blocks.length) : ∃ k, ∃ hk : k < f.blocks.length, comeB f k = true ∧ placeN f k = j ∧ (deadF f).blocks[j].term = renTerm (trimR f) f.blocks[k].term ∧ (∀ x ∈ (deadF f).blocks[j].ins, x ∈ f.blocks[k].ins) ∧ (deadF f).blocks[j].ins.length ≤ f.blocks[k].ins.length := by
 have he := ends_swept f
 obtain ⟨k, hk, hc, e, eb⟩ := trim_from (f := sweptF f) (j := j) h
 have hk' : k < f.blocks.length := by rw [← he.len]; exact hk
 rw [come_ends he] at hc
 rw [place_ends he] at e
 have er : trimR (sweptF f) = trimR f := by unfold trimR; rw [come_ends he, place_ends he]
 have eb' : (deadF f).blocks[j] = renBlock (trimR (sweptF f)) (sweptF f).blocks[k] := eb
 refine ⟨k, hk', hc, e, ?_, ?_, ?_⟩
 ·rw [eb', er]
  show renTerm (trimR f) _ = _
  rw [he.term k hk' hk]
 ·rw [eb', renB_ins]; exact he.mem k hk' hk
 ·rw [eb', renB_ins]; exact he.le k hk' hk
theorem dead_term {f : LFlow} (hn : NextOk f) {k : Nat} (hk : k < f.blocks.length) (hc : comeB f k = true) {vals : Int} (h : termOk f.blocks.length vals f.blocks[k].term = true) : termOk (placeN f f.blocks.length) vals (renTerm (trimR f) f.blocks[k].term) = true := by
 have hx := termK_of h
 have hnc := next_come hn hk hc
 obtain ⟨e1, e2⟩ := renT_kind f f.blocks[k].term
 have hto : f.blocks[k].term.kind = 1 ∨ f.blocks[k].term.kind = 2 → placeIf (renTerm (trimR f) f.blocks[k].term).to (placeN f f.blocks.length) true = true := fun hk => by
  have e : (renTerm (trimR f) f.blocks[k].term).to = (placeN f f.blocks[k].term.to.toNat : Int) := if_pos hk
  rw [e]
  have a := hnc _ (nextL_to hk)
  have := place_lt f a.2 (come_lt hn a.2)
  unfold placeIf
  rw [if_pos rfl]
  exact decide_eq_true ⟨by omega, by omega⟩
 have els : f.blocks[k].term.kind = 2 → placeIf (renTerm (trimR f) f.blocks[k].term).els (placeN f f.blocks.length) true = true := fun hk => by
  have e : (renTerm (trimR f) f.blocks[k].term).els = (placeN f f.blocks[k].term.els.toNat : Int) := if_pos hk
  rw [e]
  have a := hnc _ (nextL_els hk)
  have := place_lt f a.2 (come_lt hn a.2)
  unfold placeIf
  rw [if_pos rfl]
  exact decide_eq_true ⟨by omega, by omega⟩
 unfold termOk at h ⊢
 rw [e1, e2]
 simp only [Bool.and_eq_true] at h ⊢
 obtain ⟨⟨⟨h1, h2⟩, h3⟩, h4⟩ := h
 refine ⟨⟨⟨h1, h2⟩, ?_⟩, ?_⟩
 ·by_cases e : f.blocks[k].term.kind = 1 ∨ f.blocks[k].term.kind = 2
  ·rw [decide_eq_true e]; exact hto e
  ·have e3 : (renTerm (trimR f) f.blocks[k].term).to = f.blocks[k].term.to := if_neg e
   rw [e3, decide_eq_false e]
   rw [decide_eq_false e] at h3
   exact h3
 ·by_cases e : f.blocks[k].term.kind = 2
  ·rw [decide_eq_true e]; exact els e
  ·have e3 : (renTerm (trimR f) f.blocks[k].term).els = f.blocks[k].term.els := if_neg e
   rw [e3, decide_eq_false e]
   rw [decide_eq_false e] at h4
   exact h4
theorem place_pos {f : LFlow} (hn : NextOk f) : 0 < placeN f f.blocks.length := by
 have := place_lt f (come_zero f) hn.1
 rw [place_zero] at this
 exact this
theorem dead_ok {u : LUnit} (hu : UnitOk u) : UnitOk (deadE u) := by
 refine unit_map hu (fun f _ => dead_name f) (fun f _ => dead_params f) (fun f hf => ?_) (fun f hf b hb => ?_) fun f hf b hb => ?_
 ·have h1 := flow_ok hu hf
  have h2 := hu.nums f hf
  unfold flowBad at h2 ⊢
  have h2 := of_decide_eq_false h2
  have h3 := dead_count f
  have h4 := dead_len_le f
  have h5 : 0 < (deadF f).blocks.length := by rw [dead_len]; exact place_pos (next_unit hu hf)
  rw [dead_params, dead_values]
  exact decide_eq_false (by omega)
 ·obtain ⟨j, hj, rfl⟩ := List.getElem_of_mem hb
  obtain ⟨k, hk, _, _, _, _, h⟩ := dead_from hj
  have := hu.lens f hf _ (List.getElem_mem hk)
  omega
 ·obtain ⟨j, hj, rfl⟩ := List.getElem_of_mem hb
  obtain ⟨k, hk, hc, e, ht, hm, _⟩ := dead_from hj
  have hx := block_ok hu hf (List.getElem_mem hk)
  unfold blockBad
  rw [Bool.or_eq_false_iff]
  constructor
  ·rw [ht, dead_values, dead_len, dead_term (next_unit hu hf) hk hc hx.1]; rfl
  ·rw [List.any_eq_false]
   intro x hx2
   rw [dead_values, hx.2 x (hm x hx2)]; decide
def sizeI (u : LUnit) : Nat := (u.flows.map fun f => insCount f.blocks).sum
def sizeB (u : LUnit) : Nat := (u.flows.map fun f => f.blocks.length).sum
theorem swept_unit {u : LUnit} (hu : UnitOk u) (n : Nat) : UnitOk (mapU (sweeps n) u) := by
 refine unit_map hu (fun f _ => (ends_sweeps n f).name) (fun f _ => (ends_sweeps n f).params) (fun f hf => ?_) (fun f hf b hb => ?_) fun f hf b hb => ?_
 ·have h1 := flow_ok hu hf
  have h2 := hu.nums f hf
  have he := ends_sweeps n f
  unfold flowBad at h2 ⊢
  have h2 := of_decide_eq_false h2
  have h3 : insCount (sweeps n f).blocks ≤ insCount f.blocks := insCountLe he.len he.le
  rw [he.params, he.values, he.len]
  exact decide_eq_false (by omega)
 ·have he := ends_sweeps n f
  obtain ⟨j, hj, rfl⟩ := List.getElem_of_mem hb
  have hj' : j < f.blocks.length := by rw [← he.len]; exact hj
  have := he.le j hj' hj
  have := hu.lens f hf _ (List.getElem_mem hj')
  omega
 ·have he := ends_sweeps n f
  obtain ⟨j, hj, rfl⟩ := List.getElem_of_mem hb
  have hj' : j < f.blocks.length := by rw [← he.len]; exact hj
  have hx := block_ok hu hf (List.getElem_mem hj')
  unfold blockBad
  rw [Bool.or_eq_false_iff]
  constructor
  ·rw [he.term j hj' hj, he.values, he.len, hx.1]; rfl
  ·rw [List.any_eq_false]
   intro x hx2
   rw [he.values, hx.2 x (he.mem j hj' hj x hx2)]; decide
theorem sw_sweep {u : LUnit} (hu : UnitOk u) : UnitSw 1000 u (mapU sweepF u) sweepF liveS := by
 refine ⟨fun s f hf => ?_, fun f hf => ?_, rfl⟩
 ·rw [show (mapU sweepF u).flows = u.flows.map sweepF from rfl, find_map (g := sweepF) s u.flows fun _ _ => rfl, hf]; rfl
 ·have hat : ∀ (i : Nat) (b b' : LBlock), f.blocks[i]? = some b → (sweepF f).blocks[i]? = some b' → b' = sweepB (liveS f) b := fun i b b' h h' => by
   obtain ⟨hi, rfl⟩ := List.getElem?_eq_some_iff.1 h
   rw [sweep_at hi] at h'
   injection h' with h'
   exact h'.symm
  refine ⟨rfl, rfl, rfl, sweep_len f, liveS_pre f, fun i b b' h h' => ?_, fun i b b' h h' => ?_, fun i b b' h h' => ?_⟩
  ·rw [hat i b b' h h']; rfl
  ·rw [hat i b b' h h']; exact sweepI_thin _ _
  ·have := hu.lens f hf b (List.mem_of_getElem? h)
   omega
theorem follows_trans {a b c : MRun} (h1 : FollowsP a b) (h2 : FollowsP b c) : FollowsP a c := by
 unfold FollowsP at *
 by_cases ha : a.status = 0
 ·rw [if_pos ha] at h1 ⊢
  by_cases hb : b.status = 0
  ·rw [if_pos hb] at h2
   exact h1.trans h2
  ·rw [if_neg hb] at h2
   rw [h2.2.2]; exact h1
 ·rw [if_neg ha] at h1 ⊢
  have hb : b.status ≠ 0 := by rw [h1.1]; exact ha
  rw [if_neg hb] at h2
  exact ⟨h2.1.trans h1.1, h2.2.1.trans h1.2.1, h2.2.2.trans h1.2.2⟩
theorem follows_refl (a : MRun) : FollowsP a a := by
 unfold FollowsP
 split
 ·exact List.prefix_refl _
 ·exact ⟨rfl, rfl, rfl⟩
theorem mapU_comp (g h : LFlow → LFlow) (u : LUnit) : mapU g (mapU h u) = mapU (fun f => g (h f)) u := by
 unfold mapU
 congr 1
 show (u.flows.map h).map g = _
 rw [List.map_map]; rfl
theorem sweeps_run : ∀ (m : Nat) {u : LUnit}, UnitOk u → ∀ (inp : List Int) (n : Nat), FollowsP (runU u inp n) (runU (mapU (sweeps m) u) inp n) ∧ ((runU u inp n).status = 0 ∨ (runU (mapU (sweeps m) u) inp n).steps ≤ (runU u inp n).steps)
 | 0, u, hu, inp, n => by
  have e : mapU (sweeps 0) u = u := by
   unfold mapU
   cases u
   congr 1
   show List.map (fun f => f) _ = _
   exact List.map_id _
  rw [e]
  exact ⟨follows_refl _, .inr (Int.le_refl _)⟩
 | m + 1, u, hu, inp, n => by
  have hok : UnitOk (mapU sweepF u) := swept_unit hu 1
  obtain ⟨h1, h2⟩ := sw_followed hu hok (sw_sweep hu) inp n
  obtain ⟨h3, h4⟩ := sweeps_run m hok inp n
  rw [mapU_comp] at h3 h4
  refine ⟨follows_trans h1 h3, ?_⟩
  by_cases e : (runU u inp n).status = 0
  ·exact .inl e
  ·right
   unfold FollowsP at h1
   rw [if_neg e] at h1
   rcases h2 with h2 | h2
   ·exact absurd h2 e
   ·rcases h4 with h4 | h4
    ·rw [h1.1] at h4; exact absurd h4 e
    ·exact Int.le_trans h4 h2
theorem trim_ren {f : LFlow} (hn : NextOk f) : RenOk f (trimF f) (trimR f) := by
 have kin : ∀ (k : Int) (b : LBlock), (trimR f).R k → f.blocks[k.toNat]? = some b → ∀ s ∈ nextL b.term, comeB f s.toNat = true := fun k b hk hb s hs => by
  obtain ⟨hi, rfl⟩ := List.getElem?_eq_some_iff.1 hb
  exact (next_come hn hi hk s hs).2
 refine ⟨rfl, rfl, rfl, come_zero f, ?_, fun k b hk hb => ?_, fun k b hk hb h => kin k b hk hb _ (nextL_to h), fun k b hk hb h => kin k b hk hb _ (nextL_els h), fun k h0 h1 => ⟨h0, h1⟩, fun _ _ _ _ _ _ h => h, fun _ _ _ => rfl⟩
 ·show ((placeN f (0 : Int).toNat : Nat) : Int) = 0
  rw [show (0 : Int).toNat = 0 from rfl, place_zero]; rfl
 ·obtain ⟨hi, rfl⟩ := List.getElem?_eq_some_iff.1 hb
  show (trimF f).blocks[((placeN f k.toNat : Nat) : Int).toNat]? = _
  rw [Int.toNat_natCast]
  exact trim_at hi hk
theorem trim_run {u : LUnit} (hu : UnitOk u) (inp : List Int) (n : Nat) : (runU (mapU trimF u) inp n).status = (runU u inp n).status ∧ (runU (mapU trimF u) inp n).code = (runU u inp n).code ∧ (runU (mapU trimF u) inp n).out = (runU u inp n).out ∧ (runU (mapU trimF u) inp n).steps = (runU u inp n).steps := by
 have h := ren_run hu (g := trimF) (r := trimR) ⟨fun f hf => trim_ren (next_unit hu hf)⟩ inp n
 exact ⟨h.status, h.code, h.out, h.steps⟩
theorem deadE_eq {u : LUnit} (hu : UnitOk u) (N : Nat) (hN : 200000 ≤ N) : deadE u = mapU trimF (mapU (sweeps N) u) := by
 rw [mapU_comp]
 unfold deadE mapU
 congr 1
 refine List.map_congr_left fun f hf => ?_
 have h := of_decide_eq_false (hu.nums f hf)
 unfold deadF
 rw [swept_eq (by omega)]
theorem dead_run {u : LUnit} (hu : UnitOk u) (inp : List Int) (n : Nat) : FollowsP (runU u inp n) (runU (deadE u) inp n) ∧ ((runU u inp n).status = 0 ∨ (runU (deadE u) inp n).steps ≤ (runU u inp n).steps) := by
 obtain ⟨N, hN⟩ : ∃ N : Nat, 200000 ≤ N := ⟨_, Nat.le_refl _⟩
 rw [deadE_eq hu N hN]
 obtain ⟨h1, h2⟩ := sweeps_run N hu inp n
 obtain ⟨e1, e2, e3, e4⟩ := trim_run (swept_unit hu N) inp n
 refine ⟨?_, by rw [e4]; exact h2⟩
 unfold FollowsP at h1 ⊢
 rw [e1, e2, e3]
 exact h1
structure Ext (f g : LFlow) : Prop where
 name : g.name = f.name
 params : g.params = f.params
 values : g.values = f.values
 pre : f.blocks <+: g.blocks
 next : NextOk f
theorem Ext.len {f g : LFlow} (h : Ext f g) : f.blocks.length ≤ g.blocks.length := h.pre.length_le
theorem Ext.at_ {f g : LFlow} (h : Ext f g) {i : Nat} (hi : i < f.blocks.length) : g.blocks[i]'(Nat.lt_of_lt_of_le hi h.len) = f.blocks[i] := (List.IsPrefix.getElem h.pre hi).symm
theorem endS_at {t : LTerm} {L M : Nat → Int → Bool} (h : ∀ k ∈ nextL t, L k.toNat = M k.toNat) : endS t L = endS t M := by
 funext v
 rw [Bool.eq_iff_iff, endS_iff, endS_iff]
 constructor
 ·rintro (h1 | ⟨k, hk, h1⟩)
  ·exact .inl h1
  ·exact .inr ⟨k, hk, by rw [← h k hk]; exact h1⟩
 ·rintro (h1 | ⟨k, hk, h1⟩)
  ·exact .inl h1
  ·exact .inr ⟨k, hk, by rw [h k hk]; exact h1⟩
theorem ext_live {f g : LFlow} (h : Ext f g) {i : Nat} (hi : i < f.blocks.length) : liveS g i = liveS f i := by
 have nx : ∀ i (hi : i < f.blocks.length), ∀ k ∈ nextL f.blocks[i].term, k.toNat < f.blocks.length := fun i hi k hk => by
  have := h.next.2 _ (List.getElem_mem hi) k hk
  omega
 funext v
 rw [Bool.eq_iff_iff]
 constructor
 ·intro hv
  have hp : Pre g (fun i v => if i < f.blocks.length then liveS f i v else true) := fun j hj v hv => by
   show (if j < f.blocks.length then liveS f j v else true) = true
   by_cases hj' : j < f.blocks.length
   ·rw [if_pos hj']
    refine liveS_pre f j hj' v ?_
    unfold transS at hv ⊢
    rw [h.at_ hj'] at hv
    rw [endS_at (M := liveS f)] at hv
    ·exact hv
    ·intro k hk
     funext v
     exact if_pos (nx j hj' k hk)
   ·rw [if_neg hj']
  have := liveS_le hp i v hv
  change (if i < f.blocks.length then liveS f i v else true) = true at this
  rw [if_pos hi] at this
  exact this
 ·intro hv
  refine liveS_le (f := f) (L := liveS g) (fun j hj v hv => ?_) i v hv
  refine liveS_pre g j (Nat.lt_of_lt_of_le hj h.len) v ?_
  rw [h.at_ hj]; exact hv
theorem ext_sweep {f g : LFlow} (h : Ext f g) : Ext (sweepF f) (sweepF g) := by
 refine ⟨h.name, h.params, h.values, ?_, next_ends (ends_sweep f) h.next⟩
 obtain ⟨t, ht⟩ := h.pre
 have e : f.blocks.map (sweepB (liveS f)) = f.blocks.map (sweepB (liveS g)) := List.map_congr_left fun b hb => by
  obtain ⟨i, hi, rfl⟩ := List.getElem_of_mem hb
  unfold sweepB
  rw [endS_at (L := liveS f) (M := liveS g)]
  intro k hk
  have := h.next.2 _ hb k hk
  exact (ext_live h (by omega)).symm
 refine ⟨t.map (sweepB (liveS g)), ?_⟩
 show f.blocks.map (sweepB (liveS f)) ++ _ = g.blocks.map (sweepB (liveS g))
 rw [e, ← ht, List.map_append]
theorem ext_sweeps : ∀ (n : Nat) {f g : LFlow}, Ext f g → Ext (sweeps n f) (sweeps n g)
 | 0, _, _, h => h
 | n + 1, _, _, h => ext_sweeps n (ext_sweep h)
theorem ext_swept {f g : LFlow} (h : Ext f g) : Ext (sweptF f) (sweptF g) := by
 rw [← swept_eq (f := f) (n := insCount f.blocks + insCount g.blocks) (by omega), ← swept_eq (f := g) (n := insCount f.blocks + insCount g.blocks) (by omega)]
 exact ext_sweeps _ h
theorem ext_come {f g : LFlow} (h : Ext f g) : comeB g = comeB f := by
 have hs : ∀ k, k < f.blocks.length → succF g k = succF f k := fun k hk => by
  rw [succ_at hk, succ_at (Nat.lt_of_lt_of_le hk h.len), h.at_ hk]
 funext k
 rw [Bool.eq_iff_iff]
 constructor
 ·intro hk
  refine (come_least (f := g) (C := fun k => comeB f k = true ∧ k < f.blocks.length) (fun p _ hp s hsp => ?_) ⟨come_zero f, h.next.1⟩ hk).1
  rw [hs p hp.2] at hsp
  exact ⟨come_next hp.1 hsp, (next_of h.next hsp).2⟩
 ·intro hk
  refine come_least (f := f) (C := fun k => comeB g k = true) (fun p _ hp s hsp => ?_) (come_zero g) hk
  by_cases hl : p < f.blocks.length
  ·rw [← hs p hl] at hsp
   exact come_next hp hsp
  ·rw [succ_out (by omega)] at hsp; simp at hsp
theorem filter_lt {p : Nat → Bool} {n : Nat} : ∀ m, n ≤ m → (∀ k, n ≤ k → k < m → p k = false) → (List.range m).filter p = (List.range n).filter p
 | 0, h, _ => by rw [show n = 0 by omega]
 | m + 1, h, hp => by
  by_cases e : n = m + 1
  ·rw [e]
  ·rw [List.range_succ, List.filter_append, filter_lt m (by omega) fun k h1 h2 => hp k h1 (by omega)]
   simp [hp m (by omega) (by omega)]
theorem ext_trim {f g : LFlow} (h : Ext f g) : trimF g = trimF f := by
 have hc := ext_come h
 have hp : placeN g = placeN f := by funext k; unfold placeN; rw [hc]
 have hr : trimR g = trimR f := by unfold trimR; rw [hc, hp]
 have hl : comeL g = comeL f := by
  unfold comeL
  rw [hc, filter_lt g.blocks.length h.len fun k h1 _ => by
   cases e : comeB f k with
   | false => rfl
   | true => have := come_lt h.next e; omega]
  have key : ∀ l : List Nat, (∀ i ∈ l, i < f.blocks.length) → l.filterMap (fun i => g.blocks[i]?) = l.filterMap (fun i => f.blocks[i]?) := fun l => by
   induction l with
   | nil => intro _; rfl
   | cons a l ih =>
    intro hl
    have ha := hl a (by simp)
    rw [List.filterMap_cons, List.filterMap_cons, ih fun i hi => hl i (by simp [hi]), List.getElem?_eq_getElem (Nat.lt_of_lt_of_le ha h.len), List.getElem?_eq_getElem ha, h.at_ ha]
  exact key _ fun i hi => by rw [List.mem_filter, List.mem_range] at hi; exact hi.1
 unfold trimF
 rw [hl, hr, h.name, h.params, h.values] <;> rfl
theorem ext_dead {f g : LFlow} (h : Ext f g) : deadF g = deadF f := ext_trim (ext_swept h)
section
variable {f : LFlow} {b : Nat → Int}
end
end Go.Proofs.YtkpigkopjfkepaaGreatDoor
