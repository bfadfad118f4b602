/- Regions that draw their order of evaluation and end in a store: what is known of the world is owed only till the last operation has come up. A region whose order is the text's own, walked operation by operation. -/
import Derived.Deep.RegionHeld
namespace Go.Proofs.YtmignlclfbaifaaGreat
open Go

/-! short names -/
theorem sA {α : Type} {l : List α} {i : Nat} {a : α} : l.toArray.setIfInBounds i a = (l.set i a).toArray := List.setIfInBounds_toArray ..
theorem sB {α : Type} {l : List α} {a b : α} : (a :: l).set 0 b = b :: l := rfl
theorem sC {α : Type} {l : List α} {i : Nat} {a b : α} : (a :: l).set (i + 1) b = a :: l.set i b := rfl

section
variable {P : Program} {md : Region.Mode} {ops : Array Oper} {Q : Exit → Act → World → Prop} {S T : World → Prop} {L : Nat}

/-- whatever order is picked from here on, and S holds behind every operation that is carried out, till number L has come up -/
def wpAnyL (P : Program) (md : Region.Mode) (ops : Array Oper) (Q : Exit → Act → World → Prop) (S : World → Prop) (L : Nat) : Nat → Array Bool → Act → World → Prop
  | 0, listed, a, w => Region.ready md ops listed = [] ∧ Q .normal a w
  | fuel + 1, listed, a, w =>
    (Region.ready md ops listed = [] → Q .normal a w) ∧
    ∀ i ∈ Region.ready md ops listed, wpOp P ops Q i (fun a' w' => ((listed.setIfInBounds i true).getD L false = false → S w') ∧ wpAnyL P md ops Q S L fuel (listed.setIfInBounds i true) a' w') a w

theorem wpAny_of_L : ∀ (fuel : Nat) (listed : Array Bool) (a : Act) (w : World), wpAnyL P md ops Q S L fuel listed a w → wpAny P md ops Q fuel listed a w
  | 0, _, _, _, h => h
  | fuel + 1, _, _, _, h => ⟨h.1, fun i hi => wpOp_mono (fun a' w' h' => wpAny_of_L fuel _ a' w' h'.2) (h.2 i hi)⟩

/-- q waits for p -/
def waits (md : Region.Mode) (ops : Array Oper) (p q : Nat) : Bool :=
  match ops[q]? with
  | none => false
  | some o => o.after.any fun e => Region.binds md e && e.on == p
/-- each waits for the one ahead -/
def chained (md : Region.Mode) (ops : Array Oper) : Nat → List Nat → Bool
  | _, [] => true
  | p, q :: r => waits md ops p q && chained md ops q r

theorem not_ready {p q : Nat} {listed : Array Bool} (hw : waits md ops p q = true) (hp : listed.getD p false = false) : q ∉ Region.ready md ops listed := fun h => by
  obtain ⟨_, o, ho, hall⟩ := mem_ready.1 h
  unfold waits at hw
  rw [ho] at hw
  simp only [Array.any_eq_true, Bool.and_eq_true, beq_iff_eq] at hw
  obtain ⟨k, hk, hb, he⟩ := hw
  have := hall _ (Array.getElem_mem hk) hb
  rw [he, hp] at this
  cases this
theorem chain_free : ∀ (ch : List Nat) (i : Nat) (listed : Array Bool), chained md ops i ch = true → (∀ q ∈ i :: ch, listed.getD q false = false) → ∀ j ∈ Region.ready md ops listed, j ∉ ch
  | [], _, _, _, _, j, _ => by simp
  | q :: r, i, listed, hc, hl, j, hj => by
    unfold chained at hc
    rw [Bool.and_eq_true] at hc
    intro hm
    rcases List.mem_cons.1 hm with rfl | hm
    · exact not_ready hc.1 (hl i (by simp)) hj
    · exact chain_free r q listed hc.2 (fun x hx => hl x (List.mem_cons_of_mem _ hx)) j hj hm
theorem getD_false {listed : Array Bool} {i : Nat} (h : listed.getD i true = false) : listed.getD i false = false := by
  rcases Nat.lt_or_ge i listed.size with h' | h'
  · simp [h'] at h ⊢; exact h
  · simp [Array.getElem?_eq_none h'] at h

theorem wpAnyL_first {i : Nat} {oi : Oper} {v : Value} (hi : ops[i]? = some oi) (hsel : ∀ (j : Nat) (o : Oper) cs b, ops[j]? = some o → o.op ≠ .select cs b)
    (hQ : ∀ c a w, Q (.panic c) (a.put oi.dst v) w → Q (.panic c) a w) (hiL : i ≠ L) (ch : List Nat) (hch : chained md ops i ch = true)
    (hT : ∀ (listed : Array Bool) (w : World), (∀ q ∈ ch, listed.getD q false = false) → (listed.getD L false = false → S w) → T w) :
    ∀ (fuel : Nat) (listed : Array Bool) (a : Act) (w : World),
      (∀ q ∈ ch, listed.getD q false = false) → (listed.getD L false = false → S w) →
      (∀ j oj, ops[j]? = some oj → j ≠ i → listed.getD j true = false → (∀ e ∈ oj.after, Region.binds md e = true → e.on ≠ i) → oi.apart ops oj = true) →
      i ∈ Region.ready md ops listed → YieldsIf P ops T oi v a →
      wpAnyL P md ops Q S L fuel (listed.setIfInBounds i true) (a.put oi.dst v) w → wpAnyL P md ops Q S L (fuel + 1) listed a w := by
  intro fuel
  induction fuel with
  | zero =>
    intro listed a w hun0 hS _ hr hy H
    refine ⟨fun h => (by rw [h] at hr; cases hr), fun j hj => ?_⟩
    by_cases hji : j = i
    · subst hji; exact hy.wpOp hi (hT _ _ hun0 hS) ⟨fun h => hS (by rw [getD_set_ne false hiL] at h; exact h), H⟩
    · have := ready_mono hj hji
      rw [H.1] at this
      cases this
  | succ fuel ih =>
    intro listed a w hun0 hS hfree hr hy H
    refine ⟨fun h => (by rw [h] at hr; cases hr), fun j hj => ?_⟩
    by_cases hji : j = i
    · subst hji; exact hy.wpOp hi (hT _ _ hun0 hS) ⟨fun h => hS (by rw [getD_set_ne false hiL] at h; exact h), H⟩
    · have h1 := H.2 j (ready_mono hj hji)
      obtain ⟨hjun, oj, hoj, hall⟩ := mem_ready.1 hj
      have hi0 : listed.getD i false = false := getD_false (mem_ready.1 hr).1
      have hnot : ∀ e ∈ oj.after, Region.binds md e = true → e.on ≠ i := fun e he hb heq => by
        have h1 := hall e he hb
        rw [heq, hi0] at h1
        cases h1
      have hjch : j ∉ ch := chain_free ch i listed hch (fun q hq => by rcases List.mem_cons.1 hq with rfl | hq; exact hi0; exact hun0 q hq) j hj
      have h2 := wpOp_putIf hoj (hfree j oj hoj hji hjun hnot) (fun cs b => hsel i oi cs b hi) (fun cs b => hsel j oj cs b hoj) hQ hy h1
      have hfree' : ∀ k ok, ops[k]? = some ok → k ≠ i → (listed.setIfInBounds j true).getD k true = false →
          (∀ e ∈ ok.after, Region.binds md e = true → e.on ≠ i) → oi.apart ops ok = true := fun k ok hk hki hun hno => by
        refine hfree k ok hk hki ?_ hno
        by_cases hjk : j = k
        · subst hjk; exact hjun
        · rw [getD_set_ne true hjk] at hun; exact hun
      have hun1 : ∀ q ∈ ch, (listed.setIfInBounds j true).getD q false = false := fun q hq => by
        rw [getD_set_ne false (fun (e : j = q) => hjch (e.symm ▸ hq))]
        exact hun0 q hq
      refine wpOp_mono (fun a' w' h3 => ?_) h2
      have hS' : (listed.setIfInBounds j true).getD L false = false → S w' := fun h => h3.2.1 (by
        rw [Array.setIfInBounds_comm _ _ (Ne.symm hji), getD_set_ne false hiL]
        exact h)
      refine ⟨hS', ih (listed.setIfInBounds j true) a' w' hun1 hS' hfree' (ready_mono hr (Ne.symm hji)) h3.1 ?_⟩
      rw [Array.setIfInBounds_comm _ _ hji]
      exact h3.2.2

/-- number i, which yields v in whatever world, is taken first -/
theorem takeL {oi : Oper} {fuel : Nat} {listed : Array Bool} {tm : Array Value} {df : List Deferred} {w : World} (i n : Nat) (v : Value) (hS : S w) (hi : ops[i]? = some oi) (hd : oi.dst = some n)
    (hs : Region.noSelect ops = true) (hf : Region.free md ops listed i = true) (hr : (Region.ready md ops listed).contains i = true) (hiL : i ≠ L)
    (hQ : ∀ c a w, Q (.panic c) (a.put oi.dst v) w → Q (.panic c) a w) (hw : Region.wanted oi (yielded ops tm) = true) (hy : ∀ w, (execOp (Act.eval ⟨tm, df⟩) oi).run P w = .ok (.value v) w)
    (h : wpAnyL P md ops Q S L fuel (listed.setIfInBounds i true) ⟨tm.setIfInBounds n v, df⟩ w) : wpAnyL P md ops Q S L (fuel + 1) listed ⟨tm, df⟩ w := by
  refine wpAnyL_first (T := fun _ => True) (v := v) hi (Region.noSelect_spec hs) hQ hiL [] rfl (fun _ _ _ _ => trivial) fuel listed _ w (by simp) (fun _ => hS) (Region.free_spec hi hf) (by simpa using hr) (.inl ⟨hw, fun w _ => hy w⟩) ?_
  rw [hd]
  exact h
/-- .. which nobody wants -/
theorem takeL_no {oi : Oper} {fuel : Nat} {listed : Array Bool} {tm : Array Value} {df : List Deferred} {w : World} (i n : Nat) (hS : S w) (hi : ops[i]? = some oi) (hd : oi.dst = some n)
    (hs : Region.noSelect ops = true) (hf : Region.free md ops listed i = true) (hr : (Region.ready md ops listed).contains i = true) (hiL : i ≠ L)
    (hQ : ∀ c a w, Q (.panic c) (a.put oi.dst undef) w → Q (.panic c) a w) (hw : Region.wanted oi (yielded ops tm) = false)
    (h : wpAnyL P md ops Q S L fuel (listed.setIfInBounds i true) ⟨tm.setIfInBounds n undef, df⟩ w) : wpAnyL P md ops Q S L (fuel + 1) listed ⟨tm, df⟩ w := by
  refine wpAnyL_first (T := fun _ => True) (v := undef) hi (Region.noSelect_spec hs) hQ hiL [] rfl (fun _ _ _ _ => trivial) fuel listed _ w (by simp) (fun _ => hS) (Region.free_spec hi hf) (by simpa using hr) (.inr ⟨hw, rfl⟩) ?_
  rw [hd]
  exact h
/-- .. which yields v where S holds, and for which L waits, through ch -/
theorem takeL_S {oi : Oper} {fuel : Nat} {listed : Array Bool} {tm : Array Value} {df : List Deferred} {w : World} (i n : Nat) (v : Value) (ch : List Nat) (hS : S w) (hi : ops[i]? = some oi) (hd : oi.dst = some n)
    (hs : Region.noSelect ops = true) (hf : Region.free md ops listed i = true) (hr : (Region.ready md ops listed).contains i = true) (hiL : i ≠ L)
    (hch : (chained md ops i ch && ch.contains L && ch.all fun q => !listed.getD q false) = true)
    (hQ : ∀ c a w, Q (.panic c) (a.put oi.dst v) w → Q (.panic c) a w) (hw : Region.wanted oi (yielded ops tm) = true) (hy : ∀ w, S w → (execOp (Act.eval ⟨tm, df⟩) oi).run P w = .ok (.value v) w)
    (h : wpAnyL P md ops Q S L fuel (listed.setIfInBounds i true) ⟨tm.setIfInBounds n v, df⟩ w) : wpAnyL P md ops Q S L (fuel + 1) listed ⟨tm, df⟩ w := by
  simp only [Bool.and_eq_true, List.all_eq_true, Bool.not_eq_true'] at hch
  obtain ⟨⟨h1, h2⟩, h3⟩ := hch
  refine wpAnyL_first (T := S) (v := v) hi (Region.noSelect_spec hs) hQ hiL ch h1 (fun l w hl hSL => hSL (hl L (by simpa using h2))) fuel listed _ w h3 (fun _ => hS) (Region.free_spec hi hf) (by simpa using hr) (.inl ⟨hw, hy⟩) ?_
  rw [hd]
  exact h

/-- each of the operations 'rs' comes up next -/
def AllReadyL (P : Program) (md : Region.Mode) (ops : Array Oper) (Q : Exit → Act → World → Prop) (S : World → Prop) (L : Nat) (fuel : Nat) (listed : Array Bool) (a : Act) (w : World) (rs : List Nat) : Prop :=
  ∀ i ∈ rs, wpOp P ops Q i (fun a' w' => ((listed.setIfInBounds i true).getD L false = false → S w') ∧ wpAnyL P md ops Q S L fuel (listed.setIfInBounds i true) a' w') a w
theorem AllReadyL.nil {fuel : Nat} {listed : Array Bool} {a : Act} {w : World} : AllReadyL P md ops Q S L fuel listed a w [] := fun _ h => by cases h
/-- an operation that is not the last one -/
theorem AllReadyL.cons {fuel : Nat} {listed : Array Bool} {a : Act} {w : World} {i : Nat} {o : Oper} {rs : List Nat} (ho : ops[i]? = some o)
    (h : ∀ K' : Act → World → Prop, Shut (∀ a w, S w → (S w → wpAnyL P md ops Q S L fuel (listed.setIfInBounds i true) a w) → K' a w) → if Region.wanted o (yielded ops a.tmps) = true then Oper.wp P o a w K' Q else K' (a.put o.dst undef) w)
    (hs : AllReadyL P md ops Q S L fuel listed a w rs) : AllReadyL P md ops Q S L fuel listed a w (i :: rs) := fun j hj => by
  rcases List.mem_cons.1 hj with rfl | hj
  · exact wpOp_step ho (fun K' hK => h K' (fun a w hS hW => hK a w ⟨fun _ => hS, hW hS⟩))
  · exact hs j hj
/-- the last one -/
theorem AllReadyL.last {fuel : Nat} {listed : Array Bool} {a : Act} {w : World} {o : Oper} (ho : ops[L]? = some o) (hl : (listed.setIfInBounds L true).getD L false = true)
    (h : ∀ K' : Act → World → Prop, Shut (∀ a w, wpAnyL P md ops Q S L fuel (listed.setIfInBounds L true) a w → K' a w) → if Region.wanted o (yielded ops a.tmps) = true then Oper.wp P o a w K' Q else K' (a.put o.dst undef) w) :
    AllReadyL P md ops Q S L fuel listed a w [L] := fun j hj => by
  obtain rfl : j = L := by simpa using hj
  exact wpOp_step ho (fun K' hK => h K' (fun a w hW => hK a w ⟨(fun h => by rw [hl] at h; cases h), hW⟩))
/-- one that comes behind the last one of which something is owed -/
theorem AllReadyL.past {fuel : Nat} {listed : Array Bool} {a : Act} {w : World} {i : Nat} {o : Oper} (ho : ops[i]? = some o) (hl : (listed.setIfInBounds i true).getD L false = true)
    (h : ∀ K' : Act → World → Prop, Shut (∀ a w, wpAnyL P md ops Q S L fuel (listed.setIfInBounds i true) a w → K' a w) → if Region.wanted o (yielded ops a.tmps) = true then Oper.wp P o a w K' Q else K' (a.put o.dst undef) w) :
    AllReadyL P md ops Q S L fuel listed a w [i] := fun j hj => by
  obtain rfl : j = i := by simpa using hj
  exact wpOp_step ho (fun K' hK => h K' (fun a w hW => hK a w ⟨(fun h => by rw [hl] at h; cases h), hW⟩))
theorem wpAnyL_ready {rs : List Nat} {fuel : Nat} {listed : Array Bool} {a : Act} {w : World} (hr : Region.ready md ops listed = rs) (hne : rs ≠ [])
    (h : AllReadyL P md ops Q S L fuel listed a w rs) : wpAnyL P md ops Q S L (fuel + 1) listed a w := ⟨fun h0 => absurd (hr ▸ h0) hne, hr ▸ h⟩
/-- all have come up -/
theorem wpAnyL_done {listed : Array Bool} {a : Act} {w : World} (hr : Region.ready md ops listed = []) (h : Q .normal a w) : ∀ fuel, wpAnyL P md ops Q S L fuel listed a w
  | 0 => ⟨hr, h⟩
  | _ + 1 => ⟨fun _ => h, by rw [hr]; simp⟩
/-- the beginning -/
theorem wp_region_L {id : Nat} {a : Act} {w : World} (hm : P.follows .mixedOrders = true) (L : Nat) (S : World → Prop) (hS : S w.drew)
    (h : S w.drew → wpAnyL P .any ops Q S L ops.size (Array.replicate ops.size false) a w.drew) : (Code.region id ops true).wp P Q a w :=
  wp_region_any hm (wpAny_of_L _ _ _ _ (h hS))
end
/-! short forms -/
section
variable {P : Program} {md : Region.Mode} {ops : Array Oper} {Q : Exit → Act → World → Prop} {S : World → Prop} {L : Nat} {oi : Oper} {fuel : Nat} {listed : Array Bool} {tm : Array Value} {df : List Deferred} {w : World}
theorem tk (i n : Nat) (v : Value) (hS : S w) (hi : ops[i]? = some oi) (hd : oi.dst = some n) (hy : ∀ w, (execOp (Act.eval ⟨tm, df⟩) oi).run P w = .ok (.value v) w) (h : wpAnyL P md ops Q S L fuel (listed.setIfInBounds i true) ⟨tm.setIfInBounds n v, df⟩ w)
    (hs : Region.noSelect ops = true := by kernel_rfl) (hf : Region.free md ops listed i = true := by kernel_rfl) (hr : (Region.ready md ops listed).contains i = true := by kernel_rfl) (hiL : i ≠ L := by decide)
    (hQ : ∀ c a w, Q (.panic c) (a.put oi.dst v) w → Q (.panic c) a w := by exact fun _ _ _ h => h) (hw : Region.wanted oi (yielded ops tm) = true := by kernel_rfl) : wpAnyL P md ops Q S L (fuel + 1) listed ⟨tm, df⟩ w := takeL i n v hS hi hd hs hf hr hiL hQ hw hy h
theorem tj (i n : Nat) (v : Value) (hS : S w) (hi : ops[i]? = some oi) (hd : oi.dst = some n) (h : wpAnyL P md ops Q S L fuel (listed.setIfInBounds i true) ⟨tm.setIfInBounds n v, df⟩ w) (hy : ∀ w, (execOp (Act.eval ⟨tm, df⟩) oi).run P w = .ok (.value v) w := by intro w2; go_simp)
    (hs : Region.noSelect ops = true := by kernel_rfl) (hf : Region.free md ops listed i = true := by kernel_rfl) (hr : (Region.ready md ops listed).contains i = true := by kernel_rfl) (hiL : i ≠ L := by decide)
    (hQ : ∀ c a w, Q (.panic c) (a.put oi.dst v) w → Q (.panic c) a w := by exact fun _ _ _ h => h) (hw : Region.wanted oi (yielded ops tm) = true := by kernel_rfl) : wpAnyL P md ops Q S L (fuel + 1) listed ⟨tm, df⟩ w := takeL i n v hS hi hd hs hf hr hiL hQ hw hy h
theorem tN (i n : Nat) (hS : S w) (hi : ops[i]? = some oi) (hd : oi.dst = some n) (h : wpAnyL P md ops Q S L fuel (listed.setIfInBounds i true) ⟨tm.setIfInBounds n undef, df⟩ w)
    (hs : Region.noSelect ops = true := by kernel_rfl) (hf : Region.free md ops listed i = true := by kernel_rfl) (hr : (Region.ready md ops listed).contains i = true := by kernel_rfl) (hiL : i ≠ L := by decide)
    (hQ : ∀ c a w, Q (.panic c) (a.put oi.dst undef) w → Q (.panic c) a w := by exact fun _ _ _ h => h) (hw : Region.wanted oi (yielded ops tm) = false := by kernel_rfl) : wpAnyL P md ops Q S L (fuel + 1) listed ⟨tm, df⟩ w := takeL_no i n hS hi hd hs hf hr hiL hQ hw h
theorem tS (i n : Nat) (v : Value) (ch : List Nat) (hS : S w) (hi : ops[i]? = some oi) (hd : oi.dst = some n) (hy : ∀ w, S w → (execOp (Act.eval ⟨tm, df⟩) oi).run P w = .ok (.value v) w) (h : wpAnyL P md ops Q S L fuel (listed.setIfInBounds i true) ⟨tm.setIfInBounds n v, df⟩ w)
    (hs : Region.noSelect ops = true := by kernel_rfl) (hf : Region.free md ops listed i = true := by kernel_rfl) (hr : (Region.ready md ops listed).contains i = true := by kernel_rfl) (hiL : i ≠ L := by decide)
    (hch : (chained md ops i ch && ch.contains L && ch.all fun q => !listed.getD q false) = true := by kernel_rfl)
    (hQ : ∀ c a w, Q (.panic c) (a.put oi.dst v) w → Q (.panic c) a w := by exact fun _ _ _ h => h) (hw : Region.wanted oi (yielded ops tm) = true := by kernel_rfl) : wpAnyL P md ops Q S L (fuel + 1) listed ⟨tm, df⟩ w := takeL_S i n v ch hS hi hd hs hf hr hiL hch hQ hw hy h
end
end Go.Proofs.YtmignlclfbaifaaGreat

namespace Go.Proofs.YtmignlclfbaifaaGreat
open Go

section
variable {P : Program} {ops : Array Oper} {Q : Exit → Act → World → Prop} {o : Oper} {rest : List Oper} {tm : Array Value} {df : List Deferred} {w : World}
theorem takeP (n : Nat) (v : Value) (hd : o.dst = some n) (hw : Region.wanted o (yielded ops tm) = true) (hy : (execOp (Act.eval ⟨tm, df⟩) o).run P w = .ok (.value v) w)
    (h : wpList P ops Q rest ⟨tm.setIfInBounds n v, df⟩ w) : wpList P ops Q (o :: rest) ⟨tm, df⟩ w := by
  unfold wpList
  rw [if_pos hw]
  refine .inl ?_
  unfold Oper.wp
  rw [hy]
  show wpList P ops Q rest (Act.put ⟨tm, df⟩ o.dst v) w
  rw [hd]
  exact h
theorem takeP_no (n : Nat) (hd : o.dst = some n) (hw : Region.wanted o (yielded ops tm) = false) (h : wpList P ops Q rest ⟨tm.setIfInBounds n undef, df⟩ w) : wpList P ops Q (o :: rest) ⟨tm, df⟩ w := by
  unfold wpList
  rw [if_neg (by rw [hw]; decide), hd]
  exact h
theorem stepP (hw : Region.wanted o (yielded ops tm) = true) (h : ∀ K : Act → World → Prop, Shut (∀ a w, wpList P ops Q rest a w → K a w) → o.wp P ⟨tm, df⟩ w K Q) : wpList P ops Q (o :: rest) ⟨tm, df⟩ w := by
  unfold wpList
  rw [if_pos hw]
  exact .inl (h _ (fun _ _ h => h))
end
end Go.Proofs.YtmignlclfbaifaaGreat
