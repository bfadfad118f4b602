/- Numbers that nobody wants, put ahead of a function's instructions, are left out again: the walk of 'DeadIdleSaid'. Printed by wip/gen_deadidle.py. -/
import Derived.Test.YtkpigkopjfkepaaGreatDoorPbDeadMod
import Derived.BigQuiet
namespace Go.Proofs.YtkpigkopjfkepaaGreatDoor
open Go.RowKit

/-! ### plain -/
theorem low_fit (raw : List LBlock) (k : Nat) : Low (fitFl raw k) := fun b hb => by
  have h := block_fit raw k b hb
  unfold blockBad at h
  rw [Bool.or_eq_false_iff] at h
  obtain ⟨h1, h2⟩ := h
  rw [Bool.not_eq_false'] at h1
  refine ⟨fun v hv => ?_, fun x hx v hv => ?_⟩
  · unfold termOk at h1
    simp only [Bool.and_eq_true] at h1
    have h := h1.1.1.2
    unfold wantsL at hv
    by_cases e : b.term.kind = 2 ∨ b.term.kind = 3 ∨ b.term.kind = 4
    · rw [if_pos e] at hv
      obtain rfl := List.mem_singleton.1 hv
      rw [decide_eq_true (show b.term.kind ≠ 1 by omega)] at h
      unfold placeIf at h
      rw [if_pos rfl] at h
      exact (of_decide_eq_true h).2
    · rw [if_neg e] at hv; cases hv
  · have h := List.any_eq_false.1 h2 x hx
    have hi : insOk (fitU raw) 10 x = true := by have h := h; rw [show (fitFl raw k).values = 10 from rfl] at h; simpa using h
    unfold insOk at hi
    simp only [Bool.and_eq_true] at hi
    obtain ⟨⟨⟨⟨⟨⟨_, _⟩, ha⟩, hb'⟩, _⟩, _⟩, hn⟩ := hi
    unfold usesL at hv
    rcases List.mem_append.1 hv with hv | hv
    · rcases List.mem_append.1 hv with hv | hv
      · by_cases e : hasA x.kind = true
        · rw [if_pos e] at hv; obtain rfl := List.mem_singleton.1 hv
          rw [e] at ha; unfold placeIf at ha; rw [if_pos rfl] at ha; exact (of_decide_eq_true ha).2
        · rw [if_neg e] at hv; cases hv
      · by_cases e : hasB x.kind = true
        · rw [if_pos e] at hv; obtain rfl := List.mem_singleton.1 hv
          rw [e] at hb'; unfold placeIf at hb'; rw [if_pos rfl] at hb'; exact (of_decide_eq_true hb').2
        · rw [if_neg e] at hv; cases hv
    · by_cases e : x.kind = 9
      · rw [if_pos e] at hv
        unfold namedOk at hn
        rw [if_neg (by omega), if_pos e] at hn
        unfold callOk at hn
        cases hf : (fitU raw).flows.find? (fun f => decide (f.name = x.name)) with
        | none => rw [hf] at hn; cases hn
        | some g =>
          rw [hf] at hn
          simp only [Bool.and_eq_true, Bool.not_eq_true', List.any_eq_false] at hn
          have hp : placeIf v 10 true = true := by simpa using hn.2 v hv
          unfold placeIf at hp
          rw [if_pos rfl] at hp
          exact (of_decide_eq_true hp).2
      · rw [if_neg e] at hv; cases hv
/-- the raw numbers, as they are put ahead -/
def aheadN (l : List Int) (i : Nat) : Int := if i = 0 then l.getD 0 0 else pk (l.getD i 0) 10
theorem aheadN_lo (l : List Int) (i : Nat) (h : 0 < i) : 0 ≤ aheadN l i ∧ aheadN l i < 10 := by
  unfold aheadN
  rw [if_neg (by omega)]
  exact ⟨pk_lo _ 10 (by decide), pk_hi _ 10 (by decide)⟩
theorem aheadI_args (b : Nat → Int) (i : Nat) : (aheadI b i).args = [] := by unfold aheadI; split <;> rfl
theorem ahead_ok (raw : List LBlock) {b : Nat → Int} (hb : ∀ i, 0 < i → 0 ≤ b i ∧ b i < 10) {i : Nat} (hi : i < 6) : insOk (fitU raw) 17 (aheadI b i) = true := by
  unfold aheadI
  by_cases e : i = 0
  · rw [if_pos e]
    unfold insOk
    simp [placeIf, hasD, hasA, hasB, opOk, namedOk]
  · rw [if_neg e]
    have := hb i (by omega)
    unfold insOk
    simp [placeIf, hasD, hasA, hasB, opOk, namedOk]
    omega
theorem idle_unit (raw : List LBlock) {k : Nat} (hk : k < 3) {b : Nat → Int} (hb : ∀ i, 0 < i → 0 ≤ b i ∧ b i < 10) {m : Nat} (hm : m ≤ 6) :
    ∃ u : LUnit, u.arrays = (fitU raw).arrays ∧ u.flows = (fitFlows raw 3).set k (vals (aheadF b m (fitFl raw k)) 17) ∧ UnitOk u ∧ SmallU u ∧ (deadE u).flows.set k (deadF (fitFl raw k)) = (deadE (fitU raw)).flows ∧ (deadE u).flows[k]? = some (vals (deadF (fitFl raw k)) 17) := by
  have hpos := fit_pos raw k
  have hle := fit_le raw k
  have hal : (aheadF b m (fitFl raw k)).blocks.length = (fitFl raw k).blocks.length := ahead_len m
  have hblk0 : ∀ x ∈ (fitFl raw k).blocks, x.ins.length ≤ 6 := fit_ins raw k
  have hcase : ∀ x ∈ (vals (aheadF b m (fitFl raw k)) 17).blocks, x ∈ (fitFl raw k).blocks ∨ x = ⟨aheadL b m ++ (fitFl raw k).blocks[0].ins, (fitFl raw k).blocks[0].term⟩ := fun x hx => by
    obtain ⟨i, hi, rfl⟩ := List.getElem_of_mem hx
    have hi' : i < (fitFl raw k).blocks.length := by rw [← hal]; exact hi
    by_cases e : i = 0
    · subst e; exact .inr (ahead_at0 hpos m)
    · exact .inl (by rw [show (vals (aheadF b m (fitFl raw k)) 17).blocks[i] = (fitFl raw k).blocks[i] from ahead_at hi' e m]; exact List.getElem_mem _)
  have hins : ∀ x ∈ (vals (aheadF b m (fitFl raw k)) 17).blocks, x.ins.length ≤ 12 := fun x hx => by
    rcases hcase x hx with h | h
    · have := hblk0 x h; omega
    · rw [h]
      show (aheadL b m ++ (fitFl raw k).blocks[0].ins).length ≤ 12
      rw [List.length_append]
      have h1 : (aheadL b m).length = m := by simp [aheadL]
      have := hblk0 _ (List.getElem_mem hpos); omega
  have hup : ∀ x ∈ (fitFl raw k).blocks, termOk (fitFl raw k).blocks.length 17 x.term = true ∧ ∀ y ∈ x.ins, insOk (fitU raw) 17 y = true := fun x hx => by
    have h := block_fit raw k x hx
    unfold blockBad at h
    rw [Bool.or_eq_false_iff, show (fitFl raw k).values = 10 from rfl] at h
    refine ⟨termOk_up (a := 10) (by decide) (by simpa using h.1), fun y hy => insOk_up (a := 10) (by decide) (by simpa using List.any_eq_false.1 h.2 y hy)⟩
  have hblk : ∀ x ∈ (vals (aheadF b m (fitFl raw k)) 17).blocks, blockBad (fitU raw) (vals (aheadF b m (fitFl raw k)) 17) x = false := fun x hx => by
    have hkey : termOk (fitFl raw k).blocks.length 17 x.term = true ∧ ∀ y ∈ x.ins, insOk (fitU raw) 17 y = true := by
      rcases hcase x hx with h | h
      · exact hup x h
      · have h0 := hup _ (List.getElem_mem hpos)
        rw [h]
        refine ⟨h0.1, fun y hy => ?_⟩
        rcases List.mem_append.1 (show y ∈ aheadL b m ++ (fitFl raw k).blocks[0].ins from hy) with h1 | h1
        · obtain ⟨i, hi, rfl⟩ := List.mem_map.1 h1
          exact ahead_ok raw hb (by have := List.mem_range.1 hi; omega)
        · exact h0.2 y h1
    unfold blockBad
    rw [Bool.or_eq_false_iff]
    refine ⟨?_, ?_⟩
    · rw [Bool.not_eq_false']
      show termOk (aheadF b m (fitFl raw k)).blocks.length 17 x.term = true
      rw [hal]; exact hkey.1
    · rw [List.any_eq_false]
      intro y hy
      rw [show insOk (fitU raw) (vals (aheadF b m (fitFl raw k)) 17).values y = true from hkey.2 y hy]; decide
  have hcnt := insCount_le (l := (vals (aheadF b m (fitFl raw k)) 17).blocks) (fun x hx => by have := hins x hx; omega)
  have hnum : flowBad (vals (aheadF b m (fitFl raw k)) 17) = false := by
    unfold flowBad
    refine decide_eq_false ?_
    have hl2 : (vals (aheadF b m (fitFl raw k)) 17).blocks.length = (fitFl raw k).blocks.length := hal
    show ¬ ((k : Int) < 0 ∨ (k : Int) > 6 ∨ (17 : Int) < (k : Int) ∨ (17 : Int) > 50000 ∨ (vals (aheadF b m (fitFl raw k)) 17).blocks.length = 0 ∨ (vals (aheadF b m (fitFl raw k)) 17).blocks.length > 20000 ∨ insCount (vals (aheadF b m (fitFl raw k)) 17).blocks > 200000)
    omega
  obtain ⟨h1, h2⟩ := fit_swap raw hk (f' := vals (aheadF b m (fitFl raw k)) 17) rfl rfl hnum (fun x hx => by have := hins x hx; omega) hblk
  have hdf : ((deadE (mapU (swapF (fitFl raw k) (vals (aheadF b m (fitFl raw k)) 17)) (fitU raw))).flows) = ((fitU raw).flows.map deadF).set k (vals (deadF (fitFl raw k)) 17) := by
    show ((mapU (swapF (fitFl raw k) (vals (aheadF b m (fitFl raw k)) 17)) (fitU raw)).flows).map deadF = _
    rw [h2, List.map_set, dead_vals, ahead_dead (low_fit raw k) hpos (fun i hi => (hb i hi).2)]
  have hkl : k < ((fitU raw).flows.map deadF).length := by rw [List.length_map]; exact (List.getElem?_eq_some_iff.1 (fit_at (raw := raw) hk)).1
  have e : deadF (fitFl raw k) = ((fitU raw).flows.map deadF)[k] := by
    rw [List.getElem_map]
    congr 1
    exact ((List.getElem?_eq_some_iff.1 (fit_at (raw := raw) hk)).2).symm
  refine ⟨mapU (swapF (fitFl raw k) (vals (aheadF b m (fitFl raw k)) 17)) (fitU raw), rfl, h2, h1, ?_, ?_, ?_⟩
  · intro g hg
    rw [h2] at hg
    rcases List.mem_or_eq_of_mem_set hg with h | h
    · exact small_fit raw g h
    · rw [h]; exact ⟨by show (aheadF b m (fitFl raw k)).blocks.length ≤ 1000; omega, fun x hx => by have := hins x hx; omega⟩
  · rw [hdf, List.set_set, e, List.set_getElem_self]
    rfl
  · rw [hdf, List.getElem?_set_self hkl]

/-! ### what lies where -/
/-- the function, in the block behind W5; its rows lie where 'ok' lets -/
structure IB (f : LFlow) (ok : Nat → Prop) (W5 : World) (v : Value) (css : List (List Value)) (wr : World) : Prop where
  below : Below W5.heap.size W5 wr
  fl : Blk wr W5.heap.size 41 #[.string f.name, .int .i64 f.params, .int .i64 f.values, v]
  own : OwnX wr ok (W5.heap.size + 1) 48 5 RBlock v f.blocks css
theorem IB.later {f : LFlow} {ok : Nat → Prop} {W5 : World} {v : Value} {css : List (List Value)} {wr X : World} (h : IB f ok W5 v css wr) (hb : Below wr.heap.size wr X) (hlt : ∀ b, ok b → b < wr.heap.size) : IB f ok W5 v css X :=
  ⟨h.below.trans (hb.mono h.below.size), h.fl.below hb h.fl.lt, h.own.below mono_block hb hlt (fun _ h => h) h.own.free⟩
def aheadC (b : Nat → Int) (m : Nat) : List (List Value) := (List.range m).map (fun j => insCells (aheadI b j) (.slice none 0 0))
theorem aheadC_succ (b : Nat → Int) (m : Nat) : (aheadC b (m + 1)).flatten = (aheadC b m).flatten ++ insCells (aheadI b m) (.slice none 0 0) := by simp [aheadC, List.range_succ]
/-- the numbers put ahead, in a row from W8 on -/
structure IL (b : Nat → Int) (W8 : World) (m : Nat) (v : Value) (wr : World) : Prop where
  below : Below W8.heap.size W8 wr
  own : wr.ownsRow W8.heap.size 44 8 v m (aheadC b m).flatten
/-- the first block's row made anew -/
theorem IB.ahead {f : LFlow} {ok : Nat → Prop} {W5 W8 wq X : World} {g n cap m : Nat} {css cssI : List (List Value)} {vl v2 : Value} {b : Nat → Int} (h : IB f ok W5 (.slice (some ⟨g, 0, none⟩) n cap) css wq) (hn : n = f.blocks.length) (h0 : 0 < f.blocks.length) (h8 : W5.heap.size + 1 ≤ W8.heap.size) (hok : ∀ b, ok b → b < W8.heap.size)
    (hl : wq.ownsRow W8.heap.size 44 8 vl m (aheadC b m).flatten) {x0 : LBlock} (hx0 : f.blocks[0] = x0) (hI1 : cssI.length = x0.ins.length) (hI2 : ∀ cs ∈ cssI, cs.length = 8) (hI3 : ∀ (i : Nat) (h1 : i < cssI.length) (h2 : i < x0.ins.length), RIns wq ok cssI[i] x0.ins[i])
    (hg : wq.grownBy X vl.ownBlock) (hown : X.ownsRow W8.heap.size 44 8 v2 (m + x0.ins.length) ((aheadC b m).flatten ++ cssI.flatten)) (hgW : g < W8.heap.size) (hw8 : W8.heap.size ≤ wq.heap.size) :
    IB (aheadF b m f) (fun k => ok k ∨ (W8.heap.size ≤ k ∧ k < X.heap.size)) W5 (.slice (some ⟨g, 0, none⟩) n cap) (css.set 0 ((css[0]'(by rw [h.own.len]; exact h0)).set 0 v2)) (X.setCell ⟨g, 0, none⟩ v2) := by
  have hlt := hl.lt
  have hg5 : W5.heap.size + 1 ≤ g := (h.own.row.lt g rfl).1
  have hne5 : vl.ownBlock ≠ some W5.heap.size := fun e => by have := (hlt _ e).1; omega
  have hneg : vl.ownBlock ≠ some g := fun e => by have := (hlt _ e).1; omega
  have hgs := hg.size
  have h0c : 0 < css.length := by rw [h.own.len]; exact h0
  have hfree : ¬ ok g := h.own.free g rfl
  have hkX : Keeps ok wq X := fun k hk => hg.block k (by have := hok k hk; omega) (fun e => by have := (hlt k e.symm).1; have := hok k hk; omega)
  have hk : Keeps ok wq (X.setCell ⟨g, 0, none⟩ v2) := hkX.set (fun k hk e => hfree (by rw [← show k = g from e]; exact hk)) _
  have hrowX : X.ownsRow (W5.heap.size + 1) 48 5 (.slice (some ⟨g, 0, none⟩) n cap) n css.flatten := by
    have h1 := h.own.row.kept hg (.inr (fun e => hneg e.symm))
    rw [← hn] at h1
    exact h1
  have hput := OwnL.put1 hrowX h.own.each h0c (show 0 < 5 by decide) v2 ()
  rw [show 0 * 5 + 0 = 0 from rfl] at hput
  obtain ⟨vi, hcs, _⟩ := h.own.elems 0 h0c h0
  refine ⟨?_, ((h.fl.grown hg hne5).far (by show W5.heap.size ≠ g; omega) _), ?_⟩
  · exact (h.below.grown hg h.below.size (fun k e => by have := (hlt k e).1; omega)).setCell (by show W5.heap.size ≤ g; omega) _
  · have hx := OwnX.put_to (w' := X.setCell ⟨g, 0, none⟩ v2) (ok' := fun k => ok k ∨ (W8.heap.size ≤ k ∧ k < X.heap.size)) (c := v2) (i := 0) (x := (⟨aheadL b m ++ x0.ins, x0.term⟩ : LBlock)) mono_block h.own hn h0c hput hk (fun _ h => .inl h) (fun e => by
        rcases e with e | e
        · exact hfree e
        · omega) (by
        rw [hcs, hx0]
        refine ⟨v2, rfl, ?_⟩
        have hrow2 : (X.setCell ⟨g, 0, none⟩ v2).ownsRow W8.heap.size 44 8 v2 (m + x0.ins.length) (aheadC b m ++ cssI).flatten := by
          rw [List.flatten_append]
          exact hown.kept (grown_set X ⟨g, 0, none⟩ v2) (.inr (fun e => by have := (hown.lt g e).1; omega))
        have hacl : (aheadC b m).length = m := by simp [aheadC]
        have hall : (aheadL b m).length = m := by simp [aheadL]
        refine SlR.of_own hrow2 (by rw [List.length_append, hall]) (by rw [List.length_append, List.length_append, hacl, hall, hI1]) (fun cs hc => ?_) (fun i h1 h2 => ?_) (fun k e => .inr (hown.lt k e))
        · rcases List.mem_append.1 hc with hc | hc
          · obtain ⟨j, _, rfl⟩ := List.mem_map.1 hc; rfl
          · exact hI2 cs hc
        · by_cases e : i < m
          · rw [List.getElem_append_left (by omega), List.getElem_append_left (by omega)]
            have e1 : (aheadC b m)[i]'(by omega) = insCells (aheadI b i) (.slice none 0 0) := by simp [aheadC]
            have e2 : (aheadL b m)[i]'(by omega) = aheadI b i := by simp [aheadL]
            rw [e1, e2]
            exact ⟨_, rfl, by rw [aheadI_args]; exact SlR.nil_ _ _ _ _⟩
          · have hb1 : i - m < cssI.length := by rw [List.length_append] at h1; omega
            have hb2 : i - m < x0.ins.length := by omega
            rw [List.getElem_append_right (by omega), List.getElem_append_right (by omega)]
            have h3 := (hI3 (i - m) hb1 hb2).imp (fun k hk => (.inl hk : ok k ∨ (W8.heap.size ≤ k ∧ k < X.heap.size))) hk
            simpa [hacl, hall] using h3)
    have e : (aheadF b m f).blocks = f.blocks.set 0 ⟨aheadL b m ++ x0.ins, x0.term⟩ := by
      show f.blocks.set 0 ⟨aheadL b m ++ (f.blocks.getD 0 _).ins, (f.blocks.getD 0 _).term⟩ = _
      rw [show f.blocks.getD 0 ⟨[], ⟨0, 0, 0, 0⟩⟩ = x0 by rw [← hx0]; simp [List.getD, h0]]
    rw [e]
    exact hx
/-- a number of values stored into what Dead made -/
theorem DeadOut.store {u : LUnit} {w w' X : World} {xb gB d1 d2 k : Nat} {B1 : Option Addr} {n : Int} {fls : List LFlow} (h : DeadOut u w xb w' B1 (some ⟨gB, 0, none⟩) d1 d2) (hX : Below w'.heap.size w' X) {fk : LFlow} (hk : (deadE u).flows[k]? = some fk) (hf : (deadE u).flows.set k (vals fk n) = fls) :
    SlR (X.setCell ⟨gB, k * 4 + 2, none⟩ (.int .i64 n)) (· < (X.setCell ⟨gB, k * 4 + 2, none⟩ (.int .i64 n)).heap.size) 2 RArr (.slice B1 u.arrays.length d1) u.arrays ∧ SlR (X.setCell ⟨gB, k * 4 + 2, none⟩ (.int .i64 n)) (· < (X.setCell ⟨gB, k * 4 + 2, none⟩ (.int .i64 n)).heap.size) 4 (RFlow (X.setCell ⟨gB, k * 4 + 2, none⟩ (.int .i64 n)) (· < (X.setCell ⟨gB, k * 4 + 2, none⟩ (.int .i64 n)).heap.size)) (.slice (some ⟨gB, 0, none⟩) u.flows.length d2) fls := by
  have hz : (X.setCell ⟨gB, k * 4 + 2, none⟩ (.int .i64 n)).heap.size = X.heap.size := by simp [World.setCell]
  have hs := hX.size
  have e : (deadE u).flows.length = u.flows.length := List.length_map _
  have hgb : ∀ (b : Nat), b ≠ gB → b ≠ (⟨gB, k * 4 + 2, none⟩ : Addr).block := fun _ h => h
  obtain ⟨css, hown⟩ := h.own
  have hown2 := hown.below mono_flow hX (fun b hb => hb.1) (fun _ h => h) hown.free
  obtain ⟨hkl, hke⟩ := List.getElem?_eq_some_iff.1 hk
  have hkc : k < css.length := by rw [hown.len]; exact hkl
  have hel := hown2.elems k hkc hkl
  rw [hke] at hel
  obtain ⟨vb, hcs, hbl⟩ := hel
  rw [← e] at hown2 ⊢
  have hp := hown2.put (c := .int .i64 n) (i := 2) (x := vals fk n) mono_flow rfl hkc (by decide) (by rw [hcs]; exact ⟨vb, rfl, hbl⟩)
  rw [hf] at hp
  refine ⟨h.arr.imp (fun b hb => by have := hb.2.1; omega) (fun b hb => ?_) (fun _ _ _ r => r), ?_⟩
  · have h1 := ((Keeps.refl _ X).set (ok := fun b => b ≠ gB) hgb (.int .i64 n)) b (fun e => hb.2.2 (by rw [e]; rfl))
    exact h1.trans (hX.block b hb.2.1)
  · have hs1 := hp.slr (ok' := (· < (X.setCell ⟨gB, k * 4 + 2, none⟩ (.int .i64 n)).heap.size)) mono_flow (fun b hb => by have := hb.1; omega) (fun b eb => by have := (hown2.row.lt b eb).2; omega)
    exact hs1
theorem DeadOut.form {u : LUnit} {w w' : World} {xb d1 d2 : Nat} {B1 B2 : Option Addr} (h : DeadOut u w xb w' B1 B2 d1 d2) (h0 : 0 < u.flows.length) : ∃ gB, B2 = some ⟨gB, 0, none⟩ ∧ w.heap.size ≤ gB ∧ gB < w'.heap.size ∧ ∀ X, Below w'.heap.size w' X → ∀ k, k < u.flows.length → (∃ z, X.cell? ⟨gB, k * 4 + 2, none⟩ = some z) ∧ X.frozen? ⟨gB, k * 4 + 2, none⟩ = false := by
  have e : (deadE u).flows.length = u.flows.length := List.length_map _
  obtain ⟨css, hown⟩ := h.own
  obtain ⟨gB, c, hv, h1, h2, _⟩ := own_some hown.row (by rw [e]; exact h0)
  obtain ⟨rfl, rfl⟩ : B2 = some ⟨gB, 0, none⟩ ∧ d2 = c := by injection hv with a b c; exact ⟨a, c⟩
  refine ⟨gB, rfl, h1, h2, fun X hX k hk => ?_⟩
  have hr := (hown.below mono_flow hX (fun b hb => hb.1) (fun _ h => h) hown.free).row
  rw [e] at hr
  exact ⟨own_cell hr (k * 4 + 2) (by omega), hr.frozenAt _⟩
theorem vals_back (f : LFlow) (h : f.values = 10) : vals (vals (deadF f) 17) 10 = deadF f := by
  have e : vals f 10 = f := by unfold vals; rw [← h]
  have e2 := dead_vals f 10
  rw [e] at e2
  exact e2.symm

set_option maxRecDepth 100000 in
set_option maxHeartbeats 16000000 in
theorem deadIdle_walk (vr vin : Value) (which : Int) (raw : List LBlock) (hI : ∀ x ∈ raw, x.I) (more : List Int) (_hlen : (more.length + 0) * 8 ≤ 140737488355328) (hJ : ∀ x ∈ more, I64 x) (w : World) (hsl : SlR w (· < w.heap.size) 5 (RBlock w (· < w.heap.size)) vr raw) (hin : SlR w (· < w.heap.size) 1 RInt vin more) (wh : (Lit.int .i64 which).wf = true) :
    Calls Tryz.prog 4 #[vr, vin, .int .i64 which] w fun e w' => e = .returned (.bool true) ∧ Below w.heap.size w w' := by
  obtain ⟨Ar, cr, hvr, _, _⟩ := hsl.val
  obtain ⟨Ai, ci, hvi, hil1, hil2⟩ := hin.val
  subst hvr hvi
  obtain ⟨io, io'⟩ := i64_of_wf wh
  obtain ⟨k, hk3, -, hpick⟩ := pick15_n which ⟨io, io'⟩ 3 (by omega) (by omega)
  have HP := Lib.hid hpick
  have HAW := Lib.hid (awake15_any w)
  have HFIT := Lib.hid (fun (X : World) (hb : Below w.heap.size w X) => fit_any raw hI (.slice Ar raw.length cr) X (slr_at mono_block hsl hb))
  have huo := unit_fit raw
  have hus := small_fit raw
  have HUO := Lib.hid huo
  have HUS := Lib.hid hus
  have HIN := Lib.hid hin
  have HJ := Lib.hid hJ
  clear hJ
  clear hsl hI huo hus hpick hin
  go_enter Tryz.func4, Tryz.ntmps4
  go_upto_region 3 with (first | (go_at_call 8; refine HAW.out.mono ?_; rintro e w2 ⟨rfl, hb2⟩) | (go_at_call 9; refine (HFIT.out _ hb2).mono ?_; rintro e w3 ⟨va, vf, css, rfl, hb3, hsa, hof⟩; obtain ⟨A1, c1, hva, _, _⟩ := hsa.val; obtain ⟨gf, cf, hvf⟩ := own_three hof; subst hva hvf))
  refine wp_world ?_
  intro W hW
  have hB : Below w.heap.size w W := by
    have h := hb2.trans (hb3.mono hb2.size)
    rw [← hW]; exact h.alloc h.size _
  have hU : Blk W w3.heap.size 27 #[.slice A1 (fitU raw).arrays.length c1, .slice (some ⟨gf, 0, none⟩) 3 cf] := by rw [← hW]; exact Blk.new w3 _ _
  have hA4 : SlR W (fun b => b < w2.heap.size + 4) 2 RArr (.slice A1 (fitU raw).arrays.length c1) (fitU raw).arrays := by rw [← hW]; exact hsa.imp (fun b hb => hb.1.2) (fun b hb => Below.heap_alloc w3 _ b hb.2) (fun _ _ _ r => r)
  have hO : OwnL W (w2.heap.size + 4) 41 4 RFlow (.slice (some ⟨gf, 0, none⟩) 3 cf) (fitFlows raw 3) css := by rw [← hW]; exact hof.below mono_flow (below1 _ _)
  have hA : SlR W (· < W.heap.size) 2 RArr (.slice A1 (fitU raw).arrays.length c1) (fitU raw).arrays := by rw [← hW]; exact hsa.imp (fun b hb => by have hb' := hb.2; simp; omega) (fun b hb => Below.heap_alloc w3 _ b hb.2) (fun _ _ _ r => r)
  have hg3 : gf < w3.heap.size := (hof.lt gf rfl).2
  have hgB : w2.heap.size + 4 ≤ gf := (hof.lt gf rfl).1
  have hB4 : w2.heap.size + 4 ≤ W.heap.size := by have := (hO.lt gf rfl).2; omega
  have u0 : W.cell? ⟨w3.heap.size, 0, none⟩ = some (.slice A1 (fitU raw).arrays.length c1) := hU.cell 0
  have u1 : W.cell? ⟨w3.heap.size, 1, none⟩ = some (.slice (some ⟨gf, 0, none⟩) 3 cf) := hU.cell 1
  have hl3 : (fitFlows raw 3).length = 3 := by simp [fitFlows]
  have HDE := Lib.hid (dead_x HUO.out HUS.out hA (fls := fitFlows raw 3) rfl hl3 hO)
  have HA4 := Lib.hid hA4
  have HO := Lib.hid hO
  have HU := Lib.hid hU
  have HB := Lib.hid hB
  have hul := hU.lt
  have hs2w : w.heap.size ≤ w2.heap.size := hb2.size
  clear hW hb2 hb3 hsa hof hA hA4 hO hU hB HAW HFIT
  go_upto_region 4 with (go_at_call 10; refine HDE.out.mono ?_; rintro e w5 ⟨B1, B2, d4, d5, rfl, hb5, hdo⟩)
  refine wp_world ?_
  intro W5 hW5
  have hb51 : Below w5.heap.size w5 W5 := by rw [← hW5]; exact below1 _ _
  have hB5 : Below W.heap.size W W5 := by rw [← hW5]; exact hb5.alloc hb5.size _
  have hV : Blk W5 w5.heap.size 27 #[.slice B1 (fitU raw).arrays.length d4, .slice B2 3 d5] := by rw [← hW5]; exact Blk.new w5 _ _
  have HVK : Hid (∀ X, W5.heap.size ≤ X.heap.size → Keeps (fun b => b < W5.heap.size ∧ b ≠ gf) W5 X → UIn (deadE (fitU raw)) X B1 B2 d4 d5) := Lib.hid (fun X hs hk => hdo.keep (by omega) (by have := hb51.size; omega) (fun b hb => (hk b ⟨by have := hb51.size; omega, hb.2⟩).trans (hb51.block b hb.1)))
  have HB5 := Lib.hid hB5
  have HV := Lib.hid hV
  have hs5 := hB5.size
  have hvl5 := hV.lt
  have hwv : W.heap.size ≤ w5.heap.size := hb5.size
  have hU5 := HU.out.below hB5 hul
  have hO5 := HO.out.below mono_flow hB5
  have hul5 := hU5.lt
  have u2 : W5.cell? ⟨w3.heap.size, 1, none⟩ = some (.slice (some ⟨gf, 0, none⟩) 3 cf) := hU5.cell 1
  -- the function
  have hkc : k < css.length := by rw [hO5.len, hl3]; omega
  have hkl : k < (fitFlows raw 3).length := by rw [hl3]; omega
  have hfk : (fitFlows raw 3)[k] = fitFl raw k := by simp [fitFlows]
  have hel := hO5.elems k hkc hkl
  rw [hfk] at hel
  obtain ⟨vb, hcs, hbl⟩ := hel
  obtain ⟨Ab, cb, hvb, _, _⟩ := hbl.val
  subst hvb
  have hpos := fit_pos raw k
  have hle := fit_le raw k
  have hinl := fit_ins raw k
  have q0 : W5.cell? ⟨gf, k * 4, none⟩ = some (.string (fitFl raw k).name) := hO5.cell (i := 0) hkc (by rw [hcs]; rfl)
  have q1 : W5.cell? ⟨gf, k * 4 + 1, none⟩ = some (.int .i64 (fitFl raw k).params) := hO5.cell (i := 1) hkc (by rw [hcs]; rfl)
  have q2 : W5.cell? ⟨gf, k * 4 + 2, none⟩ = some (.int .i64 (fitFl raw k).values) := hO5.cell (i := 2) hkc (by rw [hcs]; rfl)
  have q3 : W5.cell? ⟨gf, k * 4 + 3, none⟩ = some (.slice Ab (fitFl raw k).blocks.length cb) := hO5.cell (i := 3) hkc (by rw [hcs]; rfl)
  obtain ⟨f, hf⟩ : ∃ f, f = fitFl raw k := ⟨_, rfl⟩
  rw [← hf] at hbl hpos hle hinl q0 q1 q2 q3
  have HF := Lib.hid hf
  have HINL := Lib.hid hinl
  obtain ⟨okf, hokf⟩ : ∃ p : Nat → Prop, p = okOwn (w2.heap.size + 4) W5 (.slice (some ⟨gf, 0, none⟩) 3 cf) := ⟨_, rfl⟩
  have hokb : ∀ b, okf b → w2.heap.size + 4 ≤ b ∧ b < W5.heap.size ∧ b ≠ gf := fun b hb => by
    rw [hokf] at hb
    exact ⟨hb.1, hb.2.1, fun e => hb.2.2 (by rw [e]; rfl)⟩
  have hsb : SlR W5 okf 5 (RBlock W5 okf) (.slice Ab f.blocks.length cb) f.blocks := by rw [hokf]; exact hbl
  obtain ⟨bb, ob, cb', hfb, _, _, _, _⟩ := hsb.form hpos
  obtain rfl : Ab = some ⟨bb, ob, none⟩ := by injection hfb
  obtain ⟨css0, hcl, hce, hcR, hcC, hbb⟩ := hsb.rows hpos
  have hones : ∀ u ∈ css0.flatten, u.oneCell' = true := flatten_ones fun cs hc => by
    obtain ⟨j, hj, rfl⟩ := List.getElem_of_mem hc
    exact block_ones (hcR j hj (by omega))
  have hfl : css0.flatten.length = f.blocks.length * 5 := by rw [flatten_len hce, hcl]
  have HO5 := Lib.hid hO5
  have HU5 := Lib.hid hU5
  have HOK := Lib.hid hokb
  have HCC := Lib.hid hcC
  have HBB := Lib.hid hbb
  have HCL := Lib.hid hcl
  have HCE := Lib.hid hce
  have HCR := Lib.hid hcR
  have HONES := Lib.hid hones
  have HFL := Lib.hid hfl
  clear hW5 hb51 hB5 hV hdo hb5 u0 u1 HDE hU5 hO5 hkc hkl hfk hcs hbl hf hinl hokf hokb hsb hfb hcl hce hcR hcC hbb hones hfl
  go_upto_region 6 with (go_at_call 14; refine (HP.out _).mono ?_; rintro e w' ⟨rfl, rfl⟩)
  refine wp_world ?_
  intro W6 hW6
  have hB6 : Below W5.heap.size W5 W6 := by rw [← hW6]; exact below1 _ _
  have hF6 : Blk W6 W5.heap.size 41 #[.string f.name, .int .i64 f.params, .int .i64 f.values, .slice (some ⟨bb, ob, none⟩) f.blocks.length cb] := by rw [← hW6]; exact Blk.new_at _ _ _ rfl
  have hl6 := hF6.lt
  have HB6 := Lib.hid hB6
  clear hW6 q0 q1 q2 q3 u2

  have d2 : W6.cell? ⟨W5.heap.size, 2, none⟩ = some (.int .i64 f.values) := hF6.cell 2
  have e2 := hF6.frozen 2
  have HF6 := Lib.hid hF6
  clear hF6
  go_upto_region 7 with fail
  refine wp_world ?_
  intro W7 hW7
  have hF7 : Blk W7 W5.heap.size 41 #[.string f.name, .int .i64 f.params, .int .i64 17, .slice (some ⟨bb, ob, none⟩) f.blocks.length cb] := by rw [← hW7]; exact HF6.out.set_ 2 _
  have hB7 : Below W5.heap.size W5 W7 := by rw [← hW7]; exact HB6.out.setCell (Nat.le_refl _) _
  have c3 : W7.cell? ⟨W5.heap.size, 3, none⟩ = some (.slice (some ⟨bb, ob, none⟩) f.blocks.length cb) := hF7.cell 3
  have hbb5 := (HOK.out bb HBB.out).2.1
  obtain ⟨z0, hi0, hz0, hz1, hz2⟩ := info_parts info_block
  have hnews7 := (HCC.out.keep (hB7.block bb hbb5)).news
  have HNEWS := Lib.hid hnews7
  have hne : (Value.slice none 0 0).ownBlock ≠ some W5.heap.size := by simp [Value.ownBlock]
  have HF7 := Lib.hid hF7
  have HB7 := Lib.hid hB7
  have hl7 := hF7.lt
  clear hF7 hnews7 hB7 hW7 d2 e2
  go_upto_region 8 with (at_builtin; refine wpList_append_lies _ rfl _ _ _ rfl (W5.heap.size + 1) 48 z0 _ 5 56 Tryz.underlying22 hi0 hz0 hz1 hz2 rfl (by decide) (.slice none 0 0) 0 [] rfl (World.ownsRow_nil _ _ _ _) ⟨bb, ob, none⟩ f.blocks.length cb css0.flatten rfl HFL.out HNEWS.out HONES.out hpos (by unfold maxLen; omega) (by omega) (by omega) W7.heap.size rfl ?_; intro g cap w7 hown7 hgrow hat hlt7; have hF8 := HF7.out.grown hgrow hne; have k7 : w7.cell? ⟨W5.heap.size, 3, none⟩ = some (.slice (some ⟨bb, ob, none⟩) f.blocks.length cb) := hF8.cell 3; have z7 := hF8.frozen 3)
  refine wp_world ?_
  intro W8 hW8
  simp only [Nat.zero_add, List.nil_append] at hown7 hW8
  have hg7 : g = W7.heap.size := by
    rcases hat with h | h
    · cases h
    · exact h
  have hB78 : Below W7.heap.size W7 w7 := (Below.refl _ _).grown hgrow (Nat.le_refl _) (fun k e => by cases e)
  have hst8 : IB (vals f 17) okf W5 (.slice (some ⟨g, 0, none⟩) f.blocks.length cap) css0 W8 := by
    rw [← hW8]
    have hbw := HB7.out.trans (hB78.mono HB7.out.size)
    have hbs := hbw.setCell (p := ⟨W5.heap.size, 3, none⟩) (Nat.le_refl _) (.slice (some ⟨g, 0, none⟩) f.blocks.length cap)
    have hgs := grown_set w7 ⟨W5.heap.size, 3, none⟩ (.slice (some ⟨g, 0, none⟩) f.blocks.length cap)
    refine ⟨hbs, hF8.set_ 3 _, ?_⟩
    have hr2 := hown7.kept hgs (.inr (fun e => by have e' : g = W5.heap.size := (by simpa [Value.ownBlock] using e); omega))
    exact OwnX.cloned (w0 := W5) (ok0 := okf) mono_block hr2 HCL.out HCE.out HCR.out (fun b hb => hbs.block b (HOK.out b hb).2.1) (fun b hb => hb) (fun b e e2 => by have e' : g = b := (by simpa [Value.ownBlock] using e); have := (HOK.out b e2).2.1; omega)
  have hg8 : g < W8.heap.size := (hst8.own.row.lt g rfl).2
  have hs8 := hst8.below.size
  have hs78 : W5.heap.size + 1 ≤ W8.heap.size := by omega
  have HST8 := Lib.hid hst8
  have hmx := hil1
  clear hW8 hst8 hown7 hgrow hat hlt7 hF8 k7 z7 hg7 hB78 c3 HNEWS HF7 HONES HFL hi0 hz0 hz1 hz2 hbb5
  obtain ⟨zi, hj0, hj1', hj2, hj3'⟩ := info_parts info_ins
  go_wp2_with fail
  go_loopw [13, 14] (fun s13 s wr => ∃ (i : Nat) (Av : Option Addr) (cv : Nat), i ≤ more.length ∧ i ≤ 6 ∧ s = .int .i64 i ∧ s13 = .slice Av i cv ∧ IL (aheadN more) W8 i (.slice Av i cv) wr) (fun _ s _ => 6 - (intOf s).toNat)
  case atStart => exact ⟨0, none, 0, by omega, by omega, rfl, rfl, Below.refl _ _, World.ownsRow_nil _ _ _ _⟩
  case round =>
    obtain ⟨wb, hwb⟩ : ∃ wb, wb = wr := ⟨_, rfl⟩
    subst hwb
    obtain ⟨i, Av, cv, him, hi6, rfl, rfl, hil⟩ := hrel
    have hw8b := hil.below.size
    by_cases hgo : i < more.length ∧ i < 6
    · obtain ⟨hg1, hg2⟩ := hgo
      have d0 : decide ((i : Int) < (more.length : Int)) = true := decide_eq_true (by omega)
      have d1 : decide ((i : Int) < 6) = true := decide_eq_true (by omega)
      have hi4 : (i : Int) < (more.length : Int) := by omega
      obtain ⟨gi, oi, ci', hform, _, _, hgi, hqi⟩ := HIN.out.form (by omega)
      obtain ⟨rfl, rfl⟩ : Ai = some ⟨gi, oi, none⟩ ∧ ci = ci' := by injection hform with h1 _ h2; exact ⟨h1, h2⟩
      obtain ⟨cs, _, hcs, hcell⟩ := hqi i hg1
      have hcs' : cs = [.int .i64 more[i]] := hcs
      subst hcs'
      obtain ⟨x, hxe⟩ : ∃ x, x = more[i] := ⟨_, rfl⟩
      have hxI : I64 x := HJ.out x (by rw [hxe]; exact List.getElem_mem _)
      rw [← hxe] at hcell
      have hbwb : Below w.heap.size w wb := HB.out.trans ((HB5.out.trans ((HST8.out.below.trans (hil.below.mono (by omega))).mono (by omega))).mono HB.out.size)
      have hcw := hcell.keep (hbwb.block gi hgi)
      have j0 : wb.cell? ⟨gi, oi + i, none⟩ = some (.int .i64 x) := by have h := hcw.at_ (j := 0) rfl; simpa using h
      obtain ⟨bn, hbn, hbp, hpk⟩ := pick15_n x hxI 10 (by decide) (by decide)
      have HPK := Lib.hid hpk
      have hid : aheadN more i = if i = 0 then x else (bn : Int) := by
        have e0 : more.getD i 0 = x := by rw [hxe]; simp [List.getD, hg1]
        unfold aheadN
        by_cases e : i = 0
        · rw [if_pos e, if_pos e, ← e0, e]
        · rw [if_neg e, if_neg e, e0]; exact hbp.symm
      have HID := Lib.hid hid
      have HIL := Lib.hid hil
      obtain ⟨y, hy⟩ : ∃ y, y = aheadI (aheadN more) i := ⟨_, rfl⟩
      have HY := Lib.hid hy
      have hgib : gi < wb.heap.size := by have := hbwb.size; omega
      clear hcw hcell hcs hqi hform hbwb hpk hxe hxI hil hid hbp hy
      go_upto_region 13 with fail
      refine wp_world ?_
      intro W12 hW12
      have hB12 : Below wb.heap.size wb W12 := by rw [← hW12]; exact below1 _ _
      have hX12 : Blk W12 wb.heap.size 44 #[.int .i64 1, .int .i64 (10 + (i : Int)), .int .i64 0, .int .i64 0, .int .i64 0, .int .i64 x, .string ⟨#[]⟩, .slice none 0 0] := by rw [← hW12]; exact Blk.new wb _ _
      have j1 : W12.cell? ⟨gi, oi + i, none⟩ = some (.int .i64 x) := by rw [← j0]; exact World.cell?_of_block (hB12.block gi hgib)
      have HB12 := Lib.hid hB12
      have HX12 := Lib.hid hX12
      clear hW12 hB12 hX12 j0
      have HGO : Hid (∀ (W15 : World), Below wb.heap.size wb W15 → ∀ (c0 c1 c2 c3 c4 c5 : Int), (⟨c0, c1, c2, c3, c4, c5, ⟨#[]⟩, []⟩ : LIns) = y → Blk W15 wb.heap.size 44 #[.int .i64 c0, .int .i64 c1, .int .i64 c2, .int .i64 c3, .int .i64 c4, .int .i64 c5, .string ⟨#[]⟩, .slice none 0 0] → Blk W15 wb.heap.size 44 #[.int .i64 y.kind, .int .i64 y.d, .int .i64 y.a, .int .i64 y.b, .int .i64 y.op, .int .i64 y.n, .string y.name, .slice none 0 0] ∧ y.args = []) := Lib.hid (fun W15 _ c0 c1 c2 c3 c4 c5 e h => by subst e; exact ⟨h, rfl⟩)
      rcases Nat.eq_zero_or_pos i with hz | hz
      have hzz : ¬ 0 < i := by omega
      have dz : decide ((i : Int) > 0) = false := decide_eq_false (by omega)
      have hyy : (⟨1, 10 + (i : Int), 0, 0, 0, x, ⟨#[]⟩, []⟩ : LIns) = y := by rw [HY.out]; unfold aheadI; rw [if_pos hz, hz]; have h := HID.out; rw [if_pos hz, hz] at h; rw [h]; rfl
      have HZI := Lib.hid hz
      have HYY := Lib.hid hyy
      clear hz hyy
      go_upto_region 15 with fail
      refine wp_world ?_
      intro W15 hW15
      have hB15 : Below wb.heap.size wb W15 := by rw [← hW15]; exact HB12.out
      obtain ⟨hX, hya⟩ := HGO.out W15 hB15 _ _ _ _ _ _ HYY.out (by rw [← hW15]; exact HX12.out)
      rotate_left
      have dz : decide ((i : Int) > 0) = true := decide_eq_true (by omega)
      have hyy : (⟨4, 10 + (i : Int), 9 + (i : Int), (bn : Int), 1, 0, ⟨#[]⟩, []⟩ : LIns) = y := by rw [HY.out]; unfold aheadI; rw [if_neg (by omega)]; have h := HID.out; rw [if_neg (by omega)] at h; rw [h]
      have HYY := Lib.hid hyy
      have b0 : W12.cell? ⟨wb.heap.size, 0, none⟩ = some (.int .i64 1) := HX12.out.cell 0
      have b1 : W12.cell? ⟨wb.heap.size, 1, none⟩ = some (.int .i64 (10 + (i : Int))) := HX12.out.cell 1
      have b2 : W12.cell? ⟨wb.heap.size, 2, none⟩ = some (.int .i64 0) := HX12.out.cell 2
      have b3 : W12.cell? ⟨wb.heap.size, 3, none⟩ = some (.int .i64 0) := HX12.out.cell 3
      have b4 : W12.cell? ⟨wb.heap.size, 4, none⟩ = some (.int .i64 0) := HX12.out.cell 4
      have b5 : W12.cell? ⟨wb.heap.size, 5, none⟩ = some (.int .i64 x) := HX12.out.cell 5
      have b6 : W12.cell? ⟨wb.heap.size, 6, none⟩ = some (.string ⟨#[]⟩) := HX12.out.cell 6
      have b7 : W12.cell? ⟨wb.heap.size, 7, none⟩ = some (.slice none 0 0) := HX12.out.cell 7
      have f0 := HX12.out.frozen 0
      have f1 := HX12.out.frozen 1
      have f2 := HX12.out.frozen 2
      have f3 := HX12.out.frozen 3
      have f4 := HX12.out.frozen 4
      have f5 := HX12.out.frozen 5
      have f6 := HX12.out.frozen 6
      have f7 := HX12.out.frozen 7
      clear hyy
      go_upto_region 15 with (go_at_call 14; refine (HPK.out _).mono ?_; rintro e w' ⟨rfl, rfl⟩)
      refine wp_world ?_
      intro W15 hW15
      have hB15 : Below wb.heap.size wb W15 := by
        have hq : ∀ (j : Nat), wb.heap.size ≤ (⟨wb.heap.size, j, none⟩ : Addr).block := fun _ => Nat.le_refl _
        rw [← hW15]; exact ((((((((HB12.out.setCell (hq _) _).setCell (hq _) _).setCell (hq _) _).setCell (hq _) _).setCell (hq _) _).setCell (hq _) _).setCell (hq _) _).setCell (hq _) _)
      obtain ⟨hX, hya⟩ := HGO.out W15 hB15 _ _ _ _ _ _ HYY.out (by rw [← hW15]; exact ((((((((HX12.out.set_ 0 _).set_ 1 _).set_ 2 _).set_ 3 _).set_ 4 _).set_ 5 _).set_ 6 _).set_ 7 _))
      clear hz b0 b1 b2 b3 b4 b5 b6 b7 f0 f1 f2 f3 f4 f5 f6 f7
      all_goals
        have HX := Lib.hid hX
        have HB15 := Lib.hid hB15
        have HR15 := Lib.hid (HIL.out.own.kept (row := none) ⟨hB15.os, hB15.tape, hB15.output, hB15.size, fun k hk _ => hB15.block k hk⟩ (Classical.em _))
        have p0 : W15.cell? ⟨wb.heap.size, 0, none⟩ = some (.int .i64 y.kind) := hX.cell 0
        have p1 : W15.cell? ⟨wb.heap.size, 1, none⟩ = some (.int .i64 y.d) := hX.cell 1
        have p2 : W15.cell? ⟨wb.heap.size, 2, none⟩ = some (.int .i64 y.a) := hX.cell 2
        have p3 : W15.cell? ⟨wb.heap.size, 3, none⟩ = some (.int .i64 y.b) := hX.cell 3
        have p4 : W15.cell? ⟨wb.heap.size, 4, none⟩ = some (.int .i64 y.op) := hX.cell 4
        have p5 : W15.cell? ⟨wb.heap.size, 5, none⟩ = some (.int .i64 y.n) := hX.cell 5
        have p6 : W15.cell? ⟨wb.heap.size, 6, none⟩ = some (.string y.name) := hX.cell 6
        have p7 : W15.cell? ⟨wb.heap.size, 7, none⟩ = some (.slice none 0 0) := hX.cell 7
        have hs15 := hB15.size
        have hs815 : W8.heap.size ≤ W15.heap.size := by omega
        clear hX hB15 hW15 hya j1
        go_wp2_with (at_builtin; refine wpList_append_lies _ rfl _ _ _ rfl W8.heap.size 44 zi _ 8 88 Tryz.underlying42 hj0 hj1' hj2 hj3' rfl (by decide) (.slice Av i cv) i (aheadC (aheadN more) i).flatten rfl (HR15.out.alloc _) ⟨W15.heap.size, 0, none⟩ 1 1 (insCells y (.slice none 0 0)) rfl rfl (World.news_of_block (Blk.new W15 _ _)) (by simp [insCells, Value.oneCell']) (by omega) (by unfold maxLen; omega) (by omega) (by simp; omega) (W15.heap.size + 1) (by simp) ?_; intro g2 cap2 X4 hown hgrow hat hlt)
        go_roundw
        case rel =>
          rw [HY.out, ← aheadC_succ] at hown
          exact ⟨i + 1, some ⟨g2, 0, none⟩, cap2, by omega, by omega, by go_num, rfl, (((HIL.out.below.trans (HB15.out.mono HIL.out.below.size)).alloc hs815 _).grown hgrow (by simp; omega) (fun k e => (HIL.out.own.lt k e).1)), hown⟩
        case measure => simp [intOf]; omega
    · obtain ⟨m, hmi⟩ : ∃ m, m = i := ⟨_, rfl⟩
      subst hmi
      obtain ⟨x0, hx0⟩ : ∃ x0, x0 = f.blocks[0] := ⟨_, rfl⟩
      have hib8 := HST8.out
      have hcl0 : 0 < css0.length := by rw [HCL.out]; exact hpos
      obtain ⟨v0, hv0, hs0⟩ := hib8.own.elems 0 hcl0 hpos
      have hs0' : SlR W8 okf 8 (RIns W8 okf) v0 x0.ins := by rw [hx0]; exact hs0
      obtain ⟨A0, cc0, hv0', _, _⟩ := hs0'.val
      subst hv0'
      have hokw : ∀ b, okf b → b < W5.heap.size := fun b hb => (HOK.out b hb).2.1
      have hib := hib8.later hil.below (fun b hb => by have := hokw b hb; omega)
      have hgn : okf g → False := fun h => hib8.own.free g rfl h
      have hrlt := hil.own.lt
      have hg5 := (hib8.own.row.lt g rfl).1
      have hx6 : x0.ins.length ≤ 6 := by rw [hx0]; exact HINL.out _ (List.getElem_mem _)
      obtain ⟨cssI, hil1', hil2', hil3', hil4'⟩ := hs0'.rows_any
      have HLEN : Hid (cssI.flatten.length = x0.ins.length * 8) := Lib.hid (by rw [flatten_len hil2', hil1'])
      have HI1 : Hid (∀ u ∈ cssI.flatten, u.oneCell' = true) := Lib.hid (flatten_ones fun cs hc => by
        obtain ⟨j, hj, rfl⟩ := List.getElem_of_mem hc
        exact ins_ones (hil3' j hj (by omega)))
      have HIN0 : Hid (∀ X : World, Below wb.heap.size wb X → (x0.ins.length = 0 ∨ ∃ ad, A0 = some ad ∧ ∀ j u, cssI.flatten[j]? = some u → X.cell? (ad.add j) = some u)) := Lib.hid (fun X hb => hil4'.imp id fun ⟨bi, oi, e, hok, hc⟩ => ⟨_, e, (hc.keep ((hb.block bi (by have := hokw bi hok; omega)).trans (hil.below.block bi (by have := hokw bi hok; omega)))).news⟩)
      have hfb := hib.fl
      have g0c : ∀ X : World, X.heap[g]? = wb.heap[g]? → X.cell? ⟨g, 0, none⟩ = some (.slice A0 x0.ins.length cc0) ∧ X.frozen? ⟨g, 0, none⟩ = false := fun X hX => by
        have h := hib.own.cell (j := 0) (i := 0) rfl hcl0 (by rw [hv0]; exact Nat.succ_pos _)
        have hff := hib.own.frozen rfl 0
        have e1 : X.cell? ⟨g, 0, none⟩ = wb.cell? ⟨g, 0, none⟩ := World.cell?_of_block hX
        have e2 : X.frozen? ⟨g, 0, none⟩ = wb.frozen? ⟨g, 0, none⟩ := World.frozen?_of_block hX
        rw [e1, e2]
        refine ⟨?_, hff⟩
        have h2 : wb.cell? ⟨g, 0, none⟩ = some (css0[0][0]'(by rw [hv0]; exact Nat.succ_pos _)) := by simpa using h
        rw [h2]
        simp only [hv0]
        rfl
      have SK : ∀ X : World, (∀ b, b < W8.heap.size → X.heap[b]? = wb.heap[b]?) → (fun (w2 : World) => w2.cell? ⟨W5.heap.size, 3, none⟩ = some (.slice (some ⟨g, 0, none⟩) f.blocks.length cap) ∧ w2.cell? ⟨g, 0, none⟩ = some (.slice A0 x0.ins.length cc0)) X := fun X hk => ⟨(hfb.keep (hk W5.heap.size (by omega))).cell 3, (g0c X (hk g hg8)).1⟩
      have SO : Hid (∀ X : World, Below wb.heap.size wb X → (fun (w2 : World) => w2.cell? ⟨W5.heap.size, 3, none⟩ = some (.slice (some ⟨g, 0, none⟩) f.blocks.length cap) ∧ w2.cell? ⟨g, 0, none⟩ = some (.slice A0 x0.ins.length cc0)) X) := Lib.hid (fun X hb => SK X (fun b h => hb.block b (by omega)))
      have hkp : ∀ X2 X3 : World, Below wb.heap.size wb X2 → X2.grownBy X3 (Value.slice Av m cv).ownBlock → ∀ b, b < W8.heap.size → X3.heap[b]? = wb.heap[b]? := fun X2 X3 hb hg b h => (hg.block b (by have := hb.size; omega) (fun e => by have := (hrlt b e.symm).1; omega)).trans (hb.block b (by omega))
      have SOG : Hid (∀ X2 X3 : World, Below wb.heap.size wb X2 → X2.grownBy X3 (Value.slice Av m cv).ownBlock → (fun (w2 : World) => w2.cell? ⟨W5.heap.size, 3, none⟩ = some (.slice (some ⟨g, 0, none⟩) f.blocks.length cap) ∧ w2.cell? ⟨g, 0, none⟩ = some (.slice A0 x0.ins.length cc0)) X3) := Lib.hid (fun X2 X3 hb hg => SK X3 (hkp X2 X3 hb hg))
      have HVZ : Hid (∀ X2 X3 : World, Below wb.heap.size wb X2 → X2.grownBy X3 (Value.slice Av m cv).ownBlock → X3.frozen? ⟨g, 0, none⟩ = false ∧ X3.cell? ⟨g, 0, none⟩ = some (.slice A0 x0.ins.length cc0)) := Lib.hid (fun X2 X3 hb hg => ⟨(g0c X3 (hkp X2 X3 hb hg g hg8)).2, (g0c X3 (hkp X2 X3 hb hg g hg8)).1⟩)
      have HOV : Hid (∀ X : World, Below wb.heap.size wb X → X.ownsRow W8.heap.size 44 8 (.slice Av m cv) m (aheadC (aheadN more) m).flatten) := Lib.hid (fun X hb => hil.own.kept (row := none) ⟨hb.os, hb.tape, hb.output, hb.size, fun k hk _ => hb.block k hk⟩ (Classical.em _))
      have hbw5 := hib.below
      have HEND : Hid (∀ (X2 X3 : World) (v2 : Value), Below wb.heap.size wb X2 → X2.grownBy X3 (Value.slice Av m cv).ownBlock → X3.ownsRow W8.heap.size 44 8 v2 (m + x0.ins.length) ((aheadC (aheadN more) m).flatten ++ cssI.flatten) → ∃ (ok : Nat → Prop) (css : List (List Value)), (∀ k, ok k → (okf k ∨ W8.heap.size ≤ k) ∧ k < X3.heap.size) ∧ IB (vals (aheadF (aheadN more) m f) 17) ok W5 (.slice (some ⟨g, 0, none⟩) f.blocks.length cap) css (X3.setCell ⟨g, 0, none⟩ v2)) := Lib.hid (fun X2 X3 v2 hb hg hown => by
        have hI := hib.later hb (fun b hb => by have := hokw b hb; omega)
        have h := IB.ahead (W8 := W8) (x0 := x0) (cssI := cssI) hI rfl hpos hs78 (fun b hb => by have := hokw b hb; omega) (hil.own.kept (row := none) ⟨hb.os, hb.tape, hb.output, hb.size, fun k hk _ => hb.block k hk⟩ (Classical.em _)) hx0.symm hil1' hil2' (fun i h1 h2 => (hil3' i h1 h2).imp (fun _ h => h) (fun b hk => (hb.block b (by have := hokw b hk; omega)).trans (hil.below.block b (by have := hokw b hk; omega)))) hg hown hg8 (by have := hb.size; omega)
        exact ⟨_, _, fun k hk => by
          rcases hk with hk | hk
          · exact ⟨.inl hk, by have := hokw k hk; have := hb.size; have := hg.size; omega⟩
          · exact ⟨.inr hk.1, hk.2⟩, h⟩)
      have hz0 : Below wb.heap.size wb wb.drew := (Below.refl _ _).drew
      clear hx0 SK hkp g0c hfb hil4' hil3' hil2' hil1' hib hib8 hs0 hs0' hv0 hil hrlt hbw5
      have hcond : (¬ (m < more.length)) ∨ (m < more.length ∧ ¬ (m < 6)) := by omega
      rcases hcond with hq1 | ⟨hq1, hq2⟩
      have d0 : decide ((m : Int) < (more.length : Int)) = false := decide_eq_false (by omega)
      rotate_left
      have d0 : decide ((m : Int) < (more.length : Int)) = true := decide_eq_true (by omega)
      have d1 : decide ((m : Int) < 6) = false := decide_eq_false (by omega)
      all_goals
        go_upto_region 16 with fail
        refine wp_region_L (by kernel_rfl) 11 (fun (w2 : World) => w2.cell? ⟨W5.heap.size, 3, none⟩ = some (.slice (some ⟨g, 0, none⟩) f.blocks.length cap) ∧ w2.cell? ⟨g, 0, none⟩ = some (.slice A0 x0.ins.length cc0)) (SO.out _ hz0) (fun hHeld => ?_)
        have HS0 := Lib.hid hHeld
        clear hHeld
        change wpAnyL _ _ _ _ _ 11 12 (Array.replicate 12 false) _ _
        generalize wb.drew = X0 at *
        have HZ0 := Lib.hid hz0
        clear hz0
        refine takeL 0 71 (.pointer (some ⟨W5.heap.size, 3, none⟩)) HS0.out rfl rfl (by kernel_rfl) (by kernel_rfl) (by kernel_rfl) (by decide) (fun _ _ _ h => h) (by kernel_rfl) ?_ ?_
        · intro w2; go_simp
        try simp only [List.setIfInBounds_toArray, List.set_cons_zero, List.set_cons_succ]
        refine takeL_S 1 72 (.slice (some ⟨g, 0, none⟩) f.blocks.length cap) [11] HS0.out rfl rfl (by kernel_rfl) (by kernel_rfl) (by kernel_rfl) (by decide) (by kernel_rfl) (fun _ _ _ h => h) (by kernel_rfl) ?_ ?_
        · intro w2 hSw; obtain ⟨g0, g1⟩ := hSw; go_simp
        try simp only [List.setIfInBounds_toArray, List.set_cons_zero, List.set_cons_succ]
        refine takeL 2 73 (.slice Av m cv) HS0.out rfl rfl (by kernel_rfl) (by kernel_rfl) (by kernel_rfl) (by decide) (fun _ _ _ h => h) (by kernel_rfl) ?_ ?_
        · intro w2; go_simp
        try simp only [List.setIfInBounds_toArray, List.set_cons_zero, List.set_cons_succ]
        refine takeL 3 74 (.pointer (some ⟨W5.heap.size, 3, none⟩)) HS0.out rfl rfl (by kernel_rfl) (by kernel_rfl) (by kernel_rfl) (by decide) (fun _ _ _ h => h) (by kernel_rfl) ?_ ?_
        · intro w2; go_simp
        try simp only [List.setIfInBounds_toArray, List.set_cons_zero, List.set_cons_succ]
        refine takeL_S 4 75 (.slice (some ⟨g, 0, none⟩) f.blocks.length cap) [11] HS0.out rfl rfl (by kernel_rfl) (by kernel_rfl) (by kernel_rfl) (by decide) (by kernel_rfl) (fun _ _ _ h => h) (by kernel_rfl) ?_ ?_
        · intro w2 hSw; obtain ⟨g0, g1⟩ := hSw; go_simp
        try simp only [List.setIfInBounds_toArray, List.set_cons_zero, List.set_cons_succ]
        refine takeL 5 76 (.pointer (some ⟨g, 0, none⟩)) HS0.out rfl rfl (by kernel_rfl) (by kernel_rfl) (by kernel_rfl) (by decide) (fun _ _ _ h => h) (by kernel_rfl) ?_ ?_
        · intro w2; go_simp
        try simp only [List.setIfInBounds_toArray, List.set_cons_zero, List.set_cons_succ]
        refine takeL 6 77 (.pointer (some ⟨g, 0, none⟩)) HS0.out rfl rfl (by kernel_rfl) (by kernel_rfl) (by kernel_rfl) (by decide) (fun _ _ _ h => h) (by kernel_rfl) ?_ ?_
        · intro w2; go_simp
        try simp only [List.setIfInBounds_toArray, List.set_cons_zero, List.set_cons_succ]
        refine takeL_S 7 78 (.slice A0 x0.ins.length cc0) [11] HS0.out rfl rfl (by kernel_rfl) (by kernel_rfl) (by kernel_rfl) (by decide) (by kernel_rfl) (fun _ _ _ h => h) (by kernel_rfl) ?_ ?_
        · intro w2 hSw; obtain ⟨g0, g1⟩ := hSw; go_simp
        try simp only [List.setIfInBounds_toArray, List.set_cons_zero, List.set_cons_succ]
        refine wpAnyL_ready (rs := [8]) (by kernel_rfl) (by simp) ?_
        refine AllReadyL.cons rfl (fun K hK => ?_) AllReadyL.nil
        have hsx : W8.heap.size ≤ X0.heap.size := by have := HZ0.out.size; omega
        refine step_append_any _ (by rfl) _ _ _ (by rfl) W8.heap.size 44 zi _ 8 88 Tryz.underlying42 hj0 hj1' hj2 hj3' rfl (by omega) (.slice Av m cv) m (aheadC (aheadN more) m).flatten (by rfl) (HOV.out X0 HZ0.out) A0 x0.ins.length cc0 cssI.flatten (by rfl) HLEN.out (HIN0.out X0 HZ0.out) HI1.out (by unfold maxLen; omega) (by omega) hsx X0.heap.size rfl ?_
        intro v2 X3 hown2 hgrow2 hat2
        obtain ⟨Aw, cw, hv2⟩ := own_form hown2
        subst hv2
        have HOW2 := Lib.hid hown2
        have HG2 := Lib.hid hgrow2
        have hS4 := SOG.out X0 X3 HZ0.out hgrow2
        clear hsx hown2 hgrow2 hat2
        refine hK.out _ _ (hS4) (fun hHeld => ?_)
        have HS1 := Lib.hid hHeld
        clear hK K hHeld
        try simp only [List.setIfInBounds_toArray, List.set_cons_zero, List.set_cons_succ]
        refine takeL 9 80 (.pointer (some ⟨g, 0, none⟩)) HS1.out rfl rfl (by kernel_rfl) (by kernel_rfl) (by kernel_rfl) (by decide) (fun _ _ _ h => h) (by kernel_rfl) ?_ ?_
        · intro w2; go_simp
        try simp only [List.setIfInBounds_toArray, List.set_cons_zero, List.set_cons_succ]
        refine takeL 10 81 (.pointer (some ⟨g, 0, none⟩)) HS1.out rfl rfl (by kernel_rfl) (by kernel_rfl) (by kernel_rfl) (by decide) (fun _ _ _ h => h) (by kernel_rfl) ?_ ?_
        · intro w2; go_simp
        try simp only [List.setIfInBounds_toArray, List.set_cons_zero, List.set_cons_succ]
        obtain ⟨vz0, vz1⟩ := HVZ.out X0 X3 HZ0.out HG2.out
        refine wpAnyL_ready (rs := [11]) (by kernel_rfl) (by simp) ?_
        refine AllReadyL.last rfl (by kernel_rfl) (fun K hK => ?_)
        go_simp
        refine hK.out _ _ ?_
        clear hK K
        try simp only [List.setIfInBounds_toArray, List.set_cons_zero, List.set_cons_succ]
        refine wpAnyL_done (by kernel_rfl) ?_ _
        go_upto_region 17 with fail
        refine wp_world ?_
        intro wt hwt
        obtain ⟨ok16, css16, hok16, hib⟩ := HEND.out X0 X3 _ HZ0.out HG2.out HOW2.out
        rw [hwt] at hib
        have hwts : wt.heap.size = X3.heap.size := by rw [← hwt]; simp [World.setCell]
        have hs5t := hib.below.size
        have hO6 := HO5.out.below mono_flow hib.below
        have hU6 := HU5.out.below hib.below hul5
        have hl3' : (fitFlows raw 3).length = 3 := by simp [fitFlows]
        have hkc : k < css.length := by rw [hO6.len, hl3']; exact hk3
        have hel6 := hO6.elems k hkc (by rw [hl3']; exact hk3)
        generalize (fitFlows raw 3)[k]'(by rw [hl3']; exact hk3) = fk at hel6
        obtain ⟨vb6, hcs6, hbl6⟩ := hel6
        have q0 : wt.cell? ⟨gf, k * 4, none⟩ = some _ := hO6.cell (i := 0) hkc (by rw [hcs6]; rfl)
        have q1 : wt.cell? ⟨gf, k * 4 + 1, none⟩ = some _ := hO6.cell (i := 1) hkc (by rw [hcs6]; rfl)
        have q2 : wt.cell? ⟨gf, k * 4 + 2, none⟩ = some _ := hO6.cell (i := 2) hkc (by rw [hcs6]; rfl)
        have q3 : wt.cell? ⟨gf, k * 4 + 3, none⟩ = some vb6 := hO6.cell (i := 3) hkc (by rw [hcs6]; rfl)
        have y0 := hO6.frozen (k * 4)
        have y1 := hO6.frozen (k * 4 + 1)
        have y2 := hO6.frozen (k * 4 + 2)
        have y3 := hO6.frozen (k * 4 + 3)
        have u1 : wt.cell? ⟨w3.heap.size, 1, none⟩ = some (.slice (some ⟨gf, 0, none⟩) 3 cf) := hU6.cell 1
        have c0 : wt.cell? ⟨W5.heap.size, 0, none⟩ = some (.string f.name) := hib.fl.cell 0
        have c1' : wt.cell? ⟨W5.heap.size, 1, none⟩ = some (.int .i64 f.params) := hib.fl.cell 1
        have c2 : wt.cell? ⟨W5.heap.size, 2, none⟩ = some (.int .i64 17) := hib.fl.cell 2
        have c3 : wt.cell? ⟨W5.heap.size, 3, none⟩ = some (.slice (some ⟨g, 0, none⟩) f.blocks.length cap) := hib.fl.cell 3
        have HIB := Lib.hid hib
        have HOK16 := Lib.hid hok16
        have HO6 := Lib.hid hO6
        have HU6 := Lib.hid hU6
        clear hib hok16 hO6 hU6 hkc hbl6 hcs6 hl3' hwt
        go_upto_region 18 with fail
        refine wp_world ?_
        intro W9 hW9
        have hib := HIB.out
        have hneg : ∀ (j b : Nat), b ≠ gf → b ≠ (⟨gf, j, none⟩ : Addr).block := fun _ _ h => h
        have hsz9 : W9.heap.size = wt.heap.size := by rw [← hW9]; simp [World.setCell]
        have hK69 : Keeps (fun b => b ≠ gf) wt W9 := by
          rw [← hW9]; exact ((((Keeps.refl _ _).set (hneg _) _).set (hneg _) _).set (hneg _) _).set (hneg _) _
        have hKW : Keeps (fun b => b < W5.heap.size ∧ b ≠ gf) W5 W9 := (Keeps.mono (Keeps.of_below hib.below) fun b hb => hb.1).trans (hK69.mono fun b hb => hb.2)
        have hflx : RFlow wt (okOwn (w2.heap.size + 4) wt (.slice (some ⟨gf, 0, none⟩) 3 cf)) [.string f.name, .int .i64 f.params, .int .i64 17, .slice (some ⟨g, 0, none⟩) f.blocks.length cap] (vals (aheadF (aheadN more) m f) 17) := by
          refine ⟨_, rfl, ?_⟩
          have hal : (aheadF (aheadN more) m f).blocks.length = f.blocks.length := ahead_len m
          have hs := hib.own.slr (ok' := okOwn (w2.heap.size + 4) wt (.slice (some ⟨gf, 0, none⟩) 3 cf)) mono_block (fun b hb => by
            obtain ⟨hb1, hb2⟩ := HOK16.out b hb
            have hgb : b ≠ gf := by
              rcases hb1 with h | h
              · exact (HOK.out b h).2.2
              · omega
            refine ⟨?_, by omega, fun e => hgb (by have e' : gf = b := (by simpa [Value.ownBlock] using e); exact e'.symm)⟩
            rcases hb1 with h | h
            · exact (HOK.out b h).1
            · omega) (fun b e => by
            have h := hib.own.row.lt b e
            exact ⟨by omega, h.2, fun e2 => by have e' : gf = b := (by simpa [Value.ownBlock] using e2); omega⟩)
          exact hs
        have hO9 : OwnL W9 (w2.heap.size + 4) 41 4 RFlow (.slice (some ⟨gf, 0, none⟩) 3 cf) ((fitFlows raw 3).set k (vals (aheadF (aheadN more) m f) 17)) (css.set k [.string f.name, .int .i64 f.params, .int .i64 17, .slice (some ⟨g, 0, none⟩) f.blocks.length cap]) := by
          rw [← hW9]
          have hO6 : OwnL wt (w2.heap.size + 4) 41 4 RFlow (.slice (some ⟨gf, 0, none⟩) (fitFlows raw 3).length cf) (fitFlows raw 3) css := by
            rw [hl3]; exact HO6.out
          have h := hO6.put4 mono_flow (j := k) (x := vals (aheadF (aheadN more) m f) 17) (by rw [hl3]; exact hk3) (c0 := .string f.name) (c1 := .int .i64 f.params) (c2 := .int .i64 17) (c3 := .slice (some ⟨g, 0, none⟩) f.blocks.length cap) (by rw [hl3]; exact hflx)
          rw [hl3] at h
          exact h
        have hA9 : SlR W9 (· < W9.heap.size) 2 RArr (.slice A1 (fitU raw).arrays.length c1) (fitU raw).arrays := HA4.out.imp (fun b hb => by have := hib.below.size; omega) ((Keeps.mono (Keeps.of_below HB5.out) fun b hb => by omega).trans (hKW.mono fun b hb => ⟨by have := HB5.out.size; omega, by omega⟩)) (fun _ _ _ r => r)
        have hU9 := HU6.out.keep (hK69 w3.heap.size (by omega))
        have hB9 : Below w.heap.size w W9 := by
          have hb6 := HB.out.trans ((HB5.out.trans (hib.below.mono HB5.out.size)).mono HB.out.size)
          have hgw : w.heap.size ≤ gf := by omega
          rw [← hW9]; exact (((hb6.setCell hgw _).setCell hgw _).setCell hgw _).setCell hgw _
        obtain ⟨un, hua, huf, huo, hus, hude, hudk⟩ := idle_unit raw hk3 (aheadN_lo more) hi6
        rw [← HF.out] at huf
        have hunl : un.flows.length = 3 := by rw [huf, List.length_set]; exact hl3
        have HUNL := Lib.hid hunl
        have HUA := Lib.hid hua
        have HUDE := Lib.hid hude
        have HUDK := Lib.hid hudk
        have hdx := dead_x (X := W9) (u := un) (c1 := c1) (A1 := A1) huo hus (by rw [hua]; exact hA9) huf (by rw [List.length_set]; exact hl3) hO9
        have HDX : Hid (Calls Tryz.prog 10 #[.agg #[.slice A1 (fitU raw).arrays.length c1, .slice (some ⟨gf, 0, none⟩) 3 cf]] W9 fun e w' => ∃ gB B1 d1 d2, e = .returned (.tuple #[.agg #[.slice B1 (fitU raw).arrays.length d1, .slice (some ⟨gB, 0, none⟩) 3 d2], .int .i64 0]) ∧ Below W9.heap.size W9 w' ∧ DeadOut un W9 gf w' B1 (some ⟨gB, 0, none⟩) d1 d2 ∧ W9.heap.size ≤ gB ∧ gB < w'.heap.size ∧ ∀ X, Below w'.heap.size w' X → (∃ z, X.cell? ⟨gB, k * 4 + 2, none⟩ = some z) ∧ X.frozen? ⟨gB, k * 4 + 2, none⟩ = false) := Lib.hid (by
          rw [hua] at hdx
          refine hdx.mono ?_
          rintro e w' ⟨B1, B2, d1, d2, he, hb, hd⟩
          obtain ⟨gB, rfl, h1, h2, h3⟩ := hd.form (by omega)
          exact ⟨gB, B1, d1, d2, he, hb, hd, h1, h2, fun X hX => h3 X hX k (by omega)⟩)
        have z0 : W9.cell? ⟨w3.heap.size, 0, none⟩ = some (.slice A1 (fitU raw).arrays.length c1) := hU9.cell 0
        have z1 : W9.cell? ⟨w3.heap.size, 1, none⟩ = some (.slice (some ⟨gf, 0, none⟩) 3 cf) := hU9.cell 1
        have hV9 := HV.out.keep (hKW w5.heap.size ⟨by omega, by omega⟩)
        have HV9 := Lib.hid hV9
        have HKW := Lib.hid hKW
        have HB9 := Lib.hid hB9
        have hgf9 : gf < W9.heap.size := by omega
        have hw59 : w5.heap.size < W9.heap.size := by omega
        clear hneg hK69 hKW hflx hO9 hA9 hU9 hB9 hua huf huo hus hude hudk hunl hdx hV9 hW9 hib q0 q1 q2 q3 y0 y1 y2 y3 u1 c0 c1' c2 c3
        go_upto_region 19 with (go_at_call 10; refine HDX.out.mono ?_; rintro e w10 ⟨gB, C1, e4, e5, rfl, hb10, hdo10, hgB9, hgB10, hcell10⟩)
        refine wp_world ?_
        intro W11 hW11
        have hb101 : Below w10.heap.size w10 W11 := by rw [← hW11]; exact below1 _ _
        have hs10 := hb10.size
        have hs11 := hb101.size
        have hB11 : Below W9.heap.size W9 W11 := hb10.trans (hb101.mono hb10.size)
        have hX : Blk W11 w10.heap.size 27 #[.slice C1 (fitU raw).arrays.length e4, .slice (some ⟨gB, 0, none⟩) 3 e5] := by rw [← hW11]; exact Blk.new w10 _ _
        have hxl := hX.lt
        have hV11 := HV9.out.below hB11 hw59
        have v1 : W11.cell? ⟨w5.heap.size, 1, none⟩ = some (.slice B2 3 d5) := hV11.cell 1
        have x1 : W11.cell? ⟨w10.heap.size, 1, none⟩ = some (.slice (some ⟨gB, 0, none⟩) 3 e5) := hX.cell 1
        obtain ⟨⟨zz, hzz1⟩, hzz2⟩ := hcell10 W11 hb101
        have HX := Lib.hid hX
        have HV11 := Lib.hid hV11
        have HB101 := Lib.hid hb101
        have HB11 := Lib.hid hB11
        have HDO := Lib.hid hdo10
        clear hW11 hb101 hB11 hX hV11 hb10 hdo10 hcell10 z0 z1
        go_upto_region 22 with fail
        refine wp_world ?_
        intro W12 hW12
        have hneg : ∀ (b : Nat), b ≠ gB → b ≠ (⟨gB, k * 4 + 2, none⟩ : Addr).block := fun _ h => h
        have hsz12 : W12.heap.size = W11.heap.size := by rw [← hW12]; simp [World.setCell]
        have hK12 : Keeps (fun b => b ≠ gB) W11 W12 := by rw [← hW12]; exact (Keeps.refl _ _).set hneg _
        have hX12 := HX.out.keep (hK12 w10.heap.size (by omega))
        have hV12 := HV11.out.keep (hK12 w5.heap.size (by omega))
        have v0 : W12.cell? ⟨w5.heap.size, 0, none⟩ = some (.slice B1 (fitU raw).arrays.length d4) := hV12.cell 0
        have v2 : W12.cell? ⟨w5.heap.size, 1, none⟩ = some (.slice B2 3 d5) := hV12.cell 1
        have x0' : W12.cell? ⟨w10.heap.size, 0, none⟩ = some (.slice C1 (fitU raw).arrays.length e4) := hX12.cell 0
        have x2 : W12.cell? ⟨w10.heap.size, 1, none⟩ = some (.slice (some ⟨gB, 0, none⟩) 3 e5) := hX12.cell 1
        have hvi := HVK.out W12 (by omega) ((HKW.out.trans (Keeps.mono (Keeps.of_below HB11.out) fun b hb => by omega)).trans (hK12.mono fun b hb => by omega))
        have hst := HDO.out.store (n := 10) (fls := (deadE (fitU raw)).flows) HB101.out HUDK.out (by rw [vals_back _ rfl]; exact HUDE.out)
        rw [hW12, HUNL.out, HUA.out] at hst
        have hdl : (deadE (fitU raw)).flows.length = 3 := by
          show ((fitU raw).flows.map deadF).length = 3
          rw [List.length_map]; exact hl3
        have hwi : UIn (deadE (fitU raw)) W12 C1 (some ⟨gB, 0, none⟩) e4 e5 := ⟨hst.1, by rw [hdl]; exact hst.2⟩
        have hsm := same_u hvi hwi
        rw [hdl] at hsm
        have HSM : Hid (Calls Tryz.prog 13 #[.agg #[.slice B1 (fitU raw).arrays.length d4, .slice B2 3 d5], .agg #[.slice C1 (fitU raw).arrays.length e4, .slice (some ⟨gB, 0, none⟩) 3 e5]] W12 fun e w' => e = .returned (.bool true) ∧ Below W12.heap.size W12 w') := Lib.hid hsm
        have HBE : Hid (Below w.heap.size w W12) := Lib.hid (by
          have h := HB9.out.trans (HB11.out.mono HB9.out.size)
          have hge : w.heap.size ≤ gB := by have := HB9.out.size; omega
          rw [← hW12]; exact h.setCell hge _)
        clear hneg hK12 hX12 hV12 hvi hst hdl hwi hsm hW12 v1 x1 hzz1 hzz2
        go_wp2_with (go_at_call 13; refine HSM.out.mono ?_; rintro e w13 ⟨rfl, hb13⟩)
        go_ret
        exact ⟨rfl, HBE.out.trans (hb13.mono HBE.out.size)⟩

end Go.Proofs.YtkpigkopjfkepaaGreatDoor
