/- What holds of a run's state on and on: its calls stand in the unit's functions, and so on. A step of irrun makes of the run's state what the plain step makes of it. A block's end, and so a step of irrun, makes of the run's state what the plain one makes of it. -/
import Derived.Test.YtkpigkopjfkepaaGreatDoorPrIrCheck
import Derived.Test.YtkpigkopjfkepaaGreatDoorPrRunSm
import Derived.Test.YtkpigkopjfkepaaGreatDoorPrRunSt
namespace Go.Proofs.YtkpigkopjfkepaaGreatDoor
structure CallOk (u : LUnit) (c : MCall) : Prop where
 flow : c.flow ∈ u.flows
 vals : (c.values.length : Int) = c.flow.values
 b0 : 0 ≤ c.block
 b1 : c.block < (c.flow.blocks.length : Int)
 a0 : 0 ≤ c.at_
 a1 : ∀ b, c.flow.blocks[c.block.toNat]? = some b → c.at_ ≤ (b.ins.length : Int)
def Linked : List MCall → Prop
 | c :: c2 :: r => (0 ≤ c.into ∧ c.into < (c2.values.length : Int)) ∧ Linked (c2 :: r)
 | _ => True
structure MOk (u : LUnit) (m : MRun) : Prop where
 calls : ∀ c ∈ m.calls, CallOk u c
 linked : Linked m.calls
 deep : m.calls.length ≤ 50
 ne : m.status = 0 → m.calls ≠ []
 names : m.arrays.map (·.1) = u.arrays.map (·.1)
 sizes : ∀ a ∈ m.arrays, a.2.length ≤ 1048576
 out : (m.out.length : Int) ≤ m.steps
theorem Linked.top {c c' : MCall} {r : List MCall} (h : Linked (c :: r)) (hi : c'.into = c.into) : Linked (c' :: r) := by
 cases r with
 | nil => trivial
 | cons d r => unfold Linked at h ⊢; rw [hi]; exact h
theorem Linked.tail {c : MCall} {r : List MCall} (h : Linked (c :: r)) : Linked r := by
 cases r with
 | nil => trivial
 | cons d r => exact h.2
theorem CallOk.block_at {u : LUnit} {c : MCall} (h : CallOk u c) : ∃ (hb : c.block.toNat < c.flow.blocks.length), c.flow.blocks[c.block.toNat]? = some c.flow.blocks[c.block.toNat] := by
 have h0 := h.b0
 have h1 := h.b1
 have hb : c.block.toNat < c.flow.blocks.length := by omega
 exact ⟨hb, List.getElem?_eq_getElem hb⟩
theorem newCall_ok {u : LUnit} (hu : UnitOk u) {f : LFlow} (hf : f ∈ u.flows) (args : List Int) (into : Int) : CallOk u (newCall f args into) := by
 obtain ⟨h1, h2, h3, h4, h5, h6⟩ := flow_ok hu hf
 refine ⟨hf, ?_, Int.le_refl _, ?_, Int.le_refl _, fun b _ => ?_⟩
 ·show ((argVals f.values args).length : Int) = f.values
  unfold argVals
  simp
  omega
 ·show (0 : Int) < (f.blocks.length : Int); omega
 ·show (0 : Int) ≤ (b.ins.length : Int); omega
section
variable {u : LUnit} {m : MRun} {c : MCall} {r : List MCall}
theorem MOk.of_top (h : MOk u m) (hm : m.calls = c :: r) {m' : MRun} {c' : MCall} (hc : m'.calls = c' :: r) (hc' : CallOk u c') (hi : c'.into = c.into) (h1 : m'.arrays.map (·.1) = u.arrays.map (·.1)) (h2 : ∀ a ∈ m'.arrays, a.2.length ≤ 1048576) (h3 : (m'.out.length : Int) ≤ m'.steps) : MOk u m' := by
 have hl := h.linked
 have hd := h.deep
 rw [hm] at hl hd
 refine ⟨fun d hd => ?_, by rw [hc]; exact hl.top hi, by rw [hc]; simpa using hd, fun _ => by rw [hc]; simp, h1, h2, h3⟩
 rw [hc] at hd
 rcases List.mem_cons.1 hd with rfl | hd
 ·exact hc'
 ·exact h.calls d (by rw [hm]; simp [hd])
theorem CallOk.put (h : CallOk u c) (d v : Int) : CallOk u (c.put d v) := ⟨h.flow, by simpa [MCall.put] using h.vals, h.b0, h.b1, h.a0, h.a1⟩
theorem MOk.put (h : MOk u m) (hm : m.calls = c :: r) (hc : CallOk u c) (d v : Int) : MOk u (m.top (c.put d v)) :=
 h.of_top hm (c' := c.put d v) (by simp [MRun.top, hm]) (hc.put d v) rfl h.names h.sizes h.out
theorem MOk.stop (h : MOk u m) (hne : m.calls ≠ []) (s co : Int) : MOk u (m.stop s co) := ⟨h.calls, h.linked, h.deep, fun _ => hne, h.names, h.sizes, h.out⟩
theorem setArr_sizes {l : List (ByteArray × List Int)} {N : Nat} (h : ∀ a ∈ l, a.2.length ≤ N) (s : ByteArray) (k : Nat) (v : Int) : ∀ a ∈ setArr l s k v, a.2.length ≤ N := fun a ha => by
 unfold setArr at ha
 obtain ⟨b, hb, rfl⟩ := List.mem_map.1 ha
 split
 ·simpa using h b hb
 ·exact h b hb
theorem setArr_names' (l : List (ByteArray × List Int)) (s : ByteArray) (k : Nat) (v : Int) : (setArr l s k v).map (·.1) = l.map (·.1) := by
 unfold setArr
 rw [List.map_map]
 apply List.map_congr_left
 intro a _
 simp only [Function.comp]
 split <;> rfl
theorem MOk.ins (hu : UnitOk u) (h : MOk u m) (hm : m.calls = c :: r) (hs : (m.out.length : Int) + 1 ≤ m.steps) {x : LIns} (hx : InsK u c.flow.values x) : MOk u (insM u m c x) := by
 have hc := h.calls c (by rw [hm]; simp)
 have hne : m.calls ≠ [] := by rw [hm]; simp
 unfold insM
 split
 ·exact h.put hm hc _ _
 split
 ·exact h.put hm hc _ _
 split
 ·exact h.put hm hc _ _
 split
 ·split
  ·exact h.put hm hc _ _
  ·exact h.stop hne _ _
 split
 ·split
  ·exact h.put hm hc _ _
  ·exact h.stop hne _ _
 split
 ·split
  ·exact ⟨h.calls, h.linked, h.deep, h.ne, by show (setArr _ _ _ _).map (·.1) = _; rw [setArr_names']; exact h.names, setArr_sizes h.sizes _ _ _, h.out⟩
  ·exact h.stop hne _ _
 split
 ·have := h.put hm hc x.d (m.inp.headD (-1))
  exact ⟨this.calls, this.linked, this.deep, this.ne, this.names, this.sizes, this.out⟩
 split
 ·exact ⟨h.calls, h.linked, h.deep, h.ne, h.names, h.sizes, by simp; omega⟩
 split
 ·rename_i hk
  split
  ·exact h.stop hne _ _
  ·rename_i hd
   obtain ⟨g, hg, hp, ha⟩ := hx.call hk
   have hd9 : hasD x.kind = true := by rw [hk]; decide
   obtain ⟨d0, d1⟩ := hx.d hd9
   unfold MRun.push
   rw [hg]
   refine ⟨fun d hd => ?_, ?_, ?_, fun _ => by simp, h.names, h.sizes, h.out⟩
   ·rcases List.mem_cons.1 hd with rfl | hd
    ·exact newCall_ok hu (List.mem_of_find?_eq_some hg) _ _
    ·exact h.calls d hd
   ·show Linked (newCall g _ x.d :: m.calls)
    rw [hm]
    have hl := h.linked
    rw [hm] at hl
    refine ⟨⟨d0, ?_⟩, hl⟩
    show x.d < (c.values.length : Int)
    rw [hc.vals]; exact d1
   ·show (newCall g _ x.d :: m.calls).length ≤ 50
    simp; omega
 ·exact h
theorem MOk.term (h : MOk u m) (hm : m.calls = c :: r) {t : LTerm} (ht : TermK c.flow.blocks.length c.flow.values t) : MOk u (termM m c t) := by
 have hc := h.calls c (by rw [hm]; simp)
 have at0 : ∀ k : Int, 0 ≤ k → k < (c.flow.blocks.length : Int) → CallOk u { c with at_ := 0, block := k } := fun k h0 h1 => ⟨hc.flow, hc.vals, h0, h1, Int.le_refl _, fun b _ => by show (0 : Int) ≤ (b.ins.length : Int); omega⟩
 have tc : ∀ c', (m.top c').calls = c' :: r := fun c' => by simp [MRun.top, hm]
 unfold termM
 split
 ·rename_i hk
  obtain ⟨h0, h1⟩ := ht.dest (.inl hk)
  exact h.of_top hm (tc _) (at0 _ h0 h1) rfl h.names h.sizes h.out
 split
 ·rename_i hk
  obtain ⟨h0, h1⟩ := ht.dest (.inr hk)
  obtain ⟨h2, h3⟩ := ht.els hk
  refine h.of_top hm (tc _) (at0 _ ?_ ?_) rfl h.names h.sizes h.out
  ·split <;> assumption
  ·split <;> assumption
 split
 ·unfold MRun.pop
  rw [hm]
  cases r with
  | nil => exact ⟨(fun d hd => by cases hd), trivial, by simp, (fun e => by cases e), h.names, h.sizes, h.out⟩
  | cons c2 r =>
   have hl := h.linked
   have hd := h.deep
   rw [hm] at hl hd
   refine ⟨fun d hd => ?_, ?_, by simpa using Nat.le_trans (Nat.le_succ _) hd, fun _ => by simp, h.names, h.sizes, h.out⟩
   ·rcases List.mem_cons.1 hd with rfl | hd
    ·exact (h.calls c2 (by rw [hm]; simp)).put _ _
    ·exact h.calls d (by rw [hm]; simp [hd])
   ·exact hl.tail.top rfl
 split
 ·have h1 : MOk u (m.top { c with at_ := 0 }) := h.of_top hm (tc _) (at0 _ hc.b0 hc.b1) rfl h.names h.sizes h.out
  exact h1.stop (by rw [tc]; simp) _ _
 ·exact h.of_top hm (tc _) (at0 _ hc.b0 hc.b1) rfl h.names h.sizes h.out
theorem MOk.ahead (h : MOk u m) (hm : m.calls = c :: r) {b : LBlock} (hb : c.flow.blocks[c.block.toNat]? = some b) (hat : c.at_ ≠ (b.ins.length : Int)) : MOk u (m.top { c with at_ := c.at_ + 1 }) ∧ CallOk u { c with at_ := c.at_ + 1 } := by
 have hc := h.calls c (by rw [hm]; simp)
 have h1 : CallOk u { c with at_ := c.at_ + 1 } := by
  refine ⟨hc.flow, hc.vals, hc.b0, hc.b1, by have := hc.a0; show 0 ≤ c.at_ + 1; omega, fun b' hb' => ?_⟩
  have e : some b' = some b := by rw [← hb']; exact hb
  injection e with e
  subst e
  have := hc.a1 b' hb
  show c.at_ + 1 ≤ _
  omega
 exact ⟨h.of_top hm (c' := { c with at_ := c.at_ + 1 }) (by simp [MRun.top, hm]) h1 rfl h.names h.sizes h.out, h1⟩
theorem MOk.step (hu : UnitOk u) (h : MOk u m) (hs : (m.out.length : Int) + 1 ≤ m.steps) : MOk u (stepM u m) := by
 unfold stepM
 cases hm : m.calls with
 | nil => exact h
 | cons c r =>
  have hc := h.calls c (by rw [hm]; simp)
  obtain ⟨hb, hbe⟩ := hc.block_at
  simp only []
  rw [hbe]
  obtain ⟨ht, hi⟩ := block_ok hu hc.flow (List.getElem_mem hb)
  simp only []
  split
  ·exact h.term hm (termK_of ht)
  ·rename_i hat
   cases hx : (c.flow.blocks[c.block.toNat]).ins[c.at_.toNat]? with
   | none => exact h
   | some x =>
    obtain ⟨h1, h2⟩ := h.ahead hm hbe hat
    exact MOk.ins hu h1 (c := { c with at_ := c.at_ + 1 }) (r := r) (by simp [MRun.top, hm]) hs (insK_of (hi x (List.mem_of_getElem? hx)))
theorem MOk.round (hu : UnitOk u) (h : MOk u m) : MOk u (stepM u { m with steps := m.steps + 1 }) := by
 have h1 : MOk u { m with steps := m.steps + 1 } := ⟨h.calls, h.linked, h.deep, h.ne, h.names, h.sizes, by have := h.out; show (m.out.length : Int) ≤ m.steps + 1; omega⟩
 exact h1.step hu (by have := h.out; show (m.out.length : Int) + 1 ≤ m.steps + 1; omega)
end
end Go.Proofs.YtkpigkopjfkepaaGreatDoor
namespace Go.Proofs.YtkpigkopjfkepaaGreatDoor
open Go.RowKit
theorem own_slice {w : World} {base : Nat} {e : TypeId} {size : Nat} {v : Value} {n : Nat} {xs : List Value} (h : w.ownsRow base e size v (n + 1) xs) : ∃ g cap, v = .slice (some ⟨g, 0, none⟩) (n + 1) cap ∧ n + 1 ≤ cap ∧ cap ≤ maxLen := by
 rcases h.2 with ⟨_, hn⟩ | ⟨g, cap, cur, hv, _, _, h1, h2, _⟩
 ·omega
 ·exact ⟨g, cap, hv, h1, h2⟩
structure TopAt (w : World) (base rb : Nat) (vcalls vout : Value) (cbs vbs : List Nat) (c : MCall) (cb vb : Nat) (bs vs : List Nat) (g cap : Nat) (A : Option Addr) (k : Nat) : Prop where
 cbs_ : cbs = cb :: bs
 vbs_ : vbs = vb :: vs
 calls : vcalls = .slice (some ⟨g, 0, none⟩) (bs.length + 1) cap
 room : bs.length + 1 ≤ cap ∧ cap ≤ maxLen
 row : w.ownsRow base 124 1 (.slice (some ⟨g, 0, none⟩) (bs.length + 1) cap) (bs.length + 1) ((cb :: bs).reverse.map fun b => .pointer (some ⟨b, 0, none⟩))
 top : CallAt w base cb vb c A k
 blk : CallBlk w cb c.flow.name c.flow.params c.flow.values (.slice A c.flow.blocks.length k) (.slice (some ⟨vb, 0, none⟩) c.values.length c.values.length) c.block c.at_ c.into
 ne1 : vb ≠ rb
 ne2 : vb ≠ cb
 ne3 : cb ≠ rb
 ne4 : vout.ownBlock ≠ some vb
 ne5 : g ≠ rb
section
variable {w w' : World} {base rb mb : Nat} {u : LUnit} {A1 A2 : Option Addr} {c1 c2 : Nat} {m : MRun} {vin vcalls vout : Value} {cbs vbs gs : List Nat} {nD : Nat} {D : DataW Value} {c : MCall} {r : List MCall}
theorem RunAtX.open_top (h : RunAtX w base rb mb u A1 A2 c1 c2 m vin vcalls vout cbs vbs gs nD D) (hm : m.calls = c :: r) : ∃ cb vb bs vs g cap A k, TopAt w base rb vcalls vout cbs vbs c cb vb bs vs g cap A k := by
 have hrest := h.rest
 rw [hm] at hrest
 have h1 := hrest.len1
 have h2 := hrest.len2
 cases cbs with
 | nil => simp at h1
 | cons cb bs =>
  cases vbs with
  | nil => simp at h2
  | cons vb vs =>
   obtain ⟨A, k, hc⟩ := hrest.call 0 (by simp) (by simp) (by simp)
   simp only [List.getElem_cons_zero] at hc
   have hrow := hrest.row
   simp only [List.length_cons] at hrow
   obtain ⟨g, cap, hv, hr1, hr2⟩ := own_slice hrow
   subst hv
   refine ⟨cb, vb, bs, vs, g, cap, A, k, rfl, rfl, rfl, ⟨hr1, hr2⟩, hrow, hc, ⟨hc.blk⟩, blk_ne hc.vals h.run.blk (by decide), blk_ne hc.vals hc.blk (by decide), blk_ne hc.blk h.run.blk (by decide), fun e => hrest.outv vb e (by simp), fun e => ?_⟩
   exact own_ne hrow h.run.blk (by decide) (by rw [← e]; rfl)
theorem TopAt.val {cb vb : Nat} {bs vs : List Nat} {g cap : Nat} {A : Option Addr} {k : Nat} (t : TopAt w base rb vcalls vout cbs vbs c cb vb bs vs g cap A k) {n : Int} (h0 : 0 ≤ n) (h1 : n < (c.values.length : Int)) : w.cell? ⟨vb, n.toNat, none⟩ = some (.int .i64 (c.val n)) ∧ w.frozen? ⟨vb, n.toNat, none⟩ = false := by
 refine ⟨?_, t.top.vals.frozen _⟩
 rw [t.top.vals.cell]
 have h2 : n.toNat < c.values.length := by omega
 simp [MCall.val, h2]
theorem insM_1 {x : LIns} (h : x.kind = 1) : insM u m c x = m.top (c.put x.d x.n) := by unfold insM; rw [if_pos h]
theorem insM_2 {x : LIns} (h : x.kind = 2) : insM u m c x = m.top (c.put x.d (c.val x.a)) := by unfold insM; rw [if_neg (by omega), if_pos h]
theorem insM_3 {x : LIns} (h : x.kind = 3) : insM u m c x = m.top (c.put x.d (Ar.one x.op (c.val x.a))) := by unfold insM; rw [if_neg (by omega), if_neg (by omega), if_pos h]
theorem insM_4 {x : LIns} (h : x.kind = 4) : insM u m c x = (if Ar.twoOk x.op (c.val x.b) = true then m.top (c.put x.d (Ar.two x.op (c.val x.a) (c.val x.b))) else m.stop 2 0) := by unfold insM; rw [if_neg (by omega), if_neg (by omega), if_neg (by omega), if_pos h]
theorem insM_5 {x : LIns} (h : x.kind = 5) : insM u m c x = (if 0 ≤ c.val x.a ∧ c.val x.a < (m.arr x.name).length then m.top (c.put x.d ((m.arr x.name).getD (c.val x.a).toNat 0)) else m.stop 3 0) := by unfold insM; rw [if_neg (by omega), if_neg (by omega), if_neg (by omega), if_neg (by omega), if_pos h]
theorem insM_6 {x : LIns} (h : x.kind = 6) : insM u m c x = (if 0 ≤ c.val x.a ∧ c.val x.a < (m.arr x.name).length then { m with arrays := setArr m.arrays x.name (c.val x.a).toNat (c.val x.b) } else m.stop 3 0) := by unfold insM; rw [if_neg (by omega), if_neg (by omega), if_neg (by omega), if_neg (by omega), if_neg (by omega), if_pos h]
theorem insM_7 {x : LIns} (h : x.kind = 7) : insM u m c x = { m.top (c.put x.d (m.inp.headD (-1))) with inp := m.inp.tail } := by unfold insM; rw [if_neg (by omega), if_neg (by omega), if_neg (by omega), if_neg (by omega), if_neg (by omega), if_neg (by omega), if_pos h]
theorem insM_8 {x : LIns} (h : x.kind = 8) : insM u m c x = { m with out := m.out ++ [c.val x.a] } := by unfold insM; rw [if_neg (by omega), if_neg (by omega), if_neg (by omega), if_neg (by omega), if_neg (by omega), if_neg (by omega), if_neg (by omega), if_pos h]
theorem insM_9 {x : LIns} (h : x.kind = 9) : insM u m c x = (if m.calls.length ≥ 50 then m.stop 4 0 else m.push u x.name (x.args.map c.val) x.d) := by unfold insM; rw [if_neg (by omega), if_neg (by omega), if_neg (by omega), if_neg (by omega), if_neg (by omega), if_neg (by omega), if_neg (by omega), if_neg (by omega), if_pos h]
theorem arr_place (hk : MOk u m) (hu : UnitOk u) {s : ByteArray} (hs : ∃ (i : Nat) (h : i < u.arrays.length), u.arrays[i].1 = s) : ∃ (i : Nat) (h : i < m.arrays.length), m.arrays[i].1 = s ∧ m.arr s = m.arrays[i].2 ∧ (m.arrays.map (·.1)).Nodup := by
 obtain ⟨i, hi, hn⟩ := hs
 have hl : m.arrays.length = u.arrays.length := by have h := congrArg List.length hk.names; simpa using h
 have hnd : (m.arrays.map (·.1)).Nodup := by
  rw [hk.names]
  have h := hu.nodup
  unfold allNames at h
  exact (List.nodup_append.1 h).1
 have hi' : i < m.arrays.length := by omega
 have e : m.arrays[i].1 = s := by
  have h1 : (m.arrays.map (·.1))[i]'(by simpa using hi') = (u.arrays.map (·.1))[i]'(by simpa using hi) := by simp only [hk.names]
  rw [← hn]
  simpa using h1
 exact ⟨i, hi', e, by rw [← e]; exact MRun.arr_at hnd hi', hnd⟩
abbrev Done (w : World) (base rb mb : Nat) (u : LUnit) (A1 A2 : Option Addr) (c1 c2 : Nat) (m : MRun) (e : Ending) (w' : World) : Prop := e = .returned (.tuple #[]) ∧ RunAt w' base rb mb u A1 A2 c1 c2 m ∧ Chg w w' (base ≤ ·)
theorem RunAtX.at' (h : RunAtX w base rb mb u A1 A2 c1 c2 m vin vcalls vout cbs vbs gs nD D) : RunAt w base rb mb u A1 A2 c1 c2 m := ⟨_, _, _, _, _, _, _, _, h⟩
theorem put_done {cb vb : Nat} {bs vs : List Nat} {g cap : Nat} {A : Option Addr} {k : Nat} (h : RunAtX w base rb mb u A1 A2 c1 c2 m vin vcalls vout cbs vbs gs nD D) (hm : m.calls = c :: r) (t : TopAt w base rb vcalls vout cbs vbs c cb vb bs vs g cap A k) {d v : Int} {e : Ending} (hp : PutPost vb d v w e w') : Done w base rb mb u A1 A2 c1 c2 (m.top (c.put d v)) e w' := by
 obtain ⟨he, w1, hg, hw⟩ := hp
 obtain ⟨rfl, rfl⟩ := And.intro t.cbs_ t.vbs_
 obtain ⟨h1, h2⟩ := h.put hm hg hw
 exact ⟨he, h1.at', h2⟩
theorem stop_done (h : RunAtX w base rb mb u A1 A2 c1 c2 m vin vcalls vout cbs vbs gs nD D) {s co : Int} {e : Ending} (he : e = .returned (.tuple #[])) (hg : w.grownBy w' (some rb)) (h1 : RunBlk w' rb (.slice A1 u.arrays.length c1) (.slice A2 u.flows.length c2) (.map (some mb)) vin vcalls s co vout m.steps) : Done w base rb mb u A1 A2 c1 c2 (m.stop s co) e w' := by
 obtain ⟨h2, h3⟩ := h.stop hg h1
 exact ⟨he, h2.at', h3⟩
theorem find_idx {α : Type} (p : α → Bool) : ∀ (l : List α) (g : α), l.find? p = some g → ∃ (h : l.findIdx p < l.length), l[l.findIdx p] = g ∧ l.any p = true
 | [], g, h => by simp at h
 | a :: r, g, h => by
  by_cases ha : p a = true
  ·rw [List.find?_cons_of_pos ha] at h
   injection h with h
   subst h
   exact ⟨by simp [List.findIdx_cons, ha], by simp [List.findIdx_cons, ha], by simp [ha]⟩
  ·rw [List.find?_cons_of_neg ha] at h
   obtain ⟨h1, h2, h3⟩ := find_idx p r g h
   have ha' : p a = false := by simpa using ha
   have e : (a :: r).findIdx p = r.findIdx p + 1 := by simp [List.findIdx_cons, ha']
   refine ⟨by rw [e]; simpa using h1, ?_, by simp [ha', h3]⟩
   have : (a :: r)[r.findIdx p + 1]'(by simpa using h1) = g := by simpa using h2
   simpa only [e] using this
theorem find_place {u : LUnit} {s : ByteArray} {g : LFlow} (h : u.flows.find? (fun f => decide (f.name = s)) = some g) : ∃ (i : Nat) (hi : i < u.flows.length), placeU u s = (i : Int) ∧ u.flows[i] = g := by
 obtain ⟨h1, h2, h3⟩ := find_idx _ _ _ h
 refine ⟨_, h1, ?_, h2⟩
 unfold placeU findI
 rw [if_pos h3]
theorem name_len {u : LUnit} (hu : UnitOk u) {i : Nat} (hi : i < u.arrays.length) : u.arrays[i].1.size ≤ maxLen := by
 have h := hu.good u.arrays[i].1 (by unfold allNames; exact List.mem_append_left _ (List.mem_map.2 ⟨_, List.getElem_mem hi, rfl⟩))
 unfold NameG at h
 rcases h with h | h | h | h | h <;> rw [h] <;> decide
theorem push_at (hu : UnitOk u) (h : RunAtX w base rb mb u A1 A2 c1 c2 m vin vcalls vout cbs vbs gs nD D) (hd : m.calls.length ≤ 50) {s : ByteArray} {f : LFlow} (hf : u.flows.find? (fun f => decide (f.name = s)) = some f) (args : List Int) (Ar : Option Addr) (cr : Nat) (into : Int) (hsr : SlR w (fun _ => True) 1 RInt (.slice Ar args.length cr) args) (hal : (args.length : Int) ≤ f.values) :
  Calls Tryz.prog 36 #[.pointer (some ⟨rb, 0, none⟩), .string s, .slice Ar args.length cr, .int .i64 into] w (Done w base rb mb u A1 A2 c1 c2 (m.push u s args into)) := by
 obtain ⟨i, hi, hpl, hfi⟩ := find_place hf
 obtain ⟨f1, f2, f3, f4, f5, f6⟩ := flow_ok hu (List.mem_of_find?_eq_some hf)
 have hfl := hu.fls
 obtain ⟨mm, hmm⟩ : ∃ mm : Nat, f.values = (mm : Int) := ⟨f.values.toNat, by omega⟩
 have hvf : u.flows[i].values = (mm : Int) := by rw [hfi]; exact hmm
 have hcl : cbs.length ≤ 60 := by have := h.rest.len1; omega
 have hP := push_any base rb cbs.length c1 c2 i mm u A1 A2 _ _ _ _ _ _ _ into s _ Ar cr args w h.run h.rest.flows h.bw h.rge hi hpl hvf (by omega) hfl h.rest.row hcl hsr (by omega)
 refine hP.mono fun e w' hp => ?_
 obtain ⟨he, cb', vb', g', cap', Ab, kb, hp⟩ := hp
 rw [hfi] at hp
 obtain ⟨h3, h4⟩ := h.push hmm hp
 refine ⟨he, ?_, h4⟩
 have e1 : m.push u s args into = { m with calls := newCall f args into :: m.calls } := by unfold MRun.push; rw [hf]
 rw [e1]
 exact h3.at'
set_option maxRecDepth 100000 in
set_option maxHeartbeats 1000000 in
theorem ins_at (hu : UnitOk u) (h : RunAtX w base rb mb u A1 A2 c1 c2 m vin vcalls vout cbs vbs gs nD D) (hk : MOk u m) (hm : m.calls = c :: r) (hout : m.out.length ≤ 100000) (x : LIns) (hx : InsK u c.flow.values x) (Aa : Option Addr) (ca : Nat) (hargs : SlR w (· < base) 1 RInt (.slice Aa x.args.length ca) x.args) :
  Calls Tryz.prog 77 #[.pointer (some ⟨rb, 0, none⟩), .agg #[.int .i64 x.kind, .int .i64 x.d, .int .i64 x.a, .int .i64 x.b, .int .i64 x.op, .int .i64 x.n, .string x.name, .slice Aa x.args.length ca]] w (Done w base rb mb u A1 A2 c1 c2 (insM u m c x)) := by
 obtain ⟨cb, vb, bs, vs, g, cap, A, k, t⟩ := h.open_top hm
 have hrow := t.row
 have hblk := t.blk
 have hm1 : bs.length + 1 ≤ maxLen := Nat.le_trans t.room.1 t.room.2
 have hrun := h.run
 rw [t.calls] at hrun
 have hcv := (hk.calls c (by rw [hm]; simp)).vals
 have hkd := hx.kind
 have hD := hx.d
 have hA := hx.a
 have hB := hx.b
 rw [← hcv] at hD hA hB
 rcases (by omega : x.kind = 1 ∨ x.kind = 2 ∨ x.kind = 3 ∨ x.kind = 4 ∨ x.kind = 5 ∨ x.kind = 6 ∨ x.kind = 7 ∨ x.kind = 8 ∨ x.kind = 9) with e | e | e | e | e | e | e | e | e
 ·have hd := hD (by rw [e]; decide)
  rw [insM_1 e, e]
  exact (ins_num base rb _ cap g cb _ _ _ _ _ _ _ _ bs _ _ _ _ vb _ _ _ _ _ _ _ _ _ _ _ _ _ _ w rfl hrun hrow hm1 hblk hd.1 hd.2 (t.val hd.1 hd.2).1 (t.val hd.1 hd.2).2).mono fun _ _ hp => put_done h hm t hp
 ·have hd := hD (by rw [e]; decide)
  have ha := hA (by rw [e]; decide)
  rw [insM_2 e, e]
  exact (ins_move base rb _ cap g cb _ _ _ _ _ _ _ _ bs _ _ _ _ vb _ _ _ _ _ _ _ _ _ _ _ _ _ _ _ w rfl hrun hrow hm1 hblk hd.1 hd.2 (t.val hd.1 hd.2).1 (t.val hd.1 hd.2).2 ha.1 ha.2 (t.val ha.1 ha.2).1).mono fun _ _ hp => put_done h hm t hp
 ·have hd := hD (by rw [e]; decide)
  have ha := hA (by rw [e]; decide)
  rw [insM_3 e, e]
  exact (ins_one base rb _ cap g cb _ _ _ _ _ _ _ _ bs _ _ _ _ vb _ _ _ _ _ _ _ _ _ _ _ _ _ _ _ w rfl hrun hrow hm1 hblk hd.1 hd.2 (t.val hd.1 hd.2).1 (t.val hd.1 hd.2).2 ha.1 ha.2 (t.val ha.1 ha.2).1).mono fun _ _ hp => put_done h hm t hp
 ·have hd := hD (by rw [e]; decide)
  have ha := hA (by rw [e]; decide)
  have hb := hB (by rw [e]; decide)
  rw [insM_4 e, e]
  cases hok : Ar.twoOk x.op (c.val x.b) with
  | true =>
   rw [if_pos rfl]
   exact (ins_two base rb _ cap g cb _ _ _ _ _ _ _ _ bs _ _ _ _ vb _ _ _ _ _ _ _ _ _ _ _ _ _ _ _ _ w rfl hrun hrow hm1 hblk hd.1 hd.2 (t.val hd.1 hd.2).1 (t.val hd.1 hd.2).2 ha.1 ha.2 (t.val ha.1 ha.2).1 hb.1 hb.2 (t.val hb.1 hb.2).1 hok).mono fun _ _ hp => put_done h hm t hp
  | false =>
   rw [if_neg (by simp)]
   refine (ins_div base rb _ cap g cb _ _ _ _ _ _ _ _ bs _ _ _ _ vb _ _ _ _ _ _ _ _ _ _ _ _ _ _ _ w rfl hrun hrow hm1 hblk ha.1 ha.2 (t.val ha.1 ha.2).1 hb.1 hb.2 (t.val hb.1 hb.2).1 hok).mono fun _ _ hp => ?_
   obtain ⟨he, h1, hg⟩ := hp
   rw [← t.calls] at h1
   exact stop_done h he hg h1
 ·have hd := hD (by rw [e]; decide)
  have ha := hA (by rw [e]; decide)
  obtain ⟨i, hi, hn, harr, hnd⟩ := arr_place hk hu (hx.arr (.inl e))
  have hig : i < gs.length := by have := h.arrs.len; omega
  have hsz : m.arrays[i].1.size ≤ maxLen := by
   have hi' : i < u.arrays.length := by have h := congrArg List.length hk.names; simp at h; omega
   have h1 : m.arrays[i].1 = u.arrays[i].1 := by
    have h1 : (m.arrays.map (·.1))[i]'(by simpa using hi) = (u.arrays.map (·.1))[i]'(by simpa using hi') := by simp only [hk.names]
    simpa using h1
   rw [h1]; exact name_len hu hi'
  have hel : ∀ W, w.grownBy W none → _ := fun W hW => (h.grown hW).arrs.look hi hig hsz
  rw [insM_5 e, e, harr]
  rw [hn] at hel
  by_cases hin : 0 ≤ c.val x.a ∧ c.val x.a < (m.arrays[i].2.length : Int)
  ·rw [if_pos hin]
   have hlt : (c.val x.a).toNat < m.arrays[i].2.length := by omega
   have hgc : w.cell? ⟨gs[i], (c.val x.a).toNat, none⟩ = some (.int .i64 (m.arrays[i].2.getD (c.val x.a).toNat 0)) := by
    rw [(h.arrs.each i hi hig).2.1.cell]
    simp [hlt]
   exact (ins_load base rb _ cap g cb _ _ _ _ _ _ _ _ bs _ _ _ _ vb _ _ _ _ _ _ _ _ _ _ _ _ _ _ _ _ gs[i] (c.val x.a).toNat w rfl hrun hrow hm1 hblk hd.1 hd.2 (t.val hd.1 hd.2).1 (t.val hd.1 hd.2).2 ha.1 ha.2 (t.val ha.1 ha.2).1
    (fun W hW => element_in rb mb gs[i] _ _ _ _ _ _ _ _ _ _ _ W (h.grown hW).run (hel W hW) hin.1 hin.2) hgc).mono fun _ _ hp => put_done h hm t hp
  ·rw [if_neg hin]
   refine (ins_load_out base rb _ cap g cb _ _ _ _ _ _ _ _ bs _ _ _ _ vb _ _ _ _ _ _ _ _ _ _ _ _ _ _ w rfl hrun hrow hm1 hblk ha.1 ha.2 (t.val ha.1 ha.2).1 (fun W hW => element_out rb mb gs[i] _ _ _ _ _ _ _ _ _ _ _ W (by have h1 := (h.grown hW).run; rw [t.calls] at h1; exact h1) (hel W hW) (by omega)) t.ne1).mono fun _ _ hp => ?_
   obtain ⟨he, h1, hg⟩ := hp
   rw [← t.calls] at h1
   exact stop_done h he hg h1
 ·have ha := hA (by rw [e]; decide)
  have hb := hB (by rw [e]; decide)
  obtain ⟨i, hi, hn, harr, hnd⟩ := arr_place hk hu (hx.arr (.inr e))
  have hig : i < gs.length := by have := h.arrs.len; omega
  have hsz : m.arrays[i].1.size ≤ maxLen := by
   have hi' : i < u.arrays.length := by have h := congrArg List.length hk.names; simp at h; omega
   have h1 : m.arrays[i].1 = u.arrays[i].1 := by
    have h1 : (m.arrays.map (·.1))[i]'(by simpa using hi) = (u.arrays.map (·.1))[i]'(by simpa using hi') := by simp only [hk.names]
    simpa using h1
   rw [h1]; exact name_len hu hi'
  have hel : ∀ W, w.grownBy W none → _ := fun W hW => (h.grown hW).arrs.look hi hig hsz
  rw [insM_6 e, e, harr]
  rw [hn] at hel
  by_cases hin : 0 ≤ c.val x.a ∧ c.val x.a < (m.arrays[i].2.length : Int)
  ·rw [if_pos hin]
   have hlt : (c.val x.a).toNat < m.arrays[i].2.length := by omega
   have hgc : w.cell? ⟨gs[i], (c.val x.a).toNat, none⟩ = some (.int .i64 (m.arrays[i].2.getD (c.val x.a).toNat 0)) := by
    rw [(h.arrs.each i hi hig).2.1.cell]
    simp [hlt]
   refine (ins_store base rb _ cap g cb _ _ _ _ _ _ _ _ bs _ _ _ _ vb _ _ _ _ _ _ _ _ _ _ _ _ _ _ _ _ gs[i] (c.val x.a).toNat w rfl hrun hrow hm1 hblk ha.1 ha.2 (t.val ha.1 ha.2).1 hb.1 hb.2 (t.val hb.1 hb.2).1
    (fun W hW => element_in rb mb gs[i] _ _ _ _ _ _ _ _ _ _ _ W (h.grown hW).run (hel W hW) hin.1 hin.2) hgc ((h.arrs.each i hi hig).2.1.frozen _)).mono fun _ _ hp => ?_
   obtain ⟨he, w1, hg, hw⟩ := hp
   obtain ⟨h2, h3⟩ := h.store hg hi hig hw
   rw [hn] at h2
   exact ⟨he, h2.at', h3⟩
  ·rw [if_neg hin]
   refine (ins_store_out base rb _ cap g cb _ _ _ _ _ _ _ _ bs _ _ _ _ vb _ _ _ _ _ _ _ _ _ _ _ _ _ _ w rfl hrun hrow hm1 hblk ha.1 ha.2 (t.val ha.1 ha.2).1 (fun W hW => element_out rb mb gs[i] _ _ _ _ _ _ _ _ _ _ _ W (by have h1 := (h.grown hW).run; rw [t.calls] at h1; exact h1) (hel W hW) (by omega)) t.ne1).mono fun _ _ hp => ?_
   obtain ⟨he, h1, hg⟩ := hp
   rw [← t.calls] at h1
   exact stop_done h he hg h1
 ·have hd := hD (by rw [e]; decide)
  rw [insM_7 e, e]
  refine (ins_read base rb _ cap g cb _ _ _ _ _ _ _ _ bs _ _ _ _ vb _ _ _ _ _ _ _ _ _ _ _ _ _ _ w rfl hrun hrow hm1 hblk hd.1 hd.2 (t.val hd.1 hd.2).1 (t.val hd.1 hd.2).2 m.inp h.rest.inp h.bw h.rge t.ne1).mono fun _ _ hp => ?_
  obtain ⟨he, w1, vin', h1, hg, hin, hw⟩ := hp
  rw [← t.calls] at h1
  obtain ⟨h2, h3⟩ := h.own hg (m' := { m with inp := m.inp.tail }) h1 rfl rfl rfl hin
  obtain ⟨rfl, rfl⟩ := And.intro t.cbs_ t.vbs_
  obtain ⟨h4, h5⟩ := h2.put (c := c) (r := r) hm (grown_refl' w1 none) hw
  refine ⟨he, ?_, h3.trans h5⟩
  exact h4.at'
 ·have ha := hA (by rw [e]; decide)
  rw [insM_8 e, e]
  refine (ins_print base rb _ cap g cb _ _ _ _ _ _ _ _ bs _ _ _ _ vb _ _ _ _ _ _ _ _ _ _ _ _ _ _ m.out.length _ w rfl hrun hrow hm1 hblk ha.1 ha.2 (t.val ha.1 ha.2).1 h.rest.out hout h.bw t.ne4).mono fun _ _ hp => ?_
  obtain ⟨he, g', cap', h1, h2, h3, h4⟩ := hp
  rw [← t.calls] at h1
  obtain ⟨h5, h6⟩ := h.print h1 h2 h3 h4
  exact ⟨he, h5.at', h6⟩
 ·rw [insM_9 e, e]
  have hlen : m.calls.length = bs.length + 1 := by have := h.rest.len1; rw [t.cbs_] at this; simpa using this.symm
  by_cases h50 : m.calls.length ≥ 50
  ·rw [if_pos h50]
   refine (ins_call base rb _ cap g cb _ _ _ _ _ _ _ _ bs _ _ _ _ vb _ _ _ _ _ _ _ _ _ _ _ _ _ w rfl hrun hrow hm1 hblk (fun W w' => RunBlk w' rb _ _ _ _ _ _ _ _ _ ∧ W.grownBy w' (some rb)) (fun W hW => enter_out rb _ cap g cb _ _ _ _ _ _ _ _ _ _ _ _ _ _ _ _ _ W (by omega) ⟨hrun.blk.grown hW (by simp)⟩)).mono fun _ _ hp => ?_
   obtain ⟨he, w1, hg, h1, hg2⟩ := hp
   rw [← t.calls] at h1
   exact stop_done h he ((⟨hg.os, hg.tape, hg.output, hg.size, fun k hk _ => hg.block k hk (by simp)⟩ : w.grownBy w1 (some rb)).trans hg2) h1
  ·rw [if_neg h50]
   obtain ⟨f, hf, hpar, hal⟩ := hx.call e
   obtain ⟨f1, f2, f3, f4, f5, f6⟩ := flow_ok hu (List.mem_of_find?_eq_some hf)
   rw [← hcv] at hal
   refine (ins_call base rb _ cap g cb _ _ _ _ _ _ _ _ bs _ _ _ _ vb _ _ _ _ _ _ _ _ _ _ _ _ _ w rfl hrun hrow hm1 hblk (fun _ w' => Done w base rb mb u A1 A2 c1 c2 (m.push u x.name (x.args.map c.val) x.d) (.returned (.tuple #[])) w') (fun W hW => ?_)).mono fun _ _ hp => ?_
   ·refine (enter_push base rb _ cap g cb vb _ _ _ _ _ _ _ _ _ _ _ _ _ _ _ _ x.args c.values _ _ _ _ _ _ _ W (by omega) ⟨hrun.blk.grown hW (by simp)⟩ (hargs.imp (fun _ h => h) (fun b hb => hW.block b (Nat.lt_of_lt_of_le hb h.bw) (by simp)) (fun _ _ _ r => r)) (Nat.le_trans h.bw hW.size) ⟨hblk.blk.grown hW (by simp)⟩ (t.top.vals.grown hW (by simp)) hal (by omega) (fun _ w' => Done w base rb mb u A1 A2 c1 c2 (m.push u x.name (x.args.map c.val) x.d) (.returned (.tuple #[])) w') (fun W2 Ar cr hW2 hsr => ?_)).mono fun _ _ ⟨he, w2, hg2, hq⟩ => ⟨he, hq⟩
    have h2 := h.grown (hW.trans hW2)
    have hP := push_at hu h2 (by omega) hf (x.args.map fun n => c.values.getD n.toNat 0) Ar cr x.d hsr (by rw [List.length_map]; omega)
    exact hP.mono fun _ _ hp => ⟨hp.1, rfl, hp.2.1, (Chg.of_grown (hW.trans hW2) (fun k e _ => by cases e)).trans hp.2.2⟩
   ·obtain ⟨he, w2, hg2, hq⟩ := hp
    exact ⟨he, hq.2⟩
end
end Go.Proofs.YtkpigkopjfkepaaGreatDoor
namespace Go.Proofs.YtkpigkopjfkepaaGreatDoor
open Go.RowKit
section
variable {w w' : World} {base rb mb : Nat} {u : LUnit} {A1 A2 : Option Addr} {c1 c2 : Nat} {m : MRun} {vin vcalls vout : Value} {cbs vbs gs : List Nat} {nD : Nat} {D : DataW Value} {c : MCall} {r : List MCall}
theorem termM_1 {t : LTerm} (h : t.kind = 1) : termM m c t = m.top { c with at_ := 0, block := t.to } := by unfold termM; rw [if_pos h]
theorem termM_2 {t : LTerm} (h : t.kind = 2) : termM m c t = m.top { c with at_ := 0, block := if c.val t.a ≠ 0 then t.to else t.els } := by unfold termM; rw [if_neg (by omega), if_pos h]
theorem termM_3 {t : LTerm} (h : t.kind = 3) : termM m c t = MRun.pop m c.into (c.val t.a) := by unfold termM; rw [if_neg (by omega), if_neg (by omega), if_pos h]
theorem termM_4 {t : LTerm} (h : t.kind = 4) : termM m c t = (m.top { c with at_ := 0 }).stop 5 (c.val t.a) := by unfold termM; rw [if_neg (by omega), if_neg (by omega), if_neg (by omega), if_pos h]
theorem TopAt.at_ {cb vb : Nat} {bs vs : List Nat} {g cap : Nat} {A : Option Addr} {k : Nat} {bl at_ : Int} (h : RunAtX w base rb mb u A1 A2 c1 c2 m vin vcalls vout cbs vbs gs nD D) (hm : m.calls = c :: r) (t : TopAt w base rb vcalls vout cbs vbs c cb vb bs vs g cap A k) (hg : w.grownBy w' (some cb))
  (hb : CallBlk w' cb c.flow.name c.flow.params c.flow.values (.slice A c.flow.blocks.length k) (.slice (some ⟨vb, 0, none⟩) c.values.length c.values.length) bl at_ c.into) : RunAtX w' base rb mb u A1 A2 c1 c2 (m.top { c with block := bl, at_ := at_ }) vin vcalls vout cbs vbs gs nD D ∧ Chg w w' (base ≤ ·) := by
 obtain ⟨rfl, rfl⟩ := And.intro t.cbs_ t.vbs_
 exact h.at_ hm hg ⟨_, t.top.blk, rfl⟩ hb
theorem top_calls (hm : m.calls = c :: r) (c' : MCall) : (m.top c').calls = c' :: r := by simp [MRun.top, hm]
set_option maxHeartbeats 1000000 in
theorem pop_at (h : RunAtX w base rb mb u A1 A2 c1 c2 m vin vcalls vout cbs vbs gs nD D) (hl : Linked m.calls) (hm : m.calls = c :: r) (x : Int) :
  Calls Tryz.prog 101 #[.pointer (some ⟨rb, 0, none⟩), .int .i64 x] w (Done w base rb mb u A1 A2 c1 c2 (MRun.pop m c.into x)) := by
 obtain ⟨cb, vb, bs, vs, g, cap, A, k, t⟩ := h.open_top hm
 have hrun := h.run
 rw [t.calls] at hrun
 have hrow := t.row
 have hlen : r.length = bs.length := by have h1 := h.rest.len1; rw [hm, t.cbs_] at h1; simpa using h1.symm
 have h7 : w.cell? ⟨cb, 7, none⟩ = some (.int .i64 c.into) := t.blk.blk.cell 7
 have h0 := h
 rw [t.calls, t.cbs_, t.vbs_] at h0
 cases r with
 | nil =>
  obtain rfl : bs = [] := List.eq_nil_of_length_eq_zero (by simpa using hlen.symm)
  refine (pop_last base rb cap g cb c.into _ _ _ _ _ _ _ _ x w hrun t.room.1 hrow t.room.2 h7).mono fun e w' hp => ?_
  obtain ⟨he, h1, hg⟩ := hp
  have e1 : MRun.pop m c.into x = { m with calls := [], status := 1, code := x } := by unfold MRun.pop; rw [hm]; rfl
  rw [e1]
  obtain ⟨h3, h4⟩ := h0.tail (k := 0) hm rfl hg (m' := { m with calls := [], status := 1, code := x }) h1 rfl rfl rfl rfl
  exact ⟨he, h3.at', h4⟩
 | cons d r =>
  cases bs with
  | nil => simp at hlen
  | cons cb2 bs =>
   have hl2 := h.rest.len2
   cases vs with
   | nil => rw [hm, t.vbs_] at hl2; simp at hl2
   | cons vb2 vs =>
    have hrest := h0.rest
    rw [hm] at hrest
    obtain ⟨A', k', hc2⟩ := hrest.call 1 (by simp) (by simp) (by simp)
    simp only [List.getElem_cons_succ, List.getElem_cons_zero] at hc2
    rw [hm] at hl
    obtain ⟨⟨i0, i1⟩, _⟩ := hl
    have hn : c.into.toNat < d.values.length := by omega
    refine (pop_more base rb cap g cb cb2 vb2 d.values.length (bs.length + 1) c.into _ _ _ _ _ _ _ _ x bs w hrun hrow rfl t.room.1 t.room.2 h7 i0 i1 (hc2.blk.cell 4) ⟨d.values[c.into.toNat], by rw [hc2.vals.cell]; simp [hn]⟩ (hc2.vals.frozen _) (blk_ne hc2.blk h.run.blk (by decide)) (blk_ne hc2.vals h.run.blk (by decide)) t.ne5).mono fun e w' hp => ?_
    obtain ⟨he, w1, h1, hg, hw⟩ := hp
    obtain ⟨h3, h4⟩ := h0.tail (k := bs.length + 1) hm (by simp) hg (m' := { m with calls := d :: r }) h1 rfl rfl rfl rfl
    obtain ⟨h5, h6⟩ := h3.put (c := d) (r := r) rfl (grown_refl' w1 none) hw
    have e1 : MRun.pop m c.into x = MRun.top { m with calls := d :: r } (d.put c.into x) := by unfold MRun.pop; rw [hm]; rfl
    rw [e1]
    exact ⟨he, h5.at', h4.trans h6⟩
set_option maxHeartbeats 1000000 in
theorem term_at (h : RunAtX w base rb mb u A1 A2 c1 c2 m vin vcalls vout cbs vbs gs nD D) (hk : MOk u m) (hm : m.calls = c :: r) (x : LTerm) (hx : TermK c.flow.blocks.length c.flow.values x) :
  Calls Tryz.prog 76 #[.pointer (some ⟨rb, 0, none⟩), .agg #[.int .i64 x.kind, .int .i64 x.a, .int .i64 x.to, .int .i64 x.els]] w (Done w base rb mb u A1 A2 c1 c2 (termM m c x)) := by
 obtain ⟨cb, vb, bs, vs, g, cap, A, k, t⟩ := h.open_top hm
 have hrow := t.row
 have hblk := t.blk
 have hm1 : bs.length + 1 ≤ maxLen := Nat.le_trans t.room.1 t.room.2
 have hrun := h.run
 rw [t.calls] at hrun
 have hcv := (hk.calls c (by rw [hm]; simp)).vals
 have hkd := hx.kind
 have hA := hx.a
 rw [← hcv] at hA
 rcases (by omega : x.kind = 1 ∨ x.kind = 2 ∨ x.kind = 3 ∨ x.kind = 4) with e | e | e | e
 ·rw [termM_1 e, e]
  refine (term_jump base rb _ cap g cb _ _ _ _ _ _ _ _ bs _ _ _ _ _ _ _ _ _ _ _ w rfl hrun hrow hm1 hblk).mono fun _ _ hp => ?_
  obtain ⟨he, h1, hg⟩ := hp
  obtain ⟨h2, h3⟩ := t.at_ h hm hg h1
  exact ⟨he, h2.at', h3⟩
 ·have ha := hA (by omega)
  rw [termM_2 e, e]
  refine (term_if base rb _ cap g cb _ _ _ _ _ _ _ _ bs _ _ _ _ vb _ _ _ _ _ _ _ _ w rfl hrun hrow hm1 hblk ha.1 ha.2 (t.val ha.1 ha.2).1 t.ne2 _ rfl).mono fun _ _ hp => ?_
  obtain ⟨he, h1, hg⟩ := hp
  obtain ⟨h2, h3⟩ := t.at_ h hm hg h1
  exact ⟨he, h2.at', h3⟩
 ·have ha := hA (by omega)
  rw [termM_3 e, e]
  have hl := hk.linked
  rw [hm] at hl
  refine (term_ret base rb _ cap g cb _ _ _ _ _ _ _ _ bs _ _ _ _ vb _ _ _ _ _ _ _ _ w rfl hrun hrow hm1 hblk ha.1 ha.2 (t.val ha.1 ha.2).1 t.ne2 t.ne3 (fun _ w' => Done w base rb mb u A1 A2 c1 c2 (MRun.pop m c.into (c.val x.a)) (.returned (.tuple #[])) w') (fun W2 h1 hg _ => ?_)).mono fun _ _ hp => ?_
  ·obtain ⟨h2, h3⟩ := t.at_ h hm hg h1
   have hP := pop_at h2 (by rw [top_calls hm]; exact hl.top rfl) (top_calls hm _) (c.val x.a)
   have e1 : MRun.pop (m.top { c with block := c.block, at_ := 0 }) c.into (c.val x.a) = MRun.pop m c.into (c.val x.a) := by unfold MRun.pop; rw [top_calls hm, hm]; rfl
   rw [e1] at hP
   exact hP.mono fun _ _ hp => ⟨hp.1, rfl, hp.2.1, h3.trans hp.2.2⟩
  ·obtain ⟨he, w1, _, _, _, hq⟩ := hp
   exact ⟨he, hq.2⟩
 ·have ha := hA (by omega)
  rw [termM_4 e, e]
  refine (term_trap base rb _ cap g cb _ _ _ _ _ _ _ _ bs _ _ _ _ vb _ _ _ _ _ _ _ _ w rfl hrun hrow hm1 hblk ha.1 ha.2 (t.val ha.1 ha.2).1 t.ne2 t.ne3).mono fun _ _ hp => ?_
  obtain ⟨he, w1, h1, hg, h2, hg2⟩ := hp
  obtain ⟨h3, h4⟩ := t.at_ h hm hg h1
  rw [← t.calls] at h2
  obtain ⟨h5, h6⟩ := h3.stop hg2 h2
  exact ⟨he, h5.at', h4.trans h6⟩
set_option maxHeartbeats 1000000 in
theorem step_at (hu : UnitOk u) (h : RunAt w base rb mb u A1 A2 c1 c2 m) (hk : MOk u m) (hm0 : m.status = 0) (hout : m.out.length ≤ 100000) :
  Calls Tryz.prog 37 #[.pointer (some ⟨rb, 0, none⟩)] w (Done w base rb mb u A1 A2 c1 c2 (stepM u m)) := by
 obtain ⟨vin, vcalls, vout, cbs, vbs, gs, nD, D, h⟩ := h
 cases hm : m.calls with
 | nil => exact absurd hm (hk.ne hm0)
 | cons c r =>
  have hc := hk.calls c (by rw [hm]; simp)
  obtain ⟨hb, hbe⟩ := hc.block_at
  obtain ⟨ht, hi⟩ := block_ok hu hc.flow (List.getElem_mem hb)
  have hlen := hu.lens c.flow hc.flow _ (List.getElem_mem hb)
  have ha0 := hc.a0
  have ha1 := hc.a1 _ hbe
  have hb0 := hc.b0
  have hb1 := hc.b1
  obtain ⟨cb, vb, bs, vs, g, cap, A, k, t⟩ := h.open_top hm
  have hrow := t.row
  have hblk := t.blk
  have hm1 : bs.length + 1 ≤ maxLen := Nat.le_trans t.room.1 t.room.2
  have hrun := h.run
  rw [t.calls] at hrun
  obtain ⟨bb, bo, k', hform, _, _, hbb, hel⟩ := t.top.blocks.form (by omega)
  obtain ⟨rfl, rfl⟩ : A = some ⟨bb, bo, none⟩ ∧ k = k' := by injection hform with h1 _ h2; exact ⟨h1, h2⟩
  obtain ⟨bcs, _, ⟨vi, hbcs, hins⟩, hcell⟩ := hel c.block.toNat hb
  obtain ⟨Ai, ki, hvi, _, _⟩ := hins.val
  subst hvi hbcs
  generalize hbk : c.flow.blocks[c.block.toNat] = b at *
  by_cases hat : c.at_ = (b.ins.length : Int)
  ·have e1 : stepM u m = termM m c b.term := by unfold stepM; rw [hm]; simp only []; rw [hbe]; simp only []; rw [if_pos hat]
   rw [e1]
   refine (step_term base rb _ cap g cb bb bo _ _ b.ins.length ki _ _ _ _ _ _ _ _ bs _ _ _ _ Ai _ _ _ b.term.kind b.term.a b.term.to b.term.els w rfl hrun hrow hm1 hblk hb0 hb1 hcell hat (fun _ w' => Done w base rb mb u A1 A2 c1 c2 (termM m c b.term) (.returned (.tuple #[])) w') (fun W hW => ?_)).mono fun _ _ hp => ?_
   ·exact (term_at (h.grown hW) hk hm b.term (termK_of ht)).mono fun _ _ hp => ⟨hp.1, rfl, hp.2.1, (Chg.of_grown hW (fun k e _ => by cases e)).trans hp.2.2⟩
   ·obtain ⟨he, W, _, hq⟩ := hp
    exact ⟨he, hq.2⟩
  ·have hlt : c.at_.toNat < b.ins.length := by omega
   have hxe : b.ins[c.at_.toNat]? = some b.ins[c.at_.toNat] := List.getElem?_eq_getElem hlt
   have e1 : stepM u m = insM u (m.top { c with at_ := c.at_ + 1 }) { c with at_ := c.at_ + 1 } b.ins[c.at_.toNat] := by unfold stepM; rw [hm]; simp only []; rw [hbe]; simp only []; rw [if_neg hat, hxe]
   rw [e1]
   have hxk := insK_of (hi _ (List.getElem_mem hlt))
   obtain ⟨bi, bo2, ki', hform2, _, _, hbi, hel2⟩ := hins.form (by omega)
   obtain ⟨rfl, rfl⟩ : Ai = some ⟨bi, bo2, none⟩ ∧ ki = ki' := by injection hform2 with h1 _ h2; exact ⟨h1, h2⟩
   obtain ⟨ics, _, ⟨va, hics, hargs⟩, hcell2⟩ := hel2 c.at_.toNat hlt
   obtain ⟨Aa, ca, hva, _, _⟩ := hargs.val
   subst hva hics
   generalize b.ins[c.at_.toNat] = x at *
   have hbk1 := hk.ahead hm hbe hat
   refine (step_ins base rb _ cap g cb bb bo _ _ b.ins.length ki _ _ _ _ _ _ _ _ bs _ _ _ _ _ _ _ _ b.term.kind b.term.a b.term.to b.term.els w rfl hrun hrow hm1 hblk hb0 hb1 hcell bi bo2 rfl ha0 (by omega) hlen (by have := t.top.cge; omega) x.kind x.d x.a x.b x.op x.n x.name Aa x.args.length ca hcell2
    (fun _ w' => Done w base rb mb u A1 A2 c1 c2 (insM u (m.top { c with at_ := c.at_ + 1 }) { c with at_ := c.at_ + 1 } x) (.returned (.tuple #[])) w') (fun W1 W hW hg hcb => ?_)).mono fun _ _ hp => ?_
   ·have h1 := h.grown hW
    obtain ⟨cb', vb', bs', vs', g', cap', A', k', t'⟩ := h1.open_top hm
    have ecb : cb = cb' := by have e := t.cbs_; rw [t'.cbs_] at e; injection e with e; exact e.symm
    have evb : vb = vb' := by have e := t.vbs_; rw [t'.vbs_] at e; injection e with e; exact e.symm
    subst ecb evb
    have eA : Value.slice A' c.flow.blocks.length k' = .slice (some ⟨bb, bo, none⟩) c.flow.blocks.length k := by
     have e1 := t'.top.blk.cell 3
     have e2 := (t.top.blk.grown hW (by simp)).cell 3
     rw [e1] at e2
     injection e2
    rw [← eA] at hcb
    obtain ⟨h2, h3⟩ := t'.at_ h1 hm hg hcb
    have hP := ins_at hu (c := { c with at_ := c.at_ + 1 }) (r := r) h2 hbk1.1 (top_calls hm _) hout x hxk Aa ca (hargs.imp (fun _ h => h) (fun b hb => (hg.block b (Nat.lt_of_lt_of_le hb h1.bw) (fun e => by injection e with e; have := t.top.cge; omega)).trans (hW.block b (Nat.lt_of_lt_of_le hb h.bw) (by simp))) (fun _ _ _ r => r))
    exact hP.mono fun _ _ hp => ⟨hp.1, rfl, hp.2.1, ((Chg.of_grown hW (fun k e _ => by cases e)).trans h3).trans hp.2.2⟩
   ·obtain ⟨he, W1, W, _, _, _, hq⟩ := hp
    exact ⟨he, hq.2⟩
end
end Go.Proofs.YtkpigkopjfkepaaGreatDoor
