/- A step of irrun makes of the run's state what the plain step makes of it. -/
import Derived.Test.YtknccacfhknnaaaRunStep
import Derived.Test.YtknccacfhknnaaaRunOk
namespace Go.Proofs.Ytknccacfhknnaaa
open Go.RowKit

theorem own_slice {w : World} {base : Nat} {e : TypeId} {size : Nat} {v : Value} {n : Nat} {xs : List Value} (h : w.ownsRow base e size v (n + 1) xs) : ∃ g cap, v = .slice (some ⟨g, 0, none⟩) (n + 1) cap ∧ n + 1 ≤ cap ∧ cap ≤ maxLen := by
  rcases h.2 with ⟨_, hn⟩ | ⟨g, cap, cur, hv, _, _, h1, h2, _⟩
  · omega
  · exact ⟨g, cap, hv, h1, h2⟩
/-- the call that goes on last, opened -/
structure TopAt (w : World) (base rb : Nat) (vcalls vout : Value) (cbs vbs : List Nat) (c : MCall) (cb vb : Nat) (bs vs : List Nat) (g cap : Nat) (A : Option Addr) (k : Nat) : Prop where
  cbs_ : cbs = cb :: bs
  vbs_ : vbs = vb :: vs
  calls : vcalls = .slice (some ⟨g, 0, none⟩) (bs.length + 1) cap
  room : bs.length + 1 ≤ cap ∧ cap ≤ maxLen
  row : w.ownsRow base 113 1 (.slice (some ⟨g, 0, none⟩) (bs.length + 1) cap) (bs.length + 1) ((cb :: bs).reverse.map fun b => .pointer (some ⟨b, 0, none⟩))
  top : CallAt w base cb vb c A k
  blk : CallBlk w cb c.flow.name c.flow.params c.flow.values (.slice A c.flow.blocks.length k) (.slice (some ⟨vb, 0, none⟩) c.values.length c.values.length) c.block c.at_ c.into
  ne1 : vb ≠ rb
  ne2 : vb ≠ cb
  ne3 : cb ≠ rb
  ne4 : vout.ownBlock ≠ some vb
  ne5 : g ≠ rb
section
variable {w w' : World} {base rb mb : Nat} {u : LUnit} {A1 A2 : Option Addr} {c1 c2 : Nat} {m : MRun} {vin vcalls vout : Value} {cbs vbs gs : List Nat} {nD : Nat} {D : DataW Value} {c : MCall} {r : List MCall}
theorem RunAtX.open_top (h : RunAtX w base rb mb u A1 A2 c1 c2 m vin vcalls vout cbs vbs gs nD D) (hm : m.calls = c :: r) : ∃ cb vb bs vs g cap A k, TopAt w base rb vcalls vout cbs vbs c cb vb bs vs g cap A k := by
  have hrest := h.rest
  rw [hm] at hrest
  have h1 := hrest.len1
  have h2 := hrest.len2
  cases cbs with
  | nil => simp at h1
  | cons cb bs =>
    cases vbs with
    | nil => simp at h2
    | cons vb vs =>
      obtain ⟨A, k, hc⟩ := hrest.call 0 (by simp) (by simp) (by simp)
      simp only [List.getElem_cons_zero] at hc
      have hrow := hrest.row
      simp only [List.length_cons] at hrow
      obtain ⟨g, cap, hv, hr1, hr2⟩ := own_slice hrow
      subst hv
      refine ⟨cb, vb, bs, vs, g, cap, A, k, rfl, rfl, rfl, ⟨hr1, hr2⟩, hrow, hc, ⟨hc.blk⟩, blk_ne hc.vals h.run.blk (by decide), blk_ne hc.vals hc.blk (by decide), blk_ne hc.blk h.run.blk (by decide), fun e => hrest.outv vb e (by simp), fun e => ?_⟩
      exact own_ne hrow h.run.blk (by decide) (by rw [← e]; rfl)
theorem TopAt.val {cb vb : Nat} {bs vs : List Nat} {g cap : Nat} {A : Option Addr} {k : Nat} (t : TopAt w base rb vcalls vout cbs vbs c cb vb bs vs g cap A k) {n : Int} (h0 : 0 ≤ n) (h1 : n < (c.values.length : Int)) : w.cell? ⟨vb, n.toNat, none⟩ = some (.int .i64 (c.val n)) ∧ w.frozen? ⟨vb, n.toNat, none⟩ = false := by
  refine ⟨?_, t.top.vals.frozen _⟩
  rw [t.top.vals.cell]
  have h2 : n.toNat < c.values.length := by omega
  simp [MCall.val, h2]

/-- what an instruction makes of the run, kind by kind -/
theorem insM_1 {x : LIns} (h : x.kind = 1) : insM u m c x = m.top (c.put x.d x.n) := by unfold insM; rw [if_pos h]
theorem insM_2 {x : LIns} (h : x.kind = 2) : insM u m c x = m.top (c.put x.d (c.val x.a)) := by unfold insM; rw [if_neg (by omega), if_pos h]
theorem insM_3 {x : LIns} (h : x.kind = 3) : insM u m c x = m.top (c.put x.d (Ar.one x.op (c.val x.a))) := by unfold insM; rw [if_neg (by omega), if_neg (by omega), if_pos h]
theorem insM_4 {x : LIns} (h : x.kind = 4) : insM u m c x = (if Ar.twoOk x.op (c.val x.b) = true then m.top (c.put x.d (Ar.two x.op (c.val x.a) (c.val x.b))) else m.stop 2 0) := by unfold insM; rw [if_neg (by omega), if_neg (by omega), if_neg (by omega), if_pos h]
theorem insM_5 {x : LIns} (h : x.kind = 5) : insM u m c x = (if 0 ≤ c.val x.a ∧ c.val x.a < (m.arr x.name).length then m.top (c.put x.d ((m.arr x.name).getD (c.val x.a).toNat 0)) else m.stop 3 0) := by unfold insM; rw [if_neg (by omega), if_neg (by omega), if_neg (by omega), if_neg (by omega), if_pos h]
theorem insM_6 {x : LIns} (h : x.kind = 6) : insM u m c x = (if 0 ≤ c.val x.a ∧ c.val x.a < (m.arr x.name).length then { m with arrays := setArr m.arrays x.name (c.val x.a).toNat (c.val x.b) } else m.stop 3 0) := by unfold insM; rw [if_neg (by omega), if_neg (by omega), if_neg (by omega), if_neg (by omega), if_neg (by omega), if_pos h]
theorem insM_7 {x : LIns} (h : x.kind = 7) : insM u m c x = { m.top (c.put x.d (m.inp.headD (-1))) with inp := m.inp.tail } := by unfold insM; rw [if_neg (by omega), if_neg (by omega), if_neg (by omega), if_neg (by omega), if_neg (by omega), if_neg (by omega), if_pos h]
theorem insM_8 {x : LIns} (h : x.kind = 8) : insM u m c x = { m with out := m.out ++ [c.val x.a] } := by unfold insM; rw [if_neg (by omega), if_neg (by omega), if_neg (by omega), if_neg (by omega), if_neg (by omega), if_neg (by omega), if_neg (by omega), if_pos h]
theorem insM_9 {x : LIns} (h : x.kind = 9) : insM u m c x = (if m.calls.length ≥ 50 then m.stop 4 0 else m.push u x.name (x.args.map c.val) x.d) := by unfold insM; rw [if_neg (by omega), if_neg (by omega), if_neg (by omega), if_neg (by omega), if_neg (by omega), if_neg (by omega), if_neg (by omega), if_neg (by omega), if_pos h]
/-- an array of the run by its name -/
theorem arr_place (hk : MOk u m) (hu : UnitOk u) {s : ByteArray} (hs : ∃ (i : Nat) (h : i < u.arrays.length), u.arrays[i].1 = s) : ∃ (i : Nat) (h : i < m.arrays.length), m.arrays[i].1 = s ∧ m.arr s = m.arrays[i].2 ∧ (m.arrays.map (·.1)).Nodup := by
  obtain ⟨i, hi, hn⟩ := hs
  have hl : m.arrays.length = u.arrays.length := by have h := congrArg List.length hk.names; simpa using h
  have hnd : (m.arrays.map (·.1)).Nodup := by
    rw [hk.names]
    have h := hu.nodup
    unfold allNames at h
    exact (List.nodup_append.1 h).1
  have hi' : i < m.arrays.length := by omega
  have e : m.arrays[i].1 = s := by
    have h1 : (m.arrays.map (·.1))[i]'(by simpa using hi') = (u.arrays.map (·.1))[i]'(by simpa using hi) := by simp only [hk.names]
    rw [← hn]
    simpa using h1
  exact ⟨i, hi', e, by rw [← e]; exact MRun.arr_at hnd hi', hnd⟩

abbrev Done (w : World) (base rb mb : Nat) (u : LUnit) (A1 A2 : Option Addr) (c1 c2 : Nat) (m : MRun) (e : Ending) (w' : World) : Prop := e = .returned (.tuple #[]) ∧ RunAt w' base rb mb u A1 A2 c1 c2 m ∧ Chg w w' (base ≤ ·)
theorem RunAtX.at' (h : RunAtX w base rb mb u A1 A2 c1 c2 m vin vcalls vout cbs vbs gs nD D) : RunAt w base rb mb u A1 A2 c1 c2 m := ⟨_, _, _, _, _, _, _, _, h⟩
theorem put_done {cb vb : Nat} {bs vs : List Nat} {g cap : Nat} {A : Option Addr} {k : Nat} (h : RunAtX w base rb mb u A1 A2 c1 c2 m vin vcalls vout cbs vbs gs nD D) (hm : m.calls = c :: r) (t : TopAt w base rb vcalls vout cbs vbs c cb vb bs vs g cap A k) {d v : Int} {e : Ending} (hp : PutPost vb d v w e w') : Done w base rb mb u A1 A2 c1 c2 (m.top (c.put d v)) e w' := by
  obtain ⟨he, w1, hg, hw⟩ := hp
  obtain ⟨rfl, rfl⟩ := And.intro t.cbs_ t.vbs_
  obtain ⟨h1, h2⟩ := h.put hm hg hw
  exact ⟨he, h1.at', h2⟩
theorem stop_done (h : RunAtX w base rb mb u A1 A2 c1 c2 m vin vcalls vout cbs vbs gs nD D) {s co : Int} {e : Ending} (he : e = .returned (.tuple #[])) (hg : w.grownBy w' (some rb)) (h1 : RunBlk w' rb (.slice A1 u.arrays.length c1) (.slice A2 u.flows.length c2) (.map (some mb)) vin vcalls s co vout m.steps) : Done w base rb mb u A1 A2 c1 c2 (m.stop s co) e w' := by
  obtain ⟨h2, h3⟩ := h.stop hg h1
  exact ⟨he, h2.at', h3⟩

theorem find_idx {α : Type} (p : α → Bool) : ∀ (l : List α) (g : α), l.find? p = some g → ∃ (h : l.findIdx p < l.length), l[l.findIdx p] = g ∧ l.any p = true
  | [], g, h => by simp at h
  | a :: r, g, h => by
    by_cases ha : p a = true
    · rw [List.find?_cons_of_pos ha] at h
      injection h with h
      subst h
      exact ⟨by simp [List.findIdx_cons, ha], by simp [List.findIdx_cons, ha], by simp [ha]⟩
    · rw [List.find?_cons_of_neg ha] at h
      obtain ⟨h1, h2, h3⟩ := find_idx p r g h
      have ha' : p a = false := by simpa using ha
      have e : (a :: r).findIdx p = r.findIdx p + 1 := by simp [List.findIdx_cons, ha']
      refine ⟨by rw [e]; simpa using h1, ?_, by simp [ha', h3]⟩
      have : (a :: r)[r.findIdx p + 1]'(by simpa using h1) = g := by simpa using h2
      simpa only [e] using this
theorem find_place {u : LUnit} {s : ByteArray} {g : LFlow} (h : u.flows.find? (fun f => decide (f.name = s)) = some g) : ∃ (i : Nat) (hi : i < u.flows.length), placeU u s = (i : Int) ∧ u.flows[i] = g := by
  obtain ⟨h1, h2, h3⟩ := find_idx _ _ _ h
  refine ⟨_, h1, ?_, h2⟩
  unfold placeU findI
  rw [if_pos h3]
theorem name_len {u : LUnit} (hu : UnitOk u) {i : Nat} (hi : i < u.arrays.length) : u.arrays[i].1.size ≤ maxLen := by
  have h := hu.good u.arrays[i].1 (by unfold allNames; exact List.mem_append_left _ (List.mem_map.2 ⟨_, List.getElem_mem hi, rfl⟩))
  unfold NameG at h
  rcases h with h | h | h | h | h <;> rw [h] <;> decide
theorem push_at (hu : UnitOk u) (h : RunAtX w base rb mb u A1 A2 c1 c2 m vin vcalls vout cbs vbs gs nD D) (hd : m.calls.length ≤ 50) {s : ByteArray} {f : LFlow} (hf : u.flows.find? (fun f => decide (f.name = s)) = some f) (args : List Int) (Ar : Option Addr) (cr : Nat) (into : Int) (hsr : SlR w (fun _ => True) 1 RInt (.slice Ar args.length cr) args) (hal : (args.length : Int) ≤ f.values) :
    Calls Try.prog 34 #[.pointer (some ⟨rb, 0, none⟩), .string s, .slice Ar args.length cr, .int .i64 into] w (Done w base rb mb u A1 A2 c1 c2 (m.push u s args into)) := by
  obtain ⟨i, hi, hpl, hfi⟩ := find_place hf
  obtain ⟨f1, f2, f3, f4, f5, f6⟩ := flow_ok hu (List.mem_of_find?_eq_some hf)
  have hfl := hu.fls
  obtain ⟨mm, hmm⟩ : ∃ mm : Nat, f.values = (mm : Int) := ⟨f.values.toNat, by omega⟩
  have hvf : u.flows[i].values = (mm : Int) := by rw [hfi]; exact hmm
  have hcl : cbs.length ≤ 60 := by have := h.rest.len1; omega
  have hP := push_any base rb cbs.length c1 c2 i mm u A1 A2 _ _ _ _ _ _ _ into s _ Ar cr args w h.run h.rest.flows h.bw h.rge hi hpl hvf (by omega) hfl h.rest.row hcl hsr (by omega)
  refine hP.mono fun e w' hp => ?_
  obtain ⟨he, cb', vb', g', cap', Ab, kb, hp⟩ := hp
  rw [hfi] at hp
  obtain ⟨h3, h4⟩ := h.push hmm hp
  refine ⟨he, ?_, h4⟩
  have e1 : m.push u s args into = { m with calls := newCall f args into :: m.calls } := by unfold MRun.push; rw [hf]
  rw [e1]
  exact h3.at'
set_option maxRecDepth 100000 in
set_option maxHeartbeats 1000000 in
theorem ins_at (hu : UnitOk u) (h : RunAtX w base rb mb u A1 A2 c1 c2 m vin vcalls vout cbs vbs gs nD D) (hk : MOk u m) (hm : m.calls = c :: r) (hout : m.out.length ≤ 100000) (x : LIns) (hx : InsK u c.flow.values x) (Aa : Option Addr) (ca : Nat) (hargs : SlR w (· < base) 1 RInt (.slice Aa x.args.length ca) x.args) :
    Calls Try.prog 61 #[.pointer (some ⟨rb, 0, none⟩), .agg #[.int .i64 x.kind, .int .i64 x.d, .int .i64 x.a, .int .i64 x.b, .int .i64 x.op, .int .i64 x.n, .string x.name, .slice Aa x.args.length ca]] w (Done w base rb mb u A1 A2 c1 c2 (insM u m c x)) := by
  obtain ⟨cb, vb, bs, vs, g, cap, A, k, t⟩ := h.open_top hm
  have hrow := t.row
  have hblk := t.blk
  have hm1 : bs.length + 1 ≤ maxLen := Nat.le_trans t.room.1 t.room.2
  have hrun := h.run
  rw [t.calls] at hrun
  have hcv := (hk.calls c (by rw [hm]; simp)).vals
  have hkd := hx.kind
  have hD := hx.d
  have hA := hx.a
  have hB := hx.b
  rw [← hcv] at hD hA hB
  rcases (by omega : x.kind = 1 ∨ x.kind = 2 ∨ x.kind = 3 ∨ x.kind = 4 ∨ x.kind = 5 ∨ x.kind = 6 ∨ x.kind = 7 ∨ x.kind = 8 ∨ x.kind = 9) with e | e | e | e | e | e | e | e | e
  · have hd := hD (by rw [e]; decide)
    rw [insM_1 e, e]
    exact (ins_num base rb _ cap g cb _ _ _ _ _ _ _ _ bs _ _ _ _ vb _ _ _ _ _ _ _ _ _ _ _ _ _ _ w rfl hrun hrow hm1 hblk hd.1 hd.2 (t.val hd.1 hd.2).1 (t.val hd.1 hd.2).2).mono fun _ _ hp => put_done h hm t hp
  · have hd := hD (by rw [e]; decide)
    have ha := hA (by rw [e]; decide)
    rw [insM_2 e, e]
    exact (ins_move base rb _ cap g cb _ _ _ _ _ _ _ _ bs _ _ _ _ vb _ _ _ _ _ _ _ _ _ _ _ _ _ _ _ w rfl hrun hrow hm1 hblk hd.1 hd.2 (t.val hd.1 hd.2).1 (t.val hd.1 hd.2).2 ha.1 ha.2 (t.val ha.1 ha.2).1).mono fun _ _ hp => put_done h hm t hp
  · have hd := hD (by rw [e]; decide)
    have ha := hA (by rw [e]; decide)
    rw [insM_3 e, e]
    exact (ins_one base rb _ cap g cb _ _ _ _ _ _ _ _ bs _ _ _ _ vb _ _ _ _ _ _ _ _ _ _ _ _ _ _ _ w rfl hrun hrow hm1 hblk hd.1 hd.2 (t.val hd.1 hd.2).1 (t.val hd.1 hd.2).2 ha.1 ha.2 (t.val ha.1 ha.2).1).mono fun _ _ hp => put_done h hm t hp
  · have hd := hD (by rw [e]; decide)
    have ha := hA (by rw [e]; decide)
    have hb := hB (by rw [e]; decide)
    rw [insM_4 e, e]
    cases hok : Ar.twoOk x.op (c.val x.b) with
    | true =>
      rw [if_pos rfl]
      exact (ins_two base rb _ cap g cb _ _ _ _ _ _ _ _ bs _ _ _ _ vb _ _ _ _ _ _ _ _ _ _ _ _ _ _ _ _ w rfl hrun hrow hm1 hblk hd.1 hd.2 (t.val hd.1 hd.2).1 (t.val hd.1 hd.2).2 ha.1 ha.2 (t.val ha.1 ha.2).1 hb.1 hb.2 (t.val hb.1 hb.2).1 hok).mono fun _ _ hp => put_done h hm t hp
    | false =>
      rw [if_neg (by simp)]
      refine (ins_div base rb _ cap g cb _ _ _ _ _ _ _ _ bs _ _ _ _ vb _ _ _ _ _ _ _ _ _ _ _ _ _ _ _ w rfl hrun hrow hm1 hblk ha.1 ha.2 (t.val ha.1 ha.2).1 hb.1 hb.2 (t.val hb.1 hb.2).1 hok).mono fun _ _ hp => ?_
      obtain ⟨he, h1, hg⟩ := hp
      rw [← t.calls] at h1
      exact stop_done h he hg h1
  · have hd := hD (by rw [e]; decide)
    have ha := hA (by rw [e]; decide)
    obtain ⟨i, hi, hn, harr, hnd⟩ := arr_place hk hu (hx.arr (.inl e))
    have hig : i < gs.length := by have := h.arrs.len; omega
    have hsz : m.arrays[i].1.size ≤ maxLen := by
      have hi' : i < u.arrays.length := by have h := congrArg List.length hk.names; simp at h; omega
      have h1 : m.arrays[i].1 = u.arrays[i].1 := by
        have h1 : (m.arrays.map (·.1))[i]'(by simpa using hi) = (u.arrays.map (·.1))[i]'(by simpa using hi') := by simp only [hk.names]
        simpa using h1
      rw [h1]; exact name_len hu hi'
    have hel : ∀ W, w.grownBy W none → _ := fun W hW => (h.grown hW).arrs.look hi hig hsz
    rw [insM_5 e, e, harr]
    rw [hn] at hel
    by_cases hin : 0 ≤ c.val x.a ∧ c.val x.a < (m.arrays[i].2.length : Int)
    · rw [if_pos hin]
      have hlt : (c.val x.a).toNat < m.arrays[i].2.length := by omega
      have hgc : w.cell? ⟨gs[i], (c.val x.a).toNat, none⟩ = some (.int .i64 (m.arrays[i].2.getD (c.val x.a).toNat 0)) := by
        rw [(h.arrs.each i hi hig).2.1.cell]
        simp [hlt]
      exact (ins_load base rb _ cap g cb _ _ _ _ _ _ _ _ bs _ _ _ _ vb _ _ _ _ _ _ _ _ _ _ _ _ _ _ _ _ gs[i] (c.val x.a).toNat w rfl hrun hrow hm1 hblk hd.1 hd.2 (t.val hd.1 hd.2).1 (t.val hd.1 hd.2).2 ha.1 ha.2 (t.val ha.1 ha.2).1
        (fun W hW => element_in rb mb gs[i] _ _ _ _ _ _ _ _ _ _ _ W (h.grown hW).run (hel W hW) hin.1 hin.2) hgc).mono fun _ _ hp => put_done h hm t hp
    · rw [if_neg hin]
      refine (ins_load_out base rb _ cap g cb _ _ _ _ _ _ _ _ bs _ _ _ _ vb _ _ _ _ _ _ _ _ _ _ _ _ _ _ w rfl hrun hrow hm1 hblk ha.1 ha.2 (t.val ha.1 ha.2).1 (fun W hW => element_out rb mb gs[i] _ _ _ _ _ _ _ _ _ _ _ W (by have h1 := (h.grown hW).run; rw [t.calls] at h1; exact h1) (hel W hW) (by omega)) t.ne1).mono fun _ _ hp => ?_
      obtain ⟨he, h1, hg⟩ := hp
      rw [← t.calls] at h1
      exact stop_done h he hg h1
  · have ha := hA (by rw [e]; decide)
    have hb := hB (by rw [e]; decide)
    obtain ⟨i, hi, hn, harr, hnd⟩ := arr_place hk hu (hx.arr (.inr e))
    have hig : i < gs.length := by have := h.arrs.len; omega
    have hsz : m.arrays[i].1.size ≤ maxLen := by
      have hi' : i < u.arrays.length := by have h := congrArg List.length hk.names; simp at h; omega
      have h1 : m.arrays[i].1 = u.arrays[i].1 := by
        have h1 : (m.arrays.map (·.1))[i]'(by simpa using hi) = (u.arrays.map (·.1))[i]'(by simpa using hi') := by simp only [hk.names]
        simpa using h1
      rw [h1]; exact name_len hu hi'
    have hel : ∀ W, w.grownBy W none → _ := fun W hW => (h.grown hW).arrs.look hi hig hsz
    rw [insM_6 e, e, harr]
    rw [hn] at hel
    by_cases hin : 0 ≤ c.val x.a ∧ c.val x.a < (m.arrays[i].2.length : Int)
    · rw [if_pos hin]
      have hlt : (c.val x.a).toNat < m.arrays[i].2.length := by omega
      have hgc : w.cell? ⟨gs[i], (c.val x.a).toNat, none⟩ = some (.int .i64 (m.arrays[i].2.getD (c.val x.a).toNat 0)) := by
        rw [(h.arrs.each i hi hig).2.1.cell]
        simp [hlt]
      refine (ins_store base rb _ cap g cb _ _ _ _ _ _ _ _ bs _ _ _ _ vb _ _ _ _ _ _ _ _ _ _ _ _ _ _ _ _ gs[i] (c.val x.a).toNat w rfl hrun hrow hm1 hblk ha.1 ha.2 (t.val ha.1 ha.2).1 hb.1 hb.2 (t.val hb.1 hb.2).1
        (fun W hW => element_in rb mb gs[i] _ _ _ _ _ _ _ _ _ _ _ W (h.grown hW).run (hel W hW) hin.1 hin.2) hgc ((h.arrs.each i hi hig).2.1.frozen _)).mono fun _ _ hp => ?_
      obtain ⟨he, w1, hg, hw⟩ := hp
      obtain ⟨h2, h3⟩ := h.store hg hi hig hw
      rw [hn] at h2
      exact ⟨he, h2.at', h3⟩
    · rw [if_neg hin]
      refine (ins_store_out base rb _ cap g cb _ _ _ _ _ _ _ _ bs _ _ _ _ vb _ _ _ _ _ _ _ _ _ _ _ _ _ _ w rfl hrun hrow hm1 hblk ha.1 ha.2 (t.val ha.1 ha.2).1 (fun W hW => element_out rb mb gs[i] _ _ _ _ _ _ _ _ _ _ _ W (by have h1 := (h.grown hW).run; rw [t.calls] at h1; exact h1) (hel W hW) (by omega)) t.ne1).mono fun _ _ hp => ?_
      obtain ⟨he, h1, hg⟩ := hp
      rw [← t.calls] at h1
      exact stop_done h he hg h1
  · have hd := hD (by rw [e]; decide)
    rw [insM_7 e, e]
    refine (ins_read base rb _ cap g cb _ _ _ _ _ _ _ _ bs _ _ _ _ vb _ _ _ _ _ _ _ _ _ _ _ _ _ _ w rfl hrun hrow hm1 hblk hd.1 hd.2 (t.val hd.1 hd.2).1 (t.val hd.1 hd.2).2 m.inp h.rest.inp h.bw h.rge t.ne1).mono fun _ _ hp => ?_
    obtain ⟨he, w1, vin', h1, hg, hin, hw⟩ := hp
    rw [← t.calls] at h1
    obtain ⟨h2, h3⟩ := h.own hg (m' := { m with inp := m.inp.tail }) h1 rfl rfl rfl hin
    obtain ⟨rfl, rfl⟩ := And.intro t.cbs_ t.vbs_
    obtain ⟨h4, h5⟩ := h2.put (c := c) (r := r) hm (grown_refl' w1 none) hw
    refine ⟨he, ?_, h3.trans h5⟩
    exact h4.at'
  · have ha := hA (by rw [e]; decide)
    rw [insM_8 e, e]
    refine (ins_print base rb _ cap g cb _ _ _ _ _ _ _ _ bs _ _ _ _ vb _ _ _ _ _ _ _ _ _ _ _ _ _ _ m.out.length _ w rfl hrun hrow hm1 hblk ha.1 ha.2 (t.val ha.1 ha.2).1 h.rest.out hout h.bw t.ne4).mono fun _ _ hp => ?_
    obtain ⟨he, g', cap', h1, h2, h3, h4⟩ := hp
    rw [← t.calls] at h1
    obtain ⟨h5, h6⟩ := h.print h1 h2 h3 h4
    exact ⟨he, h5.at', h6⟩
  · rw [insM_9 e, e]
    have hlen : m.calls.length = bs.length + 1 := by have := h.rest.len1; rw [t.cbs_] at this; simpa using this.symm
    by_cases h50 : m.calls.length ≥ 50
    · rw [if_pos h50]
      refine (ins_call base rb _ cap g cb _ _ _ _ _ _ _ _ bs _ _ _ _ vb _ _ _ _ _ _ _ _ _ _ _ _ _ w rfl hrun hrow hm1 hblk (fun W w' => RunBlk w' rb _ _ _ _ _ _ _ _ _ ∧ W.grownBy w' (some rb)) (fun W hW => enter_out rb _ cap g cb _ _ _ _ _ _ _ _ _ _ _ _ _ _ _ _ _ W (by omega) ⟨hrun.blk.grown hW (by simp)⟩)).mono fun _ _ hp => ?_
      obtain ⟨he, w1, hg, h1, hg2⟩ := hp
      rw [← t.calls] at h1
      exact stop_done h he ((⟨hg.os, hg.tape, hg.output, hg.size, fun k hk _ => hg.block k hk (by simp)⟩ : w.grownBy w1 (some rb)).trans hg2) h1
    · rw [if_neg h50]
      obtain ⟨f, hf, hpar, hal⟩ := hx.call e
      obtain ⟨f1, f2, f3, f4, f5, f6⟩ := flow_ok hu (List.mem_of_find?_eq_some hf)
      rw [← hcv] at hal
      refine (ins_call base rb _ cap g cb _ _ _ _ _ _ _ _ bs _ _ _ _ vb _ _ _ _ _ _ _ _ _ _ _ _ _ w rfl hrun hrow hm1 hblk (fun _ w' => Done w base rb mb u A1 A2 c1 c2 (m.push u x.name (x.args.map c.val) x.d) (.returned (.tuple #[])) w') (fun W hW => ?_)).mono fun _ _ hp => ?_
      · refine (enter_push base rb _ cap g cb vb _ _ _ _ _ _ _ _ _ _ _ _ _ _ _ _ x.args c.values _ _ _ _ _ _ _ W (by omega) ⟨hrun.blk.grown hW (by simp)⟩ (hargs.imp (fun _ h => h) (fun b hb => hW.block b (Nat.lt_of_lt_of_le hb h.bw) (by simp)) (fun _ _ _ r => r)) (Nat.le_trans h.bw hW.size) ⟨hblk.blk.grown hW (by simp)⟩ (t.top.vals.grown hW (by simp)) hal (by omega) (fun _ w' => Done w base rb mb u A1 A2 c1 c2 (m.push u x.name (x.args.map c.val) x.d) (.returned (.tuple #[])) w') (fun W2 Ar cr hW2 hsr => ?_)).mono fun _ _ ⟨he, w2, hg2, hq⟩ => ⟨he, hq⟩
        have h2 := h.grown (hW.trans hW2)
        have hP := push_at hu h2 (by omega) hf (x.args.map fun n => c.values.getD n.toNat 0) Ar cr x.d hsr (by rw [List.length_map]; omega)
        exact hP.mono fun _ _ hp => ⟨hp.1, rfl, hp.2.1, (Chg.of_grown (hW.trans hW2) (fun k e _ => by cases e)).trans hp.2.2⟩
      · obtain ⟨he, w2, hg2, hq⟩ := hp
        exact ⟨he, hq.2⟩
end
end Go.Proofs.Ytknccacfhknnaaa
