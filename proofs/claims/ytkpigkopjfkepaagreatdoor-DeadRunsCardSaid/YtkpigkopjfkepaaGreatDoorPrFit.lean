/- What counterprooflaw10.Fit does: of raw blocks, a unit that may be. -/
import Derived.Test.YtkpigkopjfkepaaGreatDoorPrFitMem
namespace Go.Proofs.YtkpigkopjfkepaaGreatDoor
open Go.RowKit
theorem info_block : (Tryz.prog.info? 48).map (fun i => (i.zero, i.size, i.bytes)) = some (some (.agg #[.slice none 0 0, .int .i64 0, .int .i64 0, .int .i64 0, .int .i64 0]), 5, 56) := by kernel_rfl
theorem info_flow : (Tryz.prog.info? 41).map (fun i => (i.zero, i.size, i.bytes)) = some (some (.agg #[.string ⟨#[]⟩, .int .i64 0, .int .i64 0, .slice none 0 0]), 4, 56) := by kernel_rfl
def FitPost (raw : List LBlock) (w : World) (e : Ending) (w' : World) : Prop :=
 ∃ va vf css, e = .returned (.agg #[va, vf]) ∧ Below w.heap.size w w' ∧ SlR w' (fun b => (w.heap.size ≤ b ∧ b < w.heap.size + 4) ∧ b < w'.heap.size) 2 RArr va fitArrays ∧
  OwnL w' (w.heap.size + 4) 41 4 RFlow vf (fitFlows raw 3) css
structure FitLoop (raw : List LBlock) (w : World) (k : Nat) (v : Value) (css : List (List Value)) (wr : World) : Prop where
 below : Below w.heap.size w wr
 res : ∃ cs, Blk wr w.heap.size 27 cs ∧ cs.size = 2
 arr : Blk wr (w.heap.size + 1) 63 #[.string sA, .int .i64 4, .string sB, .int .i64 10]
 unit : Blk wr (w.heap.size + 1 + 1) 27 #[.slice (some ⟨w.heap.size + 1, 0, none⟩) 2 2, v]
 names : Blk wr (w.heap.size + 1 + 1 + 1) 9 #[.string sMain, .string sF, .string sG]
 own : OwnL wr (w.heap.size + 4) 41 4 RFlow v (fitFlows raw k) css
structure PickLoop (raw : List LBlock) (w wr : World) (k : Nat) (l : List LBlock) (v : Value) (css : List (List Value)) (wi : World) : Prop where
 below : Below wr.heap.size wr wi
 flow : Blk wi wr.heap.size 41 #[.string (fnName k), .int .i64 k, .int .i64 10, v]
 own : OwnL wi (wr.heap.size + 1) 48 5 (RRaw w) v l css
theorem snoc_put {w1 : World} {b n : Nat} {p : Addr} (hp : p.block < b) (u : Value) : Keeps (fun x => b ≤ x ∧ x < n) w1 (w1.setCell p u) := (Keeps.refl _ _).set (fun x hx => by have := hx.1; omega) _
theorem PickLoop.next {raw : List LBlock} {w wr : World} {k : Nat} {l : List LBlock} {v : Value} {css : List (List Value)} {wi wa w1 : World} {x : LBlock} {cs : List Value} {g cap n : Nat} (hl : PickLoop raw w wr k l v css wi) (hn : l.length = n)
  (hx : RBlock w (· < w.heap.size) cs x) (hcs : cs.length = 5) (hb : Below wi.heap.size wi wa)
  (hown : w1.ownsRow (wr.heap.size + 1) 48 5 (.slice (some ⟨g, 0, none⟩) (n + 1) cap) (n + 1) (css.flatten ++ cs)) (hg : wa.grownBy w1 v.ownBlock) (hat : v.ownBlock = some g ∨ g = wa.heap.size) :
  PickLoop raw w wr k (l ++ [x]) (.slice (some ⟨g, 0, none⟩) (n + 1) cap) (css ++ [cs]) (w1.setCell ⟨wr.heap.size, 3, none⟩ (.slice (some ⟨g, 0, none⟩) (n + 1) cap)) := by
 subst hn
 have hbase : ∀ b, v.ownBlock = some b → wr.heap.size + 1 ≤ b ∧ b < wi.heap.size := hl.own.lt
 have h0 : wr.heap.size < wi.heap.size := hl.flow.lt
 have h1 : wr.heap.size ≤ wi.heap.size := hl.below.size
 have h2 : wi.heap.size ≤ wa.heap.size := hb.size
 have hne : ∀ b, b < wr.heap.size + 1 → v.ownBlock ≠ some b := fun b hb e => by have := (hbase b e).1; omega
 have hk : Keeps (fun b => wr.heap.size + 1 ≤ b ∧ b < wi.heap.size) wi wa := fun b hb' => hb.block b hb'.2
 have hsn := OwnL.snoc (x := x) (cs := cs) (mono_raw w) hl.own hk h2 hcs hown hg (hat.imp id fun h => by omega) hx
 have hB : Below wr.heap.size wr w1 := (hl.below.trans (hb.mono h1)).grown hg (by omega) (fun b e => by have := (hbase b e).1; omega)
 refine ⟨hB.setCell (by simp) _, ?_, ?_⟩
 ·exact ((hl.flow.below hb h0).grown hg (hne _ (by omega))).set_ 3 _
 ·exact hsn.keep (mono_raw w) (snoc_put (by simp) _) (by simp [World.setCell])
theorem flatten_get {sz : Nat} : ∀ (css : List (List Value)), (∀ cs ∈ css, cs.length = sz) → ∀ (i j : Nat) (hi : i < css.length) (hj : j < (css[i]).length), css.flatten[i * sz + j]? = some (css[i])[j]
 | [], _, _, _, hi, _ => by simp at hi
 | c :: r, hall, 0, j, _, hj => by
  have hj' : j < c.length := hj
  rw [List.flatten_cons, Nat.zero_mul, Nat.zero_add, List.getElem?_append_left hj']
  exact List.getElem?_eq_getElem hj'
 | c :: r, hall, i + 1, j, hi, hj => by
  have hc : c.length = sz := hall c (by simp)
  have e1 : (i + 1) * sz + j = c.length + (i * sz + j) := by rw [hc, Nat.succ_mul]; omega
  rw [List.flatten_cons, e1, List.getElem?_append_right (by omega), Nat.add_sub_cancel_left]
  exact flatten_get r (fun cs hcs => hall cs (by simp [hcs])) i j (by simpa using hi) hj
theorem OwnL.cell {α : Type} {w : World} {base : Nat} {T : TypeId} {sz : Nat} {R : World → (Nat → Prop) → List Value → α → Prop} {l : List α} {css : List (List Value)} {g n cap : Nat} (h : OwnL w base T sz R (.slice (some ⟨g, 0, none⟩) n cap) l css)
  {j i : Nat} {u : Value} (hj : j < css.length) (hi : (css[j])[i]? = some u) : w.cell? ⟨g, j * sz + i, none⟩ = some u := by
 have hv : n = l.length := by
  rcases h.row.2 with ⟨e, _⟩ | ⟨_, _, _, e, _⟩
  ·cases e
  ·injection e
 obtain ⟨h1, h2⟩ := List.getElem?_eq_some_iff.1 hi
 have hc := Cells.of_own (g := g) (c := cap) h.row (by rw [hv])
 have := hc.at_ (flatten_get css h.each j i hj h1)
 rw [Nat.zero_add, h2] at this
 exact this
theorem OwnL.frozen {α : Type} {w : World} {base : Nat} {T : TypeId} {sz : Nat} {R : World → (Nat → Prop) → List Value → α → Prop} {l : List α} {css : List (List Value)} {g n cap : Nat} (h : OwnL w base T sz R (.slice (some ⟨g, 0, none⟩) n cap) l css) (i : Nat) : w.frozen? ⟨g, i, none⟩ = false := by
 rcases h.row.2 with ⟨e, _⟩ | ⟨g', cap', cur, e, _, hg, _⟩
 ·cases e
 ·have : g = g' := by injection e with e _ _; injection e with e; injection e
  subst this
  exact Blk.frozen (t := T) (cs := cur) hg i
theorem Names3.of_blk {w : World} {bn : Nat} {t : TypeId} (h : Blk w bn t #[.string sMain, .string sF, .string sG]) : Names3 w bn := by
 intro j hj
 have hj' : j < 3 := hj
 rw [Nat.zero_add, h.cell]
 rcases (by omega : j = 0 ∨ j = 1 ∨ j = 2) with rfl | rfl | rfl <;> rfl
def mix (l : List LBlock) (j : Nat) : List (Bool × LBlock) := ((l.take j).map fun b => (true, fitBlock b l.length)) ++ ((l.drop j).map fun b => (false, b))
theorem mix_len (l : List LBlock) (j : Nat) : (mix l j).length = l.length := by simp [mix]; omega
theorem mix_at {l : List LBlock} {j : Nat} (h : j < l.length) (h2 : j < (mix l j).length) : (mix l j)[j] = (false, l[j]) := by
 have hm : j = ((l.take j).map fun b => (true, fitBlock b l.length)).length := by simp; omega
 have : (mix l j)[j]? = some (false, l[j]) := by
  unfold mix
  rw [List.getElem?_append_right (by rw [← hm]; exact Nat.le_refl _), ← hm, Nat.sub_self]
  simp [h]
 exact (List.getElem?_eq_some_iff.1 this).2
theorem mix_next {l : List LBlock} {j : Nat} (h : j < l.length) : (mix l j).set j (true, fitBlock l[j] l.length) = mix l (j + 1) := by
 unfold mix
 rw [List.set_append_right _ _ (by simp; omega), List.take_succ_eq_append_getElem h, List.map_append, List.append_assoc]
 congr 1
 simp only [List.length_map, List.length_take, Nat.min_eq_left (Nat.le_of_lt h), Nat.sub_self]
 rw [List.drop_eq_getElem_cons h]
 simp only [List.map_cons, List.set_cons_zero, List.map_nil, List.singleton_append]
theorem mix_end {l : List LBlock} {i : Nat} (h : i < (mix l l.length).length) : (mix l l.length)[i] = (true, fitBlock (l[i]'(by rw [mix_len] at h; exact h)) l.length) := by
 have : (mix l l.length) = l.map fun b => (true, fitBlock b l.length) := by simp [mix]
 simp [this]
theorem mix_start (l : List LBlock) : mix l 0 = l.map fun b => (false, b) := by simp [mix]
structure BlkLoop (w wo : World) (k : Nat) (l : List LBlock) (j : Nat) (v : Value) (css : List (List Value)) (wi : World) : Prop where
 below : Below wo.heap.size wo wi
 flow : Blk wi wo.heap.size 41 #[.string (fnName k), .int .i64 k, .int .i64 10, v]
 own : OwnL wi (wo.heap.size + 1) 48 5 (RMix w) v (mix l j) css
theorem PickLoop.blk {raw : List LBlock} {w wo : World} {k : Nat} {l : List LBlock} {v : Value} {css : List (List Value)} {wi : World} (h : PickLoop raw w wo k l v css wi) : BlkLoop w wo k l 0 v css wi := by
 refine ⟨h.below, h.flow, ?_⟩
 rw [mix_start]
 refine h.own.change (by simp) ?_
 intro i h1 h2 cs hr
 simp only [List.getElem_map]
 exact hr
theorem BlkLoop.next {w wo : World} {k : Nat} {l : List LBlock} {j : Nat} {css : List (List Value)} {wi w' : World} {g cap : Nat} {vi : Value} (hl : BlkLoop w wo k l j (.slice (some ⟨g, 0, none⟩) l.length cap) css wi) (hj : j < l.length) (hb : Below wi.heap.size wi w')
  (hs : SlR w' (fun b => wi.heap.size ≤ b ∧ b < w'.heap.size) 8 (RIns w' (fun b => wi.heap.size ≤ b ∧ b < w'.heap.size)) vi ((l[j].ins.take 6).map fitIns)) :
  BlkLoop w wo k l (j + 1) (.slice (some ⟨g, 0, none⟩) l.length cap) (css.set j [vi, .int .i64 (fitTerm l[j].term l.length).kind, .int .i64 (fitTerm l[j].term l.length).a, .int .i64 (fitTerm l[j].term l.length).to, .int .i64 (fitTerm l[j].term l.length).els])
   (((((w'.setCell ⟨g, j * 5, none⟩ vi).setCell ⟨g, j * 5 + 1, none⟩ (.int .i64 (fitTerm l[j].term l.length).kind)).setCell ⟨g, j * 5 + 2, none⟩ (.int .i64 (fitTerm l[j].term l.length).a)).setCell ⟨g, j * 5 + 3, none⟩ (.int .i64 (fitTerm l[j].term l.length).to)).setCell ⟨g, j * 5 + 4, none⟩ (.int .i64 (fitTerm l[j].term l.length).els)) := by
 obtain ⟨hg1, hg2⟩ := hl.own.lt g rfl
 have h1 := hl.below.size
 have h2 := hb.size
 have hne : ∀ i : Nat, ∀ b, b = wo.heap.size → b ≠ (⟨g, i, none⟩ : Addr).block := fun i b hb => by show b ≠ g; omega
 have hB : Below wo.heap.size wo w' := hl.below.trans (hb.mono h1)
 have ho : OwnL w' (wo.heap.size + 1) 48 5 (RMix w) (.slice (some ⟨g, 0, none⟩) (mix l j).length cap) (mix l j) css := by rw [mix_len]; exact hl.own.below (mono_mix w) hb
 refine ⟨((((hB.setCell (by show wo.heap.size ≤ g; omega) _).setCell (by show wo.heap.size ≤ g; omega) _).setCell (by show wo.heap.size ≤ g; omega) _).setCell (by show wo.heap.size ≤ g; omega) _).setCell (by show wo.heap.size ≤ g; omega) _, ?_, ?_⟩
 ·exact (((((hl.flow.below hb hl.flow.lt).far (hne _ _ rfl) _).far (hne _ _ rfl) _).far (hne _ _ rfl) _).far (hne _ _ rfl) _).far (hne _ _ rfl) _
 ·have hp := ho.put5 (mono_mix w) (j := j) (x := (true, fitBlock l[j] l.length)) (c0 := vi) (c1 := .int .i64 (fitTerm l[j].term l.length).kind) (c2 := .int .i64 (fitTerm l[j].term l.length).a) (c3 := .int .i64 (fitTerm l[j].term l.length).to) (c4 := .int .i64 (fitTerm l[j].term l.length).els) (by rw [mix_len]; exact hj) (by
   show RBlock w' _ _ _
   have hsub : ∀ b, wi.heap.size ≤ b ∧ b < w'.heap.size → okOwn (wo.heap.size + 1) w' (.slice (some ⟨g, 0, none⟩) (mix l j).length cap) b := fun b hb' => ⟨by omega, hb'.2, fun e => absurd (show g = b by simpa [Value.ownBlock] using e) (by omega)⟩
   exact ⟨vi, rfl, hs.imp hsub (Keeps.refl _ _) (fun _ _ _ r => r.imp hsub (Keeps.refl _ _))⟩)
  rw [mix_next hj, mix_len] at hp
  exact hp
theorem BlkLoop.slr {w wo : World} {k : Nat} {l : List LBlock} {v : Value} {css : List (List Value)} {wi : World} (hl : BlkLoop w wo k l l.length v css wi) :
  SlR wi (fun b => wo.heap.size + 1 ≤ b ∧ b < wi.heap.size) 5 (RBlock wi (fun b => wo.heap.size + 1 ≤ b ∧ b < wi.heap.size)) v (l.map fun b => fitBlock b l.length) := by
 have h : OwnL wi (wo.heap.size + 1) 48 5 RBlock v (l.map fun b => fitBlock b l.length) css := hl.own.change (by simp [mix_len]) (fun i h1 h2 cs hr => by
  rw [mix_end] at hr
  simp only [List.getElem_map]
  exact hr)
 exact h.slr mono_block
theorem FitLoop.next {raw : List LBlock} {w : World} {k : Nat} {v : Value} {css : List (List Value)} {wo wi wa w1 : World} {g cap : Nat} {v' : Value} (hl : FitLoop raw w k v css wo) (hb : Below wo.heap.size wo wi) (hba : Below wi.heap.size wi wa)
  (hs : SlR wi (fun b => wo.heap.size + 1 ≤ b ∧ b < wi.heap.size) 5 (RBlock wi (fun b => wo.heap.size + 1 ≤ b ∧ b < wi.heap.size)) v' (fitFl raw k).blocks)
  (hown : w1.ownsRow (w.heap.size + 4) 41 4 (.slice (some ⟨g, 0, none⟩) (k + 1) cap) (k + 1) (css.flatten ++ [.string (fnName k), .int .i64 k, .int .i64 10, v'])) (hg : wa.grownBy w1 v.ownBlock) (hat : v.ownBlock = some g ∨ g = wa.heap.size) :
  FitLoop raw w (k + 1) (.slice (some ⟨g, 0, none⟩) (k + 1) cap) (css ++ [[.string (fnName k), .int .i64 k, .int .i64 10, v']]) (w1.setCell ⟨w.heap.size + 1 + 1, 1, none⟩ (.slice (some ⟨g, 0, none⟩) (k + 1) cap)) := by
 have hbase : ∀ b, v.ownBlock = some b → w.heap.size + 4 ≤ b ∧ b < wo.heap.size := hl.own.lt
 have h0 : w.heap.size + 1 + 1 + 1 < wo.heap.size := hl.names.lt
 have h1 := hb.size
 have h2 := hba.size
 have hba' : Below wo.heap.size wo wa := hb.trans (hba.mono h1)
 have hne : ∀ b, b < w.heap.size + 4 → v.ownBlock ≠ some b := fun b hb e => by have := (hbase b e).1; omega
 have hB : Below w.heap.size w w1 := (hl.below.trans (hba'.mono hl.below.size)).grown hg (by omega) (fun b e => by have := (hbase b e).1; omega)
 have hkl : (fitFlows raw k).length = k := by simp [fitFlows]
 have e : fitFlows raw (k + 1) = fitFlows raw k ++ [fitFl raw k] := by simp [fitFlows, List.range_succ]
 have hk : Keeps (fun b => w.heap.size + 4 ≤ b ∧ b < wo.heap.size) wo wa := fun b hb' => hba'.block b hb'.2
 have hsn := OwnL.snoc (x := fitFl raw k) (cs := [.string (fnName k), .int .i64 k, .int .i64 10, v']) mono_flow hl.own hk (by omega) rfl (by rw [hkl]; exact hown) hg (hat.imp id fun h => by omega) (by
  have hsub : ∀ b, wo.heap.size + 1 ≤ b ∧ b < wi.heap.size → w.heap.size + 4 ≤ b ∧ b < wa.heap.size ∧ v.ownBlock ≠ some b := fun b hb' => ⟨by omega, by omega, fun h => by have := (hbase b h).2; omega⟩
  have hkk : Keeps (fun b => wo.heap.size + 1 ≤ b ∧ b < wi.heap.size) wi wa := fun b hb' => hba.block b hb'.2
  exact ⟨v', rfl, hs.imp hsub hkk (fun _ _ _ r => r.imp hsub hkk)⟩)
 have far : ∀ {x : Nat} {t : TypeId} {cs : Array Value}, Blk wo x t cs → x < w.heap.size + 4 → Blk w1 x t cs := fun h hx => (h.below hba' h.lt).grown hg (hne _ hx)
 refine ⟨hB.setCell (by simp; omega) _, ?_, ?_, ?_, ?_, ?_⟩
 ·obtain ⟨cs, h1, h2⟩ := hl.res
  exact ⟨cs, (far h1 (by omega)).far (by show w.heap.size ≠ w.heap.size + 1 + 1; omega) _, h2⟩
 ·exact (far hl.arr (by omega)).far (by simp) _
 ·exact (far hl.unit (by omega)).set_ 1 _
 ·exact (far hl.names (by omega)).far (by simp) _
 ·rw [hkl] at hsn
  rw [e]
  exact hsn.keep mono_flow (snoc_put (by show w.heap.size + 1 + 1 < w.heap.size + 4; omega) _) (by simp [World.setCell])
theorem orOne_len {l : List LBlock} (h : l.length ≤ 8) : 0 < (orOne l).length ∧ (orOne l).length ≤ 8 := by
 unfold orOne
 by_cases h0 : l = []
 ·rw [if_pos h0]; simp
 ·rw [if_neg h0]
  have : l.length ≠ 0 := fun e => h0 (List.eq_nil_of_length_eq_zero e)
  omega
theorem orOne_I {l : List LBlock} (h : ∀ x ∈ l, x.I) : ∀ x ∈ orOne l, x.I := by
 unfold orOne
 by_cases h0 : l = []
 ·rw [if_pos h0]
  intro x hx
  rw [List.mem_singleton.1 hx]
  have z : I64 0 := by unfold I64; omega
  exact ⟨by simp [noBlock], ⟨z, z, z, z⟩⟩
 ·rw [if_neg h0]; exact h
set_option maxRecDepth 100000 in
set_option maxHeartbeats 4000000 in
theorem fit_any (raw : List LBlock) (hI : ∀ x ∈ raw, x.I) (vr : Value) (w : World) (hv : SlR w (· < w.heap.size) 5 (RBlock w (· < w.heap.size)) vr raw) :
  Calls Tryz.prog 9 #[vr] w (FitPost raw w) := by
 obtain ⟨A, c, hvr, hlc, hcm⟩ := hv.val
 have HV := Lib.hid hv
 have HI := Lib.hid hI
 clear hv hI
 subst hvr
 have hlen := Nat.le_trans hlc hcm
 unfold maxLen at hlen
 go_enter Tryz.func9, Tryz.ntmps9
 go_wp2_with fail
 refine wp_world ?_
 intro W hW
 have hst : FitLoop raw w 0 (.slice none 0 0) [] W := by
  rw [← hW]
  refine ⟨below4 _ _ _ _ _, ⟨#[.slice none 0 0, .slice none 0 0], ((((Blk.new _ _ _).alloc _).alloc _).alloc _), rfl⟩, ((Blk.new_at _ _ _ (by simp)).alloc _).alloc _, (Blk.new_at _ _ _ (by simp)).alloc _, Blk.new_at _ _ _ (by simp), OwnL.nil_ _ _ _ _ _⟩
 clear hW
 go_loopw [5] (fun i wr => ∃ k : Nat, k ≤ 3 ∧ i = .int .i64 k ∧ ∃ v css, FitLoop raw w k v css wr) (fun i _ => 3 - (intOf i).toNat)
 case atStart => exact ⟨0, by omega, rfl, _, _, hst⟩
 case round =>
  obtain ⟨k, hk, rfl, v, css, hl⟩ := hrel
  have HL := Lib.hid hl
  by_cases hlt : k < 3
  ·have d0 : decide ((k : Int) < 3) = true := decide_eq_true (by omega)
   have n0 : wr.cell? ⟨w.heap.size + 1 + 1 + 1, k, none⟩ = some (.string (fnName k)) := by
    rcases (by omega : k = 0 ∨ k = 1 ∨ k = 2) with rfl | rfl | rfl
    ·exact hl.names.cell 0
    ·exact hl.names.cell 1
    ·exact hl.names.cell 2
   have HN := Lib.hid n0
   have hsz := hl.below.size
   clear hl
   obtain ⟨wo, hwo⟩ : ∃ wo, wo = wr := ⟨_, rfl⟩
   subst hwo
   go_upto_block 2 with fail
   go_cut [7] (fun _ wx => ∃ v' css', PickLoop raw w wo k (picks raw k 8) v' css' wx)
   case first =>
    go_wp2_with fail
    refine wp_world ?_
    intro W hW
    have hst : PickLoop raw w wo k [] (.slice none 0 0) [] W := by
     rw [← hW]
     exact ⟨Below.alloc (Below.refl _ _) (Nat.le_refl _) _, Blk.new_at _ _ _ rfl, OwnL.nil_ _ _ _ _ _⟩
    clear hW n0
    go_loopw [7] (fun i wi => ∃ m t : Nat, t = k + 3 * m ∧ m ≤ 8 ∧ (m = 0 ∨ k + 3 * (m - 1) < raw.length) ∧ i = .int .i64 t ∧ ∃ v css, PickLoop raw w wo k (picks raw k m) v css wi) (fun i _ => 30 - (intOf i).toNat)
    case atStart => exact ⟨0, k, by omega, by omega, .inl rfl, rfl, _, _, hst⟩
    case round =>
     obtain ⟨m, t, ht, hm8, hmr, rfl, v2, css2, hp⟩ := hrel
     have hlen2 : (picks raw k m).length = m := picks_len hmr
     have HT := Lib.hid ht
     have ht26 : t ≤ 26 := by omega
     clear ht
     obtain ⟨A2, c2, hv2⟩ := own_form hp.own.row
     rw [hlen2] at hv2
     subst hv2
     have HP := Lib.hid hp
     have HM := Lib.hid hlen2
     have p3 : wr.cell? ⟨wo.heap.size, 3, none⟩ = some (.slice A2 m c2) := hp.flow.cell 3
     by_cases hlt2 : t < raw.length ∧ m < 8
     ·obtain ⟨hlt2, hm⟩ := hlt2
      have e1 : decide ((t : Int) < (raw.length : Int)) = true := decide_eq_true (by omega)
      have e2 : decide ((m : Int) < 8) = true := decide_eq_true (by omega)
      obtain ⟨b, off, c', hform, _, _, hb, hel⟩ := HV.out.form (by omega)
      obtain ⟨cs, hcl, hrb, hcell⟩ := hel t hlt2
      have hrb0 := hrb
      obtain ⟨vi, hcs, hsl⟩ := hrb
      subst hcs
      obtain ⟨rfl, rfl⟩ : A = some ⟨b, off, none⟩ ∧ c = c' := by injection hform with h1 _ h2; exact ⟨h1, h2⟩
      have hcw : Cells wr b (off + t * 5) (vi :: termCells raw[t].term) := hcell.keep ((hp.below.block b (by omega)).trans (HL.out.below.block b hb))
      have i0 : wr.cell? ⟨b, off + t * 5, none⟩ = some vi := hcw.at_ (j := 0) rfl
      have i1 : wr.cell? ⟨b, off + t * 5 + 1, none⟩ = some (.int .i64 raw[t].term.kind) := hcw.at_ (j := 1) rfl
      have i2 : wr.cell? ⟨b, off + t * 5 + 2, none⟩ = some (.int .i64 raw[t].term.a) := hcw.at_ (j := 2) rfl
      have i3 : wr.cell? ⟨b, off + t * 5 + 3, none⟩ = some (.int .i64 raw[t].term.to) := hcw.at_ (j := 3) rfl
      have i4 : wr.cell? ⟨b, off + t * 5 + 4, none⟩ = some (.int .i64 raw[t].term.els) := hcw.at_ (j := 4) rfl
      have f3 : wr.frozen? ⟨wo.heap.size, 3, none⟩ = false := hp.flow.frozen 3
      have hs3 : wo.heap.size < wr.heap.size := hp.flow.lt
      have hne : (Value.slice A2 m c2).ownBlock ≠ some wo.heap.size := fun e => by have := (hp.own.lt _ e).1; omega
      obtain ⟨A', c3, hva, _, _⟩ := hsl.val
      have hone : ∀ u ∈ (vi :: termCells raw[t].term), u.oneCell' = true := by subst hva; simp [termCells, Value.oneCell']
      have hown : wr.ownsRow (wo.heap.size + 1) 48 5 (.slice A2 m c2) m css2.flatten := by have h := hp.own.row; rw [HM.out] at h; exact h
      obtain ⟨z0, hi0, hz0, hz1, hz2⟩ := info_parts info_block
      have HR := Lib.hid hrb0
      clear hp hcw hsl hcell hel hform hlen2 hva
      go_wp2_with fail
      go_region_law (first | (refine step_append_lies _ (by rfl) _ _ _ (by rfl) (wo.heap.size + 1) 48 z0 _ 5 56 Tryz.underlying22 hi0 hz0 hz1 hz2 rfl (by omega) _ _ _ (by rfl) (hown.drew.alloc _) ⟨wr.heap.size, 0, none⟩ 1 1 (vi :: termCells raw[t].term) (by rfl) (by rfl) (World.news_of_block (cs := (vi :: termCells raw[t].term).toArray) (t := 48) (fr := (0, 0)) (heap_alloc_new wr.drew _)) hone (by omega) (by unfold maxLen; omega) (by omega) (by simp; omega) (wr.heap.size + 1) (by simp) ?_; intro g cap w1 hown1 hgrow hat hlt1; have o2 : w1.cell? ⟨wo.heap.size, 3, none⟩ = some (.slice A2 m c2) := (hgrow.cell_far _ (by simp; omega) (Ne.symm hne)).trans ((World.cell?_alloc_lt wr.drew _ _ (by simp; omega)).trans p3); have f2 : w1.frozen? ⟨wo.heap.size, 3, none⟩ = false := (hgrow.frozen_far _ (by simp; omega) (Ne.symm hne)).trans ((World.frozen?_alloc_old wr.drew _ _ (Nat.ne_of_lt (by simp; omega))).trans f3)) | fail)
      all_goals
       go_wp2
       go_roundw
       case rel =>
        have ht := HT.out
        refine ⟨m + 1, t + 3, by omega, by omega, .inr (by omega), by go_num, .slice (some ⟨g, 0, none⟩) (m + 1) cap, css2 ++ [vi :: termCells raw[t].term], ?_⟩
        have e : picks raw k (m + 1) = picks raw k m ++ [raw[t]] := by subst ht; exact picks_succ hlt2
        rw [e]
        exact HP.out.next HM.out HR.out rfl (Below.alloc (Below.drew (Below.refl _ _)) (Nat.le_refl _) _) hown1 hgrow (hat.imp id fun h => by simp [h])
       case measure => simp [intOf]; omega
     ·have HE : picks raw k 8 = picks raw k m := by
       by_cases h : t < raw.length
       ·rw [show m = 8 by omega]
       ·have h9 := picks_end (raw := raw) (k := k) (m := m) (by have := HT.out; omega) (8 - m)
        rw [show m + (8 - m) = 8 by omega] at h9
        exact h9
      have HE := Lib.hid HE
      have hdd : (decide ((t : Int) < (raw.length : Int)) = false) ∨ (decide ((t : Int) < (raw.length : Int)) = true ∧ decide ((m : Int) < 8) = false) := by
       by_cases h : t < raw.length
       ·exact .inr ⟨decide_eq_true (by omega), decide_eq_false (by omega)⟩
       ·exact .inl (decide_eq_false (by omega))
      clear hp hlen2
      rcases hdd with hd | ⟨hd, hd'⟩
      all_goals go_wp2
      all_goals
       go_meet
       exact ⟨_, _, by rw [HE.out]; exact HP.out⟩
   case rest =>
    obtain ⟨v2, css2, hp⟩ := hcut
    have hle : (picks raw k 8).length ≤ 8 := picks_le raw k 8
    have HI8 : Hid (∀ x ∈ picks raw k 8, x.I) := Lib.hid fun x hx => HI.out x (picks_mem hx)
    obtain ⟨l, hl8⟩ : ∃ l, l = picks raw k 8 := ⟨_, rfl⟩
    rw [← hl8] at hp hle HI8
    have HL8 := Lib.hid hl8
    clear hl8
    obtain ⟨A2, c2, hv2⟩ := own_form hp.own.row
    subst hv2
    have HP := Lib.hid hp
    have p3 : wc.cell? ⟨wo.heap.size, 3, none⟩ = some (.slice A2 l.length c2) := hp.flow.cell 3
    have f3 : wc.frozen? ⟨wo.heap.size, 3, none⟩ = false := hp.flow.frozen 3
    have hs3 : wo.heap.size < wc.heap.size := hp.flow.lt
    have hne : (Value.slice A2 l.length c2).ownBlock ≠ some wo.heap.size := fun e => by have := (hp.own.lt _ e).1; omega
    have hown : wc.ownsRow (wo.heap.size + 1) 48 5 (.slice A2 l.length c2) l.length css2.flatten := hp.own.row
    clear hp
    go_upto_if 50 with fail
    go_cut [] (fun wx => ∃ v css, PickLoop raw w wo k (orOne l) v css wx)
    case first =>
     by_cases h0 : l = []
     ·have b0 : ((l.length : Int) == 0) = true := by rw [h0]; rfl
      obtain ⟨z0, hi0, hz0, hz1, hz2⟩ := info_parts info_block
      have HE := Lib.hid h0
      clear h0
      go_wp2_with (first | (at_builtin; refine wpList_append_lies _ rfl _ _ _ rfl (wo.heap.size + 1) 48 z0 _ 5 56 Tryz.underlying22 hi0 hz0 hz1 hz2 rfl (by decide) (.slice A2 l.length c2) l.length css2.flatten rfl (hown.alloc _) ⟨wc.heap.size, 0, none⟩ 1 1 [.slice none 0 0, .int .i64 0, .int .i64 0, .int .i64 0, .int .i64 0] rfl rfl (World.news_of_block (cs := #[.slice none 0 0, .int .i64 0, .int .i64 0, .int .i64 0, .int .i64 0]) (t := 48) (fr := (0, 0)) (heap_alloc_new wc _)) (by simp [Value.oneCell']) (by decide) (by unfold maxLen; omega) (by omega) (by simp; omega) (wc.heap.size + 1) (by simp) ?_; intro g cap w1 hown1 hgrow hat hlt1; have o2 : w1.cell? ⟨wo.heap.size, 3, none⟩ = some (.slice A2 l.length c2) := (hgrow.cell_far _ (by simp; omega) (Ne.symm hne)).trans ((World.cell?_alloc_lt wc _ _ (by simp; omega)).trans p3); have f2 : w1.frozen? ⟨wo.heap.size, 3, none⟩ = false := (hgrow.frozen_far _ (by simp; omega) (Ne.symm hne)).trans ((World.frozen?_alloc_old wc _ _ (Nat.ne_of_lt (by simp; omega))).trans f3)))
      go_meet
      have e : orOne l = l ++ [noBlock] := by rw [HE.out]; rfl
      refine ⟨_, _, by rw [e]; exact HP.out.next rfl ⟨_, rfl, SlR.nil_ _ _ _ _⟩ rfl (Below.alloc (Below.refl _ _) (Nat.le_refl _) _) hown1 hgrow (hat.imp id fun h => by simp [h])⟩
     ·have b0 : ((l.length : Int) == 0) = false := by
       cases l with
       | nil => exact absurd rfl h0
       | cons a r => exact beq_eq_false_iff_ne.2 (by simp; omega)
      have e : orOne l = l := by unfold orOne; rw [if_neg h0]
      have HE := Lib.hid e
      clear e h0
      go_wp2
      go_meet
      exact ⟨_, _, by rw [HE.out]; exact HP.out⟩
    case rest =>
     obtain ⟨v3, css3, hp⟩ := hcut
     obtain ⟨ll, lln⟩ := orOne_len hle
     have HI2 := Lib.hid (orOne_I HI8.out)
     obtain ⟨L, hL⟩ : ∃ L, L = orOne l := ⟨_, rfl⟩
     rw [← hL] at hp ll lln HI2
     have HLL := Lib.hid hL
     clear hL hown hne p3 f3 hs3
     obtain ⟨g, cap, hv3⟩ : ∃ g cap, v3 = .slice (some ⟨g, 0, none⟩) L.length cap := by
      rcases hp.own.row.2 with ⟨_, h0⟩ | ⟨g, cap, _, h, _⟩
      ·omega
      ·exact ⟨g, cap, h⟩
     subst hv3
     have hst := hp.blk
     have q3 : wc.cell? ⟨wo.heap.size, 3, none⟩ = some (.slice (some ⟨g, 0, none⟩) L.length cap) := hp.flow.cell 3
     clear hp
     go_wp2_with fail
     go_loopw [9] (fun i wi => ∃ j : Nat, j ≤ L.length ∧ i = .int .i64 j ∧ ∃ css, BlkLoop w wo k L j (.slice (some ⟨g, 0, none⟩) L.length cap) css wi) (fun i _ => L.length - (intOf i).toNat)
     case atStart => exact ⟨0, by omega, rfl, _, hst⟩
     case round =>
      obtain ⟨j, hj, rfl, css4, hb⟩ := hrel
      have p3 : wr.cell? ⟨wo.heap.size, 3, none⟩ = some (.slice (some ⟨g, 0, none⟩) L.length cap) := hb.flow.cell 3
      have hs3 : wo.heap.size < wr.heap.size := hb.flow.lt
      have HB := Lib.hid hb
      by_cases hlt3 : j < L.length
      ·have e1 : decide ((j : Int) < (L.length : Int)) = true := decide_eq_true (by omega)
       have hjc : j < css4.length := by rw [hb.own.len, mix_len]; exact hlt3
       have hx := hb.own.elems j hjc (by rw [mix_len]; exact hlt3)
       rw [mix_at hlt3] at hx
       obtain ⟨vi, hcs, hsl⟩ : RBlock w (· < w.heap.size) css4[j] L[j] := hx
       have hc : ∀ {i : Nat} {u : Value}, (vi :: termCells L[j].term)[i]? = some u → wr.cell? ⟨g, j * 5 + i, none⟩ = some u := fun h => hb.own.cell hjc (by rw [hcs]; exact h)
       have i0 : wr.cell? ⟨g, j * 5, none⟩ = some vi := hc (i := 0) rfl
       have i1 : wr.cell? ⟨g, j * 5 + 1, none⟩ = some (.int .i64 L[j].term.kind) := hc (i := 1) rfl
       have i2 : wr.cell? ⟨g, j * 5 + 2, none⟩ = some (.int .i64 L[j].term.a) := hc (i := 2) rfl
       have i3 : wr.cell? ⟨g, j * 5 + 3, none⟩ = some (.int .i64 L[j].term.to) := hc (i := 3) rfl
       have i4 : wr.cell? ⟨g, j * 5 + 4, none⟩ = some (.int .i64 L[j].term.els) := hc (i := 4) rfl
       have z0 := hb.own.frozen (j * 5)
       have z1 := hb.own.frozen (j * 5 + 1)
       have z2 := hb.own.frozen (j * 5 + 2)
       have z3 := hb.own.frozen (j * 5 + 3)
       have z4 := hb.own.frozen (j * 5 + 4)
       have hgw : g < wr.heap.size := (hb.own.lt g rfl).2
       have hnm : Names3 wr.drew (w.heap.size + 1 + 1 + 1) := Names3.of_blk ((HL.out.names.below hb.below HL.out.names.lt).drew)
       have hxI : L[j].I := HI2.out _ (List.getElem_mem _)
       have hwr : Below w.heap.size w wr := HL.out.below.trans (hb.below.mono hsz)
       have hsv : SlR wr.drew (· < wr.drew.heap.size) 8 (RIns wr.drew (· < wr.drew.heap.size)) vi L[j].ins :=
        hsl.imp (fun b hb' => Nat.lt_of_lt_of_le hb' hwr.size) (fun b hb' => hwr.block b hb') (fun _ _ _ r => r.imp (fun b hb' => Nat.lt_of_lt_of_le hb' hwr.size) (fun b hb' => hwr.block b hb'))
       obtain ⟨A', c3, hva, _, _⟩ := hsl.val
       subst hva
       have hn0 : (0 : Int) < (L.length : Int) := by omega
       have HC := Lib.hid (fitblock_any L[j] hxI _ (w.heap.size + 1 + 1 + 1) (L.length : Int) hn0 wr.drew hnm hsv)
       clear hb hcs hsl hnm hxI hwr hsv q3 hst HI2 HI8 HI
       go_wp2_with fail
       go_region_law (go_simp; go_at_call 21; refine HC.out.mono ?_; rintro e w' ⟨vi', rfl, hbw0, hsl'⟩; obtain ⟨A4, n4, c4, hv4⟩ : ∃ A n c, vi' = .slice A n c := (by obtain ⟨A3, c3, hva3, _, _⟩ := hsl'.val; exact ⟨_, _, _, hva3⟩); subst hv4; have hbw : Below wr.heap.size wr w' := below_undrew (B := wr.heap.size) hbw0; have o3 : w'.cell? ⟨wo.heap.size, 3, none⟩ = some (.slice (some ⟨g, 0, none⟩) L.length cap) := (hbw.cell (p := ⟨wo.heap.size, 3, none⟩) hs3).trans p3; have y0 : w'.cell? ⟨g, j * 5, none⟩ = some (.slice A' L[j].ins.length c3) := (hbw.cell (p := ⟨g, j * 5, none⟩) hgw).trans i0; have y1 := (hbw.cell (p := ⟨g, j * 5 + 1, none⟩) hgw).trans i1; have y2 := (hbw.cell (p := ⟨g, j * 5 + 2, none⟩) hgw).trans i2; have y3 := (hbw.cell (p := ⟨g, j * 5 + 3, none⟩) hgw).trans i3; have y4 := (hbw.cell (p := ⟨g, j * 5 + 4, none⟩) hgw).trans i4; have x0 := (hbw.frozen (p := ⟨g, j * 5, none⟩) hgw).trans z0; have x1 := (hbw.frozen (p := ⟨g, j * 5 + 1, none⟩) hgw).trans z1; have x2 := (hbw.frozen (p := ⟨g, j * 5 + 2, none⟩) hgw).trans z2; have x3 := (hbw.frozen (p := ⟨g, j * 5 + 3, none⟩) hgw).trans z3; have x4 := (hbw.frozen (p := ⟨g, j * 5 + 4, none⟩) hgw).trans z4)
       all_goals
        go_wp2
        go_roundw
        case rel => exact ⟨j + 1, by omega, by go_num, _, HB.out.next hlt3 hbw hsl'⟩
        case measure => simp [intOf]; omega
      ·have e1 : decide ((j : Int) < (L.length : Int)) = false := decide_eq_false (by omega)
       obtain rfl : j = L.length := by omega
       have hslr := hb.slr
       have hLf : (L.map fun b => fitBlock b L.length) = (fitFl raw k).blocks := by rw [HLL.out, HL8.out]; rfl
       rw [hLf] at hslr
       obtain ⟨A0, c0, hv0⟩ := own_form HL.out.own.row
       rw [show (fitFlows raw k).length = k by simp [fitFlows]] at hv0
       subst hv0
       have hown : wr.ownsRow (w.heap.size + 4) 41 4 (.slice A0 k c0) k css.flatten := by
        have h := (HL.out.own.below mono_flow hb.below).row
        rw [show (fitFlows raw k).length = k by simp [fitFlows]] at h
        exact h
       have hne : (Value.slice A0 k c0).ownBlock ≠ some (w.heap.size + 1 + 1) := fun e => by have := (HL.out.own.lt _ e).1; omega
       have b0 : wr.cell? ⟨wo.heap.size, 0, none⟩ = some (.string (fnName k)) := hb.flow.cell 0
       have b1 : wr.cell? ⟨wo.heap.size, 1, none⟩ = some (.int .i64 k) := hb.flow.cell 1
       have b2 : wr.cell? ⟨wo.heap.size, 2, none⟩ = some (.int .i64 10) := hb.flow.cell 2
       have hU := HL.out.unit.below hb.below HL.out.unit.lt
       have u1 : wr.cell? ⟨w.heap.size + 1 + 1, 1, none⟩ = some (.slice A0 k c0) := hU.cell 1
       have u2 : wr.frozen? ⟨w.heap.size + 1 + 1, 1, none⟩ = false := hU.frozen 1
       have hul : w.heap.size + 1 + 1 < wr.heap.size := hU.lt
       have hul3 : w.heap.size + 4 ≤ wr.heap.size := by have := HL.out.names.lt; omega
       have hbb := hb.below
       obtain ⟨z0, hi0, hz0, hz1, hz2⟩ := info_parts info_flow
       have HS := Lib.hid hslr
       have HBB := Lib.hid hbb
       clear hb hslr hLf hbb HB hU
       go_wp2_with (first | (at_builtin; refine wpList_append_lies _ rfl _ _ _ rfl (w.heap.size + 4) 41 z0 _ 4 56 Tryz.underlying25 hi0 hz0 hz1 hz2 rfl (by decide) (.slice A0 k c0) k css.flatten rfl (hown.alloc _) ⟨wr.heap.size, 0, none⟩ 1 1 [.string (fnName k), .int .i64 k, .int .i64 10, .slice (some ⟨g, 0, none⟩) L.length cap] rfl rfl (World.news_of_block (cs := #[.string (fnName k), .int .i64 k, .int .i64 10, .slice (some ⟨g, 0, none⟩) L.length cap]) (t := 41) (fr := (0, 0)) (heap_alloc_new wr _)) (by simp [Value.oneCell']) (by decide) (by unfold maxLen; omega) (by omega) (by simp; omega) (wr.heap.size + 1) (by simp) ?_; intro g2 cap2 w1 hown1 hgrow hat hlt1; have o2 : w1.cell? ⟨w.heap.size + 1 + 1, 1, none⟩ = some (.slice A0 k c0) := (hgrow.cell_far _ (by simp; omega) (Ne.symm hne)).trans ((World.cell?_alloc_lt wr _ _ (by simp; omega)).trans u1); have f2 : w1.frozen? ⟨w.heap.size + 1 + 1, 1, none⟩ = false := (hgrow.frozen_far _ (by simp; omega) (Ne.symm hne)).trans ((World.frozen?_alloc_old wr _ _ (Nat.ne_of_lt (by simp; omega))).trans u2)))
       go_roundw
       case rel => exact ⟨k + 1, by omega, by go_num, _, _, HL.out.next HBB.out (Below.alloc (Below.refl _ _) (Nat.le_refl _) _) HS.out hown1 hgrow (hat.imp id fun h => by simp [h])⟩
       case measure => simp [intOf]; omega
  ·have d0 : decide ((k : Int) < 3) = false := decide_eq_false (by omega)
   obtain rfl : k = 3 := by omega
   obtain ⟨rs, hrs, hr2⟩ := hl.res
   obtain ⟨A0, c0, hv0⟩ := own_form hl.own.row
   rw [show (fitFlows raw 3).length = 3 from rfl] at hv0
   subst hv0
   have u0 : wr.cell? ⟨w.heap.size + 1 + 1, 0, none⟩ = some (.slice (some ⟨w.heap.size + 1, 0, none⟩) 2 2) := hl.unit.cell 0
   have u1 : wr.cell? ⟨w.heap.size + 1 + 1, 1, none⟩ = some (.slice A0 3 c0) := hl.unit.cell 1
   obtain ⟨r0, q0⟩ : ∃ u, wr.cell? ⟨w.heap.size, 0, none⟩ = some u := ⟨rs[0]'(by omega), (hrs.cell 0).trans (Array.getElem?_eq_getElem _)⟩
   obtain ⟨r1, q1⟩ : ∃ u, wr.cell? ⟨w.heap.size, 1, none⟩ = some u := ⟨rs[1]'(by omega), (hrs.cell 1).trans (Array.getElem?_eq_getElem _)⟩
   have z0 := hrs.frozen 0
   have z1 := hrs.frozen 1
   clear hl hrs hr2
   go_wp2
   refine bodyPost_ret (v := .agg #[.slice (some ⟨w.heap.size + 1, 0, none⟩) 2 2, .slice A0 3 c0]) (by simp [results, Tryz.results9, go_sem, q0, q1]) rfl ?_
   have hl := HL.out
   have hne : ∀ i : Nat, ∀ b, (w.heap.size + 1 ≤ b ∧ b < wr.heap.size) → b ≠ (⟨w.heap.size, i, none⟩ : Addr).block := fun i b hb => by show b ≠ w.heap.size; omega
   have hk : Keeps (fun b => w.heap.size + 1 ≤ b ∧ b < wr.heap.size) wr ((wr.setCell ⟨w.heap.size, 0, none⟩ (.slice (some ⟨w.heap.size + 1, 0, none⟩) 2 2)).setCell ⟨w.heap.size, 1, none⟩ (.slice A0 3 c0)) := ((Keeps.refl _ _).set (hne 0) _).set (hne 1) _
   refine ⟨_, _, css, rfl, (hl.below.setCell (by simp) _).setCell (by simp) _, ⟨_, _, rfl, by decide, by decide, .inr ⟨w.heap.size + 1, 0, rfl, ⟨⟨by omega, by omega⟩, by have := hl.arr.lt; simp [World.setCell]; omega⟩, ?_⟩⟩, ?_⟩
   ·intro i hi
    have hi' : i < 2 := hi
    have hA : Blk _ (w.heap.size + 1) 63 _ := hl.arr.keep (hk _ ⟨by omega, hl.arr.lt⟩)
    rcases (by omega : i = 0 ∨ i = 1) with rfl | rfl
    ·refine ⟨[.string sA, .int .i64 4], rfl, rfl, ?_⟩
     intro j hj
     have hj' : j < 2 := hj
     rw [hA.cell]
     rcases (by omega : j = 0 ∨ j = 1) with rfl | rfl <;> rfl
    ·refine ⟨[.string sB, .int .i64 10], rfl, rfl, ?_⟩
     intro j hj
     have hj' : j < 2 := hj
     rw [hA.cell]
     rcases (by omega : j = 0 ∨ j = 1) with rfl | rfl <;> rfl
   ·have h := hl.own.keep mono_flow (hk.mono fun b hb => ⟨by omega, hb.2⟩) (by simp [World.setCell])
    exact h
end Go.Proofs.YtkpigkopjfkepaaGreatDoor
