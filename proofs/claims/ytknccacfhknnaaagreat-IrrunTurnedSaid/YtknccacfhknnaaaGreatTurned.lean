/- What turned does to a function of Fit's: its blocks and values are turned. -/
import Derived.Test.YtknccacfhknnaaaGreatTurnC
namespace Go.Proofs.YtknccacfhknnaaaGreat
open Go.RowKit
open Go.Deep

/-- while the blocks are turned: i of them stand at their places -/
structure TurnAt (l : List LBlock) (p by_ t i : Nat) (acc : List LBlock) : Prop where
  len : acc.length = l.length
  at_ : ∀ (j : Nat) (h : j < l.length), j < i → acc[blN l.length by_ j]? = some (renBlock (turnR l.length p by_ t) l[j])
theorem TurnAt.next {l : List LBlock} {p by_ t i : Nat} {acc : List LBlock} (h : TurnAt l p by_ t i acc) (hn : l.length < 9) (hb : by_ < 8) (hi : i < l.length) :
    TurnAt l p by_ t (i + 1) (acc.set (blN l.length by_ i) (renBlock (turnR l.length p by_ t) l[i])) := by
  refine ⟨by rw [List.length_set]; exact h.len, fun j hj hji => ?_⟩
  by_cases e : j = i
  · subst e
    rw [List.getElem?_set_self (by rw [h.len]; exact blN_lt hj)]
  · rw [List.getElem?_set_ne (fun e2 => e (blN_inj hn hb hj hi e2.symm))]
    exact h.at_ j hj (by omega)
theorem TurnAt.done {l : List LBlock} {p by_ t : Nat} {acc : List LBlock} (h : TurnAt l p by_ t l.length acc) : TurnedL l p by_ t acc := ⟨h.len, fun i hi => h.at_ i hi hi⟩
/-- what turned hands back -/
def TurnPost (f : LFlow) (p by_ t : Nat) (w : World) (e : Ending) (w' : World) : Prop :=
  ∃ bs g, e = .returned (.agg #[.string f.name, .int .i64 f.params, .int .i64 f.values, .slice (some ⟨g, 0, none⟩) f.blocks.length f.blocks.length]) ∧ Below w.heap.size w w' ∧ TurnedL f.blocks p by_ t bs ∧
    SlR w' (fun b => w.heap.size ≤ b ∧ b < w'.heap.size) 5 (RBlock w' (fun b => w.heap.size ≤ b ∧ b < w'.heap.size)) (.slice (some ⟨g, 0, none⟩) f.blocks.length f.blocks.length) bs

theorem made_rows (z : List Value) (n : Nat) (hz : z.length = 5) : (madeCells z.toArray (n * 5)).toList = (List.replicate n z).flatten := by
  have hl : (List.replicate n z).flatten.length = n * 5 := by simp [hz]
  apply List.ext_getElem?
  intro k
  by_cases hk : k < n * 5
  · have h1 : k / 5 < (List.replicate n z).length := by rw [List.length_replicate]; omega
    have h2 : k % 5 < ((List.replicate n z)[k / 5]).length := by rw [List.getElem_replicate, hz]; omega
    have h3 := flatten_get (sz := 5) (List.replicate n z) (fun cs hcs => by rw [(List.mem_replicate.1 hcs).2, hz]) (k / 5) (k % 5) h1 h2
    rw [show k / 5 * 5 + k % 5 = k by omega] at h3
    rw [h3]
    have hk5 : k % 5 < z.length := by omega
    have e : (madeCells z.toArray (n * 5)).toList[k]? = some (z.toArray[k % z.toArray.size]!) := by
      simp [madeCells, hk]
    rw [e]
    simp only [List.size_toArray, hz, List.getElem!_toArray, List.getElem_replicate]
    rw [getElem!_pos z (k % 5) hk5]
  · rw [List.getElem?_eq_none (by simp [madeCells]; omega), List.getElem?_eq_none (by rw [hl]; omega)]
def zBlk : List Value := [.slice none 0 0, .int .i64 0, .int .i64 0, .int .i64 0, .int .i64 0]
theorem own_zero {w : World} {base g n : Nat} {T : TypeId} (h : Blk w g T (madeCells #[.slice none 0 0, .int .i64 0, .int .i64 0, .int .i64 0, .int .i64 0] (n * 5))) (hb : base ≤ g) (hn : n ≤ 1000) :
    OwnL w base T 5 RBlock (.slice (some ⟨g, 0, none⟩) n n) (List.replicate n noBlock) (List.replicate n zBlk) := by
  have hs : (madeCells #[.slice none 0 0, .int .i64 0, .int .i64 0, .int .i64 0, .int .i64 0] (n * 5)).size = n * 5 := size_madeCells _ _
  have hrow := own_made h hb (by unfold maxLen; omega) hs
  rw [show (#[.slice none 0 0, .int .i64 0, .int .i64 0, .int .i64 0, .int .i64 0] : Array Value) = zBlk.toArray from rfl, made_rows zBlk n rfl] at hrow
  refine ⟨by simp, fun cs hcs => by rw [(List.mem_replicate.1 hcs).2]; rfl, by rw [List.length_replicate]; exact hrow, fun i h1 h2 => ?_⟩
  rw [List.getElem_replicate, List.getElem_replicate]
  exact ⟨_, rfl, SlR.nil_ _ _ _ _⟩
theorem make_blocks (n : Nat) (hn : n ≤ 1000) (w : World) : (Instr.makeSlice 22 (.int .i64 (n : Int)) (.int .i64 (n : Int))).run Tryz.prog w = .ok (.slice (some ⟨w.heap.size, 0, none⟩) n n) (w.alloc (.cells (madeCells #[.slice none 0 0, .int .i64 0, .int .i64 0, .int .i64 0, .int .i64 0] (n * 5)) 48)) := by
  obtain ⟨z0, hi0, hz0, hz1, hz2⟩ := info_parts info_block
  have h := run_make (P := Tryz.prog) w 22 48 z0 _ Tryz.underlying22 hi0 hz0 .i64 .i64 n n (by omega) (Int.le_refl _) (by rw [hz2]; omega) (by omega)
  simp only [Int.toNat_natCast, hz1] at h
  exact h

/-- what turned asks of an instruction, and of a block, of n -/
structure InsG (x : LIns) : Prop where
  kind : 1 ≤ x.kind ∧ x.kind ≤ 9
  d : 0 ≤ x.d ∧ x.d < 10
  a : 0 ≤ x.a ∧ x.a < 10
  b : 0 ≤ x.b ∧ x.b < 10
  args : ∀ n ∈ x.args, 0 ≤ n ∧ n < 10
  alen : x.args.length ≤ 2
structure BlkG (n : Nat) (b : LBlock) : Prop where
  ins : ∀ x ∈ b.ins, InsG x
  len : b.ins.length ≤ 6
  kind : 1 ≤ b.term.kind ∧ b.term.kind ≤ 4
  a : 0 ≤ b.term.a ∧ b.term.a < 10
  dest : 0 ≤ b.term.to ∧ b.term.to < (n : Int)
  els : 0 ≤ b.term.els ∧ b.term.els < (n : Int)
theorem blkG_fit (raw : List LBlock) (k : Nat) : ∀ b ∈ (fitFl raw k).blocks, BlkG (fitFl raw k).blocks.length b := fun b hb => by
  have hl := fit_ins raw k b hb
  have hpos := orOne_pos (picks raw k 8)
  obtain ⟨y, _, rfl⟩ := List.mem_map.1 hb
  rw [fit_len]
  refine ⟨fun x hx => ?_, hl, fitTerm_kind _ _, fitTerm_a _ _, fitTerm_to _ _ (by omega), fitTerm_els _ _ (by omega)⟩
  obtain ⟨z, _, rfl⟩ := List.mem_map.1 hx
  exact ⟨fitIns_kind z, fitIns_d z, fitIns_a z, fitIns_b z, (fitIns_args z).1, (fitIns_args z).2⟩
/-- the world in the loop over the blocks -/
structure T1 (f : LFlow) (p by_ t : Nat) (W0 : World) (ob gb i : Nat) (acc : List LBlock) (css : List (List Value)) (wr : World) : Prop where
  below : Below W0.heap.size W0 wr
  oB : Blk wr ob 35 #[.string f.name, .int .i64 (p : Int), .int .i64 10, .slice (some ⟨gb, 0, none⟩) f.blocks.length f.blocks.length]
  own : OwnL wr W0.heap.size 48 5 RBlock (.slice (some ⟨gb, 0, none⟩) f.blocks.length f.blocks.length) acc css
  at_ : TurnAt f.blocks p by_ t i acc
/-- .. in the loop over a block's instructions -/
structure T2 (x : LBlock) (r : Renum) (vi : Value) (wr : World) (j : Nat) (v : Value) (css : List (List Value)) (wj : World) : Prop where
  below : Below wr.heap.size wr wj
  bB : Blk wj wr.heap.size 48 (vi :: termCells x.term).toArray
  cB : Blk wj (wr.heap.size + 1) 48 #[v, .int .i64 0, .int .i64 0, .int .i64 0, .int .i64 0]
  own : OwnL wj (wr.heap.size + 2) 44 8 RIns v ((x.ins.take j).map (renIns r)) css
/-- .. while an instruction is made -/
structure T3 (x : LIns) (r : Renum) (wj : World) (k : Nat) (v : Value) (cs : Array Value) (wq : World) : Prop where
  below : Below wj.heap.size wj wq
  xB : Blk wq wj.heap.size 44 cs
  own : wq.ownsRow (wj.heap.size + 1) 3 1 v k ((x.args.take k).map fun a => .int .i64 (r.va a))
theorem T3.next {x : LIns} {r : Renum} {wj : World} {k g cap : Nat} {v : Value} {cs : Array Value} {wq w5 w6 : World} {o : Obj} {u : Int} (h : T3 x r wj k v cs wq) (hk : k < x.args.length) (hb : Below wq.heap.size wq w5)
    (hown : w6.ownsRow (wj.heap.size + 1) 3 1 (.slice (some ⟨g, 0, none⟩) (k + 1) cap) (k + 1) (((x.args.take k).map fun a => .int .i64 (r.va a)) ++ [.int .i64 u])) (hu : r.va x.args[k] = u) (hg : (w5.alloc o).grownBy w6 v.ownBlock) :
    T3 x r wj (k + 1) (.slice (some ⟨g, 0, none⟩) (k + 1) cap) cs w6 := by
  have h0 := h.xB.lt
  have h1 := h.below.size
  have h2 := hb.size
  have hlt := h.own.lt
  refine ⟨((h.below.trans (hb.mono h1)).alloc (by omega) o).grown hg (by simp; omega) (fun b e => by have := (hlt b e).1; omega), ((h.xB.below hb h0).alloc o).grown hg (fun e => by have := (hlt _ e).1; omega), ?_⟩
  rw [List.take_succ_eq_append_getElem hk, List.map_append]
  rw [← hu] at hown
  exact hown
theorem T3.set {x : LIns} {r : Renum} {wj : World} {k : Nat} {v : Value} {cs : Array Value} {wq : World} (h : T3 x r wj k v cs wq) (i : Nat) (u : Value) : T3 x r wj k v (cs.setIfInBounds i u) (wq.setCell ⟨wj.heap.size, i, none⟩ u) :=
  ⟨h.below.setCell (Nat.le_refl _) _, h.xB.set_ i u, own_keep h.own fun g e => Below.heap_setCell _ _ _ g (by have := (h.own.lt g e).1; show g ≠ wj.heap.size; omega)⟩
theorem T3.on {x : LIns} {r : Renum} {wj : World} {k : Nat} {v : Value} {cs : Array Value} {wq w5 : World} (h : T3 x r wj k v cs wq) (hb : Below wq.heap.size wq w5) : T3 x r wj k v cs w5 :=
  ⟨h.below.trans (hb.mono h.below.size), h.xB.below hb h.xB.lt, h.own.kept (grown_below' (row := none) hb) (Classical.em _)⟩
theorem T2.next {x : LBlock} {r : Renum} {vi : Value} {wo : World} {j : Nat} {v : Value} {css : List (List Value)} {wj w4 w6 : World} {o : Obj} {g cap : Nat} {va : Value} (hl : T2 x r vi wo j v css wj) (hj : j < x.ins.length)
    (hbw : Below wj.heap.size wj w4) (hsl : SlR w4 (fun b => wj.heap.size ≤ b ∧ b < w4.heap.size) 1 RInt va (renIns r x.ins[j]).args)
    (hown : w6.ownsRow (wo.heap.size + 2) 44 8 (.slice (some ⟨g, 0, none⟩) (j + 1) cap) (j + 1) (css.flatten ++ insCells (renIns r x.ins[j]) va))
    (hg : (w4.alloc o).grownBy w6 v.ownBlock) (hat : v.ownBlock = some g ∨ g = w4.heap.size + 1) :
    T2 x r vi wo (j + 1) (.slice (some ⟨g, 0, none⟩) (j + 1) cap) (css ++ [insCells (renIns r x.ins[j]) va]) (w6.setCell ⟨wo.heap.size + 1, 0, none⟩ (.slice (some ⟨g, 0, none⟩) (j + 1) cap)) := by
  have hb : wo.heap.size ≤ wj.heap.size := hl.below.size
  have hb2 : wj.heap.size ≤ w4.heap.size := hbw.size
  have h3 : wo.heap.size + 1 < wj.heap.size := hl.cB.lt
  have hbase : ∀ k, v.ownBlock = some k → wo.heap.size + 2 ≤ k ∧ k < wj.heap.size := hl.own.lt
  have hne : ∀ k, k < wo.heap.size + 2 → v.ownBlock ≠ some k := fun k hk e => by have := (hbase k e).1; omega
  have hB : Below wo.heap.size wo w6 := ((hl.below.trans (hbw.mono hb)).alloc (by omega) o).grown hg (by simp; omega) (fun k e => by have := (hbase k e).1; omega)
  have e : (x.ins.take (j + 1)).map (renIns r) = (x.ins.take j).map (renIns r) ++ [renIns r x.ins[j]] := by
    rw [List.take_succ_eq_append_getElem hj, List.map_append]; rfl
  have hk : Keeps (fun b => wo.heap.size + 2 ≤ b ∧ b < wj.heap.size) wj (w4.alloc o) := fun b hb' => (Below.heap_alloc w4 o b (by omega)).trans (hbw.block b hb'.2)
  have hjl : ((x.ins.take j).map (renIns r)).length = j := by simp; omega
  have hsn := OwnL.snoc (x := renIns r x.ins[j]) (cs := insCells (renIns r x.ins[j]) va) mono_ins hl.own hk (by simp; omega) (by rfl) (by rw [hjl]; exact hown) hg (hat.imp id fun h => by rw [h]; simp) (by
    refine ⟨va, rfl, hsl.imp (fun b hb' => ⟨by omega, by simp; omega, fun h => by have := (hbase b h).2; omega⟩) (fun b hb' => Below.heap_alloc w4 o b hb'.2) (fun _ _ _ r => r)⟩)
  refine ⟨hB.setCell (by simp) _, ?_, ?_, ?_⟩
  · exact (((hl.bB.below hbw (by omega)).alloc o).grown hg (hne _ (by omega))).far (by simp) _
  · exact (((hl.cB.below hbw (by omega)).alloc o).grown hg (hne _ (by omega))).set_ 0 _
  · rw [hjl] at hsn
    rw [e]
    exact hsn.keep mono_ins ((Keeps.refl _ _).set (fun b hb' => by show b ≠ wo.heap.size + 1; omega) _) (by simp [World.setCell])
/-- a block that is made: its end so far -/
structure TD (x : LBlock) (r : Renum) (vi : Value) (wo : World) (v : Value) (css : List (List Value)) (k a to_ e : Int) (V : World) : Prop where
  below : Below wo.heap.size wo V
  cB : Blk V (wo.heap.size + 1) 48 #[v, .int .i64 k, .int .i64 a, .int .i64 to_, .int .i64 e]
  own : OwnL V (wo.heap.size + 2) 44 8 RIns v (x.ins.map (renIns r)) css
  bB : Blk V wo.heap.size 48 (vi :: termCells x.term).toArray
section
variable {x : LBlock} {r : Renum} {vi : Value} {wo : World} {v : Value} {css : List (List Value)} {k a to_ e : Int} {V V' : World}
theorem TD.on (h : TD x r vi wo v css k a to_ e V) (hb : Below V.heap.size V V') : TD x r vi wo v css k a to_ e V' := ⟨h.below.trans (hb.mono h.below.size), h.cB.below hb h.cB.lt, h.own.below mono_ins hb, h.bB.below hb h.bB.lt⟩
theorem TD.own_set (h : TD x r vi wo v css k a to_ e V) (i : Nat) (u : Value) : Below wo.heap.size wo (V.setCell ⟨wo.heap.size + 1, i, none⟩ u) ∧ OwnL (V.setCell ⟨wo.heap.size + 1, i, none⟩ u) (wo.heap.size + 2) 44 8 RIns v (x.ins.map (renIns r)) css ∧ Blk (V.setCell ⟨wo.heap.size + 1, i, none⟩ u) wo.heap.size 48 (vi :: termCells x.term).toArray :=
  ⟨h.below.setCell (by simp) _, h.own.keep mono_ins ((Keeps.refl _ _).set (fun b hb => by show b ≠ wo.heap.size + 1; omega) _) (by simp [World.setCell]), h.bB.far (by simp) _⟩
theorem TD.set_a (h : TD x r vi wo v css k a to_ e V) (u : Int) : TD x r vi wo v css k u to_ e (V.setCell ⟨wo.heap.size + 1, 2, none⟩ (.int .i64 u)) := ⟨(h.own_set 2 _).1, h.cB.set_ 2 _, (h.own_set 2 _).2.1, (h.own_set 2 _).2.2⟩
theorem TD.set_to (h : TD x r vi wo v css k a to_ e V) (u : Int) : TD x r vi wo v css k a u e (V.setCell ⟨wo.heap.size + 1, 3, none⟩ (.int .i64 u)) := ⟨(h.own_set 3 _).1, h.cB.set_ 3 _, (h.own_set 3 _).2.1, (h.own_set 3 _).2.2⟩
theorem TD.set_els (h : TD x r vi wo v css k a to_ e V) (u : Int) : TD x r vi wo v css k a to_ u (V.setCell ⟨wo.heap.size + 1, 4, none⟩ (.int .i64 u)) := ⟨(h.own_set 4 _).1, h.cB.set_ 4 _, (h.own_set 4 _).2.1, (h.own_set 4 _).2.2⟩
end
theorem OwnL.put5' {α : Type} {w : World} {base : Nat} {T : TypeId} {R : World → (Nat → Prop) → List Value → α → Prop} {l : List α} {css : List (List Value)} {g cap n : Nat} {x : α} {c0 c1 c2 c3 c4 : Value} {j : Nat} (hm : MonoR R)
    (h : OwnL w base T 5 R (.slice (some ⟨g, 0, none⟩) n cap) l css) (hn : n = l.length) (hj : j < n) (hx : R w (okOwn base w (.slice (some ⟨g, 0, none⟩) n cap)) [c0, c1, c2, c3, c4] x) :
    OwnL (((((w.setCell ⟨g, j * 5, none⟩ c0).setCell ⟨g, j * 5 + 1, none⟩ c1).setCell ⟨g, j * 5 + 2, none⟩ c2).setCell ⟨g, j * 5 + 3, none⟩ c3).setCell ⟨g, j * 5 + 4, none⟩ c4)
      base T 5 R (.slice (some ⟨g, 0, none⟩) n cap) (l.set j x) (css.set j [c0, c1, c2, c3, c4]) := by
  subst hn
  exact h.put5 hm hj hx
set_option maxRecDepth 100000 in
set_option maxHeartbeats 16000000 in
theorem turned_any (f : LFlow) (p by_ t : Nat) (hp : p < 3) (hby : by_ < 8) (ht : t < 8) (hfp : f.params = (p : Int)) (hfv : f.values = 10) (hn8 : f.blocks.length ≤ 8) (hn0 : 0 < f.blocks.length) (hok : ∀ b ∈ f.blocks, BlkG f.blocks.length b) (vb : Value) (w : World) (hv : SlR w (· < w.heap.size) 5 (RBlock w (· < w.heap.size)) vb f.blocks) :
    Calls Tryz.prog 10 #[.agg #[.string f.name, .int .i64 f.params, .int .i64 f.values, vb], .int .i64 (by_ : Int), .int .i64 (t : Int)] w (TurnPost f p by_ t w) := by
  rw [hfp, hfv]
  obtain ⟨A, c, hvb, hlc, hcm⟩ := hv.val
  subst hvb
  have HV := Lib.hid hv
  have HOK := Lib.hid hok
  have HFP := Lib.hid hfp
  have HFV := Lib.hid hfv
  clear hv hok hfp hfv
  go_enter Tryz.func10, Tryz.ntmps10
  go_upto_region 4 with fail
  refine wp_world ?_
  intro W0 hW0
  have hB0 : Below w.heap.size w W0 := by
    rw [← hW0]; exact (((((Below.refl _ _).alloc (Nat.le_refl _) _).alloc (by simp) _).alloc (by simp <;> omega) _).alloc (by simp <;> omega) _).alloc (by simp <;> omega) _
  have hfB : Blk W0 w.heap.size 35 #[.string f.name, .int .i64 (p : Int), .int .i64 10, .slice A f.blocks.length c] := by rw [← hW0]; exact ((((Blk.new w _ _).alloc _).alloc _).alloc _).alloc _
  have hyB : Blk W0 (w.heap.size + 1) 3 #[.int .i64 (by_ : Int)] := by rw [← hW0]; exact (((Blk.new_at _ _ _ (by simp)).alloc _).alloc _).alloc _
  have htB : Blk W0 (w.heap.size + 1 + 1) 3 #[.int .i64 (t : Int)] := by rw [← hW0]; exact ((Blk.new_at _ _ _ (by simp)).alloc _).alloc _
  have hrB : Blk W0 (w.heap.size + 1 + 1 + 1) 35 #[.string ⟨#[]⟩, .int .i64 0, .int .i64 0, .slice none 0 0] := by rw [← hW0]; exact (Blk.new_at _ _ _ (by simp)).alloc _
  have hnB : Blk W0 (w.heap.size + 1 + 1 + 1 + 1) 3 #[.int .i64 (f.blocks.length : Int)] := by rw [← hW0]; exact Blk.new_at _ _ _ (by simp)
  have hs0 : W0.heap.size = w.heap.size + 5 := by rw [← hW0]; simp
  have hs0a : w.heap.size + 1 + 1 + 1 + 1 < W0.heap.size := by omega
  have SO4 : Hid (∀ X, Below W0.heap.size W0 X → (fun w2 => w2.cell? ⟨w.heap.size, 0, none⟩ = some (.string f.name) ∧ w2.cell? ⟨w.heap.size, 1, none⟩ = some (.int .i64 (p : Int)) ∧ w2.cell? ⟨w.heap.size, 2, none⟩ = some (.int .i64 10) ∧ w2.cell? ⟨w.heap.size + 1 + 1 + 1 + 1, 0, none⟩ = some (.int .i64 (f.blocks.length : Int))) X) := Lib.hid (fun X hb => ⟨(hfB.below hb hfB.lt).cell 0, (hfB.below hb hfB.lt).cell 1, (hfB.below hb hfB.lt).cell 2, (hnB.below hb hnB.lt).cell 0⟩)
  have HB0 := Lib.hid hB0
  have HFB := Lib.hid hfB
  have HRB := Lib.hid hrB
  have HNB := Lib.hid hnB
  -- the closures
  have HBL := Lib.hid (fun (X : World) (hb : Below W0.heap.size W0 X) (k : Nat) (hk : k < f.blocks.length) => tblock_any f.blocks.length by_ k hn8 hby hk (w.heap.size + 1 + 1 + 1 + 1) (w.heap.size + 1) X ((hnB.below hb hnB.lt).cell 0) ((hyB.below hb hyB.lt).cell 0))
  have HVA := Lib.hid (fun (X : World) (hb : Below W0.heap.size W0 X) (k : Int) (k0 : 0 ≤ k) (k1 : k < 10) => tvalue_any p t hp ht k k0 k1 w.heap.size (w.heap.size + 1 + 1) X ((hfB.below hb hfB.lt).cell 1) ((hfB.below hb hfB.lt).cell 2) ((htB.below hb htB.lt).cell 0))
  have HBZ : Hid (∀ (X : World) (_ : Below W0.heap.size W0 X) (k : Int) (_ : 0 ≤ k) (_ : k < (f.blocks.length : Int)), Calls Tryz.prog 22 #[.int .i64 k, .pointer (some ⟨w.heap.size + 1 + 1 + 1 + 1, 0, none⟩), .pointer (some ⟨w.heap.size + 1, 0, none⟩)] X fun e w' => e = .returned (.int .i64 ((blN f.blocks.length by_ k.toNat : Nat) : Int)) ∧ X = w') := Lib.hid (fun X hb k k0 k1 => by
    have h := HBL.out X hb k.toNat (by omega)
    rw [Int.toNat_of_nonneg k0] at h
    exact h)
  clear hW0 hB0 hfB hyB htB hrB hnB hs0
  go_cut [10] (fun s10 wx => ∃ ob gb, s10 = .pointer (some ⟨ob, 0, none⟩) ∧ W0.heap.size ≤ ob ∧ W0.heap.size ≤ gb ∧ ob ≠ gb ∧ Below W0.heap.size W0 wx ∧ Blk wx ob 35 #[.string f.name, .int .i64 (p : Int), .int .i64 10, .slice (some ⟨gb, 0, none⟩) f.blocks.length f.blocks.length] ∧ Blk wx gb 48 (madeCells #[.slice none 0 0, .int .i64 0, .int .i64 0, .int .i64 0, .int .i64 0] (f.blocks.length * 5)))
  case first =>
    as_aux_lemma =>
      have hmk := make_blocks f.blocks.length (by omega)
      have hz0 : Below W0.heap.size W0 W0.drew := (Below.refl _ _).drew
      refine wp_region_L (by kernel_rfl) 10 (fun w2 => w2.cell? ⟨w.heap.size, 0, none⟩ = some (.string f.name) ∧ w2.cell? ⟨w.heap.size, 1, none⟩ = some (.int .i64 (p : Int)) ∧ w2.cell? ⟨w.heap.size, 2, none⟩ = some (.int .i64 10) ∧ w2.cell? ⟨w.heap.size + 1 + 1 + 1 + 1, 0, none⟩ = some (.int .i64 (f.blocks.length : Int))) (SO4.out _ hz0) (fun hHeld => ?_)
      have HS0 := Lib.hid hHeld
      clear hHeld
      change wpAnyL _ _ _ _ _ 10 11 (Array.replicate 11 false) _ _
      generalize W0.drew = X0 at *
      have HZ0 := Lib.hid hz0
      clear hz0
      refine takeL 0 23 (.pointer (some ⟨w.heap.size, 0, none⟩)) HS0.out rfl rfl (by kernel_rfl) (by kernel_rfl) (by kernel_rfl) (by decide) (fun _ _ _ h => h) (by kernel_rfl) ?_ ?_
      · intro w2; go_simp
      simp only [List.setIfInBounds_toArray, List.set_cons_zero, List.set_cons_succ]
      refine takeL_S 1 24 (.string f.name) [10] HS0.out rfl rfl (by kernel_rfl) (by kernel_rfl) (by kernel_rfl) (by decide) (by kernel_rfl) (fun _ _ _ h => h) (by kernel_rfl) ?_ ?_
      · intro w2 hSw; obtain ⟨g0, g1, g2, g3⟩ := hSw; go_simp
      simp only [List.setIfInBounds_toArray, List.set_cons_zero, List.set_cons_succ]
      refine takeL 2 25 (.pointer (some ⟨w.heap.size, 1, none⟩)) HS0.out rfl rfl (by kernel_rfl) (by kernel_rfl) (by kernel_rfl) (by decide) (fun _ _ _ h => h) (by kernel_rfl) ?_ ?_
      · intro w2; go_simp
      simp only [List.setIfInBounds_toArray, List.set_cons_zero, List.set_cons_succ]
      refine takeL_S 3 26 (.int .i64 (p : Int)) [10] HS0.out rfl rfl (by kernel_rfl) (by kernel_rfl) (by kernel_rfl) (by decide) (by kernel_rfl) (fun _ _ _ h => h) (by kernel_rfl) ?_ ?_
      · intro w2 hSw; obtain ⟨g0, g1, g2, g3⟩ := hSw; go_simp
      simp only [List.setIfInBounds_toArray, List.set_cons_zero, List.set_cons_succ]
      refine takeL 4 27 (.pointer (some ⟨w.heap.size, 2, none⟩)) HS0.out rfl rfl (by kernel_rfl) (by kernel_rfl) (by kernel_rfl) (by decide) (fun _ _ _ h => h) (by kernel_rfl) ?_ ?_
      · intro w2; go_simp
      simp only [List.setIfInBounds_toArray, List.set_cons_zero, List.set_cons_succ]
      refine takeL_S 5 28 (.int .i64 10) [10] HS0.out rfl rfl (by kernel_rfl) (by kernel_rfl) (by kernel_rfl) (by decide) (by kernel_rfl) (fun _ _ _ h => h) (by kernel_rfl) ?_ ?_
      · intro w2 hSw; obtain ⟨g0, g1, g2, g3⟩ := hSw; go_simp
      simp only [List.setIfInBounds_toArray, List.set_cons_zero, List.set_cons_succ]
      refine takeL_S 6 29 (.int .i64 (f.blocks.length : Int)) [10] HS0.out rfl rfl (by kernel_rfl) (by kernel_rfl) (by kernel_rfl) (by decide) (by kernel_rfl) (fun _ _ _ h => h) (by kernel_rfl) ?_ ?_
      · intro w2 hSw; obtain ⟨g0, g1, g2, g3⟩ := hSw; go_simp
      simp only [List.setIfInBounds_toArray, List.set_cons_zero, List.set_cons_succ]
      refine wpAnyL_ready (rs := [7, 9]) (by kernel_rfl) (by simp) ?_
      refine AllReadyL.cons rfl (fun K hK => ?_) (AllReadyL.cons rfl (fun K hK => ?_) AllReadyL.nil)
      · go_simp
        refine hK.out _ _ (SO4.out _ (HZ0.out.alloc HZ0.out.size _)) (fun hHeld => ?_)
        have HS1 := Lib.hid hHeld
        clear hK K hHeld
        try simp only [List.setIfInBounds_toArray, List.set_cons_zero, List.set_cons_succ]
        have hz1 : Below W0.heap.size W0 (X0.alloc (.cells (madeCells #[.slice none 0 0, .int .i64 0, .int .i64 0, .int .i64 0, .int .i64 0] (f.blocks.length * 5)) 48)) := HZ0.out.alloc HZ0.out.size _
        have hg1 : Blk (X0.alloc (.cells (madeCells #[.slice none 0 0, .int .i64 0, .int .i64 0, .int .i64 0, .int .i64 0] (f.blocks.length * 5)) 48)) X0.heap.size 48 (madeCells #[.slice none 0 0, .int .i64 0, .int .i64 0, .int .i64 0, .int .i64 0] (f.blocks.length * 5)) := Blk.new X0 _ _
        have hgb : W0.heap.size ≤ X0.heap.size := HZ0.out.size
        generalize (X0.alloc (.cells (madeCells #[.slice none 0 0, .int .i64 0, .int .i64 0, .int .i64 0, .int .i64 0] (f.blocks.length * 5)) 48)) = X1 at *
        have HZ1 := Lib.hid hz1
        have HG1 := Lib.hid hg1
        have HGB := Lib.hid hgb
        clear hz1 hg1 hgb
        refine takeL 8 31 (.agg #[.string f.name, .int .i64 (p : Int), .int .i64 10, .slice (some ⟨X0.heap.size, 0, none⟩) f.blocks.length f.blocks.length]) HS1.out rfl rfl (by kernel_rfl) (by kernel_rfl) (by kernel_rfl) (by decide) (fun _ _ _ h => h) (by kernel_rfl) ?_ ?_
        · intro w2; go_simp
        simp only [List.setIfInBounds_toArray, List.set_cons_zero, List.set_cons_succ]
        refine wpAnyL_ready (rs := [9]) (by kernel_rfl) (by simp) ?_
        refine AllReadyL.cons rfl (fun K hK => ?_) AllReadyL.nil
        go_simp
        refine hK.out _ _ (SO4.out _ (HZ1.out.alloc HZ1.out.size _)) (fun hHeld => ?_)
        have HS2 := Lib.hid hHeld
        clear hK K hHeld
        try simp only [List.setIfInBounds_toArray, List.set_cons_zero, List.set_cons_succ]
        have hz2 : Below W0.heap.size W0 (X1.alloc (.cells #[.string ⟨#[]⟩, .int .i64 0, .int .i64 0, .slice none 0 0] 35)) := HZ1.out.alloc HZ1.out.size _
        have ho2 : Blk (X1.alloc (.cells #[.string ⟨#[]⟩, .int .i64 0, .int .i64 0, .slice none 0 0] 35)) X1.heap.size 35 #[.string ⟨#[]⟩, .int .i64 0, .int .i64 0, .slice none 0 0] := Blk.new X1 _ _
        have hob : W0.heap.size ≤ X1.heap.size := HZ1.out.size
        have hne : X1.heap.size ≠ X0.heap.size := by have := HG1.out.lt; omega
        have hg2 := HG1.out.alloc (.cells #[.string ⟨#[]⟩, .int .i64 0, .int .i64 0, .slice none 0 0] 35)
        generalize (X1.alloc (.cells #[.string ⟨#[]⟩, .int .i64 0, .int .i64 0, .slice none 0 0] 35)) = X2 at *
        have HZ2 := Lib.hid hz2
        have HO2 := Lib.hid ho2
        have HG2 := Lib.hid hg2
        have HOB := Lib.hid hob
        have HNE := Lib.hid hne
        clear hz2 ho2 hg2 hob hne
        have y0 := HO2.out.cell 0
        have y1 := HO2.out.cell 1
        have y2 := HO2.out.cell 2
        have y3 := HO2.out.cell 3
        have yz0 := HO2.out.frozen 0
        have yz1 := HO2.out.frozen 1
        have yz2 := HO2.out.frozen 2
        have yz3 := HO2.out.frozen 3
        refine wpAnyL_ready (rs := [10]) (by kernel_rfl) (by simp) ?_
        refine AllReadyL.last rfl (by kernel_rfl) (fun K hK => ?_)
        go_simp
        refine hK.out _ _ ?_
        clear hK K
        try simp only [List.setIfInBounds_toArray, List.set_cons_zero, List.set_cons_succ]
        refine wpAnyL_done (by kernel_rfl) ?_ _
        go_wp2_with fail
        go_meet
        exact ⟨X1.heap.size, X0.heap.size, rfl, HOB.out, HGB.out, HNE.out, (((HZ2.out.setCell HOB.out _).setCell HOB.out _).setCell HOB.out _).setCell HOB.out _, (((HO2.out.set_ 0 _).set_ 1 _).set_ 2 _).set_ 3 _, (((HG2.out.far HNE.out.symm _).far HNE.out.symm _).far HNE.out.symm _).far HNE.out.symm _⟩
      · go_simp
        refine hK.out _ _ (SO4.out _ (HZ0.out.alloc HZ0.out.size _)) (fun hHeld => ?_)
        have HS1 := Lib.hid hHeld
        clear hK K hHeld
        try simp only [List.setIfInBounds_toArray, List.set_cons_zero, List.set_cons_succ]
        have hz1 : Below W0.heap.size W0 (X0.alloc (.cells #[.string ⟨#[]⟩, .int .i64 0, .int .i64 0, .slice none 0 0] 35)) := HZ0.out.alloc HZ0.out.size _
        have ho1 : Blk (X0.alloc (.cells #[.string ⟨#[]⟩, .int .i64 0, .int .i64 0, .slice none 0 0] 35)) X0.heap.size 35 #[.string ⟨#[]⟩, .int .i64 0, .int .i64 0, .slice none 0 0] := Blk.new X0 _ _
        have hob : W0.heap.size ≤ X0.heap.size := HZ0.out.size
        generalize (X0.alloc (.cells #[.string ⟨#[]⟩, .int .i64 0, .int .i64 0, .slice none 0 0] 35)) = X1 at *
        have HZ1 := Lib.hid hz1
        have HO1 := Lib.hid ho1
        have HOB := Lib.hid hob
        clear hz1 ho1 hob
        refine wpAnyL_ready (rs := [7]) (by kernel_rfl) (by simp) ?_
        refine AllReadyL.cons rfl (fun K hK => ?_) AllReadyL.nil
        go_simp
        refine hK.out _ _ (SO4.out _ (HZ1.out.alloc HZ1.out.size _)) (fun hHeld => ?_)
        have HS2 := Lib.hid hHeld
        clear hK K hHeld
        try simp only [List.setIfInBounds_toArray, List.set_cons_zero, List.set_cons_succ]
        have hz2 : Below W0.heap.size W0 (X1.alloc (.cells (madeCells #[.slice none 0 0, .int .i64 0, .int .i64 0, .int .i64 0, .int .i64 0] (f.blocks.length * 5)) 48)) := HZ1.out.alloc HZ1.out.size _
        have hg2 : Blk (X1.alloc (.cells (madeCells #[.slice none 0 0, .int .i64 0, .int .i64 0, .int .i64 0, .int .i64 0] (f.blocks.length * 5)) 48)) X1.heap.size 48 (madeCells #[.slice none 0 0, .int .i64 0, .int .i64 0, .int .i64 0, .int .i64 0] (f.blocks.length * 5)) := Blk.new X1 _ _
        have hgb : W0.heap.size ≤ X1.heap.size := HZ1.out.size
        have hne : X0.heap.size ≠ X1.heap.size := by have := HO1.out.lt; omega
        have ho2 := HO1.out.alloc (.cells (madeCells #[.slice none 0 0, .int .i64 0, .int .i64 0, .int .i64 0, .int .i64 0] (f.blocks.length * 5)) 48)
        generalize (X1.alloc (.cells (madeCells #[.slice none 0 0, .int .i64 0, .int .i64 0, .int .i64 0, .int .i64 0] (f.blocks.length * 5)) 48)) = X2 at *
        have HZ2 := Lib.hid hz2
        have HG2 := Lib.hid hg2
        have HO2 := Lib.hid ho2
        have HGB := Lib.hid hgb
        have HNE := Lib.hid hne
        clear hz2 hg2 ho2 hgb hne
        refine takeL 8 31 (.agg #[.string f.name, .int .i64 (p : Int), .int .i64 10, .slice (some ⟨X1.heap.size, 0, none⟩) f.blocks.length f.blocks.length]) HS2.out rfl rfl (by kernel_rfl) (by kernel_rfl) (by kernel_rfl) (by decide) (fun _ _ _ h => h) (by kernel_rfl) ?_ ?_
        · intro w2; go_simp
        simp only [List.setIfInBounds_toArray, List.set_cons_zero, List.set_cons_succ]
        have y0 := HO2.out.cell 0
        have y1 := HO2.out.cell 1
        have y2 := HO2.out.cell 2
        have y3 := HO2.out.cell 3
        have yz0 := HO2.out.frozen 0
        have yz1 := HO2.out.frozen 1
        have yz2 := HO2.out.frozen 2
        have yz3 := HO2.out.frozen 3
        refine wpAnyL_ready (rs := [10]) (by kernel_rfl) (by simp) ?_
        refine AllReadyL.last rfl (by kernel_rfl) (fun K hK => ?_)
        go_simp
        refine hK.out _ _ ?_
        clear hK K
        try simp only [List.setIfInBounds_toArray, List.set_cons_zero, List.set_cons_succ]
        refine wpAnyL_done (by kernel_rfl) ?_ _
        go_wp2_with fail
        go_meet
        exact ⟨X0.heap.size, X1.heap.size, rfl, HOB.out, HGB.out, HNE.out, (((HZ2.out.setCell HOB.out _).setCell HOB.out _).setCell HOB.out _).setCell HOB.out _, (((HO2.out.set_ 0 _).set_ 1 _).set_ 2 _).set_ 3 _, (((HG2.out.far HNE.out.symm _).far HNE.out.symm _).far HNE.out.symm _).far HNE.out.symm _⟩
  case rest =>
    obtain ⟨ob, gb, rfl, hob, hgb, hne, hbc, hoB, hgB⟩ := hcut
    have hown := own_zero hgB hgb (by omega)
    have HBC := Lib.hid hbc
    have HOB := Lib.hid hoB
    have HOWN := Lib.hid hown
    clear hbc hoB hgB hown
    go_wp2_with fail
    go_loopw [11] (fun s wr => ∃ i : Nat, i ≤ f.blocks.length ∧ s = .int .i64 i ∧ ∃ acc css, T1 f p by_ t W0 ob gb i acc css wr) (fun s _ => f.blocks.length - (intOf s).toNat)
    case atStart => exact ⟨0, by omega, rfl, _, _, HBC.out, HOB.out, HOWN.out, ⟨by simp, fun j _ hj => by omega⟩⟩
    case round =>
      obtain ⟨i, hi, rfl, acc, css, h1⟩ := hrel
      have hfl : w.heap.size < W0.heap.size := HFB.out.lt
      have n0 : wr.cell? ⟨w.heap.size + 1 + 1 + 1 + 1, 0, none⟩ = some (.int .i64 (f.blocks.length : Int)) := (HNB.out.below h1.below HNB.out.lt).cell 0
      have H1 := Lib.hid h1
      clear h1
      by_cases hlt : i < f.blocks.length
      · have e1 : decide ((i : Int) < (f.blocks.length : Int)) = true := decide_eq_true (by omega)
        have hF1 := HFB.out.below H1.out.below hfl
        have f3 : wr.cell? ⟨w.heap.size, 3, none⟩ = some (.slice A f.blocks.length c) := hF1.cell 3
        obtain ⟨bb, off, c', hform, _, _, hbb, hel⟩ := HV.out.form hn0
        obtain rfl : A = some ⟨bb, off, none⟩ := by injection hform
        obtain ⟨cs, hcl, ⟨vi, hcs, hsi⟩, hcell⟩ := hel i hlt
        subst hcs
        have hG := HOK.out f.blocks[i] (List.getElem_mem hlt)
        obtain ⟨x, hx⟩ : ∃ x, x = f.blocks[i] := ⟨_, rfl⟩
        rw [← hx] at hsi hcell hG
        obtain ⟨Ai, ci, hvi, _, _⟩ := hsi.val
        subst hvi
        have hW0w : w.heap.size ≤ W0.heap.size := HB0.out.size
        have hbw : Below w.heap.size w wr := HB0.out.trans (H1.out.below.mono HB0.out.size)
        have hcw : Cells wr bb (off + i * 5) (.slice Ai x.ins.length ci :: termCells x.term) := hcell.keep (hbw.block bb hbb)
        have hbbr : bb < wr.heap.size := Nat.lt_of_lt_of_le hbb hbw.size
        have i0 : wr.cell? ⟨bb, off + i * 5, none⟩ = some (.slice Ai x.ins.length ci) := hcw.at_ (j := 0) rfl
        have i1 : wr.cell? ⟨bb, off + i * 5 + 1, none⟩ = some (.int .i64 x.term.kind) := hcw.at_ (j := 1) rfl
        have i2 : wr.cell? ⟨bb, off + i * 5 + 2, none⟩ = some (.int .i64 x.term.a) := hcw.at_ (j := 2) rfl
        have i3 : wr.cell? ⟨bb, off + i * 5 + 3, none⟩ = some (.int .i64 x.term.to) := hcw.at_ (j := 3) rfl
        have i4 : wr.cell? ⟨bb, off + i * 5 + 4, none⟩ = some (.int .i64 x.term.els) := hcw.at_ (j := 4) rfl
        have HSI := Lib.hid hsi
        have HG := Lib.hid hG
        have HX := Lib.hid hx
        have HBW := Lib.hid hbw
        have hi' : (i : Int) < (f.blocks.length : Int) := by omega
        obtain ⟨wo, hwo⟩ : ∃ wo, wo = wr := ⟨_, rfl⟩
        subst hwo
        clear hF1 hform hel hcl hsi hcell hcw hG hx hbw
        go_upto_region 10 with fail
        refine wp_world ?_
        intro W1 hW1
        have hst : T2 x (turnR f.blocks.length p by_ t) (.slice Ai x.ins.length ci) wo 0 (.slice none 0 0) [] W1 := by
          rw [← hW1]
          exact ⟨((Below.refl _ _).alloc (Nat.le_refl _) _).alloc (by simp) _, (Blk.new _ _ _).alloc _, Blk.new_at _ _ _ (by simp), OwnL.nil_ _ _ _ _ _⟩
        obtain ⟨R, hR⟩ : ∃ R, R = turnR f.blocks.length p by_ t := ⟨_, rfl⟩
        rw [← hR] at hst
        have HR := Lib.hid hR
        clear hW1 i0 i1 i2 i3 i4 f3 n0 e1 hR
        go_wp2_with fail
        go_loopw [14] (fun s wj => ∃ j : Nat, j ≤ x.ins.length ∧ s = .int .i64 j ∧ ∃ v css, T2 x R (.slice Ai x.ins.length ci) wo j v css wj) (fun s _ => x.ins.length - (intOf s).toNat)
        case atStart => exact ⟨0, by omega, rfl, _, _, hst⟩
        case round =>
          obtain ⟨j, hj, rfl, v, css2, h2⟩ := hrel
          have c0 : wr.cell? ⟨wo.heap.size, 0, none⟩ = some (.slice Ai x.ins.length ci) := h2.bB.cell 0
          have H2 := Lib.hid h2
          clear h2
          by_cases hlt2 : j < x.ins.length
          · have e2 : decide ((j : Int) < (x.ins.length : Int)) = true := decide_eq_true (by omega)
            obtain ⟨bi, oi, c2, hform2, _, _, hbi, hel2⟩ := HSI.out.form (by omega)
            obtain rfl : Ai = some ⟨bi, oi, none⟩ := by injection hform2
            obtain ⟨cs2, _, ⟨va, hcs2, hsa⟩, hcell2⟩ := hel2 j hlt2
            subst hcs2
            have hGi := HG.out.ins x.ins[j] (List.getElem_mem hlt2)
            obtain ⟨y, hy⟩ : ∃ y, y = x.ins[j] := ⟨_, rfl⟩
            rw [← hy] at hsa hcell2 hGi
            obtain ⟨Aa, ca, hva, _, _⟩ := hsa.val
            subst hva
            have hb0 : w.heap.size ≤ wo.heap.size := HBW.out.size
            have hbw2 : Below w.heap.size w wr := HBW.out.trans (H2.out.below.mono HBW.out.size)
            have hcw2 : Cells wr bi (oi + j * 8) (insCells y (.slice Aa y.args.length ca)) := hcell2.keep (hbw2.block bi hbi)
            have i0 : wr.cell? ⟨bi, oi + j * 8, none⟩ = some (.int .i64 y.kind) := hcw2.at_ (j := 0) rfl
            have i1 : wr.cell? ⟨bi, oi + j * 8 + 1, none⟩ = some (.int .i64 y.d) := hcw2.at_ (j := 1) rfl
            have i2 : wr.cell? ⟨bi, oi + j * 8 + 2, none⟩ = some (.int .i64 y.a) := hcw2.at_ (j := 2) rfl
            have i3 : wr.cell? ⟨bi, oi + j * 8 + 3, none⟩ = some (.int .i64 y.b) := hcw2.at_ (j := 3) rfl
            have i4 : wr.cell? ⟨bi, oi + j * 8 + 4, none⟩ = some (.int .i64 y.op) := hcw2.at_ (j := 4) rfl
            have i5 : wr.cell? ⟨bi, oi + j * 8 + 5, none⟩ = some (.int .i64 y.n) := hcw2.at_ (j := 5) rfl
            have i6 : wr.cell? ⟨bi, oi + j * 8 + 6, none⟩ = some (.string y.name) := hcw2.at_ (j := 6) rfl
            have i7 : wr.cell? ⟨bi, oi + j * 8 + 7, none⟩ = some (.slice Aa y.args.length ca) := hcw2.at_ (j := 7) rfl
            have hj2' : (j : Int) < (x.ins.length : Int) := by omega
            have HSA := Lib.hid hsa
            have HGI := Lib.hid hGi
            have HY := Lib.hid hy
            have HBW2 := Lib.hid hbw2
            obtain ⟨wp, hwp⟩ : ∃ wp, wp = wr := ⟨_, rfl⟩
            subst hwp
            clear hform2 hel2 hsa hcell2 hcw2 hGi hy hbw2
            go_upto_region 15 with fail
            refine wp_world ?_
            intro W2 hW2
            have hst3 : T3 y R wp 0 (.slice none 0 0) #[.int .i64 y.kind, .int .i64 y.d, .int .i64 y.a, .int .i64 y.b, .int .i64 y.op, .int .i64 y.n, .string y.name, .slice Aa y.args.length ca] W2 := by
              rw [← hW2]
              exact ⟨(Below.refl _ _).alloc (Nat.le_refl _) _, Blk.new _ _ _, World.ownsRow_nil _ _ _ _⟩
            clear hW2 i0 i1 i2 i3 i4 i5 i6 i7 c0 e2
            go_wp2_with fail
            go_loopw [16, 17] (fun s q wq => ∃ k : Nat, k ≤ y.args.length ∧ q = .int .i64 k ∧ T3 y R wp k s #[.int .i64 y.kind, .int .i64 y.d, .int .i64 y.a, .int .i64 y.b, .int .i64 y.op, .int .i64 y.n, .string y.name, .slice Aa y.args.length ca] wq) (fun _ q _ => y.args.length - (intOf q).toNat)
            case atStart => exact ⟨0, by omega, rfl, hst3⟩
            case round =>
              obtain ⟨k, hk, rfl, h3⟩ := hrel
              have x7 : wr.cell? ⟨wp.heap.size, 7, none⟩ = some (.slice Aa y.args.length ca) := h3.xB.cell 7
              obtain ⟨Av, cv, hvf⟩ := own_form h3.own
              subst hvf
              have H3 := Lib.hid h3
              clear h3
              by_cases hlt3 : k < y.args.length
              · have e3 : decide ((k : Int) < (y.args.length : Int)) = true := decide_eq_true (by omega)
                obtain ⟨ba, oa, c3, hform3, _, _, hba, hel3⟩ := HSA.out.form (by omega)
                obtain rfl : Aa = some ⟨ba, oa, none⟩ := by injection hform3
                obtain ⟨cs3, _, hcs3, hcell3⟩ := hel3 k hlt3
                subst hcs3
                obtain ⟨a0, a1⟩ := HGI.out.args y.args[k] (List.getElem_mem hlt3)
                obtain ⟨z, hz⟩ : ∃ z, z = y.args[k] := ⟨_, rfl⟩
                rw [← hz] at hcell3 a0 a1
                have hbr : Below w.heap.size w wr := HBW2.out.trans (H3.out.below.mono HBW2.out.size)
                have z0 : wr.cell? ⟨ba, oa + k, none⟩ = some (.int .i64 z) := by
                  have h := (hcell3.keep (hbr.block ba hba)).at_ (j := 0) rfl
                  simpa using h
                have hbW0 : Below W0.heap.size W0 wr := H1.out.below.trans ((H2.out.below.trans (H3.out.below.mono H2.out.below.size)).mono H1.out.below.size)
                have HCA := Lib.hid (HVA.out wr hbW0 z a0 a1)
                have hk3' : (k : Int) < (y.args.length : Int) := by omega
                have hal := HGI.out.alen
                have hxl : wp.heap.size < wr.heap.size := H3.out.xB.lt
                have hsz3 : wp.heap.size ≤ wr.heap.size := H3.out.below.size
                have HZ := Lib.hid hz
                have tk : R.va z = ((vaN p t z.toNat : Nat) : Int) := by rw [HR.out]; rfl
                have HTK := Lib.hid tk
                obtain ⟨zi, hi0, hz0, hz1, hz2⟩ := info_parts info_int1
                clear hform3 hel3 hcell3 hbr hbW0 hz tk
                go_upto_region 17 with (first | (go_at_call 23; refine HCA.out.mono ?_; rintro e w5 ⟨rfl, hb5⟩; have hsz5 := hb5.size; have hs5 : wp.heap.size + 1 ≤ w5.heap.size := (by omega); have hown5 : w5.ownsRow (wp.heap.size + 1) 3 1 (.slice Av k cv) k ((y.args.take k).map fun a => .int .i64 (R.va a)) := H3.out.own.kept (grown_below' (row := none) hb5) (Classical.em _)) | (at_builtin; refine wpList_append_lies _ rfl (.tmp 61) (.tmp 69) _ rfl (wp.heap.size + 1) 3 zi _ 1 8 Tryz.underlying23 hi0 hz0 hz1 hz2 rfl (by decide) _ _ _ rfl (hown5.alloc _) ⟨w5.heap.size, 0, none⟩ 1 1 [.int .i64 ((vaN p t z.toNat : Nat) : Int)] rfl rfl (World.news_of_block (cs := #[.int .i64 ((vaN p t z.toNat : Nat) : Int)]) (t := 3) (fr := (0, 0)) (Blk.new_at _ _ _ (by simp))) (by simp [Value.oneCell']) (by decide) (by unfold maxLen; omega) (by omega) (by simp; omega) (w5.heap.size + 1) (by simp) ?_; intro g cap w6 hown6 hgrow6 hat6 hlt6))
                go_wp2_with fail
                go_roundw
                case rel => exact ⟨k + 1, by omega, by go_num, H3.out.next hlt3 hb5 hown6 (by rw [← HZ.out]; exact HTK.out) hgrow6⟩
                case measure => simp [intOf]; omega
              · obtain rfl : k = y.args.length := by omega
                have e3 : decide ((y.args.length : Int) < (y.args.length : Int)) = false := decide_eq_false (by omega)
                have xl : wp.heap.size < wr.heap.size := H3.out.xB.lt
                have xz := H3.out.xB.frozen 7
                go_upto_region 20 with fail
                refine wp_world ?_
                intro V0 hV0
                have hT0 : T3 y R wp y.args.length (.slice Av y.args.length cv) #[.int .i64 y.kind, .int .i64 y.d, .int .i64 y.a, .int .i64 y.b, .int .i64 y.op, .int .i64 y.n, .string y.name, .slice Av y.args.length cv] V0 := by rw [← hV0]; exact H3.out.set 7 _
                have HT0 := Lib.hid hT0
                clear hV0 hT0 xl xz x7 e3
                go_cut [80] (fun s wx => s = .bool (hasD y.kind) ∧ wx = V0)
                case first =>
                  as_aux_lemma =>
                    have g0 : V0.cell? ⟨wp.heap.size, 0, none⟩ = some (.int .i64 y.kind) := HT0.out.xB.cell 0
                    have hkd := HGI.out.kind
                    rcases (show (y.kind ≠ 6 ∧ y.kind ≠ 8) ∨ y.kind = 6 ∨ y.kind = 8 by omega) with hkk | hkk | hkk
                    · have hh : hasD y.kind = true := by rw [hasD_iff]; omega
                      have q6 : (y.kind != 6) = true := by simp; omega
                      have q8 : (y.kind != 8) = true := by simp; omega
                      have HH := Lib.hid hh
                      clear hkk hkd hh
                      clear HOK HFP HFV SO4 HB0 HRB HNB HBL HBC HOB HOWN HV HFB HX HBW HSI HVA HBZ hst hst3 H3 HSA HY HBW2 HGI
                      go_wp2
                      go_meet
                      exact ⟨by rw [HH.out], rfl⟩
                    · have hh : hasD y.kind = false := by rw [Bool.eq_false_iff, ne_eq, hasD_iff]; omega
                      have q6 : (y.kind != 6) = false := by simp [hkk]
                      have HH := Lib.hid hh
                      clear hkk hkd hh
                      clear HOK HFP HFV SO4 HB0 HRB HNB HBL HBC HOB HOWN HV HFB HX HBW HSI HVA HBZ hst hst3 H3 HSA HY HBW2 HGI
                      go_wp2
                      go_meet
                      exact ⟨by rw [HH.out], rfl⟩
                    · have hh : hasD y.kind = false := by rw [Bool.eq_false_iff, ne_eq, hasD_iff]; omega
                      have q6 : (y.kind != 6) = true := by simp [hkk]
                      have q8 : (y.kind != 8) = false := by simp [hkk]
                      have HH := Lib.hid hh
                      clear hkk hkd hh
                      clear HOK HFP HFV SO4 HB0 HRB HNB HBL HBC HOB HOWN HV HFB HX HBW HSI HVA HBZ hst hst3 H3 HSA HY HBW2 HGI
                      go_wp2
                      go_meet
                      exact ⟨by rw [HH.out], rfl⟩
                case rest =>
                  obtain ⟨hs, hwc⟩ := hcut
                  subst hs hwc
                  go_upto_if 80 with fail
                  go_cut [] (fun wx => T3 y R wp y.args.length (.slice Av y.args.length cv) #[.int .i64 y.kind, .int .i64 (renIns R y).d, .int .i64 y.a, .int .i64 y.b, .int .i64 y.op, .int .i64 y.n, .string y.name, .slice Av y.args.length cv] wx)
                  case first =>
                    as_aux_lemma =>
                      have gl : wp.heap.size < wc.heap.size := HT0.out.xB.lt
                      have g1 : wc.cell? ⟨wp.heap.size, 1, none⟩ = some (.int .i64 y.d) := HT0.out.xB.cell 1
                      by_cases hd : hasD y.kind = true
                      · have e9 : (renIns R y).d = R.va y.d := if_pos hd
                        have tk : R.va y.d = ((vaN p t y.d.toNat : Nat) : Int) := by rw [HR.out]; rfl
                        rw [tk] at e9
                        have HE9 := Lib.hid e9
                        have HC := Lib.hid (HVA.out wc (H1.out.below.trans ((H2.out.below.trans (HT0.out.below.mono H2.out.below.size)).mono H1.out.below.size)) y.d HGI.out.d.1 HGI.out.d.2)
                        generalize ((vaN p t y.d.toNat : Nat) : Int) = zz at *
                        clear e9 tk
                        rw [hd]
                        clear hd
                        clear HOK HFP HFV SO4 HB0 HRB HNB HBL HBC HOB HOWN HV HFB HX HBW HSI HVA HBZ hst hst3 H3 HSA HY HBW2
                        go_wp2_with (go_at_call 23; refine HC.out.mono ?_; rintro e w7 ⟨rfl, hb7⟩; have y7 := HT0.out.on hb7; have g7 := y7.xB.cell 1; have gz := y7.xB.frozen 1)
                        go_meet
                        rw [HE9.out]
                        exact y7.set 1 _
                      · have e9 : (renIns R y).d = y.d := if_neg hd
                        have hd' : hasD y.kind = false := by simpa using hd
                        have HE9 := Lib.hid e9
                        clear hd e9
                        rw [hd']
                        clear hd'
                        clear HOK HFP HFV SO4 HB0 HRB HNB HBL HBC HOB HOWN HV HFB HX HBW HSI HVA HBZ hst hst3 H3 HSA HY HBW2
                        go_wp2
                        go_meet
                        rw [HE9.out]
                        exact HT0.out
                  case rest =>
                    have HT1 := Lib.hid hcut
                    clear hcut HT0
                    obtain ⟨V1, hwc1⟩ : ∃ x, x = wc := ⟨_, rfl⟩
                    subst hwc1
                    go_upto_region 22 with fail
                    go_cut [98] (fun s wx => s = .bool (hasA y.kind) ∧ wx = V1)
                    case first =>
                      as_aux_lemma =>
                        have g0 : V1.cell? ⟨wp.heap.size, 0, none⟩ = some (.int .i64 y.kind) := HT1.out.xB.cell 0
                        have hkd := HGI.out.kind
                        rcases (show (y.kind ≠ 1 ∧ y.kind ≠ 7 ∧ y.kind ≠ 9) ∨ y.kind = 1 ∨ y.kind = 7 ∨ y.kind = 9 by omega) with hkk | hkk | hkk | hkk
                        · have hh : hasA y.kind = true := by rw [hasA_iff]; omega
                          have q1 : (y.kind != 1) = true := by simp; omega
                          have q7 : (y.kind != 7) = true := by simp; omega
                          have q9 : (y.kind != 9) = true := by simp; omega
                          have HH := Lib.hid hh
                          clear hkk hkd hh
                          clear HOK HFP HFV SO4 HB0 HRB HNB HBL HBC HOB HOWN HV HFB HX HBW HSI HVA HBZ hst hst3 H3 HSA HY HBW2 HGI
                          go_wp2
                          go_meet
                          exact ⟨by rw [HH.out], rfl⟩
                        · have hh : hasA y.kind = false := by rw [Bool.eq_false_iff, ne_eq, hasA_iff]; omega
                          have q1 : (y.kind != 1) = false := by simp [hkk]
                          have HH := Lib.hid hh
                          clear hkk hkd hh
                          clear HOK HFP HFV SO4 HB0 HRB HNB HBL HBC HOB HOWN HV HFB HX HBW HSI HVA HBZ hst hst3 H3 HSA HY HBW2 HGI
                          go_wp2
                          go_meet
                          exact ⟨by rw [HH.out], rfl⟩
                        · have hh : hasA y.kind = false := by rw [Bool.eq_false_iff, ne_eq, hasA_iff]; omega
                          have q1 : (y.kind != 1) = true := by simp [hkk]
                          have q7 : (y.kind != 7) = false := by simp [hkk]
                          have HH := Lib.hid hh
                          clear hkk hkd hh
                          clear HOK HFP HFV SO4 HB0 HRB HNB HBL HBC HOB HOWN HV HFB HX HBW HSI HVA HBZ hst hst3 H3 HSA HY HBW2 HGI
                          go_wp2
                          go_meet
                          exact ⟨by rw [HH.out], rfl⟩
                        · have hh : hasA y.kind = false := by rw [Bool.eq_false_iff, ne_eq, hasA_iff]; omega
                          have q1 : (y.kind != 1) = true := by simp [hkk]
                          have q7 : (y.kind != 7) = true := by simp [hkk]
                          have q9 : (y.kind != 9) = false := by simp [hkk]
                          have HH := Lib.hid hh
                          clear hkk hkd hh
                          clear HOK HFP HFV SO4 HB0 HRB HNB HBL HBC HOB HOWN HV HFB HX HBW HSI HVA HBZ hst hst3 H3 HSA HY HBW2 HGI
                          go_wp2
                          go_meet
                          exact ⟨by rw [HH.out], rfl⟩
                    case rest =>
                      obtain ⟨hs, hwc⟩ := hcut
                      subst hs hwc
                      go_upto_if 98 with fail
                      go_cut [] (fun wx => T3 y R wp y.args.length (.slice Av y.args.length cv) #[.int .i64 y.kind, .int .i64 (renIns R y).d, .int .i64 (renIns R y).a, .int .i64 y.b, .int .i64 y.op, .int .i64 y.n, .string y.name, .slice Av y.args.length cv] wx)
                      case first =>
                        as_aux_lemma =>
                          have gl : wp.heap.size < wc.heap.size := HT1.out.xB.lt
                          have g1 : wc.cell? ⟨wp.heap.size, 2, none⟩ = some (.int .i64 y.a) := HT1.out.xB.cell 2
                          by_cases hd : hasA y.kind = true
                          · have e9 : (renIns R y).a = R.va y.a := if_pos hd
                            have tk : R.va y.a = ((vaN p t y.a.toNat : Nat) : Int) := by rw [HR.out]; rfl
                            rw [tk] at e9
                            have HE9 := Lib.hid e9
                            have HC := Lib.hid (HVA.out wc (H1.out.below.trans ((H2.out.below.trans (HT1.out.below.mono H2.out.below.size)).mono H1.out.below.size)) y.a HGI.out.a.1 HGI.out.a.2)
                            generalize ((vaN p t y.a.toNat : Nat) : Int) = zz at *
                            clear e9 tk
                            rw [hd]
                            clear hd
                            clear HOK HFP HFV SO4 HB0 HRB HNB HBL HBC HOB HOWN HV HFB HX HBW HSI HVA HBZ hst hst3 H3 HSA HY HBW2
                            go_wp2_with (go_at_call 23; refine HC.out.mono ?_; rintro e w7 ⟨rfl, hb7⟩; have y7 := HT1.out.on hb7; have g7 := y7.xB.cell 2; have gz := y7.xB.frozen 2)
                            go_meet
                            rw [HE9.out]
                            exact y7.set 2 _
                          · have e9 : (renIns R y).a = y.a := if_neg hd
                            have hd' : hasA y.kind = false := by simpa using hd
                            have HE9 := Lib.hid e9
                            clear hd e9
                            rw [hd']
                            clear hd'
                            clear HOK HFP HFV SO4 HB0 HRB HNB HBL HBC HOB HOWN HV HFB HX HBW HSI HVA HBZ hst hst3 H3 HSA HY HBW2
                            go_wp2
                            go_meet
                            rw [HE9.out]
                            exact HT1.out
                      case rest =>
                        have HT2 := Lib.hid hcut
                        clear hcut HT1
                        obtain ⟨V2, hwc1⟩ : ∃ x, x = wc := ⟨_, rfl⟩
                        subst hwc1
                        go_upto_region 24 with fail
                        go_cut [111] (fun s wx => s = .bool (hasB y.kind) ∧ wx = V2)
                        case first =>
                          as_aux_lemma =>
                            have g0 : V2.cell? ⟨wp.heap.size, 0, none⟩ = some (.int .i64 y.kind) := HT2.out.xB.cell 0
                            have hkd := HGI.out.kind
                            rcases (show y.kind = 4 ∨ y.kind = 6 ∨ (y.kind ≠ 4 ∧ y.kind ≠ 6) by omega) with hkk | hkk | hkk
                            · have hh : hasB y.kind = true := by rw [hasB_iff]; omega
                              have p4 : (y.kind == 4) = true := by simp [hkk]
                              have HH := Lib.hid hh
                              clear hkk hkd hh
                              clear HOK HFP HFV SO4 HB0 HRB HNB HBL HBC HOB HOWN HV HFB HX HBW HSI HVA HBZ hst hst3 H3 HSA HY HBW2 HGI
                              go_wp2
                              go_meet
                              exact ⟨by rw [HH.out], rfl⟩
                            · have hh : hasB y.kind = true := by rw [hasB_iff]; omega
                              have p4 : (y.kind == 4) = false := by simp [hkk]
                              have p6 : (y.kind == 6) = true := by simp [hkk]
                              have HH := Lib.hid hh
                              clear hkk hkd hh
                              clear HOK HFP HFV SO4 HB0 HRB HNB HBL HBC HOB HOWN HV HFB HX HBW HSI HVA HBZ hst hst3 H3 HSA HY HBW2 HGI
                              go_wp2
                              go_meet
                              exact ⟨by rw [HH.out], rfl⟩
                            · have hh : hasB y.kind = false := by rw [Bool.eq_false_iff, ne_eq, hasB_iff]; omega
                              have p4 : (y.kind == 4) = false := by simp; omega
                              have p6 : (y.kind == 6) = false := by simp; omega
                              have HH := Lib.hid hh
                              clear hkk hkd hh
                              clear HOK HFP HFV SO4 HB0 HRB HNB HBL HBC HOB HOWN HV HFB HX HBW HSI HVA HBZ hst hst3 H3 HSA HY HBW2 HGI
                              go_wp2
                              go_meet
                              exact ⟨by rw [HH.out], rfl⟩
                        case rest =>
                          obtain ⟨hs, hwc⟩ := hcut
                          subst hs hwc
                          go_upto_if 111 with fail
                          go_cut [] (fun wx => T3 y R wp y.args.length (.slice Av y.args.length cv) #[.int .i64 y.kind, .int .i64 (renIns R y).d, .int .i64 (renIns R y).a, .int .i64 (renIns R y).b, .int .i64 y.op, .int .i64 y.n, .string y.name, .slice Av y.args.length cv] wx)
                          case first =>
                            as_aux_lemma =>
                              have gl : wp.heap.size < wc.heap.size := HT2.out.xB.lt
                              have g1 : wc.cell? ⟨wp.heap.size, 3, none⟩ = some (.int .i64 y.b) := HT2.out.xB.cell 3
                              by_cases hd : hasB y.kind = true
                              · have e9 : (renIns R y).b = R.va y.b := if_pos hd
                                have tk : R.va y.b = ((vaN p t y.b.toNat : Nat) : Int) := by rw [HR.out]; rfl
                                rw [tk] at e9
                                have HE9 := Lib.hid e9
                                have HC := Lib.hid (HVA.out wc (H1.out.below.trans ((H2.out.below.trans (HT2.out.below.mono H2.out.below.size)).mono H1.out.below.size)) y.b HGI.out.b.1 HGI.out.b.2)
                                generalize ((vaN p t y.b.toNat : Nat) : Int) = zz at *
                                clear e9 tk
                                rw [hd]
                                clear hd
                                clear HOK HFP HFV SO4 HB0 HRB HNB HBL HBC HOB HOWN HV HFB HX HBW HSI HVA HBZ hst hst3 H3 HSA HY HBW2
                                go_wp2_with (go_at_call 23; refine HC.out.mono ?_; rintro e w7 ⟨rfl, hb7⟩; have y7 := HT2.out.on hb7; have g7 := y7.xB.cell 3; have gz := y7.xB.frozen 3)
                                go_meet
                                rw [HE9.out]
                                exact y7.set 3 _
                              · have e9 : (renIns R y).b = y.b := if_neg hd
                                have hd' : hasB y.kind = false := by simpa using hd
                                have HE9 := Lib.hid e9
                                clear hd e9
                                rw [hd']
                                clear hd'
                                clear HOK HFP HFV SO4 HB0 HRB HNB HBL HBC HOB HOWN HV HFB HX HBW HSI HVA HBZ hst hst3 H3 HSA HY HBW2
                                go_wp2
                                go_meet
                                rw [HE9.out]
                                exact HT2.out
                          case rest =>
                            have HT3 := Lib.hid hcut
                            clear hcut HT2
                            obtain ⟨V3, hwc1⟩ : ∃ x, x = wc := ⟨_, rfl⟩
                            subst hwc1
                            go_upto_region 26 with fail
                            have hT3 := HT3.out
                            have hb3 := hT3.below
                            have hcB := H2.out.cB.below hb3 H2.out.cB.lt
                            have hown3 := (H2.out.own.below mono_ins hb3).row
                            have hjl : ((x.ins.take j).map (renIns R)).length = j := by simp; omega
                            rw [hjl] at hown3
                            have x0 : V3.cell? ⟨wp.heap.size, 0, none⟩ = some (.int .i64 y.kind) := hT3.xB.cell 0
                            have x1 : V3.cell? ⟨wp.heap.size, 1, none⟩ = some (.int .i64 (renIns R y).d) := hT3.xB.cell 1
                            have x2 : V3.cell? ⟨wp.heap.size, 2, none⟩ = some (.int .i64 (renIns R y).a) := hT3.xB.cell 2
                            have x3 : V3.cell? ⟨wp.heap.size, 3, none⟩ = some (.int .i64 (renIns R y).b) := hT3.xB.cell 3
                            have x4 : V3.cell? ⟨wp.heap.size, 4, none⟩ = some (.int .i64 y.op) := hT3.xB.cell 4
                            have x5 : V3.cell? ⟨wp.heap.size, 5, none⟩ = some (.int .i64 y.n) := hT3.xB.cell 5
                            have x6 : V3.cell? ⟨wp.heap.size, 6, none⟩ = some (.string y.name) := hT3.xB.cell 6
                            have x7 : V3.cell? ⟨wp.heap.size, 7, none⟩ = some (.slice Av y.args.length cv) := hT3.xB.cell 7
                            have xl : wp.heap.size < V3.heap.size := hT3.xB.lt
                            have c0 : V3.cell? ⟨wo.heap.size + 1, 0, none⟩ = some v := hcB.cell 0
                            have cz : V3.frozen? ⟨wo.heap.size + 1, 0, none⟩ = false := hcB.frozen 0
                            have cl : wo.heap.size + 1 < V3.heap.size := hcB.lt
                            have hne2 : v.ownBlock ≠ some (wo.heap.size + 1) := fun e => by have := (H2.out.own.lt _ e).1; omega
                            have hl6 := HG.out.len
                            have hobs : wo.heap.size ≤ wp.heap.size := H2.out.below.size
                            have hn1 : j + 1 ≤ maxLen := by unfold maxLen; omega
                            have hn2 : (j + 1) * 88 ≤ 140737488355328 := by omega
                            have hargs : SlR V3 (fun b => wp.heap.size ≤ b ∧ b < V3.heap.size) 1 RInt (.slice Av y.args.length cv) (renIns R y).args := by
                              have h := hT3.own
                              rw [List.take_length] at h
                              have e : (y.args.map fun a => Value.int .i64 (R.va a)) = (y.args.map R.va).map (Value.int .i64) := by rw [List.map_map]; rfl
                              rw [e] at h
                              exact ints_of_own h fun g' e' => by have := h.lt g' e'; omega
                            have HARGS := Lib.hid hargs
                            have HCB := Lib.hid hcB
                            have HB3 := Lib.hid hb3
                            obtain ⟨zi, hi0, hz0, hz1, hz2⟩ := info_parts info_ins
                            clear hT3 hb3 hcB hjl hargs HT3
                            go_upto_region 12 with (at_builtin; refine wpList_append_lies _ rfl (.tmp 118) (.tmp 120) _ rfl (wo.heap.size + 2) 44 zi _ 8 88 Tryz.underlying42 hi0 hz0 hz1 hz2 rfl (by decide) v j css2.flatten rfl (hown3.alloc _) ⟨V3.heap.size, 0, none⟩ 1 1 (insCells (renIns R y) (.slice Av y.args.length cv)) rfl rfl (World.news_of_block (cs := (insCells (renIns R y) (.slice Av y.args.length cv)).toArray) (t := 44) (fr := (0, 0)) (Blk.new_at _ _ _ rfl)) (insCells_one _ rfl) (by decide) hn1 hn2 (by simp; omega) (V3.heap.size + 1) (by simp) ?_; intro g cap w6 hown6 hgrow6 hat6 hlt6; have h6 := (HCB.out.alloc _).grown hgrow6 hne2; have c6 := h6.cell 0; have z6 := h6.frozen 0)
                            go_wp2_with fail
                            go_roundw
                            case rel =>
                              have hy := HY.out
                              subst hy
                              exact ⟨j + 1, by omega, by go_num, _, _, H2.out.next hlt2 HB3.out HARGS.out hown6 hgrow6 hat6⟩
                            case measure => simp [intOf]; omega
          · obtain rfl : j = x.ins.length := by omega
            have e2 : decide ((x.ins.length : Int) < (x.ins.length : Int)) = false := decide_eq_false (by omega)
            have h2 := H2.out
            have t1 : wr.cell? ⟨wo.heap.size, 1, none⟩ = some (.int .i64 x.term.kind) := h2.bB.cell 1
            have t2 : wr.cell? ⟨wo.heap.size, 2, none⟩ = some (.int .i64 x.term.a) := h2.bB.cell 2
            have t3 : wr.cell? ⟨wo.heap.size, 3, none⟩ = some (.int .i64 x.term.to) := h2.bB.cell 3
            have t4 : wr.cell? ⟨wo.heap.size, 4, none⟩ = some (.int .i64 x.term.els) := h2.bB.cell 4
            have s1 : wr.cell? ⟨wo.heap.size + 1, 1, none⟩ = some (.int .i64 0) := h2.cB.cell 1
            have s2 : wr.cell? ⟨wo.heap.size + 1, 2, none⟩ = some (.int .i64 0) := h2.cB.cell 2
            have s3 : wr.cell? ⟨wo.heap.size + 1, 3, none⟩ = some (.int .i64 0) := h2.cB.cell 3
            have s4 : wr.cell? ⟨wo.heap.size + 1, 4, none⟩ = some (.int .i64 0) := h2.cB.cell 4
            have z1 := h2.cB.frozen 1
            have z2 := h2.cB.frozen 2
            have z3 := h2.cB.frozen 3
            have z4 := h2.cB.frozen 4
            have bl2 : wo.heap.size < wr.heap.size := h2.bB.lt
            have cl2 : wo.heap.size + 1 < wr.heap.size := h2.cB.lt
            clear h2
            go_upto_region 28 with fail
            refine wp_world ?_
            intro V1 hV1
            have hD0 : TD x R (.slice Ai x.ins.length ci) wo v css2 x.term.kind x.term.a x.term.to x.term.els V1 := by
              have h2 := H2.out
              have hne3 : ∀ (k b : Nat), (wo.heap.size + 2 ≤ b ∧ b < wr.heap.size) → b ≠ (⟨wo.heap.size + 1, k, none⟩ : Addr).block := fun k b hb => by show b ≠ wo.heap.size + 1; omega
              have how := h2.own
              rw [List.take_length] at how
              rw [← hV1]
              refine ⟨(((h2.below.setCell (by simp) _).setCell (by simp) _).setCell (by simp) _).setCell (by simp) _, (((h2.cB.set_ 1 _).set_ 2 _).set_ 3 _).set_ 4 _, ?_, ?_⟩
              · exact how.keep mono_ins (((((Keeps.refl _ _).set (hne3 _) _).set (hne3 _) _).set (hne3 _) _).set (hne3 _) _) (by simp [World.setCell])
              · exact (((h2.bB.far (by simp) _).far (by simp) _).far (by simp) _).far (by simp) _
            have HD0 := Lib.hid hD0
            have hkd := HG.out.kind
            clear hD0 hV1 t1 t2 t3 t4 s1 s2 s3 s4 z1 z2 z3 z4 bl2 cl2 e2 c0
            go_cut [129] (fun s wx => s = .bool (x.term.kind != 1) ∧ wx = V1)
            case first =>
              as_aux_lemma =>
                have t1 : V1.cell? ⟨wo.heap.size, 1, none⟩ = some (.int .i64 x.term.kind) := HD0.out.bB.cell 1
                clear HOK HFP HFV SO4 HB0 HRB HNB HBL HBC HOB HOWN HV HFB HX HBW HSI HVA HBZ hst H2
                go_wp2
                go_meet
                exact ⟨rfl, rfl⟩
            case rest =>
              obtain ⟨hs, hwc⟩ := hcut
              subst hs hwc
              go_upto_if 129 with fail
              go_cut [] (fun wx => TD x R (.slice Ai x.ins.length ci) wo v css2 x.term.kind (renTerm R x.term).a x.term.to x.term.els wx)
              case first =>
                as_aux_lemma =>
                  have t1 : wc.cell? ⟨wo.heap.size, 2, none⟩ = some (.int .i64 x.term.a) := HD0.out.bB.cell 2
                  by_cases hd : x.term.kind ≠ 1
                  · have e9 : (renTerm R x.term).a = R.va x.term.a := if_neg hd
                    have tk : R.va x.term.a = ((vaN p t x.term.a.toNat : Nat) : Int) := by rw [HR.out]; rfl
                    rw [tk] at e9
                    have HE9 := Lib.hid e9
                    have HC := Lib.hid (HVA.out wc (H1.out.below.trans (HD0.out.below.mono H1.out.below.size)) x.term.a HG.out.a.1 HG.out.a.2)
                    generalize ((vaN p t x.term.a.toNat : Nat) : Int) = zz at *
                    have ec : (x.term.kind != 1) = true := by simp; omega
                    rw [ec]
                    clear hd e9 tk ec
                    clear HOK HFP HFV SO4 HB0 HRB HNB HBL HBC HOB HOWN HV HFB HX HBW HSI HVA HBZ hst H2
                    go_wp2_with (go_at_call 23; refine HC.out.mono ?_; rintro e w7 ⟨rfl, hb7⟩; have y7 := HD0.out.on hb7; have g7 := y7.cB.cell 2; have gz := y7.cB.frozen 2)
                    go_meet
                    rw [HE9.out]
                    exact y7.set_a _
                  · have e9 : (renTerm R x.term).a = x.term.a := if_pos (by omega)
                    have HE9 := Lib.hid e9
                    have ec : (x.term.kind != 1) = false := by simp; omega
                    rw [ec]
                    clear hd e9 ec
                    clear HOK HFP HFV SO4 HB0 HRB HNB HBL HBC HOB HOWN HV HFB HX HBW HSI HVA HBZ hst H2
                    go_wp2
                    go_meet
                    rw [HE9.out]
                    exact HD0.out
              case rest =>
                have HD1 := Lib.hid hcut
                clear hcut HD0
                obtain ⟨V2, hwc1⟩ : ∃ x, x = wc := ⟨_, rfl⟩
                subst hwc1
                go_upto_region 30 with fail
                go_cut [140] (fun s wx => s = .bool (decide (x.term.kind ≤ 2)) ∧ wx = V2)
                case first =>
                  as_aux_lemma =>
                    have t1 : V2.cell? ⟨wo.heap.size, 1, none⟩ = some (.int .i64 x.term.kind) := HD1.out.bB.cell 1
                    clear HOK HFP HFV SO4 HB0 HRB HNB HBL HBC HOB HOWN HV HFB HX HBW HSI HVA HBZ hst H2
                    go_wp2
                    go_meet
                    exact ⟨rfl, rfl⟩
                case rest =>
                  obtain ⟨hs, hwc⟩ := hcut
                  subst hs hwc
                  go_upto_if 140 with fail
                  go_cut [] (fun wx => TD x R (.slice Ai x.ins.length ci) wo v css2 x.term.kind (renTerm R x.term).a (renTerm R x.term).to x.term.els wx)
                  case first =>
                    as_aux_lemma =>
                      have t1 : wc.cell? ⟨wo.heap.size, 3, none⟩ = some (.int .i64 x.term.to) := HD1.out.bB.cell 3
                      by_cases hd : x.term.kind = 1 ∨ x.term.kind = 2
                      · have e9 : (renTerm R x.term).to = R.bl x.term.to := if_pos hd
                        have tk : R.bl x.term.to = ((blN f.blocks.length by_ x.term.to.toNat : Nat) : Int) := by rw [HR.out]; rfl
                        rw [tk] at e9
                        have HE9 := Lib.hid e9
                        have HC := Lib.hid (HBZ.out wc (H1.out.below.trans (HD1.out.below.mono H1.out.below.size)) x.term.to HG.out.dest.1 HG.out.dest.2)
                        generalize ((blN f.blocks.length by_ x.term.to.toNat : Nat) : Int) = zz at *
                        have ec : (decide (x.term.kind ≤ 2)) = true := by simp; omega
                        rw [ec]
                        clear hd e9 tk ec
                        clear HOK HFP HFV SO4 HB0 HRB HNB HBL HBC HOB HOWN HV HFB HX HBW HSI HVA HBZ hst H2
                        have g7 := HD1.out.cB.cell 3
                        have gz := HD1.out.cB.frozen 3
                        go_wp2_with (go_at_call 22; refine HC.out.mono ?_; rintro e w7 ⟨rfl, rfl⟩)
                        go_meet
                        rw [HE9.out]
                        exact HD1.out.set_to _
                      · have e9 : (renTerm R x.term).to = x.term.to := if_neg hd
                        have HE9 := Lib.hid e9
                        have ec : (decide (x.term.kind ≤ 2)) = false := by simp; omega
                        rw [ec]
                        clear hd e9 ec
                        clear HOK HFP HFV SO4 HB0 HRB HNB HBL HBC HOB HOWN HV HFB HX HBW HSI HVA HBZ hst H2
                        go_wp2
                        go_meet
                        rw [HE9.out]
                        exact HD1.out
                  case rest =>
                    have HD2 := Lib.hid hcut
                    clear hcut HD1
                    obtain ⟨V4, hwc1⟩ : ∃ x, x = wc := ⟨_, rfl⟩
                    subst hwc1
                    go_upto_region 32 with fail
                    go_cut [151] (fun s wx => s = .bool (x.term.kind == 2) ∧ wx = V4)
                    case first =>
                      as_aux_lemma =>
                        have t1 : V4.cell? ⟨wo.heap.size, 1, none⟩ = some (.int .i64 x.term.kind) := HD2.out.bB.cell 1
                        clear HOK HFP HFV SO4 HB0 HRB HNB HBL HBC HOB HOWN HV HFB HX HBW HSI HVA HBZ hst H2
                        go_wp2
                        go_meet
                        exact ⟨rfl, rfl⟩
                    case rest =>
                      obtain ⟨hs, hwc⟩ := hcut
                      subst hs hwc
                      go_upto_if 151 with fail
                      go_cut [] (fun wx => TD x R (.slice Ai x.ins.length ci) wo v css2 x.term.kind (renTerm R x.term).a (renTerm R x.term).to (renTerm R x.term).els wx)
                      case first =>
                        as_aux_lemma =>
                          have t1 : wc.cell? ⟨wo.heap.size, 4, none⟩ = some (.int .i64 x.term.els) := HD2.out.bB.cell 4
                          by_cases hd : x.term.kind = 2
                          · have e9 : (renTerm R x.term).els = R.bl x.term.els := if_pos hd
                            have tk : R.bl x.term.els = ((blN f.blocks.length by_ x.term.els.toNat : Nat) : Int) := by rw [HR.out]; rfl
                            rw [tk] at e9
                            have HE9 := Lib.hid e9
                            have HC := Lib.hid (HBZ.out wc (H1.out.below.trans (HD2.out.below.mono H1.out.below.size)) x.term.els HG.out.els.1 HG.out.els.2)
                            generalize ((blN f.blocks.length by_ x.term.els.toNat : Nat) : Int) = zz at *
                            have ec : (x.term.kind == 2) = true := by simp [hd]
                            rw [ec]
                            clear hd e9 tk ec
                            clear HOK HFP HFV SO4 HB0 HRB HNB HBL HBC HOB HOWN HV HFB HX HBW HSI HVA HBZ hst H2
                            have g7 := HD2.out.cB.cell 4
                            have gz := HD2.out.cB.frozen 4
                            go_wp2_with (go_at_call 22; refine HC.out.mono ?_; rintro e w7 ⟨rfl, rfl⟩)
                            go_meet
                            rw [HE9.out]
                            exact HD2.out.set_els _
                          · have e9 : (renTerm R x.term).els = x.term.els := if_neg hd
                            have HE9 := Lib.hid e9
                            have ec : (x.term.kind == 2) = false := by simp; omega
                            rw [ec]
                            clear hd e9 ec
                            clear HOK HFP HFV SO4 HB0 HRB HNB HBL HBC HOB HOWN HV HFB HX HBW HSI HVA HBZ hst H2
                            go_wp2
                            go_meet
                            rw [HE9.out]
                            exact HD2.out
                      case rest =>
                        have HD3 := Lib.hid hcut
                        clear hcut HD2
                        obtain ⟨V5, hwc1⟩ : ∃ x, x = wc := ⟨_, rfl⟩
                        subst hwc1
                        go_upto_region 34 with fail
                        obtain ⟨Av2, cv2, hv2⟩ := own_form HD3.out.own.row
                        subst hv2
                        have hD := HD3.out
                        have hbW : Below W0.heap.size W0 V5 := H1.out.below.trans (hD.below.mono H1.out.below.size)
                        obtain ⟨tk, htk⟩ : ∃ z, z = x.term.kind := ⟨_, rfl⟩
                        obtain ⟨ta, hta⟩ : ∃ z, z = (renTerm R x.term).a := ⟨_, rfl⟩
                        obtain ⟨tt, htt⟩ : ∃ z, z = (renTerm R x.term).to := ⟨_, rfl⟩
                        obtain ⟨te, hte⟩ : ∃ z, z = (renTerm R x.term).els := ⟨_, rfl⟩
                        rw [← htk, ← hta, ← htt, ← hte] at hD
                        have hoB5 : Blk V5 ob 35 #[.string f.name, .int .i64 (p : Int), .int .i64 10, .slice (some ⟨gb, 0, none⟩) f.blocks.length f.blocks.length] := H1.out.oB.below hD.below H1.out.oB.lt
                        have hown5 := H1.out.own.below mono_block hD.below
                        have hbl0 : blN f.blocks.length by_ i < f.blocks.length := blN_lt hlt
                        obtain ⟨qb, hqb⟩ : ∃ q, q = blN f.blocks.length by_ i := ⟨_, rfl⟩
                        have HQB := Lib.hid hqb
                        have hbl : qb < f.blocks.length := by rw [hqb]; exact hbl0
                        clear hbl0
                        have hlc : css.length = f.blocks.length := by rw [hown5.len, H1.out.at_.len]
                        have hjc : qb < css.length := by rw [hlc]; exact hbl
                        have hci : (css[qb]).length = 5 := hown5.each _ (List.getElem_mem _)
                        have HDD : Hid (∀ X, Below V5.heap.size V5 X → ∃ d0 d1 d2 d3 d4, X.cell? ⟨gb, qb * 5, none⟩ = some d0 ∧ X.cell? ⟨gb, qb * 5 + 1, none⟩ = some d1 ∧ X.cell? ⟨gb, qb * 5 + 2, none⟩ = some d2 ∧ X.cell? ⟨gb, qb * 5 + 3, none⟩ = some d3 ∧ X.cell? ⟨gb, qb * 5 + 4, none⟩ = some d4) := Lib.hid (fun X hb => by
                          have ho := hown5.below mono_block hb
                          obtain ⟨d0, d1, d2, d3, d4, hd⟩ : ∃ d0 d1 d2 d3 d4, css[qb] = [d0, d1, d2, d3, d4] := by
                            match css[qb], hci with
                            | [d0, d1, d2, d3, d4], _ => exact ⟨_, _, _, _, _, rfl⟩
                          exact ⟨d0, d1, d2, d3, d4, ho.cell (i := 0) hjc (by rw [hd]; rfl), ho.cell (i := 1) hjc (by rw [hd]; rfl), ho.cell (i := 2) hjc (by rw [hd]; rfl), ho.cell (i := 3) hjc (by rw [hd]; rfl), ho.cell (i := 4) hjc (by rw [hd]; rfl)⟩)
                        have SO5 : Hid (∀ X, Below V5.heap.size V5 X → (fun w2 => w2.cell? ⟨ob, 3, none⟩ = some (.slice (some ⟨gb, 0, none⟩) f.blocks.length f.blocks.length) ∧ w2.cell? ⟨wo.heap.size + 1, 0, none⟩ = some (.slice Av2 (x.ins.map (renIns R)).length cv2) ∧ w2.cell? ⟨wo.heap.size + 1, 1, none⟩ = some (.int .i64 tk) ∧ w2.cell? ⟨wo.heap.size + 1, 2, none⟩ = some (.int .i64 ta) ∧ w2.cell? ⟨wo.heap.size + 1, 3, none⟩ = some (.int .i64 tt) ∧ w2.cell? ⟨wo.heap.size + 1, 4, none⟩ = some (.int .i64 te)) X) := Lib.hid (fun X hb => ⟨(hoB5.below hb hoB5.lt).cell 3, (hD.cB.below hb hD.cB.lt).cell 0, (hD.cB.below hb hD.cB.lt).cell 1, (hD.cB.below hb hD.cB.lt).cell 2, (hD.cB.below hb hD.cB.lt).cell 3, (hD.cB.below hb hD.cB.lt).cell 4⟩)
                        have HO5 : Hid (∀ X, Below V5.heap.size V5 X → OwnL X W0.heap.size 48 5 RBlock (.slice (some ⟨gb, 0, none⟩) f.blocks.length f.blocks.length) acc css) := Lib.hid (fun X hb => hown5.below mono_block hb)
                        have HBL5 : Hid (∀ X, Below V5.heap.size V5 X → Calls Tryz.prog 22 #[.int .i64 (i : Int), .pointer (some ⟨w.heap.size + 1 + 1 + 1 + 1, 0, none⟩), .pointer (some ⟨w.heap.size + 1, 0, none⟩)] X fun e w' => e = .returned (.int .i64 ((qb : Nat) : Int)) ∧ X = w') := Lib.hid (fun X hb => by rw [hqb]; exact HBL.out X (hbW.trans (hb.mono hbW.size)) i hlt)
                        have hli : ((qb : Nat) : Int) < (f.blocks.length : Int) := by omega
                        have HTK := Lib.hid htk
                        have HTA := Lib.hid hta
                        have HTT := Lib.hid htt
                        have HTE := Lib.hid hte
                        have HDV := Lib.hid hD
                        have HBV := Lib.hid hbW
                        have hgl5 : gb < V5.heap.size := (hown5.lt gb rfl).2
                        have hgbo : gb < wo.heap.size := (H1.out.own.lt gb rfl).2
                        have hwov : wo.heap.size ≤ V5.heap.size := hD.below.size
                        have hW0wo : W0.heap.size ≤ wo.heap.size := H1.out.below.size
                        have HOB5 := Lib.hid hoB5
                        clear hqb hD hbW htk hta htt hte hoB5 hown5 hlc hjc hci HD3 hkd
                        have hz0 : Below V5.heap.size V5 V5.drew := (Below.refl _ _).drew
                        refine wp_region_L (by kernel_rfl) 7 (fun w2 => w2.cell? ⟨ob, 3, none⟩ = some (.slice (some ⟨gb, 0, none⟩) f.blocks.length f.blocks.length) ∧ w2.cell? ⟨wo.heap.size + 1, 0, none⟩ = some (.slice Av2 (x.ins.map (renIns R)).length cv2) ∧ w2.cell? ⟨wo.heap.size + 1, 1, none⟩ = some (.int .i64 tk) ∧ w2.cell? ⟨wo.heap.size + 1, 2, none⟩ = some (.int .i64 ta) ∧ w2.cell? ⟨wo.heap.size + 1, 3, none⟩ = some (.int .i64 tt) ∧ w2.cell? ⟨wo.heap.size + 1, 4, none⟩ = some (.int .i64 te)) (SO5.out _ hz0) (fun hHeld => ?_)
                        have HS0 := Lib.hid hHeld
                        clear hHeld
                        change wpAnyL _ _ _ _ _ 7 8 (Array.replicate 8 false) _ _
                        generalize V5.drew = X0 at *
                        have HZ0 := Lib.hid hz0
                        clear hz0
                        refine takeL 0 159 (.pointer (some ⟨ob, 3, none⟩)) HS0.out rfl rfl (by kernel_rfl) (by kernel_rfl) (by kernel_rfl) (by decide) (fun _ _ _ h => h) (by kernel_rfl) ?_ ?_
                        · intro w2; go_simp
                        simp only [List.setIfInBounds_toArray, List.set_cons_zero, List.set_cons_succ]
                        refine takeL_S 1 160 (.slice (some ⟨gb, 0, none⟩) f.blocks.length f.blocks.length) [7] HS0.out rfl rfl (by kernel_rfl) (by kernel_rfl) (by kernel_rfl) (by decide) (by kernel_rfl) (fun _ _ _ h => h) (by kernel_rfl) ?_ ?_
                        · intro w2 hSw; obtain ⟨g0, g1, g2, g3, g4, g5⟩ := hSw; go_simp
                        simp only [List.setIfInBounds_toArray, List.set_cons_zero, List.set_cons_succ]
                        refine takeL 2 161 (.func (Fn.func 22) #[] #[.pointer (some ⟨w.heap.size + 1 + 1 + 1 + 1, 0, none⟩), .pointer (some ⟨w.heap.size + 1, 0, none⟩)]) HS0.out rfl rfl (by kernel_rfl) (by kernel_rfl) (by kernel_rfl) (by decide) (fun _ _ _ h => h) (by kernel_rfl) ?_ ?_
                        · intro w2; go_simp
                        simp only [List.setIfInBounds_toArray, List.set_cons_zero, List.set_cons_succ]
                        refine takeL 3 162 (.int .i64 (i : Int)) HS0.out rfl rfl (by kernel_rfl) (by kernel_rfl) (by kernel_rfl) (by decide) (fun _ _ _ h => h) (by kernel_rfl) ?_ ?_
                        · intro w2; go_simp
                        simp only [List.setIfInBounds_toArray, List.set_cons_zero, List.set_cons_succ]
                        refine takeL_S 5 164 (.agg #[.slice Av2 (x.ins.map (renIns R)).length cv2, .int .i64 tk, .int .i64 ta, .int .i64 tt, .int .i64 te]) [7] HS0.out rfl rfl (by kernel_rfl) (by kernel_rfl) (by kernel_rfl) (by decide) (by kernel_rfl) (fun _ _ _ h => h) (by kernel_rfl) ?_ ?_
                        · intro w2 hSw; obtain ⟨g0, g1, g2, g3, g4, g5⟩ := hSw; go_simp
                        simp only [List.setIfInBounds_toArray, List.set_cons_zero, List.set_cons_succ]
                        refine wpAnyL_ready (rs := [4]) (by kernel_rfl) (by simp) ?_
                        refine AllReadyL.cons rfl (fun K hK => ?_) AllReadyL.nil
                        go_simp
                        refine (HBL5.out X0 HZ0.out).mono ?_
                        rintro e w' ⟨rfl, rfl⟩
                        refine hK.out _ _ (SO5.out _ HZ0.out) (fun hHeld => ?_)
                        have HS1 := Lib.hid hHeld
                        clear hK K hHeld
                        try simp only [List.setIfInBounds_toArray, List.set_cons_zero, List.set_cons_succ]
                        refine takeL 6 165 (.pointer (some ⟨gb, qb * 5, none⟩)) HS1.out rfl rfl (by kernel_rfl) (by kernel_rfl) (by kernel_rfl) (by decide) (fun _ _ _ h => h) (by kernel_rfl) ?_ ?_
                        · intro w2; go_simp
                        simp only [List.setIfInBounds_toArray, List.set_cons_zero, List.set_cons_succ]
                        have z0 := (HO5.out X0 HZ0.out).frozen (qb * 5)
                        have z1 := (HO5.out X0 HZ0.out).frozen (qb * 5 + 1)
                        have z2 := (HO5.out X0 HZ0.out).frozen (qb * 5 + 2)
                        have z3 := (HO5.out X0 HZ0.out).frozen (qb * 5 + 3)
                        have z4 := (HO5.out X0 HZ0.out).frozen (qb * 5 + 4)
                        obtain ⟨d0, d1, d2, d3, d4, y0, y1, y2, y3, y4⟩ := HDD.out X0 HZ0.out
                        refine wpAnyL_ready (rs := [7]) (by kernel_rfl) (by simp) ?_
                        refine AllReadyL.last rfl (by kernel_rfl) (fun K hK => ?_)
                        go_simp
                        refine hK.out _ _ ?_
                        clear hK K
                        try simp only [List.setIfInBounds_toArray, List.set_cons_zero, List.set_cons_succ]
                        refine wpAnyL_done (by kernel_rfl) ?_ _
                        go_wp2_with fail
                        go_roundw
                        case rel =>
                          clear hli
                          refine ⟨i + 1, by omega, by go_num, ?_⟩
                          have hD := HDV.out.on HZ0.out
                          have ho := HO5.out X0 HZ0.out
                          have hx : RBlock X0 (okOwn W0.heap.size X0 (.slice (some ⟨gb, 0, none⟩) f.blocks.length f.blocks.length)) [.slice Av2 x.ins.length cv2, .int .i64 tk, .int .i64 ta, .int .i64 tt, .int .i64 te] (renBlock R x) := by
                            have k1 := HTK.out
                            have k2 := HTA.out
                            have k3 := HTT.out
                            have k4 := HTE.out
                            subst k1 k2 k3 k4
                            have hDo := hD.own
                            rw [List.length_map] at hDo
                            refine ⟨_, rfl, (hDo.slr mono_ins).imp (fun b hb => ⟨by omega, hb.2, fun e => ?_⟩) (Keeps.refl _ _) (fun _ _ _ r => r.imp (fun b hb => ⟨by omega, hb.2, fun e => ?_⟩) (Keeps.refl _ _))⟩
                            · have e' : gb = b := (by simpa [Value.ownBlock] using e)
                              omega
                            · have e' : gb = b := (by simpa [Value.ownBlock] using e)
                              omega
                          have hgW : W0.heap.size ≤ gb := hgb
                          have hne5 : ob ≠ gb := hne
                          have hput := ho.put5' mono_block H1.out.at_.len.symm hbl hx
                          have hat := H1.out.at_.next (by omega) hby hlt
                          rw [← HX.out, ← HR.out, ← HQB.out] at hat
                          exact ⟨_, _, ((((((HBV.out.trans (HZ0.out.mono HBV.out.size)).setCell hgW _).setCell hgW _).setCell hgW _).setCell hgW _).setCell hgW _), (((((HOB5.out.below HZ0.out HOB5.out.lt).far hne5 _).far hne5 _).far hne5 _).far hne5 _).far hne5 _, hput, hat⟩
                        case measure => simp [intOf]; omega
      · obtain rfl : i = f.blocks.length := by omega
        have e1 : decide ((f.blocks.length : Int) < (f.blocks.length : Int)) = false := decide_eq_false (by omega)
        have h1 := H1.out
        have hrB := HRB.out.below h1.below HRB.out.lt
        have y0 : wr.cell? ⟨ob, 0, none⟩ = some (.string f.name) := h1.oB.cell 0
        have y1 : wr.cell? ⟨ob, 1, none⟩ = some (.int .i64 (p : Int)) := h1.oB.cell 1
        have y2 : wr.cell? ⟨ob, 2, none⟩ = some (.int .i64 10) := h1.oB.cell 2
        have y3 : wr.cell? ⟨ob, 3, none⟩ = some (.slice (some ⟨gb, 0, none⟩) f.blocks.length f.blocks.length) := h1.oB.cell 3
        have q0 : wr.cell? ⟨w.heap.size + 1 + 1 + 1, 0, none⟩ = some (.string ⟨#[]⟩) := hrB.cell 0
        have q1 : wr.cell? ⟨w.heap.size + 1 + 1 + 1, 1, none⟩ = some (.int .i64 0) := hrB.cell 1
        have q2 : wr.cell? ⟨w.heap.size + 1 + 1 + 1, 2, none⟩ = some (.int .i64 0) := hrB.cell 2
        have q3 : wr.cell? ⟨w.heap.size + 1 + 1 + 1, 3, none⟩ = some (.slice none 0 0) := hrB.cell 3
        have z0 := hrB.frozen 0
        have z1 := hrB.frozen 1
        have z2 := hrB.frozen 2
        have z3 := hrB.frozen 3
        have rl : w.heap.size + 1 + 1 + 1 < wr.heap.size := hrB.lt
        clear h1 hrB
        go_wp2
        refine bodyPost_ret (v := .agg #[.string f.name, .int .i64 (p : Int), .int .i64 10, .slice (some ⟨gb, 0, none⟩) f.blocks.length f.blocks.length]) (by simp [results, Tryz.results10, go_sem, q0, q1, q2, q3]) rfl ?_
        have hW0s : w.heap.size ≤ W0.heap.size := HB0.out.size
        have hneg : ∀ (k b : Nat), (W0.heap.size ≤ b ∧ b < wr.heap.size) → b ≠ (⟨w.heap.size + 1 + 1 + 1, k, none⟩ : Addr).block := fun k b hb => by show b ≠ w.heap.size + 1 + 1 + 1; omega
        refine ⟨acc, gb, by rw [HFP.out, HFV.out], ((((HB0.out.trans (H1.out.below.mono HB0.out.size)).setCell (by show w.heap.size ≤ w.heap.size + 1 + 1 + 1; omega) _).setCell (by show w.heap.size ≤ w.heap.size + 1 + 1 + 1; omega) _).setCell (by show w.heap.size ≤ w.heap.size + 1 + 1 + 1; omega) _).setCell (by show w.heap.size ≤ w.heap.size + 1 + 1 + 1; omega) _, H1.out.at_.done, ?_⟩
        have hk := H1.out.own.keep mono_block (w' := (((wr.setCell ⟨w.heap.size + 1 + 1 + 1, 0, none⟩ (.string f.name)).setCell ⟨w.heap.size + 1 + 1 + 1, 1, none⟩ (.int .i64 (p : Int))).setCell ⟨w.heap.size + 1 + 1 + 1, 2, none⟩ (.int .i64 10)).setCell ⟨w.heap.size + 1 + 1 + 1, 3, none⟩ (.slice (some ⟨gb, 0, none⟩) f.blocks.length f.blocks.length)) (((((Keeps.refl _ _).set (hneg _) _).set (hneg _) _).set (hneg _) _).set (hneg _) _) (by simp [World.setCell])
        exact (hk.slr mono_block).imp (fun b hb => ⟨by omega, hb.2⟩) (Keeps.refl _ _) (fun _ _ _ r => r.imp (fun b hb => ⟨by omega, hb.2⟩) (Keeps.refl _ _))
end Go.Proofs.YtknccacfhknnaaaGreat
