/- The states of the law CheckTwice: names; a name put among arrays, functions, locals of a program of one's own. Plain laws. -/
import Derived.Test.YtmignlclfbaifaaGreatTrLSet
import Derived.Test.YtmignlclfbaifaaGreatTrWrong2
import Derived.Test.YtmignlclfbaifaaGreatTrGlobals
namespace Go.Proofs.YtmignlclfbaifaaGreat
open Go.RowKit

/-- what was made, with the arrays' row one's own -/
theorem ProgPost.inn2 {w w' : World} {e : Ending} (h : ProgPost w e w') : ∃ (p : LProg) (A1 : Option Addr) (c1 g c2 B1 B3 lo : Nat) (css1 css : List (List Value)), e = .returned (.agg #[.slice A1 p.arrays.length c1, .slice (some ⟨g, 0, none⟩) p.funcs.length c2]) ∧ Below w.heap.size w w' ∧ B1 ≤ lo ∧ w.heap.size ≤ B1 ∧ ProgIn w' p A1 c1 g c2 B3 lo css ∧
    OwnL w' B1 53 2 RArrM (.slice A1 p.arrays.length c1) p.arrays css1 ∧ (∀ k, (.slice A1 p.arrays.length c1 : Value).ownBlock = some k → k < lo) := by
  obtain ⟨p, A1, A2, c1, c2, B1, lo, B3, css1, css2, he, hg, hb, h1, h2, h3, hA, hlt, hF⟩ := h
  obtain ⟨g, c', hv, _, _, _⟩ := own_some hF.row hg.pos
  injection hv with e1 _ e3
  subst e1 e3
  exact ⟨p, A1, c1, g, c2, B1, B3, lo, css1, css2, he, hb, h2, h1, ⟨hg, hA.slr_lo hlt, h3, hF⟩, hA, hlt⟩
theorem set_size (w : World) (p : Addr) (v : Value) : (w.setCell p v).heap.size = w.heap.size := by simp [World.setCell]
theorem namesAt_one {W wr w1 : World} {v : Value} {l : List ByteArray} {s : ByteArray} {n g cap : Nat} {xs : List Value} {o1 : Obj} (h : NamesAt W wr v l) (hn : n = l.length) (hx : xs = l.map encT) (hown : w1.ownsRow W.heap.size 9 1 (.slice (some ⟨g, 0, none⟩) (n + 1) cap) (n + 1) (xs ++ [.string s]))
    (hg : (wr.alloc o1).grownBy w1 v.ownBlock) : NamesAt W w1 (.slice (some ⟨g, 0, none⟩) (n + 1) cap) (l ++ [s]) := by
  subst hn
  subst hx
  have hs := h.below.size
  refine ⟨by simpa [encT] using hown, ?_⟩
  refine (h.below.alloc hs o1).grown hg (by simp; omega) (fun k e => ?_)
  have := h.row.lt k e
  omega
theorem names_cell {w : World} {base g n c i : Nat} {T : TypeId} {l : List ByteArray} (h : w.ownsRow base T 1 (.slice (some ⟨g, 0, none⟩) n c) n (l.map encT)) (hi : i < l.length) : w.cell? ⟨g, i, none⟩ = some (.string l[i]) := by
  have h2 := (Cells.of_own h rfl) i (by simpa using hi)
  simpa [encT] using h2
theorem local_set (p : LProg) {k : Nat} (hk : k < p.funcs.length) (s : ByteArray) : (localP p k s).funcs = p.funcs.set k ⟨p.funcs[k].name, p.funcs[k].params, p.funcs[k].locals ++ [s], p.funcs[k].body⟩ := by
  refine List.ext_getElem (by simp [localP]) fun j h1 h2 => ?_
  by_cases h : k = j
  · subst h; simp [localP]
  · simp [localP, h]
/-- ahead of the switch -/
structure TwIn (W0 X : World) (p : LProg) (A1 : Option Addr) (c1 g c2 B1 B3 lo pb bw : Nat) (css1 css : List (List Value)) : Prop where
  gen : GenP p
  bel : Below W0.heap.size W0 X
  b1 : W0.heap.size ≤ B1
  b2 : W0.heap.size ≤ lo
  b1l : B1 ≤ lo
  b3 : lo ≤ B3
  ord : g < pb ∧ pb < bw ∧ bw < X.heap.size
  arr : OwnL X B1 53 2 RArrM (.slice A1 p.arrays.length c1) p.arrays css1
  alt : ∀ k, (.slice A1 p.arrays.length c1 : Value).ownBlock = some k → k < lo
  row : OwnX X (fun b => lo ≤ b ∧ b < pb ∧ b ≠ g) B3 49 4 (RFuncM 8) (.slice (some ⟨g, 0, none⟩) p.funcs.length c2) p.funcs css
  prog : Blk X pb 27 #[.slice A1 p.arrays.length c1, .slice (some ⟨g, 0, none⟩) p.funcs.length c2]
  want : Blk X bw 33 #[.int .i64 0, .int .i64 0]
/-- behind it: a program that is told to have a name twice -/
def TwOut (W0 Y : World) (pb bw : Nat) : Prop := ∃ (q : LProg) (kk : Int) (A A' : Option Addr) (c c' : Nat), Below W0.heap.size W0 Y ∧ Blk Y pb 27 #[.slice A q.arrays.length c, .slice A' q.funcs.length c'] ∧ Blk Y bw 33 #[.int .i64 kk, .int .i64 0] ∧
  SlR Y (· < Y.heap.size) 2 RArr (.slice A q.arrays.length c) q.arrays ∧ SlR Y (· < Y.heap.size) 4 (RFunc 8 Y (· < Y.heap.size)) (.slice A' q.funcs.length c') q.funcs ∧ FewP 8 q ∧ checkE 8 q = (50, kk, 0)
section
variable {W0 X X2 Y : World} {p : LProg} {A1 : Option Addr} {c1 g c2 B1 B3 lo pb bw : Nat} {css1 css : List (List Value)} {s : ByteArray}
theorem TwIn.below (h : TwIn W0 X p A1 c1 g c2 B1 B3 lo pb bw css1 css) (hb : Below X.heap.size X Y) : TwIn W0 Y p A1 c1 g c2 B1 B3 lo pb bw css1 css :=
  ⟨h.gen, h.bel.trans (hb.mono h.bel.size), h.b1, h.b2, h.b1l, h.b3, ⟨h.ord.1, h.ord.2.1, Nat.lt_of_lt_of_le h.ord.2.2 hb.size⟩, h.arr.below mono_arr hb, h.alt,
   h.row.below (mono_func 8) hb (fun b hb => by have := h.ord; omega) (fun _ h => h) (fun k e hk => hk.2.2 (by simpa [Value.ownBlock] using e.symm)), h.prog.below hb (by have := h.ord; omega), h.want.below hb h.ord.2.2⟩
theorem TwIn.lo_g (h : TwIn W0 X p A1 c1 g c2 B1 B3 lo pb bw css1 css) : lo ≤ g := Nat.le_trans h.b3 (h.row.row.lt g rfl).1
theorem TwIn.funs (h : TwIn W0 X p A1 c1 g c2 B1 B3 lo pb bw css1 css) : SlR X (fun b => lo ≤ b ∧ b < pb) 4 (RFunc 8 X (fun b => lo ≤ b ∧ b < pb)) (.slice (some ⟨g, 0, none⟩) p.funcs.length c2) p.funcs :=
  h.row.slr (mono_func 8) (fun b hb => ⟨hb.1, hb.2.1⟩) (fun k e => by have e' : g = k := (by simpa [Value.ownBlock] using e); have := h.ord; have := h.lo_g; omega)
theorem TwIn.arrs (h : TwIn W0 X p A1 c1 g c2 B1 B3 lo pb bw css1 css) : SlR X (· < lo) 2 RArr (.slice A1 p.arrays.length c1) p.arrays := h.arr.slr_lo h.alt
theorem TwIn.b1x (h : TwIn W0 X p A1 c1 g c2 B1 B3 lo pb bw css1 css) : B1 ≤ X.heap.size := by have := h.b1l; have := h.lo_g; have := h.ord; omega
theorem tw_keep (h : TwIn W0 X p A1 c1 g c2 B1 B3 lo pb bw css1 css) (h2 : Below X.heap.size X X2) {n : Nat} (hgr : X2.grownBy Y (.slice A1 n c1 : Value).ownBlock) (hn : n = p.arrays.length) : Y.frozen? ⟨pb, 0, none⟩ = false ∧ Y.cell? ⟨pb, 0, none⟩ = some (.slice A1 p.arrays.length c1) := by
  subst hn
  have hlg := h.lo_g
  have ho := h.ord
  have hP := (h.below h2).prog.grown hgr (fun e => by have := h.alt pb e; omega)
  exact ⟨hP.frozen 0, hP.cell 0⟩
theorem tw_keepf (h : TwIn W0 X p A1 c1 g c2 B1 B3 lo pb bw css1 css) (h2 : Below X.heap.size X X2) {n : Nat} (hgr : X2.grownBy Y (.slice (some ⟨g, 0, none⟩) n c2 : Value).ownBlock) : Y.frozen? ⟨pb, 1, none⟩ = false ∧ Y.cell? ⟨pb, 1, none⟩ = some (.slice (some ⟨g, 0, none⟩) p.funcs.length c2) := by
  have ho := h.ord
  have hP := (h.below h2).prog.grown hgr (fun e => by have e' : g = pb := (by simpa [Value.ownBlock] using e); omega)
  exact ⟨hP.frozen 1, hP.cell 1⟩
/-- behind two appends, of which the first one made a row of one's own -/
theorem tw_two {X Wf X1 Y : World} {n1 c : Nat} {A : Option Addr} {T : TypeId} {xs : List Value} {o : Obj} (hf : Below X.heap.size X Wf) (h1 : Wf.grownBy X1 (.slice none 0 0 : Value).ownBlock) (hrow : (X1.alloc o).ownsRow Wf.heap.size T 1 (.slice A n1 c) n1 xs) (h2 : (X1.alloc o).grownBy Y (.slice A n1 c : Value).ownBlock) :
    Below X.heap.size X Y ∧ ∀ b, b < Wf.heap.size → Y.heap[b]? = Wf.heap[b]? := by
  have hk : ∀ b, b < Wf.heap.size → Y.heap[b]? = Wf.heap[b]? := fun b hb => (h2.block b (by have := h1.size; simp; omega) (fun e => by have := (hrow.lt b e.symm).1; omega)).trans ((Below.heap_alloc X1 o b (by have := h1.size; omega)).trans (h1.block b hb (fun e => by cases e)))
  refine ⟨⟨h2.os.trans (h1.os.trans hf.os), h2.tape.trans (h1.tape.trans hf.tape), h2.output.trans (h1.output.trans hf.output), ?_, fun b hb => (hk b (Nat.lt_of_lt_of_le hb hf.size)).trans (hf.block b hb)⟩, hk⟩
  have a := hf.size; have b := h1.size; have c := h2.size
  simp at c
  omega
/-- the name put among the arrays -/
theorem tw_arr (h : TwIn W0 X p A1 c1 g c2 B1 B3 lo pb bw css1 css) (h2 : Below X.heap.size X X2) (hs : s ∈ globalsL p) {n gg cap : Nat} (hn : n = p.arrays.length) (hrow : Y.ownsRow B1 53 2 (.slice (some ⟨gg, 0, none⟩) (n + 1) cap) (n + 1) (css1.flatten ++ [.string s, .int .i64 1]))
    (hgr : X2.grownBy Y (.slice A1 n c1 : Value).ownBlock) (hat : (.slice A1 n c1 : Value).ownBlock = some gg ∨ gg = X2.heap.size) : TwOut W0 (Y.setCell ⟨pb, 0, none⟩ (.slice (some ⟨gg, 0, none⟩) (n + 1) cap)) pb bw := by
  subst hn
  have hlg := h.lo_g
  have ho := h.ord
  have hsz2 := h2.size
  have hszY := hgr.size
  have arr2 := OwnL.snoc (x := ((s, 1) : ByteArray × Int)) (cs := [.string s, .int .i64 1]) mono_arr h.arr (fun b hb => h2.block b hb.2) h2.size rfl hrow hgr (hat.imp id (fun e => Nat.le_of_eq e.symm)) rfl
  have hgg : gg < Y.heap.size ∧ gg ≠ pb := by
    refine ⟨(hrow.lt gg rfl).2, ?_⟩
    rcases hat with e | e
    · have := h.alt gg e; omega
    · omega
  have hne : ∀ b, lo ≤ b → some b ≠ (.slice A1 p.arrays.length c1 : Value).ownBlock := fun b hb e => by have := h.alt b e.symm; omega
  have hYX : ∀ b, lo ≤ b → b < X.heap.size → Y.heap[b]? = X.heap[b]? := fun b hb hb2 => (hgr.block b (by omega) (hne b hb)).trans (h2.block b hb2)
  have hZY : ∀ b, b ≠ pb → (Y.setCell ⟨pb, 0, none⟩ (.slice (some ⟨gg, 0, none⟩) (p.arrays.length + 1) cap)).heap[b]? = Y.heap[b]? := fun b hb => Below.heap_setCell Y ⟨pb, 0, none⟩ _ b hb
  have hW : Below W0.heap.size W0 Y := ⟨hgr.os.trans (h2.os.trans h.bel.os), hgr.tape.trans (h2.tape.trans h.bel.tape), hgr.output.trans (h2.output.trans h.bel.output), Nat.le_trans h.bel.size (by omega), fun b hb => by
    have hb3 := h.bel.size
    exact (hgr.block b (by omega) (fun e => by have := (h.arr.lt b e.symm).1; have := h.b1; omega)).trans ((h2.block b (by omega)).trans (h.bel.block b hb))⟩
  have hP : Blk Y pb 27 #[.slice A1 p.arrays.length c1, .slice (some ⟨g, 0, none⟩) p.funcs.length c2] := h.prog.keep (hYX pb (by omega) (by omega))
  have hQ : Blk Y bw 33 #[.int .i64 0, .int .i64 0] := h.want.keep (hYX bw (by omega) (by omega))
  refine ⟨{ p with arrays := p.arrays ++ [(s, 1)] }, 0, some ⟨gg, 0, none⟩, some ⟨g, 0, none⟩, cap, c2, hW.setCell (p := ⟨pb, 0, none⟩) (by show W0.heap.size ≤ pb; have := h.b2; omega) _, ?_, hQ.far (p := ⟨pb, 0, none⟩) (by show bw ≠ pb; omega) _, ?_, ?_, few_of ?_ ?_ ?_, twice_arr h.gen.made (by decide) hs⟩
  · show Blk _ pb _ #[.slice (some ⟨gg, 0, none⟩) (p.arrays ++ [(s, (1 : Int))]).length cap, _]
    rw [List.length_append]
    exact hP.set_ 0 _
  · show SlR _ _ 2 RArr (.slice (some ⟨gg, 0, none⟩) (p.arrays ++ [(s, (1 : Int))]).length cap) (p.arrays ++ [(s, 1)])
    rw [List.length_append]
    have ha : SlR Y (fun b => b < Y.heap.size ∧ b ≠ pb) 2 RArr (.slice (some ⟨gg, 0, none⟩) (p.arrays.length + 1) cap) (p.arrays ++ [(s, 1)]) := SlR.of_own arr2.row (by simp) arr2.len arr2.each (fun i h1 h2 => arr2.elems i h1 h2) (fun k e => by have e' : gg = k := (by simpa [Value.ownBlock] using e); rw [← e']; exact hgg)
    exact ha.imp (fun b hb => by simpa [World.setCell] using hb.1) (fun b hb => hZY b hb.2) fun _ _ _ r => r
  · exact h.funs.imp (fun b hb => by simp only [set_size]; omega) (fun b hb => (hZY b (by omega)).trans (hYX b hb.1 (by omega))) fun _ _ _ r => r.imp (fun b hb => by simp only [set_size]; omega) (fun b hb => (hZY b (by omega)).trans (hYX b hb.1 (by omega)))
  · have := h.gen.few.2; show (p.arrays ++ [(s, (1 : Int))]).length ≤ 400; rw [List.length_append, List.length_singleton]; omega
  · have := h.gen.few.1; show p.funcs.length ≤ 400; omega
  · intro f hf; have := h.gen.func 8 hf; omega
/-- the name put among the functions -/
theorem tw_fun (h : TwIn W0 X p A1 c1 g c2 B1 B3 lo pb bw css1 css) (h2 : Below X.heap.size X X2) (hs : s ∈ globalsL p) {n gg cap : Nat} (hn : n = p.funcs.length) (hrow : Y.ownsRow B3 49 4 (.slice (some ⟨gg, 0, none⟩) (n + 1) cap) (n + 1) (css.flatten ++ [.string s, .slice none 0 0, .slice none 0 0, .slice none 0 0]))
    (hgr : X2.grownBy Y (.slice (some ⟨g, 0, none⟩) n c2 : Value).ownBlock) (hat : (.slice (some ⟨g, 0, none⟩) n c2 : Value).ownBlock = some gg ∨ gg = X2.heap.size) : TwOut W0 (Y.setCell ⟨pb, 1, none⟩ (.slice (some ⟨gg, 0, none⟩) (n + 1) cap)) pb bw := by
  subst hn
  have hlg := h.lo_g
  have ho := h.ord
  have hsz2 := h2.size
  have hszY := hgr.size
  have hge : (gg = g ∨ gg = X2.heap.size) := hat.imp (fun e => by have e' : g = gg := (by simpa [Value.ownBlock] using e); exact e'.symm) id
  have hgg : gg < Y.heap.size ∧ gg ≠ pb := ⟨(hrow.lt gg rfl).2, by omega⟩
  have hYX : ∀ b, b ≠ g → b < X.heap.size → Y.heap[b]? = X.heap[b]? := fun b hb hb2 => (hgr.block b (by omega) (fun e => hb (by have e' : b = g := (by simpa [Value.ownBlock] using e); exact e'))).trans (h2.block b hb2)
  have hZY : ∀ b, b ≠ pb → (Y.setCell ⟨pb, 1, none⟩ (.slice (some ⟨gg, 0, none⟩) (p.funcs.length + 1) cap)).heap[b]? = Y.heap[b]? := fun b hb => Below.heap_setCell Y ⟨pb, 1, none⟩ _ b hb
  have row2 := h.row.snoc (w' := Y) (ok' := fun b => lo ≤ b ∧ b < pb ∧ b ≠ g) (x := (⟨s, [], [], []⟩ : LFunc)) (v' := .slice (some ⟨gg, 0, none⟩) (p.funcs.length + 1) cap) (mono_func 8) rfl hrow (fun b hb => hYX b hb.2.2 (by omega)) (fun _ h => h) (fun k e hk => by have e' : gg = k := (by simpa [Value.ownBlock] using e); omega) ⟨_, _, _, rfl, SlR.nil_ _ _ _ _, SlR.nil_ _ _ _ _, SlR.nil_ _ _ _ _⟩
  have hW : Below W0.heap.size W0 Y := ⟨hgr.os.trans (h2.os.trans h.bel.os), hgr.tape.trans (h2.tape.trans h.bel.tape), hgr.output.trans (h2.output.trans h.bel.output), Nat.le_trans h.bel.size (by omega), fun b hb => by
    have hb3 := h.bel.size
    have := h.b2
    exact (hYX b (by omega) (by omega)).trans (h.bel.block b hb)⟩
  have hP : Blk Y pb 27 #[.slice A1 p.arrays.length c1, .slice (some ⟨g, 0, none⟩) p.funcs.length c2] := h.prog.keep (hYX pb (by omega) (by omega))
  have hQ : Blk Y bw 33 #[.int .i64 0, .int .i64 0] := h.want.keep (hYX bw (by omega) (by omega))
  refine ⟨{ p with funcs := p.funcs ++ [⟨s, [], [], []⟩] }, 0, A1, some ⟨gg, 0, none⟩, c1, cap, hW.setCell (p := ⟨pb, 1, none⟩) (by show W0.heap.size ≤ pb; have := h.b2; omega) _, ?_, hQ.far (p := ⟨pb, 1, none⟩) (by show bw ≠ pb; omega) _, ?_, ?_, few_of ?_ ?_ ?_, twice_fun h.gen.made (by decide) hs⟩
  · show Blk _ pb _ #[_, .slice (some ⟨gg, 0, none⟩) (p.funcs ++ [(⟨s, [], [], []⟩ : LFunc)]).length cap]
    rw [List.length_append]
    exact hP.set_ 1 _
  · exact h.arrs.imp (fun b hb => by have h1 : b < lo := hb; simp only [set_size]; omega) (fun b hb => by have h1 : b < lo := hb; exact (hZY b (by omega)).trans (hYX b (by omega) (by omega))) fun _ _ _ r => r
  · show SlR _ _ 4 _ (.slice (some ⟨gg, 0, none⟩) (p.funcs ++ [(⟨s, [], [], []⟩ : LFunc)]).length cap) (p.funcs ++ [⟨s, [], [], []⟩])
    rw [List.length_append]
    have ha := row2.slr (mono_func 8) (ok' := fun b => b < Y.heap.size ∧ b ≠ pb) (fun b hb => by omega) (fun k e => by have e' : gg = k := (by simpa [Value.ownBlock] using e); rw [← e']; exact hgg)
    exact ha.imp (fun b hb => by simpa [World.setCell] using hb.1) (fun b hb => hZY b hb.2) fun _ _ _ r => r.imp (fun b hb => by simpa [World.setCell] using hb.1) (fun b hb => hZY b hb.2)
  · have := h.gen.few.2; show p.arrays.length ≤ 400; omega
  · have := h.gen.few.1; show (p.funcs ++ [(⟨s, [], [], []⟩ : LFunc)]).length ≤ 400; rw [List.length_append, List.length_singleton]; omega
  · intro f hf
    rcases List.mem_append.1 hf with hf | hf
    · have := h.gen.func 8 hf; omega
    · obtain rfl := List.mem_singleton.1 hf; exact ⟨Nat.zero_le _, Nat.zero_le _, Nat.zero_le _⟩
/-- the name put among a function's locals -/
theorem tw_loc (h : TwIn W0 X p A1 c1 g c2 B1 B3 lo pb bw css1 css) (h2 : Below X.heap.size X Y) (hs : s ∈ globalsL p) {k base nn cv : Nat} {Av : Option Addr} {T : TypeId} (hk : k < p.funcs.length) {vp vb : Value}
    (hpar : SlR X (fun b => lo ≤ b ∧ b < pb ∧ b ≠ g) 1 RStr vp p.funcs[k].params) (hbod : SlR X (fun b => lo ≤ b ∧ b < pb ∧ b ≠ g) 5 (RStmt 8 X (fun b => lo ≤ b ∧ b < pb ∧ b ≠ g)) vb p.funcs[k].body)
    (hrow : Y.ownsRow base T 1 (.slice Av nn cv) nn ((p.funcs[k].locals ++ [s]).map encT)) (hbase : X.heap.size ≤ base) :
    TwOut W0 ((((((Y.setCell ⟨g, k * 4, none⟩ (.string p.funcs[k].name)).setCell ⟨g, k * 4 + 1, none⟩ vp).setCell ⟨g, k * 4 + 2, none⟩ (.slice Av nn cv)).setCell ⟨g, k * 4 + 3, none⟩ vb).setCell ⟨bw, 0, none⟩ (.int .i64 (k : Int))).setCell ⟨bw, 1, none⟩ (.int .i64 0)) pb bw := by
  have hlg := h.lo_g
  have ho := h.ord
  have hsz2 := h2.size
  have hi := h.below h2
  have hloc : SlR Y (fun b => lo ≤ b ∧ b < Y.heap.size ∧ b ≠ g ∧ b ≠ bw) 1 RStr (.slice Av nn cv) (p.funcs[k].locals ++ [s]) := strs_of_own hrow fun q e => by have := hrow.lt q e; exact ⟨by omega, by omega, by omega, by omega⟩
  have up : ∀ b, (lo ≤ b ∧ b < pb ∧ b ≠ g) → (lo ≤ b ∧ b < Y.heap.size ∧ b ≠ g ∧ b ≠ bw) := fun b hb => ⟨hb.1, by omega, hb.2.2, by omega⟩
  have kp : Keeps (fun b => lo ≤ b ∧ b < pb ∧ b ≠ g) X Y := fun b hb => h2.block b (by omega)
  have hel : RFuncM 8 Y (fun b => lo ≤ b ∧ b < Y.heap.size ∧ b ≠ g ∧ b ≠ bw) [.string p.funcs[k].name, vp, .slice Av nn cv, vb] ⟨p.funcs[k].name, p.funcs[k].params, p.funcs[k].locals ++ [s], p.funcs[k].body⟩ :=
    ⟨_, _, _, rfl, hpar.imp up kp fun _ _ _ r => r, hloc, hbod.imp up kp fun _ _ _ r => r.imp up kp⟩
  have hrow2 : OwnX Y (fun b => lo ≤ b ∧ b < Y.heap.size ∧ b ≠ g ∧ b ≠ bw) B3 49 4 (RFuncM 8) (.slice (some ⟨g, 0, none⟩) p.funcs.length c2) p.funcs css :=
    h.row.below (mono_func 8) h2 (fun b hb => by omega) up (fun q e hq => hq.2.2.1 (by have e' : g = q := (by simpa [Value.ownBlock] using e); exact e'.symm))
  have hput := hrow2.put4 (mono_func 8) rfl (by rw [h.row.len]; exact hk) hel
  generalize hZ1 : (((Y.setCell ⟨g, k * 4, none⟩ (.string p.funcs[k].name)).setCell ⟨g, k * 4 + 1, none⟩ vp).setCell ⟨g, k * 4 + 2, none⟩ (.slice Av nn cv)).setCell ⟨g, k * 4 + 3, none⟩ vb = Z1 at *
  have hset : ∀ b, b ≠ g → Z1.heap[b]? = Y.heap[b]? := fun b hne => by
    rw [← hZ1]
    exact (Below.heap_setCell _ ⟨g, k * 4 + 3, none⟩ _ b hne).trans ((Below.heap_setCell _ ⟨g, k * 4 + 2, none⟩ _ b hne).trans ((Below.heap_setCell _ ⟨g, k * 4 + 1, none⟩ _ b hne).trans (Below.heap_setCell _ ⟨g, k * 4, none⟩ _ b hne)))
  have hsz : Z1.heap.size = Y.heap.size := by rw [← hZ1]; simp [World.setCell]
  have hb1 : Below W0.heap.size W0 Z1 := by
    have hg : W0.heap.size ≤ g := by have := h.b2; omega
    rw [← hZ1]
    exact (((hi.bel.setCell (p := ⟨g, k * 4, none⟩) hg _).setCell (p := ⟨g, k * 4 + 1, none⟩) hg _).setCell (p := ⟨g, k * 4 + 2, none⟩) hg _).setCell (p := ⟨g, k * 4 + 3, none⟩) hg _
  have hbw : W0.heap.size ≤ bw := by have := h.b2; omega
  have hP : Blk Z1 pb 27 #[.slice A1 p.arrays.length c1, .slice (some ⟨g, 0, none⟩) p.funcs.length c2] := hi.prog.keep (hset pb (by omega))
  have hQ : Blk Z1 bw 33 #[.int .i64 0, .int .i64 0] := hi.want.keep (hset bw (by omega))
  have hZZ : ∀ b, b ≠ bw → ((Z1.setCell ⟨bw, 0, none⟩ (.int .i64 (k : Int))).setCell ⟨bw, 1, none⟩ (.int .i64 0)).heap[b]? = Z1.heap[b]? := fun b hb => (Below.heap_setCell _ ⟨bw, 1, none⟩ _ b hb).trans (Below.heap_setCell _ ⟨bw, 0, none⟩ _ b hb)
  have hf := hput.slr (mono_func 8) (ok' := fun b => b < Y.heap.size ∧ b ≠ bw) (fun b hb => ⟨hb.2.1, hb.2.2.2⟩) (fun q e => by have e' : g = q := (by simpa [Value.ownBlock] using e); omega)
  rw [← local_set p hk] at hf
  refine ⟨localP p k s, (k : Int), A1, some ⟨g, 0, none⟩, c1, c2, (hb1.setCell (p := ⟨bw, 0, none⟩) hbw _).setCell (p := ⟨bw, 1, none⟩) hbw _, ?_, (hQ.set_ 0 _).set_ 1 _, ?_, ?_, few_of ?_ ?_ ?_, twice_local h.gen.made (by decide) hk hs⟩
  · rw [local_len]
    exact (hP.far (p := ⟨bw, 0, none⟩) (by show pb ≠ bw; omega) _).far (p := ⟨bw, 1, none⟩) (by show pb ≠ bw; omega) _
  · exact hi.arrs.imp (fun b hb => by have h1 : b < lo := hb; simp only [set_size]; omega) (fun b hb => by have h1 : b < lo := hb; exact (hZZ b (by omega)).trans (hset b (by omega))) fun _ _ _ r => r
  · rw [local_len]
    exact hf.imp (fun b hb => by simp only [set_size]; omega) (fun b hb => hZZ b hb.2) fun _ _ _ r => r.imp (fun b hb => by simp only [set_size]; omega) (fun b hb => hZZ b hb.2)
  · have := h.gen.few.2; show p.arrays.length ≤ 400; omega
  · have := h.gen.few.1; rw [local_len]; omega
  · intro f hf
    rw [local_set p hk] at hf
    rcases List.mem_or_eq_of_mem_set hf with h1 | h1
    · have := h.gen.func 8 h1; omega
    · have h2 := h.gen.func 8 (List.getElem_mem hk)
      subst h1
      refine ⟨by show p.funcs[k].params.length ≤ 400; omega, by show (p.funcs[k].locals ++ [s]).length ≤ 400; rw [List.length_append, List.length_singleton]; omega, by show (allL 8 p.funcs[k].body false).length ≤ 20000; omega⟩
end
end Go.Proofs.YtmignlclfbaifaaGreat
