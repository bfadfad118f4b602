/- Blocks that nobody leads to, put behind all others, are left out again: the walk of 'DeadBlocksSaid'. Printed by wip/gen_deadblocks.py. -/
import Derived.Test.YtkpigkopjfkepaaGreatDoorPbDeadMod
import Derived.BigQuiet
namespace Go.Proofs.YtkpigkopjfkepaaGreatDoor
open Go.RowKit

/-! ### plain -/
def modB (n : Nat) (x : LBlock) : LBlock := ⟨(x.ins.take 4).map fitIns, ⟨1, 0, pk x.term.to n, 0⟩⟩
def moreL (more : List LBlock) (n i : Nat) : List LBlock := (more.take i).map (modB n)
theorem more_succ {more : List LBlock} {n i : Nat} (h : i < more.length) : moreL more n (i + 1) = moreL more n i ++ [modB n more[i]] := by
  unfold moreL; rw [List.take_succ_eq_append_getElem h, List.map_append]; rfl
theorem more_len (more : List LBlock) (n : Nat) {i : Nat} (h : i ≤ more.length) : (moreL more n i).length = i := by unfold moreL; rw [List.length_map, List.length_take]; omega
def moreF (f : LFlow) (more : List LBlock) (i : Nat) : LFlow := { f with blocks := f.blocks ++ moreL more f.blocks.length i }
theorem moreF_ext {f : LFlow} (hn : NextOk f) (more : List LBlock) (i : Nat) : Ext f (moreF f more i) := ⟨rfl, rfl, rfl, ⟨_, rfl⟩, hn⟩
theorem blockBad_more {u : LUnit} {f f' : LFlow} {b : LBlock} (hv : f'.values = f.values) (hl : f.blocks.length ≤ f'.blocks.length) (h : blockBad u f b = false) : blockBad u f' b = false := by
  unfold blockBad at *
  rw [Bool.or_eq_false_iff] at *
  rw [hv]
  refine ⟨?_, h.2⟩
  have h1 := h.1
  rw [Bool.not_eq_false'] at *
  unfold termOk at *
  simp only [Bool.and_eq_true] at *
  exact ⟨⟨h1.1.1, placeIf_up (by omega) h1.1.2⟩, placeIf_up (by omega) h1.2⟩
theorem more_unit (raw : List LBlock) {k : Nat} (hk : k < 3) (more : List LBlock) {i : Nat} (hi : i ≤ 3) :
    ∃ u : LUnit, u.arrays = (fitU raw).arrays ∧ u.flows = (fitFlows raw 3).set k (moreF (fitFl raw k) more i) ∧ UnitOk u ∧ SmallU u ∧ deadE u = deadE (fitU raw) := by
  have hpos := fit_pos raw k
  have hle := fit_le raw k
  have hmem := List.mem_of_getElem? (fit_at (raw := raw) hk)
  have hn : NextOk (fitFl raw k) := next_unit (unit_fit raw) hmem
  have hml : (moreL more (fitFl raw k).blocks.length i).length ≤ 3 := by unfold moreL; rw [List.length_map, List.length_take]; omega
  have hins : ∀ b ∈ (moreF (fitFl raw k) more i).blocks, b.ins.length ≤ 6 := fun b hb => by
    rcases List.mem_append.1 (show b ∈ (fitFl raw k).blocks ++ moreL more (fitFl raw k).blocks.length i from hb) with h | h
    · exact fit_ins raw k b h
    · obtain ⟨y, _, rfl⟩ := List.mem_map.1 h
      show ((y.ins.take 4).map fitIns).length ≤ 6
      rw [List.length_map, List.length_take]; omega
  have hlen : (moreF (fitFl raw k) more i).blocks.length ≤ 11 := by
    show ((fitFl raw k).blocks ++ moreL more (fitFl raw k).blocks.length i).length ≤ 11
    rw [List.length_append]; omega
  have hblk : ∀ b ∈ (moreF (fitFl raw k) more i).blocks, blockBad (fitU raw) (moreF (fitFl raw k) more i) b = false := fun b hb => by
    have hge : (fitFl raw k).blocks.length ≤ (moreF (fitFl raw k) more i).blocks.length := by
      show _ ≤ ((fitFl raw k).blocks ++ moreL more (fitFl raw k).blocks.length i).length
      rw [List.length_append]; omega
    rcases List.mem_append.1 (show b ∈ (fitFl raw k).blocks ++ moreL more (fitFl raw k).blocks.length i from hb) with h | h
    · exact blockBad_more (f := fitFl raw k) rfl hge (block_fit raw k b h)
    · obtain ⟨y, _, rfl⟩ := List.mem_map.1 h
      have h0 := pk_lo y.term.to ((fitFl raw k).blocks.length) (by omega)
      have h1 := pk_hi y.term.to ((fitFl raw k).blocks.length) (by omega)
      unfold blockBad
      rw [Bool.or_eq_false_iff]
      refine ⟨?_, ?_⟩
      · rw [Bool.not_eq_false']
        show termOk _ _ ⟨1, 0, pk y.term.to (fitFl raw k).blocks.length, 0⟩ = true
        have hp : 0 ≤ pk y.term.to (fitFl raw k).blocks.length ∧ pk y.term.to (fitFl raw k).blocks.length < ((moreF (fitFl raw k) more i).blocks.length : Int) := ⟨h0, by omega⟩
        unfold termOk
        simp [placeIf]
        exact hp
      · rw [List.any_eq_false]
        intro x hx
        obtain ⟨z, _, rfl⟩ := List.mem_map.1 (show x ∈ (y.ins.take 4).map fitIns from hx)
        show ¬ (!insOk (fitU raw) 10 (fitIns z)) = true
        rw [ins_fit]; decide
  have hcnt := insCount_le (l := (moreF (fitFl raw k) more i).blocks) (fun b hb => by have := hins b hb; omega)
  have hnum : flowBad (moreF (fitFl raw k) more i) = false := by
    unfold flowBad
    refine decide_eq_false ?_
    show ¬ ((k : Int) < 0 ∨ (k : Int) > 6 ∨ (10 : Int) < (k : Int) ∨ (10 : Int) > 50000 ∨ (moreF (fitFl raw k) more i).blocks.length = 0 ∨ (moreF (fitFl raw k) more i).blocks.length > 20000 ∨ insCount (moreF (fitFl raw k) more i).blocks > 200000)
    have hp2 : 0 < (moreF (fitFl raw k) more i).blocks.length := by
      show 0 < ((fitFl raw k).blocks ++ moreL more (fitFl raw k).blocks.length i).length
      rw [List.length_append]; omega
    omega
  obtain ⟨h1, h2⟩ := fit_swap raw hk (f' := moreF (fitFl raw k) more i) rfl rfl hnum (fun b hb => by have := hins b hb; omega) hblk
  refine ⟨mapU (swapF (fitFl raw k) (moreF (fitFl raw k) more i)) (fitU raw), rfl, h2, h1, ?_, ?_⟩
  · intro g hg
    rw [h2] at hg
    rcases List.mem_or_eq_of_mem_set hg with h | h
    · exact small_fit raw g h
    · rw [h]; exact ⟨by omega, fun b hb => by have := hins b hb; omega⟩
  · have hfl : (deadE (mapU (swapF (fitFl raw k) (moreF (fitFl raw k) more i)) (fitU raw))).flows = (deadE (fitU raw)).flows := by
      show ((mapU (swapF (fitFl raw k) (moreF (fitFl raw k) more i)) (fitU raw)).flows).map deadF = (fitU raw).flows.map deadF
      rw [h2, List.map_set, ext_dead (moreF_ext hn more i)]
      have hkl : k < ((fitU raw).flows.map deadF).length := by rw [List.length_map]; exact (List.getElem?_eq_some_iff.1 (fit_at (raw := raw) hk)).1
      have e : deadF (fitFl raw k) = ((fitU raw).flows.map deadF)[k] := by
        rw [List.getElem_map]
        congr 1
        exact ((List.getElem?_eq_some_iff.1 (fit_at (raw := raw) hk)).2).symm
      rw [e, List.set_getElem_self]
    show (⟨_, _⟩ : LUnit) = ⟨_, _⟩
    exact congrArg (LUnit.mk (fitU raw).arrays) hfl

/-! ### the loops -/
/-- over the instructions of a new block, which lies in the block behind wb -/
structure LJ (xs : List LIns) (to_ : Int) (wb : World) (j : Nat) (v : Value) (iss : List (List Value)) (wq : World) : Prop where
  below : Below wb.heap.size wb wq
  blk : Blk wq wb.heap.size 48 #[v, .int .i64 1, .int .i64 0, .int .i64 to_, .int .i64 0]
  own : OwnX wq (fun b => wb.heap.size < b ∧ b < wq.heap.size ∧ v.ownBlock ≠ some b) (wb.heap.size + 1) 44 8 RIns v ((xs.take j).map fitIns) iss
theorem LJ.next {xs : List LIns} {to_ : Int} {wb : World} {j : Nat} {v : Value} {iss : List (List Value)} {wq : World} (h : LJ xs to_ wb j v iss wq) (hj : j < xs.length) {X2 X4 : World} {va v' : Value} {n1 : Nat} (hx : Below wq.heap.size wq X2) (hn1 : wq.heap.size ≤ n1)
    (hs : SlR X2 (fun b => n1 ≤ b ∧ b < X2.heap.size) 1 RInt va (fitIns xs[j]).args) {o : Obj} (hg : (X2.alloc o).grownBy X4 v.ownBlock) (hrow : X4.ownsRow (wb.heap.size + 1) 44 8 v' (j + 1) (iss.flatten ++ insCells (fitIns xs[j]) va)) (hat : ∀ g, v'.ownBlock = some g → v.ownBlock = some g ∨ X2.heap.size ≤ g) :
    LJ xs to_ wb (j + 1) v' (iss ++ [insCells (fitIns xs[j]) va]) (X4.setCell ⟨wb.heap.size, 0, none⟩ v') := by
  have hbase := h.own.row.lt
  have hW : wb.heap.size < wq.heap.size := h.blk.lt
  have hxs := hx.size
  have hgs := hg.size
  have hal : (X2.alloc o).heap.size = X2.heap.size + 1 := by simp
  have hz : (X4.setCell ⟨wb.heap.size, 0, none⟩ v').heap.size = X4.heap.size := by simp [World.setCell]
  have hrl := hrow.lt
  have hlen : ((xs.take j).map fitIns).length = j := by rw [List.length_map, List.length_take]; omega
  have hst := grown_set X4 ⟨wb.heap.size, 0, none⟩ v'
  have hout : v.ownBlock ≠ some wb.heap.size := fun e => by have := (hbase _ e).1; omega
  have kX : ∀ b, b < X2.heap.size → b ≠ wb.heap.size → v.ownBlock ≠ some b → (X4.setCell ⟨wb.heap.size, 0, none⟩ v').heap[b]? = X2.heap[b]? := fun b h1 h2 h3 =>
    ((hst.block b (by omega) (fun e => by injection e with e; exact h2 e)).trans (hg.block b (by omega) (fun e => h3 e.symm))).trans (Below.heap_alloc X2 o b h1)
  have hB : Below wb.heap.size wb X4 := ((h.below.trans (hx.mono (by omega))).alloc (by have := h.below.size; omega) o).grown hg (by have := h.below.size; omega) (fun k e => by have := (hbase k e).1; omega)
  have htk : (xs.take (j + 1)).map fitIns = (xs.take j).map fitIns ++ [fitIns xs[j]] := by rw [List.take_succ_eq_append_getElem hj, List.map_append]; rfl
  have hvB : Blk X4 wb.heap.size 48 #[v, .int .i64 1, .int .i64 0, .int .i64 to_, .int .i64 0] := ((h.blk.below hx hW).alloc o).grown hg hout
  refine ⟨hB.setCell (Nat.le_refl _) _, hvB.set_ 0 _, ?_⟩
  rw [htk]
  have hrow2 := hrow.kept hst (.inr (fun e => by have := (hrl wb.heap.size e).1; omega))
  refine OwnX.snoc mono_ins h.own rfl (by rw [hlen]; exact hrow2) (fun b hb => (kX b (by omega) (by have := hb.1; omega) hb.2.2).trans (hx.block b hb.2.1)) (fun b hb => ⟨hb.1, by have := hb.2.1; omega, fun e => ?_⟩) (fun b e e2 => e2.2.2 e) ?_
  · rcases hat b e with h1 | h1
    · exact hb.2.2 h1
    · have := hb.2.1; omega
  · have hvl : ∀ b, (n1 ≤ b ∧ b < X2.heap.size) → v.ownBlock ≠ some b := fun b hb e => by have := hbase b e; omega
    have hup : ∀ b, (n1 ≤ b ∧ b < X2.heap.size) → wb.heap.size < b ∧ b < (X4.setCell ⟨wb.heap.size, 0, none⟩ v').heap.size ∧ v'.ownBlock ≠ some b := fun b hb => by
      refine ⟨by omega, by omega, fun e => ?_⟩
      rcases hat b e with h3 | h3
      · exact hvl b hb h3
      · omega
    exact ⟨va, rfl, hs.imp hup (fun b hb => kX b hb.2 (by omega) (hvl b hb)) (fun _ _ _ r => r)⟩
/-- over the new blocks; fb: the function's block, B: what is new behind it -/
structure LB (f : LFlow) (more : List LBlock) (okf : Nat → Prop) (W5 : World) (i : Nat) (v : Value) (css : List (List Value)) (wr : World) : Prop where
  below : Below W5.heap.size W5 wr
  fl : Blk wr W5.heap.size 41 #[.string f.name, .int .i64 f.params, .int .i64 f.values, v]
  own : OwnX wr (fun b => (okf b ∨ W5.heap.size < b) ∧ b < wr.heap.size ∧ v.ownBlock ≠ some b) (W5.heap.size + 1) 48 5 RBlock v (f.blocks ++ moreL more f.blocks.length i) css
theorem LB.next {f : LFlow} {more : List LBlock} {okf : Nat → Prop} {W5 : World} {i : Nat} {v : Value} {css : List (List Value)} {wr : World} (h : LB f more okf W5 i v css wr) (hok : ∀ b, okf b → b < W5.heap.size) (hi : i < more.length) {X X4 : World} {vI v' : Value} {iss : List (List Value)} {jj : Nat} {tt : Int} (hjj : jj = min more[i].ins.length 4) (htt : tt = pk more[i].term.to f.blocks.length)
    (hj : LJ more[i].ins tt wr jj vI iss X) {o : Obj} (hg : (X.alloc o).grownBy X4 v.ownBlock) (hrow : X4.ownsRow (W5.heap.size + 1) 48 5 v' (f.blocks.length + i + 1) (css.flatten ++ [vI, .int .i64 1, .int .i64 0, .int .i64 tt, .int .i64 0])) (hat : ∀ g, v'.ownBlock = some g → v.ownBlock = some g ∨ X.heap.size ≤ g) :
    LB f more okf W5 (i + 1) v' (css ++ [[vI, .int .i64 1, .int .i64 0, .int .i64 tt, .int .i64 0]]) (X4.setCell ⟨W5.heap.size, 3, none⟩ v') := by
  subst htt hjj
  have hx := hj.below
  have hbase := h.own.row.lt
  have hW : W5.heap.size < wr.heap.size := h.fl.lt
  have hxs := hx.size
  have hgs := hg.size
  have hal : (X.alloc o).heap.size = X.heap.size + 1 := by simp
  have hz : (X4.setCell ⟨W5.heap.size, 3, none⟩ v').heap.size = X4.heap.size := by simp [World.setCell]
  have hrl := hrow.lt
  have hlen : (f.blocks ++ moreL more f.blocks.length i).length = f.blocks.length + i := by rw [List.length_append, more_len _ _ (by omega)]
  have hst := grown_set X4 ⟨W5.heap.size, 3, none⟩ v'
  have hout : v.ownBlock ≠ some W5.heap.size := fun e => by have := (hbase _ e).1; omega
  have kX : ∀ b, b < X.heap.size → b ≠ W5.heap.size → v.ownBlock ≠ some b → (X4.setCell ⟨W5.heap.size, 3, none⟩ v').heap[b]? = X.heap[b]? := fun b h1 h2 h3 =>
    ((hst.block b (by omega) (fun e => by injection e with e; exact h2 e)).trans (hg.block b (by omega) (fun e => h3 e.symm))).trans (Below.heap_alloc X o b h1)
  have hB : Below W5.heap.size W5 X4 := ((h.below.trans (hx.mono (by omega))).alloc (by have := h.below.size; omega) o).grown hg (by have := h.below.size; omega) (fun k e => by have := (hbase k e).1; omega)
  have hvB : Blk X4 W5.heap.size 41 #[.string f.name, .int .i64 f.params, .int .i64 f.values, v] := ((h.fl.below hx hW).alloc o).grown hg hout
  refine ⟨hB.setCell (Nat.le_refl _) _, hvB.set_ 3 _, ?_⟩
  rw [more_succ hi, ← List.append_assoc]
  have hrow2 := hrow.kept hst (.inr (fun e => by have := (hrl W5.heap.size e).1; omega))
  refine OwnX.snoc mono_block h.own rfl (by rw [hlen]; exact hrow2) (fun b hb => (kX b (by omega) (by have h1 := hb.1; rcases h1 with h1 | h1; exact Nat.ne_of_lt (hok b h1); omega) hb.2.2).trans (hx.block b hb.2.1)) (fun b hb => ⟨hb.1, by have := hb.2.1; omega, fun e => ?_⟩) (fun b e e2 => e2.2.2 e) ?_
  · rcases hat b e with h1 | h1
    · exact hb.2.2 h1
    · have := hb.2.1; omega
  · have hs := hj.own.slr (ok' := fun b => wr.heap.size < b ∧ b < X.heap.size) mono_ins (fun b hb => ⟨hb.1, hb.2.1⟩) (fun b e => by have := hj.own.row.lt b e; omega)
    have hmin : more[i].ins.take (min more[i].ins.length 4) = more[i].ins.take 4 := by
      rcases Nat.le_total more[i].ins.length 4 with h1 | h1
      · rw [Nat.min_eq_left h1, List.take_of_length_le (Nat.le_refl _), List.take_of_length_le h1]
      · rw [Nat.min_eq_right h1]
    rw [hmin] at hs
    have hvl : ∀ b, (wr.heap.size < b ∧ b < X.heap.size) → v.ownBlock ≠ some b := fun b hb e => by have := hbase b e; omega
    have hup : ∀ b, (wr.heap.size < b ∧ b < X.heap.size) → (okf b ∨ W5.heap.size < b) ∧ b < (X4.setCell ⟨W5.heap.size, 3, none⟩ v').heap.size ∧ v'.ownBlock ≠ some b := fun b hb => by
      refine ⟨.inr (by omega), by omega, fun e => ?_⟩
      rcases hat b e with h3 | h3
      · exact hvl b hb h3
      · omega
    have hkk : Keeps (fun b => wr.heap.size < b ∧ b < X.heap.size) X (X4.setCell ⟨W5.heap.size, 3, none⟩ v') := fun b hb => kX b hb.2 (by omega) (hvl b hb)
    exact ⟨vI, rfl, hs.imp hup hkk (fun _ _ _ r => r.imp hup hkk)⟩

set_option maxRecDepth 100000 in
set_option maxHeartbeats 16000000 in
theorem deadBlocks_walk (vr vin : Value) (which : Int) (raw : List LBlock) (hI : ∀ x ∈ raw, x.I) (more : List LBlock) (hJ : ∀ x ∈ more, x.I) (w : World) (hsl : SlR w (· < w.heap.size) 5 (RBlock w (· < w.heap.size)) vr raw) (hin : SlR w (· < w.heap.size) 5 (RBlock w (· < w.heap.size)) vin more) (wh : (Lit.int .i64 which).wf = true) :
    Calls Tryz.prog 6 #[vr, vin, .int .i64 which] w fun e w' => e = .returned (.bool true) ∧ Below w.heap.size w w' := by
  obtain ⟨Ar, cr, hvr, _, _⟩ := hsl.val
  obtain ⟨Ai, ci, hvi, hil1, hil2⟩ := hin.val
  subst hvr hvi
  obtain ⟨io, io'⟩ := i64_of_wf wh
  obtain ⟨k, hk3, -, hpick⟩ := pick15_n which ⟨io, io'⟩ 3 (by omega) (by omega)
  have HP := Lib.hid hpick
  have HAW := Lib.hid (awake15_any w)
  have HFIT := Lib.hid (fun (X : World) (hb : Below w.heap.size w X) => fit_any raw hI (.slice Ar raw.length cr) X (slr_at mono_block hsl hb))
  have huo := unit_fit raw
  have hus := small_fit raw
  have HUO := Lib.hid huo
  have HUS := Lib.hid hus
  have HIN := Lib.hid hin
  have HJ := Lib.hid hJ
  clear hJ
  clear hsl hI huo hus hpick hin
  go_enter Tryz.func6, Tryz.ntmps6
  go_upto_region 3 with (first | (go_at_call 8; refine HAW.out.mono ?_; rintro e w2 ⟨rfl, hb2⟩) | (go_at_call 9; refine (HFIT.out _ hb2).mono ?_; rintro e w3 ⟨va, vf, css, rfl, hb3, hsa, hof⟩; obtain ⟨A1, c1, hva, _, _⟩ := hsa.val; obtain ⟨gf, cf, hvf⟩ := own_three hof; subst hva hvf))
  refine wp_world ?_
  intro W hW
  have hB : Below w.heap.size w W := by
    have h := hb2.trans (hb3.mono hb2.size)
    rw [← hW]; exact h.alloc h.size _
  have hU : Blk W w3.heap.size 27 #[.slice A1 (fitU raw).arrays.length c1, .slice (some ⟨gf, 0, none⟩) 3 cf] := by rw [← hW]; exact Blk.new w3 _ _
  have hA4 : SlR W (fun b => b < w2.heap.size + 4) 2 RArr (.slice A1 (fitU raw).arrays.length c1) (fitU raw).arrays := by rw [← hW]; exact hsa.imp (fun b hb => hb.1.2) (fun b hb => Below.heap_alloc w3 _ b hb.2) (fun _ _ _ r => r)
  have hO : OwnL W (w2.heap.size + 4) 41 4 RFlow (.slice (some ⟨gf, 0, none⟩) 3 cf) (fitFlows raw 3) css := by rw [← hW]; exact hof.below mono_flow (below1 _ _)
  have hA : SlR W (· < W.heap.size) 2 RArr (.slice A1 (fitU raw).arrays.length c1) (fitU raw).arrays := by rw [← hW]; exact hsa.imp (fun b hb => by have hb' := hb.2; simp; omega) (fun b hb => Below.heap_alloc w3 _ b hb.2) (fun _ _ _ r => r)
  have hg3 : gf < w3.heap.size := (hof.lt gf rfl).2
  have hgB : w2.heap.size + 4 ≤ gf := (hof.lt gf rfl).1
  have hB4 : w2.heap.size + 4 ≤ W.heap.size := by have := (hO.lt gf rfl).2; omega
  have u0 : W.cell? ⟨w3.heap.size, 0, none⟩ = some (.slice A1 (fitU raw).arrays.length c1) := hU.cell 0
  have u1 : W.cell? ⟨w3.heap.size, 1, none⟩ = some (.slice (some ⟨gf, 0, none⟩) 3 cf) := hU.cell 1
  have hl3 : (fitFlows raw 3).length = 3 := by simp [fitFlows]
  have HDE := Lib.hid (dead_x HUO.out HUS.out hA (fls := fitFlows raw 3) rfl hl3 hO)
  have HA4 := Lib.hid hA4
  have HO := Lib.hid hO
  have HU := Lib.hid hU
  have HB := Lib.hid hB
  have hul := hU.lt
  have hs2w : w.heap.size ≤ w2.heap.size := hb2.size
  clear hW hb2 hb3 hsa hof hA hA4 hO hU hB HAW HFIT
  go_upto_region 4 with (go_at_call 10; refine HDE.out.mono ?_; rintro e w5 ⟨B1, B2, d4, d5, rfl, hb5, hdo⟩)
  refine wp_world ?_
  intro W5 hW5
  have hb51 : Below w5.heap.size w5 W5 := by rw [← hW5]; exact below1 _ _
  have hB5 : Below W.heap.size W W5 := by rw [← hW5]; exact hb5.alloc hb5.size _
  have hV : Blk W5 w5.heap.size 27 #[.slice B1 (fitU raw).arrays.length d4, .slice B2 3 d5] := by rw [← hW5]; exact Blk.new w5 _ _
  have HVK : Hid (∀ X, W5.heap.size ≤ X.heap.size → Keeps (fun b => b < W5.heap.size ∧ b ≠ gf) W5 X → UIn (deadE (fitU raw)) X B1 B2 d4 d5) := Lib.hid (fun X hs hk => hdo.keep (by omega) (by have := hb51.size; omega) (fun b hb => (hk b ⟨by have := hb51.size; omega, hb.2⟩).trans (hb51.block b hb.1)))
  have HB5 := Lib.hid hB5
  have HV := Lib.hid hV
  have hs5 := hB5.size
  have hvl5 := hV.lt
  have hwv : W.heap.size ≤ w5.heap.size := hb5.size
  have hU5 := HU.out.below hB5 hul
  have hO5 := HO.out.below mono_flow hB5
  have hul5 := hU5.lt
  have u2 : W5.cell? ⟨w3.heap.size, 1, none⟩ = some (.slice (some ⟨gf, 0, none⟩) 3 cf) := hU5.cell 1
  -- the function
  have hkc : k < css.length := by rw [hO5.len, hl3]; omega
  have hkl : k < (fitFlows raw 3).length := by rw [hl3]; omega
  have hfk : (fitFlows raw 3)[k] = fitFl raw k := by simp [fitFlows]
  have hel := hO5.elems k hkc hkl
  rw [hfk] at hel
  obtain ⟨vb, hcs, hbl⟩ := hel
  obtain ⟨Ab, cb, hvb, _, _⟩ := hbl.val
  subst hvb
  have hpos := fit_pos raw k
  have hle := fit_le raw k
  have hinl := fit_ins raw k
  have q0 : W5.cell? ⟨gf, k * 4, none⟩ = some (.string (fitFl raw k).name) := hO5.cell (i := 0) hkc (by rw [hcs]; rfl)
  have q1 : W5.cell? ⟨gf, k * 4 + 1, none⟩ = some (.int .i64 (fitFl raw k).params) := hO5.cell (i := 1) hkc (by rw [hcs]; rfl)
  have q2 : W5.cell? ⟨gf, k * 4 + 2, none⟩ = some (.int .i64 (fitFl raw k).values) := hO5.cell (i := 2) hkc (by rw [hcs]; rfl)
  have q3 : W5.cell? ⟨gf, k * 4 + 3, none⟩ = some (.slice Ab (fitFl raw k).blocks.length cb) := hO5.cell (i := 3) hkc (by rw [hcs]; rfl)
  obtain ⟨f, hf⟩ : ∃ f, f = fitFl raw k := ⟨_, rfl⟩
  rw [← hf] at hbl hpos hle hinl q0 q1 q2 q3
  have HF := Lib.hid hf
  have HINL := Lib.hid hinl
  obtain ⟨okf, hokf⟩ : ∃ p : Nat → Prop, p = okOwn (w2.heap.size + 4) W5 (.slice (some ⟨gf, 0, none⟩) 3 cf) := ⟨_, rfl⟩
  have hokb : ∀ b, okf b → w2.heap.size + 4 ≤ b ∧ b < W5.heap.size ∧ b ≠ gf := fun b hb => by
    rw [hokf] at hb
    exact ⟨hb.1, hb.2.1, fun e => hb.2.2 (by rw [e]; rfl)⟩
  have hsb : SlR W5 okf 5 (RBlock W5 okf) (.slice Ab f.blocks.length cb) f.blocks := by rw [hokf]; exact hbl
  obtain ⟨bb, ob, cb', hfb, _, _, _, _⟩ := hsb.form hpos
  obtain rfl : Ab = some ⟨bb, ob, none⟩ := by injection hfb
  obtain ⟨css0, hcl, hce, hcR, hcC, hbb⟩ := hsb.rows hpos
  have hones : ∀ u ∈ css0.flatten, u.oneCell' = true := flatten_ones fun cs hc => by
    obtain ⟨j, hj, rfl⟩ := List.getElem_of_mem hc
    exact block_ones (hcR j hj (by omega))
  have hfl : css0.flatten.length = f.blocks.length * 5 := by rw [flatten_len hce, hcl]
  have HO5 := Lib.hid hO5
  have HU5 := Lib.hid hU5
  have HOK := Lib.hid hokb
  have HCC := Lib.hid hcC
  have HBB := Lib.hid hbb
  have HCL := Lib.hid hcl
  have HCE := Lib.hid hce
  have HCR := Lib.hid hcR
  have HONES := Lib.hid hones
  have HFL := Lib.hid hfl
  clear hW5 hb51 hB5 hV hdo hb5 u0 u1 HDE hU5 hO5 hkc hkl hfk hcs hbl hf hinl hokf hokb hsb hfb hcl hce hcR hcC hbb hones hfl
  go_upto_region 6 with (go_at_call 14; refine (HP.out _).mono ?_; rintro e w' ⟨rfl, rfl⟩)
  refine wp_world ?_
  intro W6 hW6
  have hB6 : Below W5.heap.size W5 W6 := by rw [← hW6]; exact below1 _ _
  have hF6 : Blk W6 W5.heap.size 41 #[.string f.name, .int .i64 f.params, .int .i64 f.values, .slice (some ⟨bb, ob, none⟩) f.blocks.length cb] := by rw [← hW6]; exact Blk.new_at _ _ _ rfl
  have hl6 := hF6.lt
  have HB6 := Lib.hid hB6
  clear hW6 q0 q1 q2 q3 u2

  have c3 : W6.cell? ⟨W5.heap.size, 3, none⟩ = some (.slice (some ⟨bb, ob, none⟩) f.blocks.length cb) := hF6.cell 3
  have hbb5 := (HOK.out bb HBB.out).2.1
  obtain ⟨z0, hi0, hz0, hz1, hz2⟩ := info_parts info_block
  have hnews6 := (HCC.out.keep (HB6.out.block bb hbb5)).news
  have HNEWS := Lib.hid hnews6
  have hne : (Value.slice none 0 0).ownBlock ≠ some W5.heap.size := by simp [Value.ownBlock]
  have HF6 := Lib.hid hF6
  clear hF6 hnews6
  go_upto_region 8 with (at_builtin; refine wpList_append_lies _ rfl _ _ _ rfl (W5.heap.size + 1) 48 z0 _ 5 56 Tryz.underlying22 hi0 hz0 hz1 hz2 rfl (by decide) (.slice none 0 0) 0 [] rfl (World.ownsRow_nil _ _ _ _) ⟨bb, ob, none⟩ f.blocks.length cb css0.flatten rfl HFL.out HNEWS.out HONES.out hpos (by unfold maxLen; omega) (by omega) (by omega) W6.heap.size rfl ?_; intro g cap w7 hown7 hgrow hat hlt7; have hF7 := HF6.out.grown hgrow hne; have k7 : w7.cell? ⟨W5.heap.size, 3, none⟩ = some (.slice (some ⟨bb, ob, none⟩) f.blocks.length cb) := hF7.cell 3; have z7 := hF7.frozen 3)
  refine wp_world ?_
  intro W8 hW8
  simp only [Nat.zero_add, List.nil_append] at hown7 hW8
  have hg7 : g = W6.heap.size := by
    rcases hat with h | h
    · cases h
    · exact h
  have hB67 : Below W6.heap.size W6 w7 := (Below.refl _ _).grown hgrow (Nat.le_refl _) (fun k e => by cases e)
  have hst8 : LB f more okf W5 0 (.slice (some ⟨g, 0, none⟩) f.blocks.length cap) css0 W8 := by
    rw [← hW8]
    have hbw := HB6.out.trans (hB67.mono HB6.out.size)
    have hbs := hbw.setCell (p := ⟨W5.heap.size, 3, none⟩) (Nat.le_refl _) (.slice (some ⟨g, 0, none⟩) f.blocks.length cap)
    have hgs := grown_set w7 ⟨W5.heap.size, 3, none⟩ (.slice (some ⟨g, 0, none⟩) f.blocks.length cap)
    refine ⟨hbs, hF7.set_ 3 _, ?_⟩
    have e : f.blocks ++ moreL more f.blocks.length 0 = f.blocks := by simp [moreL]
    rw [e]
    have hr2 := hown7.kept hgs (.inr (fun e => by have e' : g = W5.heap.size := (by simpa [Value.ownBlock] using e); omega))
    exact OwnX.cloned (w0 := W5) (ok0 := okf) mono_block hr2 HCL.out HCE.out HCR.out (fun b hb => hbs.block b (HOK.out b hb).2.1) (fun b hb => ⟨.inl hb, by have := (HOK.out b hb).2.1; have := hbs.size; omega, fun e => by have e' : g = b := (by simpa [Value.ownBlock] using e); have := (HOK.out b hb).2.1; omega⟩) (fun b e e2 => e2.2.2 e)
  have HST8 := Lib.hid hst8
  have HOK2 : Hid (∀ b, okf b → b < W5.heap.size) := Lib.hid (fun b hb => (HOK.out b hb).2.1)
  have hmx := hil1
  clear hW8 hst8 hown7 hgrow hat hlt7 hF7 k7 z7 hg7 hB67 c3 HNEWS HF6 HONES HFL hi0 hz0 hz1 hz2 hbb5
  go_wp2_with fail
  go_loopw [14] (fun s wr => ∃ (i m : Nat) (Av : Option Addr) (cv : Nat) (css : List (List Value)), i ≤ more.length ∧ i ≤ 3 ∧ s = .int .i64 i ∧ m = f.blocks.length + i ∧ LB f more okf W5 i (.slice Av m cv) css wr) (fun s _ => 3 - (intOf s).toNat)
  case atStart => exact ⟨0, f.blocks.length, some ⟨g, 0, none⟩, cap, css0, by omega, by omega, rfl, rfl, HST8.out⟩
  case round =>
    clear HST8
    obtain ⟨wb, hwb⟩ : ∃ wb, wb = wr := ⟨_, rfl⟩
    subst hwb
    obtain ⟨i, m, Av, cv, css2, him, hi3, rfl, hm, hlb⟩ := hrel
    have hw5b := hlb.below.size
    by_cases hgo : i < more.length ∧ i < 3
    · obtain ⟨hg1, hg2⟩ := hgo
      have d0 : decide ((i : Int) < (more.length : Int)) = true := decide_eq_true (by omega)
      have d1 : decide ((i : Int) < 3) = true := decide_eq_true (by omega)
      have hi4 : (i : Int) < (more.length : Int) := by omega
      obtain ⟨gi, oi, ci', hform, _, _, hgi, hqi⟩ := HIN.out.form (by omega)
      obtain ⟨rfl, rfl⟩ : Ai = some ⟨gi, oi, none⟩ ∧ ci = ci' := by injection hform with h1 _ h2; exact ⟨h1, h2⟩
      obtain ⟨cs, _, ⟨vi, hcs, hsi⟩, hcell⟩ := hqi i hg1
      subst hcs
      obtain ⟨x, hxe⟩ : ∃ x, x = more[i] := ⟨_, rfl⟩
      have hxI : x.I := HJ.out x (by rw [hxe]; exact List.getElem_mem _)
      rw [← hxe] at hcell hsi
      obtain ⟨Aj, cj, hvi, _, _⟩ := hsi.val
      subst hvi
      have hbwb : Below w.heap.size w wb := HB.out.trans ((HB5.out.trans (hlb.below.mono (by omega))).mono HB.out.size)
      have hcw := hcell.keep (hbwb.block gi hgi)
      have j3 : wb.cell? ⟨gi, oi + i * 5 + 1 + 2, none⟩ = some (.int .i64 x.term.to) := hcw.at_ (j := 3) rfl
      obtain ⟨tn, htn, htp, hpk⟩ := pick15_n x.term.to hxI.term.to f.blocks.length hpos (by omega)
      have HPK := Lib.hid hpk
      have HTP := Lib.hid htp
      have HXI := Lib.hid hxI
      have HXE := Lib.hid hxe
      have HCELL := Lib.hid hcell
      have HSI := Lib.hid hsi
      have HLB := Lib.hid hlb
      have HBWB := Lib.hid hbwb
      have HM := Lib.hid hm
      have hxl := hsi.len_le
      unfold maxLen at hxl
      clear hcw hcell hsi hqi hform hlb hbwb hpk htp hxI hxe hm
      go_upto_region 12 with (go_at_call 14; refine (HPK.out _).mono ?_; rintro e w' ⟨rfl, rfl⟩)
      refine wp_world ?_
      intro W12 hW12
      have hst12 : LJ x.ins (tn : Int) wb 0 (.slice none 0 0) [] W12 := by
        rw [← hW12]
        exact ⟨below1 _ _, Blk.new wb _ _, OwnX.nil_ _ _ _ _ _ _⟩
      have HST12 := Lib.hid hst12
      clear hW12 hst12 j3
      go_wp2_with fail
      go_loopw [16] (fun s wr => ∃ (j : Nat) (Aw : Option Addr) (cw : Nat) (iss : List (List Value)), j ≤ x.ins.length ∧ j ≤ 4 ∧ s = .int .i64 j ∧ LJ x.ins (tn : Int) wb j (.slice Aw j cw) iss wr) (fun s _ => 4 - (intOf s).toNat)
      case atStart => exact ⟨0, none, 0, [], by omega, by omega, rfl, HST12.out⟩
      case round =>
        clear HST12
        obtain ⟨wq, hwq⟩ : ∃ wq, wq = wr := ⟨_, rfl⟩
        subst hwq
        obtain ⟨j, Aw, cw, iss, hj1, hj4, rfl, hlj⟩ := hrel
        have hbq : Below wb.heap.size wb wq := hlj.below
        have hbwq : Below w.heap.size w wq := HBWB.out.trans (hbq.mono HBWB.out.size)
        have hcq := HCELL.out.keep (hbwq.block gi hgi)
        have j0 : wq.cell? ⟨gi, oi + i * 5, none⟩ = some (.slice Aj x.ins.length cj) := by have h := hcq.at_ (j := 0) rfl; simpa using h
        have hwbq : wb.heap.size < wq.heap.size := hlj.blk.lt
        have HLJ := Lib.hid hlj
        have HBWQ := Lib.hid hbwq
        by_cases hgj : j < x.ins.length ∧ j < 4
        · obtain ⟨hgj1, hgj2⟩ := hgj
          have e0 : decide ((j : Int) < (x.ins.length : Int)) = true := decide_eq_true (by omega)
          have e1 : decide ((j : Int) < 4) = true := decide_eq_true (by omega)
          have hj3 : (j : Int) < (x.ins.length : Int) := by omega
          obtain ⟨gj, oj, cj', hformj, _, _, hgjl, hqj⟩ := HSI.out.form (by omega)
          obtain ⟨rfl, rfl⟩ : Aj = some ⟨gj, oj, none⟩ ∧ cj = cj' := by injection hformj with h1 _ h2; exact ⟨h1, h2⟩
          obtain ⟨cs, _, ⟨va, hcs, hsa⟩, hcellj⟩ := hqj j hgj1
          subst hcs
          obtain ⟨y, hye⟩ : ∃ y, y = x.ins[j] := ⟨_, rfl⟩
          have hyI : y.I := HXI.out.ins y (by rw [hye]; exact List.getElem_mem _)
          rw [← hye] at hcellj
          have hvs : ∃ Ay my cy, va = .slice Ay my cy := by obtain ⟨A, c, h, _, _⟩ := hsa.val; exact ⟨A, _, c, h⟩
          obtain ⟨Ay, my, cy, rfl⟩ := hvs
          have hcr := hcellj.keep (hbwq.block gj hgjl)
          have hvb := hlj.blk
          have hrow := hlj.own.row
          have hjl : ((x.ins.take j).map fitIns).length = j := by rw [List.length_map, List.length_take]; omega
          rw [hjl] at hrow
          have hrlt := hrow.lt
          have SK : ∀ X : World, (∀ b, b ≤ wb.heap.size → X.heap[b]? = wq.heap[b]?) → (fun (w2 : World) => w2.cell? ⟨wb.heap.size, 0, none⟩ = some (.slice Aw j cw) ∧ w2.cell? ⟨gi, oi + i * 5, none⟩ = some (.slice (some ⟨gj, oj, none⟩) x.ins.length cj) ∧ w2.cell? ⟨gj, oj + j * 8, none⟩ = some (.int .i64 y.kind) ∧ w2.cell? ⟨gj, oj + j * 8 + 1, none⟩ = some (.int .i64 y.d) ∧ w2.cell? ⟨gj, oj + j * 8 + 2, none⟩ = some (.int .i64 y.a) ∧ w2.cell? ⟨gj, oj + j * 8 + 3, none⟩ = some (.int .i64 y.b) ∧ w2.cell? ⟨gj, oj + j * 8 + 4, none⟩ = some (.int .i64 y.op) ∧ w2.cell? ⟨gj, oj + j * 8 + 5, none⟩ = some (.int .i64 y.n) ∧ w2.cell? ⟨gj, oj + j * 8 + 6, none⟩ = some (.string y.name) ∧ w2.cell? ⟨gj, oj + j * 8 + 7, none⟩ = some (.slice Ay my cy)) X := fun X hk => by
            have k1 := hcr.keep (hk gj (by omega))
            have k2 := hcq.keep (hk gi (by omega))
            exact ⟨(hvb.keep (hk wb.heap.size (Nat.le_refl _))).cell 0, by have h := k2.at_ (j := 0) rfl; simpa using h, by have h := k1.at_ (j := 0) rfl; simpa using h, k1.at_ (j := 1) rfl, k1.at_ (j := 2) rfl, k1.at_ (j := 3) rfl, k1.at_ (j := 4) rfl, k1.at_ (j := 5) rfl, k1.at_ (j := 6) rfl, k1.at_ (j := 7) rfl⟩
          have SO : Hid (∀ X : World, Below wq.heap.size wq X → (fun (w2 : World) => w2.cell? ⟨wb.heap.size, 0, none⟩ = some (.slice Aw j cw) ∧ w2.cell? ⟨gi, oi + i * 5, none⟩ = some (.slice (some ⟨gj, oj, none⟩) x.ins.length cj) ∧ w2.cell? ⟨gj, oj + j * 8, none⟩ = some (.int .i64 y.kind) ∧ w2.cell? ⟨gj, oj + j * 8 + 1, none⟩ = some (.int .i64 y.d) ∧ w2.cell? ⟨gj, oj + j * 8 + 2, none⟩ = some (.int .i64 y.a) ∧ w2.cell? ⟨gj, oj + j * 8 + 3, none⟩ = some (.int .i64 y.b) ∧ w2.cell? ⟨gj, oj + j * 8 + 4, none⟩ = some (.int .i64 y.op) ∧ w2.cell? ⟨gj, oj + j * 8 + 5, none⟩ = some (.int .i64 y.n) ∧ w2.cell? ⟨gj, oj + j * 8 + 6, none⟩ = some (.string y.name) ∧ w2.cell? ⟨gj, oj + j * 8 + 7, none⟩ = some (.slice Ay my cy)) X) := Lib.hid (fun X hb => SK X (fun b h => hb.block b (by omega)))
          have hkp : ∀ X2 X3 : World, Below wq.heap.size wq X2 → X2.grownBy X3 (Value.slice Aw j cw).ownBlock → ∀ b, b ≤ wb.heap.size → X3.heap[b]? = wq.heap[b]? := fun X2 X3 hb hg b h => (hg.block b (by have := hb.size; omega) (fun e => by have := (hrlt b e.symm).1; omega)).trans (hb.block b (by omega))
          have SOG : Hid (∀ X2 X3 : World, Below wq.heap.size wq X2 → X2.grownBy X3 (Value.slice Aw j cw).ownBlock → (fun (w2 : World) => w2.cell? ⟨wb.heap.size, 0, none⟩ = some (.slice Aw j cw) ∧ w2.cell? ⟨gi, oi + i * 5, none⟩ = some (.slice (some ⟨gj, oj, none⟩) x.ins.length cj) ∧ w2.cell? ⟨gj, oj + j * 8, none⟩ = some (.int .i64 y.kind) ∧ w2.cell? ⟨gj, oj + j * 8 + 1, none⟩ = some (.int .i64 y.d) ∧ w2.cell? ⟨gj, oj + j * 8 + 2, none⟩ = some (.int .i64 y.a) ∧ w2.cell? ⟨gj, oj + j * 8 + 3, none⟩ = some (.int .i64 y.b) ∧ w2.cell? ⟨gj, oj + j * 8 + 4, none⟩ = some (.int .i64 y.op) ∧ w2.cell? ⟨gj, oj + j * 8 + 5, none⟩ = some (.int .i64 y.n) ∧ w2.cell? ⟨gj, oj + j * 8 + 6, none⟩ = some (.string y.name) ∧ w2.cell? ⟨gj, oj + j * 8 + 7, none⟩ = some (.slice Ay my cy)) X3) := Lib.hid (fun X2 X3 hb hg => SK X3 (hkp X2 X3 hb hg))
          have HVZ : Hid (∀ X2 X3 : World, Below wq.heap.size wq X2 → X2.grownBy X3 (Value.slice Aw j cw).ownBlock → X3.frozen? ⟨wb.heap.size, 0, none⟩ = false ∧ X3.cell? ⟨wb.heap.size, 0, none⟩ = some (.slice Aw j cw)) := Lib.hid (fun X2 X3 hb hg => by
            have h := hvb.keep (hkp X2 X3 hb hg wb.heap.size (Nat.le_refl _))
            exact ⟨h.frozen 0, h.cell 0⟩)
          have HOV : Hid (∀ X : World, Below wq.heap.size wq X → X.ownsRow (wb.heap.size + 1) 44 8 (.slice Aw j cw) j iss.flatten) := Lib.hid (fun X hb => hrow.kept (row := none) ⟨hb.os, hb.tape, hb.output, hb.size, fun k hk _ => hb.block k hk⟩ (Classical.em _))
          have HYI := Lib.hid hyI
          have HYE := Lib.hid hye
          obtain ⟨zi, hj0, hj1', hj2, hj3'⟩ := info_parts info_ins
          have hz0 : Below wq.heap.size wq wq.drew := (Below.refl _ _).drew
          clear SK hkp hvb hrow hjl hrlt hcr hcellj hqj hformj hsa hcq hlj hbwq hyI hye hbq
          go_upto_region 15 with fail
          clear j0
          refine wp_region_L (by kernel_rfl) 15 (fun (w2 : World) => w2.cell? ⟨wb.heap.size, 0, none⟩ = some (.slice Aw j cw) ∧ w2.cell? ⟨gi, oi + i * 5, none⟩ = some (.slice (some ⟨gj, oj, none⟩) x.ins.length cj) ∧ w2.cell? ⟨gj, oj + j * 8, none⟩ = some (.int .i64 y.kind) ∧ w2.cell? ⟨gj, oj + j * 8 + 1, none⟩ = some (.int .i64 y.d) ∧ w2.cell? ⟨gj, oj + j * 8 + 2, none⟩ = some (.int .i64 y.a) ∧ w2.cell? ⟨gj, oj + j * 8 + 3, none⟩ = some (.int .i64 y.b) ∧ w2.cell? ⟨gj, oj + j * 8 + 4, none⟩ = some (.int .i64 y.op) ∧ w2.cell? ⟨gj, oj + j * 8 + 5, none⟩ = some (.int .i64 y.n) ∧ w2.cell? ⟨gj, oj + j * 8 + 6, none⟩ = some (.string y.name) ∧ w2.cell? ⟨gj, oj + j * 8 + 7, none⟩ = some (.slice Ay my cy)) (SO.out _ hz0) (fun hHeld => ?_)
          have HS0 := Lib.hid hHeld
          clear hHeld
          change wpAnyL _ _ _ _ _ 15 16 (Array.replicate 16 false) _ _
          generalize wq.drew = X0 at *
          have HZ0 := Lib.hid hz0
          clear hz0
          refine takeL 0 75 (.pointer (some ⟨wb.heap.size, 0, none⟩)) HS0.out rfl rfl (by kernel_rfl) (by kernel_rfl) (by kernel_rfl) (by decide) (fun _ _ _ h => h) (by kernel_rfl) ?_ ?_
          · intro w2; go_simp
          try simp only [List.setIfInBounds_toArray, List.set_cons_zero, List.set_cons_succ]
          refine takeL_S 1 76 (.slice Aw j cw) [15] HS0.out rfl rfl (by kernel_rfl) (by kernel_rfl) (by kernel_rfl) (by decide) (by kernel_rfl) (fun _ _ _ h => h) (by kernel_rfl) ?_ ?_
          · intro w2 hSw; obtain ⟨g0, g1, g2, g3, g4, g5, g6, g7, g8, g9⟩ := hSw; go_simp
          try simp only [List.setIfInBounds_toArray, List.set_cons_zero, List.set_cons_succ]
          refine takeL 2 77 (.slice (some ⟨gi, oi, none⟩) more.length ci) HS0.out rfl rfl (by kernel_rfl) (by kernel_rfl) (by kernel_rfl) (by decide) (fun _ _ _ h => h) (by kernel_rfl) ?_ ?_
          · intro w2; go_simp
          try simp only [List.setIfInBounds_toArray, List.set_cons_zero, List.set_cons_succ]
          refine takeL 3 78 (.int .i64 (i : Int)) HS0.out rfl rfl (by kernel_rfl) (by kernel_rfl) (by kernel_rfl) (by decide) (fun _ _ _ h => h) (by kernel_rfl) ?_ ?_
          · intro w2; go_simp
          try simp only [List.setIfInBounds_toArray, List.set_cons_zero, List.set_cons_succ]
          refine takeL 4 79 (.pointer (some ⟨gi, oi + i * 5, none⟩)) HS0.out rfl rfl (by kernel_rfl) (by kernel_rfl) (by kernel_rfl) (by decide) (fun _ _ _ h => h) (by kernel_rfl) ?_ ?_
          · intro w2; go_simp
          try simp only [List.setIfInBounds_toArray, List.set_cons_zero, List.set_cons_succ]
          refine takeL 5 80 (.pointer (some ⟨gi, oi + i * 5, none⟩)) HS0.out rfl rfl (by kernel_rfl) (by kernel_rfl) (by kernel_rfl) (by decide) (fun _ _ _ h => h) (by kernel_rfl) ?_ ?_
          · intro w2; go_simp
          try simp only [List.setIfInBounds_toArray, List.set_cons_zero, List.set_cons_succ]
          refine takeL_S 6 81 (.slice (some ⟨gj, oj, none⟩) x.ins.length cj) [15] HS0.out rfl rfl (by kernel_rfl) (by kernel_rfl) (by kernel_rfl) (by decide) (by kernel_rfl) (fun _ _ _ h => h) (by kernel_rfl) ?_ ?_
          · intro w2 hSw; obtain ⟨g0, g1, g2, g3, g4, g5, g6, g7, g8, g9⟩ := hSw; go_simp
          try simp only [List.setIfInBounds_toArray, List.set_cons_zero, List.set_cons_succ]
          refine takeL 7 82 (.int .i64 (j : Int)) HS0.out rfl rfl (by kernel_rfl) (by kernel_rfl) (by kernel_rfl) (by decide) (fun _ _ _ h => h) (by kernel_rfl) ?_ ?_
          · intro w2; go_simp
          try simp only [List.setIfInBounds_toArray, List.set_cons_zero, List.set_cons_succ]
          refine takeL 8 83 (.pointer (some ⟨gj, oj + j * 8, none⟩)) HS0.out rfl rfl (by kernel_rfl) (by kernel_rfl) (by kernel_rfl) (by decide) (fun _ _ _ h => h) (by kernel_rfl) ?_ ?_
          · intro w2; go_simp
          try simp only [List.setIfInBounds_toArray, List.set_cons_zero, List.set_cons_succ]
          refine takeL_S 9 84 (.agg #[.int .i64 y.kind, .int .i64 y.d, .int .i64 y.a, .int .i64 y.b, .int .i64 y.op, .int .i64 y.n, .string y.name, .slice Ay my cy]) [15] HS0.out rfl rfl (by kernel_rfl) (by kernel_rfl) (by kernel_rfl) (by decide) (by kernel_rfl) (fun _ _ _ h => h) (by kernel_rfl) ?_ ?_
          · intro w2 hSw; obtain ⟨g0, g1, g2, g3, g4, g5, g6, g7, g8, g9⟩ := hSw; go_simp
          try simp only [List.setIfInBounds_toArray, List.set_cons_zero, List.set_cons_succ]
          refine wpAnyL_ready (rs := [10]) (by kernel_rfl) (by simp) ?_
          refine AllReadyL.cons rfl (fun K hK => ?_) AllReadyL.nil
          go_simp
          refine hK.out _ _ (SO.out _ (HZ0.out.alloc HZ0.out.size _)) (fun hHeld => ?_)
          have HS1 := Lib.hid hHeld
          clear hK K hHeld
          try simp only [List.setIfInBounds_toArray, List.set_cons_zero, List.set_cons_succ]
          have hzz : Below wq.heap.size wq (X0.alloc (.cells #[.string ⟨#[109, 97, 105, 110]⟩, .string ⟨#[102]⟩, .string ⟨#[103]⟩] 9)) := HZ0.out.alloc HZ0.out.size _
          have hbb : Blk (X0.alloc (.cells #[.string ⟨#[109, 97, 105, 110]⟩, .string ⟨#[102]⟩, .string ⟨#[103]⟩] 9)) X0.heap.size 9 #[.string ⟨#[109, 97, 105, 110]⟩, .string ⟨#[102]⟩, .string ⟨#[103]⟩] := Blk.new X0 _ _
          generalize X0.alloc (.cells #[.string ⟨#[109, 97, 105, 110]⟩, .string ⟨#[102]⟩, .string ⟨#[103]⟩] 9) = X1 at *
          have HZ1 := Lib.hid hzz
          have HNM : Hid (Names3 X1 X0.heap.size) := Lib.hid (fun q hq => by
            have hq' : q < 3 := hq
            rw [hbb.cell]
            rcases (by omega : q = 0 ∨ q = 1 ∨ q = 2) with rfl | rfl | rfl <;> rfl)
          clear hzz hbb
          refine wpAnyL_ready (rs := [11]) (by kernel_rfl) (by simp) ?_
          refine AllReadyL.cons rfl (fun K hK => ?_) AllReadyL.nil
          go_simp
          refine (fitins_lit y HYI.out (.slice Ay my cy) X0.heap.size X1 HNM.out).mono ?_
          rintro e X2 ⟨va2, rfl, hx2, hs2⟩
          obtain ⟨A2', c2', hva2, _, _⟩ := hs2.val
          subst hva2
          have HZ2 := Lib.hid (HZ1.out.trans (hx2.mono HZ1.out.size))
          have HS2' := Lib.hid hs2
          have HX2 := Lib.hid hx2.size
          clear hx2 hs2
          refine hK.out _ _ (SO.out _ HZ2.out) (fun hHeld => ?_)
          have HS2 := Lib.hid hHeld
          clear hK K hHeld
          try simp only [List.setIfInBounds_toArray, List.set_cons_zero, List.set_cons_succ]
          refine wpAnyL_ready (rs := [12]) (by kernel_rfl) (by simp) ?_
          refine AllReadyL.cons rfl (fun K hK => ?_) AllReadyL.nil
          go_simp
          refine hK.out _ _ (SO.out _ (HZ2.out.alloc HZ2.out.size _)) (fun hHeld => ?_)
          have HS3 := Lib.hid hHeld
          clear hK K hHeld
          try simp only [List.setIfInBounds_toArray, List.set_cons_zero, List.set_cons_succ]
          have hz3 : Below wq.heap.size wq (X2.alloc (.cells #[.int .i64 (fitIns y).kind, .int .i64 (fitIns y).d, .int .i64 (fitIns y).a, .int .i64 (fitIns y).b, .int .i64 (fitIns y).op, .int .i64 (fitIns y).n, .string (fitIns y).name, .slice A2' (fitIns y).args.length c2'] 44)) := HZ2.out.alloc HZ2.out.size _
          have hn3 : Blk (X2.alloc (.cells #[.int .i64 (fitIns y).kind, .int .i64 (fitIns y).d, .int .i64 (fitIns y).a, .int .i64 (fitIns y).b, .int .i64 (fitIns y).op, .int .i64 (fitIns y).n, .string (fitIns y).name, .slice A2' (fitIns y).args.length c2'] 44)) X2.heap.size 44 #[.int .i64 (fitIns y).kind, .int .i64 (fitIns y).d, .int .i64 (fitIns y).a, .int .i64 (fitIns y).b, .int .i64 (fitIns y).op, .int .i64 (fitIns y).n, .string (fitIns y).name, .slice A2' (fitIns y).args.length c2'] := Blk.new X2 _ _
          generalize hX3 : (X2.alloc (.cells #[.int .i64 (fitIns y).kind, .int .i64 (fitIns y).d, .int .i64 (fitIns y).a, .int .i64 (fitIns y).b, .int .i64 (fitIns y).op, .int .i64 (fitIns y).n, .string (fitIns y).name, .slice A2' (fitIns y).args.length c2'] 44)) = X3 at *
          have HZ3 := Lib.hid hz3
          have HN3 := Lib.hid hn3
          have HX3 := Lib.hid hX3
          clear hz3 hn3 hX3
          refine wpAnyL_ready (rs := [13]) (by kernel_rfl) (by simp) ?_
          refine AllReadyL.cons rfl (fun K hK => ?_) AllReadyL.nil
          have hsx : wb.heap.size + 1 ≤ X3.heap.size := by have := HZ3.out.size; omega
          refine step_append_lies _ (by rfl) _ _ _ (by rfl) (wb.heap.size + 1) 44 zi _ 8 88 Tryz.underlying42 hj0 hj1' hj2 hj3' rfl (by omega) (.slice Aw j cw) j iss.flatten (by rfl) (HOV.out X3 HZ3.out) ⟨X2.heap.size, 0, none⟩ 1 1 [.int .i64 (fitIns y).kind, .int .i64 (fitIns y).d, .int .i64 (fitIns y).a, .int .i64 (fitIns y).b, .int .i64 (fitIns y).op, .int .i64 (fitIns y).n, .string (fitIns y).name, .slice A2' (fitIns y).args.length c2'] (by rfl) (by rfl) (World.news_of_block HN3.out) (by simp [Value.oneCell']) (by omega) (by unfold maxLen; omega) (by omega) hsx X3.heap.size rfl ?_
          intro gp cp X4 hown4 hgrow4 hat4 hlt4
          have HW4 := Lib.hid hown4
          have HG4 := Lib.hid hgrow4
          have HA4' := Lib.hid hat4
          have hS4 := (SOG.out X3 X4 HZ3.out hgrow4)
          clear hsx hown4 hgrow4 hat4
          refine hK.out _ _ (hS4) (fun hHeld => ?_)
          have HS4 := Lib.hid hHeld
          clear hK K hHeld
          try simp only [List.setIfInBounds_toArray, List.set_cons_zero, List.set_cons_succ]
          refine takeL 14 89 (.pointer (some ⟨wb.heap.size, 0, none⟩)) HS4.out rfl rfl (by kernel_rfl) (by kernel_rfl) (by kernel_rfl) (by decide) (fun _ _ _ h => h) (by kernel_rfl) ?_ ?_
          · intro w2; go_simp
          try simp only [List.setIfInBounds_toArray, List.set_cons_zero, List.set_cons_succ]
          obtain ⟨vz0, vz1⟩ := HVZ.out X3 X4 HZ3.out HG4.out
          refine wpAnyL_ready (rs := [15]) (by kernel_rfl) (by simp) ?_
          refine AllReadyL.last rfl (by kernel_rfl) (fun K hK => ?_)
          go_simp
          refine hK.out _ _ ?_
          clear hK K
          try simp only [List.setIfInBounds_toArray, List.set_cons_zero, List.set_cons_succ]
          refine wpAnyL_done (by kernel_rfl) ?_ _
          go_wp2_with fail
          go_roundw
          case rel =>
            have hgg := HG4.out
            rw [← HX3.out] at hgg
            have hye := HYE.out
            subst hye
            exact ⟨j + 1, _, _, _, by omega, by omega, by go_num, HLJ.out.next hgj1 HZ2.out HZ1.out.size HS2'.out hgg HW4.out (fun g e => by
              rcases HA4'.out with h | h
              · exact .inl (h.trans (e.symm ▸ rfl))
              · have e2 : gp = g := (by simpa [Value.ownBlock] using e)
                have h3 : X3.heap.size = X2.heap.size + 1 := by rw [← HX3.out]; simp
                exact .inr (by omega))⟩
          case measure => simp [intOf]; omega
        · have HJM : Hid (j = min x.ins.length 4) := Lib.hid (by omega)
          obtain ⟨zb, hi0, hz0, hz1, hz2⟩ := info_parts info_block
          have hnl : (f.blocks ++ moreL more f.blocks.length i).length = m := by rw [List.length_append, more_len _ _ (by omega), HM.out]
          have hrow := HLB.out.own.row
          rw [hnl] at hrow
          have hrlt := hrow.lt
          have hrow6 : wq.ownsRow (W5.heap.size + 1) 48 5 (.slice Av m cv) m css2.flatten := hrow.kept (row := none) ⟨hbq.os, hbq.tape, hbq.output, hbq.size, fun k hk _ => hbq.block k hk⟩ (Classical.em _)
          have hF6 := HLB.out.fl.below hbq HLB.out.fl.lt
          have hne : (Value.slice Av m cv).ownBlock ≠ some W5.heap.size := fun e => by have := (hrlt _ e).1; omega
          have b0 : wq.cell? ⟨wb.heap.size, 0, none⟩ = some (.slice Aw j cw) := hlj.blk.cell 0
          have b1 : wq.cell? ⟨wb.heap.size, 1, none⟩ = some (.int .i64 1) := hlj.blk.cell 1
          have b2 : wq.cell? ⟨wb.heap.size, 2, none⟩ = some (.int .i64 0) := hlj.blk.cell 2
          have b3 : wq.cell? ⟨wb.heap.size, 3, none⟩ = some (.int .i64 (tn : Int)) := hlj.blk.cell 3
          have b4 : wq.cell? ⟨wb.heap.size, 4, none⟩ = some (.int .i64 0) := hlj.blk.cell 4
          have c3 : wq.cell? ⟨W5.heap.size, 3, none⟩ = some (.slice Av m cv) := hF6.cell 3
          have hsz6 : W5.heap.size + 1 ≤ wq.heap.size := by have := HLB.out.fl.lt; have := hbq.size; omega
          have hm12 : m ≤ 20 := by have := HM.out; omega
          have HF6 := Lib.hid hF6
          have HR6 := Lib.hid hrow6
          have HNE := Lib.hid hne
          clear hF6 hrow6 hne hrow hrlt hnl hlj hbq hbwq hcq
          have hcond : (¬ (j < x.ins.length)) ∨ (j < x.ins.length ∧ ¬ (j < 4)) := by omega
          rcases hcond with hq1 | ⟨hq1, hq2⟩
          have e0 : decide ((j : Int) < (x.ins.length : Int)) = false := decide_eq_false (by omega)
          rotate_left
          have e0 : decide ((j : Int) < (x.ins.length : Int)) = true := decide_eq_true (by omega)
          have e1 : decide ((j : Int) < 4) = false := decide_eq_false (by omega)
          all_goals
            go_wp2_with (at_builtin; refine wpList_append_lies _ rfl _ _ _ rfl (W5.heap.size + 1) 48 zb _ 5 56 Tryz.underlying22 hi0 hz0 hz1 hz2 rfl (by decide) (.slice Av m cv) m css2.flatten rfl (HR6.out.alloc _) ⟨wq.heap.size, 0, none⟩ 1 1 [.slice Aw j cw, .int .i64 1, .int .i64 0, .int .i64 (tn : Int), .int .i64 0] rfl rfl (World.news_of_block (Blk.new wq _ _)) (by simp [Value.oneCell']) (by omega) (by unfold maxLen; omega) (by omega) (by simp; omega) (wq.heap.size + 1) (by simp) ?_; intro g2 cap2 X4 hown hgrow hat hlt; have hF7 := (HF6.out.alloc _).grown hgrow HNE.out; have k7 : X4.cell? ⟨W5.heap.size, 3, none⟩ = some (.slice Av m cv) := hF7.cell 3; have z7 := hF7.frozen 3)
            go_roundw
            case rel =>
              have hm := HM.out
              have hxe := HXE.out
              subst hm hxe
              exact ⟨i + 1, _, _, _, _, by omega, by omega, by go_num, rfl, HLB.out.next (fun b hb => HOK2.out b hb) hg1 HJM.out HTP.out HLJ.out hgrow hown (fun g e => by
                rcases hat with h | h
                · exact .inl (h.trans (e.symm ▸ rfl))
                · have e2 : g2 = g := (by simpa [Value.ownBlock] using e)
                  exact .inr (by omega))⟩
            case measure => simp [intOf]; omega
    · have hO6 := HO5.out.below mono_flow hlb.below
      have hU6 := HU5.out.below hlb.below hul5
      have hl3' : (fitFlows raw 3).length = 3 := by simp [fitFlows]
      have hkc : k < css.length := by rw [hO6.len, hl3']; exact hk3
      have hel6 := hO6.elems k hkc (by rw [hl3']; exact hk3)
      generalize (fitFlows raw 3)[k]'(by rw [hl3']; exact hk3) = fk at hel6
      obtain ⟨vb6, hcs6, hbl6⟩ := hel6
      have q0 : wb.cell? ⟨gf, k * 4, none⟩ = some _ := hO6.cell (i := 0) hkc (by rw [hcs6]; rfl)
      have q1 : wb.cell? ⟨gf, k * 4 + 1, none⟩ = some _ := hO6.cell (i := 1) hkc (by rw [hcs6]; rfl)
      have q2 : wb.cell? ⟨gf, k * 4 + 2, none⟩ = some _ := hO6.cell (i := 2) hkc (by rw [hcs6]; rfl)
      have q3 : wb.cell? ⟨gf, k * 4 + 3, none⟩ = some vb6 := hO6.cell (i := 3) hkc (by rw [hcs6]; rfl)
      have y0 := hO6.frozen (k * 4)
      have y1 := hO6.frozen (k * 4 + 1)
      have y2 := hO6.frozen (k * 4 + 2)
      have y3 := hO6.frozen (k * 4 + 3)
      have u1 : wb.cell? ⟨w3.heap.size, 1, none⟩ = some (.slice (some ⟨gf, 0, none⟩) 3 cf) := hU6.cell 1
      have c0 : wb.cell? ⟨W5.heap.size, 0, none⟩ = some (.string f.name) := hlb.fl.cell 0
      have c1' : wb.cell? ⟨W5.heap.size, 1, none⟩ = some (.int .i64 f.params) := hlb.fl.cell 1
      have c2 : wb.cell? ⟨W5.heap.size, 2, none⟩ = some (.int .i64 f.values) := hlb.fl.cell 2
      have c3 : wb.cell? ⟨W5.heap.size, 3, none⟩ = some (.slice Av m cv) := hlb.fl.cell 3
      have HLB := Lib.hid hlb
      have HO6 := Lib.hid hO6
      have HU6 := Lib.hid hU6
      have HM := Lib.hid hm
      clear hlb hO6 hU6 hkc hbl6 hcs6 hl3' hm
      have hcond : (¬ (i < more.length)) ∨ (i < more.length ∧ ¬ (i < 3)) := by omega
      rcases hcond with hq1 | ⟨hq1, hq2⟩
      have d0 : decide ((i : Int) < (more.length : Int)) = false := decide_eq_false (by omega)
      rotate_left
      have d0 : decide ((i : Int) < (more.length : Int)) = true := decide_eq_true (by omega)
      have d1 : decide ((i : Int) < 3) = false := decide_eq_false (by omega)
      all_goals
        go_upto_region 18 with fail
        refine wp_world ?_
        intro W9 hW9
        have hlb := HLB.out
        have hm := HM.out
        subst hm
        have hneg : ∀ (j b : Nat), b ≠ gf → b ≠ (⟨gf, j, none⟩ : Addr).block := fun _ _ h => h
        have hsz9 : W9.heap.size = wb.heap.size := by rw [← hW9]; simp [World.setCell]
        have hK69 : Keeps (fun b => b ≠ gf) wb W9 := by
          rw [← hW9]; exact ((((Keeps.refl _ _).set (hneg _) _).set (hneg _) _).set (hneg _) _).set (hneg _) _
        have hKW : Keeps (fun b => b < W5.heap.size ∧ b ≠ gf) W5 W9 := (Keeps.mono (Keeps.of_below hlb.below) fun b hb => hb.1).trans (hK69.mono fun b hb => hb.2)
        have hnl : (f.blocks ++ moreL more f.blocks.length i).length = f.blocks.length + i := by rw [List.length_append, more_len _ _ him]
        have hflx : RFlow wb (okOwn (w2.heap.size + 4) wb (.slice (some ⟨gf, 0, none⟩) 3 cf)) [.string f.name, .int .i64 f.params, .int .i64 f.values, .slice Av (f.blocks.length + i) cv] (moreF f more i) := by
          refine ⟨_, rfl, ?_⟩
          have hs := hlb.own.slr (ok' := okOwn (w2.heap.size + 4) wb (.slice (some ⟨gf, 0, none⟩) 3 cf)) mono_block (fun b hb => by
            have hgb : b ≠ gf := by
              rcases hb.1 with h | h
              · exact (HOK.out b h).2.2
              · omega
            refine ⟨?_, hb.2.1, fun e => hgb (by have e' : gf = b := (by simpa [Value.ownBlock] using e); exact e'.symm)⟩
            rcases hb.1 with h | h
            · exact (HOK.out b h).1
            · omega) (fun b e => by
            have h := hlb.own.row.lt b e
            exact ⟨by omega, h.2, fun e2 => by have e' : gf = b := (by simpa [Value.ownBlock] using e2); omega⟩)
          exact hs
        have hO9 : OwnL W9 (w2.heap.size + 4) 41 4 RFlow (.slice (some ⟨gf, 0, none⟩) 3 cf) ((fitFlows raw 3).set k (moreF f more i)) (css.set k [.string f.name, .int .i64 f.params, .int .i64 f.values, .slice Av (f.blocks.length + i) cv]) := by
          rw [← hW9]
          have hO6 : OwnL wb (w2.heap.size + 4) 41 4 RFlow (.slice (some ⟨gf, 0, none⟩) (fitFlows raw 3).length cf) (fitFlows raw 3) css := by
            rw [hl3]; exact HO6.out
          have h := hO6.put4 mono_flow (j := k) (x := moreF f more i) (by rw [hl3]; exact hk3) (c0 := .string f.name) (c1 := .int .i64 f.params) (c2 := .int .i64 f.values) (c3 := .slice Av (f.blocks.length + i) cv) (by rw [hl3]; exact hflx)
          rw [hl3] at h
          exact h
        have hA9 : SlR W9 (· < W9.heap.size) 2 RArr (.slice A1 (fitU raw).arrays.length c1) (fitU raw).arrays := HA4.out.imp (fun b hb => by have := hlb.below.size; omega) ((Keeps.mono (Keeps.of_below HB5.out) fun b hb => by omega).trans (hKW.mono fun b hb => ⟨by have := HB5.out.size; omega, by omega⟩)) (fun _ _ _ r => r)
        have hU9 := HU6.out.keep (hK69 w3.heap.size (by omega))
        have hB9 : Below w.heap.size w W9 := by
          have hb6 := HB.out.trans ((HB5.out.trans (hlb.below.mono HB5.out.size)).mono HB.out.size)
          have hgw : w.heap.size ≤ gf := by omega
          rw [← hW9]; exact (((hb6.setCell hgw _).setCell hgw _).setCell hgw _).setCell hgw _
        obtain ⟨un, hua, huf, huo, hus, hude⟩ := more_unit raw hk3 more hi3
        rw [← HF.out] at huf
        have HUDE := Lib.hid hude
        have hdx := dead_x (X := W9) (u := un) (c1 := c1) (A1 := A1) huo hus (by rw [hua]; exact hA9) huf (by rw [List.length_set]; exact hl3) hO9
        rw [hua] at hdx
        have HDX := Lib.hid hdx
        have z0 : W9.cell? ⟨w3.heap.size, 0, none⟩ = some (.slice A1 (fitU raw).arrays.length c1) := hU9.cell 0
        have z1 : W9.cell? ⟨w3.heap.size, 1, none⟩ = some (.slice (some ⟨gf, 0, none⟩) 3 cf) := hU9.cell 1
        have hV9 := HV.out.keep (hKW w5.heap.size ⟨by omega, by omega⟩)
        have hwb5 := hlb.below.size
        have HV9 := Lib.hid hV9
        have HKW := Lib.hid hKW
        have HB9 := Lib.hid hB9
        have hgf9 : gf < W9.heap.size := by omega
        clear hneg hK69 hKW hnl hflx hO9 hA9 hU9 hB9 hua huf huo hus hude hdx hV9 hW9 hlb q0 q1 q2 q3 y0 y1 y2 y3 u1 c0 c1' c2 c3
        go_upto_region 19 with (go_at_call 10; refine HDX.out.mono ?_; rintro e w10 ⟨C1, C2, e4, e5, rfl, hb10, hdo10⟩)
        refine wp_world ?_
        intro W11 hW11
        have hb101 : Below w10.heap.size w10 W11 := by rw [← hW11]; exact below1 _ _
        have hs10 := hb10.size
        have hs11 := hb101.size
        have hB11 : Below W9.heap.size W9 W11 := hb10.trans (hb101.mono hb10.size)
        have hX : Blk W11 w10.heap.size 27 #[.slice C1 (fitU raw).arrays.length e4, .slice C2 3 e5] := by rw [← hW11]; exact Blk.new w10 _ _
        have hV11 := HV9.out.below hB11 (by omega)
        have v0 : W11.cell? ⟨w5.heap.size, 0, none⟩ = some (.slice B1 (fitU raw).arrays.length d4) := hV11.cell 0
        have v1 : W11.cell? ⟨w5.heap.size, 1, none⟩ = some (.slice B2 3 d5) := hV11.cell 1
        have x0 : W11.cell? ⟨w10.heap.size, 0, none⟩ = some (.slice C1 (fitU raw).arrays.length e4) := hX.cell 0
        have x1 : W11.cell? ⟨w10.heap.size, 1, none⟩ = some (.slice C2 3 e5) := hX.cell 1
        have hvi := HVK.out W11 (by omega) (HKW.out.trans (Keeps.mono (Keeps.of_below hB11) fun b hb => by omega))
        have hwi := hdo10.keep hgf9 hs11 (Keeps.mono (Keeps.of_below hb101) fun b hb => hb.1)
        rw [HUDE.out] at hwi
        have hsm := same_u hvi hwi
        have hdl : (deadE (fitU raw)).flows.length = 3 := by
          show ((fitU raw).flows.map deadF).length = 3
          rw [List.length_map]; exact hl3
        rw [hdl] at hsm
        have HSM : Hid (Calls Tryz.prog 13 #[.agg #[.slice B1 (fitU raw).arrays.length d4, .slice B2 3 d5], .agg #[.slice C1 (fitU raw).arrays.length e4, .slice C2 3 e5]] W11 fun e w' => e = .returned (.bool true) ∧ Below W11.heap.size W11 w') := Lib.hid hsm
        have HB11 := Lib.hid (HB9.out.trans (hB11.mono HB9.out.size))
        clear hW11 hb101 hB11 hX hV11 hvi hwi hsm hdl hb10 hdo10 z0 z1
        go_wp2_with (go_at_call 13; refine HSM.out.mono ?_; rintro e w12 ⟨rfl, hb12⟩)
        go_ret
        exact ⟨rfl, HB11.out.trans (hb12.mono HB11.out.size)⟩

end Go.Proofs.YtkpigkopjfkepaaGreatDoor
