/- What flow.wanted does: the least sets that follow from the blocks. -/
import Derived.Test.YtkpigkopjfkepaaGreatDoorPrWantedA
import Derived.Sort.CutIn
import Derived.Stop.RegionWithIn
import Derived.Laws.EntriesVeiled
namespace Go.Proofs.YtkpigkopjfkepaaGreatDoor
open Go.RowKit Go.Shelf Go.Maps
attribute [local go_sem] Oper.semAt_some
theorem info_set : (Tryz.prog.info? 165).map (fun i => (i.zero, i.size, i.bytes)) = some (some (.map none), 1, 8) := by kernel_rfl
structure WI (f : LFlow) (w : World) (A : Option Addr) (c Ob g : Nat) (bs : List Nat) (L : Nat → Int → Bool) (W : World) : Prop where
 below : Below w.heap.size w W
 fl : Blk W w.heap.size 41 #[.string f.name, .int .i64 f.params, .int .i64 f.values, .slice A f.blocks.length c]
 out : Blk W Ob 134 #[.slice (some ⟨g, 0, none⟩) f.blocks.length f.blocks.length]
 row : Blk W g 165 (bs.map fun b => Value.map (some b)).toArray
 len : bs.length = f.blocks.length
 sets : ∀ (i : Nat) (h : i < bs.length), MSet W bs[i] (L i)
 ge : ∀ b ∈ bs, g < b
 nd : bs.Nodup
 pos : w.heap.size < g ∧ g < Ob
theorem WI.lt {f : LFlow} {w : World} {A : Option Addr} {c Ob g : Nat} {bs : List Nat} {L : Nat → Int → Bool} {W : World} (h : WI f w A c Ob g bs L W) : ∀ b ∈ bs, b < W.heap.size := fun b hb => by
 obtain ⟨i, hi, rfl⟩ := List.getElem_of_mem hb
 exact (h.sets i hi).lt
theorem not_map {W : World} {b : Nat} {S : Int → Bool} (h : MSet W b S) {t : TypeId} {cs : Array Value} (h2 : Blk W b t cs) : False := by
 obtain ⟨_, _, h3, _⟩ := h
 obtain ⟨es, clock, h4, _⟩ := h3
 unfold Blk at h2
 rw [h2] at h4
 cases h4
def okW (w : World) (Ob g : Nat) (bs : List Nat) (b : Nat) : Prop := b = w.heap.size ∨ b = Ob ∨ b = g ∨ b ∈ bs
theorem WI.keep {f : LFlow} {w : World} {A : Option Addr} {c Ob g : Nat} {bs : List Nat} {L : Nat → Int → Bool} {W W' : World} (h : WI f w A c Ob g bs L W) (hb : Below w.heap.size w W') (hk : Keeps (okW w Ob g bs) W W') : WI f w A c Ob g bs L W' :=
 ⟨hb, h.fl.keep (hk _ (.inl rfl)), h.out.keep (hk _ (.inr (.inl rfl))), h.row.keep (hk _ (.inr (.inr (.inl rfl)))), h.len, fun i hi => (h.sets i hi).same (hk _ (.inr (.inr (.inr (List.getElem_mem hi))))), h.ge, h.nd, h.pos⟩
theorem WI.old {f : LFlow} {w : World} {A : Option Addr} {c Ob g : Nat} {bs : List Nat} {L : Nat → Int → Bool} {W : World} (h : WI f w A c Ob g bs L W) : ∀ b, okW w Ob g bs b → b < W.heap.size := fun b hb => by
 rcases hb with rfl | rfl | rfl | hb
 ·exact h.fl.lt
 ·exact h.out.lt
 ·exact h.row.lt
 ·exact h.lt b hb
theorem WI.unmarked {f : LFlow} {w : World} {A : Option Addr} {c Ob g : Nat} {bs : List Nat} {L : Nat → Int → Bool} {W : World} (h : WI f w A c Ob g bs L W) {o : Option (List Deferred)} : ∀ b, okW w Ob g bs b → W.heap[b]? ≠ some (Obj.deferred o) := fun b hb e => by
 have hcell : ∀ {b : Nat} {t : TypeId} {cs : Array Value}, Blk W b t cs → W.heap[b]? = some (Obj.deferred o) → False := fun h1 h2 => by unfold Blk at h1; rw [h1] at h2; cases h2
 rcases hb with rfl | rfl | rfl | hb
 ·exact hcell h.fl e
 ·exact hcell h.out e
 ·exact hcell h.row e
 ·obtain ⟨i, hi, rfl⟩ := List.getElem_of_mem hb
  obtain ⟨_, _, ⟨es, clock, h4, _⟩, _⟩ := h.sets i hi
  rw [h4] at e
  cases e
theorem WI.below' {f : LFlow} {w : World} {A : Option Addr} {c Ob g : Nat} {bs : List Nat} {L : Nat → Int → Bool} {W W' : World} (h : WI f w A c Ob g bs L W) (hb : Below W.heap.size W W') : WI f w A c Ob g bs L W' :=
 h.keep (h.below.trans (hb.mono h.below.size)) (fun b hb' => hb.block b (h.old b hb'))
def upd (L : Nat → Int → Bool) (x : Nat) (S : Int → Bool) (i : Nat) : Int → Bool := if i = x then S else L i
theorem upd_same (L : Nat → Int → Bool) (x : Nat) (S : Int → Bool) : upd L x S x = S := by unfold upd; rw [if_pos rfl]
theorem upd_other {L : Nat → Int → Bool} {x : Nat} {S : Int → Bool} {i : Nat} (h : i ≠ x) : upd L x S i = L i := by unfold upd; rw [if_neg h]
theorem upd_self (L : Nat → Int → Bool) (x : Nat) : upd L x (L x) = L := by
 funext i
 by_cases h : i = x
 ·subst h; rw [upd_same]
 ·rw [upd_other h]
theorem WI.add {f : LFlow} {w : World} {A : Option Addr} {c Ob g : Nat} {bs : List Nat} {L : Nat → Int → Bool} {W W' : World} {x : Nat} {S : Int → Bool} (h : WI f w A c Ob g bs L W) (hx : x < bs.length) (hg : W.grownBy W' (some bs[x])) (hS : MSet W' bs[x] S) : WI f w A c Ob g bs (upd L x S) W' := by
 have hm := h.ge bs[x] (List.getElem_mem hx)
 have hp := h.pos
 have hob : bs[x] ≠ Ob := fun e => not_map (h.sets x hx) (by rw [e]; exact h.out)
 refine ⟨h.below.grown hg h.below.size (fun k e => by injection e with e; omega), h.fl.grown hg (fun e => by injection e with e; omega), h.out.grown hg (fun e => by injection e with e; exact hob e), h.row.grown hg (fun e => by injection e with e; omega), h.len, fun i hi => ?_, h.ge, h.nd, h.pos⟩
 by_cases e : i = x
 ·subst e; rw [upd_same]; exact hS
 ·rw [upd_other e]
  refine (h.sets i hi).kept hg (fun e' => ?_)
  injection e' with e'
  exact e ((List.getElem_inj h.nd).1 e')
def wantRow (n : Nat) (bs : List Nat) : Array Value := ((bs.map fun b => Value.map (some b)) ++ List.replicate (n - bs.length) (Value.map none)).toArray
theorem wantRow_at {n : Nat} (bs : List Nat) (h : bs.length < n) : (wantRow n bs)[bs.length]? = some (.map none) := by
 unfold wantRow
 have e : (bs.map fun b => Value.map (some b)).length = bs.length := by simp
 rw [List.getElem?_toArray, List.getElem?_append_right (by omega), e, Nat.sub_self]
 exact List.getElem?_replicate_of_lt (by omega)
theorem wantRow_set {n : Nat} (bs : List Nat) (b : Nat) (h : bs.length < n) : (wantRow n bs).setIfInBounds bs.length (.map (some b)) = wantRow n (bs ++ [b]) := by
 unfold wantRow
 rw [List.setIfInBounds_toArray]
 congr 1
 rw [List.set_append_right _ _ (by simp)]
 obtain ⟨k, hk⟩ : ∃ k, n - bs.length = k + 1 := ⟨n - bs.length - 1, by omega⟩
 have hk2 : n - (bs ++ [b]).length = k := by simp; omega
 rw [hk, hk2]
 simp [List.replicate_succ]
theorem wantRow_full {n : Nat} {bs : List Nat} (h : bs.length = n) : wantRow n bs = (bs.map fun b => Value.map (some b)).toArray := by
 unfold wantRow
 simp [h]
def WO (f : LFlow) (w : World) (A : Option Addr) (c i : Nat) (wr : World) : Prop :=
 Below w.heap.size w wr ∧ Blk wr w.heap.size 41 #[.string f.name, .int .i64 f.params, .int .i64 f.values, .slice A f.blocks.length c] ∧
  Blk wr (w.heap.size + 1 + 1) 134 #[.slice (some ⟨w.heap.size + 1, 0, none⟩) f.blocks.length f.blocks.length] ∧
  ∃ bs : List Nat, bs.length = i ∧ Blk wr (w.heap.size + 1) 165 (wantRow f.blocks.length bs) ∧ (∀ (j : Nat) (h : j < bs.length), MSet wr bs[j] (fun _ => false)) ∧ (∀ b ∈ bs, w.heap.size + 1 + 1 < b) ∧ bs.Nodup
structure WInv (f : LFlow) (w : World) (A : Option Addr) (c : Nat) (bs : List Nat) (L : Nat → Int → Bool) (ag : Bool) (ab : Nat) (ds : List Deferred) (W : World) : Prop where
 wi : WI f w A c (w.heap.size + 1 + 1) (w.heap.size + 1) bs L W
 box : Blk W ab 4 #[.bool ag]
 ge : w.heap.size + 1 + 1 < ab
 le : ∀ i v, L i v = true → liveS f i v = true
 pre : ag = false → Pre f L
 marks : Marks w.heap.size W W.heap.size ds
structure WOut (f : LFlow) (w : World) (A : Option Addr) (c : Nat) (bs : List Nat) (L0 : Nat → Int → Bool) (ab : Nat) (W0 : World) (pre : List (Fin f.blocks.length)) (L : Nat → Int → Bool) (ag : Bool) (W : World) : Prop where
 wi : WI f w A c (w.heap.size + 1 + 1) (w.heap.size + 1) bs L W
 box : Blk W ab 4 #[.bool ag]
 up : ∀ i v, L0 i v = true → L i v = true
 le : ∀ i v, L i v = true → liveS f i v = true
 same : ag = false → L = L0 ∧ ∀ x ∈ pre, ∀ v, transS f.blocks[x.1] L0 v = true → L0 x.1 v = true
 more : ag = true → ∃ i, i < f.blocks.length ∧ cnt (L0 i) < cnt (L i)
 old : Keeps (fun b => b < W0.heap.size ∧ b ∉ bs ∧ b ≠ ab) W0 W
 size : W0.heap.size ≤ W.heap.size
theorem WOut.low {f : LFlow} {w : World} {A : Option Addr} {c : Nat} {bs : List Nat} {L0 : Nat → Int → Bool} {ab : Nat} {W0 : World} {pre : List (Fin f.blocks.length)} {L : Nat → Int → Bool} {ag : Bool} {W W' : World} (h : WOut f w A c bs L0 ab W0 pre L ag W)
  (hw : ∀ b, okW w (w.heap.size + 1 + 1) (w.heap.size + 1) bs b → b < W0.heap.size) (hab : ab < W0.heap.size) (hb : Below W0.heap.size W W') : WOut f w A c bs L0 ab W0 pre L ag W' :=
 ⟨h.wi.keep (h.wi.below.trans (hb.mono (Nat.le_of_lt (hw _ (.inl rfl))))) (fun b hb' => hb.block b (hw b hb')), h.box.keep (hb.block ab hab), h.up, h.le, h.same, h.more, fun b hb' => (hb.block b hb'.1).trans (h.old b hb'), Nat.le_trans h.size hb.size⟩
structure WIn {f : LFlow} (L' : Nat → Int → Bool) (x : Fin f.blocks.length) (sg sb : Nat) (X W3 : World) (pre : List (Fin f.blocks[x.1].ins.length)) (Y : World) : Prop where
 set : MSet Y sg (pre.foldl (fun S k => stepS S f.blocks[x.1].ins[k.1]) (endS f.blocks[x.1].term L'))
 box : Blk Y sb 165 #[.map (some sg)]
 below : Below X.heap.size X Y
 size : W3.heap.size ≤ Y.heap.size
 old : Keeps (fun b => b < W3.heap.size ∧ b ≠ sg) W3 Y
theorem WIn.low {f : LFlow} {L' : Nat → Int → Bool} {x : Fin f.blocks.length} {sg sb : Nat} {X W3 : World} {pre : List (Fin f.blocks[x.1].ins.length)} {Y Y' : World} (h : WIn L' x sg sb X W3 pre Y) (h1 : sg < W3.heap.size) (h2 : sb < W3.heap.size) (h3 : X.heap.size ≤ W3.heap.size) (hb : Below W3.heap.size Y Y') : WIn L' x sg sb X W3 pre Y' :=
 ⟨h.set.same (hb.block sg h1), h.box.keep (hb.block sb h2), h.below.trans (hb.mono h3), Nat.le_trans h.size hb.size, fun b hb' => (hb.block b hb'.1).trans (h.old b hb')⟩
def WLoop (f : LFlow) (w : World) (A : Option Addr) (c : Nat) (bs : List Nat) (m : Nat) (a : Act) (W : World) : Prop :=
 ∃ (L : Nat → Int → Bool) (ag : Bool) (ab : Nat) (ds : List Deferred) (u0 u2 u4 u6 u7 u8 u9 u10 u11 u12 u13 u14 u15 u16 u17 u18 u19 u20 u21 u22 u23 u24 u25 u26 u27 u28 u29 u30 u31 u32 u33 u34 u35 u36 u37 u38 u39 u40 u41 u42 u43 u44 u45 u46 u47 u48 u49 u50 u51 u52 u53 : Value), WInv f w A c bs L ag ab ds W ∧ m = 2 * msr f.blocks.length L + (if ag then 1 else 0) ∧ a = { tmps := #[u0, .pointer (some ⟨w.heap.size, 0, none⟩), u2, .pointer (some ⟨w.heap.size + 1 + 1, 0, none⟩), u4, .pointer (some ⟨ab, 0, none⟩), u6, u7, u8, u9, u10, u11, u12, u13, u14, u15, u16, u17, u18, u19, u20, u21, u22, u23, u24, u25, u26, u27, u28, u29, u30, u31, u32, u33, u34, u35, u36, u37, u38, u39, u40, u41, u42, u43, u44, u45, u46, u47, u48, u49, u50, u51, u52, u53], defers := ds }
theorem WInv.ne {f : LFlow} {w : World} {A : Option Addr} {c : Nat} {bs : List Nat} {L : Nat → Int → Bool} {ag : Bool} {ab : Nat} {ds : List Deferred} {W : World} (h : WInv f w A c bs L ag ab ds W) : ∀ b, okW w (w.heap.size + 1 + 1) (w.heap.size + 1) bs b → b ≠ ab := fun b hb e => by
 have hg := h.ge
 rcases hb with rfl | rfl | rfl | hb
 ·omega
 ·omega
 ·omega
 ·obtain ⟨i, hi, rfl⟩ := List.getElem_of_mem hb
  exact not_map (h.wi.sets i hi) (by rw [e]; exact h.box)
theorem grown_set (W : World) (p : Addr) (v : Value) : W.grownBy (W.setCell p v) (some p.block) :=
 ⟨rfl, rfl, rfl, by simp [World.setCell], fun k _ hne => Below.heap_setCell W _ _ k (fun e => hne (by rw [e]))⟩
theorem wout_step {f : LFlow} {w : World} {A : Option Addr} {c : Nat} {bs : List Nat} {L L' : Nat → Int → Bool} {ab : Nat} {W W0 X Y w5 w6 : World} {pre : List (Fin f.blocks.length)} {ag' nv : Bool} {x : Fin f.blocks.length} {bx : Nat} {Sx : Int → Bool} {a' : Act}
  (hO : WOut f w A c bs L ab W0 pre L' ag' X) (hne : ∀ b, okW w (w.heap.size + 1 + 1) (w.heap.size + 1) bs b → b ≠ ab) (hok : ∀ b, okW w (w.heap.size + 1 + 1) (w.heap.size + 1) bs b → b < W0.heap.size) (hokW : ∀ b, okW w (w.heap.size + 1 + 1) (w.heap.size + 1) bs b → b < W.heap.size)
  (hab : ab < W.heap.size) (hge : w.heap.size + 1 + 1 < ab) (hXY : Below X.heap.size X Y) (h5 : Below Y.heap.size Y w5) (hxl : x.1 < bs.length) (hbx : bx = bs[x.1])
  (h6 : w5.grownBy w6 (some bx)) (hm6 : MSet w6 bx Sx) (hbY : Blk Y ab 4 #[.bool ag']) (hbne : bx ≠ ab) (hT : ∀ v, transS f.blocks[x.1] L' v = true → placeP v = true) (hSx : addS (L' x.1) (riseL (transS f.blocks[x.1] L')) = Sx) (hx : x.1 < f.blocks.length) (hWX : W0.heap.size ≤ X.heap.size)
  (hnv : nv = (decide (cnt (L' x.1) < cnt Sx) || ag')) (hW0 : W.heap.size + 1 ≤ W0.heap.size) :
  ownPostG W0.heap.size (Keeps fun b => b < w.heap.size ∨ b = W.heap.size) (fun pre X => ∃ L' ag', WOut f w A c bs L ab W0 pre L' ag' X) (fun _ _ _ => False) (pre ++ [x]) X Exit.normal a' (w6.setCell ⟨ab, 0, none⟩ (.bool nv)) := by
 have hX5 : Below X.heap.size X w5 := hXY.trans (h5.mono hXY.size)
 have hbm : bx ∈ bs := by rw [hbx]; exact List.getElem_mem _
 have hwi6 : WI f w A c (w.heap.size + 1 + 1) (w.heap.size + 1) bs (upd L' x.1 Sx) w6 := (hO.wi.below' hX5).add hxl (by rw [← hbx]; exact h6) (by rw [← hbx]; exact hm6)
 have g7 := grown_set w6 ⟨ab, 0, none⟩ (.bool nv)
 have wiZ := hwi6.keep (hwi6.below.grown g7 hwi6.below.size (fun k e => by injection e with e; have e' : ab = k := e; omega)) (fun b hb => g7.block b (hwi6.old b hb) (fun e => by injection e with e; exact hne b hb (by have e' : b = ab := e; omega)))
 have abZ : Blk (w6.setCell ⟨ab, 0, none⟩ (.bool nv)) ab 4 #[.bool nv] := ((hbY.below h5 hbY.lt).grown h6 (by intro e; injection e with e; exact hbne e)).set_ 0 (.bool nv)
 have hLS : ∀ v, L' x.1 v = true → Sx v = true := fun v hv => by rw [← hSx]; exact addS_iff.2 (.inr hv)
 have hTS : ∀ v, transS f.blocks[x.1] L' v = true → Sx v = true := fun v hv => by rw [← hSx]; exact addS_iff.2 (.inl (mem_riseL.2 ⟨hT v hv, hv⟩))
 have hbW := hok bx (.inr (.inr (.inr hbm)))
 have hbW' := hokW bx (.inr (.inr (.inr hbm)))
 have hgm := hO.wi.ge bx hbm
 have hXZ : ∀ b : Nat, b < X.heap.size → b ≠ bx → b ≠ ab → (w6.setCell ⟨ab, 0, none⟩ (.bool nv)).heap[b]? = X.heap[b]? := fun b h1 h2 h3 => by
  have e1 := hX5.block b h1
  have e2 := h6.block b (Nat.lt_of_lt_of_le h1 hX5.size) (fun e => by injection e with e; omega)
  have e3 := g7.block b (Nat.lt_of_lt_of_le h1 (Nat.le_trans hX5.size h6.size)) (fun e => by injection e with e; have e' : b = ab := e; omega)
  exact e3.trans (e2.trans e1)
 refine ⟨((keepsFrom_of_below hX5).trans (KeepsFrom.of_grownBy h6 (fun j e => by injection e with e; omega))).trans ((KeepsOthers.setCell _ _ _).from _), fun b hb => hXZ b (by rcases hb with hb | hb <;> omega) (by rcases hb with hb | hb <;> omega) (by rcases hb with hb | hb <;> omega), ?_⟩
 have hsz : W0.heap.size ≤ (w6.setCell ⟨ab, 0, none⟩ (.bool nv)).heap.size := Nat.le_trans hWX (Nat.le_trans hX5.size (Nat.le_trans h6.size g7.size))
 have hold : Keeps (fun b => b < W0.heap.size ∧ b ∉ bs ∧ b ≠ ab) W0 (w6.setCell ⟨ab, 0, none⟩ (.bool nv)) := hO.old.trans fun b hb => hXZ b (by omega) (fun e => hb.2.1 (e ▸ hbm)) hb.2.2
 by_cases hnew : cnt (L' x.1) < cnt Sx
 ·have hnv' : nv = true := by rw [hnv, decide_eq_true hnew]; rfl
  refine ⟨upd L' x.1 Sx, nv, ⟨wiZ, abZ, fun i v h => ?_, fun i v h => ?_, fun h => absurd (hnv'.symm.trans h) (by simp), fun _ => ⟨x.1, hx, ?_⟩, hold, hsz⟩⟩
  ·by_cases e : i = x.1
   ·subst e; rw [upd_same]; exact hLS v (hO.up _ v h)
   ·rw [upd_other e]; exact hO.up i v h
  ·by_cases e : i = x.1
   ·subst e
    rw [upd_same, ← hSx] at h
    rcases addS_iff.1 h with h | h
    ·exact liveS_round hO.le _ hx v (mem_riseL.1 h).2
    ·exact hO.le _ v h
   ·rw [upd_other e] at h; exact hO.le i v h
  ·rw [upd_same]
   exact Nat.lt_of_le_of_lt (cnt_mono (hO.up x.1)) hnew
 ·have hnv' : nv = ag' := by rw [hnv, decide_eq_false hnew]; rfl
  have hSL : Sx = L' x.1 := by
   funext v
   rw [Bool.eq_iff_iff]
   exact ⟨fun hv => cnt_full hLS hnew (hm6.place hv) hv, hLS v⟩
  rw [hSL, upd_self] at wiZ
  subst hnv'
  refine ⟨L', nv, ⟨wiZ, abZ, hO.up, hO.le, fun h => ?_, hO.more, hold, hsz⟩⟩
  obtain ⟨h1, h2⟩ := hO.same h
  refine ⟨h1, fun y hy v hv => ?_⟩
  rcases List.mem_append.1 hy with hy | hy
  ·exact h2 y hy v hv
  ·rw [List.mem_singleton.1 hy] at hv ⊢
   rw [← h1] at hv ⊢
   rw [← hSL]
   exact hTS v hv
set_option maxRecDepth 100000 in
set_option maxHeartbeats 4000000 in
theorem wanted_in (f : LFlow) (hg : GoodF f) (hf8 : f.blocks.length ≤ 1000) (A : Option Addr) (c : Nat) (w : World) (hv : SlR w (· < w.heap.size) 5 (RBlock w (· < w.heap.size)) (.slice A f.blocks.length c) f.blocks) :
  CallsIn Fence.wide 9 Tryz.prog 83 #[.agg #[.string f.name, .int .i64 f.params, .int .i64 f.values, .slice A f.blocks.length c]] w fun e w' => ∃ vl bs, e = .returned vl ∧ Below w.heap.size w w' ∧ bs.length = f.blocks.length ∧ (∀ b ∈ bs, w.heap.size ≤ b) ∧ Sets_ w' (fun b => w.heap.size ≤ b ∧ b < w'.heap.size) vl bs (liveS f) := by
 have HV := Lib.hid hv
 have HG := Lib.hid hg
 clear hv hg
 have hmk := run_make_row' (P := Tryz.prog) 134 165 (.map none) 8 Tryz.underlying134 info_set rfl .i64 .i64 f.blocks.length (by omega) (by omega)
 have hmm := @run_makeMap Tryz.prog
 refine callsIn_of_wp_marks Tryz.func83 rfl trivial ?_ rfl
 simp only [Tryz.ntmps83, List.size_toArray, List.length_cons, List.length_nil, Nat.reduceAdd, Nat.reduceSub, Array.replicate_succ, Array.replicate_zero, List.push_toArray, List.append_toArray, List.nil_append, List.cons_append]
 gi_upto_region 2 with fail
 refine wpIn_world ?_
 intro W hW
 have hB : Below w.heap.size w W := by rw [← hW]; exact (((Below.refl _ _).alloc (Nat.le_refl _) _).alloc (by simp) _).alloc (by simp <;> omega) _
 have hF : Blk W w.heap.size 41 #[.string f.name, .int .i64 f.params, .int .i64 f.values, .slice A f.blocks.length c] := by rw [← hW]; exact ((Blk.new_at _ _ _ rfl).alloc _).alloc _
 have hR : Blk W (w.heap.size + 1) 165 (wantRow f.blocks.length []) := by
  rw [← hW]
  have h := (Blk.new (w.alloc (.cells #[.string f.name, .int .i64 f.params, .int .i64 f.values, .slice A f.blocks.length c] 41)) 165 (madeCells #[.map none] f.blocks.length)).alloc (.cells #[.slice (some ⟨w.heap.size + 1, 0, none⟩) f.blocks.length f.blocks.length] 134)
  rw [World.size_alloc] at h
  have e : wantRow f.blocks.length [] = madeCells #[.map none] f.blocks.length := by rw [made_one]; simp [wantRow]
  rw [e]
  exact h
 have hO : Blk W (w.heap.size + 1 + 1) 134 #[.slice (some ⟨w.heap.size + 1, 0, none⟩) f.blocks.length f.blocks.length] := by rw [← hW]; exact Blk.new_at _ _ _ (by simp)
 clear hW hmk
 have o0 : W.cell? ⟨w.heap.size + 1 + 1, 0, none⟩ = some (.slice (some ⟨w.heap.size + 1, 0, none⟩) f.blocks.length f.blocks.length) := hO.cell 0
 gi_wp2
 clear o0
 gi_loopw [17] (fun s wr => ∃ i : Nat, i ≤ f.blocks.length ∧ s = .int .i64 i ∧ WO f w A c i wr) (fun s _ => f.blocks.length - (RowKit.intOf s).toNat)
 case atStart => exact ⟨0, by omega, rfl, hB, hF, hO, [], rfl, hR, by simp, by simp, List.nodup_nil⟩
 case round =>
  clear hB hF hR hO
  obtain ⟨i, hi, rfl, hB, hF, hO, bs, hbl, hR, hS, hge, hnd⟩ := hrel
  by_cases hlt : i < f.blocks.length
  ·have d0 : decide ((i : Int) < (f.blocks.length : Int)) = true := decide_eq_true (by omega)
   have o0 : wr.cell? ⟨w.heap.size + 1 + 1, 0, none⟩ = some (.slice (some ⟨w.heap.size + 1, 0, none⟩) f.blocks.length f.blocks.length) := hO.cell 0
   have r0 : (wr.alloc (.map #[] 0)).cell? ⟨w.heap.size + 1, i, none⟩ = some (.map none) := by
    rw [(hR.alloc _).cell, ← hbl]
    exact wantRow_at _ (by omega)
   have z0 : (wr.alloc (.map #[] 0)).frozen? ⟨w.heap.size + 1, i, none⟩ = false := (hR.alloc _).frozen i
   have HB := Lib.hid hbl
   clear hbl
   gi_wp2
   go_roundw
   case rel =>
    have hsz := hO.lt
    have hg1 : wr.grownBy ((wr.alloc (.map #[] 0)).setCell ⟨w.heap.size + 1, i, none⟩ (.map (some wr.heap.size))) (some (w.heap.size + 1)) :=
     (World.grownBy_alloc wr _ _).trans ⟨rfl, rfl, rfl, by simp [World.setCell], fun k _ hne => Below.heap_setCell _ _ _ k (fun e => hne (by rw [e]))⟩
    refine ⟨i + 1, by omega, by go_num, hB.grown hg1 hB.size (fun k e => by injection e with e; omega), hF.grown hg1 (by intro e; injection e with e; omega), hO.grown hg1 (by intro e; injection e with e; omega), bs ++ [wr.heap.size], by simp [HB.out], ?_, ?_, ?_, ?_⟩
    ·rw [← wantRow_set _ _ (by rw [HB.out]; exact hlt), HB.out]
     exact (hR.alloc _).set_ i _
    ·intro j hj
     by_cases hj' : j < bs.length
     ·rw [List.getElem_append_left hj']
      exact (hS j hj').kept hg1 (fun e => by injection e with e; have := hge bs[j] (List.getElem_mem hj'); omega)
     ·have : j = bs.length := by simp at hj; omega
      subst this
      rw [List.getElem_append_right (by omega)]
      simp only [Nat.sub_self, List.getElem_singleton]
      exact (MSet.made wr).kept (row := some (w.heap.size + 1)) ⟨rfl, rfl, rfl, by simp [World.setCell], fun k _ hne => Below.heap_setCell _ _ _ k (fun e => hne (by rw [e]))⟩ (fun e => by injection e with e; omega)
    ·intro b hb
     rcases List.mem_append.1 hb with hb | hb
     ·exact hge b hb
     ·rw [List.mem_singleton.1 hb]; exact hsz
    ·refine List.nodup_append.2 ⟨hnd, by simp, fun a ha b hb e => ?_⟩
     rw [List.mem_singleton.1 hb] at e
     obtain ⟨j, hj, rfl⟩ := List.getElem_of_mem ha
     have := (hS j hj).lt
     omega
   case measure => simp [RowKit.intOf]; omega
  ·have d0 : decide ((i : Int) < (f.blocks.length : Int)) = false := decide_eq_false (by omega)
   obtain rfl : i = f.blocks.length := by omega
   have hWI : WI f w A c (w.heap.size + 1 + 1) (w.heap.size + 1) bs (fun _ _ => false) wr := by
    refine ⟨hB, hF, hO, ?_, hbl, hS, fun b hb => by have := hge b hb; omega, hnd, by omega, by omega⟩
    rw [wantRow_full hbl] at hR
    exact hR
   clear hB hF hO hbl hR hS hge hnd
   gi_upto_region 8 with fail
   refine wpIn_world ?_
   intro W1 hW1
   have hWI1 : WI f w A c (w.heap.size + 1 + 1) (w.heap.size + 1) bs (fun _ _ => false) W1 := hWI.below' (by rw [← hW1]; exact below1 _ _)
   have hA1 : Blk W1 wr.heap.size 4 #[.bool true] := by rw [← hW1]; exact Blk.new_at _ _ _ rfl
   have hge1 : w.heap.size + 1 + 1 < wr.heap.size := hWI.out.lt
   clear hW1 hWI
   refine loop_ghost (WLoop f w A c bs) ?step (2 * msr f.blocks.length (fun _ _ => false) + 1) _ _ ?start
   case start =>
    refine ⟨fun _ _ => false, true, wr.heap.size, [], ?_⟩
    repeat apply Exists.intro
    refine ⟨⟨hWI1, hA1, hge1, fun _ _ h => absurd h (by simp), fun h => absurd h (by simp), trivial⟩, rfl, rfl⟩
   case step =>
    clear hWI1 hA1 hge1
    rintro m a W ⟨L, ag, ab, ds, u0, u2, u4, u6, u7, u8, u9, u10, u11, u12, u13, u14, u15, u16, u17, u18, u19, u20, u21, u22, u23, u24, u25, u26, u27, u28, u29, u30, u31, u32, u33, u34, u35, u36, u37, u38, u39, u40, u41, u42, u43, u44, u45, u46, u47, u48, u49, u50, u51, u52, u53, hI, rfl, rfl⟩
    have b0 : W.cell? ⟨ab, 0, none⟩ = some (.bool ag) := hI.box.cell 0
    have zb : W.frozen? ⟨ab, 0, none⟩ = false := hI.box.frozen 0
    have f3 : W.cell? ⟨w.heap.size, 3, none⟩ = some (.slice A f.blocks.length c) := hI.wi.fl.cell 3
    have o0 : W.cell? ⟨w.heap.size + 1 + 1, 0, none⟩ = some (.slice (some ⟨w.heap.size + 1, 0, none⟩) f.blocks.length f.blocks.length) := hI.wi.out.cell 0
    have HI := Lib.hid hI
    clear hI
    cases ag with
    | false =>
     gi_wp2
     have hL : L = liveS f := liveS_of (HI.out.pre rfl) HI.out.le
     subst hL
     refine leaves_marks (n₀ := w.heap.size) (W := W) (fun w1 => Below w.heap.size w w1 ∧ ∀ b : Nat, W.heap[b]? ≠ some (Obj.deferred (some [])) → w1.heap[b]? = W.heap[b]?) ?_ ?_ ds W.heap.size W HI.out.marks (fun _ _ => rfl) ⟨HI.out.wi.below, fun _ _ => rfl⟩
     ·rintro w1 D h1 h2 h3 ⟨g1, g2⟩
      exact ⟨g1.grown (grownBy_putObj' w1 D _) g1.size (fun k e => by cases e; exact h1), fun b hb => (World.putObj_heap_other (fun e => hb (by first | (subst e; exact h2) | (rw [e]; exact h2) | (rw [← e]; exact h2)))).trans (g2 b hb)⟩
     ·rintro w1 ⟨g1, g2⟩
      have hwi := HI.out.wi.keep g1 (fun b hb => g2 b (HI.out.wi.unmarked b hb))
      refine ⟨_, results_tmp rfl _ _ _, _, bs, rfl, g1, hwi.len, fun b hb => ?_, slr_maps hwi.row hwi.len (by unfold maxLen; omega) ⟨by omega, hwi.row.lt⟩, hwi.sets⟩
      have := hwi.ge b hb
      omega
    | true =>
     have hf46 : Fence.wide.fn 112 := trivial
     gi_wp2_with (gi_at_call 112; refine (backB_in Fence.wide _ trivial rfl _ _ _ _).mono ?_; rintro e w' ⟨rfl, rfl⟩)
     clear b0 zb f3 o0
     refine wpIn_world ?_
     intro W0 hW0
     have hs0 : W0.heap.size ≤ W.heap.size + 1 ∧ W.heap.size + 1 ≤ W0.heap.size := by rw [← hW0]; simp
     obtain ⟨hs0a, hs0b⟩ := hs0
     have hab : ab < W.heap.size := HI.out.box.lt
     have g0 : W.grownBy W0 (some ab) := by rw [← hW0]; exact (grown_set W ⟨ab, 0, none⟩ (.bool false)).trans (World.grownBy_alloc _ _ _)
     have x0 : Blk W0 ab 4 #[.bool false] := by rw [← hW0]; exact (HI.out.box.set_ 0 (.bool false)).alloc _
     have xs : Blk W0 W.heap.size 22 #[.slice A f.blocks.length c] := by rw [← hW0]; exact Blk.new_at _ _ _ (by simp)
     clear hW0
     have hgeW := HI.out.ge
     have hwW : w.heap.size < W.heap.size := HI.out.wi.fl.lt
     have b0 : Below w.heap.size w W0 := HI.out.wi.below.grown g0 HI.out.wi.below.size (fun k e => by injection e with e; omega)
     have wi0 : WI f w A c (w.heap.size + 1 + 1) (w.heap.size + 1) bs L W0 := HI.out.wi.keep b0 (fun b hb => g0.block b (HI.out.wi.old b hb) (fun e => by injection e with e; exact HI.out.ne b hb (by omega)))
     have hok0 : ∀ b, okW w (w.heap.size + 1 + 1) (w.heap.size + 1) bs b → b < W0.heap.size := wi0.old
     have hnebs : ∀ b, okW w (w.heap.size + 1 + 1) (w.heap.size + 1) bs b → b ≠ ab := HI.out.ne
     obtain ⟨As, Ls, cs, hRB, hIns⟩ := rowB_of_slr HV.out
     have hRB0 : RowB W0 (fun b => b < w.heap.size ∨ b = W.heap.size) A f.blocks (fun i => .slice (As i) (Ls i) (cs i)) := hRB.imp (fun b hb => .inl hb) (fun b hb => b0.block b hb) |>.imp (fun b hb => hb) (fun b hb => rfl)
     have hseq : SeqStopsK Fence.wide 8 Tryz.prog 159 #[.pointer (some ⟨W.heap.size, 0, none⟩)] (fun k : Fin f.blocks.length => #[.int .i64 (k.1 : Int), .agg #[.slice (As k.1) (Ls k.1) (cs k.1), .int .i64 f.blocks[k.1].term.kind, .int .i64 f.blocks[k.1].term.a, .int .i64 f.blocks[k.1].term.to, .int .i64 f.blocks[k.1].term.els]]) (Keeps fun b => b < w.heap.size ∨ b = W.heap.size) (fun ys => ys = backs f.blocks.length 0) (fun _ => True) f.blocks.length W0 :=
      backB_stops Fence.wide 8 trivial rfl (by omega) W.heap.size _ f.blocks (fun i => .slice (As i) (Ls i) (cs i)) A c (by unfold maxLen; omega) W0 (fun b hb => by rcases hb with hb | hb <;> omega) (.inr rfl) (xs.cell 0) hRB0
     have HHI := Lib.hid hIns
     have HOK := Lib.hid hok0
     have HNE := Lib.hid hnebs
     clear hIns hok0 hnebs hRB hRB0
     refine wpIn_rangeFunc_ownH rfl (by omega) (gf := 159) (lb := #[.pointer (some ⟨W.heap.size, 0, none⟩)]) rfl trivial (enters_of Tryz.func159 (by kernel_rfl) rfl)
      hseq (fun h k => h.trans k) (fun X l o o' hl ho _ _ => fun b hb => World.putObj_heap_other (by rcases hb with hb | hb <;> omega)) (Below.refl _ _) (fun _ => rfl)
      (fun pre X => ∃ L' ag', WOut f w A c bs L ab W0 pre L' ag' X) (fun _ _ _ => False)
      (ownFrom_of_below (fun _ _ h => by obtain ⟨_, _, h⟩ := h; exact h.size) (fun _ _ _ h hb => by obtain ⟨L', ag', h⟩ := h; exact ⟨L', ag', h.low HOK.out (by omega) hb⟩))
      (fun _ _ _ _ _ hs _ _ => hs)
      ⟨L, false, wi0, x0, fun _ _ h => h, HI.out.le, fun _ => ⟨rfl, fun x hx => by simp at hx⟩, fun h => by simp at h, Keeps.refl _ _, Nat.le_refl _⟩
      (fun x a' X => ∃ Bx, W0.heap.size ≤ Bx ∧ Blk X Bx 48 #[.slice (As x.1) (Ls x.1) (cs x.1), .int .i64 f.blocks[x.1].term.kind, .int .i64 f.blocks[x.1].term.a, .int .i64 f.blocks[x.1].term.to, .int .i64 f.blocks[x.1].term.els] ∧ a' = { tmps := #[u0, .pointer (some ⟨w.heap.size, 0, none⟩), u2, .pointer (some ⟨w.heap.size + 1 + 1, 0, none⟩), u4, .pointer (some ⟨ab, 0, none⟩), .int .i64 (x.1 : Int), .pointer (some ⟨Bx, 0, none⟩), u8, u9, u10, u11, u12, u13, u14, u15, u16, u17, u18, u19, u20, u21, u22, u23, u24, .bool true, .pointer (some ⟨w.heap.size, 3, none⟩), .slice A f.blocks.length c, .func (.func 159) #[] #[.pointer (some ⟨W.heap.size, 0, none⟩)], .int .i64 (x.1 : Int), .agg #[.slice (As x.1) (Ls x.1) (cs x.1), .int .i64 f.blocks[x.1].term.kind, .int .i64 f.blocks[x.1].term.a, .int .i64 f.blocks[x.1].term.to, .int .i64 f.blocks[x.1].term.els], u31, u32, u33, u34, u35, u36, u37, u38, u39, u40, u41, u42, u43, u44, u45, u46, u47, u48, u49, u50, u51, u52, u53], defers := [] })
      (fun x a' _ X Y row hs hg hr => by obtain ⟨Bx, h1, h2, h3⟩ := hs; exact ⟨Bx, h1, h2.grown hg (fun e => by obtain ⟨_, o, ho, hc⟩ := hr _ e; unfold Blk at h2; rw [h2] at ho; cases ho; cases hc), h3⟩)
      ?assign ?body ?done ?stop
     case assign =>
      rintro l pre x X K ⟨L', ag', hO⟩ hK
      gi_wp2
      exact hK _ _ ((KeepsOthers.alloc _ _).from _) (fun b hb => Below.heap_alloc _ _ b (by have := hO.size; rcases hb with hb | hb <;> omega)) ⟨L', ag', hO.low HOK.out (by omega) ((below1 _ _).mono hO.size)⟩ ⟨X.heap.size, hO.size, Blk.new_at _ _ _ rfl, rfl⟩
     case body =>
      rintro l pre x a' X hl ⟨r, hr⟩ ⟨L', ag', hO⟩ ⟨Bx, hBx, bX, rfl⟩ hlt
      have j0 : X.cell? ⟨Bx, 0, none⟩ = some (.slice (As x.1) (Ls x.1) (cs x.1)) := bX.cell 0
      have j1 : X.cell? ⟨Bx, 1, none⟩ = some (.int .i64 f.blocks[x.1].term.kind) := bX.cell 1
      have j2 : X.cell? ⟨Bx, 2, none⟩ = some (.int .i64 f.blocks[x.1].term.a) := bX.cell 2
      have j3 : X.cell? ⟨Bx, 3, none⟩ = some (.int .i64 f.blocks[x.1].term.to) := bX.cell 3
      have j4 : X.cell? ⟨Bx, 4, none⟩ = some (.int .i64 f.blocks[x.1].term.els) := bX.cell 4
      have o0 : X.cell? ⟨w.heap.size + 1 + 1, 0, none⟩ = some (.slice (some ⟨w.heap.size + 1, 0, none⟩) f.blocks.length f.blocks.length) := hO.wi.out.cell 0
      have hGB := HG.out f.blocks[x.1] (List.getElem_mem _)
      have HC := Lib.hid (end_any f.blocks[x.1].term (As x.1) (Ls x.1) (cs x.1) (.slice (some ⟨w.heap.size + 1, 0, none⟩) f.blocks.length f.blocks.length) bs L' X (fun k hk => by rw [hO.wi.len]; exact hGB.next k hk) hGB.wants ⟨slr_maps hO.wi.row hO.wi.len (by unfold maxLen; omega) hO.wi.row.lt, hO.wi.sets⟩)
      have HO := Lib.hid hO
      have HGI := Lib.hid hGB.ins
      have hr1 : ∃ r', X.heap[l]? = some (.loop r') := ⟨r, hr⟩
      have HR := Lib.hid hr
      have hXs : W0.heap.size ≤ X.heap.size := hO.size
      have hBl : Bx < X.heap.size := bX.lt
      clear hO hGB hr
      have hf47 : Fence.wide.fn 113 := trivial
      gi_upto_region 14 with (gi_at_call 113; refine (CallsIn.inRound l (callsIn_wide.2 HC.out)).mono ?_; rintro e w1 ⟨sg, rfl, hsg, hms, hb1⟩)
      clear j0 j1 j2 j3 j4 o0
      refine wpIn_world ?_
      intro W2 hW2
      have hs2 : W2.heap.size ≤ w1.heap.size + 1 ∧ w1.heap.size + 1 ≤ W2.heap.size := by rw [← hW2]; simp
      obtain ⟨hs2a, hs2b⟩ := hs2
      have hb2 : Below w1.heap.size w1 W2 := by rw [← hW2]; exact below1 _ _
      have xs2 : Blk W2 w1.heap.size 165 #[.map (some sg)] := by rw [← hW2]; exact Blk.new_at _ _ _ rfl
      clear hW2
      have hs1 := hb1.size
      have hsgl := hms.lt
      have hbX2 : Below X.heap.size X W2 := hb1.trans (hb2.mono hs1)
      have bX2 := bX.below hbX2 hBl
      have k0 : W2.cell? ⟨Bx, 0, none⟩ = some (.slice (As x.1) (Ls x.1) (cs x.1)) := bX2.cell 0
      have hf48 : Fence.wide.fn 114 := trivial
      gi_wp2_with (gi_at_call 114; refine (CallsIn.inRound l (backI_in Fence.wide _ trivial rfl _ _ _ _)).mono ?_; rintro e w' ⟨rfl, rfl⟩)
      clear k0
      refine wpIn_world ?_
      intro W3 hW3
      have hs3 : W3.heap.size ≤ W2.heap.size + 1 ∧ W2.heap.size + 1 ≤ W3.heap.size := by rw [← hW3]; simp
      obtain ⟨hs3a, hs3b⟩ := hs3
      have hb3 : Below W2.heap.size W2 W3 := by rw [← hW3]; exact below1 _ _
      obtain ⟨hLs, hSl⟩ := HHI.out x.1 x.2
      have xs3 : Blk W3 W2.heap.size 42 #[.slice (As x.1) f.blocks[x.1].ins.length (cs x.1)] := by rw [← hW3, hLs]; exact Blk.new_at _ _ _ rfl
      clear hW3
      have hbX3 : Below X.heap.size X W3 := hbX2.trans (hb3.mono hbX2.size)
      have hs2' := hb2.size
      have hs3' := hb3.size
      have hms3 : MSet W3 sg (endS f.blocks[x.1].term L') := (hms.kept (grown_of_below (row := none) hb2) (by simp)).kept (grown_of_below (row := none) hb3) (by simp)
      have xs23 : Blk W3 w1.heap.size 165 #[.map (some sg)] := xs2.below hb3 xs2.lt
      have hbw3 : Below w.heap.size w W3 := HO.out.wi.below.trans (hbX3.mono HO.out.wi.below.size)
      have hwX := HO.out.wi.below.size
      obtain ⟨At, Lt, ct, hRI, hArg⟩ := rowI_of_slr hSl
      have hil := hSl.len_le
      have hRI3 : RowI W3 (fun b => b < w.heap.size ∨ b = W2.heap.size) (As x.1) f.blocks[x.1].ins (fun i => .slice (At i) (Lt i) (ct i)) := hRI.imp (fun b hb => .inl hb) (fun b hb => hbw3.block b hb) |>.imp (fun b hb => hb) (fun b hb => rfl)
      have hseqI : SeqStopsK Fence.wide 6 Tryz.prog 161 #[.pointer (some ⟨W2.heap.size, 0, none⟩)] (fun k : Fin f.blocks[x.1].ins.length => #[.int .i64 (k.1 : Int), .agg #[.int .i64 f.blocks[x.1].ins[k.1].kind, .int .i64 f.blocks[x.1].ins[k.1].d, .int .i64 f.blocks[x.1].ins[k.1].a, .int .i64 f.blocks[x.1].ins[k.1].b, .int .i64 f.blocks[x.1].ins[k.1].op, .int .i64 f.blocks[x.1].ins[k.1].n, .string f.blocks[x.1].ins[k.1].name, .slice (At k.1) (Lt k.1) (ct k.1)]]) (Keeps fun b => b < w.heap.size ∨ b = W2.heap.size) (fun ys => ys = backs f.blocks[x.1].ins.length 0) (fun _ => True) f.blocks[x.1].ins.length W3 :=
       backI_stops Fence.wide 6 trivial rfl (by omega) W2.heap.size _ f.blocks[x.1].ins (fun i => .slice (At i) (Lt i) (ct i)) (As x.1) (cs x.1) hil W3 (fun b hb => by rcases hb with hb | hb <;> omega) (.inr rfl) (xs3.cell 0) hRI3
      have HAR := Lib.hid hArg
      have HLS := Lib.hid hLs
      clear hArg hRI hRI3 hSl hLs
      have hr3 : W3.heap[l]? = some (.loop r) := (hbX3.block l (Array.getElem?_eq_some_iff.1 HR.out).1).trans HR.out
      have HMS := Lib.hid hms3
      clear hms hms3 hr1
      refine wpIn_rangeFunc_ownN (l₀ := l) (r₀ := r) rfl hr3 (by omega) (gf := 161) (lb := #[.pointer (some ⟨W2.heap.size, 0, none⟩)]) rfl trivial (enters_of Tryz.func161 (by kernel_rfl) rfl)
       (hseqI.inRound l) (fun h k => h.trans k) (fun Y l o o' hl ho _ _ => fun b hb => World.putObj_heap_other (by rcases hb with hb | hb <;> omega)) (Below.refl _ _) (fun _ => rfl)
       (fun pre' Y => WIn L' x sg w1.heap.size X W3 pre' Y) (fun _ _ _ => False)
       (ownFrom_of_below (fun _ _ h => h.size) (fun _ _ _ h hb => h.low (by omega) (by omega) (by omega) hb))
       (fun _ _ _ _ _ hs _ _ => hs)
       ⟨HMS.out, xs23, hbX3, Nat.le_refl _, Keeps.refl _ _⟩
       (fun y a' Y => ∃ By, W3.heap.size ≤ By ∧ Blk Y By 44 #[.int .i64 f.blocks[x.1].ins[y.1].kind, .int .i64 f.blocks[x.1].ins[y.1].d, .int .i64 f.blocks[x.1].ins[y.1].a, .int .i64 f.blocks[x.1].ins[y.1].b, .int .i64 f.blocks[x.1].ins[y.1].op, .int .i64 f.blocks[x.1].ins[y.1].n, .string f.blocks[x.1].ins[y.1].name, .slice (At y.1) (Lt y.1) (ct y.1)] ∧ a' = { tmps := #[u0, .pointer (some ⟨w.heap.size, 0, none⟩), u2, .pointer (some ⟨w.heap.size + 1 + 1, 0, none⟩), u4, .pointer (some ⟨ab, 0, none⟩), .int .i64 (x.1 : Int), .pointer (some ⟨Bx, 0, none⟩), .pointer (some ⟨w1.heap.size, 0, none⟩), u9, .pointer (some ⟨By, 0, none⟩), u11, u12, u13, u14, u15, u16, u17, u18, u19, u20, u21, u22, u23, u24, .bool true, .pointer (some ⟨w.heap.size, 3, none⟩), .slice A f.blocks.length c, .func (.func 159) #[] #[.pointer (some ⟨W.heap.size, 0, none⟩)], .int .i64 (x.1 : Int), .agg #[.slice (As x.1) (Ls x.1) (cs x.1), .int .i64 f.blocks[x.1].term.kind, .int .i64 f.blocks[x.1].term.a, .int .i64 f.blocks[x.1].term.to, .int .i64 f.blocks[x.1].term.els], .agg #[.slice (As x.1) (Ls x.1) (cs x.1), .int .i64 f.blocks[x.1].term.kind, .int .i64 f.blocks[x.1].term.a, .int .i64 f.blocks[x.1].term.to, .int .i64 f.blocks[x.1].term.els], .slice (some ⟨w.heap.size + 1, 0, none⟩) f.blocks.length f.blocks.length, .map (some sg), .pointer (some ⟨Bx, 0, none⟩), .slice (As x.1) (Ls x.1) (cs x.1), .func (.func 161) #[] #[.pointer (some ⟨W2.heap.size, 0, none⟩)], .int .i64 (y.1 : Int), .agg #[.int .i64 f.blocks[x.1].ins[y.1].kind, .int .i64 f.blocks[x.1].ins[y.1].d, .int .i64 f.blocks[x.1].ins[y.1].a, .int .i64 f.blocks[x.1].ins[y.1].b, .int .i64 f.blocks[x.1].ins[y.1].op, .int .i64 f.blocks[x.1].ins[y.1].n, .string f.blocks[x.1].ins[y.1].name, .slice (At y.1) (Lt y.1) (ct y.1)], u39, u40, u41, u42, u43, u44, u45, u46, u47, u48, u49, u50, u51, u52, u53], defers := [] })
       (fun y a' _ Y Z row hs hg hr => by obtain ⟨By, h1, h2, h3⟩ := hs; exact ⟨By, h1, h2.grown hg (fun e => by obtain ⟨_, o, ho, hc⟩ := hr _ e; unfold Blk at h2; rw [h2] at ho; cases ho; cases hc), h3⟩)
       ?assign2 ?body2 ?done2 ?stop2
      case assign2 =>
       rintro l2 pre' y Y K hin hK
       gi_wp2
       exact hK _ _ ((KeepsOthers.alloc _ _).from _) (fun b hb => Below.heap_alloc _ _ b (by have := hin.size; rcases hb with hb | hb <;> omega)) (hin.low (by omega) (by omega) (by omega) ((below1 _ _).mono hin.size)) ⟨Y.heap.size, hin.size, Blk.new_at _ _ _ rfl, rfl⟩
      case body2 =>
       rintro l2 pre' y a' Y _ _ hin ⟨By, hBy, bY, rfl⟩ _
       have s0 : Y.cell? ⟨w1.heap.size, 0, none⟩ = some (.map (some sg)) := hin.box.cell 0
       have y0 : Y.cell? ⟨By, 0, none⟩ = some (.int .i64 f.blocks[x.1].ins[y.1].kind) := bY.cell 0
       have y1 : Y.cell? ⟨By, 1, none⟩ = some (.int .i64 f.blocks[x.1].ins[y.1].d) := bY.cell 1
       have y2 : Y.cell? ⟨By, 2, none⟩ = some (.int .i64 f.blocks[x.1].ins[y.1].a) := bY.cell 2
       have y3 : Y.cell? ⟨By, 3, none⟩ = some (.int .i64 f.blocks[x.1].ins[y.1].b) := bY.cell 3
       have y4 : Y.cell? ⟨By, 4, none⟩ = some (.int .i64 f.blocks[x.1].ins[y.1].op) := bY.cell 4
       have y5 : Y.cell? ⟨By, 5, none⟩ = some (.int .i64 f.blocks[x.1].ins[y.1].n) := bY.cell 5
       have y6 : Y.cell? ⟨By, 6, none⟩ = some (.string f.blocks[x.1].ins[y.1].name) := bY.cell 6
       have y7 : Y.cell? ⟨By, 7, none⟩ = some (.slice (At y.1) (Lt y.1) (ct y.1)) := bY.cell 7
       have hwY := hin.below.size
       have HST := Lib.hid (step_any sg _ f.blocks[x.1].ins[y.1] (HGI.out _ (List.getElem_mem _)) (At y.1) (Lt y.1) (ct y.1) Y hin.set ((HAR.out y.1 y.2).2.imp (fun b hb => ⟨by omega, by omega⟩) (fun b hb => (HO.out.wi.below.trans (hin.below.mono HO.out.wi.below.size)).block b hb) (fun _ _ _ h => h)))
       have HIN := Lib.hid hin
       have hf49 : Fence.wide.fn 115 := trivial
       clear hin bY
       gi_wp2_with (gi_at_call 115; refine (CallsIn.inRound l2 (CallsIn.inRound l (callsIn_wide.2 HST.out))).mono ?_; rintro e w5 ⟨rfl, hg5, hm5⟩)
       exact ⟨KeepsFrom.of_grownBy hg5 (fun j e => by injection e with e; omega), fun b hb => hg5.block b (by have := HIN.out.size; rcases hb with hb | hb <;> omega) (fun e => by injection e with e; rcases hb with hb | hb <;> omega),
        by rw [List.foldl_append]; exact hm5, HIN.out.box.grown hg5 (fun e => by injection e with e; omega), HIN.out.below.grown hg5 hwY (fun k e => by injection e with e; omega), Nat.le_trans HIN.out.size hg5.size, HIN.out.old.trans (fun b hb => hg5.block b (by have := HIN.out.size; omega) (fun e => by injection e with e; omega))⟩
      case done2 =>
       rintro ys Y rfl hin
       have hSS := hin.set
       rw [foldl_backs f.blocks[x.1].ins stepS] at hSS
       change MSet Y sg (transS f.blocks[x.1] L') at hSS
       have hxl : x.1 < bs.length := by rw [HO.out.wi.len]; exact x.2
       have wiY := HO.out.wi.below' hin.below
       obtain ⟨bx, hbx⟩ : ∃ bx, bx = bs[x.1] := ⟨_, rfl⟩
       have hbxX : bx < X.heap.size := by rw [hbx]; exact HO.out.wi.lt _ (List.getElem_mem _)
       have o0 : Y.cell? ⟨w.heap.size + 1 + 1, 0, none⟩ = some (.slice (some ⟨w.heap.size + 1, 0, none⟩) f.blocks.length f.blocks.length) := wiY.out.cell 0
       have r0 : Y.cell? ⟨w.heap.size + 1, x.1, none⟩ = some (.map (some bx)) := by rw [wiY.row.cell, hbx]; simp [hxl]
       have s0 : Y.cell? ⟨w1.heap.size, 0, none⟩ = some (.map (some sg)) := hin.box.cell 0
       have bxY : Blk Y ab 4 #[.bool ag'] := HO.out.box.below hin.below HO.out.box.lt
       have hxi : ((x.1 : Nat) : Int) < (f.blocks.length : Int) := by have := x.2; omega
       have hplace : ∀ k ∈ riseL (transS f.blocks[x.1] L'), placeP k = true := fun k hk => (mem_riseL.1 hk).1
       have hbne : bx ≠ ab := by rw [hbx]; exact HNE.out _ (.inr (.inr (.inr (List.getElem_mem _))))
       have hXY := hin.below.size
       have hmb : MSet Y bx (L' x.1) := by rw [hbx]; exact wiY.sets x.1 hxl
       have HIN := Lib.hid hin
       have HWY := Lib.hid wiY
       have HPL := Lib.hid hplace
       have HBX := Lib.hid hbx
       have HBY := Lib.hid bxY
       have HMB := Lib.hid hmb
       have HSS := Lib.hid hSS
       clear hin wiY hplace hbx bxY hmb hSS
       generalize hSx : addS (L' x.1) (riseL (transS f.blocks[x.1] L')) = Sx
       have HSX := Lib.hid hSx
       clear hSx
       gi_wp2
       refine wpIn_mono (reg17 _ (by kernel_rfl) l x.1 (w.heap.size + 1 + 1) (w.heap.size + 1) f.blocks.length bx w1.heap.size sg ab ag' (L' x.1) (transS f.blocks[x.1] L') Sx Y _ _ _ _ _ _ _ _ _ _ _ _ _ _ _ _ _ _ _ _ _ _ _ _ _ _ _ _ _ _ _ _ _ _ _ _ _ _ _ _ _ _ _ _ _ _ _ _ _ _ _ rfl HSS.out HSX.out HMB.out HBY.out hbne o0 r0 s0 x.2) ?_
       rintro e a' Z ⟨rfl, w5, w6, h5, h6, hm6, rfl⟩
       gi_wp2
       exact wout_step HO.out HNE.out (fun b hb => HOK.out b hb) HI.out.wi.old hab hgeW HIN.out.below h5 hxl HBX.out h6 hm6 HBY.out hbne (fun v hv => HSS.out.place hv) HSX.out x.2 hXs rfl hs0b
      case stop2 =>
       rintro c' pre' Y _ h
       exact h.elim
     case done =>
      rintro D ys X hD rfl ⟨L', ag', hO⟩ hK
      have a0 : X.cell? ⟨ab, 0, none⟩ = some (.bool ag') := hO.box.cell 0
      gi_wp2
      have hXs := hO.wi.out.lt
      refine ⟨2 * msr f.blocks.length L' + (if ag' then 1 else 0), ?_, L', ag', X.heap.size, { target := .collected D, args := #[] } :: ds, ?_⟩
      ·cases ag' with
       | false => obtain ⟨rfl, _⟩ := hO.same rfl; simp
       | true =>
        obtain ⟨k, hk1, hk2⟩ := hO.more rfl
        have := msr_lt hO.up hk1 hk2
        simp
        omega
      ·repeat apply Exists.intro
       refine ⟨⟨hO.wi.below' (below1 X _), Blk.new_at X _ _ rfl, hXs, hO.le, fun h => ?_, D, by omega, ?_, rfl, ?_, ?_⟩, rfl, rfl⟩
       ·obtain ⟨rfl, hp⟩ := hO.same h
        exact fun k hk v hv => hp ⟨k, hk⟩ (backs_all _ _) v hv
       ·have := (Array.getElem?_eq_some_iff.1 hK).1; simp; omega
       ·exact (Below.heap_alloc _ _ D (Array.getElem?_eq_some_iff.1 hK).1).trans hK
       ·refine (HI.out.marks.up (by omega)).keep fun k hk => ?_
        have hkl := (Array.getElem?_eq_some_iff.1 hk).1
        have hkab : k ≠ ab := fun e => by have := HI.out.box; unfold Blk at this; rw [← e, hk] at this; cases this
        have hkbs : k ∉ bs := fun hb => HI.out.wi.unmarked k (.inr (.inr (.inr hb))) hk
        have h1 : W0.heap[k]? = W.heap[k]? := g0.block k hkl (fun e => by injection e with e; omega)
        have h2 : X.heap[k]? = W0.heap[k]? := hO.old k ⟨by omega, hkbs, hkab⟩
        have h3 := Below.heap_alloc X (.cells #[.bool ag'] 4) k (by have := hO.size; omega)
        exact h3.trans (h2.trans h1)
     case stop =>
      rintro D c' pre X _ _ h _
      exact h.elim
theorem wanted_any (f : LFlow) (hg : GoodF f) (hf8 : f.blocks.length ≤ 1000) (A : Option Addr) (c : Nat) (w : World) (hv : SlR w (· < w.heap.size) 5 (RBlock w (· < w.heap.size)) (.slice A f.blocks.length c) f.blocks) :
  Calls Tryz.prog 83 #[.agg #[.string f.name, .int .i64 f.params, .int .i64 f.values, .slice A f.blocks.length c]] w fun e w' => ∃ vl bs, e = .returned vl ∧ Below w.heap.size w w' ∧ bs.length = f.blocks.length ∧ (∀ b ∈ bs, w.heap.size ≤ b) ∧ Sets_ w' (fun b => w.heap.size ≤ b ∧ b < w'.heap.size) vl bs (liveS f) :=
 callsIn_wide.1 (wanted_in f hg hf8 A c w hv)
end Go.Proofs.YtkpigkopjfkepaaGreatDoor
