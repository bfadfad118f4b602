/- What check.function tells: what is wrong first with a function, and at which statement. Printed by wip/gen_trfun.py. -/
import Derived.Test.YtmignlclfbaifaaGreatTrWalk
import Derived.Test.YtmignlclfbaifaaGreatTrConcat
import Derived.Test.YtmignlclfbaifaaGreatRegion
import Derived.Stop.RegionWithIn
namespace Go.Proofs.YtmignlclfbaifaaGreat
open Go.RowKit Go.Shelf

theorem results_cc (W : World) (tmps : Array Value) (b1 b2 : Nat) (e n : Int) (h4 : tmps.getD 4 undef = .pointer (some ⟨b1, 0, none⟩)) (h5 : tmps.getD 5 undef = .pointer (some ⟨b2, 0, none⟩)) (c1 : W.cell? ⟨b1, 0, none⟩ = some (.int .i64 e)) (c2 : W.cell? ⟨b2, 0, none⟩ = some (.int .i64 n)) :
    (results Tryz.f30 tmps).run Tryz.prog W = .ok (.tuple #[.int .i64 e, .int .i64 n]) W := by
  have h : Tryz.f30.results = #[.cell 4 32, .cell 5 3] := by kernel_rfl
  have h4' : tmps[4]?.getD undef = .pointer (some ⟨b1, 0, none⟩) := by simpa using h4
  have h5' : tmps[5]?.getD undef = .pointer (some ⟨b2, 0, none⟩) := by simpa using h5
  simp only [results, h]
  simp [Sem.run_bind, Result.andThen, h4', h5', asAddr, loadVar, Tryz.isAgg32, Tryz.isAgg3]
  go_simp
/-- a way out by a panic is none -/
def calm (Q : Exit → Act → World → Prop) : Exit → Act → World → Prop
  | .panic _, _, _ => False
  | e, a, w => Q e a w
theorem wp_calm {P : Program} {c : Code} {Q : Exit → Act → World → Prop} {a : Act} {w : World} (h : c.wp P (calm Q) a w) : c.wp P Q a w :=
  wp_mono h fun e a w hq => by
    cases e <;> first | exact hq | exact hq.elim
theorem calm_normal {Q : Exit → Act → World → Prop} {a : Act} {w : World} (h : Q .normal a w) : calm Q .normal a w := h
theorem fn_cut {W Z : World} {vb cb n c3 : Nat} {A3 : Option Addr} {T TP TC : TypeId} {xs : List Value} {cs : Array Value} (hB : Below W.heap.size W Z) (hrow : Z.ownsRow W.heap.size T 1 (.slice A3 n c3) n xs) (hv : Blk Z vb TP #[.pointer none]) (hc : Blk Z cb TC cs) (hW : W.heap.size ≤ vb) (hne : cb ≠ vb) (hr : ∀ g, (Value.slice A3 n c3).ownBlock = some g → g ≠ vb) :
    Below W.heap.size W (Z.setCell ⟨vb, 0, none⟩ (.pointer (some ⟨cb, 0, none⟩))) ∧ (Z.setCell ⟨vb, 0, none⟩ (.pointer (some ⟨cb, 0, none⟩))).ownsRow W.heap.size T 1 (.slice A3 n c3) n xs ∧ Blk (Z.setCell ⟨vb, 0, none⟩ (.pointer (some ⟨cb, 0, none⟩))) vb TP #[.pointer (some ⟨cb, 0, none⟩)] ∧ Blk (Z.setCell ⟨vb, 0, none⟩ (.pointer (some ⟨cb, 0, none⟩))) cb TC cs :=
  ⟨hB.setCell (p := ⟨vb, 0, none⟩) hW _, hrow.kept (grown_set Z ⟨vb, 0, none⟩ _) (by
    cases e : (Value.slice A3 n c3).ownBlock with
    | none => exact .inl rfl
    | some g => exact .inr (fun e2 => hr g e (by have := Option.some.inj e2; omega))), hv.set_ 0 _, hc.far hne _⟩
theorem _root_.Go.World.ownsRow.inside {w : World} {base : Nat} {e : TypeId} {size : Nat} {v : Value} {n : Nat} {xs : List Value} (h : w.ownsRow base e size v n xs) (g : Nat) (hg : v.ownBlock = some g) : g < w.heap.size := by
  rcases h.2 with ⟨rfl, _⟩ | ⟨g', cap, cur, rfl, _, hb, _⟩
  · cases hg
  · have e' : g' = g := by simpa [Value.ownBlock] using hg
    subst e'
    exact (Array.getElem?_eq_some_iff.1 hb).1
/-! ### while the statements come -/
theorem blk_turn {W W' : World} {b : Nat} {t : TypeId} {cs : Array Value} {row : Option Nat} (h : Blk W b t cs) (hg : W.grownBy W' row) (hr : ∀ r, row = some r → ∃ o : Obj, W.heap[r]? = some o ∧ o.isCells = false) : Blk W' b t cs :=
  h.grown hg fun e => by
    obtain ⟨o, ho, hc⟩ := hr b e
    rw [show W.heap[b]? = _ from h] at ho
    cases ho
    cases hc
theorem row_turn {W W' : World} {base : Nat} {e : TypeId} {size n : Nat} {v : Value} {xs : List Value} {row : Option Nat} (h : W.ownsRow base e size v n xs) (hg : W.grownBy W' row) (hr : ∀ r, row = some r → ∃ o : Obj, W.heap[r]? = some o ∧ o.isCells = false) : W'.ownsRow base e size v n xs := by
  refine h.kept hg ?_
  rcases h.2 with ⟨rfl, _⟩ | ⟨g, cap, cur, rfl, _, hb, _⟩
  · exact .inl rfl
  · refine .inr fun e2 => ?_
    obtain ⟨o, ho, hc⟩ := hr g (by simpa [Value.ownBlock] using e2.symm)
    rw [hb] at ho
    cases ho
    cases hc
/-- the blocks of check.function: the results', the checker's, the number of statements that came -/
structure FnDis (m vb kb eb ib nb : Nat) (v3 : Value) : Prop where
  ei : eb + 1 = ib
  im : ib + 1 = m
  v : m ≤ vb ∧ vb < nb
  k : m ≤ kb ∧ kb < nb
  ne : vb ≠ kb
  r : ∀ g, v3.ownBlock = some g → m ≤ g ∧ g < nb
structure FnAt (w : World) (p : LProg) (vs : List ByteArray) (A1 A2 A3 : Option Addr) (c1 c2 c3 vb kb eb ib nb : Nat) (e n k : Int) (W : World) : Prop where
  below : Below w.heap.size w W
  row : W.ownsRow w.heap.size 9 1 (.slice A3 vs.length c3) vs.length (vs.map encT)
  vblk : Blk W vb 87 #[.pointer (some ⟨kb, 0, none⟩)]
  kblk : Blk W kb 90 #[.slice A1 p.arrays.length c1, .slice A2 p.funcs.length c2, .slice A3 vs.length c3]
  eblk : Blk W eb 32 #[.int .i64 e]
  iblk : Blk W ib 3 #[.int .i64 n]
  nblk : Blk W nb 3 #[.int .i64 k]
section
variable {w W W' : World} {p : LProg} {vs : List ByteArray} {A1 A2 A3 : Option Addr} {c1 c2 c3 vb kb eb ib nb : Nat} {e n k : Int}
theorem FnAt.turn {row : Option Nat} (h : FnAt w p vs A1 A2 A3 c1 c2 c3 vb kb eb ib nb e n k W) (hg : W.grownBy W' row) (hr : ∀ r, row = some r → w.heap.size ≤ r ∧ ∃ o : Obj, W.heap[r]? = some o ∧ o.isCells = false) : FnAt w p vs A1 A2 A3 c1 c2 c3 vb kb eb ib nb e n k W' :=
  have hr2 := fun r e => (hr r e).2
  ⟨h.below.grown hg h.below.size (fun j e => (hr j e).1), row_turn h.row hg hr2, blk_turn h.vblk hg hr2, blk_turn h.kblk hg hr2, blk_turn h.eblk hg hr2, blk_turn h.iblk hg hr2, blk_turn h.nblk hg hr2⟩
theorem FnAt.later (h : FnAt w p vs A1 A2 A3 c1 c2 c3 vb kb eb ib nb e n k W) (hb : Below W.heap.size W W') : FnAt w p vs A1 A2 A3 c1 c2 c3 vb kb eb ib nb e n k W' :=
  h.turn (row := none) (grown_below' hb) (fun r e => by cases e)
theorem FnAt.set {c : Nat} {u : Value} (h : FnAt w p vs A1 A2 A3 c1 c2 c3 vb kb eb ib nb e n k W) (hc : w.heap.size ≤ c) (hr : ∀ g, (Value.slice A3 vs.length c3).ownBlock = some g → g ≠ c) : Below w.heap.size w (W.setCell ⟨c, 0, none⟩ u) ∧ (W.setCell ⟨c, 0, none⟩ u).ownsRow w.heap.size 9 1 (.slice A3 vs.length c3) vs.length (vs.map encT) :=
  ⟨h.below.setCell (p := ⟨c, 0, none⟩) hc _, h.row.kept (grown_set W ⟨c, 0, none⟩ _) (by
    cases e : (Value.slice A3 vs.length c3).ownBlock with
    | none => exact .inl rfl
    | some g => exact .inr (fun e2 => hr g e (by have := Option.some.inj e2; omega)))⟩
theorem FnAt.setN (h : FnAt w p vs A1 A2 A3 c1 c2 c3 vb kb eb ib nb e n k W) (hd : FnDis (w.heap.size + 4) vb kb eb ib nb (.slice A3 vs.length c3)) (u : Int) : FnAt w p vs A1 A2 A3 c1 c2 c3 vb kb eb ib nb e n u (W.setCell ⟨nb, 0, none⟩ (.int .i64 u)) := by
  have h1 := hd.ei; have h2 := hd.im; have h3 := hd.v; have h4 := hd.k
  obtain ⟨q1, q2⟩ := h.set (c := nb) (u := .int .i64 u) (by omega) (fun g e => by have := hd.r g e; omega)
  exact ⟨q1, q2, h.vblk.far (by show vb ≠ nb; omega) _, h.kblk.far (by show kb ≠ nb; omega) _, h.eblk.far (by show eb ≠ nb; omega) _, h.iblk.far (by show ib ≠ nb; omega) _, h.nblk.set_ 0 _⟩
theorem FnAt.setE (h : FnAt w p vs A1 A2 A3 c1 c2 c3 vb kb eb ib nb e n k W) (hd : FnDis (w.heap.size + 4) vb kb eb ib nb (.slice A3 vs.length c3)) (u : Int) : FnAt w p vs A1 A2 A3 c1 c2 c3 vb kb eb ib nb u n k (W.setCell ⟨eb, 0, none⟩ (.int .i64 u)) := by
  have h1 := hd.ei; have h2 := hd.im; have h3 := hd.v; have h4 := hd.k
  obtain ⟨q1, q2⟩ := h.set (c := eb) (u := .int .i64 u) (by omega) (fun g e => by have := hd.r g e; omega)
  exact ⟨q1, q2, h.vblk.far (by show vb ≠ eb; omega) _, h.kblk.far (by show kb ≠ eb; omega) _, h.eblk.set_ 0 _, h.iblk.far (by show ib ≠ eb; omega) _, h.nblk.far (by show nb ≠ eb; omega) _⟩
theorem FnAt.setI (h : FnAt w p vs A1 A2 A3 c1 c2 c3 vb kb eb ib nb e n k W) (hd : FnDis (w.heap.size + 4) vb kb eb ib nb (.slice A3 vs.length c3)) (u : Int) : FnAt w p vs A1 A2 A3 c1 c2 c3 vb kb eb ib nb e u k (W.setCell ⟨ib, 0, none⟩ (.int .i64 u)) := by
  have h1 := hd.ei; have h2 := hd.im; have h3 := hd.v; have h4 := hd.k
  obtain ⟨q1, q2⟩ := h.set (c := ib) (u := .int .i64 u) (by omega) (fun g e => by have := hd.r g e; omega)
  exact ⟨q1, q2, h.vblk.far (by show vb ≠ ib; omega) _, h.kblk.far (by show kb ≠ ib; omega) _, h.eblk.far (by show eb ≠ ib; omega) _, h.iblk.set_ 0 _, h.nblk.far (by show nb ≠ ib; omega) _⟩
theorem FnAt.ck {D : Nat} (h : FnAt w p vs A1 A2 A3 c1 c2 c3 vb kb eb ib nb e n k W) (ha : SlR w (· < w.heap.size) 2 RArr (.slice A1 p.arrays.length c1) p.arrays) (hf : SlR w (· < w.heap.size) 4 (RFunc D w (· < w.heap.size)) (.slice A2 p.funcs.length c2) p.funcs) : CkAt D W kb p vs A1 A2 A3 c1 c2 c3 :=
  have up : ∀ b, b < w.heap.size → b < W.heap.size := fun _ hb => Nat.lt_of_lt_of_le hb h.below.size
  have kp : Keeps (· < w.heap.size) w W := fun b hb => h.below.block b hb
  ⟨h.kblk, ha.imp up kp fun _ _ _ r => r, hf.imp up kp fun _ _ _ r => r.imp up kp, strs_of_own h.row fun g hg => h.row.inside g hg⟩
end
theorem kpB_turn {n₀ B : Nat} (hn : n₀ ≤ B) (W : World) (l : Nat) (o o' : Obj) (hl : B ≤ l) (h : W.heap[l]? = some o) (hc : o.isCells = false) : KpB n₀ B W (W.putObj l o') :=
  ⟨(Below.refl n₀ W).grown (grownBy_putObj' W l o') (by have := (Array.getElem?_eq_some_iff.1 h).1; omega) (fun k e => by cases e; omega), fun b t cs _ hk => blk_turn hk (grownBy_putObj' W l o') (fun r e => by cases e; exact ⟨o, h, hc⟩)⟩
theorem KpB.set {n₀ B c : Nat} (A : World) (u : Value) (h1 : n₀ ≤ c) (h2 : c < B) : KpB n₀ B A (A.setCell ⟨c, 0, none⟩ u) :=
  ⟨(Below.refl _ _).setCell (p := ⟨c, 0, none⟩) h1 _, fun b t cs hb hk => hk.far (by show b ≠ c; omega) _⟩
theorem first_hit {α β : Type} {g : β → Int} {pr : α → β} {pre : List α} {x : α} {l : List β} (h0 : ∀ y ∈ pre, g (pr y) = 0) (hx : g (pr x) ≠ 0) (hp : (pre ++ [x]).map pr <+: l) : firstAt g 0 l = (g (pr x), (pre.length : Int)) := by
  obtain ⟨r, rfl⟩ := hp
  rw [List.map_append, List.append_assoc, firstAt_pre 0 (by
    intro y hy
    obtain ⟨z, hz, rfl⟩ := List.mem_map.1 hy
    exact h0 z hz)]
  show firstAt g (0 + (pre.map pr).length) (pr x :: r) = _
  rw [firstAt_hit _ hx, List.length_map]
  simp
/-- check.function's closure: is a name one of the globals -/
theorem fn1_pred (l gl : List ByteArray) (A : Option Addr) (c nb : Nat) (w : World) (hn : w.cell? ⟨nb, 0, none⟩ = some (.slice A gl.length c)) (hlt : nb < w.heap.size) (hs : SlR w (· < w.heap.size) 1 RStr (.slice A gl.length c) gl) : Pred_str 51 #[.pointer (some ⟨nb, 0, none⟩)] (fun s => hasS gl s) l w := by
  intro W cs x hx hr hb
  obtain rfl : cs = [.string x] := hr
  have hc : W.cell? ⟨nb, 0, none⟩ = some (.slice A gl.length c) := (hb.cell (p := ⟨nb, 0, none⟩) hlt).trans hn
  have HB := Lib.hid hb
  have HC := Lib.hid (contains_text gl x _ W (hs.imp (fun b h => Nat.lt_of_lt_of_le h hb.size) (fun b h => hb.block b h) fun _ _ _ r => r))
  clear hb hn hs
  show Calls Tryz.prog 51 #[.string x, .pointer (some ⟨nb, 0, none⟩)] W _
  go_enter Tryz.func51, Tryz.ntmps51
  go_wp2_with (go_at_call 52; refine HC.out.mono ?_; rintro e w' ⟨rfl, hb2⟩)
  go_ret
  exact ⟨rfl, HB.out.trans (hb2.mono HB.out.size)⟩
section
attribute [local go_sem] Oper.semAt_some
set_option maxRecDepth 100000
set_option maxHeartbeats 8000000
theorem function_any (d : Nat) (p : LProg) (f : LFunc) (A1 A2 Ap Al Ab : Option Addr) (c1 c2 cp cl cb : Nat) (w : World)
    (ha : SlR w (· < w.heap.size) 2 RArr (.slice A1 p.arrays.length c1) p.arrays) (hf : SlR w (· < w.heap.size) 4 (RFunc (d + 1) w (· < w.heap.size)) (.slice A2 p.funcs.length c2) p.funcs)
    (hp : SlR w (· < w.heap.size) 1 RStr (.slice Ap f.params.length cp) f.params) (hl : SlR w (· < w.heap.size) 1 RStr (.slice Al f.locals.length cl) f.locals) (hb : SlR w (· < w.heap.size) 5 (RStmt (d + 1) w (· < w.heap.size)) (.slice Ab f.body.length cb) f.body)
    (b1 : p.arrays.length ≤ 400) (b2 : p.funcs.length ≤ 400) (b3 : f.params.length ≤ 400) (b4 : f.locals.length ≤ 400) (hN : (allL (d + 1) f.body false).length ≤ 4611686018427387904) :
    Calls Tryz.prog 30 #[.agg #[.slice A1 p.arrays.length c1, .slice A2 p.funcs.length c2], .agg #[.string f.name, .slice Ap f.params.length cp, .slice Al f.locals.length cl, .slice Ab f.body.length cb]] w fun r w' => r = .returned (.tuple #[.int .i64 (functionE (d + 1) p f).1, .int .i64 (functionE (d + 1) p f).2]) ∧ Below w.heap.size w w' := by
  have HA := Lib.hid ha
  have HF := Lib.hid hf
  have HP := Lib.hid hp
  have HL := Lib.hid hl
  have HBD := Lib.hid hb
  have HB1 := Lib.hid b1
  have HB2 := Lib.hid b2
  have HB3 := Lib.hid b3
  have HB4 := Lib.hid b4
  have HNN := Lib.hid hN
  clear ha hf hp hl hb b1 b2 b3 b4 hN
  refine (callsIn_wide (n := 9)).1 ?_
  refine callsIn_of_wp_marks Tryz.func30 rfl trivial ?_ rfl
  simp only [Tryz.ntmps30, List.size_toArray, List.length_cons, List.length_nil, Nat.reduceAdd, Nat.reduceSub, Array.replicate_succ, Array.replicate_zero, List.push_toArray, List.append_toArray, List.nil_append, List.cons_append]
  refine wpIn_wide.2 ?_
  go_upto_region 1 with fail
  refine wp_world ?_
  intro W hW
  have hP : Blk W w.heap.size 27 #[.slice A1 p.arrays.length c1, .slice A2 p.funcs.length c2] := by rw [← hW]; exact (((Blk.new _ _ _).alloc _).alloc _).alloc _
  have hF : Blk W (w.heap.size + 1) 49 #[.string f.name, .slice Ap f.params.length cp, .slice Al f.locals.length cl, .slice Ab f.body.length cb] := by rw [← hW]; exact ((Blk.new_at _ _ _ (by simp)).alloc _).alloc _
  have hE : Blk W (w.heap.size + 2) 32 #[.int .i64 0] := by rw [← hW]; exact (Blk.new_at _ _ _ (by simp)).alloc _
  have hI : Blk W (w.heap.size + 3) 3 #[.int .i64 0] := by rw [← hW]; exact Blk.new_at _ _ _ (by simp)
  have hB : Below w.heap.size w W := by rw [← hW]; exact below4 _ _ _ _ _
  have hs : W.heap.size = w.heap.size + 4 := by rw [← hW]; simp
  have HSW : Hid (W.heap.size = w.heap.size + 4) := Lib.hid hs
  have hlt0 : w.heap.size + 3 < W.heap.size := by omega
  obtain ⟨vs, hvs⟩ : ∃ vs, vs = f.params ++ f.locals := ⟨_, rfl⟩
  have HVS := Lib.hid hvs
  have HCC : Hid (∀ (X : World) (gb : Nat) (t : TypeId), Below W.heap.size W X → Blk X gb t #[.slice Ap f.params.length cp, .slice Al f.locals.length cl] → Calls Tryz.prog 49 #[.slice (some ⟨gb, 0, none⟩) 2 2] X fun e w' => ∃ v, e = .returned v ∧ w'.ownsRow X.heap.size 9 1 v vs.length (vs.map encT) ∧ Below X.heap.size X w') := Lib.hid (fun X gb t hx hk => by
    have hw : Below w.heap.size w X := hB.trans (hx.mono hB.size)
    rw [hvs]
    exact concat_any f.params f.locals Ap Al cp cl gb t X hk (HP.out.imp (fun b h => Nat.lt_of_lt_of_le h hw.size) (fun b h => hw.block b h) fun _ _ _ r => r) (HL.out.imp (fun b h => Nat.lt_of_lt_of_le h hw.size) (fun b h => hw.block b h) fun _ _ _ r => r) HB3.out HB4.out)
  have SO : Hid (∀ X, Below W.heap.size W X → (fun w2 => w2.cell? ⟨w.heap.size, 0, none⟩ = some (.slice A1 p.arrays.length c1) ∧ w2.cell? ⟨w.heap.size, 1, none⟩ = some (.slice A2 p.funcs.length c2) ∧ w2.cell? ⟨w.heap.size + 1, 1, none⟩ = some (.slice Ap f.params.length cp) ∧ w2.cell? ⟨w.heap.size + 1, 2, none⟩ = some (.slice Al f.locals.length cl)) X) := Lib.hid (fun X hx => ⟨(hP.below hx hP.lt).cell 0, (hP.below hx hP.lt).cell 1, (hF.below hx hF.lt).cell 1, (hF.below hx hF.lt).cell 2⟩)
  have HZ0 : Hid (Below W.heap.size W W.drew) := Lib.hid (Below.refl _ _).drew
  have HPB := Lib.hid hP
  have HFB := Lib.hid hF
  have HEB := Lib.hid hE
  have HIB := Lib.hid hI
  have HBW := Lib.hid hB
  clear hW hP hF hE hI hB hs hvs
  go_cut [6] from 12 to 50 (fun s6 wx => ∃ (vb kb : Nat) (A3 : Option Addr) (c3 : Nat), s6 = .pointer (some ⟨vb, 0, none⟩) ∧ (W.heap.size ≤ vb ∧ W.heap.size ≤ kb ∧ kb ≠ vb) ∧ Below W.heap.size W wx ∧ wx.ownsRow W.heap.size 9 1 (.slice A3 vs.length c3) vs.length (vs.map encT) ∧ Blk wx vb 87 #[.pointer (some ⟨kb, 0, none⟩)] ∧ Blk wx kb 90 #[.slice A1 p.arrays.length c1, .slice A2 p.funcs.length c2, .slice A3 vs.length c3])
  case first =>
    refine wp_calm ?_
    refine wp_region_L (by kernel_rfl) 10 (fun w2 => w2.cell? ⟨w.heap.size, 0, none⟩ = some (.slice A1 p.arrays.length c1) ∧ w2.cell? ⟨w.heap.size, 1, none⟩ = some (.slice A2 p.funcs.length c2) ∧ w2.cell? ⟨w.heap.size + 1, 1, none⟩ = some (.slice Ap f.params.length cp) ∧ w2.cell? ⟨w.heap.size + 1, 2, none⟩ = some (.slice Al f.locals.length cl)) (SO.out _ HZ0.out) (fun hHeld => ?_)
    have HS0 := Lib.hid hHeld
    clear hHeld
    change wpAnyL _ _ _ _ _ 10 11 (Array.replicate 11 false) _ _
    obtain ⟨X0, hX0⟩ : ∃ X0, W.drew = X0 := ⟨_, rfl⟩
    rw [hX0] at HZ0 HS0 ⊢
    clear hX0
    refine tS 0 12 (.agg #[.slice A1 p.arrays.length c1, .slice A2 p.funcs.length c2]) [10] HS0.out rfl rfl ?_ ?_
    · intro w2 hSw; obtain ⟨g0, g1, g2, g3⟩ := hSw; go_simp
    try simp only [sA, sB, sC]
    refine tj 1 13 (.pointer (some ⟨w.heap.size + 1, 1, none⟩)) HS0.out rfl rfl ?_
    try simp only [sA, sB, sC]
    refine tS 2 14 (.slice Ap f.params.length cp) [10] HS0.out rfl rfl ?_ ?_
    · intro w2 hSw; obtain ⟨g0, g1, g2, g3⟩ := hSw; go_simp
    try simp only [sA, sB, sC]
    refine tj 3 15 (.pointer (some ⟨w.heap.size + 1, 2, none⟩)) HS0.out rfl rfl ?_
    try simp only [sA, sB, sC]
    refine tS 4 16 (.slice Al f.locals.length cl) [10] HS0.out rfl rfl ?_ ?_
    · intro w2 hSw; obtain ⟨g0, g1, g2, g3⟩ := hSw; go_simp
    try simp only [sA, sB, sC]
    refine wpAnyL_ready (rs := [5, 9]) (by kernel_rfl) (by simp) ?_
    refine AllReadyL.cons rfl (fun K hK => ?_) (AllReadyL.cons rfl (fun K hK => ?_) AllReadyL.nil)
    · go_simp
      refine hK.out _ _ (SO.out _ (HZ0.out.alloc HZ0.out.size _)) (fun hHeld => ?_)
      have HS1 := Lib.hid hHeld
      clear hK K hHeld
      try simp only [sA, sB, sC]
      have hzz : Below W.heap.size W (X0.alloc (.cells #[.slice Ap f.params.length cp, .slice Al f.locals.length cl] 47)) := HZ0.out.alloc HZ0.out.size _
      have hbb : Blk (X0.alloc (.cells #[.slice Ap f.params.length cp, .slice Al f.locals.length cl] 47)) X0.heap.size 47 #[.slice Ap f.params.length cp, .slice Al f.locals.length cl] := Blk.new _ _ _
      have hbl : Below X0.heap.size X0 (X0.alloc (.cells #[.slice Ap f.params.length cp, .slice Al f.locals.length cl] 47)) := below1 _ _
      generalize X0.alloc (.cells #[.slice Ap f.params.length cp, .slice Al f.locals.length cl] 47) = X1 at *
      have HZ1 := Lib.hid hzz
      have HSB := Lib.hid hbb
      have HB0 := Lib.hid hbl
      clear hzz hbb hbl
      refine wpAnyL_ready (rs := [6, 9]) (by kernel_rfl) (by simp) ?_
      refine AllReadyL.cons rfl (fun K hK => ?_) (AllReadyL.cons rfl (fun K hK => ?_) AllReadyL.nil)
      · go_simp
        have qs1 := HSB.out
        refine (HCC.out X1 _ _ HZ1.out qs1).mono ?_
        rintro e X2 ⟨v3, rfl, hrow, hx⟩
        obtain ⟨A3, c3, hv3⟩ := own_form hrow
        subst hv3
        have HZ2 := Lib.hid (HZ1.out.trans (hx.mono HZ1.out.size))
        have HB1 := Lib.hid hx
        have HROW := Lib.hid hrow
        clear hrow hx qs1
        refine hK.out _ _ (SO.out _ HZ2.out) (fun hHeld => ?_)
        have HS2 := Lib.hid hHeld
        clear hK K hHeld
        try simp only [sA, sB, sC]
        refine tj 7 19 (.agg #[.slice A1 p.arrays.length c1, .slice A2 p.funcs.length c2, .slice A3 vs.length c3]) HS2.out rfl rfl ?_
        try simp only [sA, sB, sC]
        refine wpAnyL_ready (rs := [8, 9]) (by kernel_rfl) (by simp) ?_
        refine AllReadyL.cons rfl (fun K hK => ?_) (AllReadyL.cons rfl (fun K hK => ?_) AllReadyL.nil)
        · go_simp
          refine hK.out _ _ (SO.out _ (HZ2.out.alloc HZ2.out.size _)) (fun hHeld => ?_)
          have HS3 := Lib.hid hHeld
          clear hK K hHeld
          try simp only [sA, sB, sC]
          have hzz : Below W.heap.size W (X2.alloc (.cells #[.slice A1 p.arrays.length c1, .slice A2 p.funcs.length c2, .slice A3 vs.length c3] 90)) := HZ2.out.alloc HZ2.out.size _
          have hbb : Blk (X2.alloc (.cells #[.slice A1 p.arrays.length c1, .slice A2 p.funcs.length c2, .slice A3 vs.length c3] 90)) X2.heap.size 90 #[.slice A1 p.arrays.length c1, .slice A2 p.funcs.length c2, .slice A3 vs.length c3] := Blk.new _ _ _
          have hbl : Below X2.heap.size X2 (X2.alloc (.cells #[.slice A1 p.arrays.length c1, .slice A2 p.funcs.length c2, .slice A3 vs.length c3] 90)) := below1 _ _
          generalize X2.alloc (.cells #[.slice A1 p.arrays.length c1, .slice A2 p.funcs.length c2, .slice A3 vs.length c3] 90) = X3 at *
          have HZ3 := Lib.hid hzz
          have HCB := Lib.hid hbb
          have HB2 := Lib.hid hbl
          clear hzz hbb hbl
          refine wpAnyL_ready (rs := [9]) (by kernel_rfl) (by simp) ?_
          refine AllReadyL.cons rfl (fun K hK => ?_) AllReadyL.nil
          go_simp
          refine hK.out _ _ (SO.out _ (HZ3.out.alloc HZ3.out.size _)) (fun hHeld => ?_)
          have HS4 := Lib.hid hHeld
          clear hK K hHeld
          try simp only [sA, sB, sC]
          have hzz : Below W.heap.size W (X3.alloc (.cells #[.pointer none] 87)) := HZ3.out.alloc HZ3.out.size _
          have hbb : Blk (X3.alloc (.cells #[.pointer none] 87)) X3.heap.size 87 #[.pointer none] := Blk.new _ _ _
          have hbl : Below X3.heap.size X3 (X3.alloc (.cells #[.pointer none] 87)) := below1 _ _
          generalize X3.alloc (.cells #[.pointer none] 87) = X4 at *
          have HZ4 := Lib.hid hzz
          have HVB := Lib.hid hbb
          have HB3 := Lib.hid hbl
          clear hzz hbb hbl
          have qv4 := HVB.out
          have qc3 := HCB.out
          have qc4 := qc3.below HB3.out qc3.lt
          have r2 := HROW.out
          have r3 := r2.kept (grown_below' (row := none) HB2.out) (Classical.em _)
          have r4 := r3.kept (grown_below' (row := none) HB3.out) (Classical.em _)
          have z0 := HB0.out.size
          have z1 := HB1.out.size
          have z2 := HB2.out.size
          have z3 := HB3.out.size
          have zv := HVB.out.lt
          have zc := HCB.out.lt
          have zz := HZ1.out.size
          have za := HZ3.out.size
          have zb := HZ2.out.size
          have v0 : X4.cell? ⟨X3.heap.size, 0, none⟩ = some (.pointer none) := qv4.cell 0
          have vf := qv4.frozen 0
          have hfin := And.intro (And.intro za (And.intro zb (show X2.heap.size ≠ X3.heap.size by omega))) (fn_cut HZ4.out (own_low r4 zz) qv4 qc4 za (by omega) (fun g e => by have h1 := HROW.out.lt g e; have h2 := HROW.out.inside g e; omega))
          have HFIN := Lib.hid hfin
          clear hfin zv zc zz za zb z0 z1 z2 z3 r2 r3 r4 qv4 qc3 qc4
          refine wpAnyL_ready (rs := [10]) (by kernel_rfl) (by simp) ?_
          refine AllReadyL.last rfl (by kernel_rfl) (fun K hK => ?_)
          go_simp
          refine hK.out _ _ ?_
          clear hK K
          try simp only [sA, sB, sC]
          refine wpAnyL_done (by kernel_rfl) ?_ _
          refine calm_normal ?_
          go_wp2
          go_meet
          case rel =>
            exact ⟨_, _, A3, c3, rfl, HFIN.out⟩
        · go_simp
          refine hK.out _ _ (SO.out _ (HZ2.out.alloc HZ2.out.size _)) (fun hHeld => ?_)
          have HS3 := Lib.hid hHeld
          clear hK K hHeld
          try simp only [sA, sB, sC]
          have hzz : Below W.heap.size W (X2.alloc (.cells #[.pointer none] 87)) := HZ2.out.alloc HZ2.out.size _
          have hbb : Blk (X2.alloc (.cells #[.pointer none] 87)) X2.heap.size 87 #[.pointer none] := Blk.new _ _ _
          have hbl : Below X2.heap.size X2 (X2.alloc (.cells #[.pointer none] 87)) := below1 _ _
          generalize X2.alloc (.cells #[.pointer none] 87) = X3 at *
          have HZ3 := Lib.hid hzz
          have HVB := Lib.hid hbb
          have HB2 := Lib.hid hbl
          clear hzz hbb hbl
          refine wpAnyL_ready (rs := [8]) (by kernel_rfl) (by simp) ?_
          refine AllReadyL.cons rfl (fun K hK => ?_) AllReadyL.nil
          go_simp
          refine hK.out _ _ (SO.out _ (HZ3.out.alloc HZ3.out.size _)) (fun hHeld => ?_)
          have HS4 := Lib.hid hHeld
          clear hK K hHeld
          try simp only [sA, sB, sC]
          have hzz : Below W.heap.size W (X3.alloc (.cells #[.slice A1 p.arrays.length c1, .slice A2 p.funcs.length c2, .slice A3 vs.length c3] 90)) := HZ3.out.alloc HZ3.out.size _
          have hbb : Blk (X3.alloc (.cells #[.slice A1 p.arrays.length c1, .slice A2 p.funcs.length c2, .slice A3 vs.length c3] 90)) X3.heap.size 90 #[.slice A1 p.arrays.length c1, .slice A2 p.funcs.length c2, .slice A3 vs.length c3] := Blk.new _ _ _
          have hbl : Below X3.heap.size X3 (X3.alloc (.cells #[.slice A1 p.arrays.length c1, .slice A2 p.funcs.length c2, .slice A3 vs.length c3] 90)) := below1 _ _
          generalize X3.alloc (.cells #[.slice A1 p.arrays.length c1, .slice A2 p.funcs.length c2, .slice A3 vs.length c3] 90) = X4 at *
          have HZ4 := Lib.hid hzz
          have HCB := Lib.hid hbb
          have HB3 := Lib.hid hbl
          clear hzz hbb hbl
          have qv3 := HVB.out
          have qv4 := qv3.below HB3.out qv3.lt
          have qc4 := HCB.out
          have r2 := HROW.out
          have r3 := r2.kept (grown_below' (row := none) HB2.out) (Classical.em _)
          have r4 := r3.kept (grown_below' (row := none) HB3.out) (Classical.em _)
          have z0 := HB0.out.size
          have z1 := HB1.out.size
          have z2 := HB2.out.size
          have z3 := HB3.out.size
          have zv := HVB.out.lt
          have zc := HCB.out.lt
          have zz := HZ1.out.size
          have za := HZ2.out.size
          have zb := HZ3.out.size
          have v0 : X4.cell? ⟨X2.heap.size, 0, none⟩ = some (.pointer none) := qv4.cell 0
          have vf := qv4.frozen 0
          have hfin := And.intro (And.intro za (And.intro zb (show X3.heap.size ≠ X2.heap.size by omega))) (fn_cut HZ4.out (own_low r4 zz) qv4 qc4 za (by omega) (fun g e => by have h1 := HROW.out.lt g e; have h2 := HROW.out.inside g e; omega))
          have HFIN := Lib.hid hfin
          clear hfin zv zc zz za zb z0 z1 z2 z3 r2 r3 r4 qv3 qv4 qc4
          refine wpAnyL_ready (rs := [10]) (by kernel_rfl) (by simp) ?_
          refine AllReadyL.last rfl (by kernel_rfl) (fun K hK => ?_)
          go_simp
          refine hK.out _ _ ?_
          clear hK K
          try simp only [sA, sB, sC]
          refine wpAnyL_done (by kernel_rfl) ?_ _
          refine calm_normal ?_
          go_wp2
          go_meet
          case rel =>
            exact ⟨_, _, A3, c3, rfl, HFIN.out⟩
      · go_simp
        refine hK.out _ _ (SO.out _ (HZ1.out.alloc HZ1.out.size _)) (fun hHeld => ?_)
        have HS2 := Lib.hid hHeld
        clear hK K hHeld
        try simp only [sA, sB, sC]
        have hzz : Below W.heap.size W (X1.alloc (.cells #[.pointer none] 87)) := HZ1.out.alloc HZ1.out.size _
        have hbb : Blk (X1.alloc (.cells #[.pointer none] 87)) X1.heap.size 87 #[.pointer none] := Blk.new _ _ _
        have hbl : Below X1.heap.size X1 (X1.alloc (.cells #[.pointer none] 87)) := below1 _ _
        generalize X1.alloc (.cells #[.pointer none] 87) = X2 at *
        have HZ2 := Lib.hid hzz
        have HVB := Lib.hid hbb
        have HB1 := Lib.hid hbl
        clear hzz hbb hbl
        refine wpAnyL_ready (rs := [6]) (by kernel_rfl) (by simp) ?_
        refine AllReadyL.cons rfl (fun K hK => ?_) AllReadyL.nil
        go_simp
        have qs1 := HSB.out
        have qs2 := qs1.below HB1.out qs1.lt
        refine (HCC.out X2 _ _ HZ2.out qs2).mono ?_
        rintro e X3 ⟨v3, rfl, hrow, hx⟩
        obtain ⟨A3, c3, hv3⟩ := own_form hrow
        subst hv3
        have HZ3 := Lib.hid (HZ2.out.trans (hx.mono HZ2.out.size))
        have HB2 := Lib.hid hx
        have HROW := Lib.hid hrow
        clear hrow hx qs1 qs2
        refine hK.out _ _ (SO.out _ HZ3.out) (fun hHeld => ?_)
        have HS3 := Lib.hid hHeld
        clear hK K hHeld
        try simp only [sA, sB, sC]
        refine tj 7 19 (.agg #[.slice A1 p.arrays.length c1, .slice A2 p.funcs.length c2, .slice A3 vs.length c3]) HS3.out rfl rfl ?_
        try simp only [sA, sB, sC]
        refine wpAnyL_ready (rs := [8]) (by kernel_rfl) (by simp) ?_
        refine AllReadyL.cons rfl (fun K hK => ?_) AllReadyL.nil
        go_simp
        refine hK.out _ _ (SO.out _ (HZ3.out.alloc HZ3.out.size _)) (fun hHeld => ?_)
        have HS4 := Lib.hid hHeld
        clear hK K hHeld
        try simp only [sA, sB, sC]
        have hzz : Below W.heap.size W (X3.alloc (.cells #[.slice A1 p.arrays.length c1, .slice A2 p.funcs.length c2, .slice A3 vs.length c3] 90)) := HZ3.out.alloc HZ3.out.size _
        have hbb : Blk (X3.alloc (.cells #[.slice A1 p.arrays.length c1, .slice A2 p.funcs.length c2, .slice A3 vs.length c3] 90)) X3.heap.size 90 #[.slice A1 p.arrays.length c1, .slice A2 p.funcs.length c2, .slice A3 vs.length c3] := Blk.new _ _ _
        have hbl : Below X3.heap.size X3 (X3.alloc (.cells #[.slice A1 p.arrays.length c1, .slice A2 p.funcs.length c2, .slice A3 vs.length c3] 90)) := below1 _ _
        generalize X3.alloc (.cells #[.slice A1 p.arrays.length c1, .slice A2 p.funcs.length c2, .slice A3 vs.length c3] 90) = X4 at *
        have HZ4 := Lib.hid hzz
        have HCB := Lib.hid hbb
        have HB3 := Lib.hid hbl
        clear hzz hbb hbl
        have qv2 := HVB.out
        have qv3 := qv2.below HB2.out qv2.lt
        have qv4 := qv3.below HB3.out qv3.lt
        have qc4 := HCB.out
        have r3 := HROW.out
        have r4 := r3.kept (grown_below' (row := none) HB3.out) (Classical.em _)
        have z0 := HB0.out.size
        have z1 := HB1.out.size
        have z2 := HB2.out.size
        have z3 := HB3.out.size
        have zv := HVB.out.lt
        have zc := HCB.out.lt
        have zz := HZ2.out.size
        have za := HZ1.out.size
        have zb := HZ3.out.size
        have v0 : X4.cell? ⟨X1.heap.size, 0, none⟩ = some (.pointer none) := qv4.cell 0
        have vf := qv4.frozen 0
        have hfin := And.intro (And.intro za (And.intro zb (show X3.heap.size ≠ X1.heap.size by omega))) (fn_cut HZ4.out (own_low r4 zz) qv4 qc4 za (by omega) (fun g e => by have h1 := HROW.out.lt g e; have h2 := HROW.out.inside g e; omega))
        have HFIN := Lib.hid hfin
        clear hfin zv zc zz za zb z0 z1 z2 z3 r3 r4 qv2 qv3 qv4 qc4
        refine wpAnyL_ready (rs := [10]) (by kernel_rfl) (by simp) ?_
        refine AllReadyL.last rfl (by kernel_rfl) (fun K hK => ?_)
        go_simp
        refine hK.out _ _ ?_
        clear hK K
        try simp only [sA, sB, sC]
        refine wpAnyL_done (by kernel_rfl) ?_ _
        refine calm_normal ?_
        go_wp2
        go_meet
        case rel =>
          exact ⟨_, _, A3, c3, rfl, HFIN.out⟩
    · go_simp
      refine hK.out _ _ (SO.out _ (HZ0.out.alloc HZ0.out.size _)) (fun hHeld => ?_)
      have HS1 := Lib.hid hHeld
      clear hK K hHeld
      try simp only [sA, sB, sC]
      have hzz : Below W.heap.size W (X0.alloc (.cells #[.pointer none] 87)) := HZ0.out.alloc HZ0.out.size _
      have hbb : Blk (X0.alloc (.cells #[.pointer none] 87)) X0.heap.size 87 #[.pointer none] := Blk.new _ _ _
      have hbl : Below X0.heap.size X0 (X0.alloc (.cells #[.pointer none] 87)) := below1 _ _
      generalize X0.alloc (.cells #[.pointer none] 87) = X1 at *
      have HZ1 := Lib.hid hzz
      have HVB := Lib.hid hbb
      have HB0 := Lib.hid hbl
      clear hzz hbb hbl
      refine wpAnyL_ready (rs := [5]) (by kernel_rfl) (by simp) ?_
      refine AllReadyL.cons rfl (fun K hK => ?_) AllReadyL.nil
      go_simp
      refine hK.out _ _ (SO.out _ (HZ1.out.alloc HZ1.out.size _)) (fun hHeld => ?_)
      have HS2 := Lib.hid hHeld
      clear hK K hHeld
      try simp only [sA, sB, sC]
      have hzz : Below W.heap.size W (X1.alloc (.cells #[.slice Ap f.params.length cp, .slice Al f.locals.length cl] 47)) := HZ1.out.alloc HZ1.out.size _
      have hbb : Blk (X1.alloc (.cells #[.slice Ap f.params.length cp, .slice Al f.locals.length cl] 47)) X1.heap.size 47 #[.slice Ap f.params.length cp, .slice Al f.locals.length cl] := Blk.new _ _ _
      have hbl : Below X1.heap.size X1 (X1.alloc (.cells #[.slice Ap f.params.length cp, .slice Al f.locals.length cl] 47)) := below1 _ _
      generalize X1.alloc (.cells #[.slice Ap f.params.length cp, .slice Al f.locals.length cl] 47) = X2 at *
      have HZ2 := Lib.hid hzz
      have HSB := Lib.hid hbb
      have HB1 := Lib.hid hbl
      clear hzz hbb hbl
      refine wpAnyL_ready (rs := [6]) (by kernel_rfl) (by simp) ?_
      refine AllReadyL.cons rfl (fun K hK => ?_) AllReadyL.nil
      go_simp
      have qs2 := HSB.out
      refine (HCC.out X2 _ _ HZ2.out qs2).mono ?_
      rintro e X3 ⟨v3, rfl, hrow, hx⟩
      obtain ⟨A3, c3, hv3⟩ := own_form hrow
      subst hv3
      have HZ3 := Lib.hid (HZ2.out.trans (hx.mono HZ2.out.size))
      have HB2 := Lib.hid hx
      have HROW := Lib.hid hrow
      clear hrow hx qs2
      refine hK.out _ _ (SO.out _ HZ3.out) (fun hHeld => ?_)
      have HS3 := Lib.hid hHeld
      clear hK K hHeld
      try simp only [sA, sB, sC]
      refine tj 7 19 (.agg #[.slice A1 p.arrays.length c1, .slice A2 p.funcs.length c2, .slice A3 vs.length c3]) HS3.out rfl rfl ?_
      try simp only [sA, sB, sC]
      refine wpAnyL_ready (rs := [8]) (by kernel_rfl) (by simp) ?_
      refine AllReadyL.cons rfl (fun K hK => ?_) AllReadyL.nil
      go_simp
      refine hK.out _ _ (SO.out _ (HZ3.out.alloc HZ3.out.size _)) (fun hHeld => ?_)
      have HS4 := Lib.hid hHeld
      clear hK K hHeld
      try simp only [sA, sB, sC]
      have hzz : Below W.heap.size W (X3.alloc (.cells #[.slice A1 p.arrays.length c1, .slice A2 p.funcs.length c2, .slice A3 vs.length c3] 90)) := HZ3.out.alloc HZ3.out.size _
      have hbb : Blk (X3.alloc (.cells #[.slice A1 p.arrays.length c1, .slice A2 p.funcs.length c2, .slice A3 vs.length c3] 90)) X3.heap.size 90 #[.slice A1 p.arrays.length c1, .slice A2 p.funcs.length c2, .slice A3 vs.length c3] := Blk.new _ _ _
      have hbl : Below X3.heap.size X3 (X3.alloc (.cells #[.slice A1 p.arrays.length c1, .slice A2 p.funcs.length c2, .slice A3 vs.length c3] 90)) := below1 _ _
      generalize X3.alloc (.cells #[.slice A1 p.arrays.length c1, .slice A2 p.funcs.length c2, .slice A3 vs.length c3] 90) = X4 at *
      have HZ4 := Lib.hid hzz
      have HCB := Lib.hid hbb
      have HB3 := Lib.hid hbl
      clear hzz hbb hbl
      have qv1 := HVB.out
      have qv2 := qv1.below HB1.out qv1.lt
      have qv3 := qv2.below HB2.out qv2.lt
      have qv4 := qv3.below HB3.out qv3.lt
      have qc4 := HCB.out
      have r3 := HROW.out
      have r4 := r3.kept (grown_below' (row := none) HB3.out) (Classical.em _)
      have z0 := HB0.out.size
      have z1 := HB1.out.size
      have z2 := HB2.out.size
      have z3 := HB3.out.size
      have zv := HVB.out.lt
      have zc := HCB.out.lt
      have zz := HZ2.out.size
      have za := HZ0.out.size
      have zb := HZ3.out.size
      have v0 : X4.cell? ⟨X0.heap.size, 0, none⟩ = some (.pointer none) := qv4.cell 0
      have vf := qv4.frozen 0
      have hfin := And.intro (And.intro za (And.intro zb (show X3.heap.size ≠ X0.heap.size by omega))) (fn_cut HZ4.out (own_low r4 zz) qv4 qc4 za (by omega) (fun g e => by have h1 := HROW.out.lt g e; have h2 := HROW.out.inside g e; omega))
      have HFIN := Lib.hid hfin
      clear hfin zv zc zz za zb z0 z1 z2 z3 r3 r4 qv1 qv2 qv3 qv4 qc4
      refine wpAnyL_ready (rs := [10]) (by kernel_rfl) (by simp) ?_
      refine AllReadyL.last rfl (by kernel_rfl) (fun K hK => ?_)
      go_simp
      refine hK.out _ _ ?_
      clear hK K
      try simp only [sA, sB, sC]
      refine wpAnyL_done (by kernel_rfl) ?_ _
      refine calm_normal ?_
      go_wp2
      go_meet
      case rel =>
        exact ⟨_, _, A3, c3, rfl, HFIN.out⟩
  case rest =>
    obtain ⟨vb, kb, A3, c3, rfl, hdis, hbx, hrow, hvb, hkb⟩ := hcut
    have HDIS := Lib.hid hdis
    have hwx : Below w.heap.size w wc := HBW.out.trans (hbx.mono HBW.out.size)
    have hPc := HPB.out.below hbx HPB.out.lt
    have p0 : wc.cell? ⟨w.heap.size, 0, none⟩ = some (.slice A1 p.arrays.length c1) := hPc.cell 0
    have p1 : wc.cell? ⟨w.heap.size, 1, none⟩ = some (.slice A2 p.funcs.length c2) := hPc.cell 1
    have HGL : Hid (Calls Tryz.prog 29 #[.agg #[.slice A1 p.arrays.length c1, .slice A2 p.funcs.length c2]] wc fun e w' => ∃ v, e = .returned v ∧ w'.ownsRow wc.heap.size 9 1 v (globalsL p).length ((globalsL p).map encT) ∧ Below wc.heap.size wc w') := Lib.hid (globals_any (d + 1) p A1 A2 c1 c2 wc (HA.out.imp (fun b h => Nat.lt_of_lt_of_le h hwx.size) (fun b h => hwx.block b h) fun _ _ _ r => r) (HF.out.imp (fun b h => Nat.lt_of_lt_of_le h hwx.size) (fun b h => hwx.block b h) fun _ _ _ r => r.imp (fun b h => Nat.lt_of_lt_of_le h hwx.size) (fun b h => hwx.block b h)) HB1.out HB2.out)
    have HROW := Lib.hid hrow
    have HVB := Lib.hid hvb
    have HKB := Lib.hid hkb
    have HBX := Lib.hid hbx
    clear hbx hrow hvb hkb hwx hPc hdis
    go_upto_region 3 with (go_at_call 29; refine HGL.out.mono ?_; rintro e w1 ⟨v4, rfl, hr4, hb4⟩; obtain ⟨A4, c4, rfl⟩ := own_form hr4; have HR4 := Lib.hid hr4; have HB5 := Lib.hid hb4; clear hr4 hb4)
    refine wp_world ?_
    intro W2 hW2
    have hN : Blk W2 w1.heap.size 47 #[.slice A4 (globalsL p).length c4] := by rw [← hW2]; exact Blk.new_at _ _ _ rfl
    have hb6 : Below wc.heap.size wc W2 := by rw [← hW2]; exact HB5.out.alloc HB5.out.size _
    have hb7 : Below w1.heap.size w1 W2 := by rw [← hW2]; exact below1 _ _
    have hrow2 := HROW.out.kept (grown_below' (row := none) hb6) (Classical.em _)
    have hgr2 := HR4.out.kept (grown_below' (row := none) hb7) (Classical.em _)
    have hsv : SlR W2 (· < W2.heap.size) 1 RStr (.slice A3 vs.length c3) vs := strs_of_own hrow2 fun g hg => hrow2.inside g hg
    have hsg : SlR W2 (· < W2.heap.size) 1 RStr (.slice A4 (globalsL p).length c4) (globalsL p) := strs_of_own hgr2 fun g hg => hgr2.inside g hg
    have hvl : vs.length ≤ 1000 := by rw [HVS.out, List.length_append]; have := HB3.out; have := HB4.out; omega
    obtain ⟨b1, hb1⟩ : ∃ b, b = twiceB vs := ⟨_, rfl⟩
    obtain ⟨b2, hb2⟩ : ∃ b, b = vs.any (fun s => hasS (globalsL p) s) := ⟨_, rfl⟩
    have HT : Hid (Calls Tryz.prog 28 #[.slice A3 vs.length c3] W2 fun e w' => e = .returned (.bool b1) ∧ Below W2.heap.size W2 w') := Lib.hid (by rw [hb1]; exact twice_any A3 c3 vs hvl W2 hsv)
    have HCF : Hid (∀ X, Below W2.heap.size W2 X → Calls Tryz.prog 50 #[.slice A3 vs.length c3, .func (.func 51) #[] #[.pointer (some ⟨w1.heap.size, 0, none⟩)]] X fun e w' => e = .returned (.bool b2) ∧ Below X.heap.size X w') := Lib.hid (fun X hX => by
      rw [hb2]
      exact con_fn1 (.pointer (some ⟨w1.heap.size, 0, none⟩)) vs (.slice A3 vs.length c3) (fun s => hasS (globalsL p) s) X (hsv.imp (fun b h => Nat.lt_of_lt_of_le h hX.size) (fun b h => hX.block b h) fun _ _ _ r => r)
        (fn1_pred vs (globalsL p) A4 c4 w1.heap.size X ((hN.below hX hN.lt).cell 0) (Nat.lt_of_lt_of_le hN.lt hX.size) (hsg.imp (fun b h => Nat.lt_of_lt_of_le h hX.size) (fun b h => hX.block b h) fun _ _ _ r => r)))
    have hwW2 : Below w.heap.size w W2 := (HBW.out.trans (HBX.out.mono HBW.out.size)).trans (hb6.mono (Nat.le_trans HBW.out.size HBX.out.size))
    have hWW2 : Below W.heap.size W W2 := HBX.out.trans (hb6.mono HBX.out.size)
    have HE2 := Lib.hid (HEB.out.below hWW2 HEB.out.lt)
    have HI2 := Lib.hid (HIB.out.below hWW2 HIB.out.lt)
    have HV2 := Lib.hid (HVB.out.below hb6 HVB.out.lt)
    have HK2 := Lib.hid (HKB.out.below hb6 HKB.out.lt)
    have HF2 := Lib.hid (HFB.out.below hWW2 HFB.out.lt)
    have HR2 := Lib.hid hrow2
    have HBW2 := Lib.hid hwW2
    have HFE : Hid (functionE (d + 1) p f = if b1 || b2 then (50, 0) else firstAt (fun x => stmtE p vs (d + 1) x.1 x.2) 0 (allL (d + 1) f.body false)) := Lib.hid (by rw [hb1, hb2, HVS.out]; rfl)
    have v0 : W2.cell? ⟨vb, 0, none⟩ = some (.pointer (some ⟨kb, 0, none⟩)) := HV2.out.cell 0
    have k2 : W2.cell? ⟨kb, 2, none⟩ = some (.slice A3 vs.length c3) := HK2.out.cell 2
    have e0 : W2.cell? ⟨w.heap.size + 1 + 1, 0, none⟩ = some (.int .i64 0) := HE2.out.cell 0
    have ef : W2.frozen? ⟨w.heap.size + 1 + 1, 0, none⟩ = false := HE2.out.frozen 0
    have i0 : W2.cell? ⟨w.heap.size + 1 + 1 + 1, 0, none⟩ = some (.int .i64 0) := HI2.out.cell 0
    have if_ : W2.frozen? ⟨w.heap.size + 1 + 1 + 1, 0, none⟩ = false := HI2.out.frozen 0
    have hvlt : vb < W2.heap.size := HV2.out.lt
    have hklt : kb < W2.heap.size := HK2.out.lt
    have helt : w.heap.size + 1 + 1 < W2.heap.size := HE2.out.lt
    have hilt : w.heap.size + 1 + 1 + 1 < W2.heap.size := HI2.out.lt
    clear hW2 hN hb6 hb7 hrow2 hgr2 hsv hsg hvl hb1 hb2 hwW2 hWW2 p0 p1 HR4 HB5 hlt0
    have HRET : Hid (∀ X, Below W2.heap.size W2 X → functionE (d + 1) p f = (50, 0) → Below w.heap.size w ((X.setCell ⟨w.heap.size + 1 + 1, 0, none⟩ (.int .i64 50)).setCell ⟨w.heap.size + 1 + 1 + 1, 0, none⟩ (.int .i64 0)) ∧ ((X.setCell ⟨w.heap.size + 1 + 1, 0, none⟩ (.int .i64 50)).setCell ⟨w.heap.size + 1 + 1 + 1, 0, none⟩ (.int .i64 0)).cell? ⟨w.heap.size + 1 + 1, 0, none⟩ = some (.int .i64 50) ∧ ((X.setCell ⟨w.heap.size + 1 + 1, 0, none⟩ (.int .i64 50)).setCell ⟨w.heap.size + 1 + 1 + 1, 0, none⟩ (.int .i64 0)).cell? ⟨w.heap.size + 1 + 1 + 1, 0, none⟩ = some (.int .i64 0)) := Lib.hid (fun X hX _ => by
      have h1 := (HE2.out.below hX HE2.out.lt).set_ 0 (.int .i64 50)
      have h2 := (HI2.out.below hX HI2.out.lt).far (p := ⟨w.heap.size + 1 + 1, 0, none⟩) (by show w.heap.size + 3 ≠ w.heap.size + 1 + 1; omega) (.int .i64 50)
      exact ⟨((HBW2.out.trans (hX.mono HBW2.out.size)).setCell (p := ⟨w.heap.size + 1 + 1, 0, none⟩) (by show w.heap.size ≤ w.heap.size + 1 + 1; omega) _).setCell (p := ⟨w.heap.size + 1 + 1 + 1, 0, none⟩) (by show w.heap.size ≤ w.heap.size + 1 + 1 + 1; omega) _, (h1.far (p := ⟨w.heap.size + 1 + 1 + 1, 0, none⟩) (by show w.heap.size + 2 ≠ w.heap.size + 1 + 1 + 1; omega) _).cell 0, (h2.set_ 0 _).cell 0⟩)
    cases b1 with
    | true =>
      have HFE2 : Hid (functionE (d + 1) p f = (50, 0)) := Lib.hid HFE.out
      go_wp2_with (go_at_call 28; refine HT.out.mono ?_; rintro e X ⟨rfl, hx⟩; have e1 := (hx.cell (p := ⟨w.heap.size + 1 + 1, 0, none⟩) helt).trans e0; have ef1 : X.frozen? ⟨w.heap.size + 1 + 1, 0, none⟩ = false := (HE2.out.below hx HE2.out.lt).frozen 0; have i1 := (hx.cell (p := ⟨w.heap.size + 1 + 1 + 1, 0, none⟩) hilt).trans i0; have if1 : X.frozen? ⟨w.heap.size + 1 + 1 + 1, 0, none⟩ = false := (HI2.out.below hx HI2.out.lt).frozen 0; have HX := Lib.hid hx; clear hx)
      obtain ⟨q1, q2, q3⟩ := HRET.out _ HX.out HFE2.out
      refine ⟨_, results_cc _ _ (w.heap.size + 1 + 1) (w.heap.size + 1 + 1 + 1) 50 0 rfl rfl q2 q3, ?_, q1⟩
      rw [HFE2.out]
    | false =>
    cases b2 with
    | true =>
      have HFE2 : Hid (functionE (d + 1) p f = (50, 0)) := Lib.hid HFE.out
      go_wp2_with (first | (go_at_call 28; refine HT.out.mono ?_; rintro e X ⟨rfl, hx⟩; have e1 := (hx.cell (p := ⟨w.heap.size + 1 + 1, 0, none⟩) helt).trans e0; have ef1 : X.frozen? ⟨w.heap.size + 1 + 1, 0, none⟩ = false := (HE2.out.below hx HE2.out.lt).frozen 0; have i1 := (hx.cell (p := ⟨w.heap.size + 1 + 1 + 1, 0, none⟩) hilt).trans i0; have if1 : X.frozen? ⟨w.heap.size + 1 + 1 + 1, 0, none⟩ = false := (HI2.out.below hx HI2.out.lt).frozen 0; have v1 := (hx.cell (p := ⟨vb, 0, none⟩) hvlt).trans v0; have k21 := (hx.cell (p := ⟨kb, 2, none⟩) hklt).trans k2; have HX := Lib.hid hx; clear hx) | (go_at_call 50; refine (HCF.out _ HX.out).mono ?_; rintro e Y ⟨rfl, hb⟩; have hy := HX.out.trans (hb.mono HX.out.size); have e2 := (hb.cell (p := ⟨w.heap.size + 1 + 1, 0, none⟩) (Nat.lt_of_lt_of_le helt HX.out.size)).trans e1; have ef2 : Y.frozen? ⟨w.heap.size + 1 + 1, 0, none⟩ = false := (HE2.out.below hy HE2.out.lt).frozen 0; have i2 := (hb.cell (p := ⟨w.heap.size + 1 + 1 + 1, 0, none⟩) (Nat.lt_of_lt_of_le hilt HX.out.size)).trans i1; have if2 : Y.frozen? ⟨w.heap.size + 1 + 1 + 1, 0, none⟩ = false := (HI2.out.below hy HI2.out.lt).frozen 0; have HY := Lib.hid hy; clear hy hb))
      obtain ⟨q1, q2, q3⟩ := HRET.out _ HY.out HFE2.out
      refine ⟨_, results_cc _ _ (w.heap.size + 1 + 1) (w.heap.size + 1 + 1 + 1) 50 0 rfl rfl q2 q3, ?_, q1⟩
      rw [HFE2.out]
    | false =>
      have HFE2 : Hid (functionE (d + 1) p f = firstAt (fun x => stmtE p vs (d + 1) x.1 x.2) 0 (allL (d + 1) f.body false)) := Lib.hid HFE.out
      go_upto_region 6 with (first | (go_at_call 28; refine HT.out.mono ?_; rintro e X ⟨rfl, hx⟩; have v1 := (hx.cell (p := ⟨vb, 0, none⟩) hvlt).trans v0; have k21 := (hx.cell (p := ⟨kb, 2, none⟩) hklt).trans k2; have HX := Lib.hid hx; clear hx) | (go_at_call 50; refine (HCF.out _ HX.out).mono ?_; rintro e Y ⟨rfl, hb⟩; have hy := HX.out.trans (hb.mono HX.out.size);  have HY := Lib.hid hy; clear hy hb))
      refine wp_world ?_
      intro W3 hW3
      have h3 : Below W2.heap.size W2 W3 := by rw [← hW3]; exact HY.out.alloc HY.out.size _
      have hn3 : Blk W3 Y.heap.size 3 #[.int .i64 0] := by rw [← hW3]; exact Blk.new _ _ _
      have hYs := HY.out.size
      have hWw : w.heap.size + 4 = W.heap.size := HSW.out.symm
      have hat : FnAt w p vs A1 A2 A3 c1 c2 c3 vb kb (w.heap.size + 1 + 1) (w.heap.size + 1 + 1 + 1) Y.heap.size 0 0 0 W3 :=
        ⟨HBW2.out.trans (h3.mono HBW2.out.size), own_low (HR2.out.kept (grown_below' (row := none) h3) (Classical.em _)) (by omega), HV2.out.below h3 HV2.out.lt, HK2.out.below h3 HK2.out.lt, HE2.out.below h3 HE2.out.lt, HI2.out.below h3 HI2.out.lt, hn3⟩
      have hdis : FnDis (w.heap.size + 4) vb kb (w.heap.size + 1 + 1) (w.heap.size + 1 + 1 + 1) Y.heap.size (.slice A3 vs.length c3) :=
        ⟨rfl, rfl, ⟨by have := HDIS.out.1; omega, by omega⟩, ⟨by have := HDIS.out.2.1; omega, by omega⟩, fun e => HDIS.out.2.2 e.symm, fun g e => ⟨by have := HR2.out.lt g e; omega, by have := HR2.out.inside g e; omega⟩⟩
      have hf3 : W3.cell? ⟨w.heap.size + 1, 3, none⟩ = some (.slice Ab f.body.length cb) := (HF2.out.below h3 HF2.out.lt).cell 3
      have HAT := Lib.hid hat
      have HFD := Lib.hid hdis
      clear h3 hn3 hYs hWw hat hdis hW3
      go_cut [38] from 12 to 50 (fun s38 wx => s38 = .func (.func 72) #[] #[.pointer (some ⟨W3.heap.size, 0, none⟩), .pointer (some ⟨W3.heap.size + 1, 0, none⟩)] ∧ wx = (W3.alloc (.cells #[.slice Ab f.body.length cb] 43)).alloc (.cells #[.bool false] 4))
      case first =>
        go_wp2_with (go_at_call 53; refine ((callsIn_wide (n := 3)).1 (all_in Fence.wide 3 trivial rfl _ _ _ _ _)).mono ?_; rintro e w' ⟨rfl, rfl⟩)
        go_meet
        case rel => exact ⟨rfl, rfl⟩
      case rest =>
        obtain ⟨rfl, hW4⟩ := hcut
        have h4 : Below W3.heap.size W3 wc := by rw [hW4]; exact below2 _ _ _
        have hl4 : Blk wc W3.heap.size 43 #[.slice Ab f.body.length cb] := by rw [hW4]; exact (Blk.new _ _ _).alloc _
        have hb4 : Blk wc (W3.heap.size + 1) 4 #[.bool false] := by rw [hW4]; exact Blk.new_at _ _ _ (by simp)
        clear hW4
        have hat4 := HAT.out.later h4
        have hnl : Y.heap.size < wc.heap.size := hat4.nblk.lt
        have hwn : w.heap.size ≤ wc.heap.size := hat4.below.size
        have hwY : w.heap.size ≤ Y.heap.size := by have := HFD.out.v; omega
        have hst := all_stops Fence.wide rfl (9 - 1) trivial trivial rfl W3.heap.size (W3.heap.size + 1) w.heap.size (d + 1) w wc hat4.below hwn f.body false (.slice Ab f.body.length cb) HBD.out hl4.lt hb4.lt (hl4.cell 0) (hb4.cell 0)
        have HST := Lib.hid hst
        have HA4 := Lib.hid hat4
        clear h4 hl4 hb4 hat4 hst hf3 HAT
        go_wp2
        refine (wpIn_wide (n := 9)).1 ?_
        refine wpIn_rangeFunc_ownH rfl (by omega) (gf := 72) (lb := #[.pointer (some ⟨W3.heap.size, 0, none⟩), .pointer (some ⟨W3.heap.size + 1, 0, none⟩)]) rfl trivial (enters_of Tryz.func72 (by kernel_rfl) rfl)
          HST.out (fun h k => h.trans k) (fun W l o o' h1 h2 h3 _ => kpB_turn hwn W l o o' h1 h2 h3) (Below.refl _ _) (fun _ => rfl)
          (fun pre W => FnAt w p vs A1 A2 A3 c1 c2 c3 vb kb (w.heap.size + 1 + 1) (w.heap.size + 1 + 1 + 1) Y.heap.size 0 0 (pre.length : Int) W ∧ ∀ x ∈ pre, stmtE p vs (d + 1) x.s x.loop = 0)
          (fun c pre W => c = .ret ∧ ∃ (pre0 : List (XS w w.heap.size (d + 1))) (x : XS w w.heap.size (d + 1)) (k : Int), pre = pre0 ++ [x] ∧ (∀ y ∈ pre0, stmtE p vs (d + 1) y.s y.loop = 0) ∧ stmtE p vs (d + 1) x.s x.loop ≠ 0 ∧ FnAt w p vs A1 A2 A3 c1 c2 c3 vb kb (w.heap.size + 1 + 1) (w.heap.size + 1 + 1 + 1) Y.heap.size (stmtE p vs (d + 1) x.s x.loop) (pre0.length : Int) k W)
          (fun s W W' row hs hg hr => ⟨hs.1.turn hg (fun r e => ⟨Nat.le_trans hwn (hr r e).1, (hr r e).2⟩), hs.2⟩)
          (fun c s W W' row hs hg hr => ⟨hs.1, by obtain ⟨p0, x, k, q1, q2, q3, q4⟩ := hs.2; exact ⟨p0, x, k, q1, q2, q3, q4.turn hg (fun r e => ⟨Nat.le_trans hwn (hr r e).1, (hr r e).2⟩)⟩⟩)
          ⟨HA4.out, fun x hx => by cases hx⟩
          (fun x a' W => ∃ Bx, Blk W Bx 45 x.cs ∧ a' = { tmps := #[.agg #[.slice A1 p.arrays.length c1, .slice A2 p.funcs.length c2], .agg #[.string f.name, .slice Ap f.params.length cp, .slice Al f.locals.length cl, .slice Ab f.body.length cb], .pointer (some ⟨w.heap.size, 0, none⟩), .pointer (some ⟨w.heap.size + 1, 0, none⟩), .pointer (some ⟨w.heap.size + 1 + 1, 0, none⟩), .pointer (some ⟨w.heap.size + 1 + 1 + 1, 0, none⟩), .pointer (some ⟨vb, 0, none⟩), .pointer (some ⟨w1.heap.size, 0, none⟩), .pointer (some ⟨Y.heap.size, 0, none⟩), .pointer (some ⟨Bx, 0, none⟩), .bool x.loop, undef, u12, u13, u14, u15, u16, u17, u18, u19, u20, u21, u22, u23, u24, u25, u26, u27, u28, u29, u30, u31, u32, u33, u34, u35, u36, u37, .func (.func 72) #[] #[.pointer (some ⟨W3.heap.size, 0, none⟩), .pointer (some ⟨W3.heap.size + 1, 0, none⟩)], .agg x.cs, .bool x.loop, u41, u42, u43, u44, u45, u46, u47, u48, u49, u50], defers := [] })
          (fun x a' _ W W' row hs hg hr => by obtain ⟨Bx, h1, h2⟩ := hs; exact ⟨Bx, blk_turn h1 hg (fun r e => (hr r e).2), h2⟩) ?assign ?body ?done ?stop
        case assign =>
          rintro l pre ⟨s, lp, Aa, ca, At, ct, Ae, ce, hx⟩ W K ⟨hi1, hi2⟩ hK
          dsimp only [XS.encs, XS.cs]
          have HK := Lib.hid hK
          have HI1 := Lib.hid hi1
          have HI2_ := Lib.hid hi2
          clear hK hi1 hi2
          gi_wp2
          exact HK.out _ _ ((KeepsOthers.alloc _ _).from _) (KpB.alloc _ _ HI1.out.below.size) ⟨HI1.out.later (below1 _ _), HI2_.out⟩ ⟨W.heap.size, Blk.new _ _ _, rfl⟩
        case body =>
          rintro l pre ⟨s, lp, Aa, ca, At, ct, Ae, ce, hx⟩ a' W hl ⟨r, hr⟩ ⟨hat, hz⟩ ⟨Bx, hbx, rfl⟩ hlt
          have hfs : ((Fence.wide).inRound l).fn 54 := trivial
          have v0 : W.cell? ⟨vb, 0, none⟩ = some (.pointer (some ⟨kb, 0, none⟩)) := hat.vblk.cell 0
          have x0 : W.cell? ⟨Bx, 0, none⟩ = some (.int .i64 s.kind) := hbx.cell 0
          have x1 : W.cell? ⟨Bx, 1, none⟩ = some (.string s.name) := hbx.cell 1
          have x2 : W.cell? ⟨Bx, 2, none⟩ = some (.slice Aa s.args.length ca) := hbx.cell 2
          have x3 : W.cell? ⟨Bx, 3, none⟩ = some (.slice At s.thn.length ct) := hbx.cell 3
          have x4 : W.cell? ⟨Bx, 4, none⟩ = some (.slice Ae s.els.length ce) := hbx.cell 4
          have n0 : W.cell? ⟨Y.heap.size, 0, none⟩ = some (.int .i64 (pre.length : Int)) := hat.nblk.cell 0
          have e0 : W.cell? ⟨w.heap.size + 1 + 1, 0, none⟩ = some (.int .i64 0) := hat.eblk.cell 0
          have i0 : W.cell? ⟨w.heap.size + 1 + 1 + 1, 0, none⟩ = some (.int .i64 0) := hat.iblk.cell 0
          have hnW := hat.nblk.lt
          have heW : w.heap.size + 1 + 1 < W.heap.size := hat.eblk.lt
          have hiW : w.heap.size + 1 + 1 + 1 < W.heap.size := hat.iblk.lt
          have hbw := hat.below
          obtain ⟨o, ho⟩ : ∃ o, o = stmtE p vs (d + 1) s lp := ⟨_, rfl⟩
          have HSC : Hid (Calls Tryz.prog 54 #[.pointer (some ⟨kb, 0, none⟩), .agg #[.int .i64 s.kind, .string s.name, .slice Aa s.args.length ca, .slice At s.thn.length ct, .slice Ae s.els.length ce], .bool lp] W fun e w' => e = .returned (.int .i64 o) ∧ Below W.heap.size W w') := Lib.hid (by
            rw [ho]
            exact stmt_ck (hat.ck HA.out HF.out) (d + 1) s Aa At Ae ca _ ct _ ce lp (hx.imp (fun b h => Nat.lt_of_lt_of_le h hbw.size) (fun b h => hbw.block b h) fun _ _ _ r => RExpr.imp (fun b h => Nat.lt_of_lt_of_le h hbw.size) (fun b h => hbw.block b h) _ r))
          have hNl := HNN.out
          have hpl : pre.length < 4611686018427387904 := by omega
          have HAW := Lib.hid hat
          have HZ := Lib.hid hz
          have HO := Lib.hid ho
          have HLT := Lib.hid hlt
          have HHL := Lib.hid hl
          clear hat hz hbx hbw ho hNl hlt hr hl
          dsimp only [XS.cs]
          by_cases h0 : o = 0
          · subst h0
            gi_wp2_with (refine ⟨trivial, ?_⟩; gi_at_call 54; refine (CallsIn.inRound l (callsIn_wide.2 HSC.out)).mono ?_; rintro e W1 ⟨rfl, hb⟩; have n1 := (hb.cell (p := ⟨Y.heap.size, 0, none⟩) hnW).trans n0; have nf1 : W1.frozen? ⟨Y.heap.size, 0, none⟩ = false := (HAW.out.nblk.below hb HAW.out.nblk.lt).frozen 0; have e1 := (hb.cell (p := ⟨w.heap.size + 1 + 1, 0, none⟩) heW).trans e0; have ef1 : W1.frozen? ⟨w.heap.size + 1 + 1, 0, none⟩ = false := (HAW.out.eblk.below hb HAW.out.eblk.lt).frozen 0; have i1 := (hb.cell (p := ⟨w.heap.size + 1 + 1 + 1, 0, none⟩) hiW).trans i0; have if1 : W1.frozen? ⟨w.heap.size + 1 + 1 + 1, 0, none⟩ = false := (HAW.out.iblk.below hb HAW.out.iblk.lt).frozen 0; have HB := Lib.hid hb; clear hb)
            have eL : ((pre ++ [(⟨s, lp, Aa, ca, At, ct, Ae, ce, hx⟩ : XS w w.heap.size (d + 1))]).length : Int) = (pre.length : Int) + 1 := by simp
            refine ⟨(KeepsFrom.of_grownBy (grown_below' (row := none) HB.out) (fun j e => by cases e)).trans ((KeepsOthers.setCell _ _ _).from _), (KpB.below HB.out HAW.out.below.size).trans (KpB.set W1 _ hwY hnl), ?_, ?_⟩
            · rw [eL]
              exact (HAW.out.later HB.out).setN HFD.out _
            · intro y hy
              rcases List.mem_append.1 hy with hy | hy
              · exact HZ.out y hy
              · obtain rfl := List.mem_singleton.1 hy
                exact HO.out.symm
          · have q1 : (o == 0) = false := by rw [beq_dec]; exact decide_eq_false h0
            have q2 : (o != 0) = true := by rw [bne, q1]; rfl
            have H0 := Lib.hid h0
            clear h0
            gi_wp2_with (refine ⟨trivial, ?_⟩; gi_at_call 54; refine (CallsIn.inRound l (callsIn_wide.2 HSC.out)).mono ?_; rintro e W1 ⟨rfl, hb⟩; have n1 := (hb.cell (p := ⟨Y.heap.size, 0, none⟩) hnW).trans n0; have nf1 : W1.frozen? ⟨Y.heap.size, 0, none⟩ = false := (HAW.out.nblk.below hb HAW.out.nblk.lt).frozen 0; have e1 := (hb.cell (p := ⟨w.heap.size + 1 + 1, 0, none⟩) heW).trans e0; have ef1 : W1.frozen? ⟨w.heap.size + 1 + 1, 0, none⟩ = false := (HAW.out.eblk.below hb HAW.out.eblk.lt).frozen 0; have i1 := (hb.cell (p := ⟨w.heap.size + 1 + 1 + 1, 0, none⟩) hiW).trans i0; have if1 : W1.frozen? ⟨w.heap.size + 1 + 1 + 1, 0, none⟩ = false := (HAW.out.iblk.below hb HAW.out.iblk.lt).frozen 0; have HB := Lib.hid hb; clear hb)
            have hne1 : Y.heap.size ≠ w.heap.size + 1 + 1 := by have := HFD.out.v; omega
            have hne2 : Y.heap.size ≠ w.heap.size + 1 + 1 + 1 := by have := HFD.out.v; omega
            have hne3 : w.heap.size + 1 + 1 ≠ Y.heap.size := fun e => hne1 e.symm
            have hmx : Tryz.prog.follows .mixedOrders = true := by kernel_rfl
            gi_region_with_o (fail)
            all_goals gi_wp2
            all_goals
              refine ⟨((KeepsFrom.of_grownBy (grown_below' (row := none) HB.out) (fun j e => by cases e)).trans (((KeepsOthers.setCell _ _ _).trans (KeepsOthers.setCell _ _ _)).from _)).trans ((KeepsOthers.drew _).from _), rfl, pre, ⟨s, lp, Aa, ca, At, ct, Ae, ce, hx⟩, (pre.length : Int), rfl, HZ.out, ?_, ?_⟩
              · show stmtE p vs (d + 1) s lp ≠ 0
                rw [← HO.out]; exact H0.out
              · show FnAt w p vs A1 A2 A3 c1 c2 c3 vb kb (w.heap.size + 1 + 1) (w.heap.size + 1 + 1 + 1) Y.heap.size (stmtE p vs (d + 1) s lp) (pre.length : Int) (pre.length : Int) _
                rw [← HO.out]
                exact (((HAW.out.later HB.out).setE HFD.out _).setI HFD.out _).later (Below.refl _ _).drew
        case done =>
          rintro D xs W hD hxs ⟨hat, hz⟩ hK
          have e0 : W.cell? ⟨w.heap.size + 1 + 1, 0, none⟩ = some (.int .i64 0) := hat.eblk.cell 0
          have ef := hat.eblk.frozen 0
          have i0 : W.cell? ⟨w.heap.size + 1 + 1 + 1, 0, none⟩ = some (.int .i64 0) := hat.iblk.cell 0
          have if_ := hat.iblk.frozen 0
          have HR : Hid (functionE (d + 1) p f = (0, 0)) := Lib.hid (by
            rw [HFE2.out, ← hxs]
            exact firstAt_zero 0 fun y hy => by
              obtain ⟨x, hx, rfl⟩ := List.mem_map.1 hy
              exact hz x hx)
          have HAW := Lib.hid hat
          have HKK := Lib.hid hK
          have HDD := Lib.hid hD
          clear hat hz hK hxs hD
          go_wp2
          have hat2 := (HAW.out.setE HFD.out 0).setI HFD.out 0
          have hK2 := (KeepsOthers.setCell (W.setCell ⟨w.heap.size + 1 + 1, 0, none⟩ (.int .i64 0)) ⟨w.heap.size + 1 + 1 + 1, 0, none⟩ (.int .i64 0)).same D _ ((KeepsOthers.setCell W ⟨w.heap.size + 1 + 1, 0, none⟩ (.int .i64 0)).same D _ HKK.out rfl) rfl
          refine ⟨by simp, .inl ⟨_, _, rfl, run_takeDeferred hK2, ?_⟩⟩
          have hat3 := hat2.turn (grownBy_putObj' _ D (.deferred none)) (fun r e => by cases e; exact ⟨Nat.le_trans hwn HDD.out, _, hK2, rfl⟩)
          exact ⟨_, results_cc _ _ _ _ 0 0 rfl rfl (hat3.eblk.cell 0) (hat3.iblk.cell 0), by rw [HR.out], hat3.below⟩
        case stop =>
          rintro D c pre W hD hpre ⟨rfl, pre0, x, k, rfl, hz, hne, hat⟩ hK
          have HR : Hid (functionE (d + 1) p f = (stmtE p vs (d + 1) x.s x.loop, (pre0.length : Int))) := Lib.hid (by
            rw [HFE2.out]
            exact first_hit (g := fun x => stmtE p vs (d + 1) x.1 x.2) (pr := XS.pr) hz hne hpre)
          have HAW := Lib.hid hat
          have HKK := Lib.hid hK
          have HDD := Lib.hid hD
          clear hat hz hK hpre hD hne
          gi_wp2
          refine ⟨by simp, .inl ⟨_, _, rfl, run_takeDeferred HKK.out, ?_⟩⟩
          have hat3 := HAW.out.turn (grownBy_putObj' _ D (.deferred none)) (fun r e => by cases e; exact ⟨Nat.le_trans hwn HDD.out, _, HKK.out, rfl⟩)
          exact ⟨_, results_cc _ _ _ _ _ _ rfl rfl (hat3.eblk.cell 0) (hat3.iblk.cell 0), by rw [HR.out], hat3.below⟩
end
end Go.Proofs.YtmignlclfbaifaaGreat
