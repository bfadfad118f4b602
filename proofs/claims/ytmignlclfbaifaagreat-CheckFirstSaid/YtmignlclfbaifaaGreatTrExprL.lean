/- The generator's expressions: (scope).expr, where the scope is not free: some expression that is made of what there is. Printed by wip/gen_trexpr.py. -/
import Derived.Test.YtmignlclfbaifaaGreatTrScope
namespace Go.Proofs.YtmignlclfbaifaaGreat
open Go.RowKit

/-- blocks that were made since -/
def fresh (w w' : World) : Nat → Prop := fun b => w.heap.size ≤ b ∧ b < w'.heap.size
/-- what the generator hands back: an expression at most m deep, made of what there is, in blocks of its own -/
def ExprPost (w : World) (sb : Nat) (c : Scp) (m : Nat) : Ending → World → Prop := fun e w' =>
  (∃ (x : LExpr) (va : Value), e = .returned (.agg #[.int .i64 x.kind, .int .i64 x.op, .int .i64 x.n, .string x.name, va]) ∧ madeE c m x ∧ SlR w' (fresh w w') 5 (RExpr m w' (fresh w w')) va x.args) ∧ SrcAt w' sb ∧ w.grownBy w' (some sb)
def ScVals (c : Scp) (Av Aa Af : Option Addr) (cv ca cf : Nat) (loop : Bool) : Array Value := #[.slice Av c.vars.length cv, .slice Aa c.arrs.length ca, .slice Af c.funs.length cf, .bool false, .bool loop]
structure ScFull (c : Scp) : Prop extends ScOk c where
  fpos : 0 < c.funs.length
def ExprAt (m : Nat) : Prop := ∀ (w : World) (sb : Nat) (c : Scp) (Av Aa Af : Option Addr) (cv ca cf : Nat) (loop : Bool), SrcAt w sb → ScAt w sb c Av Aa Af cv ca cf → ScFull c →
  Calls Tryz.prog 24 #[.agg #[.slice Av c.vars.length cv, .slice Aa c.arrs.length ca, .slice Af c.funs.length cf, .bool false, .bool loop], .pointer (some ⟨sb, 0, none⟩), .int .i64 (m : Int)] w (ExprPost w sb c m)
/-- what was handed back is a call -/
def IsCall (e : Ending) : Prop := ∃ (a b : Int) (s : ByteArray) (v : Value), e = .returned (.agg #[.int .i64 5, .int .i64 a, .int .i64 b, .string s, v])
def CallAt (m : Nat) : Prop := ∀ (w : World) (sb : Nat) (c : Scp) (Av Aa Af : Option Addr) (cv ca cf : Nat) (loop : Bool), SrcAt w sb → ScAt w sb c Av Aa Af cv ca cf → ScFull c →
  Calls Tryz.prog 41 #[.agg #[.slice Av c.vars.length cv, .slice Aa c.arrs.length ca, .slice Af c.funs.length cf, .bool false, .bool loop], .pointer (some ⟨sb, 0, none⟩), .int .i64 (m : Int)] w fun e w' => ExprPost w sb c m e w' ∧ IsCall e
/-- in the midst of it: the boxes of the scope and of what is handed back -/
structure StE (w : World) (sb : Nat) (X : World) (nv na nf : Nat) (Av Aa Af : Option Addr) (cv ca cf : Nat) (loop : Bool) : Prop where
  g : w.grownBy X (some sb)
  src : SrcAt X sb
  box : Blk X w.heap.size 61 #[.slice Av nv cv, .slice Aa na ca, .slice Af nf cf, .bool false, .bool loop]
  res : Blk X (w.heap.size + 1) 42 #[.int .i64 0, .int .i64 0, .int .i64 0, .string ⟨#[]⟩, .slice none 0 0]
  lt : w.heap.size + 1 < X.heap.size
  sb : sb < w.heap.size
section
variable {w X Y : World} {sb nv na nf : Nat} {c : Scp} {Av Aa Af : Option Addr} {cv ca cf : Nat} {loop : Bool}
theorem StE.step (h : StE w sb X nv na nf Av Aa Af cv ca cf loop) (hg : X.grownBy Y (some sb)) (hs : SrcAt Y sb) : StE w sb Y nv na nf Av Aa Af cv ca cf loop :=
  have hb := h.sb
  ⟨h.g.trans hg, hs, h.box.grown hg (fun e => by have := Option.some.inj e; omega), h.res.grown hg (fun e => by have := Option.some.inj e; omega), Nat.lt_of_lt_of_le h.lt hg.size, hb⟩
theorem StE.below (h : StE w sb X nv na nf Av Aa Af cv ca cf loop) (hb : Below X.heap.size X Y) : StE w sb Y nv na nf Av Aa Af cv ca cf loop := h.step (grown_below' hb) (h.src.below hb)
/-- the way out: the answer's cells are stored -/
theorem expr_end {m : Nat} (h : StE w sb X nv na nf Av Aa Af cv ca cf loop) (x : LExpr) (va : Value) (hmade : madeE c m x) (hargs : SlR X (fun b => w.heap.size + 2 ≤ b ∧ b < X.heap.size) 5 (RExpr m X (fun b => w.heap.size + 2 ≤ b ∧ b < X.heap.size)) va x.args) :
    Blk (((((X.setCell ⟨w.heap.size + 1, 0, none⟩ (.int .i64 x.kind)).setCell ⟨w.heap.size + 1, 1, none⟩ (.int .i64 x.op)).setCell ⟨w.heap.size + 1, 2, none⟩ (.int .i64 x.n)).setCell ⟨w.heap.size + 1, 3, none⟩ (.string x.name)).setCell ⟨w.heap.size + 1, 4, none⟩ va) (w.heap.size + 1) 42 #[.int .i64 x.kind, .int .i64 x.op, .int .i64 x.n, .string x.name, va] ∧
    ExprPost w sb c m (.returned (.agg #[.int .i64 x.kind, .int .i64 x.op, .int .i64 x.n, .string x.name, va])) (((((X.setCell ⟨w.heap.size + 1, 0, none⟩ (.int .i64 x.kind)).setCell ⟨w.heap.size + 1, 1, none⟩ (.int .i64 x.op)).setCell ⟨w.heap.size + 1, 2, none⟩ (.int .i64 x.n)).setCell ⟨w.heap.size + 1, 3, none⟩ (.string x.name)).setCell ⟨w.heap.size + 1, 4, none⟩ va) := by
  have hb := h.sb
  have hblk := ((((h.res.set_ 0 (.int .i64 x.kind)).set_ 1 (.int .i64 x.op)).set_ 2 (.int .i64 x.n)).set_ 3 (.string x.name)).set_ 4 va
  have hgo := grown_own (grown_own (grown_own (grown_own (grown_own h.g (w.heap.size + 1) (by omega) 0 (.int .i64 x.kind)) (w.heap.size + 1) (by omega) 1 (.int .i64 x.op)) (w.heap.size + 1) (by omega) 2 (.int .i64 x.n)) (w.heap.size + 1) (by omega) 3 (.string x.name)) (w.heap.size + 1) (by omega) 4 va
  generalize hZ : ((((X.setCell ⟨w.heap.size + 1, 0, none⟩ (.int .i64 x.kind)).setCell ⟨w.heap.size + 1, 1, none⟩ (.int .i64 x.op)).setCell ⟨w.heap.size + 1, 2, none⟩ (.int .i64 x.n)).setCell ⟨w.heap.size + 1, 3, none⟩ (.string x.name)).setCell ⟨w.heap.size + 1, 4, none⟩ va = Z at *
  have hXZ : ∀ b, b ≠ w.heap.size + 1 → Z.heap[b]? = X.heap[b]? := fun b hne => by
    rw [← hZ]
    exact (Below.heap_setCell _ ⟨w.heap.size + 1, 4, none⟩ _ b hne).trans ((Below.heap_setCell _ ⟨w.heap.size + 1, 3, none⟩ _ b hne).trans ((Below.heap_setCell _ ⟨w.heap.size + 1, 2, none⟩ _ b hne).trans ((Below.heap_setCell _ ⟨w.heap.size + 1, 1, none⟩ _ b hne).trans (Below.heap_setCell _ ⟨w.heap.size + 1, 0, none⟩ _ b hne))))
  have hsz : Z.heap.size = X.heap.size := by rw [← hZ]; simp [World.setCell]
  have up : ∀ b, (w.heap.size + 2 ≤ b ∧ b < X.heap.size) → fresh w Z b := fun b hb => ⟨by omega, by omega⟩
  have kp : Keeps (fun b => w.heap.size + 2 ≤ b ∧ b < X.heap.size) X Z := fun b hb => hXZ b (by omega)
  exact ⟨hblk, ⟨x, va, rfl, hmade, hargs.imp up kp fun _ _ _ r => r.imp up kp⟩, h.src.keep (fun b hb => hXZ b (by omega)), hgo⟩
end
/-- an expression that was handed back, in a later world -/
theorem rexpr_of {w X1 X2 X3 : World} {m : Nat} {x : LExpr} {va : Value} (hm : 1 ≤ m) (h : SlR X2 (fresh X1 X2) 5 (RExpr (m - 1) X2 (fresh X1 X2)) va x.args) (hb : w.heap.size + 2 ≤ X1.heap.size) (hk : Keeps (fresh X1 X2) X2 X3) (hsz : X2.heap.size ≤ X3.heap.size) :
    RExpr m X3 (fun b => w.heap.size + 2 ≤ b ∧ b < X3.heap.size) (exprCells x va) x := by
  obtain ⟨m, rfl⟩ : ∃ q, m = q + 1 := ⟨m - 1, by omega⟩
  have up : ∀ b, fresh X1 X2 b → w.heap.size + 2 ≤ b ∧ b < X3.heap.size := fun b hb2 => ⟨by have := hb2.1; omega, by have := hb2.2; omega⟩
  exact ⟨va, rfl, h.imp up hk fun _ _ _ r => r.imp up hk⟩
/-- a row of one expression, of two -/
theorem row_one {X : World} {ok : Nat → Prop} {m g : Nat} {T : TypeId} {x : LExpr} {va : Value} (h : Blk X g T #[.int .i64 x.kind, .int .i64 x.op, .int .i64 x.n, .string x.name, va]) (hx : RExpr m X ok (exprCells x va) x) (hg : ok g) : SlR X ok 5 (RExpr m X ok) (.slice (some ⟨g, 0, none⟩) 1 1) [x] :=
  SlR.lit [exprCells x va] h rfl ⟨⟨rfl, hx⟩, trivial⟩ rfl hg (by decide)
theorem row_two {X : World} {ok : Nat → Prop} {m g : Nat} {T : TypeId} {x y : LExpr} {va vb : Value} (h : Blk X g T #[.int .i64 x.kind, .int .i64 x.op, .int .i64 x.n, .string x.name, va, .int .i64 y.kind, .int .i64 y.op, .int .i64 y.n, .string y.name, vb]) (hx : RExpr m X ok (exprCells x va) x) (hy : RExpr m X ok (exprCells y vb) y) (hg : ok g) : SlR X ok 5 (RExpr m X ok) (.slice (some ⟨g, 0, none⟩) 2 2) [x, y] :=
  SlR.lit [exprCells x va, exprCells y vb] h rfl ⟨⟨rfl, hx⟩, ⟨rfl, hy⟩, trivial⟩ rfl hg (by decide)
/-! ### what is made is made of what there is -/
theorem made_var {c : Scp} {m : Nat} (hm : 1 ≤ m) (hk : ScOk c) {s : ByteArray} (hs : s ∈ c.vars) : madeE c m ⟨2, 0, 0, s, []⟩ := by
  obtain ⟨m, rfl⟩ : ∃ q, m = q + 1 := ⟨m - 1, by omega⟩
  refine ⟨?_, fun _ => hs, fun h => absurd (show (2 : Int) = 6 from h) (by decide), fun h => absurd (show (2 : Int) = 5 from h) (by decide), fun x hx => by cases hx⟩
  show (nameB s && decide ((0 : Int) = 0) && decide ((0 : Int) = 0) && decide (0 = 0)) = true
  rw [hk.vars s hs]; rfl
theorem made_num {c : Scp} {m : Nat} (hm : 1 ≤ m) {v : Int} (hv : 0 ≤ v) : madeE c m ⟨1, 0, v, ⟨#[]⟩, []⟩ := by
  obtain ⟨m, rfl⟩ : ∃ q, m = q + 1 := ⟨m - 1, by omega⟩
  refine ⟨?_, fun h => absurd (show (1 : Int) = 2 from h) (by decide), fun h => absurd (show (1 : Int) = 6 from h) (by decide), fun h => absurd (show (1 : Int) = 5 from h) (by decide), fun x hx => by cases hx⟩
  show (decide (0 ≤ v) && decide ((0 : Int) = 0) && decide ((⟨#[]⟩ : ByteArray) = ⟨#[]⟩) && decide (0 = 0)) = true
  rw [decide_eq_true hv]; rfl
theorem made_read {c : Scp} {m : Nat} (hm : 1 ≤ m) : madeE c m ⟨7, 0, 0, ⟨#[]⟩, []⟩ := by
  obtain ⟨m, rfl⟩ : ∃ q, m = q + 1 := ⟨m - 1, by omega⟩
  exact ⟨rfl, fun h => absurd (show (7 : Int) = 2 from h) (by decide), fun h => absurd (show (7 : Int) = 6 from h) (by decide), fun h => absurd (show (7 : Int) = 5 from h) (by decide), fun x hx => by cases hx⟩
theorem made_one {c : Scp} {m : Nat} (hm : 2 ≤ m) {r : Nat} (hr : r < 3) {x : LExpr} (hx : madeE c (m - 1) x) : madeE c m ⟨3, 17 + (r : Int), 0, ⟨#[]⟩, [x]⟩ := by
  obtain ⟨m, rfl⟩ : ∃ q, m = q + 1 := ⟨m - 1, by omega⟩
  refine ⟨?_, fun h => absurd (show (3 : Int) = 2 from h) (by decide), fun h => absurd (show (3 : Int) = 6 from h) (by decide), fun h => absurd (show (3 : Int) = 5 from h) (by decide), fun y hy => by obtain rfl := List.mem_singleton.1 hy; exact hx⟩
  rcases (by omega : r = 0 ∨ r = 1 ∨ r = 2) with rfl | rfl | rfl <;> rfl
theorem made_two {c : Scp} {m : Nat} (hm : 2 ≤ m) {r : Nat} (hr : r < 16) {x y : LExpr} (hx : madeE c (m - 1) x) (hy : madeE c (m - 1) y) : madeE c m ⟨4, 1 + (r : Int), 0, ⟨#[]⟩, [x, y]⟩ := by
  obtain ⟨m, rfl⟩ : ∃ q, m = q + 1 := ⟨m - 1, by omega⟩
  refine ⟨?_, fun h => absurd (show (4 : Int) = 2 from h) (by decide), fun h => absurd (show (4 : Int) = 6 from h) (by decide), fun h => absurd (show (4 : Int) = 5 from h) (by decide), fun z hz => ?_⟩
  · show (decide (1 ≤ 1 + (r : Int) ∧ 1 + (r : Int) ≤ 16) && decide ((0 : Int) = 0) && decide ((⟨#[]⟩ : ByteArray) = ⟨#[]⟩) && decide (2 = 2)) = true
    rw [decide_eq_true (by omega)]; rfl
  · rcases List.mem_cons.1 hz with rfl | hz
    · exact hx
    · obtain rfl := List.mem_singleton.1 hz; exact hy
theorem made_index {c : Scp} {m : Nat} (hm : 2 ≤ m) (hk : ScOk c) {s : ByteArray} (hs : s ∈ c.arrs) {x : LExpr} (hx : madeE c (m - 1) x) : madeE c m ⟨6, 0, 0, s, [x]⟩ := by
  obtain ⟨m, rfl⟩ : ∃ q, m = q + 1 := ⟨m - 1, by omega⟩
  refine ⟨?_, fun h => absurd (show (6 : Int) = 2 from h) (by decide), fun _ => hs, fun h => absurd (show (6 : Int) = 5 from h) (by decide), fun y hy => by obtain rfl := List.mem_singleton.1 hy; exact hx⟩
  show (nameB s && decide ((0 : Int) = 0) && decide ((0 : Int) = 0) && decide (1 = 1)) = true
  rw [hk.arrs s hs]; rfl
/-! ### what was handed back, in later worlds -/
/-- blocks that were made since, but the first two -/
def made2 (w X : World) : Nat → Prop := fun b => w.heap.size + 2 ≤ b ∧ b < X.heap.size
def RowE (w X : World) (m : Nat) (va : Value) (l : List LExpr) : Prop := SlR X (made2 w X) 5 (RExpr m X (made2 w X)) va l
theorem RowE.keep {w X Y : World} {m : Nat} {va : Value} {l : List LExpr} (h : RowE w X m va l) (hk : Keeps (made2 w X) X Y) (hs : X.heap.size ≤ Y.heap.size) : RowE w Y m va l :=
  SlR.imp h (fun _ hb => ⟨hb.1, Nat.lt_of_lt_of_le hb.2 hs⟩) hk fun _ _ _ r => r.imp (fun _ hb => ⟨hb.1, Nat.lt_of_lt_of_le hb.2 hs⟩) hk
theorem RowE.grown {w X Y : World} {sb m : Nat} {va : Value} {l : List LExpr} (h : RowE w X m va l) (hg : X.grownBy Y (some sb)) (hb : sb < w.heap.size) : RowE w Y m va l :=
  h.keep (fun b hb2 => hg.block b hb2.2 (fun e => by have h1 := Option.some.inj e; have h2 := hb2.1; omega)) hg.size
theorem RowE.below {w X Y : World} {m : Nat} {va : Value} {l : List LExpr} (h : RowE w X m va l) (hb : Below X.heap.size X Y) : RowE w Y m va l :=
  h.keep (fun b hb2 => hb.block b hb2.2) hb.size
section
variable {w X Y : World} {sb nv na nf m : Nat} {c : Scp} {Av Aa Af : Option Addr} {cv ca cf : Nat} {loop : Bool}
theorem ExprPost.open {e : Ending} (h : ExprPost X sb c m e Y) (hst : StE w sb X nv na nf Av Aa Af cv ca cf loop) :
    ∃ (x : LExpr) (A : Option Addr) (cx : Nat), e = .returned (.agg #[.int .i64 x.kind, .int .i64 x.op, .int .i64 x.n, .string x.name, .slice A x.args.length cx]) ∧ madeE c m x ∧ RowE w Y m (.slice A x.args.length cx) x.args ∧ StE w sb Y nv na nf Av Aa Af cv ca cf loop ∧ X.grownBy Y (some sb) := by
  obtain ⟨⟨x, va, he, hm, hr⟩, hs, hg⟩ := h
  obtain ⟨A, cx, hv, _, _⟩ := hr.val
  have hlt := hst.lt
  have up : ∀ b, fresh X Y b → made2 w Y b := fun b hb => ⟨by have := hb.1; omega, hb.2⟩
  have hr2 : RowE w Y m va x.args := SlR.imp hr up (fun _ _ => rfl) fun _ _ _ r => r.imp up (fun _ _ => rfl)
  rw [hv] at he hr2
  exact ⟨x, A, cx, he, hm, hr2, hst.step hg hs, hg⟩
theorem rexpr_row {x : LExpr} {va : Value} (hm : 1 ≤ m) (h : RowE w X (m - 1) va x.args) : RExpr m X (made2 w X) (exprCells x va) x := by
  obtain ⟨m, rfl⟩ : ∃ q, m = q + 1 := ⟨m - 1, by omega⟩
  exact ⟨va, rfl, h⟩
theorem rowE_one {g : Nat} {T : TypeId} {x : LExpr} {va : Value} (hm : 1 ≤ m) (h : Blk X g T #[.int .i64 x.kind, .int .i64 x.op, .int .i64 x.n, .string x.name, va]) (hx : RowE w X (m - 1) va x.args) (hg : w.heap.size + 2 ≤ g) (hl : g < X.heap.size) : RowE w X m (.slice (some ⟨g, 0, none⟩) 1 1) [x] :=
  row_one h (rexpr_row hm hx) ⟨hg, hl⟩
theorem rowE_two {g : Nat} {T : TypeId} {x y : LExpr} {va vb : Value} (hm : 1 ≤ m) (h : Blk X g T #[.int .i64 x.kind, .int .i64 x.op, .int .i64 x.n, .string x.name, va, .int .i64 y.kind, .int .i64 y.op, .int .i64 y.n, .string y.name, vb]) (hx : RowE w X (m - 1) va x.args) (hy : RowE w X (m - 1) vb y.args) (hg : w.heap.size + 2 ≤ g) (hl : g < X.heap.size) : RowE w X m (.slice (some ⟨g, 0, none⟩) 2 2) [x, y] :=
  row_two h (rexpr_row hm hx) (rexpr_row hm hy) ⟨hg, hl⟩
/-- the way out, where the row was built just now -/
theorem expr_end_alloc (h : StE w sb X nv na nf Av Aa Af cv ca cf loop) (o : Obj) (x : LExpr) (va : Value) (hmade : madeE c m x) (hargs : RowE w (X.alloc o) m va x.args) :
    Blk ((((((X.setCell ⟨w.heap.size + 1, 0, none⟩ (.int .i64 x.kind)).setCell ⟨w.heap.size + 1, 1, none⟩ (.int .i64 x.op)).setCell ⟨w.heap.size + 1, 2, none⟩ (.int .i64 x.n)).setCell ⟨w.heap.size + 1, 3, none⟩ (.string x.name)).setCell ⟨w.heap.size + 1, 4, none⟩ va).alloc o) (w.heap.size + 1) 42 #[.int .i64 x.kind, .int .i64 x.op, .int .i64 x.n, .string x.name, va] ∧
    ExprPost w sb c m (.returned (.agg #[.int .i64 x.kind, .int .i64 x.op, .int .i64 x.n, .string x.name, va])) ((((((X.setCell ⟨w.heap.size + 1, 0, none⟩ (.int .i64 x.kind)).setCell ⟨w.heap.size + 1, 1, none⟩ (.int .i64 x.op)).setCell ⟨w.heap.size + 1, 2, none⟩ (.int .i64 x.n)).setCell ⟨w.heap.size + 1, 3, none⟩ (.string x.name)).setCell ⟨w.heap.size + 1, 4, none⟩ va).alloc o) := by
  have hlt := h.lt
  have e := expr_end (h.below (below1 _ _)) x va hmade hargs
  rw [World.setCell_alloc_past o _ 0 _ hlt, World.setCell_alloc_past o _ 1 _ (by simpa using hlt), World.setCell_alloc_past o _ 2 _ (by simpa using hlt), World.setCell_alloc_past o _ 3 _ (by simpa using hlt), World.setCell_alloc_past o _ 4 _ (by simpa using hlt)] at e
  exact e
end
end Go.Proofs.YtmignlclfbaifaaGreat
