/- The law CheckFirst: what is wrong first is told. Printed by wip/gen_trlfirst.py. -/
import Derived.Test.YtmignlclfbaifaaGreatTrLBad
import Derived.Test.YtmignlclfbaifaaGreatTrWrong2
namespace Go.Proofs.YtmignlclfbaifaaGreat
open Go.RowKit

def badThree : List LStmt := [lone 6 ⟨#[]⟩ [], lone 1 strangeN [oneX], lone 10 ⟨#[]⟩ [callX mainN oneX]]
def wantThree : List Int := [53, 51, 52]
theorem three_at {i : Nat} (hi : i < badThree.length) : ∃ (j : Nat) (hj : j < wrongL.length), badThree[i] = wrongL[j] ∧ wantThree[i]'hi = wantL[j]'hj := by
  have h3 : i < 3 := hi
  rcases (by omega : i = 0 ∨ i = 1 ∨ i = 2) with rfl | rfl | rfl
  · exact ⟨1, by decide, rfl, rfl⟩
  · exact ⟨2, by decide, rfl, rfl⟩
  · exact ⟨5, by decide, rfl, rfl⟩
theorem three_right {D : Nat} (hD : 4 ≤ D) {i : Nat} (hi : i < badThree.length) : stmtB D 40 badThree[i] = true := by
  obtain ⟨j, hj, e, _⟩ := three_at hi
  rw [e]; exact bad_right hD hj
theorem Alike.trans {p q r : LProg} (h : Alike p q) (k : Alike q r) : Alike p r := ⟨k.arrs.trans h.arrs, k.funs.trans h.funs⟩
section
variable {p : LProg}
theorem first_one (h : MadeP p) {D : Nat} (hD : 4 ≤ D) {k i o : Nat} (hk : k < p.funcs.length) (hi : i < badThree.length) (ho : o < badThree.length) :
    checkE D (bodyP p k (badThree[i] :: (p.funcs[k].body ++ [badThree[o]]))) = (wantThree[i]'hi, (k : Int), 0) := by
  have hf := List.getElem_mem hk
  have hb : ∀ s ∈ badThree[i] :: (p.funcs[k].body ++ [badThree[o]]), stmtB D 40 s = true := fun s hs => by
    rcases List.mem_cons.1 hs with rfl | hs
    · exact three_right hD hi
    · rcases List.mem_append.1 hs with h1 | h1
      · exact ok_body h.ok hD hf s h1
      · obtain rfl := List.mem_singleton.1 h1; exact three_right hD ho
  have hr := right_body (k := k) h.ok hD hb
  have hq := body_at p hk (badThree[i] :: (p.funcs[k].body ++ [badThree[o]]))
  have ha := body_alike p k (badThree[i] :: (p.funcs[k].body ++ [badThree[o]]))
  obtain ⟨j, hj, e1, e2⟩ := three_at hi
  rw [e2]
  rw [e1] at hr hq ha ⊢
  exact check_ahead h hD ha hr hk (by rw [body_len]; exact hk) (fun j' h1 h2 hlt => body_ne p h2 (by omega) _) hj hq
theorem first_two (h : MadeP p) {D : Nat} (hD : 4 ≤ D) {k i o m : Nat} (hk : k < p.funcs.length) (hi : i < badThree.length) (ho : o < badThree.length) (hm : m + 1 = p.funcs.length) (hm2 : m < (bodyP p k (badThree[i] :: (p.funcs[k].body ++ [badThree[o]]))).funcs.length) :
    checkE D (bodyP (bodyP p k (badThree[i] :: (p.funcs[k].body ++ [badThree[o]]))) m ((bodyP p k (badThree[i] :: (p.funcs[k].body ++ [badThree[o]]))).funcs[m].body ++ [badThree[o]])) = (wantThree[i]'hi, (k : Int), 0) := by
  have hf := List.getElem_mem hk
  have hmp : m < p.funcs.length := by omega
  have hb1 : ∀ s ∈ badThree[i] :: (p.funcs[k].body ++ [badThree[o]]), stmtB D 40 s = true := fun s hs => by
    rcases List.mem_cons.1 hs with rfl | hs
    · exact three_right hD hi
    · rcases List.mem_append.1 hs with h1 | h1
      · exact ok_body h.ok hD hf s h1
      · obtain rfl := List.mem_singleton.1 h1; exact three_right hD ho
  obtain ⟨b1, hb⟩ : ∃ b, b = badThree[i] :: (p.funcs[k].body ++ [badThree[o]]) := ⟨_, rfl⟩
  rw [← hb] at hb1
  have hq1m : ∀ s ∈ ((bodyP p k b1).funcs[m]'(by rw [body_len]; exact hmp)).body, stmtB D 40 s = true := fun s hs => by
    by_cases e : k = m
    · subst e
      rw [body_at p hmp b1] at hs
      exact hb1 s hs
    · rw [body_ne p hmp e b1] at hs
      exact ok_body h.ok hD (List.getElem_mem hmp) s hs
  have hb2 : ∀ s ∈ ((bodyP p k b1).funcs[m]'(by rw [body_len]; exact hmp)).body ++ [badThree[o]], stmtB D 40 s = true := fun s hs => by
    rcases List.mem_append.1 hs with h1 | h1
    · exact hq1m s h1
    · obtain rfl := List.mem_singleton.1 h1; exact three_right hD ho
  have key : ∀ (b : List LStmt), b = ((bodyP p k b1).funcs[m]'(by rw [body_len]; exact hmp)).body ++ [badThree[o]] → checkE D (bodyP (bodyP p k b1) m b) = (wantThree[i]'hi, (k : Int), 0) := fun b hbb => by
    have hr : rightB D (bodyP (bodyP p k b1) m b) = true := right_body' (right_body h.ok hD hb1) (by rw [hbb]; exact hb2)
    have ha := (body_alike p k b1).trans (body_alike (bodyP p k b1) m b)
    have hmq : m < (bodyP p k b1).funcs.length := by rw [body_len]; exact hmp
    have hkq : k < (bodyP p k b1).funcs.length := by rw [body_len]; exact hk
    have hq : ∃ r, (bodyP (bodyP p k b1) m b).funcs[k]'(by rw [body_len, body_len]; exact hk) = { p.funcs[k] with body := badThree[i] :: r } := by
      by_cases e : m = k
      · subst e
        refine ⟨p.funcs[m].body ++ [badThree[o]] ++ [badThree[o]], ?_⟩
        rw [body_at _ hmq b, hbb, body_at p hmp b1, hb]
        rfl
      · refine ⟨p.funcs[k].body ++ [badThree[o]], ?_⟩
        rw [body_ne _ hkq e b, body_at p hk b1, hb]
    obtain ⟨r, hq⟩ := hq
    obtain ⟨j, hj, e1, e2⟩ := three_at hi
    rw [e1] at hq
    rw [e2]
    refine check_ahead h hD ha hr hk (by rw [body_len, body_len]; exact hk) (fun j' h1 h2 hlt => ?_) hj hq
    have hjq : j' < (bodyP p k b1).funcs.length := by rw [body_len]; exact h2
    rw [body_ne _ hjq (by omega) b, body_ne p h2 (by omega) b1]
  subst hb
  exact key _ rfl
theorem body_small {n k : Nat} {b : List LStmt} (h : ∀ f ∈ p.funcs, f.body.length ≤ n) (hb : b.length ≤ n) : ∀ f ∈ (bodyP p k b).funcs, f.body.length ≤ n := fun f hf => by
  rcases body_mem hf with h1 | ⟨hk, rfl⟩
  · exact h f h1
  · exact hb
/-- an append to nothing -/
theorem below_nil {w X : World} (h : w.grownBy X (.slice none 0 0 : Value).ownBlock) : Below w.heap.size w X := ⟨h.os, h.tape, h.output, h.size, fun q hq => h.block q hq (fun e => by cases e)⟩
/-- .. and to what came of it, behind a block that was laid -/
theorem below_two {w X Y : World} {n c : Nat} {A : Option Addr} {T : TypeId} {sz : Nat} {xs : List Value} {o : Obj} (h : Below w.heap.size w X) (hrow : X.ownsRow w.heap.size T sz (.slice A n c) n xs) (h2 : (X.alloc o).grownBy Y (.slice A n c : Value).ownBlock) : Below w.heap.size w Y := by
  have h1 := h.size
  have h3 := h2.size
  simp at h3
  exact ⟨h2.os.trans h.os, h2.tape.trans h.tape, h2.output.trans h.output, by omega, fun b hb => (h2.block b (by simp; omega) (fun e => by have := (hrow.lt b e.symm).1; omega)).trans ((Below.heap_alloc X o b (by omega)).trans (h.block b hb))⟩
/-- so few functions, and statements -/
structure FewN (n : Nat) (q : LProg) : Prop where
  arrs : q.arrays.length ≤ 400
  funs : q.funcs.length ≤ 400
  each : ∀ f ∈ q.funcs, f.params.length ≤ 400 ∧ f.locals.length ≤ 400 ∧ (allL 8 f.body false).length ≤ n
theorem FewN.body {n m : Nat} {q : LProg} (h : FewN n q) {k : Nat} {b : List LStmt} (hb : (allL 8 b false).length ≤ m) (hn : n ≤ m) : FewN m (bodyP q k b) := by
  refine ⟨h.arrs, by rw [body_len]; exact h.funs, fun f hf => ?_⟩
  rcases body_mem hf with h1 | ⟨hk, rfl⟩
  · have := h.each f h1; omega
  · have := h.each _ (List.getElem_mem hk)
    exact ⟨this.1, this.2.1, hb⟩
theorem FewN.fewP {n : Nat} {q : LProg} (h : FewN n q) (hn : n ≤ 20000) : FewP 8 q := few_of h.arrs h.funs fun f hf => by have := h.each f hf; omega
theorem GenP.fewN (h : GenP p) : FewN 10000 p := ⟨by have := h.few.2; omega, by have := h.few.1; omega, fun f hf => by have := h.func 8 hf; omega⟩
theorem three_small : ∀ s ∈ badThree, (allL 8 [s] false).length ≤ 100 := by decide +kernel
theorem few_ends {n : Nat} {b : List LStmt} (h : (allL 8 b false).length ≤ n) {i o : Nat} (hi : i < badThree.length) (ho : o < badThree.length) : (allL 8 (badThree[i] :: (b ++ [badThree[o]])) false).length ≤ n + 200 := by
  have e : badThree[i] :: (b ++ [badThree[o]]) = [badThree[i]] ++ (b ++ [badThree[o]]) := rfl
  rw [e, allL_append, allL_append, List.length_append, List.length_append]
  have h1 := three_small _ (List.getElem_mem hi)
  have h2 := three_small _ (List.getElem_mem ho)
  omega
theorem few_end {n : Nat} {b : List LStmt} (h : (allL 8 b false).length ≤ n) {o : Nat} (ho : o < badThree.length) : (allL 8 (b ++ [badThree[o]]) false).length ≤ n + 200 := by
  rw [allL_append, List.length_append]
  have h2 := three_small _ (List.getElem_mem ho)
  omega
end
/-- a program as it lies, the functions' row one's own -/
structure PIn (w : World) (q : LProg) (A1 : Option Addr) (na c1 g nf c2 B3 lo : Nat) (css : List (List Value)) : Prop where
  na_ : na = q.arrays.length
  nf_ : nf = q.funcs.length
  arrs : SlR w (· < lo) 2 RArr (.slice A1 na c1) q.arrays
  low : lo ≤ B3
  row : OwnX w (okX lo w (.slice (some ⟨g, 0, none⟩) nf c2)) B3 49 4 (RFuncM 8) (.slice (some ⟨g, 0, none⟩) nf c2) q.funcs css
section
variable {w w' : World} {q : LProg} {A1 : Option Addr} {na c1 g nf c2 B3 lo : Nat} {css : List (List Value)}
theorem ProgIn.pin (h : ProgIn w q A1 c1 g c2 B3 lo css) : PIn w q A1 q.arrays.length c1 g q.funcs.length c2 B3 lo css := ⟨rfl, rfl, h.arrs, h.low, h.row⟩
theorem PIn.at_g (h : PIn w q A1 na c1 g nf c2 B3 lo css) : lo ≤ g ∧ g < w.heap.size := by
  have h1 := h.row.row.lt g rfl; have := h.low; omega
theorem PIn.below (h : PIn w q A1 na c1 g nf c2 B3 lo css) (hb : Below w.heap.size w w') : PIn w' q A1 na c1 g nf c2 B3 lo css := by
  have hl := h.low
  have hg := h.at_g
  exact ⟨h.na_, h.nf_, h.arrs.imp (fun _ h => h) (fun b hb2 => hb.block b (by have hb3 : b < lo := hb2; omega)) fun _ _ _ r => r, hl, h.row.below (mono_func 8) hb (fun b hb => hb.2.1) (fun b hq => ⟨hq.1, Nat.lt_of_lt_of_le hq.2.1 hb.size, hq.2.2⟩) fun k e hk => hk.2.2 e⟩
/-- function k's cells -/
theorem PIn.fn (h : PIn w q A1 na c1 g nf c2 B3 lo css) {k : Nat} (hk : k < q.funcs.length) : ∃ (Ap Al Ab : Option Addr) (cp cl cb : Nat),
    w.cell? ⟨g, k * 4, none⟩ = some (.string q.funcs[k].name) ∧ w.cell? ⟨g, k * 4 + 1, none⟩ = some (.slice Ap q.funcs[k].params.length cp) ∧ w.cell? ⟨g, k * 4 + 2, none⟩ = some (.slice Al q.funcs[k].locals.length cl) ∧ w.cell? ⟨g, k * 4 + 3, none⟩ = some (.slice Ab q.funcs[k].body.length cb) ∧
    SlR w (okX lo w (.slice (some ⟨g, 0, none⟩) nf c2)) 1 RStr (.slice Ap q.funcs[k].params.length cp) q.funcs[k].params ∧ SlR w (okX lo w (.slice (some ⟨g, 0, none⟩) nf c2)) 1 RStr (.slice Al q.funcs[k].locals.length cl) q.funcs[k].locals ∧
    SlR w (okX lo w (.slice (some ⟨g, 0, none⟩) nf c2)) 5 (RStmt 8 w (okX lo w (.slice (some ⟨g, 0, none⟩) nf c2))) (.slice Ab q.funcs[k].body.length cb) q.funcs[k].body := by
  have hlen := h.row.len
  obtain ⟨vp, vl, vb, hcs, hpar, hloc, hbod⟩ := h.row.elems k (by omega) hk
  have hcell : ∀ (j : Nat) (hj : j < 4), w.cell? ⟨g, k * 4 + j, none⟩ = some ([Value.string q.funcs[k].name, vp, vl, vb][j]'(by simpa using hj)) := fun j hj => by
    have h := h.row.cell h.nf_ (j := k) (i := j) (by omega) (by rw [hcs]; exact hj)
    simp only [hcs] at h
    exact h
  obtain ⟨Ap, cp, rfl, _, _⟩ := hpar.val
  obtain ⟨Al, cl, rfl, _, _⟩ := hloc.val
  obtain ⟨Ab, cb, rfl, _, _⟩ := hbod.val
  exact ⟨Ap, Al, Ab, cp, cl, cb, hcell 0 (by omega), hcell 1 (by omega), hcell 2 (by omega), hcell 3 (by omega), hpar, hloc, hbod⟩
/-- what a store into the row needs -/
theorem PIn.open_ (h : PIn w q A1 na c1 g nf c2 B3 lo css) {k : Nat} (hk : k < q.funcs.length) : (w.frozen? ⟨g, k * 4, none⟩ = false ∧ w.frozen? ⟨g, k * 4 + 1, none⟩ = false ∧ w.frozen? ⟨g, k * 4 + 2, none⟩ = false ∧ w.frozen? ⟨g, k * 4 + 3, none⟩ = false) ∧
    (∃ u, w.cell? ⟨g, k * 4, none⟩ = some u) ∧ (∃ u, w.cell? ⟨g, k * 4 + 1, none⟩ = some u) ∧ (∃ u, w.cell? ⟨g, k * 4 + 2, none⟩ = some u) ∧ ∃ u, w.cell? ⟨g, k * 4 + 3, none⟩ = some u := by
  obtain ⟨Ap, Al, Ab, cp, cl, cb, e0, e1, e2, e3, _⟩ := h.fn hk
  exact ⟨⟨h.row.frozen h.nf_ _, h.row.frozen h.nf_ _, h.row.frozen h.nf_ _, h.row.frozen h.nf_ _⟩, ⟨_, e0⟩, ⟨_, e1⟩, ⟨_, e2⟩, ⟨_, e3⟩⟩
theorem body_set2 (p : LProg) {k : Nat} (hk : k < p.funcs.length) (b : List LStmt) : (bodyP p k b).funcs = p.funcs.set k ⟨p.funcs[k].name, p.funcs[k].params, p.funcs[k].locals, b⟩ := body_set p hk b
/-- a function with another body is put into its place -/
theorem PIn.put {W0 X : World} (h : PIn w q A1 na c1 g nf c2 B3 lo css) {k : Nat} (hk : k < q.funcs.length) {vp vl vb : Value} {b : List LStmt} (hpar : SlR w (okX lo w (.slice (some ⟨g, 0, none⟩) nf c2)) 1 RStr vp q.funcs[k].params) (hloc : SlR w (okX lo w (.slice (some ⟨g, 0, none⟩) nf c2)) 1 RStr vl q.funcs[k].locals)
    (hbod : SlR w (okX lo w (.slice (some ⟨g, 0, none⟩) nf c2)) 5 (RStmt 8 w (okX lo w (.slice (some ⟨g, 0, none⟩) nf c2))) vb b) (hX : (((w.setCell ⟨g, k * 4, none⟩ (.string q.funcs[k].name)).setCell ⟨g, k * 4 + 1, none⟩ vp).setCell ⟨g, k * 4 + 2, none⟩ vl).setCell ⟨g, k * 4 + 3, none⟩ vb = X) :
    PIn X (bodyP q k b) A1 na c1 g nf c2 B3 lo (css.set k [.string q.funcs[k].name, vp, vl, vb]) ∧ (∀ j, j ≠ g → X.heap[j]? = w.heap[j]?) ∧ X.heap.size = w.heap.size ∧ (Below W0.heap.size W0 w → W0.heap.size ≤ g → Below W0.heap.size W0 X) := by
  have hg := h.at_g
  have hput := h.row.put4 (mono_func 8) h.nf_ (by rw [h.row.len]; exact hk) (x := (⟨q.funcs[k].name, q.funcs[k].params, q.funcs[k].locals, b⟩ : LFunc)) ⟨_, _, _, rfl, hpar, hloc, hbod⟩
  rw [hX, ← body_set2 q hk] at hput
  have hset : ∀ j, j ≠ g → X.heap[j]? = w.heap[j]? := fun j hne => by
    rw [← hX]
    exact (Below.heap_setCell _ ⟨g, k * 4 + 3, none⟩ _ j hne).trans ((Below.heap_setCell _ ⟨g, k * 4 + 2, none⟩ _ j hne).trans ((Below.heap_setCell _ ⟨g, k * 4 + 1, none⟩ _ j hne).trans (Below.heap_setCell _ ⟨g, k * 4, none⟩ _ j hne)))
  have hsz : X.heap.size = w.heap.size := by rw [← hX]; simp [World.setCell]
  refine ⟨⟨h.na_, by rw [body_len]; exact h.nf_, h.arrs.imp (fun _ h => h) (fun b hb => hset b (by have h1 : b < lo := hb; omega)) fun _ _ _ r => r, h.low, ?_⟩, hset, hsz, fun hb hle => ?_⟩
  · have e : okX lo X (.slice (some ⟨g, 0, none⟩) nf c2) = okX lo w (.slice (some ⟨g, 0, none⟩) nf c2) := by unfold okX; rw [hsz]
    rw [e]; exact hput
  · rw [← hX]
    exact (((hb.setCell (p := ⟨g, k * 4, none⟩) hle _).setCell (p := ⟨g, k * 4 + 1, none⟩) hle _).setCell (p := ⟨g, k * 4 + 2, none⟩) hle _).setCell (p := ⟨g, k * 4 + 3, none⟩) hle _
/-- Check of it -/
theorem PIn.check (h : PIn w q A1 na c1 g nf c2 B3 lo css) {n : Nat} (hf : FewN n q) (hn : n ≤ 20000) {e k m : Int} (hc : checkE 8 q = (e, k, m)) :
    Calls Tryz.prog 13 #[.agg #[.slice A1 na c1, .slice (some ⟨g, 0, none⟩) nf c2]] w fun r w' => r = .returned (.tuple #[.int .i64 e, .agg #[.int .i64 k, .int .i64 m]]) ∧ Below w.heap.size w w' := by
  have hg := h.at_g
  have ha : SlR w (· < w.heap.size) 2 RArr (.slice A1 na c1) q.arrays := h.arrs.imp (fun b hb => by have h1 : b < lo := hb; show b < w.heap.size; omega) (fun _ _ => rfl) fun _ _ _ r => r
  have hs := h.row.slr (mono_func 8) (ok' := (· < w.heap.size)) (fun b hb => hb.2.1) (fun k e => by have e' : g = k := (by simpa [Value.ownBlock] using e); show k < w.heap.size; omega)
  have hna := h.na_
  have hnf := h.nf_
  subst hna hnf
  have h2 := check_any 7 q A1 (some ⟨g, 0, none⟩) c1 c2 w ha hs (hf.fewP hn)
  rw [hc] at h2
  exact h2
end
/-- a body's new row, whose slice is stored into a function's box -/
theorem body_row {Wb X0 X : World} {lo g gf nn cv base : Nat} {Av : Option Addr} {T : TypeId} {css : List (List Value)} {l : List LStmt} {u0 u1 u2 u3 : Value} {ok : Nat → Prop}
    (hX : Below Wb.heap.size Wb X) (hgf : Wb.heap.size ≤ gf) (hZ : Below X0.heap.size X0 X) (hgf0 : gf < X0.heap.size) (hlo : lo ≤ X0.heap.size) (hg : g < X0.heap.size) (hbase : X0.heap.size ≤ base) (hrow : X.ownsRow base T 5 (.slice Av nn cv) nn css.flatten) (hnn : nn = l.length)
    (hok : ∀ b, ok b → lo ≤ b ∧ b < gf ∧ b ≠ g) (h1 : css.length = l.length) (e1 : ∀ cs ∈ css, cs.length = 5) (r1 : ∀ (i : Nat) (a : i < css.length) (b : i < l.length), RStmt 8 X0 ok css[i] l[i])
    (hf : Blk X gf 49 #[u0, u1, u2, u3]) (c2 nf : Nat) :
    Below Wb.heap.size Wb (X.setCell ⟨gf, 3, none⟩ (.slice Av nn cv)) ∧ Blk (X.setCell ⟨gf, 3, none⟩ (.slice Av nn cv)) gf 49 #[u0, u1, u2, .slice Av nn cv] ∧
      SlR (X.setCell ⟨gf, 3, none⟩ (.slice Av nn cv)) (okX lo (X.setCell ⟨gf, 3, none⟩ (.slice Av nn cv)) (.slice (some ⟨g, 0, none⟩) nf c2)) 5 (RStmt 8 (X.setCell ⟨gf, 3, none⟩ (.slice Av nn cv)) (okX lo (X.setCell ⟨gf, 3, none⟩ (.slice Av nn cv)) (.slice (some ⟨g, 0, none⟩) nf c2))) (.slice Av nn cv) l := by
  have hgr : X.grownBy (X.setCell ⟨gf, 3, none⟩ (.slice Av nn cv)) (some gf) := grown_set X ⟨gf, 3, none⟩ _
  refine ⟨hX.setCell (p := ⟨gf, 3, none⟩) hgf _, hf.set_ 3 _, ?_⟩
  generalize (X.setCell ⟨gf, 3, none⟩ (.slice Av nn cv)) = Y at *
  have hr2 := hrow.kept hgr (by
    cases e : (.slice Av nn cv : Value).ownBlock with
    | none => exact .inl rfl
    | some q => exact .inr (fun e2 => by have h3 := (hrow.lt q e).1; have h4 := Option.some.inj e2; omega))
  have hsz := hgr.size
  have hz := hZ.size
  refine SlR.of_own hr2 hnn h1 e1 (fun i a b => mono_stmt 8 _ _ _ _ _ _ (r1 i a b) (fun b hb => ⟨(hok b hb).1, by have := hok b hb; omega, fun e => (hok b hb).2.2 (by have h4 : g = b := (by simpa [Value.ownBlock] using e); exact h4.symm)⟩) (fun b hb => (hgr.block b (by have := hok b hb; omega) (fun e => by have h1 := Option.some.inj e; have := hok b hb; omega)).trans (hZ.block b (by have := hok b hb; omega)))) (fun q e => by
      have h3 := hr2.lt q e
      exact ⟨by omega, h3.2, fun e2 => by have h4 : g = q := (by simpa [Value.ownBlock] using e2); omega⟩)
/-- rows with one more at an end -/
theorem rows_snoc {α : Type} {R : List Value → α → Prop} {css : List (List Value)} {l : List α} {cs : List Value} {x : α} (h1 : css.length = l.length) (r : ∀ (i : Nat) (a : i < css.length) (b : i < l.length), R css[i] l[i]) (hx : R cs x) : ∀ (i : Nat) (a : i < (css ++ [cs]).length) (b : i < (l ++ [x]).length), R (css ++ [cs])[i] (l ++ [x])[i] := fun i a b => by
  by_cases h : i < css.length
  · rw [List.getElem_append_left h, List.getElem_append_left (by omega)]; exact r i h (by omega)
  · have e : i = css.length := by simp at a; omega
    subst e
    rw [List.getElem_append_right (Nat.le_refl _), List.getElem_append_right (by omega)]
    simpa [h1] using hx
theorem rows_cons {α : Type} {R : List Value → α → Prop} {css : List (List Value)} {l : List α} {cs : List Value} {x : α} (r : ∀ (i : Nat) (a : i < css.length) (b : i < l.length), R css[i] l[i]) (hx : R cs x) : ∀ (i : Nat) (a : i < (cs :: css).length) (b : i < (x :: l).length), R (cs :: css)[i] (x :: l)[i]
  | 0, _, _ => hx
  | i + 1, a, b => r i (by simpa using a) (by simpa using b)

theorem three_want {X : World} {g : Nat} {T : TypeId} {i : Nat} (h : Blk X g T #[.int .i64 53, .int .i64 51, .int .i64 52]) (hi : i < wantThree.length) : X.cell? ⟨g, i, none⟩ = some (.int .i64 (wantThree[i]'hi)) := by
  have h3 : i < 3 := hi
  rcases (by omega : i = 0 ∨ i = 1 ∨ i = 2) with rfl | rfl | rfl
  · exact h.cell 0
  · exact h.cell 1
  · exact h.cell 2
set_option maxRecDepth 100000 in
set_option maxHeartbeats 8000000 in
theorem checkFirst_walk (v : Value) (which what other : Int) (l : List Int) (hI : ∀ x ∈ l, I64 x) (W0 : World) (hraw0 : SlR W0 (· < W0.heap.size) 1 RInt v l) (ht1 : I64 which) (ht2 : I64 what) (ht3 : I64 other) :
    Calls Tryz.prog 8 #[v, .int .i64 which, .int .i64 what, .int .i64 other] W0 fun e w' => e = .returned (.bool true) ∧ Below W0.heap.size W0 w' := by
  obtain ⟨zi, hj0, hj1, hj2, hj3⟩ := info_parts info_stmt
  obtain ⟨Ar, cr, hv, _, _⟩ := hraw0.val
  subst hv
  have hraw := hraw0
  clear hraw0
  have HT1 := Lib.hid ht1
  have HT2 := Lib.hid ht2
  have HT3 := Lib.hid ht3
  clear ht1 ht2 ht3
  go_enter Tryz.func8, Tryz.ntmps8
  go_upto_region 2 with (go_at_call 9; refine (awake5_any W0).mono ?_; rintro e W1 ⟨rfl, hb1⟩)
  have hraw1 : SlR W1 (· < W1.heap.size) 1 RInt (.slice Ar l.length cr) l := hb_slr hraw hb1
  have HPR := Lib.hid (prog_any l Ar cr W1 hraw1 hI)
  have HB1 := Lib.hid hb1
  clear hraw hraw1 hb1
  go_upto_region 3 with (go_at_call 11; refine HPR.out.mono ?_; intro e W2 hp; obtain ⟨p, A1, c1, g, c2, B3, lo, css, rfl, hb2, hlo, hin2⟩ := hp.inn)
  refine wp_world ?_
  intro W hW
  have hb : Below W2.heap.size W2 W := by rw [← hW]; exact below1 _ _
  have hp : Blk W W2.heap.size 27 #[.slice A1 p.arrays.length c1, .slice (some ⟨g, 0, none⟩) p.funcs.length c2] := by rw [← hW]; exact Blk.new _ _ _
  have hB : Below W0.heap.size W0 W := HB1.out.trans ((hb2.trans (hb.mono hb2.size)).mono HB1.out.size)
  have hin := hin2.below hb
  have hg2 := hin2.row.row.lt g rfl
  have hlo3 := hin2.low
  obtain ⟨pb, hpb⟩ : ∃ b, W2.heap.size = b := ⟨_, rfl⟩
  rw [hpb] at hp hg2 ⊢
  have hgen := hin.gen
  have hpos := hgen.pos
  have HORD : Hid (W0.heap.size ≤ lo ∧ lo ≤ g ∧ g < pb ∧ pb < W.heap.size) := Lib.hid ⟨Nat.le_trans HB1.out.size hlo, by have := hg2.1; omega, hg2.2, hp.lt⟩
  have hpin := hin.pin
  obtain ⟨na, hna⟩ : ∃ n, n = p.arrays.length := ⟨_, rfl⟩
  obtain ⟨nf, hnf⟩ : ∃ n, n = p.funcs.length := ⟨_, rfl⟩
  rw [← hna, ← hnf] at hpin hp
  rw [← hna, ← hnf]
  have hnf3 : nf ≤ 3 := by rw [hnf]; exact hgen.few.1
  have hnf0 : 0 < nf := by rw [hnf]; exact hpos
  have HIN := Lib.hid hpin
  have HGEN := Lib.hid hgen
  have HNF := Lib.hid hnf
  have HB := Lib.hid hB
  have HP := Lib.hid hp
  obtain ⟨k, hk, -, hpk⟩ := pick5_n which HT1.out nf hnf0
  have HPK := Lib.hid hpk
  obtain ⟨i, hi, -, hpi⟩ := pick5_n what HT2.out 3 (by omega)
  have HPI := Lib.hid hpi
  obtain ⟨o, ho, -, hpo⟩ := pick5_n other HT3.out 3 (by omega)
  have HPO := Lib.hid hpo
  have p1 := hp.cell 1
  clear hW hb hp hB hin hin2 hb2 hlo hg2 hlo3 hpb hna hnf hpos hpk hpi hpo HB1 HPR HT1 HT2 HT3 hpin hgen
  go_upto_region 4 with (go_at_call 19; refine (HPK.out _).mono ?_; rintro e W4 ⟨rfl, hw⟩; subst hw)
  clear p1
  go_upto_region 7 with fail
  refine wp_world ?_
  intro Wb hWb
  have x0 : Blk Wb (W.heap.size) 42 #[.int .i64 1, .int .i64 0, .int .i64 1, .string ⟨#[]⟩, .slice none 0 0] := by rw [← hWb]; exact (((((Blk.new _ _ _).alloc _).alloc _).alloc _).alloc _).alloc _
  have x1 : Blk Wb (W.heap.size + 1) 42 #[.int .i64 1, .int .i64 0, .int .i64 1, .string ⟨#[]⟩, .slice none 0 0] := by rw [← hWb]; exact ((((Blk.new_at _ _ _ (by simp)).alloc _).alloc _).alloc _).alloc _
  have x2 : Blk Wb (W.heap.size + 1 + 1) 42 #[.int .i64 1, .int .i64 0, .int .i64 1, .string ⟨#[]⟩, .slice none 0 0] := by rw [← hWb]; exact (((Blk.new_at _ _ _ (by simp)).alloc _).alloc _).alloc _
  have x3 : Blk Wb (W.heap.size + 1 + 1 + 1) 42 #[.int .i64 5, .int .i64 0, .int .i64 0, .string ⟨#[109, 97, 105, 110]⟩, .slice (some ⟨W.heap.size + 1 + 1, 0, none⟩) 1 1] := by rw [← hWb]; exact ((Blk.new_at _ _ _ (by simp)).alloc _).alloc _
  have x4 : Blk Wb (W.heap.size + 1 + 1 + 1 + 1) 45 #[.int .i64 6, .string ⟨#[]⟩, .slice none 0 0, .slice none 0 0, .slice none 0 0, .int .i64 1, .string ⟨#[115, 116, 114, 97, 110, 103, 101]⟩, .slice (some ⟨W.heap.size + 1, 0, none⟩) 1 1, .slice none 0 0, .slice none 0 0, .int .i64 10, .string ⟨#[]⟩, .slice (some ⟨W.heap.size + 1 + 1 + 1, 0, none⟩) 1 1, .slice none 0 0, .slice none 0 0] := by rw [← hWb]; exact (Blk.new_at _ _ _ (by simp)).alloc _
  have x5 : Blk Wb (W.heap.size + 1 + 1 + 1 + 1 + 1) 32 #[.int .i64 53, .int .i64 51, .int .i64 52] := by rw [← hWb]; exact Blk.new_at _ _ _ (by simp)
  have hB : Below W.heap.size W Wb := by rw [← hWb]; exact (((((((Below.refl _ _).alloc (Nat.le_refl _) _).alloc (by simp <;> omega) _).alloc (by simp <;> omega) _).alloc (by simp <;> omega) _).alloc (by simp <;> omega) _).alloc (by simp <;> omega) _)
  have o1 := row_on (ok := (fun b => W.heap.size ≤ b ∧ b < Wb.heap.size)) x1 ⟨by omega, x1.lt⟩ 7
  have o3 := row_in (ok := (fun b => W.heap.size ≤ b ∧ b < Wb.heap.size)) x3 ⟨by omega, x3.lt⟩ (row_on (ok := (fun b => W.heap.size ≤ b ∧ b < Wb.heap.size)) x2 ⟨by omega, x2.lt⟩ 6)
  have hbad : SlR Wb (fun b => W.heap.size ≤ b ∧ b < Wb.heap.size) 5 (RStmt 8 Wb (fun b => W.heap.size ≤ b ∧ b < Wb.heap.size)) (.slice (some ⟨W.heap.size + 1 + 1 + 1 + 1, 0, none⟩) 3 3) badThree :=
    SlR.lit [stmB 6 ⟨#[]⟩ (.slice none 0 0), stmB 1 ⟨#[115, 116, 114, 97, 110, 103, 101]⟩ (.slice (some ⟨W.heap.size + 1, 0, none⟩) 1 1), stmB 10 ⟨#[]⟩ (.slice (some ⟨W.heap.size + 1 + 1 + 1, 0, none⟩) 1 1)] x4 rfl ⟨⟨rfl, rstm (SlR.nil_ _ _ _ _)⟩, ⟨rfl, rstm o1⟩, ⟨rfl, rstm o3⟩, trivial⟩ rfl ⟨by omega, x4.lt⟩ (by omega)
  have hwant := x5
  obtain ⟨bb, hbb⟩ : ∃ b, W.heap.size + 1 + 1 + 1 + 1 = b := ⟨_, rfl⟩
  obtain ⟨bw, hbw⟩ : ∃ b, W.heap.size + 1 + 1 + 1 + 1 + 1 = b := ⟨_, rfl⟩
  obtain ⟨bo, hbo⟩ : ∃ b, W.heap.size = b := ⟨_, rfl⟩
  rw [hbb] at hbad
  rw [hbw] at hwant
  have hbwg : W.heap.size ≤ bw := by omega
  rw [hbw, hbb]
  clear hWb o1 o3 hbb hbw hbo bo x0 x1 x2 x3 x4 x5
  have HBAD := Lib.hid hbad
  have HWANT := Lib.hid hwant
  have HBWG : Hid (W.heap.size ≤ bw) := Lib.hid hbwg
  have HBB := Lib.hid hB
  have hil : i < badThree.length := hi
  have hol : o < badThree.length := ho
  have HIL := Lib.hid hil; have HOL := Lib.hid hol
  obtain ⟨bb', b0, cb', hform, -, -, hbl, hel⟩ := HBAD.out.form (show 0 < badThree.length by decide)
  obtain ⟨hb1, hb2⟩ : bb' = bb ∧ b0 = 0 := by injection hform with h1 _ _; injection h1 with h1; injection h1 with h1 h2 _; exact ⟨h1.symm, h2.symm⟩
  subst hb1 hb2
  have HBL := Lib.hid hbl
  obtain ⟨css, -, hrss, hcells⟩ := hel i hil
  obtain ⟨sx, hsx⟩ : ∃ y, y = badThree[i]'HIL.out := ⟨_, rfl⟩
  rw [← hsx] at hrss
  have hrs0 := hrss
  obtain ⟨was, wts, wes, hcss, has, hts, hes⟩ := hrss
  subst hcss
  obtain ⟨sAa, sca, rfl, _, _⟩ := has.val
  obtain ⟨sAt, sct, rfl, _, _⟩ := hts.val
  obtain ⟨sAe, sce, rfl, _, _⟩ := hes.val
  rw [Nat.zero_add] at hcells
  have HsX := Lib.hid hsx; have HsR := Lib.hid hrs0; have HsC := Lib.hid hcells
  clear hrs0 has hts hes hcells hsx
  obtain ⟨cst, -, hrst, hcellt⟩ := hel o hol
  obtain ⟨tx, htx⟩ : ∃ y, y = badThree[o]'HOL.out := ⟨_, rfl⟩
  rw [← htx] at hrst
  have hrt0 := hrst
  obtain ⟨wat, wtt, wet, hcst, hat, htt, het⟩ := hrst
  subst hcst
  obtain ⟨tAa, tca, rfl, _, _⟩ := hat.val
  obtain ⟨tAt, tct, rfl, _, _⟩ := htt.val
  obtain ⟨tAe, tce, rfl, _, _⟩ := het.val
  rw [Nat.zero_add] at hcellt
  have HtX := Lib.hid htx; have HtR := Lib.hid hrt0; have HtC := Lib.hid hcellt
  clear hrt0 hat htt het hcellt htx
  clear hform hbl hel hil hol hbad hwant hbwg
  have hinb := HIN.out.below hB
  have HINB := Lib.hid hinb
  have hkl : k < p.funcs.length := by rw [← HNF.out]; exact hk
  have HKL := Lib.hid hkl
  obtain ⟨Ap, Al, Ab, cp, cl, cb, e0, e1, e2, e3, hpar, hloc, hbod⟩ := hinb.fn hkl
  obtain ⟨x, hx⟩ : ∃ x, x = p.funcs[k]'HKL.out := ⟨_, rfl⟩
  rw [← hx] at e0 e1 e2 e3 hpar hloc hbod
  obtain ⟨np, hnp⟩ : ∃ n, n = x.params.length := ⟨_, rfl⟩
  obtain ⟨nl, hnl⟩ : ∃ n, n = x.locals.length := ⟨_, rfl⟩
  obtain ⟨nb, hnb⟩ : ∃ n, n = x.body.length := ⟨_, rfl⟩
  have hxm : x ∈ p.funcs := by rw [hx]; exact List.getElem_mem _
  have hfn := HGEN.out.func 8 hxm
  have hnb4 : nb ≤ 4 := by rw [hnb]; exact hfn.2.2.1
  rw [← hnp] at e1 hpar; rw [← hnl] at e2 hloc; rw [← hnb] at e3 hbod
  have HFN := Lib.hid hfn; have HBOD := Lib.hid hbod; have HPAR := Lib.hid hpar; have HLOC := Lib.hid hloc; have HX := Lib.hid hx; have HNB := Lib.hid hnb
  have p1 := (HP.out.below hB HP.out.lt).cell 1
  have hk1 : (k : Int) < (nf : Int) := by omega
  have hk2 : ¬ (k : Int) < 0 := by omega
  clear hB hinb hkl hpar hloc hbod hx hnp hnl hnb hxm hfn
  go_upto_region 8 with (go_at_call 19; refine (HPI.out _).mono ?_; rintro e W5 ⟨rfl, hw⟩; subst hw)
  go_upto_region 9 with fail
  refine wp_world ?_
  intro Wf hWf
  have hbf : Below Wb.heap.size Wb Wf := by rw [← hWf]; exact below1 _ _
  have hf : Blk Wf Wb.heap.size 49 #[.string x.name, .slice Ap np cp, .slice Al nl cl, .slice Ab nb cb] := by rw [← hWf]; exact Blk.new _ _ _
  obtain ⟨gf, hgf⟩ : ∃ b, Wb.heap.size = b := ⟨_, rfl⟩
  have HGF := Lib.hid hgf
  rw [hgf] at hf ⊢
  have HFC := Lib.hid hf
  have HBC := Lib.hid hbf
  have HX0 : Hid (Below Wb.heap.size Wb Wf.drew) := Lib.hid hbf.drew
  clear hWf hbf hf hgf e0 e1 e2 e3 p1
  have SO : Hid (∀ X, (Below Wf.heap.size Wf X) → (fun X => X.cell? ⟨gf, 3, none⟩ = some (.slice Ab nb cb) ∧ X.cell? ⟨bb', i * 5, none⟩ = some (.int .i64 sx.kind) ∧ X.cell? ⟨bb', i * 5 + 1, none⟩ = some (.string sx.name) ∧ X.cell? ⟨bb', i * 5 + 2, none⟩ = some (.slice sAa sx.args.length sca) ∧ X.cell? ⟨bb', i * 5 + 3, none⟩ = some (.slice sAt sx.thn.length sct) ∧ X.cell? ⟨bb', i * 5 + 4, none⟩ = some (.slice sAe sx.els.length sce) ∧ X.cell? ⟨bb', o * 5, none⟩ = some (.int .i64 tx.kind) ∧ X.cell? ⟨bb', o * 5 + 1, none⟩ = some (.string tx.name) ∧ X.cell? ⟨bb', o * 5 + 2, none⟩ = some (.slice tAa tx.args.length tca) ∧ X.cell? ⟨bb', o * 5 + 3, none⟩ = some (.slice tAt tx.thn.length tct) ∧ X.cell? ⟨bb', o * 5 + 4, none⟩ = some (.slice tAe tx.els.length tce)) X) := Lib.hid (fun X h => ⟨(HFC.out.below h HFC.out.lt).cell 3, ((HsC.out.keep ((h.block bb' (Nat.lt_of_lt_of_le HBL.out.2 HBC.out.size)).trans (HBC.out.block bb' HBL.out.2))).at_ (j := 0) rfl), ((HsC.out.keep ((h.block bb' (Nat.lt_of_lt_of_le HBL.out.2 HBC.out.size)).trans (HBC.out.block bb' HBL.out.2))).at_ (j := 1) rfl), ((HsC.out.keep ((h.block bb' (Nat.lt_of_lt_of_le HBL.out.2 HBC.out.size)).trans (HBC.out.block bb' HBL.out.2))).at_ (j := 2) rfl), ((HsC.out.keep ((h.block bb' (Nat.lt_of_lt_of_le HBL.out.2 HBC.out.size)).trans (HBC.out.block bb' HBL.out.2))).at_ (j := 3) rfl), ((HsC.out.keep ((h.block bb' (Nat.lt_of_lt_of_le HBL.out.2 HBC.out.size)).trans (HBC.out.block bb' HBL.out.2))).at_ (j := 4) rfl), ((HtC.out.keep ((h.block bb' (Nat.lt_of_lt_of_le HBL.out.2 HBC.out.size)).trans (HBC.out.block bb' HBL.out.2))).at_ (j := 0) rfl), ((HtC.out.keep ((h.block bb' (Nat.lt_of_lt_of_le HBL.out.2 HBC.out.size)).trans (HBC.out.block bb' HBL.out.2))).at_ (j := 1) rfl), ((HtC.out.keep ((h.block bb' (Nat.lt_of_lt_of_le HBL.out.2 HBC.out.size)).trans (HBC.out.block bb' HBL.out.2))).at_ (j := 2) rfl), ((HtC.out.keep ((h.block bb' (Nat.lt_of_lt_of_le HBL.out.2 HBC.out.size)).trans (HBC.out.block bb' HBL.out.2))).at_ (j := 3) rfl), ((HtC.out.keep ((h.block bb' (Nat.lt_of_lt_of_le HBL.out.2 HBC.out.size)).trans (HBC.out.block bb' HBL.out.2))).at_ (j := 4) rfl)⟩)
  obtain ⟨X0, hX0⟩ : ∃ X0, Wf.drew = X0 := ⟨_, rfl⟩
  have hC0 : Below Wf.heap.size Wf X0 := by rw [← hX0]; exact (Below.refl _ _).drew
  have HC0 := Lib.hid hC0
  clear hC0
  have hxb : Below Wb.heap.size Wb X0 := by rw [← hX0]; exact HX0.out
  have HXB := Lib.hid hxb
  have hgf0 : gf < X0.heap.size := Nat.lt_of_lt_of_le HFC.out.lt HC0.out.size
  have HGF0 := Lib.hid hgf0
  have up0 : ∀ b, okX lo Wb (.slice (some ⟨g, 0, none⟩) nf c2) b → lo ≤ b ∧ b < gf ∧ b ≠ g := fun b hb => ⟨hb.1, by rw [← HGF.out]; exact hb.2.1, fun e => hb.2.2 (by rw [e]; rfl)⟩
  have kp0 : Keeps (okX lo Wb (.slice (some ⟨g, 0, none⟩) nf c2)) Wb X0 := fun b hb => hxb.block b hb.2.1
  obtain ⟨bss, q1, q2, q3, q4, q5, q6⟩ := news_rows (HBOD.out.imp up0 kp0 fun _ _ _ r => r.imp up0 kp0) HNB.out (fun _ _ => ones_stmt)
  have upb : ∀ b, (W.heap.size ≤ b ∧ b < Wb.heap.size) → lo ≤ b ∧ b < gf ∧ b ≠ g := fun b hb => ⟨by have := HORD.out; have := hb.1; omega, by rw [← HGF.out]; exact hb.2, by have := HORD.out; have := hb.1; omega⟩
  have kpb : Keeps (fun b => W.heap.size ≤ b ∧ b < Wb.heap.size) Wb X0 := fun b hb => hxb.block b hb.2
  have hr0 : RStmt 8 X0 (fun b => lo ≤ b ∧ b < gf ∧ b ≠ g) [.int .i64 sx.kind, .string sx.name, .slice sAa sx.args.length sca, .slice sAt sx.thn.length sct, .slice sAe sx.els.length sce] sx := HsR.out.imp upb kpb 8
  have hr1 : RStmt 8 X0 (fun b => lo ≤ b ∧ b < gf ∧ b ≠ g) [.int .i64 tx.kind, .string tx.name, .slice tAa tx.args.length tca, .slice tAt tx.thn.length tct, .slice tAe tx.els.length tce] tx := HtR.out.imp upb kpb 8
  have HQ := Lib.hid (And.intro q1 (And.intro q2 (And.intro q3 (And.intro q4 (And.intro q5 q6)))))
  have HR0 := Lib.hid hr0; have HR1 := Lib.hid hr1
  clear hxb q1 q2 q3 q4 q5 q6 hr0 hr1 hgf0 up0 kp0 upb kpb
  have hi1 : (i : Int) < 3 := by omega
  have hi2 : ¬ (i : Int) < 0 := by omega
  have ho1 : (o : Int) < 3 := by omega
  have ho2 : ¬ (o : Int) < 0 := by omega
  go_cut [] (fun wx => ∃ (nn cv : Nat) (Av : Option Addr), Below Wb.heap.size Wb wx ∧ Blk wx gf 49 #[.string x.name, .slice Ap np cp, .slice Al nl cl, .slice Av nn cv] ∧ SlR wx (okX lo wx (.slice (some ⟨g, 0, none⟩) nf c2)) 5 (RStmt 8 wx (okX lo wx (.slice (some ⟨g, 0, none⟩) nf c2))) (.slice Av nn cv) (sx :: (x.body ++ [tx])))
  case first =>
    refine wp_region_L (by kernel_rfl) 16 (fun X => X.cell? ⟨gf, 3, none⟩ = some (.slice Ab nb cb) ∧ X.cell? ⟨bb', i * 5, none⟩ = some (.int .i64 sx.kind) ∧ X.cell? ⟨bb', i * 5 + 1, none⟩ = some (.string sx.name) ∧ X.cell? ⟨bb', i * 5 + 2, none⟩ = some (.slice sAa sx.args.length sca) ∧ X.cell? ⟨bb', i * 5 + 3, none⟩ = some (.slice sAt sx.thn.length sct) ∧ X.cell? ⟨bb', i * 5 + 4, none⟩ = some (.slice sAe sx.els.length sce) ∧ X.cell? ⟨bb', o * 5, none⟩ = some (.int .i64 tx.kind) ∧ X.cell? ⟨bb', o * 5 + 1, none⟩ = some (.string tx.name) ∧ X.cell? ⟨bb', o * 5 + 2, none⟩ = some (.slice tAa tx.args.length tca) ∧ X.cell? ⟨bb', o * 5 + 3, none⟩ = some (.slice tAt tx.thn.length tct) ∧ X.cell? ⟨bb', o * 5 + 4, none⟩ = some (.slice tAe tx.els.length tce)) (SO.out _ (Below.refl _ _).drew) (fun hHeld => ?_)
    have HS0 := Lib.hid hHeld
    clear hHeld
    change wpAnyL _ _ _ _ _ 16 17 (Array.replicate 17 false) _ _
    rw [hX0] at HS0 ⊢
    have HZ0 : Hid (Below X0.heap.size X0 X0) := Lib.hid (Below.refl _ _)
    refine tj 0 50 (.slice (some ⟨bb', 0, none⟩) 3 3) HS0.out rfl rfl ?_
    try simp only [sA, sB, sC]
    refine tj 1 51 (.int .i64 (i : Int)) HS0.out rfl rfl ?_
    try simp only [sA, sB, sC]
    refine tj 2 52 (.pointer (some ⟨bb', i * 5, none⟩)) HS0.out rfl rfl ?_
    try simp only [sA, sB, sC]
    refine tS 3 53 (.agg #[.int .i64 sx.kind, .string sx.name, .slice sAa sx.args.length sca, .slice sAt sx.thn.length sct, .slice sAe sx.els.length sce]) [16] HS0.out rfl rfl ?_ ?_
    · intro w2 hSw; obtain ⟨g0, g1, g2, g3, g4, g5, g6, g7, g8, g9, gA⟩ := hSw; go_simp
    try simp only [sA, sB, sC]
    refine tj 5 55 (.pointer (some ⟨gf, 3, none⟩)) HS0.out rfl rfl ?_
    try simp only [sA, sB, sC]
    refine tS 6 56 (.slice Ab nb cb) [16] HS0.out rfl rfl ?_ ?_
    · intro w2 hSw; obtain ⟨g0, g1, g2, g3, g4, g5, g6, g7, g8, g9, gA⟩ := hSw; go_simp
    try simp only [sA, sB, sC]
    refine tj 8 58 (.slice (some ⟨bb', 0, none⟩) 3 3) HS0.out rfl rfl ?_
    try simp only [sA, sB, sC]
    refine tj 9 59 (.int .i64 other) HS0.out rfl rfl ?_
    try simp only [sA, sB, sC]
    refine wpAnyL_ready (rs := [4]) (by kernel_rfl) (by simp) ?_
    refine AllReadyL.cons rfl (fun K hK => ?_) AllReadyL.nil
    go_simp
    obtain ⟨X1, hXX⟩ : ∃ Z, X0.alloc (.cells #[.int .i64 sx.kind, .string sx.name, .slice sAa sx.args.length sca, .slice sAt sx.thn.length sct, .slice sAe sx.els.length sce] 45) = Z := ⟨_, rfl⟩
    rw [hXX]
    have hbl : Below X0.heap.size X0 X1 := by rw [← hXX]; exact below1 _ _
    have hq : Blk X1 X0.heap.size 45 #[.int .i64 sx.kind, .string sx.name, .slice sAa sx.args.length sca, .slice sAt sx.thn.length sct, .slice sAe sx.els.length sce] := by rw [← hXX]; exact Blk.new _ _ _
    have HZ1 := Lib.hid hbl
    have HNS := Lib.hid hq
    clear hXX hbl hq
    refine hK.out _ _ (SO.out _ (HC0.out.trans (HZ1.out.mono HC0.out.size))) (fun hHeld => ?_)
    have HS1 := Lib.hid hHeld
    clear hK K hHeld
    try simp only [sA, sB, sC]
    refine wpAnyL_ready (rs := [7]) (by kernel_rfl) (by simp) ?_
    refine AllReadyL.cons rfl (fun K hK => ?_) AllReadyL.nil
    refine step_append_any _ (by rfl) _ _ _ (by rfl) (X0.heap.size) 45 zi _ 5 96 Tryz.underlying43 hj0 hj1 hj2 hj3 rfl (by omega) (.slice (some ⟨X0.heap.size, 0, none⟩) 1 1) 1 ([.int .i64 sx.kind, .string sx.name, .slice sAa sx.args.length sca, .slice sAt sx.thn.length sct, .slice sAe sx.els.length sce]) (by rfl) (own_made HNS.out (Nat.le_refl _) (by decide) rfl) (Ab) (nb) (cb) (bss.flatten) (by rfl) (HQ.out.2.2.2.1) ((HQ.out.2.2.2.2.1.imp id fun ⟨ad, ha, hc⟩ => ⟨ad, ha, fun j u hu => cell_keep HZ1.out rfl (hc j u hu)⟩)) (HQ.out.2.2.2.2.2) (by unfold maxLen; omega) (by omega) (HZ1.out.size) (X1.heap.size) rfl ?_
    intro v1 X2 hown1 hgrow1 hat1
    have hbl : Below X0.heap.size X1 X2 := ⟨hgrow1.os, hgrow1.tape, hgrow1.output, hgrow1.size, fun q hq => hgrow1.block q (Nat.lt_of_lt_of_le hq HZ1.out.size) (fun e => by have h4 : q = X0.heap.size := (by simpa [Value.ownBlock] using e); omega)⟩
    have HZ2 := Lib.hid (HZ1.out.trans hbl)
    have hsz12 := hgrow1.size
    have HS12 := Lib.hid hsz12
    have HO1 := Lib.hid hown1
    clear hown1 hgrow1 hat1 hbl hsz12
    refine hK.out _ _ (SO.out _ (HC0.out.trans (HZ2.out.mono HC0.out.size))) (fun hHeld => ?_)
    have HS2 := Lib.hid hHeld
    clear hK K hHeld
    try simp only [sA, sB, sC]
    refine wpAnyL_ready (rs := [10]) (by kernel_rfl) (by simp) ?_
    refine AllReadyL.cons rfl (fun K hK => ?_) AllReadyL.nil
    go_simp
    refine (HPO.out X2).mono ?_
    rintro e X2' ⟨rfl, hw⟩
    subst hw
    refine hK.out _ _ (SO.out _ (HC0.out.trans (HZ2.out.mono HC0.out.size))) (fun hHeld => ?_)
    have HS3 := Lib.hid hHeld
    clear hK K hHeld
    try simp only [sA, sB, sC]
    refine tj 11 61 (.pointer (some ⟨bb', o * 5, none⟩)) HS3.out rfl rfl ?_
    try simp only [sA, sB, sC]
    refine tS 12 62 (.agg #[.int .i64 tx.kind, .string tx.name, .slice tAa tx.args.length tca, .slice tAt tx.thn.length tct, .slice tAe tx.els.length tce]) [16] HS3.out rfl rfl ?_ ?_
    · intro w2 hSw; obtain ⟨g0, g1, g2, g3, g4, g5, g6, g7, g8, g9, gA⟩ := hSw; go_simp
    try simp only [sA, sB, sC]
    refine wpAnyL_ready (rs := [13]) (by kernel_rfl) (by simp) ?_
    refine AllReadyL.cons rfl (fun K hK => ?_) AllReadyL.nil
    go_simp
    obtain ⟨X3, hXX⟩ : ∃ Z, X2.alloc (.cells #[.int .i64 tx.kind, .string tx.name, .slice tAa tx.args.length tca, .slice tAt tx.thn.length tct, .slice tAe tx.els.length tce] 45) = Z := ⟨_, rfl⟩
    rw [hXX]
    have hbl : Below X2.heap.size X2 X3 := by rw [← hXX]; exact below1 _ _
    have hq : Blk X3 X2.heap.size 45 #[.int .i64 tx.kind, .string tx.name, .slice tAa tx.args.length tca, .slice tAt tx.thn.length tct, .slice tAe tx.els.length tce] := by rw [← hXX]; exact Blk.new _ _ _
    have hal := HO1.out.alloc (.cells #[.int .i64 tx.kind, .string tx.name, .slice tAa tx.args.length tca, .slice tAt tx.thn.length tct, .slice tAe tx.els.length tce] 45)
    rw [hXX] at hal
    have HO2 := Lib.hid hal
    have HZ3 := Lib.hid (HZ2.out.trans (hbl.mono HZ2.out.size))
    have HNT := Lib.hid hq
    clear hXX hbl hq hal HO1
    refine hK.out _ _ (SO.out _ (HC0.out.trans (HZ3.out.mono HC0.out.size))) (fun hHeld => ?_)
    have HS4 := Lib.hid hHeld
    clear hK K hHeld
    try simp only [sA, sB, sC]
    refine wpAnyL_ready (rs := [14]) (by kernel_rfl) (by simp) ?_
    refine AllReadyL.cons rfl (fun K hK => ?_) AllReadyL.nil
    refine step_append_any _ (by rfl) _ _ _ (by rfl) (X0.heap.size) 45 zi _ 5 96 Tryz.underlying43 hj0 hj1 hj2 hj3 rfl (by omega) (v1) (1 + nb) ([.int .i64 sx.kind, .string sx.name, .slice sAa sx.args.length sca, .slice sAt sx.thn.length sct, .slice sAe sx.els.length sce] ++ bss.flatten) (by rfl) (HO2.out) (some ⟨X2.heap.size, 0, none⟩) (1) (1) ([.int .i64 tx.kind, .string tx.name, .slice tAa tx.args.length tca, .slice tAt tx.thn.length tct, .slice tAe tx.els.length tce]) (by rfl) (rfl) (Or.inr ⟨⟨X2.heap.size, 0, none⟩, rfl, World.news_of_block HNT.out⟩) (ones_stmt HR1.out) (by unfold maxLen; omega) (by omega) (HZ3.out.size) (X3.heap.size) rfl ?_
    intro v2 X4 hown2 hgrow2 hat2
    have hbl : Below X0.heap.size X3 X4 := ⟨hgrow2.os, hgrow2.tape, hgrow2.output, hgrow2.size, fun q hq => hgrow2.block q (Nat.lt_of_lt_of_le hq HZ3.out.size) (fun e => by have h1 := (HO2.out.lt q e.symm).1; omega)⟩
    have HZ4 := Lib.hid (HZ3.out.trans hbl)
    obtain ⟨nn, hnn⟩ : ∃ n, n = 1 + nb + 1 := ⟨_, rfl⟩
    rw [← hnn] at hown2
    obtain ⟨Av, cv, hv2⟩ := own_form hown2
    subst hv2
    have HO3 := Lib.hid hown2
    have HNN := Lib.hid hnn
    clear hown2 hgrow2 hat2 hnn hbl
    refine hK.out _ _ (SO.out _ (HC0.out.trans (HZ4.out.mono HC0.out.size))) (fun hHeld => ?_)
    have HS5 := Lib.hid hHeld
    clear hK K hHeld
    try simp only [sA, sB, sC]
    refine tj 15 65 (.pointer (some ⟨gf, 3, none⟩)) HS5.out rfl rfl ?_
    try simp only [sA, sB, sC]
    have hfx : Blk X4 gf 49 #[.string x.name, .slice Ap np cp, .slice Al nl cl, .slice Ab nb cb] := (HFC.out.below HC0.out HFC.out.lt).below HZ4.out HGF0.out
    have z3 := hfx.cell 3; have y3 := hfx.frozen 3
    have HFX := Lib.hid hfx; clear hfx
    refine wpAnyL_ready (rs := [16]) (by kernel_rfl) (by simp) ?_
    refine AllReadyL.last rfl (by kernel_rfl) (fun K hK => ?_)
    go_simp
    refine hK.out _ _ ?_
    clear hK K
    try simp only [sA, sB, sC]
    refine wpAnyL_done (by kernel_rfl) ?_ _
    go_wp2
    go_meet
    case rel =>
      have hro : X4.ownsRow X0.heap.size 45 5 (.slice Av nn cv) nn ([.int .i64 sx.kind, .string sx.name, .slice sAa sx.args.length sca, .slice sAt sx.thn.length sct, .slice sAe sx.els.length sce] :: (bss ++ [[.int .i64 tx.kind, .string tx.name, .slice tAa tx.args.length tca, .slice tAt tx.thn.length tct, .slice tAe tx.els.length tce]])).flatten := by
        have h := HO3.out
        rw [List.flatten_cons, List.flatten_append, List.flatten_singleton, ← List.append_assoc]
        exact h
      exact ⟨nn, cv, Av, body_row (HXB.out.trans (HZ4.out.mono HXB.out.size)) (Nat.le_of_eq HGF.out) HZ4.out HGF0.out (by have := HORD.out; have := HXB.out.size; have := HBB.out.size; omega) (by have := HORD.out; have := HXB.out.size; have := HBB.out.size; omega) (Nat.le_refl _) hro (by rw [HNN.out, List.length_cons, List.length_append, List.length_singleton, ← HNB.out]; omega) (ok := fun b => lo ≤ b ∧ b < gf ∧ b ≠ g) (fun _ h => h) (by simp [HQ.out.1]) (fun cs hcs => by rcases List.mem_cons.1 hcs with rfl | hcs; rfl; rcases List.mem_append.1 hcs with h | h; exact HQ.out.2.1 cs h; obtain rfl := List.mem_singleton.1 h; rfl) (rows_cons (rows_snoc HQ.out.1 HQ.out.2.2.1 HR1.out) HR0.out) HFX.out c2 nf⟩
  case rest =>
  obtain ⟨nn, cv, Av, hbx, hfx, hrx⟩ := hcut
  have hinx := HINB.out.below hbx
  have hpx := (HP.out.below HBB.out HP.out.lt).below hbx (HP.out.below HBB.out HP.out.lt).lt
  have p1 := hpx.cell 1
  have f0 := hfx.cell 0; have f1 := hfx.cell 1; have f2 := hfx.cell 2; have f3 := hfx.cell 3
  obtain ⟨⟨z0, z1, z2, z3⟩, ⟨u0, e0⟩, ⟨u1, e1⟩, ⟨u2, e2⟩, ⟨u3, e3⟩⟩ := hinx.open_ HKL.out
  have HINX := Lib.hid hinx; have HBX := Lib.hid hbx; have HRX := Lib.hid hrx; have HPX := Lib.hid hpx
  clear hinx hbx hfx hrx hpx
  go_upto_region 11 with fail
  refine wp_world ?_
  intro Ws hWs
  have hup : ∀ b, okX lo Wb (.slice (some ⟨g, 0, none⟩) nf c2) b → okX lo wc (.slice (some ⟨g, 0, none⟩) nf c2) b := fun b hb => ⟨hb.1, Nat.lt_of_lt_of_le hb.2.1 HBX.out.size, hb.2.2⟩
  have hkp : Keeps (okX lo Wb (.slice (some ⟨g, 0, none⟩) nf c2)) Wb wc := fun b hb => HBX.out.block b hb.2.1
  obtain ⟨b1, hb1⟩ : ∃ b, b = badThree[i]'HIL.out :: ((p.funcs[k]'HKL.out).body ++ [badThree[o]'HOL.out]) := ⟨_, rfl⟩
  have hrx1 : SlR wc (okX lo wc (.slice (some ⟨g, 0, none⟩) nf c2)) 5 (RStmt 8 wc (okX lo wc (.slice (some ⟨g, 0, none⟩) nf c2))) (.slice Av nn cv) b1 := by
    rw [hb1, ← HX.out, ← HsX.out, ← HtX.out]; exact HRX.out
  obtain ⟨hps, hset, hszs, hbs⟩ := HINX.out.put (W0 := W0) (X := Ws) HKL.out (by rw [← HX.out]; exact HPAR.out.imp hup hkp fun _ _ _ r => r) (by rw [← HX.out]; exact HLOC.out.imp hup hkp fun _ _ _ r => r) hrx1 (by rw [← HX.out]; exact hWs)
  have hb0 : Below W0.heap.size W0 wc := HB.out.trans ((HBB.out.trans (HBX.out.mono HBB.out.size)).mono HB.out.size)
  have hbs2 := hbs hb0 (by have := HORD.out; omega)
  have hfew1 : FewN 10200 (bodyP p k b1) := HGEN.out.fewN.body (by rw [hb1]; exact few_ends (HGEN.out.fewN.each _ (List.getElem_mem HKL.out)).2.2 HIL.out HOL.out) (by omega)
  have hck := hps.check hfew1 (by omega) (e := wantThree[i]'HIL.out) (k := (k : Int)) (m := 0) (by rw [hb1]; exact first_one HGEN.out.made (by decide) HKL.out HIL.out HOL.out)
  obtain ⟨wv, hwv⟩ : ∃ v, v = wantThree[i]'HIL.out := ⟨_, rfl⟩
  rw [← hwv] at hck
  have hpp := HPX.out.keep (hset pb (by have := HORD.out; omega))
  have hwx := (HWANT.out.below HBX.out HWANT.out.lt).keep (hset bw (by have := HBWG.out; have := HORD.out; omega))
  have HB1_ := Lib.hid hb1; have HPS := Lib.hid hps; have HBS := Lib.hid hbs2; have HCK := Lib.hid hck; have HPP := Lib.hid hpp; have HWX := Lib.hid hwx; have HWV := Lib.hid hwv; have HFW := Lib.hid hfew1
  have HSB : Hid (∀ q, q ≠ g → q < Wb.heap.size → Ws.heap[q]? = Wb.heap[q]?) := Lib.hid (fun q h1 h2 => (hset q h1).trans (HBX.out.block q h2))
  have HSBZ : Hid (Wb.heap.size ≤ Ws.heap.size) := Lib.hid (by rw [hszs]; exact HBX.out.size)
  have p0 := hpp.cell 0
  have p1 := hpp.cell 1
  clear hWs hup hkp hb1 hrx1 hps hset hszs hbs hb0 hbs2 hfew1 hck hwv hpp hwx z0 z1 z2 z3 e0 e1 e2 e3 f0 f1 f2 f3
  clear HQ HR0 HR1 HRX HXB HX0 HC0 SO HFC HBC HGF HGF0 HPAR HLOC HBOD HINX HINB
  go_upto_region 12 with (go_at_call 13; refine HCK.out.mono ?_; rintro e w5 ⟨rfl, hb5⟩)
  refine wp_world ?_
  intro W7 hW7
  have hb7 : Below Ws.heap.size Ws W7 := by rw [← hW7]; exact hb5.alloc hb5.size _
  have hT7 : Blk W7 w5.heap.size 33 #[.int .i64 (k : Int), .int .i64 0] := by rw [← hW7]; exact Blk.new w5 _ _
  obtain ⟨tb, htb⟩ : ∃ b, w5.heap.size = b := ⟨_, rfl⟩
  rw [htb] at hT7 ⊢
  have HB7 := Lib.hid hb7; have HT7 := Lib.hid hT7
  have HTN : Hid (tb ≠ g) := Lib.hid (by have h1 := hb5.size; have h2 := HSBZ.out; have h3 := HBB.out.size; have h4 := HORD.out; omega)
  have hin7 := HPS.out.below hb7
  have hp7 := HPP.out.below hb7 HPP.out.lt
  have HP7 := Lib.hid hp7; have HIN7 := Lib.hid hin7
  clear hW7 hb5 hT7 p0 p1 htb
  obtain ⟨q1, hq1⟩ : ∃ q, q = bodyP p k b1 := ⟨_, rfl⟩
  rw [← hq1] at hin7
  have hfw := HFW.out
  rw [← hq1] at hfw
  have hnq := hin7.nf_
  obtain ⟨m, hm⟩ : ∃ m, nf = m + 1 := ⟨nf - 1, by omega⟩
  have hml : m < q1.funcs.length := by omega
  obtain ⟨Bp, Bl, Bb, dp, dl, db, e0, e1, e2, e3, hpar, hloc, hbod⟩ := hin7.fn hml
  have HML := Lib.hid hml
  obtain ⟨y, hy⟩ : ∃ y, y = q1.funcs[m]'HML.out := ⟨_, rfl⟩
  rw [← hy] at e0 e1 e2 e3 hpar hloc hbod
  obtain ⟨mp, hmp⟩ : ∃ n, n = y.params.length := ⟨_, rfl⟩
  obtain ⟨ml, hml2⟩ : ∃ n, n = y.locals.length := ⟨_, rfl⟩
  obtain ⟨mb, hmb⟩ : ∃ n, n = y.body.length := ⟨_, rfl⟩
  have hmb9 : mb ≤ 20 := by
    have hym : y ∈ q1.funcs := by rw [hy]; exact List.getElem_mem _
    rw [hmb]
    rw [hq1] at hym
    refine body_small (fun f hf => by have := (HGEN.out.func 8 hf).2.2.1; omega) ?_ y hym
    rw [HB1_.out, List.length_cons, List.length_append, List.length_singleton]
    have := (HGEN.out.func 8 (List.getElem_mem HKL.out)).2.2.1
    omega
  rw [← hmp] at e1 hpar; rw [← hml2] at e2 hloc; rw [← hmb] at e3 hbod
  have HFQ := Lib.hid hfw; have HBOD := Lib.hid hbod; have HPAR := Lib.hid hpar; have HLOC := Lib.hid hloc; have HY := Lib.hid hy; have HMB := Lib.hid hmb; have HQ1 := Lib.hid hq1; have HIN8 := Lib.hid hin7; have HM := Lib.hid hm
  have p1 : W7.cell? ⟨pb, 1, none⟩ = some (.slice (some ⟨g, 0, none⟩) nf c2) := hp7.cell 1
  have hm1 : (nf : Int) - 1 = (m : Int) := by omega
  have hk3 : (m : Int) < (nf : Int) := by omega
  have hk4 : ¬ (m : Int) < 0 := by omega
  clear hb7 hin7 hp7 hfw hnq hpar hloc hbod hy hmp hml2 hmb hml hq1 hm HIN7
  go_upto_region 13 with fail
  go_upto_region 14 with fail
  refine wp_world ?_
  intro Wg hWg
  have hbg : Below W7.heap.size W7 Wg := by rw [← hWg]; exact below1 _ _
  have hgb : Blk Wg W7.heap.size 49 #[.string y.name, .slice Bp mp dp, .slice Bl ml dl, .slice Bb mb db] := by rw [← hWg]; exact Blk.new _ _ _
  obtain ⟨gg, hgg⟩ : ∃ b, W7.heap.size = b := ⟨_, rfl⟩
  rw [hgg] at hgb ⊢
  have up0 : ∀ b, okX lo W7 (.slice (some ⟨g, 0, none⟩) nf c2) b → lo ≤ b ∧ b < gg ∧ b ≠ g := fun b hb => ⟨hb.1, by rw [← hgg]; exact hb.2.1, fun e => hb.2.2 (by rw [e]; rfl)⟩
  have kp0 : Keeps (okX lo W7 (.slice (some ⟨g, 0, none⟩) nf c2)) W7 Wg := fun b hb => hbg.block b hb.2.1
  obtain ⟨bss, q1_, q2, q3, q4, q5, q6⟩ := news_rows (HBOD.out.imp up0 kp0 fun _ _ _ r => r.imp up0 kp0) HMB.out (fun _ _ => ones_stmt)
  have hwg : Wb.heap.size ≤ gg := by rw [← hgg]; exact Nat.le_trans HSBZ.out HB7.out.size
  have upb : ∀ b, (W.heap.size ≤ b ∧ b < Wb.heap.size) → lo ≤ b ∧ b < gg ∧ b ≠ g := fun b hb => ⟨by have := HORD.out; have := hb.1; omega, by have := hb.2; omega, by have := HORD.out; have := hb.1; omega⟩
  have hWbg : ∀ b, b ≠ g → b < Wb.heap.size → Wg.heap[b]? = Wb.heap[b]? := fun b h1 h2 => (hbg.block b (by omega)).trans ((HB7.out.block b (Nat.lt_of_lt_of_le h2 HSBZ.out)).trans (HSB.out b h1 h2))
  have kpb : Keeps (fun b => W.heap.size ≤ b ∧ b < Wb.heap.size) Wb Wg := fun b hb => hWbg b (by have := HORD.out; have := hb.1; omega) hb.2
  have hr1 : RStmt 8 Wg (fun b => lo ≤ b ∧ b < gg ∧ b ≠ g) [.int .i64 tx.kind, .string tx.name, .slice tAa tx.args.length tca, .slice tAt tx.thn.length tct, .slice tAe tx.els.length tce] tx := HtR.out.imp upb kpb 8
  have HTC : Hid (∀ X, Below Wg.heap.size Wg X → ∀ (j : Nat) (u : Value), ([.int .i64 tx.kind, .string tx.name, .slice tAa tx.args.length tca, .slice tAt tx.thn.length tct, .slice tAe tx.els.length tce] : List Value)[j]? = some u → X.cell? ⟨bb', o * 5 + j, none⟩ = some u) := Lib.hid (fun X hX j u hu => ((HtC.out.keep (hWbg bb' (by have := HORD.out; have := HBL.out.1; omega) HBL.out.2)).keep (hX.block bb' (by have := HBL.out.2; have := hgb.lt; omega))).at_ hu)
  have HQ := Lib.hid (And.intro q1_ (And.intro q2 (And.intro q3 (And.intro q4 (And.intro q5 q6)))))
  have HR1 := Lib.hid hr1; have HGB := Lib.hid hgb; have HBG := Lib.hid hbg; have HGG := Lib.hid hgg
  have HLG : Hid (gg < Wg.heap.size) := Lib.hid hgb.lt
  have f3 := hgb.cell 3
  clear hWg hbg hgb hgg up0 kp0 q1_ q2 q3 q4 q5 q6 hwg upb hWbg kpb hr1 e0 e1 e2 e3 p1
  go_upto_region 15 with (first | (go_at_call 19; refine (HPO.out _).mono ?_; rintro e W8 ⟨rfl, hw⟩; subst hw) | (at_builtin; refine wpList_append_any _ rfl (.const (.slice none 0 0)) (.tmp 86) _ rfl Wg.heap.size 45 zi _ 5 96 Tryz.underlying43 hj0 hj1 hj2 hj3 rfl (by decide) (.slice none 0 0) 0 [] rfl (World.ownsRow_nil _ _ _ _) Bb mb db bss.flatten rfl HQ.out.2.2.2.1 HQ.out.2.2.2.2.1 HQ.out.2.2.2.2.2 (by unfold maxLen; omega) (by omega) (Nat.le_refl _) Wg.heap.size rfl ?_; intro v1 X1 hown1 hgrow1 hat1; obtain ⟨Av1, cv1, hv1⟩ := own_form hown1; subst hv1; obtain ⟨n1, hn1⟩ : ∃ n, n = 0 + mb := ⟨_, rfl⟩; rw [← hn1] at hown1 ⊢; have hn9 : n1 ≤ 20 := (by omega); have HN1 := Lib.hid hn1; have HO1 := Lib.hid hown1; have HG1 := Lib.hid hgrow1; have HZ1 := Lib.hid (below_nil hgrow1); clear hn1 hown1 hgrow1 hat1; have g0 := HTC.out X1 HZ1.out 0 _ rfl; rw [Nat.add_zero] at g0; have g1 := HTC.out X1 HZ1.out 1 _ rfl; have g2 := HTC.out X1 HZ1.out 2 _ rfl; have g3 := HTC.out X1 HZ1.out 3 _ rfl; have g4 := HTC.out X1 HZ1.out 4 _ rfl) | (at_builtin; refine wpList_append_any _ rfl (.tmp 87) (.tmp 93) _ rfl Wg.heap.size 45 zi _ 5 96 Tryz.underlying43 hj0 hj1 hj2 hj3 rfl (by decide) (.slice Av1 n1 cv1) n1 ([] ++ bss.flatten) rfl (HO1.out.alloc _) (some ⟨X1.heap.size, 0, none⟩) 1 1 [.int .i64 tx.kind, .string tx.name, .slice tAa tx.args.length tca, .slice tAt tx.thn.length tct, .slice tAe tx.els.length tce] rfl rfl (Or.inr ⟨⟨X1.heap.size, 0, none⟩, rfl, World.news_of_block (cs := #[.int .i64 tx.kind, .string tx.name, .slice tAa tx.args.length tca, .slice tAt tx.thn.length tct, .slice tAe tx.els.length tce]) (t := 45) (fr := (0, 0)) (Blk.new _ _ _)⟩) (ones_stmt HR1.out) (by unfold maxLen; omega) (by omega) (by have := HZ1.out.size; simp; omega) (X1.heap.size + 1) (by simp) ?_; intro v2 X2 hown2 hgrow2 hat2; obtain ⟨Av2, cv2, hv2⟩ := own_form hown2; subst hv2; obtain ⟨nn2, hnn2⟩ : ∃ n, n = n1 + 1 := ⟨_, rfl⟩; rw [← hnn2] at hown2 ⊢; have HNN2 := Lib.hid hnn2; have HO2 := Lib.hid hown2; have hX2 := below_two HZ1.out HO1.out hgrow2; have HX2 := Lib.hid hX2; have hfx := HGB.out.below hX2 HLG.out; have HFX := Lib.hid hfx; have k3 := hfx.cell 3; have y3 := hfx.frozen 3; clear hown2 hgrow2 hat2 hX2 hfx hnn2 g0 g1 g2 g3 g4))
  refine wp_world ?_
  intro Wh hWh
  have hro : X2.ownsRow Wg.heap.size 45 5 (.slice Av2 nn2 cv2) nn2 (bss ++ [([.int .i64 tx.kind, .string tx.name, .slice tAa tx.args.length tca, .slice tAt tx.thn.length tct, .slice tAe tx.els.length tce] : List Value)]).flatten := by
    have h := HO2.out
    rw [List.flatten_append, List.flatten_singleton]
    exact h
  have hord7 : g < Ws.heap.size := by have := HORD.out; have := HSBZ.out; have := HBB.out.size; omega
  have hrel := body_row (Wb := W7) (X0 := Wg) (lo := lo) (g := g) (l := y.body ++ [tx]) (HBG.out.trans (HX2.out.mono HBG.out.size)) (Nat.le_of_eq HGG.out) HX2.out HLG.out (by have := HORD.out; have := HB7.out.size; have := HBG.out.size; omega) (by have := HB7.out.size; have := HBG.out.size; omega) (Nat.le_refl _) hro (by rw [HNN2.out, HN1.out, List.length_append, List.length_singleton, ← HMB.out]; omega) (ok := fun b => lo ≤ b ∧ b < gg ∧ b ≠ g) (fun _ h => h) (by simp [HQ.out.1]) (fun cs hcs => by rcases List.mem_append.1 hcs with h | h; exact HQ.out.2.1 cs h; obtain rfl := List.mem_singleton.1 h; rfl) (rows_snoc HQ.out.1 HQ.out.2.2.1 HR1.out) HFX.out c2 nf
  rw [hWh] at hrel
  obtain ⟨hbx, hfx, hrx⟩ := hrel
  have hinx := HIN8.out.below hbx
  have hpx := HP7.out.below hbx HP7.out.lt
  have p1 := hpx.cell 1
  have f0 := hfx.cell 0; have f1 := hfx.cell 1; have f2 := hfx.cell 2; have f3 := hfx.cell 3
  obtain ⟨⟨z0, z1, z2, z3⟩, ⟨u0, e0⟩, ⟨u1, e1⟩, ⟨u2, e2⟩, ⟨u3, e3⟩⟩ := hinx.open_ HML.out
  have HINX := Lib.hid hinx; have HBX2 := Lib.hid hbx; have HRX := Lib.hid hrx; have HPX2 := Lib.hid hpx
  clear hWh hro hord7 hbx hfx hrx hinx hpx k3 y3
  clear HQ HR1 HTC HO1 HO2 HG1 HZ1 HX2 HFX HBG HGB
  go_upto_region 16 with fail
  refine wp_world ?_
  intro Wt hWt
  have hup : ∀ b, okX lo W7 (.slice (some ⟨g, 0, none⟩) nf c2) b → okX lo Wh (.slice (some ⟨g, 0, none⟩) nf c2) b := fun b hb => ⟨hb.1, Nat.lt_of_lt_of_le hb.2.1 HBX2.out.size, hb.2.2⟩
  have hkp : Keeps (okX lo W7 (.slice (some ⟨g, 0, none⟩) nf c2)) W7 Wh := fun b hb => HBX2.out.block b hb.2.1
  obtain ⟨b2, hb2⟩ : ∃ b, b = (q1.funcs[m]'HML.out).body ++ [badThree[o]'HOL.out] := ⟨_, rfl⟩
  have hrx1 : SlR Wh (okX lo Wh (.slice (some ⟨g, 0, none⟩) nf c2)) 5 (RStmt 8 Wh (okX lo Wh (.slice (some ⟨g, 0, none⟩) nf c2))) (.slice Av2 nn2 cv2) b2 := by
    rw [hb2, ← HY.out, ← HtX.out]; exact HRX.out
  obtain ⟨hps, hset, hszs, hbs⟩ := HINX.out.put (W0 := W0) (X := Wt) HML.out (by rw [← HY.out]; exact HPAR.out.imp hup hkp fun _ _ _ r => r) (by rw [← HY.out]; exact HLOC.out.imp hup hkp fun _ _ _ r => r) hrx1 (by rw [← HY.out]; exact hWt)
  have hb0 : Below W0.heap.size W0 Wh := (HBS.out.trans (HB7.out.mono HBS.out.size)).trans (HBX2.out.mono (HBS.out.trans (HB7.out.mono HBS.out.size)).size)
  have hbs2 := hbs hb0 (by have := HORD.out; omega)
  have hfew2 : FewN 10400 (bodyP q1 m b2) := HFQ.out.body (by rw [hb2]; exact few_end (HFQ.out.each _ (List.getElem_mem HML.out)).2.2 HOL.out) (by omega)
  have hc2 : checkE 8 (bodyP q1 m b2) = (wv, (k : Int), 0) := by
    rw [HWV.out]
    have hml := HML.out
    have e1 := HQ1.out
    have e2 := HB1_.out
    subst hb2 e1 e2
    exact first_two HGEN.out.made (by decide) HKL.out HIL.out HOL.out (by rw [← HNF.out]; exact HM.out.symm) hml
  have hck := hps.check hfew2 (by omega) hc2
  have hpp := HPX2.out.keep (hset pb (by have := HORD.out; omega))
  have hne : ∀ b, b < Ws.heap.size → b ≠ g → Wt.heap[b]? = Ws.heap[b]? := fun b h1 h2 => (hset b h2).trans ((HBX2.out.block b (Nat.lt_of_lt_of_le h1 HB7.out.size)).trans (HB7.out.block b h1))
  have hwx := HWX.out.keep (hne bw HWX.out.lt (by have := HBWG.out; have := HORD.out; omega))
  have htx := (HT7.out.below HBX2.out HT7.out.lt).keep (hset tb HTN.out)
  have HBS2 := Lib.hid hbs2; have HCK2 := Lib.hid hck; have HWX2 := Lib.hid hwx; have HTX2 := Lib.hid htx
  have p0 := hpp.cell 0
  have p1 := hpp.cell 1
  clear hWt hup hkp hb2 hrx1 hps hset hszs hbs hb0 hbs2 hfew2 hc2 hck hpp hne hwx htx z0 z1 z2 z3 e0 e1 e2 e3 f0 f1 f2 f3
  go_upto_region 17 with (go_at_call 13; refine HCK2.out.mono ?_; rintro e w6 ⟨rfl, hb6⟩)
  refine wp_world ?_
  intro W9 hW9
  have hb9 : Below Wt.heap.size Wt W9 := by rw [← hW9]; exact hb6.alloc hb6.size _
  have hT9 : Blk W9 w6.heap.size 33 #[.int .i64 (k : Int), .int .i64 0] := by rw [← hW9]; exact Blk.new w6 _ _
  have t0 := hT9.cell 0
  have t1 := hT9.cell 1
  have hs9 := HTX2.out.below hb9 HTX2.out.lt
  have s0 := hs9.cell 0
  have s1 := hs9.cell 1
  have hwc := three_want (HWX2.out.below hb9 HWX2.out.lt) HIL.out
  rw [← HWV.out] at hwc
  have HB9 := Lib.hid hb9
  obtain ⟨tc, htc⟩ : ∃ b, w6.heap.size = b := ⟨_, rfl⟩
  rw [htc] at t0 t1 ⊢
  clear hW9 hb9 hb6 hT9 hs9 p0 p1 htc
  refine wp_region_lit ?_
  refine takeP 106 (.bool true) rfl (by kernel_rfl) (by go_simp) ?_
  simp only [sA, sB, sC]
  refine takeP 107 (.bool true) rfl (by kernel_rfl) (by go_simp) ?_
  simp only [sA, sB, sC]
  refine takeP 108 (.int .i64 wv) rfl (by kernel_rfl) (by go_simp) ?_
  simp only [sA, sB, sC]
  refine takeP 109 (.slice (some ⟨bw, 0, none⟩) 3 3) rfl (by kernel_rfl) (by go_simp) ?_
  simp only [sA, sB, sC]
  refine takeP 110 (.int .i64 (i : Int)) rfl (by kernel_rfl) (by go_simp) ?_
  simp only [sA, sB, sC]
  refine takeP 111 (.pointer (some ⟨bw, i, none⟩)) rfl (by kernel_rfl) (by go_simp) ?_
  simp only [sA, sB, sC]
  refine takeP 112 (.int .i64 wv) rfl (by kernel_rfl) (by go_simp) ?_
  simp only [sA, sB, sC]
  refine takeP 113 (.bool true) rfl (by kernel_rfl) (by go_simp) ?_
  simp only [sA, sB, sC]
  refine takeP 114 (.bool true) rfl (by kernel_rfl) (by go_simp) ?_
  simp only [sA, sB, sC]
  refine takeP 115 (.bool true) rfl (by kernel_rfl) (by go_simp) ?_
  simp only [sA, sB, sC]
  refine takeP 116 (.agg #[.int .i64 (k : Int), .int .i64 0]) rfl (by kernel_rfl) (by go_simp) ?_
  simp only [sA, sB, sC]
  refine takeP 117 (.int .i64 (k : Int)) rfl (by kernel_rfl) (by go_simp) ?_
  simp only [sA, sB, sC]
  refine takeP 118 (.agg #[.int .i64 (k : Int), .int .i64 0]) rfl (by kernel_rfl) (by go_simp) ?_
  simp only [sA, sB, sC]
  refine takeP 119 (.bool true) rfl (by kernel_rfl) (by have heq := eqt (k : Int) 0 W9; go_simp) ?_
  simp only [sA, sB, sC]
  refine takeP 120 (.bool true) rfl (by kernel_rfl) (by go_simp) ?_
  simp only [sA, sB, sC]
  refine takeP 121 (.bool true) rfl (by kernel_rfl) (by go_simp) ?_
  simp only [sA, sB, sC]
  refine takeP 122 (.int .i64 wv) rfl (by kernel_rfl) (by go_simp) ?_
  simp only [sA, sB, sC]
  refine takeP 123 (.int .i64 wv) rfl (by kernel_rfl) (by go_simp) ?_
  simp only [sA, sB, sC]
  refine takeP 124 (.bool true) rfl (by kernel_rfl) (by go_simp) ?_
  simp only [sA, sB, sC]
  refine takeP 125 (.bool true) rfl (by kernel_rfl) (by go_simp) ?_
  simp only [sA, sB, sC]
  refine takeP 126 (.bool true) rfl (by kernel_rfl) (by go_simp) ?_
  simp only [sA, sB, sC]
  refine takeP 127 (.agg #[.int .i64 (k : Int), .int .i64 0]) rfl (by kernel_rfl) (by go_simp) ?_
  simp only [sA, sB, sC]
  refine takeP 128 (.agg #[.int .i64 (k : Int), .int .i64 0]) rfl (by kernel_rfl) (by go_simp) ?_
  simp only [sA, sB, sC]
  refine takeP 129 (.bool true) rfl (by kernel_rfl) (by have heq := eqt (k : Int) 0 W9; go_simp) ?_
  simp only [sA, sB, sC]
  refine takeP 130 (.bool true) rfl (by kernel_rfl) (by go_simp) ?_
  simp only [sA, sB, sC]
  refine takeP 8 (.bool true) rfl (by kernel_rfl) (by go_simp) ?_
  simp only [sA, sB, sC]
  refine wpList_nil ?_
  go_wp2
  go_ret
  exact ⟨rfl, HBS2.out.trans (HB9.out.mono HBS2.out.size)⟩
end Go.Proofs.YtmignlclfbaifaaGreat
