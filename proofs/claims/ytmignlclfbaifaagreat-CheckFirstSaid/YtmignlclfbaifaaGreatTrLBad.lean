/- The wrong statements of chapter 5's laws, as they lie in memory; a statement put behind a function's body. Plain laws. -/
import Derived.Test.YtmignlclfbaifaaGreatTrLSet
namespace Go.Proofs.YtmignlclfbaifaaGreat
open Go.RowKit

theorem ProgIn.below {w w' : World} {p : LProg} {A1 : Option Addr} {c1 g c2 B3 lo : Nat} {css : List (List Value)} (h : ProgIn w p A1 c1 g c2 B3 lo css) (hb : Below w.heap.size w w') : ProgIn w' p A1 c1 g c2 B3 lo css := by
  have hl := h.low
  have hg := (h.row.row.lt g rfl)
  exact ⟨h.gen, h.arrs.imp (fun _ h => h) (fun b hb2 => hb.block b (by have hb3 : b < lo := hb2; omega)) fun _ _ _ r => r, hl, h.row.below (mono_func 8) hb (fun b hb => hb.2.1) (fun b hq => ⟨hq.1, Nat.lt_of_lt_of_le hq.2.1 hb.size, hq.2.2⟩) fun k e hk => hk.2.2 e⟩
def onE : List Value := [.int .i64 1, .int .i64 0, .int .i64 1, .string ⟨#[]⟩, .slice none 0 0]
def stE : List Value := [.int .i64 2, .int .i64 0, .int .i64 0, .string strangeN, .slice none 0 0]
def stmB (k : Int) (nm : ByteArray) (v : Value) : List Value := [.int .i64 k, .string nm, v, .slice none 0 0, .slice none 0 0]
section
variable {W : World} {ok : Nat → Prop} {g : Nat} {T : TypeId}
theorem row_on (h : Blk W g T onE.toArray) (hg : ok g) (d : Nat) : SlR W ok 5 (RExpr (d + 1) W ok) (.slice (some ⟨g, 0, none⟩) 1 1) [oneX] :=
  SlR.lit [onE] h rfl ⟨⟨rfl, ⟨_, rfl, SlR.nil_ _ _ _ _⟩⟩, trivial⟩ rfl hg (by omega)
theorem row_on2 (h : Blk W g T (onE ++ onE).toArray) (hg : ok g) (d : Nat) : SlR W ok 5 (RExpr (d + 1) W ok) (.slice (some ⟨g, 0, none⟩) 2 2) [oneX, oneX] :=
  SlR.lit [onE, onE] h rfl ⟨⟨rfl, ⟨_, rfl, SlR.nil_ _ _ _ _⟩⟩, ⟨rfl, ⟨_, rfl, SlR.nil_ _ _ _ _⟩⟩, trivial⟩ rfl hg (by omega)
theorem row_st (h : Blk W g T stE.toArray) (hg : ok g) (d : Nat) : SlR W ok 5 (RExpr (d + 1) W ok) (.slice (some ⟨g, 0, none⟩) 1 1) [strangeX] :=
  SlR.lit [stE] h rfl ⟨⟨rfl, ⟨_, rfl, SlR.nil_ _ _ _ _⟩⟩, trivial⟩ rfl hg (by omega)
theorem row_in {k : Int} {nm : ByteArray} {v : Value} {x : LExpr} {d : Nat} (h : Blk W g T #[.int .i64 k, .int .i64 0, .int .i64 0, .string nm, v]) (hg : ok g) (hv : SlR W ok 5 (RExpr d W ok) v [x]) : SlR W ok 5 (RExpr (d + 1) W ok) (.slice (some ⟨g, 0, none⟩) 1 1) [⟨k, 0, 0, nm, [x]⟩] :=
  SlR.lit [[.int .i64 k, .int .i64 0, .int .i64 0, .string nm, v]] h rfl ⟨⟨rfl, ⟨_, rfl, hv⟩⟩, trivial⟩ rfl hg (by omega)
theorem rstm {k : Int} {nm : ByteArray} {v : Value} {l : List LExpr} {d : Nat} (hv : SlR W ok 5 (RExpr (d + 1) W ok) v l) : RStmt (d + 1) W ok (stmB k nm v) (lone k nm l) :=
  ⟨_, _, _, rfl, hv, SlR.nil_ _ _ _ _, SlR.nil_ _ _ _ _⟩
end
def wantC : Array Value := #[.int .i64 53, .int .i64 53, .int .i64 51, .int .i64 51, .int .i64 51, .int .i64 52, .int .i64 51, .int .i64 51]
theorem want_cell {X : World} {g : Nat} {T : TypeId} {i : Nat} (h : Blk X g T wantC) (hi : i < wantL.length) : X.cell? ⟨g, i, none⟩ = some (.int .i64 (wantL[i]'hi)) := by
  have h8 : wantL.length = 8 := rfl
  rcases (by omega : i = 0 ∨ i = 1 ∨ i = 2 ∨ i = 3 ∨ i = 4 ∨ i = 5 ∨ i = 6 ∨ i = 7) with rfl | rfl | rfl | rfl | rfl | rfl | rfl | rfl
  · exact h.cell 0
  · exact h.cell 1
  · exact h.cell 2
  · exact h.cell 3
  · exact h.cell 4
  · exact h.cell 5
  · exact h.cell 6
  · exact h.cell 7
/-- a body with a statement behind it, in a function's box -/
theorem body_rel {Wb X0 X : World} {lo g gf nb nn cv base : Nat} {Av : Option Addr} {T : TypeId} {bss : List (List Value)} {dd : List Value} {body : List LStmt} {s : LStmt} {u0 u1 u2 u3 : Value}
    (hX : Below Wb.heap.size Wb X) (hgf : Wb.heap.size ≤ gf) (hZ : Below X0.heap.size X0 X) (hgf0 : gf < X0.heap.size) (hlo : lo ≤ X0.heap.size) (hg : g < X0.heap.size) (hbase : X0.heap.size ≤ base) (hrow : X.ownsRow base T 5 (.slice Av nn cv) nn ([] ++ bss.flatten ++ dd)) (hnn : nn = nb + 1) (hnb : nb = body.length)
    (h1 : bss.length = body.length) (e1 : ∀ cs ∈ bss, cs.length = 5) (r1 : ∀ (i : Nat) (a : i < bss.length) (b : i < body.length), RStmt 8 X0 (fun b => lo ≤ b ∧ b < gf ∧ b ≠ g) bss[i] body[i]) (hd : dd.length = 5) (r2 : RStmt 8 X0 (fun b => lo ≤ b ∧ b < gf ∧ b ≠ g) dd s)
    (hf : Blk X gf 49 #[u0, u1, u2, u3]) (c2 nf : Nat) :
    Below Wb.heap.size Wb (X.setCell ⟨gf, 3, none⟩ (.slice Av nn cv)) ∧ Blk (X.setCell ⟨gf, 3, none⟩ (.slice Av nn cv)) gf 49 #[u0, u1, u2, .slice Av nn cv] ∧
      SlR (X.setCell ⟨gf, 3, none⟩ (.slice Av nn cv)) (okX lo (X.setCell ⟨gf, 3, none⟩ (.slice Av nn cv)) (.slice (some ⟨g, 0, none⟩) nf c2)) 5 (RStmt 8 (X.setCell ⟨gf, 3, none⟩ (.slice Av nn cv)) (okX lo (X.setCell ⟨gf, 3, none⟩ (.slice Av nn cv)) (.slice (some ⟨g, 0, none⟩) nf c2))) (.slice Av nn cv) (body ++ [s]) := by
  have hgr : X.grownBy (X.setCell ⟨gf, 3, none⟩ (.slice Av nn cv)) (some gf) := grown_set X ⟨gf, 3, none⟩ _
  refine ⟨hX.setCell (p := ⟨gf, 3, none⟩) hgf _, hf.set_ 3 _, ?_⟩
  generalize (X.setCell ⟨gf, 3, none⟩ (.slice Av nn cv)) = Y at *
  have hr2 := hrow.kept hgr (by
    cases e : (.slice Av nn cv : Value).ownBlock with
    | none => exact .inl rfl
    | some q => exact .inr (fun e2 => by have h3 := (hrow.lt q e).1; have h4 := Option.some.inj e2; omega))
  rw [List.nil_append, hnn, show dd = [dd].flatten by simp] at hr2
  have hsz := hgr.size
  have hz := hZ.size
  have h := slr_joined (l := body) (r := [s]) (dss := [dd]) (ok := fun b => lo ≤ b ∧ b < gf ∧ b ≠ g) (ok' := okX lo Y (.slice (some ⟨g, 0, none⟩) nf c2)) (R := fun w ok => RStmt 8 w ok) (mono_stmt 8) hr2 hnb rfl h1 rfl e1 (fun cs hcs => by rw [List.mem_singleton.1 hcs]; exact hd) r1 (fun i a b => by
      have hi : i = 0 := by simp at a; omega
      subst hi; exact r2)
    (fun b hb => ⟨hb.1, by omega, fun e => hb.2.2 (by have h4 : g = b := (by simpa [Value.ownBlock] using e); exact h4.symm)⟩) (fun b hb => (hgr.block b (by omega) (fun e => by have h1 := Option.some.inj e; omega)).trans (hZ.block b (by omega))) (fun q e => by
      have h3 := hr2.lt q e
      exact ⟨by omega, h3.2, fun e2 => by have h4 : g = q := (by simpa [Value.ownBlock] using e2); omega⟩)
  rw [← hnn] at h
  exact h
theorem body_set (p : LProg) {k : Nat} (hk : k < p.funcs.length) (b : List LStmt) : (bodyP p k b).funcs = p.funcs.set k { p.funcs[k] with body := b } := by
  refine List.ext_getElem (by simp [bodyP]) fun j h1 h2 => ?_
  by_cases h : k = j
  · subst h; simp [bodyP]
  · simp [bodyP, h]
theorem wrong_small : ∀ s ∈ wrongL, (allL 8 [s] false).length ≤ 100 := by decide +kernel
theorem wrong_few {p : LProg} (h : GenP p) {k : Nat} (hk : k < p.funcs.length) {s : LStmt} (hs : s ∈ wrongL) : FewP 8 (bodyP p k (p.funcs[k].body ++ [s])) := by
  refine few_of (by have := h.few.2; show p.arrays.length ≤ 400; omega) (by rw [body_set p hk, List.length_set]; have := h.few.1; omega) fun f hf => ?_
  rw [body_set p hk] at hf
  rcases List.mem_or_eq_of_mem_set hf with h1 | h1
  · have := h.func 8 h1; omega
  · have h2 := h.func 8 (List.getElem_mem hk)
    have h3 := wrong_small s hs
    subst h1
    refine ⟨by show p.funcs[k].params.length ≤ 400; omega, by show p.funcs[k].locals.length ≤ 400; omega, ?_⟩
    show (allL 8 (p.funcs[k].body ++ [s]) false).length ≤ 20000
    rw [allL_append, List.length_append]
    omega
end Go.Proofs.YtmignlclfbaifaaGreat
