/- The block that 'IrWrong' puts in: it may not be; its parts in memory. -/
import Derived.Test.YtnpnhdmfdhnmfaaGreatDoorWrongPlain
import Derived.Test.YtnpnhdmfdhnmfaaGreatDoorStepApp
import Derived.Test.YtnpnhdmfdhnmfaaGreatDoorLit
namespace Go.Proofs.YtnpnhdmfdhnmfaaGreatDoor
open Go.RowKit

/-- a row's cells, element by element, that may be none -/
theorem SlR.rows_any {α : Type} {w : World} {ok : Nat → Prop} {sz n c : Nat} {A : Option Addr} {R : List Value → α → Prop} {l : List α} (h : SlR w ok sz R (.slice A n c) l) :
    ∃ css : List (List Value), css.length = l.length ∧ (∀ cs ∈ css, cs.length = sz) ∧ (∀ (i : Nat) (h1 : i < css.length) (h2 : i < l.length), R css[i] l[i]) ∧ (l.length = 0 ∨ ∃ b o, A = some ⟨b, o, none⟩ ∧ ok b ∧ Cells w b o css.flatten) := by
  by_cases h0 : 0 < l.length
  · obtain ⟨b, o, c', hv, _, _, _, _⟩ := h.form h0
    have hA : A = some ⟨b, o, none⟩ := by injection hv
    subst hA
    obtain ⟨css, q1, q2, q3, q4, q5⟩ := h.rows h0
    exact ⟨css, q1, q2, q3, .inr ⟨b, o, rfl, q5, q4⟩⟩
  · have e : l = [] := List.eq_nil_of_length_eq_zero (by omega)
    subst e
    exact ⟨[], rfl, fun _ h => by simp at h, fun i h => by simp at h, .inl rfl⟩

/-- the block that is put in: it may not be; its instructions lie in rows of their own -/
structure WrB (raw : List LBlock) (k i base gf tB : Nat) (W6 wx : World) (b : LBlock) (A : Option Addr) (c : Nat) : Prop where
  few : b.ins.length ≤ 7
  bad : blockBad (wrU raw k i b) (fitFl raw k) b = true
  below : Below tB W6 wx
  blk : Blk wx tB 43 #[.slice A b.ins.length c, .int .i64 b.term.kind, .int .i64 b.term.a, .int .i64 b.term.to, .int .i64 b.term.els]
  ins : SlR wx (fun q => base ≤ q ∧ q < wx.heap.size ∧ q ≠ gf ∧ q ≠ tB) 8 (RIns wx (fun q => base ≤ q ∧ q < wx.heap.size ∧ q ≠ gf ∧ q ≠ tB)) (.slice A b.ins.length c) b.ins

theorem wrb_ins {raw : List LBlock} {k i base gf B8 tB : Nat} {W0 W W6 X : World} {nn : Int} {x : LIns} {xs : List LIns} {tm : LTerm} {css : List (List Value)} {ok : Nat → Prop} {va v2 vi : Value} (hk : k < 3) (hn : 10 ≤ nn) (hx : x ∈ badIns nn) (hl : xs.length ≤ 6) (hcl : css.length = xs.length) (hce : ∀ cs ∈ css, cs.length = 8)
    (hR : ∀ (j : Nat) (h1 : j < css.length) (h2 : j < xs.length), RIns W ok css[j] xs[j]) (hok : ∀ b, ok b → base ≤ b ∧ b < W6.heap.size ∧ b ≠ gf ∧ b < tB) (hkW : Keeps ok W X)
    (hva : SlR W6 (fun b => W0.heap.size ≤ b ∧ b < tB) 1 RInt va x.args) (hb0 : base ≤ W0.heap.size) (hgf : gf < W0.heap.size) (hgt : gf < tB)
    (hb : Below tB W6 X) (hX : Blk X tB 43 #[vi, .int .i64 tm.kind, .int .i64 tm.a, .int .i64 tm.to, .int .i64 tm.els])
    (hown : X.ownsRow B8 36 8 v2 (xs.length + 1) (css.flatten ++ insCells x va)) (hB8 : tB < B8) (hB : base ≤ B8) (hg : ∀ g, v2.ownBlock = some g → g < X.heap.size) :
    ∃ b A c, WrB raw k i base gf tB W6 (X.setCell ⟨tB, 0, none⟩ v2) b A c := by
  obtain ⟨A, c, hv⟩ := own_form hown
  subst hv
  have hlen : (xs ++ [x]).length = xs.length + 1 := by simp
  have hne : ∀ b, b ≠ tB → (X.setCell ⟨tB, 0, none⟩ (.slice A (xs.length + 1) c)).heap[b]? = X.heap[b]? := fun b hb => Below.heap_setCell _ _ _ b hb
  have hsz : (X.setCell ⟨tB, 0, none⟩ (.slice A (xs.length + 1) c)).heap.size = X.heap.size := by simp [World.setCell]
  have htX := hX.lt
  have hown' : (X.setCell ⟨tB, 0, none⟩ (.slice A (xs.length + 1) c)).ownsRow B8 36 8 (.slice A (xs.length + 1) c) (xs.length + 1) ((css ++ [insCells x va]).flatten) := by
    have h : (css ++ [insCells x va]).flatten = css.flatten ++ insCells x va := by simp
    rw [h]
    exact own_keep hown fun g e => hne g (by have := (hown.lt g e).1; omega)
  refine ⟨⟨xs ++ [x], tm⟩, A, c, ?_, wr_ins raw k i hk nn hn x hx xs tm, hb.setCell (Nat.le_refl _) _, ?_, ?_⟩
  · show (xs ++ [x]).length ≤ 7
    rw [hlen]; omega
  · show Blk _ tB _ #[.slice A (xs ++ [x]).length c, _, _, _, _]
    rw [hlen]
    exact hX.set_ 0 _
  · show SlR _ _ 8 _ (.slice A (xs ++ [x]).length c) (xs ++ [x])
    rw [hlen]
    refine SlR.of_own hown' hlen.symm (by simp [hcl]) ?_ ?_ ?_
    · intro cs hcs
      rcases List.mem_append.1 hcs with h | h
      · exact hce cs h
      · rw [List.mem_singleton.1 h]; rfl
    · intro j h1 h2
      have hX6 := hb.size
      by_cases hj : j < xs.length
      · have hjc : j < css.length := by omega
        rw [List.getElem_append_left hjc, List.getElem_append_left hj]
        refine (hR j hjc hj).imp (fun b hb' => ?_) (fun b hb' => ?_)
        · obtain ⟨h1, h2, h3, h4⟩ := hok b hb'
          exact ⟨h1, by rw [hsz]; omega, h3, by omega⟩
        · exact (hne b (by have := hok b hb'; omega)).trans (hkW b hb')
      · have hj' : j = xs.length := by rw [hlen] at h2; omega
        subst hj'
        have e1 : (css ++ [insCells x va])[xs.length] = insCells x va := by rw [List.getElem_append_right (by omega)]; simp
        have e2 : (xs ++ [x])[xs.length] = x := by rw [List.getElem_append_right (by omega)]; simp
        rw [e1, e2]
        refine ⟨va, rfl, hva.imp (fun b hb' => ⟨by omega, by rw [hsz]; omega, by omega, by omega⟩) (fun b hb' => (hne b (by omega)).trans (hb.block b hb'.2)) (fun _ _ _ r => r)⟩
    · intro g e
      have h1 := (hown.lt g e).1
      exact ⟨by omega, by rw [hsz]; exact hg g e, by omega, by omega⟩

theorem wrb_end {raw : List LBlock} {k i base gf tB : Nat} {W W6 X : World} {nn : Int} {t : LTerm} {xs : List LIns} {ok : Nat → Prop} {Ac : Option Addr} {cc : Nat} (hk : k < 3) (hn : 10 ≤ nn) (ht : t ∈ badEnds nn) (hl : xs.length ≤ 6)
    (hs : SlR W ok 8 (RIns W ok) (.slice Ac xs.length cc) xs) (hok : ∀ b, ok b → base ≤ b ∧ b < W6.heap.size ∧ b ≠ gf ∧ b < tB) (hkW : Keeps ok W X) 
    (hb : Below tB W6 X) (hX : Blk X tB 43 #[.slice Ac xs.length cc, .int .i64 t.kind, .int .i64 t.a, .int .i64 t.to, .int .i64 t.els]) :
    ∃ b A c, WrB raw k i base gf tB W6 X b A c :=
  have hsz := hb.size
  ⟨⟨xs, t⟩, Ac, cc, by show xs.length ≤ 7; omega, wr_end raw k i hk nn hn t ht xs, hb, hX, hs.imp (fun b hb' => by obtain ⟨h1, h2, h3, h4⟩ := hok b hb'; exact ⟨h1, by omega, h3, by omega⟩) hkW (fun _ _ _ r => r.imp (fun b hb' => by obtain ⟨h1, h2, h3, h4⟩ := hok b hb'; exact ⟨h1, by omega, h3, by omega⟩) hkW)⟩
end Go.Proofs.YtnpnhdmfdhnmfaaGreatDoor
