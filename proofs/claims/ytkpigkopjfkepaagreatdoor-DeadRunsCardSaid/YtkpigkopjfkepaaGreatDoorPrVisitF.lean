/- A walk through a graph, as plain facts: what a visit marks, what it marks is closed, and led to. What flow.Reach's closure does: a visit of the graph of the blocks. -/
import Derived.WalkKit
import Derived.Test.YtkpigkopjfkepaaGreatDoorPrFlowSm
import Derived.Deep.OwnRows
import Derived.Laws.EntriesVeiled
namespace Go.Proofs.YtkpigkopjfkepaaGreatDoor
structure Visited (succ : Nat → List Int) (n : Nat) (M M' : List Bool) : Prop where
 len : M'.length = M.length
 mono : ∀ k : Nat, M[k]? = some true → M'[k]? = some true
 at_ : M'[n]? = some true
 closed : ∀ k : Nat, M'[k]? = some true → M[k]? ≠ some true → ∀ s ∈ succ k, M'[s.toNat]? = some true
 led : ∀ k : Nat, M'[k]? = some true → M[k]? ≠ some true → k = n ∨ ∃ p : Nat, M'[p]? = some true ∧ (k : Int) ∈ succ p
 least : ∀ C : Nat → Prop, (∀ p, C p → ∀ s ∈ succ p, C s.toNat) → C n → (∀ k : Nat, M[k]? = some true → C k) → ∀ k : Nat, M'[k]? = some true → C k
theorem Visited.there {succ : Nat → List Int} {n : Nat} {M : List Bool} (h : M[n]? = some true) : Visited succ n M M :=
 ⟨rfl, fun _ h => h, h, fun _ h1 h2 => absurd h1 h2, fun _ h1 h2 => absurd h1 h2, fun _ _ _ h => h⟩
structure Visiting (succ : Nat → List Int) (n : Nat) (M : List Bool) (i : Nat) (Mi : List Bool) : Prop where
 len : Mi.length = M.length
 mono : ∀ k : Nat, M[k]? = some true → Mi[k]? = some true
 at_ : Mi[n]? = some true
 done : ∀ j (h : j < (succ n).length), j < i → Mi[(succ n)[j].toNat]? = some true
 closed : ∀ k : Nat, k ≠ n → Mi[k]? = some true → M[k]? ≠ some true → ∀ s ∈ succ k, Mi[s.toNat]? = some true
 led : ∀ k : Nat, k ≠ n → Mi[k]? = some true → M[k]? ≠ some true → ∃ p : Nat, Mi[p]? = some true ∧ (k : Int) ∈ succ p
 least : ∀ C : Nat → Prop, (∀ p, C p → ∀ s ∈ succ p, C s.toNat) → C n → (∀ k : Nat, M[k]? = some true → C k) → ∀ k : Nat, Mi[k]? = some true → C k
theorem Visiting.start {succ : Nat → List Int} {n : Nat} {M : List Bool} (h : n < M.length) : Visiting succ n M 0 (M.set n true) := by
 have hne : ∀ k : Nat, k ≠ n → (M.set n true)[k]? = M[k]? := fun k hk => List.getElem?_set_ne (fun e => hk e.symm)
 refine ⟨by simp, fun k hk => ?_, by simp [h], fun j _ hj => by omega, fun k hk h1 h2 => ?_, fun k hk h1 h2 => ?_, fun C _ hn hM k hk => ?_⟩
 ·by_cases e : k = n
  ·subst e; simp [h]
  ·rw [hne k e]; exact hk
 ·rw [hne k hk] at h1; exact absurd h1 h2
 ·rw [hne k hk] at h1; exact absurd h1 h2
 ·by_cases e : k = n
  ·subst e; exact hn
  ·rw [hne k e] at hk; exact hM k hk
theorem Visiting.next {succ : Nat → List Int} {n : Nat} {M Mi M' : List Bool} {i : Nat} (h : Visiting succ n M i Mi) (hi : i < (succ n).length) (h0 : 0 ≤ (succ n)[i]) (hv : Visited succ (succ n)[i].toNat Mi M') : Visiting succ n M (i + 1) M' := by
 refine ⟨hv.len.trans h.len, fun k hk => hv.mono k (h.mono k hk), hv.mono n h.at_, fun j hj hji => ?_, fun k hk h1 h2 s hs => ?_, fun k hk h1 h2 => ?_, fun C hc hn hM => hv.least C hc (hc n hn _ (List.getElem_mem _)) (h.least C hc hn hM)⟩
 ·by_cases e : j = i
  ·subst e; exact hv.at_
  ·exact hv.mono _ (h.done j hj (by omega))
 ·by_cases e : Mi[k]? = some true
  ·exact hv.mono _ (h.closed k hk e h2 s hs)
  ·exact hv.closed k h1 e s hs
 ·by_cases e : Mi[k]? = some true
  ·obtain ⟨p, hp, hs⟩ := h.led k hk e h2
   exact ⟨p, hv.mono _ hp, hs⟩
  ·rcases hv.led k h1 e with h3 | h3
   ·refine ⟨n, hv.mono _ h.at_, ?_⟩
    have : (k : Int) = (succ n)[i] := by omega
    rw [this]
    exact List.getElem_mem _
   ·exact h3
theorem Visiting.finish {succ : Nat → List Int} {n : Nat} {M Mi : List Bool} (h : Visiting succ n M (succ n).length Mi) : Visited succ n M Mi := by
 refine ⟨h.len, h.mono, h.at_, fun k h1 h2 s hs => ?_, fun k h1 h2 => ?_, h.least⟩
 ·by_cases e : k = n
  ·subst e
   obtain ⟨j, hj, rfl⟩ := List.getElem_of_mem hs
   exact h.done j hj hj
  ·exact h.closed k e h1 h2 s hs
 ·by_cases e : k = n
  ·exact .inl e
  ·exact .inr (h.led k e h1 h2)
theorem count_le : ∀ (M M' : List Bool), M'.length = M.length → (∀ k : Nat, M[k]? = some true → M'[k]? = some true) → M'.count false ≤ M.count false
 | [], [], _, _ => Nat.le_refl _
 | [], _ :: _, h, _ => by simp at h
 | _ :: _, [], h, _ => by simp at h
 | a :: r, b :: r', hl, hm => by
  have ih := count_le r r' (by simpa using hl) (fun k hk => by simpa using hm (k + 1) (by simpa using hk))
  have h0 := hm 0
  simp only [List.getElem?_cons_zero, Option.some.injEq] at h0
  cases a <;> cases b <;> simp_all <;> omega
theorem count_set : ∀ (M : List Bool) (n : Nat), M[n]? = some false → (M.set n true).count false + 1 = M.count false
 | [], _, h => by simp at h
 | a :: r, 0, h => by
  simp only [List.getElem?_cons_zero, Option.some.injEq] at h
  subst h
  simp
 | a :: r, n + 1, h => by
  have ih := count_set r n (by simpa using h)
  simp only [List.set_cons_succ, List.count_cons]
  omega
theorem Visiting.less {succ : Nat → List Int} {n : Nat} {M Mi : List Bool} {i : Nat} (h : Visiting succ n M i Mi) (hn : M[n]? = some false) : Mi.count false < M.count false := by
 have h1 := count_set M n hn
 have hlt : n < M.length := (List.getElem?_eq_some_iff.1 hn).1
 have h2 := count_le (M.set n true) Mi (by simp [h.len]) (fun k hk => by
  by_cases e : k = n
  ·subst e; exact h.at_
  ·rw [List.getElem?_set_ne (fun e' => e e'.symm)] at hk
   exact h.mono k hk)
 omega
end Go.Proofs.YtkpigkopjfkepaaGreatDoor
namespace Go.Proofs.YtkpigkopjfkepaaGreatDoor
open Go.RowKit
def succF (f : LFlow) (k : Nat) : List Int := match f.blocks[k]? with
 | some b => nextL b.term
 | none => []
theorem grown_of_below {w w' : World} {row : Option Nat} (h : Below w.heap.size w w') : w.grownBy w' row := ⟨h.os, h.tape, h.output, h.size, fun k hk _ => h.block k hk⟩
def RTerm (cs : List Value) (x : LBlock) : Prop := ∃ vi, cs = vi :: termCells x.term
structure RS (f : LFlow) (bo bf bv g : Nat) (vb : Value) (M : List Bool) (w : World) : Prop where
 row : Blk w g 4 (M.map Value.bool).toArray
 out : ∃ c, w.cell? ⟨bo, 0, none⟩ = some (.slice (some ⟨g, 0, none⟩) f.blocks.length c)
 fl : w.cell? ⟨bf, 3, none⟩ = some vb
 vis : w.cell? ⟨bv, 0, none⟩ = some (.func (.func 33) #[] #[.pointer (some ⟨bo, 0, none⟩), .pointer (some ⟨bf, 0, none⟩), .pointer (some ⟨bv, 0, none⟩)])
 ne : bo ≠ g ∧ bf ≠ g ∧ bv ≠ g
 blocks : SlR w (fun b => b < w.heap.size ∧ b ≠ g) 5 RTerm vb f.blocks
theorem RS.grown {f : LFlow} {bo bf bv g : Nat} {vb : Value} {M M' : List Bool} {w w' : World} (h : RS f bo bf bv g vb M w) (hg : w.grownBy w' (some g)) (hr : Blk w' g 4 (M'.map Value.bool).toArray) : RS f bo bf bv g vb M' w' := by
 obtain ⟨c, hc⟩ := h.out
 obtain ⟨n1, n2, n3⟩ := h.ne
 exact ⟨hr, ⟨c, hg.cell hc (by intro e; injection e with e; exact n1 e)⟩, hg.cell h.fl (by intro e; injection e with e; exact n2 e), hg.cell h.vis (by intro e; injection e with e; exact n3 e), h.ne,
  h.blocks.imp (fun b hb => ⟨Nat.lt_of_lt_of_le hb.1 hg.size, hb.2⟩) (fun b hb => hg.block b hb.1 (by intro e; injection e with e; exact hb.2 e)) (fun _ _ _ r => r)⟩
set_option maxRecDepth 100000 in
set_option maxHeartbeats 4000000 in
theorem visit_any (f : LFlow) (hg : GoodF f) (bo bf bv g : Nat) (vb : Value) : ∀ (m : Nat) (M : List Bool) (n : Nat) (w : World), M.count false < m → M.length = f.blocks.length → n < f.blocks.length → RS f bo bf bv g vb M w →
  Calls Tryz.prog 33 #[.int .i64 n, .pointer (some ⟨bo, 0, none⟩), .pointer (some ⟨bf, 0, none⟩), .pointer (some ⟨bv, 0, none⟩)] w fun e w' => e = .returned (.tuple #[]) ∧ w.grownBy w' (some g) ∧ ∃ M', Blk w' g 4 (M'.map Value.bool).toArray ∧ Visited (succF f) n M M' := by
 intro m
 induction m with
 | zero => intro M n w hm; omega
 | succ m ih =>
  intro M n w hm hM hn hs
  have hlt : n < M.length := by omega
  obtain ⟨co, hco⟩ := hs.out
  obtain ⟨n1, n2, n3⟩ := hs.ne
  have r0 : w.cell? ⟨g, n, none⟩ = some (.bool M[n]) := by rw [hs.row.cell]; simp [hlt]
  have z0 : w.frozen? ⟨g, n, none⟩ = false := hs.row.frozen n
  have hmax : f.blocks.length ≤ maxLen := hs.blocks.len_le
  unfold maxLen at hmax
  have HS := Lib.hid hs
  have HG := Lib.hid hg
  have HMM := Lib.hid hM
  have HM := Lib.hid hm
  clear hs hg hM hm
  go_enter Tryz.func33, Tryz.ntmps33
  rcases hb : M[n] with _ | _
  ·rw [hb] at r0
   have hMn : M[n]? = some false := by rw [List.getElem?_eq_getElem hlt, hb]
   have HMn := Lib.hid hMn
   have hltM := Lib.hid hlt
   clear hb hMn hlt
   go_upto_region 2 with fail
   refine wp_world ?_
   intro W1 hW1
   have hgW : w.grownBy W1 (some g) := by
    rw [← hW1]
    exact ⟨rfl, rfl, rfl, by simp [World.setCell], fun k _ hne => Below.heap_setCell w _ _ k (fun e => hne (by rw [e]))⟩
   have hrow1 : Blk W1 g 4 ((M.set n true).map Value.bool).toArray := by
    rw [← hW1]
    have h := HS.out.row.set_ n (.bool true)
    rw [List.setIfInBounds_toArray, ← List.map_set] at h
    exact h
   have h1 : RS f bo bf bv g vb (M.set n true) W1 := HS.out.grown hgW hrow1
   clear hW1 r0 z0
   obtain ⟨A, c, hvb, _, _⟩ := h1.blocks.val
   obtain ⟨b, off, c', hform, _, _, hbl, hel⟩ := h1.blocks.form (by omega)
   obtain ⟨cs, hcl, ⟨vi, hcs⟩, hcell⟩ := hel n hn
   subst hcs
   subst hvb
   obtain ⟨rfl, rfl⟩ : A = some ⟨b, off, none⟩ ∧ c = c' := by injection hform with h1 _ h2; exact ⟨h1, h2⟩
   obtain ⟨x, hx⟩ : ∃ x, x = f.blocks[n] := ⟨_, rfl⟩
   rw [← hx] at hcell
   have hG : GoodB f.blocks.length x := by rw [hx]; exact HG.out _ (List.getElem_mem _)
   have hsu : succF f n = nextL x.term := by unfold succF; rw [List.getElem?_eq_getElem hn, ← hx]
   have HSU := Lib.hid hsu
   have f3 := h1.fl
   have i1 : W1.cell? ⟨b, off + n * 5 + 1, none⟩ = some (.int .i64 x.term.kind) := hcell.at_ (j := 1) rfl
   have i2 : W1.cell? ⟨b, off + n * 5 + 2, none⟩ = some (.int .i64 x.term.a) := hcell.at_ (j := 2) rfl
   have i3 : W1.cell? ⟨b, off + n * 5 + 3, none⟩ = some (.int .i64 x.term.to) := hcell.at_ (j := 3) rfl
   have i4 : W1.cell? ⟨b, off + n * 5 + 4, none⟩ = some (.int .i64 x.term.els) := hcell.at_ (j := 4) rfl
   have H1 := Lib.hid h1
   have HGN := Lib.hid hG.next
   clear h1 hcell hel hform hcl hx hG hsu
   have HVI := Lib.hid (Visiting.start (succ := succF f) (n := n) (M := M) hltM.out)
   go_wp2_with (go_at_call 34; refine (next_any x.term _).mono ?_; rintro e w1 ⟨v1, rfl, hb1, hs1⟩; obtain ⟨A1, c1, hv1, hl1, hm1⟩ := hs1.val; subst hv1)
   generalize hl : nextL x.term = l at *
   have hg1 : w.grownBy w1 (some g) := hgW.trans (grown_of_below hb1)
   have hrw1 : Blk w1 g 4 ((M.set n true).map Value.bool).toArray := hrow1.below hb1 hrow1.lt
   have HS1 := Lib.hid hs1
   clear hs1 hgW hrow1 i1 i2 i3 i4 f3
   go_loopw [22] (fun s wr => ∃ i : Nat, i ≤ l.length ∧ s = .int .i64 i ∧ w.grownBy wr (some g) ∧ Keeps (fun b => W1.heap.size ≤ b ∧ b < w1.heap.size) w1 wr ∧ w1.heap.size ≤ wr.heap.size ∧ ∃ Mi, Blk wr g 4 (Mi.map Value.bool).toArray ∧ Visiting (succF f) n M i Mi) (fun s _ => l.length - (intOf s).toNat)
   case atStart => exact ⟨0, by omega, rfl, hg1, Keeps.refl _ _, Nat.le_refl _, _, hrw1, HVI.out⟩
   case round =>
    obtain ⟨i, hi, rfl, hgr, hke, hsi, Mi, hro, hvi⟩ := hrel
    have hln : l.length ≤ 9223372036854775807 := by have := Nat.le_trans hl1 hm1; unfold maxLen at this; omega
    by_cases hlt2 : i < l.length
    ·have d1 : decide ((i : Int) < (l.length : Int)) = true := decide_eq_true (by omega)
     obtain ⟨b2, off2, c2', hform, _, _, hbl2, hel⟩ := HS1.out.form (by omega)
     obtain ⟨cs, hcl, hcs, hcell⟩ := hel i hlt2
     subst hcs
     obtain ⟨rfl, rfl⟩ : A1 = some ⟨b2, off2, none⟩ ∧ c1 = c2' := by injection hform with h1 _ h2; exact ⟨h1, h2⟩
     obtain ⟨g0, g1⟩ := HGN.out l[i] (List.getElem_mem _)
     obtain ⟨s, hs⟩ : ∃ s : Nat, l[i] = (s : Int) := ⟨l[i].toNat, by omega⟩
     have j0 : wr.cell? ⟨b2, off2 + i, none⟩ = some (.int .i64 (s : Int)) := by
      have h := (hcell.keep (hke b2 hbl2)).at_ (j := 0) rfl
      rw [hs] at h
      simpa using h
     have hR := HS.out.grown hgr hro
     have v0 := hR.vis
     have HC := Lib.hid (ih Mi s wr (by have := hvi.less HMn.out; have := HM.out; omega) (by rw [hvi.len, HMM.out]) (by omega) hR)
     clear hcell hel hform hcl hR
     go_wp2_with (go_at_call 33; refine HC.out.mono ?_; rintro e w' ⟨rfl, hgr', M', hro', hvis⟩)
     go_roundw
     case rel =>
      refine ⟨i + 1, by omega, by go_num, hgr.trans hgr', ?_, Nat.le_trans hsi hgr'.size, M', hro', ?_⟩
      ·refine hke.trans (fun b hb => hgr'.block b (by omega) ?_)
       intro e
       injection e with e
       have := hro.lt
       have hgl := HS.out.row.lt
       have := hg1.size
       have := H1.out.row.lt
       omega
      ·have hq : succF f n = l := HSU.out
       subst hq
       exact hvi.next hlt2 (by omega) (by rw [hs, Int.toNat_natCast]; exact hvis)
     case measure => simp [intOf]; omega
    ·have d1 : decide ((i : Int) < (l.length : Int)) = false := decide_eq_false (by omega)
     go_wp2
     refine bodyPost_end (results_none rfl _ _ _) rfl ⟨rfl, hgr, Mi, hro, ?_⟩
     have hq : succF f n = l := HSU.out
     subst hq
     obtain rfl : i = (succF f n).length := by omega
     exact hvi.finish
  ·rw [hb] at r0
   have hMn : M[n]? = some true := by rw [List.getElem?_eq_getElem hlt, hb]
   have HMn := Lib.hid hMn
   clear hb hMn
   go_wp2
   exact bodyPost_ret (results_none rfl _ _ _) rfl ⟨rfl, World.grownBy.refl _ _, M, HS.out.row, Visited.there HMn.out⟩
theorem info_bool : (Tryz.prog.info? 4).map (fun i => (i.zero, i.size, i.bytes)) = some (some (.bool false), 1, 1) := by kernel_rfl
def RBool (cs : List Value) (b : Bool) : Prop := cs = [.bool b]
theorem made_one (z : Value) (n : Nat) : madeCells #[z] n = (List.replicate n z).toArray := by
 apply Array.ext
 ·simp [madeCells]
 ·intro i h1 h2
  simp [madeCells, Nat.mod_one]
theorem slr_bools {w : World} {g c : Nat} {T : TypeId} {M : List Bool} {ok : Nat → Prop} {n : Nat} (h : Blk w g T (M.map Value.bool).toArray) (hn : n = M.length) (hc : n ≤ c) (hcm : c ≤ maxLen) (hg : ok g) : SlR w ok 1 RBool (.slice (some ⟨g, 0, none⟩) n c) M := by
 subst hn
 refine ⟨_, c, rfl, hc, hcm, .inr ⟨g, 0, rfl, hg, fun i hi => ⟨[.bool M[i]], rfl, rfl, ?_⟩⟩⟩
 intro j hj
 have hj' : j < 1 := hj
 obtain rfl : j = 0 := by omega
 rw [h.cell]
 simp [hi]
def ReachPost (f : LFlow) (w : World) (e : Ending) (w' : World) : Prop :=
 ∃ v M, e = .returned v ∧ Below w.heap.size w w' ∧ SlR w' (fun b => w.heap.size ≤ b ∧ b < w'.heap.size) 1 RBool v M ∧ M.length = f.blocks.length ∧ (0 < f.blocks.length → Visited (succF f) 0 (List.replicate f.blocks.length false) M)
set_option maxRecDepth 100000 in
set_option maxHeartbeats 4000000 in
theorem reach_any (f : LFlow) (hg : GoodF f) (hf0 : 0 < f.blocks.length) (hf8 : f.blocks.length ≤ 1000) (vb : Value) (w : World) (hv : SlR w (· < w.heap.size) 5 (RBlock w (· < w.heap.size)) vb f.blocks) :
  Calls Tryz.prog 15 #[.agg #[.string f.name, .int .i64 f.params, .int .i64 f.values, vb]] w (ReachPost f w) := by
 obtain ⟨A, c, hvr, hlc, hcm⟩ := hv.val
 have HV := Lib.hid hv
 have HG := Lib.hid hg
 clear hv hg
 subst hvr
 have hmk := run_make_row' (P := Tryz.prog) 50 4 (.bool false) 1 Tryz.underlying50 info_bool rfl .i64 .i64 f.blocks.length (by omega) (by omega)
 go_enter Tryz.func15, Tryz.ntmps15
 go_upto_region 1 with fail
 refine wp_world ?_
 intro W hW
 have hB : Below w.heap.size w W := by rw [← hW]; exact below1 _ _
 have hF : Blk W w.heap.size 41 #[.string f.name, .int .i64 f.params, .int .i64 f.values, .slice A f.blocks.length c] := by rw [← hW]; exact Blk.new_at _ _ _ rfl
 clear hW
 have c0 : W.cell? ⟨w.heap.size, 0, none⟩ = some (.string f.name) := hF.cell 0
 have c1 : W.cell? ⟨w.heap.size, 1, none⟩ = some (.int .i64 f.params) := hF.cell 1
 have c2 : W.cell? ⟨w.heap.size, 2, none⟩ = some (.int .i64 f.values) := hF.cell 2
 have c3 : W.cell? ⟨w.heap.size, 3, none⟩ = some (.slice A f.blocks.length c) := hF.cell 3
 have HM := Lib.hid (may_any f HG.out (.slice A f.blocks.length c) W (HV.out.imp (fun _ h => Nat.lt_of_lt_of_le h hB.size) (fun b h => hB.block b h) (fun _ _ _ r => r.imp (fun _ h => Nat.lt_of_lt_of_le h hB.size) (fun b h => hB.block b h))))
 go_upto_region 3 with (go_at_call 32; refine HM.out.mono ?_; rintro e w1 ⟨rfl, hb1⟩; have d3 : w1.cell? ⟨w.heap.size, 3, none⟩ = some (.slice A f.blocks.length c) := (hF.below hb1 hF.lt).cell 3)
 go_upto_region 6 with fail
 refine wp_world ?_
 intro W2 hW2
 have hb2 : Below w1.heap.size w1 W2 := by rw [← hW2]; exact ((((Below.refl _ _).alloc (Nat.le_refl _) _).alloc (by simp) _).alloc (by simp <;> omega) _)
 have hrow : Blk W2 w1.heap.size 4 ((List.replicate f.blocks.length false).map Value.bool).toArray := by
  rw [← hW2]
  have h := ((Blk.new w1 4 (madeCells #[.bool false] f.blocks.length)).alloc (.cells #[.slice (some ⟨w1.heap.size, 0, none⟩) f.blocks.length f.blocks.length] 50)).alloc (.cells #[.func (.func 33) #[] #[.pointer (some ⟨w1.heap.size + 1, 0, none⟩), .pointer (some ⟨w.heap.size, 0, none⟩), .pointer (some ⟨w1.heap.size + 1 + 1, 0, none⟩)]] 81)
  rw [List.map_replicate, ← made_one]
  exact h
 have hout : W2.cell? ⟨w1.heap.size + 1, 0, none⟩ = some (.slice (some ⟨w1.heap.size, 0, none⟩) f.blocks.length f.blocks.length) := by
  rw [← hW2]
  exact ((Blk.new_at _ _ _ (by simp)).alloc _).cell 0
 have hvis : W2.cell? ⟨w1.heap.size + 1 + 1, 0, none⟩ = some (.func (.func 33) #[] #[.pointer (some ⟨w1.heap.size + 1, 0, none⟩), .pointer (some ⟨w.heap.size, 0, none⟩), .pointer (some ⟨w1.heap.size + 1 + 1, 0, none⟩)]) := by
  rw [← hW2]
  exact (Blk.new_at _ _ _ (by simp)).cell 0
 clear hW2 hmk c0 c1 c2 c3 HM
 have hws : w.heap.size < w1.heap.size := Nat.lt_of_lt_of_le hF.lt hb1.size
 have hB1 := hB.trans (hb1.mono hB.size)
 have hB2 := hB1.trans (hb2.mono hB1.size)
 have hRS : RS f (w1.heap.size + 1) w.heap.size (w1.heap.size + 1 + 1) w1.heap.size (.slice A f.blocks.length c) (List.replicate f.blocks.length false) W2 := by
  refine ⟨hrow, ⟨_, hout⟩, (hb2.cell (p := ⟨w.heap.size, 3, none⟩) hws).trans d3, hvis, ⟨by omega, by omega, by omega⟩, ?_⟩
  refine HV.out.imp (fun b h => ⟨Nat.lt_of_lt_of_le h hB2.size, by omega⟩) (fun b h => hB2.block b h) ?_
  rintro cs x _ ⟨vi, e, _⟩
  exact ⟨vi, e⟩
 have HC := Lib.hid (visit_any f HG.out (w1.heap.size + 1) w.heap.size (w1.heap.size + 1 + 1) w1.heap.size (.slice A f.blocks.length c) _ _ 0 W2 (Nat.lt_succ_self _) (by simp) hf0 hRS)
 have d0 : decide ((0 : Int) < (f.blocks.length : Int)) = true := decide_eq_true (by omega)
 have hls : w1.heap.size + 1 < W2.heap.size := World.block_lt_of_cell? W2 _ hout
 go_wp2_with (go_at_call 33; refine HC.out.mono ?_; rintro e w3 ⟨rfl, hg3, M', hro3, hvi3⟩; have hout3 := hg3.cell hout (by intro e; injection e with e; exact absurd e (Nat.succ_ne_self _)))
 go_ret
 refine ⟨_, M', rfl, (hB2.grown hg3 hB2.size (fun k e => by injection e with e; omega)), slr_bools hro3 (by rw [hvi3.len]; simp) (Nat.le_refl _) (by unfold maxLen; omega) ⟨by omega, hro3.lt⟩, by rw [hvi3.len]; simp, fun _ => hvi3⟩
end Go.Proofs.YtkpigkopjfkepaaGreatDoor
