/- What flow.Live does: what is wanted at each block's beginning, rising. The region 'out = append(out, s.rising())' of flow.after, in whatever order its operations come. Printed by wip/gen_after.py. -/
import Derived.Test.YtkpigkopjfkepaaGreatDoorPrFlowWanted
import Derived.Deep.AppendLies
namespace Go.Proofs.YtkpigkopjfkepaaGreatDoor
open Go.RowKit Go.Maps
def RInts (w : World) (ok : Nat → Prop) (cs : List Value) (l : List Int) : Prop := ∃ v, cs = [v] ∧ SlR w ok 1 RInt v l
theorem mono_ints : MonoR RInts := fun _ _ _ _ _ _ ⟨v, e, h⟩ a b => ⟨v, e, h.imp a b fun _ _ _ r => r⟩
def RowsPost (ls : List (List Int)) (w : World) (e : Ending) (w' : World) : Prop :=
 ∃ v, e = .returned v ∧ Below w.heap.size w w' ∧ SlR w' (fun b => w.heap.size ≤ b ∧ b < w'.heap.size) 1 (RInts w' fun b => w.heap.size ≤ b ∧ b < w'.heap.size) v ls
theorem info_ints : (Tryz.prog.info? 38).map (fun i => (i.zero, i.size, i.bytes)) = some (some (.slice none 0 0), 1, 24) := by kernel_rfl
def liveRow (n : Nat) (vs : List Value) : Array Value := (vs ++ List.replicate (n - vs.length) (Value.slice none 0 0)).toArray
theorem liveRow_at {n : Nat} (vs : List Value) (h : vs.length < n) : (liveRow n vs)[vs.length]? = some (.slice none 0 0) := by
 unfold liveRow
 rw [List.getElem?_toArray, List.getElem?_append_right (by omega), Nat.sub_self]
 exact List.getElem?_replicate_of_lt (by omega)
theorem liveRow_set {n : Nat} (vs : List Value) (v : Value) (h : vs.length < n) : (liveRow n vs).setIfInBounds vs.length v = liveRow n (vs ++ [v]) := by
 unfold liveRow
 rw [List.setIfInBounds_toArray]
 congr 1
 rw [List.set_append_right _ _ (by simp)]
 obtain ⟨k, hk⟩ : ∃ k, n - vs.length = k + 1 := ⟨n - vs.length - 1, by omega⟩
 have hk2 : n - (vs ++ [v]).length = k := by simp; omega
 rw [hk, hk2]
 simp [List.replicate_succ]
theorem liveRow_get {n : Nat} (vs : List Value) (i : Nat) (h : i < vs.length) : (liveRow n vs)[i]? = some vs[i] := by
 unfold liveRow
 rw [List.getElem?_toArray, List.getElem?_append_left h]
 simp
end Go.Proofs.YtkpigkopjfkepaaGreatDoor
namespace Go.Proofs.YtkpigkopjfkepaaGreatDoor
open Go.RowKit Go.Shelf Go.Maps
attribute [local go_sem] Oper.semAt_some
theorem step_append_liesIn {F : Fence} {nn : Nat} {P : Program} (w : World) {ops : Array Oper} {o : Oper} {a : Act} {K : Act → World → Prop} {Q : Exit → Act → World → Prop} {E : Prop} (hgd : o.guard = none) (s x : Operand) (t : TypeId)
  (ho : o.op = .call { callee := .builtin .append, args := #[s, x], argTypes := #[t, t] })
  (base : Nat) (e : TypeId) (i : TypeInfo) (z : Value) (size bytes : Nat) (ht : P.underlying t = some (.slice e)) (hi : P.info? e = some i) (hz : i.zero = some z)
  (hsize : i.size = size) (hby : i.bytes = bytes) (hzs : z.cells.size = size) (hsz : 0 < size)
  (v : Value) (n : Nat) (xs : List Value) (hs : a.eval s = v) (hown : w.ownsRow base e size v n xs)
  (ad : Addr) (m c : Nat) (news : List Value) (hx : a.eval x = .slice (some ad) m c) (hl : news.length = m * size) (hnews : ∀ j u, news[j]? = some u → w.cell? (ad.add j) = some u) (h1 : ∀ u ∈ news, u.oneCell' = true)
  (hm : 0 < m) (h63 : n + m ≤ maxLen) (hbytes : (n + m) * bytes ≤ 140737488355328) (hbase : base ≤ w.heap.size) (H : Nat) (hH : w.heap.size = H)
  (h : ∀ g cap w', w'.ownsRow base e size (.slice (some ⟨g, 0, none⟩) (n + m) cap) (n + m) (xs ++ news) → w.grownBy w' v.ownBlock → (v.ownBlock = some g ∨ g = H) → g < w'.heap.size → K (a.put o.dst (.slice (some ⟨g, 0, none⟩) (n + m) cap)) w') :
  if Region.wanted o (yielded ops a.tmps) = true then Oper.wpIn F nn P o a w K Q else E := by
 have hw : Region.wanted o (yielded ops a.tmps) = true := by simp [Region.wanted, hgd]
 rw [if_pos hw]
 obtain ⟨g, cap, w', hr, h2, h3, h4, h5⟩ := run_append_lies (P := P) w t o.type base e i z size bytes ht hi hz hsize hby hzs hsz v n xs hown ad m c news hl hnews h1 hm h63 hbytes hbase H hH
 unfold Oper.wpIn
 refine ⟨?_, ?_⟩
 ·simp [Oper.about, ho, resolve, Target.leads, Sem.run_pure]
 ·rw [Oper.semAt_plain F _ _ (by rw [ho]; intro c hc'; cases hc')]
  simp [execOp, ho, resolve, invoke, builtin, hs, hx, hr, Result.andThen]
  exact h g cap w' h2 h3 h4 h5
structure OwnS (w : World) (base ex : Nat) (v : Value) (ls : List (List Int)) (vs : List Value) : Prop where
 len : vs.length = ls.length
 row : w.ownsRow base 38 1 v ls.length vs
 elems : ∀ (i : Nat) (h1 : i < vs.length) (h2 : i < ls.length), SlR w (fun b => base ≤ b ∧ b < w.heap.size ∧ v.ownBlock ≠ some b ∧ b ≠ ex) 1 RInt vs[i] ls[i]
theorem OwnS.keep {w w' : World} {base ex : Nat} {v : Value} {ls : List (List Int)} {vs : List Value} (h : OwnS w base ex v ls vs) (hk : Keeps (fun b => base ≤ b ∧ b < w.heap.size ∧ b ≠ ex) w w') (hne : v.ownBlock ≠ some ex) (hs : w.heap.size ≤ w'.heap.size) : OwnS w' base ex v ls vs := by
 refine ⟨h.len, ?_, fun i h1 h2 => (h.elems i h1 h2).imp (fun b hb => ⟨hb.1, Nat.lt_of_lt_of_le hb.2.1 hs, hb.2.2⟩) (hk.mono fun b hb => ⟨hb.1, hb.2.1, hb.2.2.2⟩) fun _ _ _ r => r⟩
 refine ⟨h.row.1, ?_⟩
 rcases h.row.2 with hn | ⟨g, cap, cur, hv, hb, hg, rest⟩
 ·exact .inl hn
 ·refine .inr ⟨g, cap, cur, hv, hb, ?_, rest⟩
  rw [hk g ⟨hb, (Array.getElem?_eq_some_iff.1 hg).1, fun e => hne (by rw [hv, ← e]; rfl)⟩]
  exact hg
theorem OwnS.snoc {w wa w' : World} {base ex : Nat} {v : Value} {ls : List (List Int)} {vs : List Value} {l : List Int} {u : Value} {g cap : Nat} (h : OwnS w base ex v ls vs) (hb : Keeps (fun b => base ≤ b ∧ b < w.heap.size ∧ b ≠ ex) w wa) (hsz : w.heap.size ≤ wa.heap.size)
  (hown : w'.ownsRow base 38 1 (.slice (some ⟨g, 0, none⟩) (ls.length + 1) cap) (ls.length + 1) (vs ++ [u])) (hg : wa.grownBy w' v.ownBlock)
  (hat : v.ownBlock = some g ∨ wa.heap.size ≤ g) (hx : SlR wa (fun b => base ≤ b ∧ b < wa.heap.size ∧ v.ownBlock ≠ some b ∧ b ≠ ex) 1 RInt u l) : OwnS w' base ex (.slice (some ⟨g, 0, none⟩) (ls.length + 1) cap) (ls ++ [l]) (vs ++ [u]) := by
 have hsub : ∀ b, (base ≤ b ∧ b < wa.heap.size ∧ v.ownBlock ≠ some b ∧ b ≠ ex) → (base ≤ b ∧ b < w'.heap.size ∧ (Value.slice (some ⟨g, 0, none⟩) (ls.length + 1) cap).ownBlock ≠ some b ∧ b ≠ ex) := by
  intro b hb'
  refine ⟨hb'.1, Nat.lt_of_lt_of_le hb'.2.1 hg.size, fun e => ?_, hb'.2.2.2⟩
  have e' : g = b := by simpa [Value.ownBlock] using e
  rcases hat with hat | hat
  ·exact hb'.2.2.1 (by rw [hat, e'])
  ·have := hb'.2.1; omega
 have hkeep : Keeps (fun b => base ≤ b ∧ b < wa.heap.size ∧ v.ownBlock ≠ some b ∧ b ≠ ex) wa w' := fun b hb' => hg.block b hb'.2.1 (fun e => hb'.2.2.1 e.symm)
 refine ⟨by simp [h.len], by rw [List.length_append, List.length_singleton]; exact hown, fun i h1 h2 => ?_⟩
 by_cases hi : i < vs.length
 ·have hi' : i < ls.length := by rw [← h.len]; exact hi
  rw [List.getElem_append_left hi, List.getElem_append_left hi']
  exact ((h.elems i hi hi').imp (ok' := fun b => base ≤ b ∧ b < wa.heap.size ∧ v.ownBlock ≠ some b ∧ b ≠ ex) (fun b hb' => ⟨hb'.1, Nat.lt_of_lt_of_le hb'.2.1 hsz, hb'.2.2⟩) (hb.mono fun b hb' => ⟨hb'.1, hb'.2.1, hb'.2.2.2⟩) fun _ _ _ r => r).imp hsub hkeep fun _ _ _ r => r
 ·have hi2 : i = vs.length := by simp at h1; omega
  subst hi2
  rw [List.getElem_append_right (by omega), List.getElem_append_right (by rw [h.len]; omega)]
  simp only [Nat.sub_self, h.len, List.getElem_singleton]
  exact hx.imp hsub hkeep fun _ _ _ r => r
def AftPost (base ob : Nat) (v : Value) (ls : List (List Int)) (Y : World) (PA : Act → Prop) (e : Exit) (a : Act) (Z : World) : Prop :=
 e = .normal ∧ PA a ∧ ∃ v' vs', Blk Z ob 109 #[v'] ∧ OwnS Z base ob v' ls vs' ∧ v'.ownBlock ≠ some ob ∧ (∀ k, v'.ownBlock = some k → v.ownBlock = some k ∨ Y.heap.size ≤ k) ∧ Keeps (fun b => b < Y.heap.size ∧ b ≠ ob ∧ v.ownBlock ≠ some b) Y Z ∧ Y.heap.size ≤ Z.heap.size ∧
  (∀ B, B ≤ base → B ≤ ob → B ≤ Y.heap.size → Below B Y Z)
theorem after_end {base ob : Nat} {v : Value} {ls : List (List Int)} {vs : List Value} {T : Int → Bool} {Y w5 w7 : World} {A5 : Option Addr} {c5 g cap : Nat} {a : Act} (HO : Hid (OwnS Y base ob v ls vs)) (HB5 : Hid (Below Y.heap.size Y w5))
  (HS5 : Hid (SlR w5 (fun b => Y.drew.heap.size ≤ b ∧ b < w5.heap.size) 1 RInt (.slice A5 (riseL T).length c5) (riseL T))) (HX7 : Hid (Blk w7 ob 109 #[v]))
  (HO7 : Hid (w7.ownsRow base 38 1 (.slice (some ⟨g, 0, none⟩) (ls.length + 1) cap) (ls.length + 1) (vs ++ [.slice A5 (riseL T).length c5]))) (HG7 : Hid ((w5.alloc (.cells #[.slice A5 (riseL T).length c5] 38)).grownBy w7 v.ownBlock))
  (HAT : Hid (v.ownBlock = some g ∨ g = w5.heap.size + 1)) (hne : v.ownBlock ≠ some ob) (hb0 : base ≤ Y.heap.size) (hbo : ob < Y.heap.size) {PA : Act → Prop} (hPA : PA a) :
  AftPost base ob v (ls ++ [riseL T]) Y PA .normal a (w7.setCell ⟨ob, 0, none⟩ (.slice (some ⟨g, 0, none⟩) (ls.length + 1) cap)) := by
 have h5 := HB5.out
 have hs5 := h5.size
 have hvl : ∀ k, v.ownBlock = some k → base ≤ k ∧ k < Y.heap.size := HO.out.row.lt
 have hown := HO.out.snoc (wa := w5.alloc (.cells #[.slice A5 (riseL T).length c5] 38)) (w' := w7) (fun b hb => (Below.heap_alloc w5 _ b (by omega)).trans (h5.block b hb.2.1)) (by simp; omega) HO7.out HG7.out
  (HAT.out.imp id (fun e => by simp; omega)) (HS5.out.imp (fun b hb => ⟨by have h0 : Y.heap.size ≤ b := hb.1; omega, by simp; omega, fun e => by have h0 : Y.heap.size ≤ b := hb.1; have := (hvl b e).2; omega, by have h0 : Y.heap.size ≤ b := hb.1; omega⟩) (fun b hb => Below.heap_alloc w5 _ b hb.2) fun _ _ _ r => r)
 have hgob : g ≠ ob := fun e => by
  rcases HAT.out with h | h
  ·exact hne (by rw [h, e])
  ·omega
 have g8 := grown_set w7 ⟨ob, 0, none⟩ (.slice (some ⟨g, 0, none⟩) (ls.length + 1) cap)
 have hg57 : w5.grownBy w7 v.ownBlock := (World.grownBy_alloc w5 _ v.ownBlock).trans HG7.out
 refine ⟨rfl, hPA, _, _, HX7.out.set_ 0 _, hown.keep (fun b hb => g8.block b hb.2.1 (fun e => by injection e with e; exact hb.2.2 e)) (fun e => hgob (by simpa [Value.ownBlock] using e)) g8.size, fun e => hgob (by simpa [Value.ownBlock] using e), fun k hk => ?_, fun b hb => ?_, Nat.le_trans hs5 (Nat.le_trans hg57.size g8.size), fun B h1 h2 h3 => ?_⟩
 ·have e : g = k := by simpa [Value.ownBlock] using hk
  subst e
  rcases HAT.out with h | h
  ·exact .inl h
  ·exact .inr (by omega)
 ·have e1 := h5.block b hb.1
  have e2 := hg57.block b (by omega) (fun e => hb.2.2 e.symm)
  have e3 := g8.block b (by have := hg57.size; omega) (fun e => by injection e with e; exact hb.2.1 e)
  exact e3.trans (e2.trans e1)
 ·have b1 : Below B Y w7 := (h5.mono h3).grown hg57 (by omega) (fun k e => by have := hvl k e; omega)
  exact b1.grown g8 (Nat.le_trans (by omega) hg57.size) (fun k e => by injection e with e; have e' : ob = k := e; omega)
set_option maxRecDepth 100000 in
set_option maxHeartbeats 4000000 in
theorem regAfter (c : Code) (hc : (Tryz.f84.body.bind (regOf 5)) = some c) (l ob sb sg base : Nat) (T : Int → Bool) (v : Value) (ls : List (List Int)) (vs : List Value) (Y : World) (a : Act) (u0 u1 u2 u3 u4 u7 u8 u9 u10 u11 u12 u13 u14 u15 u16 u17 u18 u19 u20 u21 u22 u23 u24 u25 u26 u27 u28 u29 u30 : Value)
  (ha : a = { tmps := #[u0, u1, u2, u3, u4, .pointer (some ⟨sb, 0, none⟩), .pointer (some ⟨ob, 0, none⟩), u7, u8, u9, u10, u11, u12, u13, u14, u15, u16, u17, u18, u19, u20, u21, u22, u23, u24, u25, u26, u27, u28, u29, u30], defers := [] }) (hS : MSet Y sg T) (hx : Blk Y ob 109 #[v]) (hO : OwnS Y base ob v ls vs) (hne : v.ownBlock ≠ some ob) (hb0 : base ≤ Y.heap.size) (hls : ls.length ≤ 1000)
  (s0 : Y.cell? ⟨sb, 0, none⟩ = some (.map (some sg))) (PA : Act → Prop) (hPA : ∀ x20 x21 x22 x23 x24, PA { tmps := #[u0, u1, u2, u3, u4, .pointer (some ⟨sb, 0, none⟩), .pointer (some ⟨ob, 0, none⟩), u7, u8, u9, u10, u11, u12, u13, u14, u15, u16, u17, u18, u19, x20, x21, x22, x23, x24, u25, u26, u27, u28, u29, u30], defers := [] }) : c.wpIn (Fence.wide.inRound l) 7 Tryz.prog (AftPost base ob v (ls ++ [riseL T]) Y PA) a Y := by
 obtain ⟨z0, hi0, hz0, hz1, hz2⟩ := info_parts info_ints
 have o0 : Y.cell? ⟨ob, 0, none⟩ = some v := hx.cell 0
 have hbo := hx.lt
 have HR1 := Lib.hid (rising_any sg _ Y.drew (hS.same rfl))
 have HB := Lib.hid hx
 have HO := Lib.hid hO
 have hf29 : Fence.wide.fn 117 := trivial
 have hcc : Tryz.f84.body.bind (regOf 5) = some c := hc
 simp only [Tryz.f84, regOf, Option.bind_some, Nat.reduceEqDiff, ↓reduceIte, Option.none_or, Option.or_none, Option.some.injEq] at hcc
 subst ha
 subst hcc
 clear hc hx hO hS
 refine wpIn_region_any (by kernel_rfl) ?_
 change wpAnyIn _ _ _ _ _ _ _ _ _ (World.drew _)
 refine wpAnyIn_ready (rs := [0, 1]) (by kernel_rfl) (by simp) ?_
 refine AllReadyIn.cons rfl (fun K hK => ?_) ?_
 ·go_simp
  refine hK _ _ ?_
  clear hK K
  refine wpAnyIn_ready (rs := [1]) (by kernel_rfl) (by simp) ?_
  refine AllReadyIn.cons rfl (fun K hK => ?_) ?_
  ·go_simp
   refine hK _ _ ?_
   clear hK K
   refine wpAnyIn_ready (rs := [2]) (by kernel_rfl) (by simp) ?_
   refine AllReadyIn.cons rfl (fun K hK => ?_) ?_
   ·go_simp
    refine (CallsIn.inRound l (callsIn_wide.2 HR1.out)).mono ?_
    rintro e w5 ⟨v5, rfl, hb5', hs5⟩
    obtain ⟨A5, c5, hv5, _, _⟩ := hs5.val
    subst hv5
    have hb5 := below_undrew hb5'
    have hx5 := HB.out.below hb5 HB.out.lt
    have o5 : w5.cell? ⟨ob, 0, none⟩ = some v := hx5.cell 0
    have HB5 := Lib.hid hb5
    have HS5 := Lib.hid hs5
    have HX5 := Lib.hid hx5
    have hos : ob < w5.heap.size := hx5.lt
    have hro5 : w5.ownsRow base 38 1 v ls.length vs := HO.out.row.kept (grown_of_below (row := none) hb5) (Classical.em _)
    have HRO := Lib.hid hro5
    clear hb5 hb5' hs5 hx5 hro5
    refine hK _ _ ?_
    clear hK K
    refine wpAnyIn_ready (rs := [3]) (by kernel_rfl) (by simp) ?_
    refine AllReadyIn.cons rfl (fun K hK => ?_) ?_
    ·go_simp
     have o6 : (w5.alloc (.cells #[.slice A5 (riseL T).length c5] 38)).cell? ⟨ob, 0, none⟩ = some v := (HX5.out.alloc _).cell 0
     refine hK _ _ ?_
     clear hK K
     refine wpAnyIn_ready (rs := [4]) (by kernel_rfl) (by simp) ?_
     refine AllReadyIn.cons rfl (fun K hK => ?_) ?_
     ·refine step_append_liesIn _ (by rfl) _ _ _ (by rfl) base 38 z0 _ 1 24 Tryz.underlying109 hi0 hz0 hz1 hz2 rfl (by omega) v ls.length vs (by rfl) (HRO.out.alloc _) ⟨w5.heap.size, 0, none⟩ 1 1 [.slice A5 (riseL T).length c5] (by rfl) (by rfl) (World.news_of_block (cs := #[.slice A5 (riseL T).length c5]) (heap_alloc_new w5 _)) (by simp [Value.oneCell']) (by omega) (by unfold maxLen; omega) (by omega) (by have := HB5.out.size; simp; omega) (w5.heap.size + 1) (by simp) ?_
      intro g cap w7 hown7 hg7 hat7 hl7
      have hg57 := (World.grownBy_alloc w5 (.cells #[.slice A5 (riseL T).length c5] 38) v.ownBlock).trans hg7
      have hx7 := HX5.out.grown hg57 (fun e => hne e)
      have o7 : w7.cell? ⟨ob, 0, none⟩ = some v := hx7.cell 0
      have z7 : w7.frozen? ⟨ob, 0, none⟩ = false := hx7.frozen 0
      have HX7 := Lib.hid hx7
      have HO7 := Lib.hid hown7
      have HG7 := Lib.hid hg7
      have HAT := Lib.hid hat7
      clear hx7 hown7 hg7 hat7 hg57
      refine hK _ _ ?_
      clear hK K
      refine wpAnyIn_ready (rs := [5]) (by kernel_rfl) (by simp) ?_
      refine AllReadyIn.cons rfl (fun K hK => ?_) ?_
      ·go_simp
       refine hK _ _ ?_
       clear hK K
       refine wpAnyIn_done (by kernel_rfl) ?_ _
       exact after_end HO HB5 HS5 HX7 HO7 HG7 HAT hne hb0 hbo (hPA _ _ _ _ _)
      exact AllReadyIn.nil
     exact AllReadyIn.nil
    exact AllReadyIn.nil
   exact AllReadyIn.nil
  exact AllReadyIn.nil
 refine AllReadyIn.cons rfl (fun K hK => ?_) ?_
 ·go_simp
  refine hK _ _ ?_
  clear hK K
  refine wpAnyIn_ready (rs := [0, 2]) (by kernel_rfl) (by simp) ?_
  refine AllReadyIn.cons rfl (fun K hK => ?_) ?_
  ·go_simp
   refine hK _ _ ?_
   clear hK K
   refine wpAnyIn_ready (rs := [2]) (by kernel_rfl) (by simp) ?_
   refine AllReadyIn.cons rfl (fun K hK => ?_) ?_
   ·go_simp
    refine (CallsIn.inRound l (callsIn_wide.2 HR1.out)).mono ?_
    rintro e w5 ⟨v5, rfl, hb5', hs5⟩
    obtain ⟨A5, c5, hv5, _, _⟩ := hs5.val
    subst hv5
    have hb5 := below_undrew hb5'
    have hx5 := HB.out.below hb5 HB.out.lt
    have o5 : w5.cell? ⟨ob, 0, none⟩ = some v := hx5.cell 0
    have HB5 := Lib.hid hb5
    have HS5 := Lib.hid hs5
    have HX5 := Lib.hid hx5
    have hos : ob < w5.heap.size := hx5.lt
    have hro5 : w5.ownsRow base 38 1 v ls.length vs := HO.out.row.kept (grown_of_below (row := none) hb5) (Classical.em _)
    have HRO := Lib.hid hro5
    clear hb5 hb5' hs5 hx5 hro5
    refine hK _ _ ?_
    clear hK K
    refine wpAnyIn_ready (rs := [3]) (by kernel_rfl) (by simp) ?_
    refine AllReadyIn.cons rfl (fun K hK => ?_) ?_
    ·go_simp
     have o6 : (w5.alloc (.cells #[.slice A5 (riseL T).length c5] 38)).cell? ⟨ob, 0, none⟩ = some v := (HX5.out.alloc _).cell 0
     refine hK _ _ ?_
     clear hK K
     refine wpAnyIn_ready (rs := [4]) (by kernel_rfl) (by simp) ?_
     refine AllReadyIn.cons rfl (fun K hK => ?_) ?_
     ·refine step_append_liesIn _ (by rfl) _ _ _ (by rfl) base 38 z0 _ 1 24 Tryz.underlying109 hi0 hz0 hz1 hz2 rfl (by omega) v ls.length vs (by rfl) (HRO.out.alloc _) ⟨w5.heap.size, 0, none⟩ 1 1 [.slice A5 (riseL T).length c5] (by rfl) (by rfl) (World.news_of_block (cs := #[.slice A5 (riseL T).length c5]) (heap_alloc_new w5 _)) (by simp [Value.oneCell']) (by omega) (by unfold maxLen; omega) (by omega) (by have := HB5.out.size; simp; omega) (w5.heap.size + 1) (by simp) ?_
      intro g cap w7 hown7 hg7 hat7 hl7
      have hg57 := (World.grownBy_alloc w5 (.cells #[.slice A5 (riseL T).length c5] 38) v.ownBlock).trans hg7
      have hx7 := HX5.out.grown hg57 (fun e => hne e)
      have o7 : w7.cell? ⟨ob, 0, none⟩ = some v := hx7.cell 0
      have z7 : w7.frozen? ⟨ob, 0, none⟩ = false := hx7.frozen 0
      have HX7 := Lib.hid hx7
      have HO7 := Lib.hid hown7
      have HG7 := Lib.hid hg7
      have HAT := Lib.hid hat7
      clear hx7 hown7 hg7 hat7 hg57
      refine hK _ _ ?_
      clear hK K
      refine wpAnyIn_ready (rs := [5]) (by kernel_rfl) (by simp) ?_
      refine AllReadyIn.cons rfl (fun K hK => ?_) ?_
      ·go_simp
       refine hK _ _ ?_
       clear hK K
       refine wpAnyIn_done (by kernel_rfl) ?_ _
       exact after_end HO HB5 HS5 HX7 HO7 HG7 HAT hne hb0 hbo (hPA _ _ _ _ _)
      exact AllReadyIn.nil
     exact AllReadyIn.nil
    exact AllReadyIn.nil
   exact AllReadyIn.nil
  refine AllReadyIn.cons rfl (fun K hK => ?_) ?_
  ·go_simp
   refine (CallsIn.inRound l (callsIn_wide.2 HR1.out)).mono ?_
   rintro e w5 ⟨v5, rfl, hb5', hs5⟩
   obtain ⟨A5, c5, hv5, _, _⟩ := hs5.val
   subst hv5
   have hb5 := below_undrew hb5'
   have hx5 := HB.out.below hb5 HB.out.lt
   have o5 : w5.cell? ⟨ob, 0, none⟩ = some v := hx5.cell 0
   have HB5 := Lib.hid hb5
   have HS5 := Lib.hid hs5
   have HX5 := Lib.hid hx5
   have hos : ob < w5.heap.size := hx5.lt
   have hro5 : w5.ownsRow base 38 1 v ls.length vs := HO.out.row.kept (grown_of_below (row := none) hb5) (Classical.em _)
   have HRO := Lib.hid hro5
   clear hb5 hb5' hs5 hx5 hro5
   refine hK _ _ ?_
   clear hK K
   refine wpAnyIn_ready (rs := [0, 3]) (by kernel_rfl) (by simp) ?_
   refine AllReadyIn.cons rfl (fun K hK => ?_) ?_
   ·go_simp
    refine hK _ _ ?_
    clear hK K
    refine wpAnyIn_ready (rs := [3]) (by kernel_rfl) (by simp) ?_
    refine AllReadyIn.cons rfl (fun K hK => ?_) ?_
    ·go_simp
     have o6 : (w5.alloc (.cells #[.slice A5 (riseL T).length c5] 38)).cell? ⟨ob, 0, none⟩ = some v := (HX5.out.alloc _).cell 0
     refine hK _ _ ?_
     clear hK K
     refine wpAnyIn_ready (rs := [4]) (by kernel_rfl) (by simp) ?_
     refine AllReadyIn.cons rfl (fun K hK => ?_) ?_
     ·refine step_append_liesIn _ (by rfl) _ _ _ (by rfl) base 38 z0 _ 1 24 Tryz.underlying109 hi0 hz0 hz1 hz2 rfl (by omega) v ls.length vs (by rfl) (HRO.out.alloc _) ⟨w5.heap.size, 0, none⟩ 1 1 [.slice A5 (riseL T).length c5] (by rfl) (by rfl) (World.news_of_block (cs := #[.slice A5 (riseL T).length c5]) (heap_alloc_new w5 _)) (by simp [Value.oneCell']) (by omega) (by unfold maxLen; omega) (by omega) (by have := HB5.out.size; simp; omega) (w5.heap.size + 1) (by simp) ?_
      intro g cap w7 hown7 hg7 hat7 hl7
      have hg57 := (World.grownBy_alloc w5 (.cells #[.slice A5 (riseL T).length c5] 38) v.ownBlock).trans hg7
      have hx7 := HX5.out.grown hg57 (fun e => hne e)
      have o7 : w7.cell? ⟨ob, 0, none⟩ = some v := hx7.cell 0
      have z7 : w7.frozen? ⟨ob, 0, none⟩ = false := hx7.frozen 0
      have HX7 := Lib.hid hx7
      have HO7 := Lib.hid hown7
      have HG7 := Lib.hid hg7
      have HAT := Lib.hid hat7
      clear hx7 hown7 hg7 hat7 hg57
      refine hK _ _ ?_
      clear hK K
      refine wpAnyIn_ready (rs := [5]) (by kernel_rfl) (by simp) ?_
      refine AllReadyIn.cons rfl (fun K hK => ?_) ?_
      ·go_simp
       refine hK _ _ ?_
       clear hK K
       refine wpAnyIn_done (by kernel_rfl) ?_ _
       exact after_end HO HB5 HS5 HX7 HO7 HG7 HAT hne hb0 hbo (hPA _ _ _ _ _)
      exact AllReadyIn.nil
     exact AllReadyIn.nil
    exact AllReadyIn.nil
   refine AllReadyIn.cons rfl (fun K hK => ?_) ?_
   ·go_simp
    have o6 : (w5.alloc (.cells #[.slice A5 (riseL T).length c5] 38)).cell? ⟨ob, 0, none⟩ = some v := (HX5.out.alloc _).cell 0
    refine hK _ _ ?_
    clear hK K
    refine wpAnyIn_ready (rs := [0]) (by kernel_rfl) (by simp) ?_
    refine AllReadyIn.cons rfl (fun K hK => ?_) ?_
    ·go_simp
     refine hK _ _ ?_
     clear hK K
     refine wpAnyIn_ready (rs := [4]) (by kernel_rfl) (by simp) ?_
     refine AllReadyIn.cons rfl (fun K hK => ?_) ?_
     ·refine step_append_liesIn _ (by rfl) _ _ _ (by rfl) base 38 z0 _ 1 24 Tryz.underlying109 hi0 hz0 hz1 hz2 rfl (by omega) v ls.length vs (by rfl) (HRO.out.alloc _) ⟨w5.heap.size, 0, none⟩ 1 1 [.slice A5 (riseL T).length c5] (by rfl) (by rfl) (World.news_of_block (cs := #[.slice A5 (riseL T).length c5]) (heap_alloc_new w5 _)) (by simp [Value.oneCell']) (by omega) (by unfold maxLen; omega) (by omega) (by have := HB5.out.size; simp; omega) (w5.heap.size + 1) (by simp) ?_
      intro g cap w7 hown7 hg7 hat7 hl7
      have hg57 := (World.grownBy_alloc w5 (.cells #[.slice A5 (riseL T).length c5] 38) v.ownBlock).trans hg7
      have hx7 := HX5.out.grown hg57 (fun e => hne e)
      have o7 : w7.cell? ⟨ob, 0, none⟩ = some v := hx7.cell 0
      have z7 : w7.frozen? ⟨ob, 0, none⟩ = false := hx7.frozen 0
      have HX7 := Lib.hid hx7
      have HO7 := Lib.hid hown7
      have HG7 := Lib.hid hg7
      have HAT := Lib.hid hat7
      clear hx7 hown7 hg7 hat7 hg57
      refine hK _ _ ?_
      clear hK K
      refine wpAnyIn_ready (rs := [5]) (by kernel_rfl) (by simp) ?_
      refine AllReadyIn.cons rfl (fun K hK => ?_) ?_
      ·go_simp
       refine hK _ _ ?_
       clear hK K
       refine wpAnyIn_done (by kernel_rfl) ?_ _
       exact after_end HO HB5 HS5 HX7 HO7 HG7 HAT hne hb0 hbo (hPA _ _ _ _ _)
      exact AllReadyIn.nil
     exact AllReadyIn.nil
    exact AllReadyIn.nil
   exact AllReadyIn.nil
  exact AllReadyIn.nil
 exact AllReadyIn.nil
end Go.Proofs.YtkpigkopjfkepaaGreatDoor
