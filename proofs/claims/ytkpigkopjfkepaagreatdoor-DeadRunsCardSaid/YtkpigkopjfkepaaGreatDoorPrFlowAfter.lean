/- What flow.after and flow.After do: what is wanted behind each instruction of a block, and ahead of its end. -/
import Derived.Test.YtkpigkopjfkepaaGreatDoorPrLiveA
import Derived.Test.YtkpigkopjfkepaaGreatDoorPrIrNameL
import Derived.Shelf.SlicesE.Reverse
import Derived.Deep.RegionWith
namespace Go.Proofs.YtkpigkopjfkepaaGreatDoor
open Go.RowKit Go.Shelf Go.Maps Go.Sort
attribute [local go_sem] Oper.semAt_some
def encS (t : Option Addr × Nat × Nat) : Value := .slice t.1 t.2.1 t.2.2
theorem rev_any (g cap : Nat) (ts : List (Option Addr × Nat × Nat)) (w : World) (hc : ∀ (j : Nat) (h : j < ts.length), w.cell? ⟨g, j, none⟩ = some (encS ts[j])) (hz : ∀ j, w.frozen? ⟨g, j, none⟩ = false) (hl : ts.length ≤ 1000) :
  Calls Tryz.prog 118 #[.slice (some ⟨g, 0, none⟩) ts.length cap] w fun e w' => e = .returned (.tuple #[]) ∧ w.grownBy w' (some g) ∧ ∀ (j : Nat) (h : j < ts.reverse.length), w'.cell? ⟨g, j, none⟩ = some (encS ts.reverse[j]) := by
 have hH : Holds encS w g 0 ts.toArray := fun j hj => by
  have hj' : j < ts.length := by simpa using hj
  refine ⟨?_, by rw [Nat.zero_add]; exact hz j⟩
  rw [Nat.zero_add, hc j hj']
  simp [hj']
 refine (AnyE.slices_Reverse Tryz.revL encS (fun _ => rfl) g 0 cap ts w hH (by omega)).mono ?_
 rintro e w' ⟨he, n, rfl⟩
 refine ⟨he, ⟨rfl, rfl, rfl, by simp [putRow, mapBlock, Sort.ahead], fun k _ hne => ?_⟩, fun j hj => ?_⟩
 ·have hk : g ≠ k := fun e => hne (by rw [e])
  simp [putRow, mapBlock, Sort.ahead, Array.getElem?_modify, hk]
 ·have hj' : j < ts.length := by simpa using hj
  have h := cell?_putRow encS (Sort.ahead w n) g 0 ts.toArray ts.reverse.toArray (fun k hk => hH k hk) (by simp) j (by simpa using hj)
  rw [Nat.zero_add] at h
  rw [h]
  simp [hj']
theorem ints_own {w w' : World} {ok : Nat → Prop} {v : Value} {l : List Int} {row : Option Nat} (h : SlR w ok 1 RInt v l) (hg : w.grownBy w' row) (hr : ∀ r, row = some r → ∃ o : Obj, w.heap[r]? = some o ∧ o.isCells = false) : SlR w' ok 1 RInt v l := by
 obtain ⟨A, c, hv, h1, h2, h3⟩ := h
 refine ⟨A, c, hv, h1, h2, ?_⟩
 rcases h3 with h3 | ⟨b, off, hA, hb, hi⟩
 ·exact .inl h3
 ·refine .inr ⟨b, off, hA, hb, fun i hl => ?_⟩
  obtain ⟨cs, hl', hR, hc⟩ := hi i hl
  have h0 := hc 0 (by omega)
  obtain ⟨o, ho, hoc⟩ := cells_of_cell h0
  refine ⟨cs, hl', hR, hc.keep (hg.block b (World.block_lt_of_cell? w _ h0) (fun e => ?_))⟩
  obtain ⟨o', ho', hoc'⟩ := hr b e.symm
  have e2 : (⟨b, off + i * 1 + 0, none⟩ : Addr).block = b := rfl
  rw [e2, ho'] at ho
  injection ho with ho
  rw [← ho, hoc'] at hoc
  cases hoc
theorem OwnS.own {w w' : World} {base ex : Nat} {v : Value} {ls : List (List Int)} {vs : List Value} {row : Option Nat} (h : OwnS w base ex v ls vs) (hg : w.grownBy w' row) (hr : ∀ r, row = some r → ∃ o : Obj, w.heap[r]? = some o ∧ o.isCells = false) : OwnS w' base ex v ls vs := by
 refine ⟨h.len, ?_, fun i h1 h2 => (ints_own (h.elems i h1 h2) hg hr).imp (fun b hb => ⟨hb.1, Nat.lt_of_lt_of_le hb.2.1 hg.size, hb.2.2⟩) (Keeps.refl _ _) fun _ _ _ r => r⟩
 refine h.row.kept hg ?_
 rcases h.row.2 with ⟨hn, _⟩ | ⟨g, cap, cur, hv, hb, hgg, _⟩
 ·exact .inl (by rw [hn]; rfl)
 ·refine .inr fun e => ?_
  rw [hv] at e
  obtain ⟨o, ho, hoc⟩ := hr g e.symm
  rw [hgg] at ho
  cases ho
  cases hoc
theorem OwnS.far {w : World} {base ex : Nat} {v : Value} {ls : List (List Int)} {vs : List Value} (h : OwnS w base ex v ls vs) {b : Nat} {t : TypeId} {cs : Array Value} (hb : Blk w b t cs) (ht : t ≠ 38) : v.ownBlock ≠ some b := fun e => by
 rcases h.row.2 with ⟨hn, _⟩ | ⟨g, cap, cur, hv, _, hgg, _⟩
 ·rw [hn] at e; cases e
 ·rw [hv] at e
  have e' : g = b := by simpa [Value.ownBlock] using e
  subst e'
  unfold Blk at hb
  rw [hb] at hgg
  injection hgg with hgg
  injection hgg with _ h2
  exact ht h2
theorem OwnS.farM {w : World} {base ex : Nat} {v : Value} {ls : List (List Int)} {vs : List Value} (h : OwnS w base ex v ls vs) {b : Nat} {S : Int → Bool} (hb : MSet w b S) : v.ownBlock ≠ some b := fun e => by
 rcases h.row.2 with ⟨hn, _⟩ | ⟨g, cap, cur, hv, _, hgg, _⟩
 ·rw [hn] at e; cases e
 ·rw [hv] at e
  have e' : g = b := by simpa [Value.ownBlock] using e
  subst e'
  exact not_map hb hgg
theorem map_uncells {w : World} {b : Nat} {S : Int → Bool} (h : MSet w b S) : ∃ o : Obj, w.heap[b]? = some o ∧ o.isCells = false := by
 obtain ⟨_, _, ⟨es, clock, h4, _⟩, _⟩ := h
 exact ⟨_, h4, rfl⟩
def aft (ins : List LIns) (S0 : Int → Bool) (pre : List (Fin ins.length)) : List (List Int) × (Int → Bool) :=
 pre.foldl (fun q k => (q.1 ++ [riseL q.2], stepS q.2 ins[k.1])) ([riseL S0], S0)
theorem aft_snoc (ins : List LIns) (S0 : Int → Bool) (pre : List (Fin ins.length)) (k : Fin ins.length) : aft ins S0 (pre ++ [k]) = ((aft ins S0 pre).1 ++ [riseL (aft ins S0 pre).2], stepS (aft ins S0 pre).2 ins[k.1]) := by simp [aft]
theorem aft_len (ins : List LIns) (S0 : Int → Bool) (pre : List (Fin ins.length)) : (aft ins S0 pre).1.length = pre.length + 1 := by
 have h : ∀ (pre : List (Fin ins.length)) (q : List (List Int) × (Int → Bool)), (pre.foldl (fun q k => (q.1 ++ [riseL q.2], stepS q.2 ins[k.1])) q).1.length = q.1.length + pre.length := by
  intro pre
  induction pre with
  | nil => intro q; simp
  | cons a r ih => intro q; rw [List.foldl_cons, ih]; simp; omega
 unfold aft
 rw [h]
 simp
 omega
def afterL (ins : List LIns) (S0 : Int → Bool) : List (List Int) := (List.range (ins.length + 1)).map fun j => riseL (stepsS (ins.drop (j + 1)) S0)
theorem aft_back (ins : List LIns) (S0 : Int → Bool) : ∀ (m k : Nat), k + m = ins.length → (aft ins S0 (backs ins.length k)).2 = stepsS (ins.drop k) S0 ∧ (aft ins S0 (backs ins.length k)).1 = (((List.range (ins.length + 1)).drop k).map fun j => riseL (stepsS (ins.drop (j + 1)) S0)).reverse
 | 0, k, h => by
  obtain rfl : k = ins.length := by omega
  rw [backs_end, List.drop_of_length_le (Nat.le_refl _)]
  refine ⟨rfl, ?_⟩
  have e : (List.range (ins.length + 1)).drop ins.length = [ins.length] := by rw [List.range_succ, List.drop_left' (by simp)]
  rw [e]
  simp [aft, stepsS, List.drop_of_length_le (Nat.le_succ ins.length)]
 | m + 1, k, h => by
  have hk : k < ins.length := by omega
  obtain ⟨h1, h2⟩ := aft_back ins S0 m (k + 1) (by omega)
  rw [backs_step hk, aft_snoc, h1, h2]
  have e1 : ins.drop k = ins[k] :: ins.drop (k + 1) := List.drop_eq_getElem_cons hk
  have e2 : (List.range (ins.length + 1)).drop k = k :: (List.range (ins.length + 1)).drop (k + 1) := by rw [List.drop_eq_getElem_cons (by simp; omega)]; simp
  refine ⟨by rw [e1, stepsS_cons], ?_⟩
  rw [e2, List.map_cons, List.reverse_cons]
theorem aft_all (ins : List LIns) (S0 : Int → Bool) : (aft ins S0 (backs ins.length 0)).1.reverse = afterL ins S0 := by
 rw [(aft_back ins S0 ins.length 0 (by omega)).2]
 simp [afterL]
structure AIn (ins : List LIns) (S0 : Int → Bool) (w : World) (sg sb ob bt n₀ : Nat) (pre : List (Fin ins.length)) (Y : World) : Prop where
 set : MSet Y sg (aft ins S0 pre).2
 box : Blk Y sb 165 #[.map (some sg)]
 out : ∃ v vs, Blk Y ob 109 #[v] ∧ OwnS Y w.heap.size ob v (aft ins S0 pre).1 vs ∧ v.ownBlock ≠ some ob ∧ v.ownBlock ≠ some bt
 below : Below w.heap.size w Y
 size : n₀ ≤ Y.heap.size
theorem AIn.own (ins : List LIns) (S0 : Int → Bool) (w : World) (sg sb ob bt n₀ : Nat) (hsg : sg < n₀) (hn : w.heap.size ≤ n₀) : OwnFrom n₀ (AIn ins S0 w sg sb ob bt n₀) := fun pre Y Z row h hg hr => by
 have hr' : ∀ r, row = some r → ∃ o : Obj, Y.heap[r]? = some o ∧ o.isCells = false := fun r e => (hr r e).2
 have hB : ∀ {b : Nat} {t : TypeId} {cs : Array Value}, Blk Y b t cs → row ≠ some b := fun h1 e => by
  obtain ⟨o, ho, hc⟩ := hr' _ e
  unfold Blk at h1
  rw [h1] at ho
  cases ho
  cases hc
 obtain ⟨v, vs, h1, h2, h3⟩ := h.out
 exact ⟨h.set.kept hg (fun e => by have := (hr sg e.symm).1; omega), h.box.grown hg (hB h.box), ⟨v, vs, h1.grown hg (hB h1), h2.own hg hr', h3⟩, h.below.grown hg h.below.size (fun k e => Nat.le_trans hn (hr k e).1), Nat.le_trans h.size hg.size⟩
set_option maxRecDepth 100000 in
set_option maxHeartbeats 4000000 in
theorem after_in (t : LTerm) (ins : List LIns) (hgi : ∀ x ∈ ins, GoodIns x) (hil : ins.length ≤ 900) (A : Option Addr) (c : Nat) (vl : Value) (bs : List Nat) (L : Nat → Int → Bool) (w : World) (hN : ∀ k ∈ nextL t, 0 ≤ k ∧ k < bs.length) (hW : ∀ k ∈ wantsL t, placeP k = true) (hL : Sets_ w (· < w.heap.size) vl bs L)
  (hv : SlR w (· < w.heap.size) 8 (RIns w (· < w.heap.size)) (.slice A ins.length c) ins) :
  CallsIn Fence.wide 9 Tryz.prog 84 #[.agg #[.slice A ins.length c, .int .i64 t.kind, .int .i64 t.a, .int .i64 t.to, .int .i64 t.els], vl] w (RowsPost (afterL ins (endS t L)) w) := by
 have HV := Lib.hid hv
 have HGI := Lib.hid hgi
 have HL := Lib.hid hL
 have HN := Lib.hid hN
 have HW := Lib.hid hW
 clear hv hgi hL hN hW
 refine callsIn_of_wp_marks Tryz.func84 rfl trivial ?_ rfl
 simp only [Tryz.ntmps84, List.size_toArray, List.length_cons, List.length_nil, Nat.reduceAdd, Nat.reduceSub, Array.replicate_succ, Array.replicate_zero, List.push_toArray, List.append_toArray, List.nil_append, List.cons_append]
 gi_upto_region 1 with fail
 refine wpIn_world ?_
 intro W hW
 have hB : Below w.heap.size w W := by rw [← hW]; exact below1 _ _
 have hK : Blk W w.heap.size 48 #[.slice A ins.length c, .int .i64 t.kind, .int .i64 t.a, .int .i64 t.to, .int .i64 t.els] := by rw [← hW]; exact Blk.new_at _ _ _ rfl
 clear hW
 have j0 : W.cell? ⟨w.heap.size, 0, none⟩ = some (.slice A ins.length c) := hK.cell 0
 have j1 : W.cell? ⟨w.heap.size, 1, none⟩ = some (.int .i64 t.kind) := hK.cell 1
 have j2 : W.cell? ⟨w.heap.size, 2, none⟩ = some (.int .i64 t.a) := hK.cell 2
 have j3 : W.cell? ⟨w.heap.size, 3, none⟩ = some (.int .i64 t.to) := hK.cell 3
 have j4 : W.cell? ⟨w.heap.size, 4, none⟩ = some (.int .i64 t.els) := hK.cell 4
 have HC := Lib.hid (end_any t A ins.length c vl bs L W HN.out HW.out ⟨HL.out.row.imp (fun b hb => Nat.lt_of_lt_of_le hb hB.size) (fun b hb => hB.block b hb) (fun _ _ _ r => r), fun i hi => (HL.out.each i hi).kept (grown_of_below (row := none) hB) (by simp)⟩)
 have hf47 : Fence.wide.fn 113 := trivial
 have hf29 : Fence.wide.fn 117 := trivial
 have hf48 : Fence.wide.fn 114 := trivial
 gi_upto_region 2 with (gi_at_call 113; refine (callsIn_wide.2 HC.out).mono ?_; rintro e w1 ⟨sg, rfl, hsg, hms, hb1⟩)
 clear j0 j1 j2 j3 j4
 refine wpIn_world ?_
 intro W2 hW2
 have hb2 : Below w1.heap.size w1 W2 := by rw [← hW2]; exact below1 _ _
 have xs2 : Blk W2 w1.heap.size 165 #[.map (some sg)] := by rw [← hW2]; exact Blk.new_at _ _ _ rfl
 clear hW2
 have hms2 : MSet W2 sg (endS t L) := hms.kept (grown_of_below (row := none) hb2) (by simp)
 have hsgl := hms.lt
 have hB1 := hB.trans (hb1.mono hB.size)
 have hB2 := hB1.trans (hb2.mono hB1.size)
 have hK2 := (hK.below hb1 hK.lt).below hb2 (Nat.lt_of_lt_of_le hK.lt hb1.size)
 have s0 : W2.cell? ⟨w1.heap.size, 0, none⟩ = some (.map (some sg)) := xs2.cell 0
 have HR1 := Lib.hid (rising_any sg _ W2 hms2)
 gi_upto_region 3 with (gi_at_call 117; refine (callsIn_wide.2 HR1.out).mono ?_; rintro e w3 ⟨v3, rfl, hb3, hs3⟩; obtain ⟨A3, c3, hv3, _, _⟩ := hs3.val; subst hv3)
 clear s0
 refine wpIn_world ?_
 intro W4 hW4
 have hs4 : W4.heap.size ≤ w3.heap.size + 2 ∧ w3.heap.size + 2 ≤ W4.heap.size := by rw [← hW4]; simp
 obtain ⟨hs4a, hs4b⟩ := hs4
 have hb4 : Below w3.heap.size w3 W4 := by rw [← hW4]; exact below2 _ _ _
 have xo4 : Blk W4 (w3.heap.size + 1) 109 #[.slice (some ⟨w3.heap.size, 0, none⟩) 1 1] := by rw [← hW4]; exact Blk.new_at _ _ _ (by simp)
 have xr4 : Blk W4 w3.heap.size 38 #[.slice A3 (riseL (endS t L)).length c3] := by rw [← hW4]; exact (Blk.new_at _ _ _ rfl).alloc _
 clear hW4
 have hs1 := hb1.size
 have hs2 := hb2.size
 have hs3' := hb3.size
 have hB3 := hB2.trans (hb3.mono hB2.size)
 have hB4 := hB3.trans (hb4.mono hB3.size)
 have hwB := hB.size
 have hms4 : MSet W4 sg (endS t L) := (hms2.kept (grown_of_below (row := none) hb3) (by simp)).kept (grown_of_below (row := none) hb4) (by simp)
 have xs4 : Blk W4 w1.heap.size 165 #[.map (some sg)] := (xs2.below hb3 xs2.lt).below hb4 (Nat.lt_of_lt_of_le xs2.lt hb3.size)
 have hK4 := (hK2.below hb3 hK2.lt).below hb4 (Nat.lt_of_lt_of_le hK2.lt hb3.size)
 have k0 : W4.cell? ⟨w.heap.size, 0, none⟩ = some (.slice A ins.length c) := hK4.cell 0
 have hs2l := xs2.lt
 have hO4 : OwnS W4 w.heap.size (w3.heap.size + 1) (.slice (some ⟨w3.heap.size, 0, none⟩) 1 1) [riseL (endS t L)] [.slice A3 (riseL (endS t L)).length c3] := by
  refine ⟨rfl, ⟨rfl, .inr ⟨w3.heap.size, 1, _, rfl, by omega, xr4, Nat.le_refl _, by unfold maxLen; omega, rfl, rfl⟩⟩, fun i h1 h2 => ?_⟩
  have hi : i < 1 := h1
  obtain rfl : i = 0 := by omega
  exact hs3.imp (fun b hb => ⟨by omega, by omega, fun e => by simp [Value.ownBlock] at e; omega, by omega⟩) (fun b hb => hb4.block b hb.2) (fun _ _ _ r => r)
 gi_wp2_with (gi_at_call 114; refine (backI_in Fence.wide _ trivial rfl _ _ _ _).mono ?_; rintro e w' ⟨rfl, rfl⟩)
 clear k0
 refine wpIn_world ?_
 intro W5 hW5
 have hs5 : W5.heap.size ≤ W4.heap.size + 1 ∧ W4.heap.size + 1 ≤ W5.heap.size := by rw [← hW5]; simp
 obtain ⟨hs5a, hs5b⟩ := hs5
 have hb5 : Below W4.heap.size W4 W5 := by rw [← hW5]; exact below1 _ _
 have g45 : W4.grownBy W5 none := grown_of_below hb5
 have xb5 : Blk W5 W4.heap.size 42 #[.slice A ins.length c] := by rw [← hW5]; exact Blk.new_at _ _ _ rfl
 clear hW5
 have hms5 := hms4.kept g45 (by simp)
 have xs5 := xs4.below hb5 xs4.lt
 have xo5 := xo4.below hb5 xo4.lt
 have hO5 := hO4.own g45 (fun r e => by cases e)
 have hB5 := hB4.trans (hb5.mono hB4.size)
 obtain ⟨At, Lt, ct, hRI, hArg⟩ := rowI_of_slr HV.out
 have hRI5 : RowI W5 (fun b => b < w.heap.size ∨ b = W4.heap.size) A ins (fun i => .slice (At i) (Lt i) (ct i)) := hRI.imp (fun b hb => .inl hb) (fun b hb => hB5.block b hb) |>.imp (fun b hb => hb) (fun b hb => rfl)
 have hseqI : SeqStopsK Fence.wide 8 Tryz.prog 161 #[.pointer (some ⟨W4.heap.size, 0, none⟩)] (fun k : Fin ins.length => #[.int .i64 (k.1 : Int), .agg #[.int .i64 ins[k.1].kind, .int .i64 ins[k.1].d, .int .i64 ins[k.1].a, .int .i64 ins[k.1].b, .int .i64 ins[k.1].op, .int .i64 ins[k.1].n, .string ins[k.1].name, .slice (At k.1) (Lt k.1) (ct k.1)]]) (Keeps fun b => b < w.heap.size ∨ b = W4.heap.size) (fun ys => ys = backs ins.length 0) (fun _ => True) ins.length W5 :=
  backI_stops Fence.wide 8 trivial rfl (by omega) W4.heap.size _ ins (fun i => .slice (At i) (Lt i) (ct i)) A c (by unfold maxLen; omega) W5 (fun b hb => by rcases hb with hb | hb <;> omega) (.inr rfl) (xb5.cell 0) hRI5
 have HAR := Lib.hid hArg
 have hA0 : AIn ins (endS t L) w sg w1.heap.size (w3.heap.size + 1) W4.heap.size W5.heap.size [] W5 := ⟨hms5, xs5, ⟨_, _, xo5, hO5, by simp [Value.ownBlock], fun e => by simp [Value.ownBlock] at e; omega⟩, hB5, Nat.le_refl _⟩
 have HA0 := Lib.hid hA0
 have HXB := Lib.hid xb5
 clear hArg hRI hRI5 hms hms2 hms4 hms5 xs2 xs4 xs5 xo4 xo5 xr4 hO4 hO5 hA0 xb5 hs3 hK hK2 hK4 hB hB1 hB2 hB3 hB4 hB5 hb1 hb2 hb3 hb4 hb5 g45
 refine wpIn_rangeFunc_ownH rfl (by omega) (gf := 161) (lb := #[.pointer (some ⟨W4.heap.size, 0, none⟩)]) rfl trivial (enters_of Tryz.func161 (by kernel_rfl) rfl)
  hseqI (fun h k => h.trans k) (fun Y l o o' hl ho _ _ => fun b hb => World.putObj_heap_other (by rcases hb with hb | hb <;> omega)) (Below.refl _ _) (fun _ => rfl)
  (AIn ins (endS t L) w sg w1.heap.size (w3.heap.size + 1) W4.heap.size W5.heap.size) (fun _ _ _ => False)
  (AIn.own ins (endS t L) w sg w1.heap.size (w3.heap.size + 1) W4.heap.size W5.heap.size (by omega) (by omega))
  (fun _ _ _ _ _ hs _ _ => hs)
  HA0.out
  (fun y a' Y => ∃ By, W5.heap.size ≤ By ∧ Blk Y By 44 #[.int .i64 ins[y.1].kind, .int .i64 ins[y.1].d, .int .i64 ins[y.1].a, .int .i64 ins[y.1].b, .int .i64 ins[y.1].op, .int .i64 ins[y.1].n, .string ins[y.1].name, .slice (At y.1) (Lt y.1) (ct y.1)] ∧ a' = { tmps := #[.agg #[.slice A ins.length c, .int .i64 t.kind, .int .i64 t.a, .int .i64 t.to, .int .i64 t.els], vl, .pointer (some ⟨w.heap.size, 0, none⟩), undef, .slice none 0 0, .pointer (some ⟨w1.heap.size, 0, none⟩), .pointer (some ⟨w3.heap.size + 1, 0, none⟩), undef, .pointer (some ⟨By, 0, none⟩), .agg #[.slice A ins.length c, .int .i64 t.kind, .int .i64 t.a, .int .i64 t.to, .int .i64 t.els], vl, .map (some sg), .map (some sg), .slice A3 (riseL (endS t L)).length c3, .slice (some ⟨w3.heap.size, 0, none⟩) 1 1, .pointer (some ⟨w.heap.size, 0, none⟩), .slice A ins.length c, .func (.func 161) #[] #[.pointer (some ⟨W4.heap.size, 0, none⟩)], .int .i64 (y.1 : Int), .agg #[.int .i64 ins[y.1].kind, .int .i64 ins[y.1].d, .int .i64 ins[y.1].a, .int .i64 ins[y.1].b, .int .i64 ins[y.1].op, .int .i64 ins[y.1].n, .string ins[y.1].name, .slice (At y.1) (Lt y.1) (ct y.1)], undef, undef, undef, undef, undef, undef, undef, undef, undef, undef, undef], defers := [] })
  (fun y a' _ Y Z row hs hg hr => by obtain ⟨By, h1, h2, h3⟩ := hs; exact ⟨By, h1, h2.grown hg (fun e => by obtain ⟨_, o, ho, hc⟩ := hr _ e; unfold Blk at h2; rw [h2] at ho; cases ho; cases hc), h3⟩)
  ?assign ?body ?done ?stop
 case assign =>
  rintro lp pre y Y K hA hK
  gi_wp2
  exact hK _ _ ((KeepsOthers.alloc _ _).from _) (fun b hb => Below.heap_alloc _ _ b (by have := hA.size; rcases hb with hb | hb <;> omega)) (AIn.own ins (endS t L) w sg w1.heap.size (w3.heap.size + 1) W4.heap.size W5.heap.size (by omega) (by omega) pre Y _ none hA (World.grownBy_alloc Y _ none) (fun r e => by cases e)) ⟨Y.heap.size, hA.size, Blk.new_at _ _ _ rfl, rfl⟩
 case body =>
  rintro lp pre y a' Y hl ⟨r, hr⟩ hA ⟨By, hBy, bY, rfl⟩ hlt
  obtain ⟨v, vs, hx, hO, hvo, hvt⟩ := hA.out
  have s0 : Y.cell? ⟨w1.heap.size, 0, none⟩ = some (.map (some sg)) := hA.box.cell 0
  have hwY := hA.below.size
  have hYs := hA.size
  have HA := Lib.hid hA
  have HX := Lib.hid hx
  have HO := Lib.hid hO
  have HBY := Lib.hid bY
  have hf49 : Fence.wide.fn 115 := trivial
  clear hA hx hO bY
  gi_wp2
  refine wpIn_mono (regAfter _ (by kernel_rfl) lp (w3.heap.size + 1) w1.heap.size sg w.heap.size (aft ins (endS t L) pre).2 v (aft ins (endS t L) pre).1 vs Y _ _ _ _ _ _ _ _ _ _ _ _ _ _ _ _ _ _ _ _ _ _ _ _ _ _ _ _ _ _ rfl HA.out.set HX.out HO.out hvo hwY (by rw [aft_len]; omega) s0 (fun a' => ∃ x20 x21 x22 x23 x24 : Value, a' = { tmps := #[.agg #[.slice A ins.length c, .int .i64 t.kind, .int .i64 t.a, .int .i64 t.to, .int .i64 t.els], vl, .pointer (some ⟨w.heap.size, 0, none⟩), undef, .slice none 0 0, .pointer (some ⟨w1.heap.size, 0, none⟩), .pointer (some ⟨w3.heap.size + 1, 0, none⟩), undef, .pointer (some ⟨By, 0, none⟩), .agg #[.slice A ins.length c, .int .i64 t.kind, .int .i64 t.a, .int .i64 t.to, .int .i64 t.els], vl, .map (some sg), .map (some sg), .slice A3 (riseL (endS t L)).length c3, .slice (some ⟨w3.heap.size, 0, none⟩) 1 1, .pointer (some ⟨w.heap.size, 0, none⟩), .slice A ins.length c, .func (.func 161) #[] #[.pointer (some ⟨W4.heap.size, 0, none⟩)], .int .i64 (y.1 : Int), .agg #[.int .i64 ins[y.1].kind, .int .i64 ins[y.1].d, .int .i64 ins[y.1].a, .int .i64 ins[y.1].b, .int .i64 ins[y.1].op, .int .i64 ins[y.1].n, .string ins[y.1].name, .slice (At y.1) (Lt y.1) (ct y.1)], x20, x21, x22, x23, x24, undef, undef, undef, undef, undef, undef], defers := [] }) (fun x20 x21 x22 x23 x24 => ⟨x20, x21, x22, x23, x24, rfl⟩)) ?_
  rintro e a2 Z ⟨rfl, ⟨x20, x21, x22, x23, x24, rfl⟩, v', vs', hx', hO', hvo', hvk, hke, hsz, hbel⟩
  have hByl := HBY.out.lt
  have hsgY := HA.out.set.lt
  have hsbY := HA.out.box.lt
  have hsgZ := HA.out.set.same (hke sg ⟨hsgY, by omega, HO.out.farM HA.out.set⟩)
  have hsbZ := HA.out.box.keep (hke w1.heap.size ⟨hsbY, by omega, HO.out.far HA.out.box (by decide)⟩)
  have bYZ := HBY.out.keep (hke By ⟨hByl, by omega, HO.out.far HBY.out (by decide)⟩)
  have s1 : Z.cell? ⟨w1.heap.size, 0, none⟩ = some (.map (some sg)) := hsbZ.cell 0
  have y0 : Z.cell? ⟨By, 0, none⟩ = some (.int .i64 ins[y.1].kind) := bYZ.cell 0
  have y1 : Z.cell? ⟨By, 1, none⟩ = some (.int .i64 ins[y.1].d) := bYZ.cell 1
  have y2 : Z.cell? ⟨By, 2, none⟩ = some (.int .i64 ins[y.1].a) := bYZ.cell 2
  have y3 : Z.cell? ⟨By, 3, none⟩ = some (.int .i64 ins[y.1].b) := bYZ.cell 3
  have y4 : Z.cell? ⟨By, 4, none⟩ = some (.int .i64 ins[y.1].op) := bYZ.cell 4
  have y5 : Z.cell? ⟨By, 5, none⟩ = some (.int .i64 ins[y.1].n) := bYZ.cell 5
  have y6 : Z.cell? ⟨By, 6, none⟩ = some (.string ins[y.1].name) := bYZ.cell 6
  have y7 : Z.cell? ⟨By, 7, none⟩ = some (.slice (At y.1) (Lt y.1) (ct y.1)) := bYZ.cell 7
  have hBZ : Below w.heap.size w Z := HA.out.below.trans (hbel w.heap.size (Nat.le_refl _) (by omega) hwY)
  have hwZ := hBZ.size
  have HST := Lib.hid (step_any sg _ ins[y.1] (HGI.out _ (List.getElem_mem _)) (At y.1) (Lt y.1) (ct y.1) Z hsgZ ((HAR.out y.1 y.2).2.imp (fun b hb => ⟨by omega, by omega⟩) (fun b hb => hBZ.block b hb) (fun _ _ _ h => h)))
  have HSBZ := Lib.hid hsbZ
  have HXZ := Lib.hid hx'
  have HOZ := Lib.hid hO'
  have HKE := Lib.hid hke
  have HBZ := Lib.hid hBZ
  have HVK := Lib.hid hvk
  have HSGZ := Lib.hid hsgZ
  have hxl := hx'.lt
  have hsbl := hsbZ.lt
  clear hsgZ hsbZ bYZ hx' hO' hke hbel hBZ hvk
  gi_wp2_with (gi_at_call 115; refine (CallsIn.inRound lp (callsIn_wide.2 HST.out)).mono ?_; rintro e w5 ⟨rfl, hg5, hm5⟩)
  have hnc : ∀ r, some sg = some r → ∃ o : Obj, Z.heap[r]? = some o ∧ o.isCells = false := fun r e => by injection e with e; subst e; exact map_uncells HSGZ.out
  refine ⟨KeepsFrom.trans ⟨hsz, fun k o _ hk ho => (HKE.out k ⟨(Array.getElem?_eq_some_iff.1 hk).1, fun e => ?_, fun e => ?_⟩).trans hk⟩ (KeepsFrom.of_grownBy hg5 (fun j e => by injection e with e; omega)), fun b hb => (hg5.block b (by rcases hb with hb | hb <;> omega) (fun e => by injection e with e; rcases hb with hb | hb <;> omega)).trans (HKE.out b ⟨by rcases hb with hb | hb <;> omega, by rcases hb with hb | hb <;> omega, fun e => ?_⟩), ?_⟩
  ·have := HX.out
   unfold Blk at this
   rw [← e, hk] at this
   cases this
   cases ho
  ·rcases HO.out.row.2 with ⟨hn, _⟩ | ⟨g, cap, cur, hv, _, hgg, _⟩
   ·rw [hn] at e; cases e
   ·rw [hv] at e
    have e' : g = k := by simpa [Value.ownBlock] using e
    subst e'
    rw [hk] at hgg
    cases hgg
    cases ho
  ·rcases hb with hb | hb
   ·have := (HO.out.row.lt b e).1; omega
   ·rw [hb] at e; exact hvt e
  ·rw [show pre ++ [y] = pre ++ [y] from rfl]
   refine ⟨by rw [aft_snoc]; exact hm5, HSBZ.out.grown hg5 (fun e => by injection e with e; omega), ⟨v', vs', HXZ.out.grown hg5 (fun e => by injection e with e; omega), by rw [aft_snoc]; exact HOZ.out.own hg5 hnc, hvo', fun e => ?_⟩, HBZ.out.grown hg5 hwZ (fun k e => by injection e with e; omega), Nat.le_trans hYs (Nat.le_trans hsz hg5.size)⟩
   rcases HVK.out _ e with h | h
   ·exact hvt h
   ·omega
 case done =>
  rintro D ys Y hD rfl hA hK
  obtain ⟨v, vs, hx, hO, hvo, _⟩ := hA.out
  have hlen := aft_len ins (endS t L) (backs ins.length 0)
  rw [backs_length] at hlen
  obtain ⟨g, cap, cur, hv, hbg, hgg, hnc, hcm, hcs, htk⟩ : ∃ g cap cur, v = .slice (some ⟨g, 0, none⟩) (aft ins (endS t L) (backs ins.length 0)).1.length cap ∧ w.heap.size ≤ g ∧ Y.heap[g]? = some (.cells cur 38 (0, 0)) ∧ (aft ins (endS t L) (backs ins.length 0)).1.length ≤ cap ∧ cap ≤ maxLen ∧ cur.size = cap * 1 ∧ cur.toList.take ((aft ins (endS t L) (backs ins.length 0)).1.length * 1) = vs := by
   rcases hO.row.2 with ⟨_, h0⟩ | h
   ·omega
   ·exact h
  subst hv
  have hex : ∃ ts : List (Option Addr × Nat × Nat), vs = ts.map encS := by
   have h : ∀ (l : List Value), (∀ u ∈ l, ∃ q, u = encS q) → ∃ ts : List (Option Addr × Nat × Nat), l = ts.map encS := by
    intro l
    induction l with
    | nil => intro _; exact ⟨[], rfl⟩
    | cons a r ih =>
     intro hl
     obtain ⟨q, rfl⟩ := hl a (by simp)
     obtain ⟨ts, rfl⟩ := ih fun u hu => hl u (by simp [hu])
     exact ⟨q :: ts, rfl⟩
   refine h vs fun u hu => ?_
   obtain ⟨i, hi, rfl⟩ := List.getElem_of_mem hu
   obtain ⟨A1, c1, e, _, _⟩ := (hO.elems i hi (by rw [← hO.len]; exact hi)).val
   exact ⟨(A1, _, c1), e⟩
  obtain ⟨ts, rfl⟩ := hex
  have htl : ts.length = (aft ins (endS t L) (backs ins.length 0)).1.length := by have := hO.len; simpa using this
  have hC := Cells.of_own hO.row rfl
  have HREV := Lib.hid (rev_any g cap ts Y (fun j hj => by have h := hC j (by simpa using hj); rw [Nat.zero_add] at h; rw [h]; simp) (fun j => by simp [World.frozen?, hgg]) (by omega))
  rw [htl] at HREV
  have o0 : Y.cell? ⟨w3.heap.size + 1, 0, none⟩ = some (.slice (some ⟨g, 0, none⟩) (aft ins (endS t L) (backs ins.length 0)).1.length cap) := hx.cell 0
  have hgob : some g ≠ some (w3.heap.size + 1) := hvo
  have hgl : g < Y.heap.size := (Array.getElem?_eq_some_iff.1 hgg).1
  have HA := Lib.hid hA
  have HX := Lib.hid hx
  have HO := Lib.hid hO
  have HTL := Lib.hid htl
  have HGG := Lib.hid hgg
  have HKD := Lib.hid hK
  have hf53 : Fence.wide.fn 118 := trivial
  clear hA hx hO hC hgg hK htl hlen htk hcs hvo
  gi_wp2_with (gi_at_call 118; refine (callsIn_wide.2 HREV.out).mono ?_; rintro e w7 ⟨rfl, hg7, hc7⟩; have x7 := HX.out.grown hg7 hgob; have o7 : w7.cell? ⟨w3.heap.size + 1, 0, none⟩ = some (.slice (some ⟨g, 0, none⟩) (aft ins (endS t L) (backs ins.length 0)).1.length cap) := x7.cell 0)
  have hgD : g ≠ D := fun e => by
   have h1 := HGG.out
   have h2 := HKD.out
   rw [e] at h1
   rw [h1] at h2
   cases h2
  have hD7 : w7.heap[D]? = some (Obj.deferred (some [])) := (hg7.block D (Array.getElem?_eq_some_iff.1 HKD.out).1 (fun e => by injection e with e; omega)).trans HKD.out
  refine ⟨by simp, .inl ⟨_, _, rfl, run_takeDeferred hD7, ?_⟩⟩
  refine ⟨_, results_tmp rfl _ _ _, .slice (some ⟨g, 0, none⟩) (aft ins (endS t L) (backs ins.length 0)).1.length cap, rfl, ?_, ?_⟩
  ·exact (HA.out.below.grown hg7 HA.out.below.size (fun k e => by injection e with e; omega)).grown (grownBy_putObj' w7 D _) (Nat.le_trans HA.out.below.size hg7.size) (fun k e => by injection e with e; omega)
  ·rw [← aft_all]
   have hlr : (aft ins (endS t L) (backs ins.length 0)).1.reverse.length = (aft ins (endS t L) (backs ins.length 0)).1.length := List.length_reverse
   have hsz8 : (w7.putObj D (.deferred none)).heap.size = w7.heap.size := by unfold World.putObj; exact Array.size_setIfInBounds
   have hg8 := grownBy_putObj' w7 D (.deferred none)
   have hnc8 : ∀ r, some D = some r → ∃ o : Obj, w7.heap[r]? = some o ∧ o.isCells = false := fun r e => by injection e with e; subst e; exact ⟨_, hD7, rfl⟩
   refine ⟨some ⟨g, 0, none⟩, cap, by rw [hlr], by rw [hlr]; exact hnc, hcm, .inr ⟨g, 0, rfl, ⟨hbg, by rw [hsz8]; exact Nat.lt_of_lt_of_le hgl hg7.size⟩, fun i hi => ?_⟩⟩
   have hi' : i < ts.reverse.length := by rw [List.length_reverse, HTL.out, ← hlr]; exact hi
   have hi2 : ts.length - 1 - i < ts.length := by rw [List.length_reverse] at hi'; omega
   refine ⟨[encS ts.reverse[i]], rfl, ⟨_, rfl, ?_⟩, ?_⟩
   ·have h1 := HO.out.elems (ts.length - 1 - i) (by simpa using hi2) (by rw [← HTL.out]; exact hi2)
    have h2 := h1.imp (w' := w7) (ok' := fun b => w.heap.size ≤ b ∧ b < w7.heap.size) (fun b hb => ⟨hb.1, Nat.lt_of_lt_of_le hb.2.1 hg7.size⟩) (fun b hb => hg7.block b hb.2.1 (fun e => hb.2.2.1 (by rw [e]; rfl))) (fun _ _ _ r => r)
    have h3 := ints_own h2 hg8 hnc8
    rw [List.getElem_map] at h3
    have e1 : ts.reverse[i] = ts[ts.length - 1 - i] := List.getElem_reverse _
    have e2 : (aft ins (endS t L) (backs ins.length 0)).1.reverse[i] = (aft ins (endS t L) (backs ins.length 0)).1[ts.length - 1 - i]'(by rw [← HTL.out]; exact hi2) := by rw [List.getElem_reverse]; simp only [HTL.out]
    rw [e1, e2]
    exact h3.imp (fun b hb => ⟨hb.1, by rw [hsz8]; exact hb.2⟩) (Keeps.refl _ _) (fun _ _ _ r => r)
   ·intro q hq
    have hq' : q < 1 := hq
    obtain rfl : q = 0 := by omega
    have h := hc7 i hi'
    rw [World.cell?_of_block (w := w7) (w' := w7.putObj D (.deferred none)) (a := ⟨g, 0 + i * 1 + 0, none⟩) (World.putObj_heap_other hgD)]
    simpa using h
 case stop =>
  rintro D c' pre Y _ _ h _
  exact h.elim
end Go.Proofs.YtkpigkopjfkepaaGreatDoor
