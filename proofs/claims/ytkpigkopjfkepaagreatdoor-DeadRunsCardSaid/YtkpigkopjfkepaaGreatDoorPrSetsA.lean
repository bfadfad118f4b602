/- Sets of numbers (map[int]struct{}), as predicates: what a world holds, and what a store and a delete make of it. What (flow.set).add does: it puts numbers in, and tells whether one is new. What (flow.set).step does: what an instruction sets is taken out, what it uses is put in. What is wanted where, as plain facts: the least sets that follow from what the blocks use and set. -/
import Derived.Test.YtkpigkopjfkepaaGreatDoorPrVisitF
import Derived.Maps.Own
import Derived.Maps.OwnSet
import Derived.Maps.Ext
import Derived.Lib.SlKeysI
namespace Go.Proofs.YtkpigkopjfkepaaGreatDoor
open Go.RowKit Go.Maps
def allPlaces : List Int := (List.range 50000).map Int.ofNat
theorem mem_allPlaces (n : Int) : n ∈ allPlaces ↔ placeP n = true := by
 unfold allPlaces placeP
 simp only [List.mem_map, List.mem_range, decide_eq_true_eq]
 constructor
 ·rintro ⟨i, hi, rfl⟩
  simp only [Int.ofNat_eq_natCast]
  omega
 ·rintro ⟨h0, h1⟩; exact ⟨n.toNat, by omega, by simp only [Int.ofNat_eq_natCast]; omega⟩
theorem nodup_allPlaces : allPlaces.Nodup := by
 unfold allPlaces
 rw [List.nodup_iff_pairwise_ne, List.pairwise_map]
 exact List.nodup_range.imp fun h e => h (by simp only [Int.ofNat_eq_natCast] at e; omega)
def cnt (S : Int → Bool) : Nat := (allPlaces.filter S).length
theorem cnt_le (S : Int → Bool) : cnt S ≤ 50000 := by
 unfold cnt
 exact Nat.le_trans (List.length_filter_le _ _) (by simp [allPlaces])
def put1 (S : Int → Bool) (k : Int) (x : Int) : Bool := x == k || S x
def del1 (S : Int → Bool) (k : Int) (x : Int) : Bool := !(x == k) && S x
theorem keyI : Keyed Tryz.prog 3 := int_keyed Tryz.underlying3
abbrev DU := DataW Unit
def MSet (w : World) (b : Nat) (S : Int → Bool) : Prop :=
 ∃ (n : Nat) (D : DU), w.ownsMap Tryz.prog 3 unitElem b n D ∧ n ≤ 50000 ∧ Maps.size D = cnt S ∧ (∀ k, Maps.has D (.int .i64 k) = S k) ∧ (∀ k, S k = true → placeP k = true)
theorem owns_shrink {w : World} {b n : Nat} {D : DU} {R : Value → Option (DU × List MemPlace)} (h : w.ownsMap Tryz.prog 3 R b n D) : w.ownsMap Tryz.prog 3 R b (Maps.size D) D := by
 obtain ⟨es, clock, h1, h2, _, rfl⟩ := h
 refine ⟨es, clock, h1, h2, ?_, rfl⟩
 rw [Maps.size_eq, length_sorted]
 simp
theorem lit_ne {x k : Int} (h : x ≠ k) : (Lit.int .i64 x) ≠ Lit.int .i64 k := fun e => h (by injection e)
def riseL (S : Int → Bool) : List Int := allPlaces.filter S
theorem mem_riseL {S : Int → Bool} {k : Int} : k ∈ riseL S ↔ placeP k = true ∧ S k = true := by
 unfold riseL
 rw [List.mem_filter, mem_allPlaces]
theorem nodup_riseL (S : Int → Bool) : (riseL S).Nodup := List.Pairwise.filter _ nodup_allPlaces
theorem rise_keys {w : World} {b n : Nat} {D : DU} {S : Int → Bool} {R : Value → Option (DU × List MemPlace)} (h : w.ownsMap Tryz.prog 3 R b n D) (hh : ∀ k, Maps.has D (.int .i64 k) = S k) (hp : ∀ k, S k = true → placeP k = true) :
  (riseL S).Perm (intKeys D) :=
 CollectedI.perm (left := fun _ => false) ⟨nodup_riseL S, fun x => by rw [mem_riseL, hh x]; exact ⟨fun h => ⟨h.2, rfl⟩, fun h => ⟨hp x h.1, h.1⟩⟩⟩ h keyI Tryz.underlying3 (fun _ => rfl)
theorem size_keys (D : DU) : Maps.size D = (intKeys D).length := by
 unfold Maps.size intKeys
 split <;> simp
theorem MSet.of {w : World} {b n : Nat} {D : DU} {S : Int → Bool} (h : w.ownsMap Tryz.prog 3 unitElem b n D) (hh : ∀ k, Maps.has D (.int .i64 k) = S k) (hp : ∀ k, S k = true → placeP k = true) : MSet w b S := by
 have hs : Maps.size D = cnt S := by rw [size_keys, ← (rise_keys h hh hp).length_eq]; rfl
 exact ⟨_, D, owns_shrink h, by rw [hs]; exact cnt_le _, hs, hh, hp⟩
section
variable {w w' : World} {b : Nat} {S : Int → Bool}
theorem MSet.lt (h : MSet w b S) : b < w.heap.size := by
 obtain ⟨_, _, h, _⟩ := h
 exact h.lt
theorem MSet.place (h : MSet w b S) {k : Int} (hk : S k = true) : placeP k = true := by
 obtain ⟨_, _, _, _, _, _, h⟩ := h
 exact h k hk
theorem MSet.kept {row : Option Nat} (h : MSet w b S) (hg : w.grownBy w' row) (hne : some b ≠ row) : MSet w' b S := by
 obtain ⟨n, D, h1, h2⟩ := h
 exact ⟨n, D, h1.kept hg hne, h2⟩
theorem MSet.made (w : World) : MSet (w.alloc (.map #[] 0)) w.heap.size (fun _ => false) :=
 MSet.of (World.ownsMap_made _ _ _ _) (fun _ => rfl) (fun _ h => by cases h)
theorem MSet.put {n : Nat} {D : DU} {k : Int} (h0 : w.ownsMap Tryz.prog 3 unitElem b n D) (hh : ∀ k, Maps.has D (.int .i64 k) = S k) (hp : ∀ k, S k = true → placeP k = true)
  (hk : placeP k = true) (h1 : w'.ownsMap Tryz.prog 3 unitElem b (n + 1) (D.put (.int .i64 k) (.agg []))) : MSet w' b (put1 S k) := by
 refine MSet.of h1 (fun x => ?_) (fun x hx => ?_)
 ·unfold put1
  by_cases e : x = k
  ·subst e
   rw [Maps.has_put_same h0.isMap (by first | trivial | exact rfl | simp [WideAt.IsKeyLit])]
   simp
  ·rw [Maps.has_put_other (lit_ne e), hh x]
   simp [e]
 ·unfold put1 at hx
  by_cases e : x = k
  ·subst e; exact hk
  ·exact hp x (by simpa [e] using hx)
theorem MSet.del {n : Nat} {D : DU} {k : Int} (hh : ∀ k, Maps.has D (.int .i64 k) = S k) (hp : ∀ k, S k = true → placeP k = true)
  (h1 : w'.ownsMap Tryz.prog 3 unitElem b n (D.del (.int .i64 k))) : MSet w' b (del1 S k) := by
 refine MSet.of h1 (fun x => ?_) (fun x hx => ?_)
 ·unfold del1
  by_cases e : x = k
  ·subst e
   rw [Maps.has_del_same]
   simp
  ·rw [Maps.has_del_other (lit_ne e), hh x]
   simp [e]
 ·unfold del1 at hx
  by_cases e : x = k
  ·subst e; simp at hx
  ·exact hp x (by simpa [e] using hx)
end
end Go.Proofs.YtkpigkopjfkepaaGreatDoor
namespace Go.Proofs.YtkpigkopjfkepaaGreatDoor
open Go.RowKit Go.Maps
def addS (S : Int → Bool) (l : List Int) : Int → Bool := l.foldl put1 S
theorem addS_snoc (S : Int → Bool) (l : List Int) (k : Int) : addS S (l ++ [k]) = put1 (addS S l) k := by simp [addS]
set_option maxRecDepth 100000 in
set_option maxHeartbeats 4000000 in
theorem add_any (b : Nat) (S : Int → Bool) (l : List Int) (hl : ∀ k ∈ l, placeP k = true) (v : Value) (w : World) (hS : MSet w b S) (hv : SlR w (fun x => x < w.heap.size ∧ x ≠ b) 1 RInt v l) :
  Calls Tryz.prog 116 #[.map (some b), v] w fun e w' => e = .returned (.bool (decide (cnt S < cnt (addS S l)))) ∧ w.grownBy w' (some b) ∧ MSet w' b (addS S l) := by
 obtain ⟨A, c, hvr, hlc, hcm⟩ := hv.val
 have HV := Lib.hid hv
 have HS := Lib.hid hS
 have HL := Lib.hid hl
 subst hvr
 have hlen := Nat.le_trans hlc hcm
 unfold maxLen at hlen
 obtain ⟨n0, D0, ho0, _, hs0, _⟩ := hS
 have hc0 := cnt_le S
 clear hv hl
 go_enter Tryz.func116, Tryz.ntmps116
 go_wp2_with (at_len; refine wpList_len_own _ rfl _ 165 rfl 3 _ Tryz.underlying165 _ b n0 D0 rfl ho0 ?_; rw [hs0]; clear ho0)
 clear hs0
 go_loopw [12] (fun s wr => ∃ i : Nat, i ≤ l.length ∧ s = .int .i64 i ∧ w.grownBy wr (some b) ∧ MSet wr b (addS S (l.take i))) (fun s _ => l.length - (RowKit.intOf s).toNat)
 case atStart => exact ⟨0, by omega, rfl, World.grownBy.refl _ _, HS.out⟩
 case round =>
  obtain ⟨i, hi, rfl, hg, hm⟩ := hrel
  by_cases hlt : i < l.length
  ·have d0 : decide ((i : Int) < (l.length : Int)) = true := decide_eq_true (by omega)
   obtain ⟨b2, off, c', hform, _, _, hbl, hel⟩ := HV.out.form (by omega)
   obtain ⟨cs, hcl, hcs, hcell⟩ := hel i hlt
   subst hcs
   obtain ⟨rfl, rfl⟩ : A = some ⟨b2, off, none⟩ ∧ c = c' := by injection hform with h1 _ h2; exact ⟨h1, h2⟩
   have hk := HL.out l[i] (List.getElem_mem _)
   obtain ⟨k, hkk⟩ : ∃ k, k = l[i] := ⟨_, rfl⟩
   rw [← hkk] at hcell hk
   have i0 : wr.cell? ⟨b2, off + i, none⟩ = some (.int .i64 k) := by
    have h := (hcell.keep (hg.block b2 hbl.1 (by intro e; injection e with e; exact hbl.2 e))).at_ (j := 0) rfl
    simpa using h
   obtain ⟨n, D, hown, hn, hsz, hh, hp⟩ := hm
   have hkey : keyOf Tryz.prog 3 (.int .i64 k) = some (.int .i64 k) := Maps.keyOf_int_mk Tryz.underlying3 (by unfold placeP at hk; simp at hk; exact WalkArith.wf_i64 (by omega))
   have HE : Hid (l.take (i + 1) = l.take i ++ [k]) := Lib.hid (by rw [List.take_succ_eq_append_getElem hlt, hkk])
   clear hcell hel hform hcl hkk
   go_wp2_with (at_mapUpdate; (refine wpList_mapUpdate_own _ rfl _ _ _ 165 rfl 3 _ keyI Tryz.underlying165 _ b n D rfl hown (by unfold maxLen; omega) _ _ _ rfl rfl hkey (.agg []) [] unitElem_mk ?_); intro w1 hown1 hgrow1)
   go_roundw
   case rel => exact ⟨i + 1, by omega, by go_num, hg.trans hgrow1, by rw [HE.out, addS_snoc]; exact MSet.put hown hh hp hk hown1⟩
   case measure => simp [RowKit.intOf]; omega
  ·have d0 : decide ((i : Int) < (l.length : Int)) = false := decide_eq_false (by omega)
   obtain rfl : i = l.length := by omega
   rw [List.take_length] at hm
   have HM := Lib.hid hm
   obtain ⟨n, D, hown, hn, hsz, hh, hp⟩ := hm
   go_wp2_with (at_len; refine wpList_len_own _ rfl _ 165 rfl 3 _ Tryz.underlying165 _ b n D rfl hown ?_; rw [hsz])
   go_ret
   refine ⟨?_, hg, HM.out⟩
   generalize cnt S = p
   generalize cnt (addS S l) = q
   have e : decide ((p : Int) < (q : Int)) = decide (p < q) := by by_cases h : p < q <;> simp [h]
   rw [← e]
   rfl
end Go.Proofs.YtkpigkopjfkepaaGreatDoor
namespace Go.Proofs.YtkpigkopjfkepaaGreatDoor
open Go.RowKit Go.Maps
def delS (S : Int → Bool) (l : List Int) : Int → Bool := l.foldl del1 S
def stepS (S : Int → Bool) (x : LIns) : Int → Bool := addS (delS S (setsL x)) (usesL x)
theorem delS_snoc (S : Int → Bool) (l : List Int) (k : Int) : delS S (l ++ [k]) = del1 (delS S l) k := by simp [delS]
set_option maxRecDepth 100000 in
set_option maxHeartbeats 4000000 in
theorem step_any (b : Nat) (S : Int → Bool) (x : LIns) (hx : GoodIns x) (A : Option Addr) (n c : Nat) (w : World) (hS : MSet w b S) (hv : SlR w (fun x => x < w.heap.size ∧ x ≠ b) 1 RInt (.slice A n c) x.args) :
  Calls Tryz.prog 115 #[.map (some b), .agg #[.int .i64 x.kind, .int .i64 x.d, .int .i64 x.a, .int .i64 x.b, .int .i64 x.op, .int .i64 x.n, .string x.name, .slice A n c]] w fun e w' => e = .returned (.tuple #[]) ∧ w.grownBy w' (some b) ∧ MSet w' b (stepS S x) := by
 have HX := Lib.hid hx
 have HV := Lib.hid hv
 have hbw := hS.lt
 have HS := Lib.hid hS
 clear hx hv hS
 go_enter Tryz.func115, Tryz.ntmps115
 go_upto_region 1 with fail
 refine wp_world ?_
 intro W hW
 have hg1 : w.grownBy W (some b) := by rw [← hW]; exact World.grownBy_alloc _ _ _
 have hK : Blk W w.heap.size 44 #[.int .i64 x.kind, .int .i64 x.d, .int .i64 x.a, .int .i64 x.b, .int .i64 x.op, .int .i64 x.n, .string x.name, .slice A n c] := by rw [← hW]; exact Blk.new_at _ _ _ rfl
 have hM1 : MSet W b S := by rw [← hW]; exact HS.out.kept (World.grownBy_alloc _ _ none) (by simp)
 clear hW
 have c0 : W.cell? ⟨w.heap.size, 0, none⟩ = some (.int .i64 x.kind) := hK.cell 0
 have c1 : W.cell? ⟨w.heap.size, 1, none⟩ = some (.int .i64 x.d) := hK.cell 1
 have c2 : W.cell? ⟨w.heap.size, 2, none⟩ = some (.int .i64 x.a) := hK.cell 2
 have c3 : W.cell? ⟨w.heap.size, 3, none⟩ = some (.int .i64 x.b) := hK.cell 3
 have c4 : W.cell? ⟨w.heap.size, 4, none⟩ = some (.int .i64 x.op) := hK.cell 4
 have c5 : W.cell? ⟨w.heap.size, 5, none⟩ = some (.int .i64 x.n) := hK.cell 5
 have c6 : W.cell? ⟨w.heap.size, 6, none⟩ = some (.string x.name) := hK.cell 6
 have c7 : W.cell? ⟨w.heap.size, 7, none⟩ = some (.slice A n c) := hK.cell 7
 go_wp2_with (go_at_call 74; refine (sets_any x _ _).mono ?_; rintro e w1 ⟨v1, rfl, hb1, hs1⟩; obtain ⟨A1, c1', hv1, hl1, hm1⟩ := hs1.val; subst hv1)
 have hM2 : MSet w1 b S := hM1.kept (grown_of_below (row := none) hb1) (by simp)
 have hK2 := hK.below hb1 hK.lt
 have hg2 : w.grownBy w1 (some b) := hg1.trans (grown_of_below hb1)
 have HS1 := Lib.hid hs1
 have HST := Lib.hid HX.out.sets
 have hbW : b < W.heap.size := hM1.lt
 have hne0 : w.heap.size ≠ b := by omega
 clear hs1 hM1 hK c0 c1 c2 c3 c4 c5 c6 c7 hg1
 generalize hl : setsL x = l at *
 have HLL := Lib.hid hl
 clear hl
 go_loopw [9] (fun s wr => ∃ i : Nat, i ≤ l.length ∧ s = .int .i64 i ∧ w.grownBy wr (some b) ∧ w1.grownBy wr (some b) ∧ MSet wr b (delS S (l.take i))) (fun s _ => l.length - (RowKit.intOf s).toNat)
 case atStart => exact ⟨0, by omega, rfl, hg2, World.grownBy.refl _ _, hM2⟩
 case round =>
  obtain ⟨i, hi, rfl, hg, hg', hm⟩ := hrel
  have hln : l.length ≤ 9223372036854775807 := by have := Nat.le_trans hl1 hm1; unfold maxLen at this; omega
  by_cases hlt : i < l.length
  ·have d0 : decide ((i : Int) < (l.length : Int)) = true := decide_eq_true (by omega)
   obtain ⟨b2, off, c', hform, _, _, hbl, hel⟩ := HS1.out.form (by omega)
   obtain ⟨cs, hcl, hcs, hcell⟩ := hel i hlt
   subst hcs
   obtain ⟨rfl, rfl⟩ : A1 = some ⟨b2, off, none⟩ ∧ c1' = c' := by injection hform with h1 _ h2; exact ⟨h1, h2⟩
   have hk := HST.out l[i] (List.getElem_mem _)
   obtain ⟨k, hkk⟩ : ∃ k, k = l[i] := ⟨_, rfl⟩
   rw [← hkk] at hcell hk
   have i0 : wr.cell? ⟨b2, off + i, none⟩ = some (.int .i64 k) := by
    have h := (hcell.keep (hg'.block b2 hbl.2 (by intro e; injection e with e; have := hbl.1; omega))).at_ (j := 0) rfl
    simpa using h
   obtain ⟨n3, D, hown, hn, hsz, hh, hp⟩ := hm
   have hkey : keyOf Tryz.prog 3 (.int .i64 k) = some (.int .i64 k) := Maps.keyOf_int_mk Tryz.underlying3 (by unfold placeP at hk; simp at hk; exact WalkArith.wf_i64 (by omega))
   have HE : Hid (l.take (i + 1) = l.take i ++ [k]) := Lib.hid (by rw [List.take_succ_eq_append_getElem hlt, hkk])
   clear hcell hel hform hcl hkk
   go_wp2_with (at_delete; refine wpList_delete_own _ rfl _ _ 165 3 rfl 196 keyI Tryz.underlying165 _ b n3 D rfl hown _ _ rfl hkey ?_; intro w2 hown1 hturn)
   go_roundw
   case rel => exact ⟨i + 1, by omega, by go_num, hg.trans hturn.grown, hg'.trans hturn.grown, by rw [HE.out, delS_snoc]; exact MSet.del hh hp hown1⟩
   case measure => simp [RowKit.intOf]; omega
  ·have d0 : decide ((i : Int) < (l.length : Int)) = false := decide_eq_false (by omega)
   obtain rfl : i = l.length := by omega
   rw [List.take_length] at hm
   have hK3 := hK2.grown hg' (by intro e; injection e with e; exact hne0 e.symm)
   have c0 : wr.cell? ⟨w.heap.size, 0, none⟩ = some (.int .i64 x.kind) := hK3.cell 0
   have c1 : wr.cell? ⟨w.heap.size, 1, none⟩ = some (.int .i64 x.d) := hK3.cell 1
   have c2 : wr.cell? ⟨w.heap.size, 2, none⟩ = some (.int .i64 x.a) := hK3.cell 2
   have c3 : wr.cell? ⟨w.heap.size, 3, none⟩ = some (.int .i64 x.b) := hK3.cell 3
   have c4 : wr.cell? ⟨w.heap.size, 4, none⟩ = some (.int .i64 x.op) := hK3.cell 4
   have c5 : wr.cell? ⟨w.heap.size, 5, none⟩ = some (.int .i64 x.n) := hK3.cell 5
   have c6 : wr.cell? ⟨w.heap.size, 6, none⟩ = some (.string x.name) := hK3.cell 6
   have c7 : wr.cell? ⟨w.heap.size, 7, none⟩ = some (.slice A n c) := hK3.cell 7
   have HU := Lib.hid (uses_any x (.slice A n c) wr (HV.out.imp (fun b3 h => Nat.lt_of_lt_of_le h.1 hg.size) (fun b3 h => hg.block b3 h.1 (by intro e; injection e with e; exact h.2 e)) (fun _ _ _ r => r)) (by have := HX.out.args; omega))
   have hbr := hm.lt
   go_wp2_with (first | (go_at_call 73; refine HU.out.mono ?_; rintro e w3 ⟨v3, rfl, hb3, hs3⟩; have hm3 := hm.kept (grown_of_below (row := none) hb3) (by simp); have HA := Lib.hid (add_any b (delS S l) (usesL x) HX.out.uses v3 w3 hm3 (hs3.imp (fun b3 h => ⟨h.2, by omega⟩) (Keeps.refl _ _) (fun _ _ _ r => r)))) | (go_at_call 116; refine HA.out.mono ?_; rintro e w4 ⟨rfl, hg4, hm4⟩))
   refine bodyPost_end (results_none rfl _ _ _) rfl ⟨rfl, (hg.trans (grown_of_below hb3)).trans hg4, ?_⟩
   unfold stepS
   rw [HLL.out]
   exact hm4
end Go.Proofs.YtkpigkopjfkepaaGreatDoor
namespace Go.Proofs.YtkpigkopjfkepaaGreatDoor
open Go.RowKit
theorem addS_eq (l : List Int) : ∀ (S : Int → Bool) (k : Int), addS S l k = (decide (k ∈ l) || S k) := by
 induction l with
 | nil => intro S k; simp [addS]
 | cons a r ih =>
  intro S k
  show addS (put1 S a) r k = _
  rw [ih]
  unfold put1
  by_cases h : k = a
  ·subst h; simp
  ·have e : (k == a) = false := by simpa using h
   simp [h, e]
theorem delS_eq (l : List Int) : ∀ (S : Int → Bool) (k : Int), delS S l k = (!decide (k ∈ l) && S k) := by
 induction l with
 | nil => intro S k; simp [delS]
 | cons a r ih =>
  intro S k
  show delS (del1 S a) r k = _
  rw [ih]
  unfold del1
  by_cases h : k = a
  ·subst h; simp
  ·have e : (k == a) = false := by simpa using h
   simp [h, e]
theorem stepS_eq (S : Int → Bool) (x : LIns) (k : Int) : stepS S x k = (decide (k ∈ usesL x) || (!decide (k ∈ setsL x) && S k)) := by
 unfold stepS
 rw [addS_eq, delS_eq]
theorem addS_iff {S : Int → Bool} {l : List Int} {k : Int} : addS S l k = true ↔ k ∈ l ∨ S k = true := by rw [addS_eq]; simp
theorem stepS_iff {S : Int → Bool} {x : LIns} {k : Int} : stepS S x k = true ↔ k ∈ usesL x ∨ (k ∉ setsL x ∧ S k = true) := by rw [stepS_eq]; simp
def stepsS (l : List LIns) (S : Int → Bool) : Int → Bool := l.foldr (fun x S => stepS S x) S
def endS (t : LTerm) (L : Nat → Int → Bool) : Int → Bool := addS (fun v => (nextL t).any fun k => L k.toNat v) (wantsL t)
def transS (b : LBlock) (L : Nat → Int → Bool) : Int → Bool := stepsS b.ins (endS b.term L)
theorem stepsS_cons (x : LIns) (l : List LIns) (S : Int → Bool) : stepsS (x :: l) S = stepS (stepsS l S) x := rfl
theorem endS_iff {t : LTerm} {L : Nat → Int → Bool} {v : Int} : endS t L v = true ↔ v ∈ wantsL t ∨ ∃ k ∈ nextL t, L k.toNat v = true := by
 unfold endS
 rw [addS_iff, List.any_eq_true]
theorem stepS_mono {S T : Int → Bool} (h : ∀ v, S v = true → T v = true) (x : LIns) : ∀ v, stepS S x v = true → stepS T x v = true := fun v hv => by
 rw [stepS_iff] at hv ⊢
 exact hv.imp id fun ⟨a, b⟩ => ⟨a, h v b⟩
theorem stepsS_mono {S T : Int → Bool} (h : ∀ v, S v = true → T v = true) : ∀ (l : List LIns) (v : Int), stepsS l S v = true → stepsS l T v = true
 | [] => h
 | x :: l => stepS_mono (stepsS_mono h l) x
theorem endS_mono {L M : Nat → Int → Bool} (h : ∀ i v, L i v = true → M i v = true) (t : LTerm) : ∀ v, endS t L v = true → endS t M v = true := fun v hv => by
 rw [endS_iff] at hv ⊢
 exact hv.imp id fun ⟨k, a, b⟩ => ⟨k, a, h _ v b⟩
theorem transS_mono {L M : Nat → Int → Bool} (h : ∀ i v, L i v = true → M i v = true) (b : LBlock) : ∀ v, transS b L v = true → transS b M v = true :=
 stepsS_mono (endS_mono h b.term) b.ins
def Pre (f : LFlow) (L : Nat → Int → Bool) : Prop := ∀ (i : Nat) (h : i < f.blocks.length) (v : Int), transS f.blocks[i] L v = true → L i v = true
open Classical in
noncomputable def liveS (f : LFlow) (i : Nat) (v : Int) : Bool := decide (∀ L, Pre f L → L i v = true)
theorem liveS_le {f : LFlow} {L : Nat → Int → Bool} (h : Pre f L) (i : Nat) (v : Int) (hv : liveS f i v = true) : L i v = true := by
 classical
 unfold liveS at hv
 exact of_decide_eq_true hv L h
theorem liveS_mk {f : LFlow} {i : Nat} {v : Int} (h : ∀ L, Pre f L → L i v = true) : liveS f i v = true := by
 classical
 unfold liveS
 exact decide_eq_true h
theorem liveS_pre (f : LFlow) : Pre f (liveS f) := fun i h v hv => liveS_mk fun _ hL => hL i h v (transS_mono (liveS_le hL) _ v hv)
theorem liveS_of {f : LFlow} {L : Nat → Int → Bool} (h : Pre f L) (hl : ∀ i v, L i v = true → liveS f i v = true) : L = liveS f := by
 funext i v
 rw [Bool.eq_iff_iff]
 exact ⟨hl i v, liveS_le h i v⟩
theorem liveS_round {f : LFlow} {L : Nat → Int → Bool} (hl : ∀ i v, L i v = true → liveS f i v = true) (i : Nat) (h : i < f.blocks.length) (v : Int) (hv : transS f.blocks[i] L v = true) : liveS f i v = true :=
 liveS_pre f i h v (transS_mono hl _ v hv)
end Go.Proofs.YtkpigkopjfkepaaGreatDoor
