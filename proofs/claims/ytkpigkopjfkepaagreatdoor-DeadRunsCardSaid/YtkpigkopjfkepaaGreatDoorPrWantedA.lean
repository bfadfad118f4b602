/- What the proof on flow.wanted leans on: a loop by a ghost that falls; marks of ended ranges; rows of blocks and instructions; how many are wanted. The region at the end of a round of flow.wanted: 'again = out[i].add(s.rising()...) || again'. -/
import Derived.Test.YtkpigkopjfkepaaGreatDoorPrFlowE
import Derived.Laws.EntriesVeiled
namespace Go.Proofs.YtkpigkopjfkepaaGreatDoor
open Go.RowKit Go.Shelf Go.Maps
theorem wpIn_world {F : Fence} {n : Nat} {P : Program} {c : Code} {Q : Exit → Act → World → Prop} {a : Act} {w : World} (h : ∀ W, w = W → c.wpIn F n P Q a W) : c.wpIn F n P Q a w := h w rfl
theorem loop_ghost {F : Fence} {n : Nat} {P : Program} {Q : Exit → Act → World → Prop} {c : Code} (I : Nat → Act → World → Prop)
  (hstep : ∀ m a w, I m a w → c.wpIn F n P (Exit.then (fun a' w' => ∃ m', m' < m ∧ I m' a' w') Q) a w) (m : Nat) (a : Act) (w : World) (h : I m a w) : (Code.loop c).wpIn F n P Q a w := by
 have key : ∀ N m a w, m < N → I m a w → Code.roundsIn F n P c Q N a w := by
  intro N
  induction N with
  | zero => intro m a w h; omega
  | succ N ih =>
   intro m a w hm hI
   rw [roundsIn_succ]
   refine wpIn_mono (hstep m a w hI) ?_
   intro e a' w' hq
   cases e with
   | normal =>
    obtain ⟨m', hlt, hI'⟩ := hq
    exact ih m' a' w' (by omega) hI'
   | _ => exact hq
 exact wpIn_loop_rounds (m + 1) (key (m + 1) m a w (Nat.lt_succ_self m) h)
theorem MSet.same {W W' : World} {b : Nat} {S : Int → Bool} (h : MSet W b S) (hk : W'.heap[b]? = W.heap[b]?) : MSet W' b S := by
 obtain ⟨n, D, ⟨es, clock, hb, rest⟩, h2⟩ := h
 exact ⟨n, D, ⟨es, clock, hk.trans hb, rest⟩, h2⟩
theorem ownFrom_of_below {β : Type} {B : Nat} {I : β → World → Prop} (hsz : ∀ s W, I s W → B ≤ W.heap.size) (h : ∀ s W W', I s W → Below B W W' → I s W') : OwnFrom B I :=
 fun s W W' _ hs hg hr => h s W W' hs ((Below.refl B W).grown hg (hsz s W hs) (fun k e => (hr k e).1))
theorem keepsFrom_of_below {B : Nat} {W W' : World} (h : Below W.heap.size W W') : KeepsFrom B W W' :=
 ⟨h.size, fun k _ _ hk _ => (h.block k (Array.getElem?_eq_some_iff.1 hk).1).trans hk⟩
def Marks (n₀ : Nat) (W : World) : Nat → List Deferred → Prop
 | _, [] => True
 | B, d :: ds => ∃ D, n₀ ≤ D ∧ D < B ∧ d = { target := .collected D, args := #[] } ∧ W.heap[D]? = some (Obj.deferred (some [])) ∧ Marks n₀ W D ds
theorem Marks.keep {n₀ : Nat} {W W' : World} : ∀ {B : Nat} {ds : List Deferred}, Marks n₀ W B ds → (∀ k : Nat, W.heap[k]? = some (Obj.deferred (some [])) → W'.heap[k]? = W.heap[k]?) → Marks n₀ W' B ds
 | _, [], _, _ => trivial
 | _, _ :: _, ⟨D, h1, h2, h3, h4, h5⟩, hk => ⟨D, h1, h2, h3, (hk D h4).trans h4, h5.keep hk⟩
theorem Marks.up {n₀ : Nat} {W : World} {B B' : Nat} (hB : B ≤ B') : ∀ {ds : List Deferred}, Marks n₀ W B ds → Marks n₀ W B' ds
 | [], _ => trivial
 | _ :: _, ⟨D, h1, h2, h3⟩ => ⟨D, h1, Nat.lt_of_lt_of_le h2 hB, h3⟩
theorem leaves_marks {F : Fence} {n : Nat} {P : Program} {fn : Func} {tmps : Array Value} {R : Ending → World → Prop} {n₀ : Nat} {W : World} (G : World → Prop)
  (hG : ∀ w1 D, n₀ ≤ D → W.heap[D]? = some (Obj.deferred (some [])) → w1.heap[D]? = some (Obj.deferred (some [])) → G w1 → G (w1.putObj D (.deferred none)))
  (hfin : ∀ w1, G w1 → LeavesInM F n P fn tmps R [] .returning w1) :
  ∀ (ds : List Deferred) (B : Nat) (w1 : World), Marks n₀ W B ds → (∀ k, k < B → w1.heap[k]? = W.heap[k]?) → G w1 → LeavesInM F n P fn tmps R ds .returning w1
 | [], _, w1, _, _, hg => hfin w1 hg
 | d :: ds, B, w1, ⟨D, h1, h2, h3, h4, h5⟩, hk, hg => by
  have hD : w1.heap[D]? = some (Obj.deferred (some [])) := (hk D h2).trans h4
  subst h3
  refine ⟨by simp, .inl ⟨D, _, rfl, run_takeDeferred hD, ?_⟩⟩
  exact leaves_marks G hG hfin ds D _ h5 (fun k hk' => (World.putObj_heap_other (by omega)).trans (hk k (by omega))) (hG w1 D h1 h4 hD hg)
theorem RowB.imp {W W' : World} {ok ok' : Nat → Prop} {A : Option Addr} {l : List LBlock} {vs : Nat → Value} (h : RowB W ok A l vs) (hok : ∀ b, ok b → ok' b) (hk : Keeps ok W W') : RowB W' ok' A l vs := by
 rcases h with h | ⟨b, off, hA, hb, hc⟩
 ·exact .inl h
 ·exact .inr ⟨b, off, hA, hok b hb, fun i hi => (hc i hi).keep (hk b hb)⟩
theorem rowB_of_slr {w : World} {ok ok' : Nat → Prop} {A : Option Addr} {n c : Nat} {l : List LBlock} (h : SlR w ok 5 (RBlock w ok') (.slice A n c) l) :
  ∃ (As : Nat → Option Addr) (Ls cs : Nat → Nat), RowB w ok A l (fun i => .slice (As i) (Ls i) (cs i)) ∧ ∀ (i : Nat) (hi : i < l.length), Ls i = l[i].ins.length ∧ SlR w ok' 8 (RIns w ok') (.slice (As i) (Ls i) (cs i)) l[i].ins := by
 classical
 by_cases hl : l = []
 ·subst hl; exact ⟨fun _ => none, fun _ => 0, fun _ => 0, .inl rfl, fun i hi => by simp at hi⟩
 ·obtain ⟨b, off, c', hform, _, _, hb, hel⟩ := h.form (List.length_pos_iff.2 hl)
  have hA : A = some ⟨b, off, none⟩ := by injection hform
  have hex : ∀ i (hi : i < l.length), ∃ t : Option Addr × Nat × Nat, Cells w b (off + i * 5) (.slice t.1 t.2.1 t.2.2 :: termCells l[i].term) ∧ t.2.1 = l[i].ins.length ∧ SlR w ok' 8 (RIns w ok') (.slice t.1 t.2.1 t.2.2) l[i].ins := fun i hi => by
   obtain ⟨cs, _, ⟨vi, rfl, hs⟩, hc⟩ := hel i hi
   obtain ⟨A1, c1, hv, _, _⟩ := hs.val
   subst hv
   exact ⟨(A1, l[i].ins.length, c1), hc, rfl, hs⟩
  refine ⟨fun i => if hi : i < l.length then (Classical.choose (hex i hi)).1 else none, fun i => if hi : i < l.length then (Classical.choose (hex i hi)).2.1 else 0, fun i => if hi : i < l.length then (Classical.choose (hex i hi)).2.2 else 0, .inr ⟨b, off, hA, hb, fun i hi => ?_⟩, fun i hi => ?_⟩
  ·have := (Classical.choose_spec (hex i hi)).1
   simp only [dif_pos hi]
   exact this
  ·have := (Classical.choose_spec (hex i hi)).2
   simp only [dif_pos hi]
   exact this
theorem RowI.imp {W W' : World} {ok ok' : Nat → Prop} {A : Option Addr} {l : List LIns} {vs : Nat → Value} (h : RowI W ok A l vs) (hok : ∀ b, ok b → ok' b) (hk : Keeps ok W W') : RowI W' ok' A l vs := by
 rcases h with h | ⟨b, off, hA, hb, hc⟩
 ·exact .inl h
 ·exact .inr ⟨b, off, hA, hok b hb, fun i hi => (hc i hi).keep (hk b hb)⟩
theorem rowI_of_slr {w : World} {ok ok' : Nat → Prop} {A : Option Addr} {n c : Nat} {l : List LIns} (h : SlR w ok 8 (RIns w ok') (.slice A n c) l) :
  ∃ (As : Nat → Option Addr) (Ls cs : Nat → Nat), RowI w ok A l (fun i => .slice (As i) (Ls i) (cs i)) ∧ ∀ (i : Nat) (hi : i < l.length), Ls i = l[i].args.length ∧ SlR w ok' 1 RInt (.slice (As i) (Ls i) (cs i)) l[i].args := by
 classical
 by_cases hl : l = []
 ·subst hl; exact ⟨fun _ => none, fun _ => 0, fun _ => 0, .inl rfl, fun i hi => by simp at hi⟩
 ·obtain ⟨b, off, c', hform, _, _, hb, hel⟩ := h.form (List.length_pos_iff.2 hl)
  have hA : A = some ⟨b, off, none⟩ := by injection hform
  have hex : ∀ i (hi : i < l.length), ∃ t : Option Addr × Nat × Nat, Cells w b (off + i * 8) (insCells l[i] (.slice t.1 t.2.1 t.2.2)) ∧ t.2.1 = l[i].args.length ∧ SlR w ok' 1 RInt (.slice t.1 t.2.1 t.2.2) l[i].args := fun i hi => by
   obtain ⟨cs, _, ⟨vi, rfl, hs⟩, hc⟩ := hel i hi
   obtain ⟨A1, c1, hv, _, _⟩ := hs.val
   subst hv
   exact ⟨(A1, l[i].args.length, c1), hc, rfl, hs⟩
  refine ⟨fun i => if hi : i < l.length then (Classical.choose (hex i hi)).1 else none, fun i => if hi : i < l.length then (Classical.choose (hex i hi)).2.1 else 0, fun i => if hi : i < l.length then (Classical.choose (hex i hi)).2.2 else 0, .inr ⟨b, off, hA, hb, fun i hi => ?_⟩, fun i hi => ?_⟩
  ·have := (Classical.choose_spec (hex i hi)).1
   simp only [dif_pos hi]
   exact this
  ·have := (Classical.choose_spec (hex i hi)).2
   simp only [dif_pos hi]
   exact this
theorem slr_maps {W : World} {g n : Nat} {t : TypeId} {bs : List Nat} {ok : Nat → Prop} (h : Blk W g t (bs.map fun b => Value.map (some b)).toArray) (hn : bs.length = n) (hm : n ≤ maxLen) (hok : ok g) : SlR W ok 1 RMap (.slice (some ⟨g, 0, none⟩) n n) bs := by
 subst hn
 refine ⟨_, _, rfl, Nat.le_refl _, hm, .inr ⟨g, 0, rfl, hok, fun i hi => ⟨_, rfl, rfl, ?_⟩⟩⟩
 intro j hj
 have hj' : j < 1 := hj
 obtain rfl : j = 0 := by omega
 rw [h.cell]
 simp [hi]
theorem rise_sub {S T : Int → Bool} (h : ∀ v, S v = true → T v = true) : (riseL S).Sublist (riseL T) := by
 have e : riseL S = (riseL T).filter S := by
  unfold riseL
  rw [List.filter_filter]
  refine List.filter_congr fun x _ => ?_
  cases hs : S x with
  | false => simp
  | true => simp [h x hs]
 rw [e]
 exact List.filter_sublist
theorem cnt_mono {S T : Int → Bool} (h : ∀ v, S v = true → T v = true) : cnt S ≤ cnt T := (rise_sub h).length_le
theorem cnt_full {S T : Int → Bool} (h : ∀ v, S v = true → T v = true) (hc : ¬ cnt S < cnt T) {v : Int} (hp : placeP v = true) (hv : T v = true) : S v = true := by
 have e := (rise_sub h).eq_of_length (by have := cnt_mono h; unfold cnt at hc this; unfold riseL; omega)
 have hm : v ∈ riseL T := mem_riseL.2 ⟨hp, hv⟩
 rw [← e] at hm
 exact (mem_riseL.1 hm).2
def msr (n : Nat) (L : Nat → Int → Bool) : Nat := ((List.range n).map fun i => 50000 - cnt (L i)).sum
theorem sum_le {l : List Nat} {p q : Nat → Nat} (h : ∀ i ∈ l, q i ≤ p i) : (l.map q).sum ≤ (l.map p).sum := by
 induction l with
 | nil => simp
 | cons a r ih =>
  simp only [List.map_cons, List.sum_cons]
  have h1 := h a (by simp)
  have h2 := ih fun i hi => h i (by simp [hi])
  omega
theorem sum_lt {l : List Nat} {p q : Nat → Nat} (h : ∀ i ∈ l, q i ≤ p i) {k : Nat} (hk : k ∈ l) (hlt : q k < p k) : (l.map q).sum < (l.map p).sum := by
 induction l with
 | nil => simp at hk
 | cons a r ih =>
  simp only [List.map_cons, List.sum_cons]
  have h1 := h a (by simp)
  rcases List.mem_cons.1 hk with rfl | hk
  ·have h2 := sum_le fun i hi => h i (List.mem_cons_of_mem _ hi)
   omega
  ·have h2 := ih (fun i hi => h i (List.mem_cons_of_mem _ hi)) hk
   omega
theorem msr_lt {n : Nat} {L M : Nat → Int → Bool} (h : ∀ i v, L i v = true → M i v = true) {k : Nat} (hk : k < n) (hlt : cnt (L k) < cnt (M k)) : msr n M < msr n L := by
 unfold msr
 refine sum_lt (fun i _ => ?_) (List.mem_range.2 hk) ?_
 ·have := cnt_mono (h i); omega
 ·have := cnt_le (M k); omega
theorem foldl_backs {α β : Type} (l : List α) (g : β → α → β) (S : β) : (backs l.length 0).foldl (fun S k => g S l[k.1]) S = l.foldr (fun x S => g S x) S := by
 unfold backs
 rw [List.drop_zero, List.foldl_reverse]
 have e : l = (List.finRange l.length).map fun k => l[k.1] := by
  apply List.ext_getElem
  ·simp
  ·intro i h1 h2; simp
 have h : ∀ (m : List (Fin l.length)), (m.map fun k => l[k.1]).foldr (fun x S => g S x) S = m.foldr (fun k S => g S l[k.1]) S := by
  intro m
  rw [List.foldr_map]
 rw [← h, ← e]
end Go.Proofs.YtkpigkopjfkepaaGreatDoor
namespace Go.Proofs.YtkpigkopjfkepaaGreatDoor
open Go.RowKit Go.Shelf Go.Maps
attribute [local go_sem] Oper.semAt_some
def regOf (k : Nat) : Code → Option Code
 | .region i ops d => if i = k then some (.region i ops d) else none
 | .seq a b => (regOf k a).or (regOf k b)
 | .cond _ a b => (regOf k a).or (regOf k b)
 | .block _ b => regOf k b
 | .loop b => regOf k b
 | .rangeFunc _ _ a b => (regOf k a).or (regOf k b)
 | .scope b => regOf k b
 | _ => none
theorem add_to (b : Nat) {S Sx : Int → Bool} (l : List Int) (hl : ∀ k ∈ l, placeP k = true) (hSx : addS S l = Sx) (v : Value) (w : World) (hS : MSet w b S) (hv : SlR w (fun x => x < w.heap.size ∧ x ≠ b) 1 RInt v l) :
  Calls Tryz.prog 116 #[.map (some b), v] w fun e w' => e = .returned (.bool (decide (cnt S < cnt Sx))) ∧ w.grownBy w' (some b) ∧ MSet w' b Sx := by
 subst hSx
 exact add_any b S l hl v w hS hv
def RegPost (bx ab : Nat) (Sx : Int → Bool) (v : Bool) (Y : World) (e : Exit) (_ : Act) (Z : World) : Prop :=
 e = .normal ∧ ∃ w5 w6, Below Y.heap.size Y w5 ∧ w5.grownBy w6 (some bx) ∧ MSet w6 bx Sx ∧ Z = w6.setCell ⟨ab, 0, none⟩ (.bool v)
set_option maxRecDepth 100000 in
set_option maxHeartbeats 2000000 in
theorem reg17 (c : Code) (hc : (Tryz.f83.body.bind (regOf 17)) = some c) (l : Nat) (x ob g n bx sb sg ab : Nat) (ag : Bool) (S T Sx : Int → Bool) (Y : World) (a : Act) (u0 u1 u2 u4 u7 u9 u10 u11 u12 u13 u14 u15 u16 u17 u18 u19 u20 u21 u22 u23 u24 u25 u26 u27 u28 u29 u30 u31 u32 u33 u34 u35 u36 u37 u38 u39 u40 u41 u42 u43 u44 u45 u46 u47 u48 u49 u50 u51 u52 u53 : Value)
  (ha : a = { tmps := #[u0, u1, u2, .pointer (some ⟨ob, 0, none⟩), u4, .pointer (some ⟨ab, 0, none⟩), .int .i64 (x : Int), u7, .pointer (some ⟨sb, 0, none⟩), u9, u10, u11, u12, u13, u14, u15, u16, u17, u18, u19, u20, u21, u22, u23, u24, u25, u26, u27, u28, u29, u30, u31, u32, u33, u34, u35, u36, u37, u38, u39, u40, u41, u42, u43, u44, u45, u46, u47, u48, u49, u50, u51, u52, u53], defers := [] })
  (hS : MSet Y sg T) (hSx : addS S (riseL T) = Sx) (hm : MSet Y bx S) (hbx : Blk Y ab 4 #[.bool ag]) (hne : bx ≠ ab)
  (o0 : Y.cell? ⟨ob, 0, none⟩ = some (.slice (some ⟨g, 0, none⟩) n n)) (r0 : Y.cell? ⟨g, x, none⟩ = some (.map (some bx))) (s0 : Y.cell? ⟨sb, 0, none⟩ = some (.map (some sg))) (hx : x < n) :
  c.wpIn (Fence.wide.inRound l) 7 Tryz.prog (RegPost bx ab Sx (decide (cnt S < cnt Sx) || ag) Y) a Y := by
 have hob : ob < Y.heap.size := World.block_lt_of_cell? Y _ o0
 have hg : g < Y.heap.size := World.block_lt_of_cell? Y _ r0
 have hbxl := hm.lt
 have habl := hbx.lt
 have a0 : Y.cell? ⟨ab, 0, none⟩ = some (.bool ag) := hbx.cell 0
 have az : Y.frozen? ⟨ab, 0, none⟩ = false := hbx.frozen 0
 have hxi : ((x : Nat) : Int) < (n : Int) := by omega
 have hplace : ∀ k ∈ riseL T, placeP k = true := fun k hk => (mem_riseL.1 hk).1
 have HR1 := Lib.hid (rising_any sg _ Y.drew (hS.same rfl))
 have HPL := Lib.hid hplace
 have HSX := Lib.hid hSx
 have HM := Lib.hid hm
 have HB := Lib.hid hbx
 have hf29 : Fence.wide.fn 117 := trivial
 have hf50 : Fence.wide.fn 116 := trivial
 have hcc : Tryz.f83.body.bind (regOf 17) = some c := hc
 simp only [Tryz.f83, regOf, Option.bind_some, Nat.reduceEqDiff, ↓reduceIte, Option.none_or, Option.or_none, Option.some.injEq] at hcc
 subst ha
 subst hcc
 clear hc hplace hSx hm hbx hS
 by_cases hnew : cnt S < cnt Sx
 ·have dn : decide (cnt S < cnt Sx) = true := decide_eq_true hnew
  rw [dn, Bool.true_or]
  clear hnew
  have hmx : Tryz.prog.follows .mixedOrders = true := by kernel_rfl
  gi_region_with_o (first | (gi_at_call 117; refine (CallsIn.inRound l (callsIn_wide.2 HR1.out)).mono ?_; rintro e w5 ⟨v5, rfl, hb5', hs5⟩; obtain ⟨A5, c5, hv5, _, _⟩ := hs5.val; subst hv5; have hb5 := below_undrew hb5'; have o5 := (hb5.cell (p := ⟨ob, 0, none⟩) hob).trans o0; have r5 := (hb5.cell (p := ⟨g, x, none⟩) hg).trans r0; have bx5 := HB.out.below hb5 HB.out.lt; have a5 : w5.cell? ⟨ab, 0, none⟩ = some (.bool ag) := bx5.cell 0; have HA := Lib.hid (add_to bx _ HPL.out HSX.out _ w5 (HM.out.kept (grown_of_below (row := none) hb5) (by simp)) (hs5.imp (fun b hb => ⟨hb.2, by have h0 : Y.heap.size ≤ b := hb.1; omega⟩) (Keeps.refl _ _) (fun _ _ _ h => h))); have HB5 := Lib.hid hb5; have HX5 := Lib.hid bx5; clear hb5' hb5 bx5 hs5) | (gi_at_call 116; refine (CallsIn.inRound l (callsIn_wide.2 HA.out)).mono ?_; rintro e w6 ⟨rfl, hg6, hm6⟩; have bx6 := HX5.out.grown hg6 (fun e => by injection e with e; omega); have a6 : w6.cell? ⟨ab, 0, none⟩ = some (.bool ag) := bx6.cell 0; have az6 : w6.frozen? ⟨ab, 0, none⟩ = false := bx6.frozen 0; have HG6 := Lib.hid hg6; have HM6 := Lib.hid hm6; clear hg6 hm6 bx6))
  all_goals exact ⟨rfl, _, _, HB5.out, HG6.out, HM6.out, rfl⟩
 ·have dn : decide (cnt S < cnt Sx) = false := decide_eq_false hnew
  rw [dn, Bool.false_or]
  clear hnew
  have hmx : Tryz.prog.follows .mixedOrders = true := by kernel_rfl
  gi_region_with_o (first | (gi_at_call 117; refine (CallsIn.inRound l (callsIn_wide.2 HR1.out)).mono ?_; rintro e w5 ⟨v5, rfl, hb5', hs5⟩; obtain ⟨A5, c5, hv5, _, _⟩ := hs5.val; subst hv5; have hb5 := below_undrew hb5'; have o5 := (hb5.cell (p := ⟨ob, 0, none⟩) hob).trans o0; have r5 := (hb5.cell (p := ⟨g, x, none⟩) hg).trans r0; have bx5 := HB.out.below hb5 HB.out.lt; have a5 : w5.cell? ⟨ab, 0, none⟩ = some (.bool ag) := bx5.cell 0; have HA := Lib.hid (add_to bx _ HPL.out HSX.out _ w5 (HM.out.kept (grown_of_below (row := none) hb5) (by simp)) (hs5.imp (fun b hb => ⟨hb.2, by have h0 : Y.heap.size ≤ b := hb.1; omega⟩) (Keeps.refl _ _) (fun _ _ _ h => h))); have HB5 := Lib.hid hb5; have HX5 := Lib.hid bx5; clear hb5' hb5 bx5 hs5) | (gi_at_call 116; refine (CallsIn.inRound l (callsIn_wide.2 HA.out)).mono ?_; rintro e w6 ⟨rfl, hg6, hm6⟩; have bx6 := HX5.out.grown hg6 (fun e => by injection e with e; omega); have a6 : w6.cell? ⟨ab, 0, none⟩ = some (.bool ag) := bx6.cell 0; have az6 : w6.frozen? ⟨ab, 0, none⟩ = false := bx6.frozen 0; have HG6 := Lib.hid hg6; have HM6 := Lib.hid hm6; clear hg6 hm6 bx6))
  all_goals exact ⟨rfl, _, _, HB5.out, HG6.out, HM6.out, rfl⟩
end Go.Proofs.YtkpigkopjfkepaaGreatDoor
