/- slices.Clone at numbers, arrays, instructions and blocks: a row of the call's own. Printed by wip/gen_clone.py. -/
import Derived.Test.YtkpigkopjfkepaaGreatDoorPrUMem
import Derived.Lib.IfaceEq
namespace Go.Proofs.YtkpigkopjfkepaaGreatDoor
open Go.RowKit
theorem wpList_append_any {P : Program} (w : World) {ops : Array Oper} {rest : List Oper} {o : Oper} {a : Act} {Q : Exit → Act → World → Prop} (hgd : o.guard = none) (s x : Operand) (t : TypeId)
  (ho : o.op = .call { callee := .builtin .append, args := #[s, x], argTypes := #[t, t] })
  (base : Nat) (e : TypeId) (i : TypeInfo) (z : Value) (size bytes : Nat) (ht : P.underlying t = some (.slice e)) (hi : P.info? e = some i) (hz : i.zero = some z)
  (hsize : i.size = size) (hby : i.bytes = bytes) (hzs : z.cells.size = size) (hsz : 0 < size)
  (v : Value) (n : Nat) (xs : List Value) (hs : a.eval s = v) (hown : w.ownsRow base e size v n xs)
  (A : Option Addr) (m c : Nat) (news : List Value) (hx : a.eval x = .slice A m c) (hl : news.length = m * size) (hnews : m = 0 ∨ ∃ ad, A = some ad ∧ ∀ j u, news[j]? = some u → w.cell? (ad.add j) = some u) (h1 : ∀ u ∈ news, u.oneCell' = true)
  (h63 : n + m ≤ maxLen) (hbytes : (n + m) * bytes ≤ 140737488355328) (hbase : base ≤ w.heap.size) (H : Nat) (hH : w.heap.size = H)
  (h : ∀ v' w', w'.ownsRow base e size v' (n + m) (xs ++ news) → w.grownBy w' v.ownBlock → (∀ g, v'.ownBlock = some g → (v.ownBlock = some g ∨ g = H) ∧ g < w'.heap.size) → wpList P ops Q rest (a.put o.dst v') w') :
  wpList P ops Q (o :: rest) a w := by
 refine wpList_plain hgd fun K hK => ?_
 have hw : Region.wanted o (yielded ops a.tmps) = true := by simp [Region.wanted, hgd]
 have h2 := step_append_any (ops := ops) (Q := Q) (K := K) (E := False) w hgd s x t ho base e i z size bytes ht hi hz hsize hby hzs hsz v n xs hs hown A m c news hx hl hnews h1 h63 hbytes hbase H hH (fun v' w' a1 a2 a3 => hK _ _ (h v' w' a1 a2 a3))
 rw [if_pos hw] at h2
 exact h2
theorem info_arr : (Tryz.prog.info? 63).map (fun i => (i.zero, i.size, i.bytes)) = some (some (.agg #[.string ⟨#[]⟩, .int .i64 0]), 2, 24) := by kernel_rfl
theorem arr_ones {cs : List Value} {x : ByteArray × Int} (h : RArr cs x) : ∀ u ∈ cs, u.oneCell' = true := by
 rw [h]
 intro u hu
 simp at hu
 rcases hu with rfl | rfl <;> rfl
theorem int_ones {cs : List Value} {x : Int} (h : RInt cs x) : ∀ u ∈ cs, u.oneCell' = true := by
 rw [h]
 intro u hu
 simp at hu
 rcases hu with rfl; rfl
theorem own_empty (w : World) (T : TypeId) (sz : Nat) : (w.alloc (.cells #[] T)).ownsRow w.heap.size T sz (.slice (some ⟨w.heap.size, 0, none⟩) 0 0) 0 [] :=
 own_made (cs := #[]) (n := 0) (Blk.new w T #[]) (Nat.le_refl _) (by unfold maxLen; omega) (by simp)
set_option maxRecDepth 100000 in
set_option maxHeartbeats 4000000 in
theorem clone_int {v : Value} {l : List Int} (hb : l.length * 8 ≤ 140737488355328) (w : World) {ok : Nat → Prop} (h : SlR w ok 1 RInt v l) (hok : ∀ b, ok b → b < w.heap.size) :
  Calls Tryz.prog 48 #[v] w fun e w' => ∃ (v' : Value) (css : List (List Value)), e = .returned v' ∧ Below w.heap.size w w' ∧ w'.ownsRow w.heap.size 3 1 v' l.length css.flatten ∧ css.length = l.length ∧ (∀ cs ∈ css, cs.length = 1) ∧ (∀ (i : Nat) (h1 : i < css.length) (h2 : i < l.length), RInt css[i] l[i]) ∧ (∀ g, v'.ownBlock = some g → g < w'.heap.size) := by
 obtain ⟨A, c, hv, hc1, hc2⟩ := h.val
 subst hv
 obtain ⟨css, q1, q2, q3, q4⟩ := h.rows_any
 cases A with
 | none =>
  have h0 : l.length = 0 := by
   rcases q4 with h0 | ⟨b, o, e, _⟩
   ·exact h0
   ·cases e
  have hl : l = [] := List.eq_nil_of_length_eq_zero h0
  subst hl
  clear q1 q2 q3 q4 h h0 hb
  have heq : ∀ W, (binOp .eql 38 (.slice none 0 c) (.slice none 0 0)).run Tryz.prog W = .ok (.bool true) W := fun W => Lib.run_eql_slice_nil W 38 3 none 0 c 0 0 Tryz.underlying38
  go_enter Tryz.func48, Tryz.ntmps48
  go_wp2
  go_ret
  exact ⟨_, [], rfl, Below.refl _ _, World.ownsRow_nil _ _ _ _, rfl, fun _ h => by simp at h, fun i h => by simp at h, fun g e => by cases e⟩
 | some ad =>
  have hones : ∀ u ∈ css.flatten, u.oneCell' = true := flatten_ones fun cs hc => by
   obtain ⟨j, hj, rfl⟩ := List.getElem_of_mem hc
   exact int_ones (q3 j hj (by omega))
  have hfl : css.flatten.length = l.length * 1 := by rw [flatten_len q2, q1]
  have hcell : ∀ X, Below w.heap.size w X → (l.length = 0 ∨ ∃ ad', (some ad : Option Addr) = some ad' ∧ ∀ j u, css.flatten[j]? = some u → X.cell? (ad'.add j) = some u) := fun X hX => q4.imp id fun ⟨b, o, e, hb, hc⟩ => ⟨_, e, (hc.keep (hX.block b (hok b hb))).news⟩
  obtain ⟨z0, hi0, hz0, hz1, hz2⟩ := info_parts info_int
  have HONES := Lib.hid hones
  have HCELL := Lib.hid hcell
  have hlm : l.length ≤ maxLen := h.len_le
  have key : ∀ n, l.length = n → Calls Tryz.prog 48 #[.slice (some ad) n c] w fun e w' => ∃ v' : Value, e = .returned v' ∧ Below w.heap.size w w' ∧ w'.ownsRow w.heap.size 3 1 v' n css.flatten ∧ (∀ g, v'.ownBlock = some g → g < w'.heap.size) := fun n hn => by
   have HFL := Lib.hid hfl
   have HLM := Lib.hid hlm
   have HBB := Lib.hid hb
   rw [hn] at HFL HLM HBB HCELL
   clear q1 q2 q3 q4 h hones hfl hcell hlm hb hn hc1 hc2
   have heq : ∀ W, (binOp .eql 38 (.slice (some ad) n c) (.slice none 0 0)).run Tryz.prog W = .ok (.bool false) W := fun W => Lib.run_eql_slice_nil W 38 3 (some ad) n c 0 0 Tryz.underlying38
   go_enter Tryz.func48, Tryz.ntmps48
   go_wp2_with (at_builtin; refine wpList_append_any _ rfl _ _ 38 rfl w.heap.size 3 z0 _ 1 8 Tryz.underlying38 hi0 hz0 hz1 hz2 rfl (by decide) (.slice (some ⟨w.heap.size, 0, none⟩) 0 0) 0 [] rfl (own_empty w _ _) (some ad) n c css.flatten rfl HFL.out (HCELL.out _ (below1 _ _)) HONES.out (by rw [Nat.zero_add]; exact HLM.out) (by rw [Nat.zero_add]; exact HBB.out) (by simp) _ rfl ?_; intro v' w1 hown1 hgrow1 hat1)
   go_ret
   rw [Nat.zero_add, List.nil_append] at hown1
   refine ⟨_, rfl, (below1 w _).grown hgrow1 (by simp) (fun k e => ?_), hown1, fun g e => (hat1 g e).2⟩
   have e' : w.heap.size = k := (by simpa [Value.ownBlock] using e)
   omega
  exact (key _ rfl).mono fun e w' ⟨v', e1, h1, h2, h3⟩ => ⟨v', css, e1, h1, h2, q1, q2, q3, h3⟩
set_option maxRecDepth 100000 in
set_option maxHeartbeats 4000000 in
theorem clone_arr {v : Value} {l : List (ByteArray × Int)} (hb : l.length * 24 ≤ 140737488355328) (w : World) {ok : Nat → Prop} (h : SlR w ok 2 RArr v l) (hok : ∀ b, ok b → b < w.heap.size) :
  Calls Tryz.prog 22 #[v] w fun e w' => ∃ (v' : Value) (css : List (List Value)), e = .returned v' ∧ Below w.heap.size w w' ∧ w'.ownsRow w.heap.size 63 2 v' l.length css.flatten ∧ css.length = l.length ∧ (∀ cs ∈ css, cs.length = 2) ∧ (∀ (i : Nat) (h1 : i < css.length) (h2 : i < l.length), RArr css[i] l[i]) ∧ (∀ g, v'.ownBlock = some g → g < w'.heap.size) := by
 obtain ⟨A, c, hv, hc1, hc2⟩ := h.val
 subst hv
 obtain ⟨css, q1, q2, q3, q4⟩ := h.rows_any
 cases A with
 | none =>
  have h0 : l.length = 0 := by
   rcases q4 with h0 | ⟨b, o, e, _⟩
   ·exact h0
   ·cases e
  have hl : l = [] := List.eq_nil_of_length_eq_zero h0
  subst hl
  clear q1 q2 q3 q4 h h0 hb
  have heq : ∀ W, (binOp .eql 24 (.slice none 0 c) (.slice none 0 0)).run Tryz.prog W = .ok (.bool true) W := fun W => Lib.run_eql_slice_nil W 24 63 none 0 c 0 0 Tryz.underlying24
  go_enter Tryz.func22, Tryz.ntmps22
  go_wp2
  go_ret
  exact ⟨_, [], rfl, Below.refl _ _, World.ownsRow_nil _ _ _ _, rfl, fun _ h => by simp at h, fun i h => by simp at h, fun g e => by cases e⟩
 | some ad =>
  have hones : ∀ u ∈ css.flatten, u.oneCell' = true := flatten_ones fun cs hc => by
   obtain ⟨j, hj, rfl⟩ := List.getElem_of_mem hc
   exact arr_ones (q3 j hj (by omega))
  have hfl : css.flatten.length = l.length * 2 := by rw [flatten_len q2, q1]
  have hcell : ∀ X, Below w.heap.size w X → (l.length = 0 ∨ ∃ ad', (some ad : Option Addr) = some ad' ∧ ∀ j u, css.flatten[j]? = some u → X.cell? (ad'.add j) = some u) := fun X hX => q4.imp id fun ⟨b, o, e, hb, hc⟩ => ⟨_, e, (hc.keep (hX.block b (hok b hb))).news⟩
  obtain ⟨z0, hi0, hz0, hz1, hz2⟩ := info_parts info_arr
  have HONES := Lib.hid hones
  have HCELL := Lib.hid hcell
  have hlm : l.length ≤ maxLen := h.len_le
  have key : ∀ n, l.length = n → Calls Tryz.prog 22 #[.slice (some ad) n c] w fun e w' => ∃ v' : Value, e = .returned v' ∧ Below w.heap.size w w' ∧ w'.ownsRow w.heap.size 63 2 v' n css.flatten ∧ (∀ g, v'.ownBlock = some g → g < w'.heap.size) := fun n hn => by
   have HFL := Lib.hid hfl
   have HLM := Lib.hid hlm
   have HBB := Lib.hid hb
   rw [hn] at HFL HLM HBB HCELL
   clear q1 q2 q3 q4 h hones hfl hcell hlm hb hn hc1 hc2
   have heq : ∀ W, (binOp .eql 24 (.slice (some ad) n c) (.slice none 0 0)).run Tryz.prog W = .ok (.bool false) W := fun W => Lib.run_eql_slice_nil W 24 63 (some ad) n c 0 0 Tryz.underlying24
   go_enter Tryz.func22, Tryz.ntmps22
   go_wp2_with (at_builtin; refine wpList_append_any _ rfl _ _ 24 rfl w.heap.size 63 z0 _ 2 24 Tryz.underlying24 hi0 hz0 hz1 hz2 rfl (by decide) (.slice (some ⟨w.heap.size, 0, none⟩) 0 0) 0 [] rfl (own_empty w _ _) (some ad) n c css.flatten rfl HFL.out (HCELL.out _ (below1 _ _)) HONES.out (by rw [Nat.zero_add]; exact HLM.out) (by rw [Nat.zero_add]; exact HBB.out) (by simp) _ rfl ?_; intro v' w1 hown1 hgrow1 hat1)
   go_ret
   rw [Nat.zero_add, List.nil_append] at hown1
   refine ⟨_, rfl, (below1 w _).grown hgrow1 (by simp) (fun k e => ?_), hown1, fun g e => (hat1 g e).2⟩
   have e' : w.heap.size = k := (by simpa [Value.ownBlock] using e)
   omega
  exact (key _ rfl).mono fun e w' ⟨v', e1, h1, h2, h3⟩ => ⟨v', css, e1, h1, h2, q1, q2, q3, h3⟩
set_option maxRecDepth 100000 in
set_option maxHeartbeats 4000000 in
theorem clone_ins {w0 : World} {ok0 : Nat → Prop} {v : Value} {l : List LIns} (hb : l.length * 88 ≤ 140737488355328) (w : World) {ok : Nat → Prop} (h : SlR w ok 8 (RIns w0 ok0) v l) (hok : ∀ b, ok b → b < w.heap.size) :
  Calls Tryz.prog 47 #[v] w fun e w' => ∃ (v' : Value) (css : List (List Value)), e = .returned v' ∧ Below w.heap.size w w' ∧ w'.ownsRow w.heap.size 44 8 v' l.length css.flatten ∧ css.length = l.length ∧ (∀ cs ∈ css, cs.length = 8) ∧ (∀ (i : Nat) (h1 : i < css.length) (h2 : i < l.length), (RIns w0 ok0) css[i] l[i]) ∧ (∀ g, v'.ownBlock = some g → g < w'.heap.size) := by
 obtain ⟨A, c, hv, hc1, hc2⟩ := h.val
 subst hv
 obtain ⟨css, q1, q2, q3, q4⟩ := h.rows_any
 cases A with
 | none =>
  have h0 : l.length = 0 := by
   rcases q4 with h0 | ⟨b, o, e, _⟩
   ·exact h0
   ·cases e
  have hl : l = [] := List.eq_nil_of_length_eq_zero h0
  subst hl
  clear q1 q2 q3 q4 h h0 hb
  have heq : ∀ W, (binOp .eql 42 (.slice none 0 c) (.slice none 0 0)).run Tryz.prog W = .ok (.bool true) W := fun W => Lib.run_eql_slice_nil W 42 44 none 0 c 0 0 Tryz.underlying42
  go_enter Tryz.func47, Tryz.ntmps47
  go_wp2
  go_ret
  exact ⟨_, [], rfl, Below.refl _ _, World.ownsRow_nil _ _ _ _, rfl, fun _ h => by simp at h, fun i h => by simp at h, fun g e => by cases e⟩
 | some ad =>
  have hones : ∀ u ∈ css.flatten, u.oneCell' = true := flatten_ones fun cs hc => by
   obtain ⟨j, hj, rfl⟩ := List.getElem_of_mem hc
   exact ins_ones (q3 j hj (by omega))
  have hfl : css.flatten.length = l.length * 8 := by rw [flatten_len q2, q1]
  have hcell : ∀ X, Below w.heap.size w X → (l.length = 0 ∨ ∃ ad', (some ad : Option Addr) = some ad' ∧ ∀ j u, css.flatten[j]? = some u → X.cell? (ad'.add j) = some u) := fun X hX => q4.imp id fun ⟨b, o, e, hb, hc⟩ => ⟨_, e, (hc.keep (hX.block b (hok b hb))).news⟩
  obtain ⟨z0, hi0, hz0, hz1, hz2⟩ := info_parts info_ins
  have HONES := Lib.hid hones
  have HCELL := Lib.hid hcell
  have hlm : l.length ≤ maxLen := h.len_le
  have key : ∀ n, l.length = n → Calls Tryz.prog 47 #[.slice (some ad) n c] w fun e w' => ∃ v' : Value, e = .returned v' ∧ Below w.heap.size w w' ∧ w'.ownsRow w.heap.size 44 8 v' n css.flatten ∧ (∀ g, v'.ownBlock = some g → g < w'.heap.size) := fun n hn => by
   have HFL := Lib.hid hfl
   have HLM := Lib.hid hlm
   have HBB := Lib.hid hb
   rw [hn] at HFL HLM HBB HCELL
   clear q1 q2 q3 q4 h hones hfl hcell hlm hb hn hc1 hc2
   have heq : ∀ W, (binOp .eql 42 (.slice (some ad) n c) (.slice none 0 0)).run Tryz.prog W = .ok (.bool false) W := fun W => Lib.run_eql_slice_nil W 42 44 (some ad) n c 0 0 Tryz.underlying42
   go_enter Tryz.func47, Tryz.ntmps47
   go_wp2_with (at_builtin; refine wpList_append_any _ rfl _ _ 42 rfl w.heap.size 44 z0 _ 8 88 Tryz.underlying42 hi0 hz0 hz1 hz2 rfl (by decide) (.slice (some ⟨w.heap.size, 0, none⟩) 0 0) 0 [] rfl (own_empty w _ _) (some ad) n c css.flatten rfl HFL.out (HCELL.out _ (below1 _ _)) HONES.out (by rw [Nat.zero_add]; exact HLM.out) (by rw [Nat.zero_add]; exact HBB.out) (by simp) _ rfl ?_; intro v' w1 hown1 hgrow1 hat1)
   go_ret
   rw [Nat.zero_add, List.nil_append] at hown1
   refine ⟨_, rfl, (below1 w _).grown hgrow1 (by simp) (fun k e => ?_), hown1, fun g e => (hat1 g e).2⟩
   have e' : w.heap.size = k := (by simpa [Value.ownBlock] using e)
   omega
  exact (key _ rfl).mono fun e w' ⟨v', e1, h1, h2, h3⟩ => ⟨v', css, e1, h1, h2, q1, q2, q3, h3⟩
set_option maxRecDepth 100000 in
set_option maxHeartbeats 4000000 in
theorem clone_block {w0 : World} {ok0 : Nat → Prop} {v : Value} {l : List LBlock} (hb : l.length * 56 ≤ 140737488355328) (w : World) {ok : Nat → Prop} (h : SlR w ok 5 (RBlock w0 ok0) v l) (hok : ∀ b, ok b → b < w.heap.size) :
  Calls Tryz.prog 46 #[v] w fun e w' => ∃ (v' : Value) (css : List (List Value)), e = .returned v' ∧ Below w.heap.size w w' ∧ w'.ownsRow w.heap.size 48 5 v' l.length css.flatten ∧ css.length = l.length ∧ (∀ cs ∈ css, cs.length = 5) ∧ (∀ (i : Nat) (h1 : i < css.length) (h2 : i < l.length), (RBlock w0 ok0) css[i] l[i]) ∧ (∀ g, v'.ownBlock = some g → g < w'.heap.size) := by
 obtain ⟨A, c, hv, hc1, hc2⟩ := h.val
 subst hv
 obtain ⟨css, q1, q2, q3, q4⟩ := h.rows_any
 cases A with
 | none =>
  have h0 : l.length = 0 := by
   rcases q4 with h0 | ⟨b, o, e, _⟩
   ·exact h0
   ·cases e
  have hl : l = [] := List.eq_nil_of_length_eq_zero h0
  subst hl
  clear q1 q2 q3 q4 h h0 hb
  have heq : ∀ W, (binOp .eql 22 (.slice none 0 c) (.slice none 0 0)).run Tryz.prog W = .ok (.bool true) W := fun W => Lib.run_eql_slice_nil W 22 48 none 0 c 0 0 Tryz.underlying22
  go_enter Tryz.func46, Tryz.ntmps46
  go_wp2
  go_ret
  exact ⟨_, [], rfl, Below.refl _ _, World.ownsRow_nil _ _ _ _, rfl, fun _ h => by simp at h, fun i h => by simp at h, fun g e => by cases e⟩
 | some ad =>
  have hones : ∀ u ∈ css.flatten, u.oneCell' = true := flatten_ones fun cs hc => by
   obtain ⟨j, hj, rfl⟩ := List.getElem_of_mem hc
   exact block_ones (q3 j hj (by omega))
  have hfl : css.flatten.length = l.length * 5 := by rw [flatten_len q2, q1]
  have hcell : ∀ X, Below w.heap.size w X → (l.length = 0 ∨ ∃ ad', (some ad : Option Addr) = some ad' ∧ ∀ j u, css.flatten[j]? = some u → X.cell? (ad'.add j) = some u) := fun X hX => q4.imp id fun ⟨b, o, e, hb, hc⟩ => ⟨_, e, (hc.keep (hX.block b (hok b hb))).news⟩
  obtain ⟨z0, hi0, hz0, hz1, hz2⟩ := info_parts info_block
  have HONES := Lib.hid hones
  have HCELL := Lib.hid hcell
  have hlm : l.length ≤ maxLen := h.len_le
  have key : ∀ n, l.length = n → Calls Tryz.prog 46 #[.slice (some ad) n c] w fun e w' => ∃ v' : Value, e = .returned v' ∧ Below w.heap.size w w' ∧ w'.ownsRow w.heap.size 48 5 v' n css.flatten ∧ (∀ g, v'.ownBlock = some g → g < w'.heap.size) := fun n hn => by
   have HFL := Lib.hid hfl
   have HLM := Lib.hid hlm
   have HBB := Lib.hid hb
   rw [hn] at HFL HLM HBB HCELL
   clear q1 q2 q3 q4 h hones hfl hcell hlm hb hn hc1 hc2
   have heq : ∀ W, (binOp .eql 22 (.slice (some ad) n c) (.slice none 0 0)).run Tryz.prog W = .ok (.bool false) W := fun W => Lib.run_eql_slice_nil W 22 48 (some ad) n c 0 0 Tryz.underlying22
   go_enter Tryz.func46, Tryz.ntmps46
   go_wp2_with (at_builtin; refine wpList_append_any _ rfl _ _ 22 rfl w.heap.size 48 z0 _ 5 56 Tryz.underlying22 hi0 hz0 hz1 hz2 rfl (by decide) (.slice (some ⟨w.heap.size, 0, none⟩) 0 0) 0 [] rfl (own_empty w _ _) (some ad) n c css.flatten rfl HFL.out (HCELL.out _ (below1 _ _)) HONES.out (by rw [Nat.zero_add]; exact HLM.out) (by rw [Nat.zero_add]; exact HBB.out) (by simp) _ rfl ?_; intro v' w1 hown1 hgrow1 hat1)
   go_ret
   rw [Nat.zero_add, List.nil_append] at hown1
   refine ⟨_, rfl, (below1 w _).grown hgrow1 (by simp) (fun k e => ?_), hown1, fun g e => (hat1 g e).2⟩
   have e' : w.heap.size = k := (by simpa [Value.ownBlock] using e)
   omega
  exact (key _ rfl).mono fun e w' ⟨v', e1, h1, h2, h3⟩ => ⟨v', css, e1, h1, h2, q1, q2, q3, h3⟩
end Go.Proofs.YtkpigkopjfkepaaGreatDoor
