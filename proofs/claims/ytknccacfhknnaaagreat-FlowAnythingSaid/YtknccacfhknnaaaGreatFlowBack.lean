/- What slices.Backward hands over, at rows of blocks and of instructions. Printed by wip/gen_back.py. -/
import Derived.Test.YtknccacfhknnaaaGreatFlowRise
import Derived.RangeFuncNested
import Derived.RangeFuncBound
import Derived.RangeFuncCalls
import Derived.RangeFuncLeaves
import Derived.RangeFuncBox
import Derived.Shelf.Abstract
import Derived.Shelf.RegionOpen
import Derived.WalkKit
import Derived.OwnWalkIn
import Derived.TacticsInMore
import Derived.LoopNIn
import Derived.LoopIn
namespace Go.Proofs.YtknccacfhknnaaaGreat
open Go.RowKit Go.Shelf
attribute [local go_sem] Oper.semAt_some

/-- the places from the last one down to k -/
def backs (n k : Nat) : List (Fin n) := ((List.finRange n).drop k).reverse
theorem backs_end (n : Nat) : backs n n = [] := by unfold backs; rw [List.drop_of_length_le (by simp)]; rfl
theorem backs_length (n k : Nat) : (backs n k).length = n - k := by simp [backs]
theorem backs_step {n k : Nat} (h : k < n) : backs n k = backs n (k + 1) ++ [⟨k, h⟩] := by
  unfold backs
  rw [List.drop_eq_getElem_cons (by simpa using h), List.reverse_cons]
  simp
theorem backs_all (n : Nat) (x : Fin n) : x ∈ backs n 0 := by simp [backs]

/-- element k of the row l, with its place, as the iterator hands them over; vs: what leads on -/
def encB (l : List LBlock) (vs : Nat → Value) (k : Fin l.length) : Array Value := #[.int .i64 (k.1 : Int), .agg #[vs k.1, .int .i64 l[k.1].term.kind, .int .i64 l[k.1].term.a, .int .i64 l[k.1].term.to, .int .i64 l[k.1].term.els]]
/-- the row l in memory that 'ok' lets -/
def RowB (W : World) (ok : Nat → Prop) (A : Option Addr) (l : List LBlock) (vs : Nat → Value) : Prop :=
  l = [] ∨ ∃ b off, A = some ⟨b, off, none⟩ ∧ ok b ∧ ∀ (i : Nat) (h : i < l.length), Cells W b (off + i * 5) [vs i, .int .i64 l[i].term.kind, .int .i64 l[i].term.a, .int .i64 l[i].term.to, .int .i64 l[i].term.els]
theorem RowB.keep {W W' : World} {ok : Nat → Prop} {A : Option Addr} {l : List LBlock} {vs : Nat → Value} (h : RowB W ok A l vs) (hk : Keeps ok W W') : RowB W' ok A l vs := by
  rcases h with h | ⟨b, off, hA, hb, hc⟩
  · exact .inl h
  · exact .inr ⟨b, off, hA, hb, fun i hi => (hc i hi).keep (hk b hb)⟩

set_option maxRecDepth 100000 in
set_option maxHeartbeats 2000000 in
theorem backB1_in (F : Fence) (n : Nat) (hf : F.fn 83) (hro : F.round = none) (hn : 1 ≤ n) (lp Bs : Nat) (ok : Nat → Prop) (l : List LBlock) (vs : Nat → Value) (A : Option Addr) (c : Nat) (hlen : l.length ≤ maxLen) (J Jx : List (Fin l.length) → World → Prop)
    (hY : ∀ pre x W, J pre W → pre.length < l.length → YieldAt F (n - 1) Tryz.prog lp (encB l vs x) W fun e W' =>
      (e = .returned (.bool true) ∧ J (pre ++ [x]) W' ∧ Keeps ok W W') ∨ (e = .returned (.bool false) ∧ Jx (pre ++ [x]) W'))
    (W : World) (hok : ok Bs) (hBs : W.cell? ⟨Bs, 0, none⟩ = some (.slice A l.length c)) (hR : RowB W ok A l vs) (h0 : J [] W) :
    CallsIn F n Tryz.prog 83 #[.func (.yield lp) #[] #[], .pointer (some ⟨Bs, 0, none⟩)] W fun e W' => (∃ v, e = .returned v) ∧
      ((∃ ys, ys = backs l.length 0 ∧ J ys W') ∨ (∃ pre, True ∧ Jx pre W')) := by
  unfold maxLen at hlen
  have HY := Lib.hid hY
  have HR := Lib.hid hR
  have hJ0 : J (backs l.length l.length) W := by rw [backs_end]; exact h0
  clear hY hR h0
  obtain ⟨N, hN⟩ : ∃ N, N = l.length := ⟨_, rfl⟩
  have HN := Lib.hid hN
  rw [← hN] at hBs hlen
  have hJ0' : J (backs l.length N) W := by rw [hN]; exact hJ0
  clear hJ0 hN
  refine callsIn_of_wp Tryz.func83 rfl hf ?_ hro
  simp only [Tryz.ntmps83, List.size_toArray, List.length_cons, List.length_nil, Nat.reduceAdd, Nat.reduceSub, Array.replicate_succ, Array.replicate_zero, List.push_toArray, List.append_toArray, List.nil_append, List.cons_append]
  gi_wp2
  gi_loopw [3] (fun i wr => ∃ k : Nat, k ≤ N ∧ i = .int .i64 ((k : Int) - 1) ∧ J (backs l.length k) wr ∧ Keeps ok W wr)
    (fun i _ => (RowKit.intOf i + 1).toNat)
  case atStart => exact ⟨N, Nat.le_refl _, rfl, hJ0', Keeps.refl _ _⟩
  case round =>
    obtain ⟨k, hk, hi, hJs, hke⟩ := hrel
    have hb0 : wr.cell? ⟨Bs, 0, none⟩ = some (.slice A N c) := (World.cell?_of_block (w := W) (w' := wr) (a := ⟨Bs, 0, none⟩) (hke Bs hok)).trans hBs
    cases k with
    | zero =>
      have hi2 := hi.trans (show Value.int .i64 (((0 : Nat) : Int) - 1) = .int .i64 (-1) from rfl)
      clear hi
      subst hi2
      gi_wp2
      refine bodyPost_end (results_none rfl _ _ _) rfl ?_
      exact ⟨⟨_, rfl⟩, .inl ⟨_, rfl, hJs⟩⟩
    | succ m =>
      have hi2 := hi.trans (show Value.int .i64 (((m + 1 : Nat) : Int) - 1) = .int .i64 (m : Int) by congr 1; omega)
      clear hi
      subst hi2
      have hm : m < l.length := by rw [← HN.out]; omega
      rcases (HR.out.keep hke) with hnil | ⟨b, off, hA, hb, hc⟩
      · subst hnil; simp at hm
      have hcw := hc m hm
      obtain ⟨x, hx⟩ : ∃ x, x = l[m] := ⟨_, rfl⟩
      obtain ⟨v, hv⟩ : ∃ v, v = vs m := ⟨_, rfl⟩
      rw [← hx, ← hv] at hcw
      subst hA
      have i0 : wr.cell? ⟨b, off + m * 5, none⟩ = some (v) := hcw.at_ (j := 0) rfl
      have i1 : wr.cell? ⟨b, off + m * 5 + 1, none⟩ = some (.int .i64 x.term.kind) := hcw.at_ (j := 1) rfl
      have i2 : wr.cell? ⟨b, off + m * 5 + 2, none⟩ = some (.int .i64 x.term.a) := hcw.at_ (j := 2) rfl
      have i3 : wr.cell? ⟨b, off + m * 5 + 3, none⟩ = some (.int .i64 x.term.to) := hcw.at_ (j := 3) rfl
      have i4 : wr.cell? ⟨b, off + m * 5 + 4, none⟩ = some (.int .i64 x.term.els) := hcw.at_ (j := 4) rfl
      have hy0 := HY.out _ ⟨m, hm⟩ wr hJs (by rw [backs_length]; omega)
      unfold encB at hy0
      dsimp only at hy0
      rw [← hx, ← hv] at hy0
      obtain ⟨fn, tmps, assign, body, hy, hRd⟩ := hy0
      have d0 : decide ((0 : Int) ≤ (m : Int)) = true := decide_eq_true (by omega)
      clear hcw hc hx hv
      gi_wp2
      refine hRd.mono ?_
      rintro e W3 (⟨rfl, hJ3, hk3⟩ | ⟨rfl, hJx3⟩)
      · gi_wp2
        go_roundw
        case rel => exact ⟨m, by omega, rfl, by rw [backs_step hm]; exact hJ3, hke.trans hk3⟩
        case measure => simp [RowKit.intOf]
      · gi_wp2
        refine bodyPost_ret (results_none rfl _ _ _) rfl ?_
        exact ⟨⟨_, rfl⟩, .inr ⟨_, trivial, hJx3⟩⟩

set_option maxHeartbeats 1000000 in
theorem backB_in (F : Fence) (n : Nat) (hf : F.fn 50) (hro : F.round = none) (A : Option Addr) (m c : Nat) (w : World) :
    CallsIn F n Tryz.prog 50 #[.slice A m c] w fun e w' => e = .returned (.func (.func 83) #[] #[.pointer (some ⟨w.heap.size, 0, none⟩)]) ∧ w' = w.alloc (.cells #[.slice A m c] 22) := by
  refine callsIn_of_wp Tryz.func50 rfl hf ?_ hro
  simp only [Tryz.ntmps50, List.size_toArray, List.length_cons, List.length_nil, Nat.reduceAdd, Nat.reduceSub, Array.replicate_succ, Array.replicate_zero, List.push_toArray, List.append_toArray, List.nil_append, List.cons_append]
  gi_wp2
  go_ret
  exact ⟨rfl, rfl⟩

/-- the iterator hands over the whole row, from its end on; the round keeps what lies in the blocks that 'ok' lets -/
theorem backB_stops (F : Fence) (n : Nat) (hf : F.fn 83) (hro : F.round = none) (hn : 1 ≤ n) (Bs : Nat) (ok : Nat → Prop) (l : List LBlock) (vs : Nat → Value) (A : Option Addr) (c : Nat) (hlen : l.length ≤ maxLen) (w : World) (hle : ∀ b, ok b → b < w.heap.size) (hok : ok Bs)
    (hBs : w.cell? ⟨Bs, 0, none⟩ = some (.slice A l.length c)) (hR : RowB w ok A l vs) :
    SeqStopsK F n Tryz.prog 83 #[.pointer (some ⟨Bs, 0, none⟩)] (encB l vs) (Keeps ok) (fun ys => ys = backs l.length 0) (fun _ => True) l.length w := fun lp J Jx W hW _ _ hY h0 => by
  have hk : Keeps ok w W := fun b hb => hW.block b (hle b hb)
  exact backB1_in F n hf hro hn lp Bs ok l vs A c hlen J Jx hY W hok ((World.cell?_of_block (w := w) (w' := W) (a := ⟨Bs, 0, none⟩) (hk Bs hok)).trans hBs) (hR.keep hk) h0

/-- element k of the row l, with its place, as the iterator hands them over; vs: what leads on -/
def encI (l : List LIns) (vs : Nat → Value) (k : Fin l.length) : Array Value := #[.int .i64 (k.1 : Int), .agg #[.int .i64 l[k.1].kind, .int .i64 l[k.1].d, .int .i64 l[k.1].a, .int .i64 l[k.1].b, .int .i64 l[k.1].op, .int .i64 l[k.1].n, .string l[k.1].name, vs k.1]]
/-- the row l in memory that 'ok' lets -/
def RowI (W : World) (ok : Nat → Prop) (A : Option Addr) (l : List LIns) (vs : Nat → Value) : Prop :=
  l = [] ∨ ∃ b off, A = some ⟨b, off, none⟩ ∧ ok b ∧ ∀ (i : Nat) (h : i < l.length), Cells W b (off + i * 8) [.int .i64 l[i].kind, .int .i64 l[i].d, .int .i64 l[i].a, .int .i64 l[i].b, .int .i64 l[i].op, .int .i64 l[i].n, .string l[i].name, vs i]
theorem RowI.keep {W W' : World} {ok : Nat → Prop} {A : Option Addr} {l : List LIns} {vs : Nat → Value} (h : RowI W ok A l vs) (hk : Keeps ok W W') : RowI W' ok A l vs := by
  rcases h with h | ⟨b, off, hA, hb, hc⟩
  · exact .inl h
  · exact .inr ⟨b, off, hA, hb, fun i hi => (hc i hi).keep (hk b hb)⟩

set_option maxRecDepth 100000 in
set_option maxHeartbeats 2000000 in
theorem backI1_in (F : Fence) (n : Nat) (hf : F.fn 85) (hro : F.round = none) (hn : 1 ≤ n) (lp Bs : Nat) (ok : Nat → Prop) (l : List LIns) (vs : Nat → Value) (A : Option Addr) (c : Nat) (hlen : l.length ≤ maxLen) (J Jx : List (Fin l.length) → World → Prop)
    (hY : ∀ pre x W, J pre W → pre.length < l.length → YieldAt F (n - 1) Tryz.prog lp (encI l vs x) W fun e W' =>
      (e = .returned (.bool true) ∧ J (pre ++ [x]) W' ∧ Keeps ok W W') ∨ (e = .returned (.bool false) ∧ Jx (pre ++ [x]) W'))
    (W : World) (hok : ok Bs) (hBs : W.cell? ⟨Bs, 0, none⟩ = some (.slice A l.length c)) (hR : RowI W ok A l vs) (h0 : J [] W) :
    CallsIn F n Tryz.prog 85 #[.func (.yield lp) #[] #[], .pointer (some ⟨Bs, 0, none⟩)] W fun e W' => (∃ v, e = .returned v) ∧
      ((∃ ys, ys = backs l.length 0 ∧ J ys W') ∨ (∃ pre, True ∧ Jx pre W')) := by
  unfold maxLen at hlen
  have HY := Lib.hid hY
  have HR := Lib.hid hR
  have hJ0 : J (backs l.length l.length) W := by rw [backs_end]; exact h0
  clear hY hR h0
  obtain ⟨N, hN⟩ : ∃ N, N = l.length := ⟨_, rfl⟩
  have HN := Lib.hid hN
  rw [← hN] at hBs hlen
  have hJ0' : J (backs l.length N) W := by rw [hN]; exact hJ0
  clear hJ0 hN
  refine callsIn_of_wp Tryz.func85 rfl hf ?_ hro
  simp only [Tryz.ntmps85, List.size_toArray, List.length_cons, List.length_nil, Nat.reduceAdd, Nat.reduceSub, Array.replicate_succ, Array.replicate_zero, List.push_toArray, List.append_toArray, List.nil_append, List.cons_append]
  gi_wp2
  gi_loopw [3] (fun i wr => ∃ k : Nat, k ≤ N ∧ i = .int .i64 ((k : Int) - 1) ∧ J (backs l.length k) wr ∧ Keeps ok W wr)
    (fun i _ => (RowKit.intOf i + 1).toNat)
  case atStart => exact ⟨N, Nat.le_refl _, rfl, hJ0', Keeps.refl _ _⟩
  case round =>
    obtain ⟨k, hk, hi, hJs, hke⟩ := hrel
    have hb0 : wr.cell? ⟨Bs, 0, none⟩ = some (.slice A N c) := (World.cell?_of_block (w := W) (w' := wr) (a := ⟨Bs, 0, none⟩) (hke Bs hok)).trans hBs
    cases k with
    | zero =>
      have hi2 := hi.trans (show Value.int .i64 (((0 : Nat) : Int) - 1) = .int .i64 (-1) from rfl)
      clear hi
      subst hi2
      gi_wp2
      refine bodyPost_end (results_none rfl _ _ _) rfl ?_
      exact ⟨⟨_, rfl⟩, .inl ⟨_, rfl, hJs⟩⟩
    | succ m =>
      have hi2 := hi.trans (show Value.int .i64 (((m + 1 : Nat) : Int) - 1) = .int .i64 (m : Int) by congr 1; omega)
      clear hi
      subst hi2
      have hm : m < l.length := by rw [← HN.out]; omega
      rcases (HR.out.keep hke) with hnil | ⟨b, off, hA, hb, hc⟩
      · subst hnil; simp at hm
      have hcw := hc m hm
      obtain ⟨x, hx⟩ : ∃ x, x = l[m] := ⟨_, rfl⟩
      obtain ⟨v, hv⟩ : ∃ v, v = vs m := ⟨_, rfl⟩
      rw [← hx, ← hv] at hcw
      subst hA
      have i0 : wr.cell? ⟨b, off + m * 8, none⟩ = some (.int .i64 x.kind) := hcw.at_ (j := 0) rfl
      have i1 : wr.cell? ⟨b, off + m * 8 + 1, none⟩ = some (.int .i64 x.d) := hcw.at_ (j := 1) rfl
      have i2 : wr.cell? ⟨b, off + m * 8 + 2, none⟩ = some (.int .i64 x.a) := hcw.at_ (j := 2) rfl
      have i3 : wr.cell? ⟨b, off + m * 8 + 3, none⟩ = some (.int .i64 x.b) := hcw.at_ (j := 3) rfl
      have i4 : wr.cell? ⟨b, off + m * 8 + 4, none⟩ = some (.int .i64 x.op) := hcw.at_ (j := 4) rfl
      have i5 : wr.cell? ⟨b, off + m * 8 + 5, none⟩ = some (.int .i64 x.n) := hcw.at_ (j := 5) rfl
      have i6 : wr.cell? ⟨b, off + m * 8 + 6, none⟩ = some (.string x.name) := hcw.at_ (j := 6) rfl
      have i7 : wr.cell? ⟨b, off + m * 8 + 7, none⟩ = some (v) := hcw.at_ (j := 7) rfl
      have hy0 := HY.out _ ⟨m, hm⟩ wr hJs (by rw [backs_length]; omega)
      unfold encI at hy0
      dsimp only at hy0
      rw [← hx, ← hv] at hy0
      obtain ⟨fn, tmps, assign, body, hy, hRd⟩ := hy0
      have d0 : decide ((0 : Int) ≤ (m : Int)) = true := decide_eq_true (by omega)
      clear hcw hc hx hv
      gi_wp2
      refine hRd.mono ?_
      rintro e W3 (⟨rfl, hJ3, hk3⟩ | ⟨rfl, hJx3⟩)
      · gi_wp2
        go_roundw
        case rel => exact ⟨m, by omega, rfl, by rw [backs_step hm]; exact hJ3, hke.trans hk3⟩
        case measure => simp [RowKit.intOf]
      · gi_wp2
        refine bodyPost_ret (results_none rfl _ _ _) rfl ?_
        exact ⟨⟨_, rfl⟩, .inr ⟨_, trivial, hJx3⟩⟩

set_option maxHeartbeats 1000000 in
theorem backI_in (F : Fence) (n : Nat) (hf : F.fn 52) (hro : F.round = none) (A : Option Addr) (m c : Nat) (w : World) :
    CallsIn F n Tryz.prog 52 #[.slice A m c] w fun e w' => e = .returned (.func (.func 85) #[] #[.pointer (some ⟨w.heap.size, 0, none⟩)]) ∧ w' = w.alloc (.cells #[.slice A m c] 42) := by
  refine callsIn_of_wp Tryz.func52 rfl hf ?_ hro
  simp only [Tryz.ntmps52, List.size_toArray, List.length_cons, List.length_nil, Nat.reduceAdd, Nat.reduceSub, Array.replicate_succ, Array.replicate_zero, List.push_toArray, List.append_toArray, List.nil_append, List.cons_append]
  gi_wp2
  go_ret
  exact ⟨rfl, rfl⟩

/-- the iterator hands over the whole row, from its end on; the round keeps what lies in the blocks that 'ok' lets -/
theorem backI_stops (F : Fence) (n : Nat) (hf : F.fn 85) (hro : F.round = none) (hn : 1 ≤ n) (Bs : Nat) (ok : Nat → Prop) (l : List LIns) (vs : Nat → Value) (A : Option Addr) (c : Nat) (hlen : l.length ≤ maxLen) (w : World) (hle : ∀ b, ok b → b < w.heap.size) (hok : ok Bs)
    (hBs : w.cell? ⟨Bs, 0, none⟩ = some (.slice A l.length c)) (hR : RowI w ok A l vs) :
    SeqStopsK F n Tryz.prog 85 #[.pointer (some ⟨Bs, 0, none⟩)] (encI l vs) (Keeps ok) (fun ys => ys = backs l.length 0) (fun _ => True) l.length w := fun lp J Jx W hW _ _ hY h0 => by
  have hk : Keeps ok w W := fun b hb => hW.block b (hle b hb)
  exact backI1_in F n hf hro hn lp Bs ok l vs A c hlen J Jx hY W hok ((World.cell?_of_block (w := w) (w' := W) (a := ⟨Bs, 0, none⟩) (hk Bs hok)).trans hBs) (hR.keep hk) h0
end Go.Proofs.YtknccacfhknnaaaGreat
