/- Units in memory: rows that are copied, put into, made anew. An append onto a row of the call's own that may be empty. A unit that lies in memory: what Fit, Check and Same make of it, in one form. What lies in the rows of a unit in memory, cell by cell. Printed by wip/gen_uin.py. -/
import Derived.Test.YtkpigkopjfkepaaGreatDoorPrFit
import Derived.Test.YtkpigkopjfkepaaGreatDoorPrSameA
import Derived.Test.YtkpigkopjfkepaaGreatDoorPrFlowSm
import Derived.Deep.Upon
import Derived.Lib.SlFresh
import Derived.Deep.AppendLies
import Derived.Deep.AppendSrc
import Derived.Test.YtkpigkopjfkepaaGreatDoorPrIrCheck
import Derived.Test.YtkpigkopjfkepaaGreatDoorPrIrFit
import Derived.Laws.ResultCell
namespace Go.Proofs.YtkpigkopjfkepaaGreatDoor
open Go.RowKit
theorem cells_flatten {w : World} {b sz : Nat} : ∀ (css : List (List Value)) (off : Nat), (∀ cs ∈ css, cs.length = sz) → (∀ (i : Nat) (h : i < css.length), Cells w b (off + i * sz) css[i]) → Cells w b off css.flatten
 | [], off, _, _ => fun j hj => by simp at hj
 | c :: r, off, hall, h => by
  have hc : c.length = sz := hall c (by simp)
  have ih := cells_flatten r (off + sz) (fun cs hcs => hall cs (by simp [hcs])) (fun i hi => by
   have := h (i + 1) (by simpa using hi)
   rw [show off + sz + i * sz = off + (i + 1) * sz by rw [Nat.succ_mul]; omega]
   exact this)
  have h0 := h 0 (by simp)
  rw [Nat.zero_mul, Nat.add_zero] at h0
  intro j hj
  rw [List.flatten_cons] at hj
  by_cases hjc : j < c.length
  ·have := h0 j hjc
   simp only [List.flatten_cons]
   rw [List.getElem_append_left hjc]
   exact this
  ·have hj2 : j - c.length < r.flatten.length := by rw [List.length_append] at hj; omega
   have := ih (j - c.length) hj2
   simp only [List.flatten_cons]
   rw [List.getElem_append_right (by omega)]
   rw [show off + sz + (j - c.length) = off + j by omega] at this
   exact this
theorem SlR.rows {α : Type} {w : World} {ok : Nat → Prop} {sz b off n c : Nat} {R : List Value → α → Prop} {l : List α} (h : SlR w ok sz R (.slice (some ⟨b, off, none⟩) n c) l) (hl : 0 < l.length) :
  ∃ css : List (List Value), css.length = l.length ∧ (∀ cs ∈ css, cs.length = sz) ∧ (∀ (i : Nat) (h1 : i < css.length) (h2 : i < l.length), R css[i] l[i]) ∧ Cells w b off css.flatten ∧ ok b := by
 obtain ⟨b', off', c', hv, _, _, hb, hel⟩ := h.form hl
 obtain ⟨rfl, rfl⟩ : b = b' ∧ off = off' := by injection hv with h1 _ _; injection h1 with h1; injection h1 with h1 h2; exact ⟨h1, h2⟩
 obtain ⟨css, hlen, hcs⟩ := list_of (n := l.length) (Q := fun i cs => cs.length = sz ∧ (∀ h : i < l.length, R cs l[i]) ∧ Cells w b (off + i * sz) cs) (fun i hi => by
  obtain ⟨cs, h1, h2, h3⟩ := hel i hi
  exact ⟨cs, h1, fun _ => h2, h3⟩)
 have hall : ∀ cs ∈ css, cs.length = sz := fun cs hc => by
  obtain ⟨i, hi, rfl⟩ := List.getElem_of_mem hc
  exact (hcs i hi).1
 exact ⟨css, hlen, hall, fun i h1 h2 => (hcs i h1).2.1 h2, cells_flatten css off hall (fun i hi => (hcs i hi).2.2), hb⟩
theorem Cells.news {w : World} {b off : Nat} {xs : List Value} (h : Cells w b off xs) : ∀ j u, xs[j]? = some u → w.cell? ((⟨b, off, none⟩ : Addr).add j) = some u := fun j u hu => by
 rw [Addr.add_lit]; exact h.at_ hu
theorem block_ones {w : World} {ok : Nat → Prop} {cs : List Value} {x : LBlock} (h : RBlock w ok cs x) : ∀ u ∈ cs, u.oneCell' = true := by
 obtain ⟨vi, rfl, hs⟩ := h
 obtain ⟨A, c, rfl, _, _⟩ := hs.val
 intro u hu
 simp [termCells] at hu
 rcases hu with rfl | rfl | rfl | rfl | rfl <;> rfl
theorem ins_ones {w : World} {ok : Nat → Prop} {cs : List Value} {x : LIns} (h : RIns w ok cs x) : ∀ u ∈ cs, u.oneCell' = true := by
 obtain ⟨va, rfl, hs⟩ := h
 obtain ⟨A, c, rfl, _, _⟩ := hs.val
 intro u hu
 simp [insCells] at hu
 rcases hu with rfl | rfl | rfl | rfl | rfl | rfl | rfl | rfl <;> rfl
theorem flatten_ones {css : List (List Value)} (h : ∀ cs ∈ css, ∀ u ∈ cs, u.oneCell' = true) : ∀ u ∈ css.flatten, u.oneCell' = true := fun u hu => by
 obtain ⟨cs, hc, hu⟩ := List.mem_flatten.1 hu
 exact h cs hc u hu
theorem flatten_len {css : List (List Value)} {sz : Nat} (h : ∀ cs ∈ css, cs.length = sz) : css.flatten.length = css.length * sz := by
 induction css with
 | nil => simp
 | cons c r ih =>
  rw [List.flatten_cons, List.length_append, h c (by simp), ih fun cs hcs => h cs (by simp [hcs]), List.length_cons, Nat.succ_mul]
  omega
theorem own_made {w : World} {base g n sz : Nat} {T : TypeId} {cs : Array Value} (h : Blk w g T cs) (hb : base ≤ g) (hn : n ≤ maxLen) (hs : cs.size = n * sz) : w.ownsRow base T sz (.slice (some ⟨g, 0, none⟩) n n) n cs.toList :=
 ⟨by simpa using hs, .inr ⟨g, n, cs, rfl, hb, h, Nat.le_refl _, hn, hs, by rw [← hs]; exact List.take_length⟩⟩
section
variable {P : Program}
theorem step_append_row {ops : Array Oper} {o : Oper} {a : Act} {K : Act → World → Prop} {Q : Exit → Act → World → Prop} {E : Prop} (w : World) (hgd : o.guard = none) (s x : Operand) (t : TypeId)
  (ho : o.op = .call { callee := .builtin .append, args := #[s, x], argTypes := #[t, t] })
  (base : Nat) (e : TypeId) (i : TypeInfo) (z : Value) (size bytes : Nat) (ht : P.underlying t = some (.slice e)) (hi : P.info? e = some i) (hz : i.zero = some z)
  (hsize : i.size = size) (hby : i.bytes = bytes) (hzs : z.cells.size = size) (hsz : 0 < size)
  (v : Value) (n : Nat) (xs : List Value) (hs : a.eval s = v) (hown : w.ownsRow base e size v n xs) (hn : 0 < n)
  (A : Option Addr) (m c : Nat) (news : List Value) (hx : a.eval x = .slice A m c) (hl : news.length = m * size) (hnews : m = 0 ∨ ∃ ad, A = some ad ∧ ∀ j u, news[j]? = some u → w.cell? (ad.add j) = some u) (h1 : ∀ u ∈ news, u.oneCell' = true)
  (h63 : n + m ≤ maxLen) (hbytes : (n + m) * bytes ≤ 140737488355328) (hbase : base ≤ w.heap.size) (H : Nat) (hH : w.heap.size = H)
  (h : ∀ g cap w', w'.ownsRow base e size (.slice (some ⟨g, 0, none⟩) (n + m) cap) (n + m) (xs ++ news) → w.grownBy w' v.ownBlock → (v.ownBlock = some g ∨ g = H) → g < w'.heap.size → K (a.put o.dst (.slice (some ⟨g, 0, none⟩) (n + m) cap)) w') :
  if Region.wanted o (yielded ops a.tmps) = true then Oper.wp P o a w K Q else E := by
 have hw : Region.wanted o (yielded ops a.tmps) = true := by simp [Region.wanted, hgd]
 rw [if_pos hw]
 by_cases h0 : m = 0
 ·subst h0
  have hnil : news = [] := List.eq_nil_of_length_eq_zero (by rw [hl]; simp)
  subst hnil
  obtain ⟨g, cap, cur, hv, hb, hg, hcap, hmax, hcs, htake⟩ : ∃ g cap cur, v = .slice (some ⟨g, 0, none⟩) n cap ∧ base ≤ g ∧ w.heap[g]? = some (.cells cur e (0, 0)) ∧ n ≤ cap ∧ cap ≤ maxLen ∧ cur.size = cap * size ∧ cur.toList.take (n * size) = xs := by
   rcases hown.2 with ⟨_, h0⟩ | h0
   ·omega
   ·exact h0
  subst hv
  have hgl : g < w.heap.size := (Array.getElem?_eq_some_iff.1 hg).1
  refine Go.Lib.wp_append_run_sl w s x t ho _ _ hs hx (run_append_nothing (P := P) w t t o.type e i ht hi (some ⟨g, 0, none⟩) n cap hcap (.slice A 0 c) ?_) ?_
  ·cases A with
   | none => exact Src.ofNil (size := i.size) w ht c
   | some ad => exact Src.ofSlice (size := i.size) w ht ad 0 c [] (by simp) (by simp) (by simp)
  ·exact h g cap w (by simpa using hown) ⟨rfl, rfl, rfl, Nat.le_refl _, fun _ _ _ => rfl⟩ (.inl rfl) hgl
 ·obtain ⟨ad, rfl, hnw⟩ : ∃ ad, A = some ad ∧ ∀ j u, news[j]? = some u → w.cell? (ad.add j) = some u := by
   rcases hnews with h2 | h2
   ·exact absurd h2 h0
   ·exact h2
  exact wp_append_lies w s x t ho base e i z size bytes ht hi hz hsize hby hzs hsz v n xs hs hown ad m c news hx hl hnw h1 (by omega) h63 hbytes hbase H hH h
end
end Go.Proofs.YtkpigkopjfkepaaGreatDoor
namespace Go.Proofs.YtkpigkopjfkepaaGreatDoor
open Go.RowKit
theorem SlR.rows_any {α : Type} {w : World} {ok : Nat → Prop} {sz n c : Nat} {A : Option Addr} {R : List Value → α → Prop} {l : List α} (h : SlR w ok sz R (.slice A n c) l) :
  ∃ css : List (List Value), css.length = l.length ∧ (∀ cs ∈ css, cs.length = sz) ∧ (∀ (i : Nat) (h1 : i < css.length) (h2 : i < l.length), R css[i] l[i]) ∧ (l.length = 0 ∨ ∃ b o, A = some ⟨b, o, none⟩ ∧ ok b ∧ Cells w b o css.flatten) := by
 by_cases h0 : 0 < l.length
 ·obtain ⟨b, o, c', hv, _, _, _, _⟩ := h.form h0
  have hA : A = some ⟨b, o, none⟩ := by injection hv
  subst hA
  obtain ⟨css, q1, q2, q3, q4, q5⟩ := h.rows h0
  exact ⟨css, q1, q2, q3, .inr ⟨b, o, rfl, q5, q4⟩⟩
 ·have e : l = [] := List.eq_nil_of_length_eq_zero (by omega)
  subst e
  exact ⟨[], rfl, fun _ h => by simp at h, fun i h => by simp at h, .inl rfl⟩
theorem step_append_any {P : Program} {ops : Array Oper} {o : Oper} {a : Act} {K : Act → World → Prop} {Q : Exit → Act → World → Prop} {E : Prop} (w : World) (hgd : o.guard = none) (s x : Operand) (t : TypeId)
  (ho : o.op = .call { callee := .builtin .append, args := #[s, x], argTypes := #[t, t] })
  (base : Nat) (e : TypeId) (i : TypeInfo) (z : Value) (size bytes : Nat) (ht : P.underlying t = some (.slice e)) (hi : P.info? e = some i) (hz : i.zero = some z)
  (hsize : i.size = size) (hby : i.bytes = bytes) (hzs : z.cells.size = size) (hsz : 0 < size)
  (v : Value) (n : Nat) (xs : List Value) (hs : a.eval s = v) (hown : w.ownsRow base e size v n xs)
  (A : Option Addr) (m c : Nat) (news : List Value) (hx : a.eval x = .slice A m c) (hl : news.length = m * size) (hnews : m = 0 ∨ ∃ ad, A = some ad ∧ ∀ j u, news[j]? = some u → w.cell? (ad.add j) = some u) (h1 : ∀ u ∈ news, u.oneCell' = true)
  (h63 : n + m ≤ maxLen) (hbytes : (n + m) * bytes ≤ 140737488355328) (hbase : base ≤ w.heap.size) (H : Nat) (hH : w.heap.size = H)
  (h : ∀ v' w', w'.ownsRow base e size v' (n + m) (xs ++ news) → w.grownBy w' v.ownBlock → (∀ g, v'.ownBlock = some g → (v.ownBlock = some g ∨ g = H) ∧ g < w'.heap.size) → K (a.put o.dst v') w') :
  if Region.wanted o (yielded ops a.tmps) = true then Oper.wp P o a w K Q else E := by
 by_cases hn : 0 < n
 ·refine step_append_row w hgd s x t ho base e i z size bytes ht hi hz hsize hby hzs hsz v n xs hs hown hn A m c news hx hl hnews h1 h63 hbytes hbase H hH ?_
  intro g cap w' a1 a2 a3 a4
  exact h _ _ a1 a2 (fun g' e => by
   have e' : g = g' := (by simpa [Value.ownBlock] using e)
   subst e'
   exact ⟨a3, a4⟩)
 ·have hw : Region.wanted o (yielded ops a.tmps) = true := by simp [Region.wanted, hgd]
  rw [if_pos hw]
  have hn0 : n = 0 := by omega
  subst hn0
  by_cases h0 : m = 0
  ·subst h0
   have hnil : news = [] := List.eq_nil_of_length_eq_zero (by rw [hl]; simp)
   subst hnil
   have hxs : xs = [] := List.eq_nil_of_length_eq_zero (by have := hown.1; simpa using this)
   subst hxs
   rcases hown.2 with ⟨hv, _⟩ | ⟨g, cap, cur, hv, hb, hg, hcap, hmax, hcs, htake⟩
   ·subst hv
    refine Go.Lib.wp_append_run_sl w s x t ho _ _ hs hx (run_append_nothing (P := P) w t t o.type e i ht hi none 0 0 (Nat.le_refl _) (.slice A 0 c) ?_) ?_
    ·cases A with
     | none => exact Src.ofNil (size := i.size) w ht c
     | some ad => exact Src.ofSlice (size := i.size) w ht ad 0 c [] (by simp) (by simp) (by simp)
    ·exact h _ w (World.ownsRow_nil _ _ _ _) ⟨rfl, rfl, rfl, Nat.le_refl _, fun _ _ _ => rfl⟩ (fun g e => by cases e)
   ·subst hv
    have hgl : g < w.heap.size := (Array.getElem?_eq_some_iff.1 hg).1
    refine Go.Lib.wp_append_run_sl w s x t ho _ _ hs hx (run_append_nothing (P := P) w t t o.type e i ht hi (some ⟨g, 0, none⟩) 0 cap hcap (.slice A 0 c) ?_) ?_
    ·cases A with
     | none => exact Src.ofNil (size := i.size) w ht c
     | some ad => exact Src.ofSlice (size := i.size) w ht ad 0 c [] (by simp) (by simp) (by simp)
    ·exact h _ w (by simpa using hown) ⟨rfl, rfl, rfl, Nat.le_refl _, fun _ _ _ => rfl⟩ (fun g' e => by
      have e' : g = g' := (by simpa [Value.ownBlock] using e)
      subst e'
      exact ⟨.inl rfl, hgl⟩)
  ·obtain ⟨ad, rfl, hnw⟩ : ∃ ad, A = some ad ∧ ∀ j u, news[j]? = some u → w.cell? (ad.add j) = some u := by
    rcases hnews with h2 | h2
    ·exact absurd h2 h0
    ·exact h2
   refine wp_append_lies w s x t ho base e i z size bytes ht hi hz hsize hby hzs hsz v 0 xs hs hown ad m c news hx hl hnw h1 (by omega) h63 hbytes hbase H hH ?_
   intro g cap w' a1 a2 a3 a4
   exact h _ _ a1 a2 (fun g' e => by
    have e' : g = g' := (by simpa [Value.ownBlock] using e)
    subst e'
    exact ⟨a3, a4⟩)
end Go.Proofs.YtkpigkopjfkepaaGreatDoor
namespace Go.Proofs.YtkpigkopjfkepaaGreatDoor
open Go.RowKit
open Go.Deep
theorem results_cellT {P : Program} {fn : Func} {p q : Tmp} {ty : TypeId} (h : fn.results = #[.cell p ty, .tmp q]) (tmps : Array Value) (w : World) (g : Nat) (t : TypeId) (cs : Array Value) (fr : Nat × Nat) (d : TypeDesc) (x : Value)
  (hp : tmps.getD p undef = .pointer (some ⟨g, 0, none⟩)) (hq : tmps.getD q undef = x) (hg : w.heap[g]? = some (.cells cs t fr))
  (hu : P.underlying ty = some d) (hd : (match d with | .struct _ | .array _ _ => true | _ => false) = true) (hi : (P.info? ty).map (·.size) = some cs.size) :
  (results fn tmps).run P w = .ok (.tuple #[.agg cs, x]) w := by
 rw [results_cell_tmp h, hp, hq]
 have ha : (asAddr (.pointer (some ⟨g, 0, none⟩))).run P w = .ok ⟨g, 0, none⟩ w := rfl
 rw [ha]
 show ((loadVar ty ⟨g, 0, none⟩).run P w).andThen _ = _
 rw [run_loadVar_row w g t ty cs fr d hg hu hd hi]; rfl
theorem hb_slr {α : Type} {w X : World} {sz : Nat} {R : List Value → α → Prop} {v : Value} {l : List α} (h : SlR w (· < w.heap.size) sz R v l) (hb : Below w.heap.size w X) : SlR X (· < X.heap.size) sz R v l :=
 h.imp (fun _ h => Nat.lt_of_lt_of_le h hb.size) (fun b h => hb.block b h) (fun _ _ _ r => r)
theorem hb_flows {w X : World} {v : Value} {l : List LFlow} (h : SlR w (· < w.heap.size) 4 (RFlow w (· < w.heap.size)) v l) (hb : Below w.heap.size w X) : SlR X (· < X.heap.size) 4 (RFlow X (· < X.heap.size)) v l :=
 h.imp (fun _ h => Nat.lt_of_lt_of_le h hb.size) (fun b h => hb.block b h) (fun _ _ _ r => r.imp (fun _ h => Nat.lt_of_lt_of_le h hb.size) (fun b h => hb.block b h))
structure UIn (u : LUnit) (X : World) (A1 A2 : Option Addr) (c1 c2 : Nat) : Prop where
 arr : SlR X (· < X.heap.size) 2 RArr (.slice A1 u.arrays.length c1) u.arrays
 flo : SlR X (· < X.heap.size) 4 (RFlow X (· < X.heap.size)) (.slice A2 u.flows.length c2) u.flows
section
variable {u v : LUnit} {X W : World} {A1 A2 B1 B2 : Option Addr} {c1 c2 d1 d2 : Nat}
theorem UIn.below (h : UIn u X A1 A2 c1 c2) (hb : Below X.heap.size X W) : UIn u W A1 A2 c1 c2 := ⟨hb_slr h.arr hb, hb_flows h.flo hb⟩
theorem fit_u (raw : List LBlock) (hI : ∀ x ∈ raw, x.I) (vr : Value) (w : World) (hv : SlR w (· < w.heap.size) 5 (RBlock w (· < w.heap.size)) vr raw) :
  Calls Tryz.prog 9 #[vr] w fun e w' => ∃ A1 A2 c1 c2, e = .returned (.agg #[.slice A1 (fitU raw).arrays.length c1, .slice A2 (fitU raw).flows.length c2]) ∧ Below w.heap.size w w' ∧ UIn (fitU raw) w' A1 A2 c1 c2 := by
 refine (fit_any raw hI vr w hv).mono ?_
 rintro e w' ⟨va, vf, css, rfl, hb, ha, hf⟩
 have hf' : SlR w' (· < w'.heap.size) 4 (RFlow w' (· < w'.heap.size)) vf (fitU raw).flows := (hf.slr mono_flow).imp (fun _ h => h.2) (Keeps.refl _ _) (fun _ _ _ r => r.imp (fun _ h => h.2) (Keeps.refl _ _))
 have ha' : SlR w' (· < w'.heap.size) 2 RArr va (fitU raw).arrays := ha.imp (fun _ h => h.2) (Keeps.refl _ _) (fun _ _ _ r => r)
 obtain ⟨A1, c1, e1, _, _⟩ := ha'.val
 obtain ⟨A2, c2, e2, _, _⟩ := hf'.val
 subst e1 e2
 exact ⟨A1, A2, c1, c2, rfl, hb, ha', hf'⟩
theorem check_u (hu : UnitOk u) (h : UIn u X A1 A2 c1 c2) : Calls Tryz.prog 11 #[.agg #[.slice A1 u.arrays.length c1, .slice A2 u.flows.length c2]] X fun e w' => e = .returned (.tuple #[.int .i64 0, .agg #[.int .i64 0, .int .i64 0]]) ∧ Below X.heap.size X w' :=
 check_ok u hu A1 A2 c1 c2 X h.arr h.flo
end
theorem blk_unit {X : World} {A1 A2 : Option Addr} {n1 n2 c1 c2 b : Nat} {W : World} (h : Blk X b 27 #[.slice A1 n1 c1, .slice A2 n2 c2]) (hb : Below X.heap.size X W) : W.cell? ⟨b, 0, none⟩ = some (.slice A1 n1 c1) ∧ W.cell? ⟨b, 1, none⟩ = some (.slice A2 n2 c2) :=
 ⟨(h.below hb h.lt).cell 0, (h.below hb h.lt).cell 1⟩
end Go.Proofs.YtkpigkopjfkepaaGreatDoor
