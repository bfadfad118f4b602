/- Units in memory: rows that are copied, put into, made anew. An append onto a row of the call's own that may be empty. -/
import Derived.Test.YtkpigkopjfkepaaGreatDoorPbFit
import Derived.Test.YtkpigkopjfkepaaGreatDoorPbArgs
import Derived.Test.YtkpigkopjfkepaaGreatDoorPbFlowSm
import Derived.Deep.Upon
import Derived.Lib.SlFresh
import Derived.Deep.AppendLies
import Derived.Deep.AppendSrc
namespace Go.Proofs.YtkpigkopjfkepaaGreatDoor
open Go.RowKit

theorem cells_flatten {w : World} {b sz : Nat} : ∀ (css : List (List Value)) (off : Nat), (∀ cs ∈ css, cs.length = sz) → (∀ (i : Nat) (h : i < css.length), Cells w b (off + i * sz) css[i]) → Cells w b off css.flatten
  | [], off, _, _ => fun j hj => by simp at hj
  | c :: r, off, hall, h => by
    have hc : c.length = sz := hall c (by simp)
    have ih := cells_flatten r (off + sz) (fun cs hcs => hall cs (by simp [hcs])) (fun i hi => by
      have := h (i + 1) (by simpa using hi)
      rw [show off + sz + i * sz = off + (i + 1) * sz by rw [Nat.succ_mul]; omega]
      exact this)
    have h0 := h 0 (by simp)
    rw [Nat.zero_mul, Nat.add_zero] at h0
    intro j hj
    rw [List.flatten_cons] at hj
    by_cases hjc : j < c.length
    · have := h0 j hjc
      simp only [List.flatten_cons]
      rw [List.getElem_append_left hjc]
      exact this
    · have hj2 : j - c.length < r.flatten.length := by rw [List.length_append] at hj; omega
      have := ih (j - c.length) hj2
      simp only [List.flatten_cons]
      rw [List.getElem_append_right (by omega)]
      rw [show off + sz + (j - c.length) = off + j by omega] at this
      exact this
/-- the cells of a row, element by element -/
theorem SlR.rows {α : Type} {w : World} {ok : Nat → Prop} {sz b off n c : Nat} {R : List Value → α → Prop} {l : List α} (h : SlR w ok sz R (.slice (some ⟨b, off, none⟩) n c) l) (hl : 0 < l.length) :
    ∃ css : List (List Value), css.length = l.length ∧ (∀ cs ∈ css, cs.length = sz) ∧ (∀ (i : Nat) (h1 : i < css.length) (h2 : i < l.length), R css[i] l[i]) ∧ Cells w b off css.flatten ∧ ok b := by
  obtain ⟨b', off', c', hv, _, _, hb, hel⟩ := h.form hl
  obtain ⟨rfl, rfl⟩ : b = b' ∧ off = off' := by injection hv with h1 _ _; injection h1 with h1; injection h1 with h1 h2; exact ⟨h1, h2⟩
  obtain ⟨css, hlen, hcs⟩ := list_of (n := l.length) (Q := fun i cs => cs.length = sz ∧ (∀ h : i < l.length, R cs l[i]) ∧ Cells w b (off + i * sz) cs) (fun i hi => by
    obtain ⟨cs, h1, h2, h3⟩ := hel i hi
    exact ⟨cs, h1, fun _ => h2, h3⟩)
  have hall : ∀ cs ∈ css, cs.length = sz := fun cs hc => by
    obtain ⟨i, hi, rfl⟩ := List.getElem_of_mem hc
    exact (hcs i hi).1
  exact ⟨css, hlen, hall, fun i h1 h2 => (hcs i h1).2.1 h2, cells_flatten css off hall (fun i hi => (hcs i hi).2.2), hb⟩
theorem Cells.news {w : World} {b off : Nat} {xs : List Value} (h : Cells w b off xs) : ∀ j u, xs[j]? = some u → w.cell? ((⟨b, off, none⟩ : Addr).add j) = some u := fun j u hu => by
  rw [Addr.add_lit]; exact h.at_ hu
theorem block_ones {w : World} {ok : Nat → Prop} {cs : List Value} {x : LBlock} (h : RBlock w ok cs x) : ∀ u ∈ cs, u.oneCell' = true := by
  obtain ⟨vi, rfl, hs⟩ := h
  obtain ⟨A, c, rfl, _, _⟩ := hs.val
  intro u hu
  simp [termCells] at hu
  rcases hu with rfl | rfl | rfl | rfl | rfl <;> rfl
theorem ins_ones {w : World} {ok : Nat → Prop} {cs : List Value} {x : LIns} (h : RIns w ok cs x) : ∀ u ∈ cs, u.oneCell' = true := by
  obtain ⟨va, rfl, hs⟩ := h
  obtain ⟨A, c, rfl, _, _⟩ := hs.val
  intro u hu
  simp [insCells] at hu
  rcases hu with rfl | rfl | rfl | rfl | rfl | rfl | rfl | rfl <;> rfl
theorem flatten_ones {css : List (List Value)} (h : ∀ cs ∈ css, ∀ u ∈ cs, u.oneCell' = true) : ∀ u ∈ css.flatten, u.oneCell' = true := fun u hu => by
  obtain ⟨cs, hc, hu⟩ := List.mem_flatten.1 hu
  exact h cs hc u hu
theorem flatten_len {css : List (List Value)} {sz : Nat} (h : ∀ cs ∈ css, cs.length = sz) : css.flatten.length = css.length * sz := by
  induction css with
  | nil => simp
  | cons c r ih =>
    rw [List.flatten_cons, List.length_append, h c (by simp), ih fun cs hcs => h cs (by simp [hcs]), List.length_cons, Nat.succ_mul]
    omega
theorem own_three {raw : List LBlock} {w : World} {base : Nat} {T : TypeId} {v : Value} {css : List (List Value)} (h : OwnL w base T 4 RFlow v (fitFlows raw 3) css) : ∃ g cap, v = .slice (some ⟨g, 0, none⟩) 3 cap := by
  rcases h.row.2 with ⟨_, h0⟩ | ⟨g, cap, _, h, _⟩
  · simp [fitFlows] at h0
  · exact ⟨g, cap, by rw [h]; simp [fitFlows]⟩
/-- behind a store of four cells into element j of an own row -/
theorem OwnL.put4 {α : Type} {w : World} {base : Nat} {T : TypeId} {R : World → (Nat → Prop) → List Value → α → Prop} {l : List α} {css : List (List Value)} {g cap : Nat} {x : α} {c0 c1 c2 c3 : Value} {j : Nat} (hm : MonoR R)
    (h : OwnL w base T 4 R (.slice (some ⟨g, 0, none⟩) l.length cap) l css) (hj : j < l.length) (hx : R w (okOwn base w (.slice (some ⟨g, 0, none⟩) l.length cap)) [c0, c1, c2, c3] x) :
    OwnL ((((w.setCell ⟨g, j * 4, none⟩ c0).setCell ⟨g, j * 4 + 1, none⟩ c1).setCell ⟨g, j * 4 + 2, none⟩ c2).setCell ⟨g, j * 4 + 3, none⟩ c3)
      base T 4 R (.slice (some ⟨g, 0, none⟩) l.length cap) (l.set j x) (css.set j [c0, c1, c2, c3]) := by
  have hjc : j < css.length := by rw [h.len]; exact hj
  have hl5 : css[j].length = 4 := h.each _ (List.getElem_mem _)
  have e1 : ∀ (css : List (List Value)), (∀ cs ∈ css, cs.length = 4) → ∀ j (hj : j < css.length) (cs : List Value), cs.length = 4 → ∀ c ∈ css.set j cs, c.length = 4 := by
    intro css hall j hj cs hcs c hc
    rcases List.mem_or_eq_of_mem_set hc with hc | hc
    · exact hall c hc
    · rw [hc]; exact hcs
  have step : ∀ (w : World) (css : List (List Value)) (hall : ∀ cs ∈ css, cs.length = 4) (hrow : w.ownsRow base T 4 (.slice (some ⟨g, 0, none⟩) l.length cap) l.length css.flatten) (hj : j < css.length) (i : Nat) (hi : i < 4) (c : Value),
      (w.setCell ⟨g, j * 4 + i, none⟩ c).ownsRow base T 4 (.slice (some ⟨g, 0, none⟩) l.length cap) l.length (css.set j (css[j].set i c)).flatten :=
    fun w css hall hrow hj i hi c => OwnL.put1 hrow hall hj hi c x
  obtain ⟨d0, d1, d2, d3, hd⟩ : ∃ d0 d1 d2 d3, css[j] = [d0, d1, d2, d3] := by
    match css[j], hl5 with
    | [d0, d1, d2, d3], _ => exact ⟨_, _, _, _, rfl⟩
  have s0 := step w css h.each h.row hjc 0 (by decide) c0
  simp only [hd, List.set_cons_zero, Nat.add_zero] at s0
  have s1 := step _ _ (e1 css h.each j hjc _ rfl) s0 (by simpa using hjc) 1 (by decide) c1
  simp only [List.getElem_set_self, List.set_set, List.set_cons_succ, List.set_cons_zero] at s1
  have s2 := step _ _ (e1 css h.each j hjc _ rfl) s1 (by simpa using hjc) 2 (by decide) c2
  simp only [List.getElem_set_self, List.set_set, List.set_cons_succ, List.set_cons_zero] at s2
  have s3 := step _ _ (e1 css h.each j hjc _ rfl) s2 (by simpa using hjc) 3 (by decide) c3
  simp only [List.getElem_set_self, List.set_set, List.set_cons_succ, List.set_cons_zero] at s3
  have hg : ∀ i b, b ≠ g → b ≠ (⟨g, i, none⟩ : Addr).block := fun _ _ h => h
  have hk : Keeps (fun b => b ≠ g) w ((((w.setCell ⟨g, j * 4, none⟩ c0).setCell ⟨g, j * 4 + 1, none⟩ c1).setCell ⟨g, j * 4 + 2, none⟩ c2).setCell ⟨g, j * 4 + 3, none⟩ c3) :=
    ((((Keeps.refl _ _).set (hg (j * 4)) _).set (hg (j * 4 + 1)) _).set (hg (j * 4 + 2)) _).set (hg (j * 4 + 3)) _
  have hok : ∀ b, okOwn base w (.slice (some ⟨g, 0, none⟩) l.length cap) b → okOwn base ((((w.setCell ⟨g, j * 4, none⟩ c0).setCell ⟨g, j * 4 + 1, none⟩ c1).setCell ⟨g, j * 4 + 2, none⟩ c2).setCell ⟨g, j * 4 + 3, none⟩ c3) (.slice (some ⟨g, 0, none⟩) l.length cap) b :=
    fun b hb => ⟨hb.1, by simp only [World.setCell, Array.size_modify]; exact hb.2.1, hb.2.2⟩
  have hk' : Keeps (okOwn base w (.slice (some ⟨g, 0, none⟩) l.length cap)) w ((((w.setCell ⟨g, j * 4, none⟩ c0).setCell ⟨g, j * 4 + 1, none⟩ c1).setCell ⟨g, j * 4 + 2, none⟩ c2).setCell ⟨g, j * 4 + 3, none⟩ c3) :=
    hk.mono fun b hb e => hb.2.2 (by rw [e]; rfl)
  refine ⟨by simp [h.len], e1 css h.each j hjc _ rfl, by rw [List.length_set]; exact s3, ?_⟩
  intro i h1 h2
  by_cases hij : j = i
  · subst hij
    rw [List.getElem_set_self, List.getElem_set_self]
    exact hm _ _ _ _ _ _ hx hok hk'
  · rw [List.getElem_set_ne hij, List.getElem_set_ne hij]
    exact hm _ _ _ _ _ _ (h.elems i (by simpa using h1) (by simpa using h2)) hok hk'
/-- a block of the call's own, made with its elements, as an own row -/
theorem own_made {w : World} {base g n sz : Nat} {T : TypeId} {cs : Array Value} (h : Blk w g T cs) (hb : base ≤ g) (hn : n ≤ maxLen) (hs : cs.size = n * sz) : w.ownsRow base T sz (.slice (some ⟨g, 0, none⟩) n n) n cs.toList :=
  ⟨by simpa using hs, .inr ⟨g, n, cs, rfl, hb, h, Nat.le_refl _, hn, hs, by rw [← hs]; exact List.take_length⟩⟩
section
variable {P : Program}
/-- an append to an own row that holds something, of a row that may hold nothing -/
theorem step_append_row {ops : Array Oper} {o : Oper} {a : Act} {K : Act → World → Prop} {Q : Exit → Act → World → Prop} {E : Prop} (w : World) (hgd : o.guard = none) (s x : Operand) (t : TypeId)
    (ho : o.op = .call { callee := .builtin .append, args := #[s, x], argTypes := #[t, t] })
    (base : Nat) (e : TypeId) (i : TypeInfo) (z : Value) (size bytes : Nat) (ht : P.underlying t = some (.slice e)) (hi : P.info? e = some i) (hz : i.zero = some z)
    (hsize : i.size = size) (hby : i.bytes = bytes) (hzs : z.cells.size = size) (hsz : 0 < size)
    (v : Value) (n : Nat) (xs : List Value) (hs : a.eval s = v) (hown : w.ownsRow base e size v n xs) (hn : 0 < n)
    (A : Option Addr) (m c : Nat) (news : List Value) (hx : a.eval x = .slice A m c) (hl : news.length = m * size) (hnews : m = 0 ∨ ∃ ad, A = some ad ∧ ∀ j u, news[j]? = some u → w.cell? (ad.add j) = some u) (h1 : ∀ u ∈ news, u.oneCell' = true)
    (h63 : n + m ≤ maxLen) (hbytes : (n + m) * bytes ≤ 140737488355328) (hbase : base ≤ w.heap.size) (H : Nat) (hH : w.heap.size = H)
    (h : ∀ g cap w', w'.ownsRow base e size (.slice (some ⟨g, 0, none⟩) (n + m) cap) (n + m) (xs ++ news) → w.grownBy w' v.ownBlock → (v.ownBlock = some g ∨ g = H) → g < w'.heap.size → K (a.put o.dst (.slice (some ⟨g, 0, none⟩) (n + m) cap)) w') :
    if Region.wanted o (yielded ops a.tmps) = true then Oper.wp P o a w K Q else E := by
  have hw : Region.wanted o (yielded ops a.tmps) = true := by simp [Region.wanted, hgd]
  rw [if_pos hw]
  by_cases h0 : m = 0
  · subst h0
    have hnil : news = [] := List.eq_nil_of_length_eq_zero (by rw [hl]; simp)
    subst hnil
    obtain ⟨g, cap, cur, hv, hb, hg, hcap, hmax, hcs, htake⟩ : ∃ g cap cur, v = .slice (some ⟨g, 0, none⟩) n cap ∧ base ≤ g ∧ w.heap[g]? = some (.cells cur e (0, 0)) ∧ n ≤ cap ∧ cap ≤ maxLen ∧ cur.size = cap * size ∧ cur.toList.take (n * size) = xs := by
      rcases hown.2 with ⟨_, h0⟩ | h0
      · omega
      · exact h0
    subst hv
    have hgl : g < w.heap.size := (Array.getElem?_eq_some_iff.1 hg).1
    refine Go.Lib.wp_append_run_sl w s x t ho _ _ hs hx (run_append_nothing (P := P) w t t o.type e i ht hi (some ⟨g, 0, none⟩) n cap hcap (.slice A 0 c) ?_) ?_
    · cases A with
      | none => exact Src.ofNil (size := i.size) w ht c
      | some ad => exact Src.ofSlice (size := i.size) w ht ad 0 c [] (by simp) (by simp) (by simp)
    · exact h g cap w (by simpa using hown) ⟨rfl, rfl, rfl, Nat.le_refl _, fun _ _ _ => rfl⟩ (.inl rfl) hgl
  · obtain ⟨ad, rfl, hnw⟩ : ∃ ad, A = some ad ∧ ∀ j u, news[j]? = some u → w.cell? (ad.add j) = some u := by
      rcases hnews with h2 | h2
      · exact absurd h2 h0
      · exact h2
    exact wp_append_lies w s x t ho base e i z size bytes ht hi hz hsize hby hzs hsz v n xs hs hown ad m c news hx hl hnw h1 (by omega) h63 hbytes hbase H hH h
end
end Go.Proofs.YtkpigkopjfkepaaGreatDoor

namespace Go.Proofs.YtkpigkopjfkepaaGreatDoor
open Go.RowKit

/-- a row's cells, element by element, that may be none -/
theorem SlR.rows_any {α : Type} {w : World} {ok : Nat → Prop} {sz n c : Nat} {A : Option Addr} {R : List Value → α → Prop} {l : List α} (h : SlR w ok sz R (.slice A n c) l) :
    ∃ css : List (List Value), css.length = l.length ∧ (∀ cs ∈ css, cs.length = sz) ∧ (∀ (i : Nat) (h1 : i < css.length) (h2 : i < l.length), R css[i] l[i]) ∧ (l.length = 0 ∨ ∃ b o, A = some ⟨b, o, none⟩ ∧ ok b ∧ Cells w b o css.flatten) := by
  by_cases h0 : 0 < l.length
  · obtain ⟨b, o, c', hv, _, _, _, _⟩ := h.form h0
    have hA : A = some ⟨b, o, none⟩ := by injection hv
    subst hA
    obtain ⟨css, q1, q2, q3, q4, q5⟩ := h.rows h0
    exact ⟨css, q1, q2, q3, .inr ⟨b, o, rfl, q5, q4⟩⟩
  · have e : l = [] := List.eq_nil_of_length_eq_zero (by omega)
    subst e
    exact ⟨[], rfl, fun _ h => by simp at h, fun i h => by simp at h, .inl rfl⟩

/-- an append of a slice that lies, onto a row of the call's own that may be empty -/
theorem step_append_any {P : Program} {ops : Array Oper} {o : Oper} {a : Act} {K : Act → World → Prop} {Q : Exit → Act → World → Prop} {E : Prop} (w : World) (hgd : o.guard = none) (s x : Operand) (t : TypeId)
    (ho : o.op = .call { callee := .builtin .append, args := #[s, x], argTypes := #[t, t] })
    (base : Nat) (e : TypeId) (i : TypeInfo) (z : Value) (size bytes : Nat) (ht : P.underlying t = some (.slice e)) (hi : P.info? e = some i) (hz : i.zero = some z)
    (hsize : i.size = size) (hby : i.bytes = bytes) (hzs : z.cells.size = size) (hsz : 0 < size)
    (v : Value) (n : Nat) (xs : List Value) (hs : a.eval s = v) (hown : w.ownsRow base e size v n xs)
    (A : Option Addr) (m c : Nat) (news : List Value) (hx : a.eval x = .slice A m c) (hl : news.length = m * size) (hnews : m = 0 ∨ ∃ ad, A = some ad ∧ ∀ j u, news[j]? = some u → w.cell? (ad.add j) = some u) (h1 : ∀ u ∈ news, u.oneCell' = true)
    (h63 : n + m ≤ maxLen) (hbytes : (n + m) * bytes ≤ 140737488355328) (hbase : base ≤ w.heap.size) (H : Nat) (hH : w.heap.size = H)
    (h : ∀ v' w', w'.ownsRow base e size v' (n + m) (xs ++ news) → w.grownBy w' v.ownBlock → (∀ g, v'.ownBlock = some g → (v.ownBlock = some g ∨ g = H) ∧ g < w'.heap.size) → K (a.put o.dst v') w') :
    if Region.wanted o (yielded ops a.tmps) = true then Oper.wp P o a w K Q else E := by
  by_cases hn : 0 < n
  · refine step_append_row w hgd s x t ho base e i z size bytes ht hi hz hsize hby hzs hsz v n xs hs hown hn A m c news hx hl hnews h1 h63 hbytes hbase H hH ?_
    intro g cap w' a1 a2 a3 a4
    exact h _ _ a1 a2 (fun g' e => by
      have e' : g = g' := (by simpa [Value.ownBlock] using e)
      subst e'
      exact ⟨a3, a4⟩)
  · have hw : Region.wanted o (yielded ops a.tmps) = true := by simp [Region.wanted, hgd]
    rw [if_pos hw]
    have hn0 : n = 0 := by omega
    subst hn0
    by_cases h0 : m = 0
    · subst h0
      have hnil : news = [] := List.eq_nil_of_length_eq_zero (by rw [hl]; simp)
      subst hnil
      have hxs : xs = [] := List.eq_nil_of_length_eq_zero (by have := hown.1; simpa using this)
      subst hxs
      rcases hown.2 with ⟨hv, _⟩ | ⟨g, cap, cur, hv, hb, hg, hcap, hmax, hcs, htake⟩
      · subst hv
        refine Go.Lib.wp_append_run_sl w s x t ho _ _ hs hx (run_append_nothing (P := P) w t t o.type e i ht hi none 0 0 (Nat.le_refl _) (.slice A 0 c) ?_) ?_
        · cases A with
          | none => exact Src.ofNil (size := i.size) w ht c
          | some ad => exact Src.ofSlice (size := i.size) w ht ad 0 c [] (by simp) (by simp) (by simp)
        · exact h _ w (World.ownsRow_nil _ _ _ _) ⟨rfl, rfl, rfl, Nat.le_refl _, fun _ _ _ => rfl⟩ (fun g e => by cases e)
      · subst hv
        have hgl : g < w.heap.size := (Array.getElem?_eq_some_iff.1 hg).1
        refine Go.Lib.wp_append_run_sl w s x t ho _ _ hs hx (run_append_nothing (P := P) w t t o.type e i ht hi (some ⟨g, 0, none⟩) 0 cap hcap (.slice A 0 c) ?_) ?_
        · cases A with
          | none => exact Src.ofNil (size := i.size) w ht c
          | some ad => exact Src.ofSlice (size := i.size) w ht ad 0 c [] (by simp) (by simp) (by simp)
        · exact h _ w (by simpa using hown) ⟨rfl, rfl, rfl, Nat.le_refl _, fun _ _ _ => rfl⟩ (fun g' e => by
            have e' : g = g' := (by simpa [Value.ownBlock] using e)
            subst e'
            exact ⟨.inl rfl, hgl⟩)
    · obtain ⟨ad, rfl, hnw⟩ : ∃ ad, A = some ad ∧ ∀ j u, news[j]? = some u → w.cell? (ad.add j) = some u := by
        rcases hnews with h2 | h2
        · exact absurd h2 h0
        · exact h2
      refine wp_append_lies w s x t ho base e i z size bytes ht hi hz hsize hby hzs hsz v 0 xs hs hown ad m c news hx hl hnw h1 (by omega) h63 hbytes hbase H hH ?_
      intro g cap w' a1 a2 a3 a4
      exact h _ _ a1 a2 (fun g' e => by
        have e' : g = g' := (by simpa [Value.ownBlock] using e)
        subst e'
        exact ⟨a3, a4⟩)
end Go.Proofs.YtkpigkopjfkepaaGreatDoor
