/- slices.Concat at two rows of texts: the one behind the other, in a row of the call's own. -/
import Derived.Test.YtmignlclfbaifaaGreatTrGlobals
import Derived.Test.YtmignlclfbaifaaGreatTrLays2
import Derived.Shelf.Spec.SlicesGrow
namespace Go.Proofs.YtmignlclfbaifaaGreat
open Go.RowKit Go.Sort Go.Shelf

theorem news_of_str {w : World} {ok : Nat → Prop} {A : Option Addr} {n c : Nat} {l : List ByteArray} (h : SlR w ok 1 RStr (.slice A n c) l) : l.length = 0 ∨ ∃ ad, A = some ad ∧ ok ad.block ∧ ∀ j u, (l.map encT)[j]? = some u → w.cell? (ad.add j) = some u := by
  rcases Nat.eq_zero_or_pos l.length with h0 | h0
  · exact .inl h0
  · obtain ⟨b, off, c', hv, _, _, hok, hel⟩ := h.form h0
    have hA : A = some ⟨b, off, none⟩ := by injection hv
    refine .inr ⟨_, hA, hok, fun j u hu => ?_⟩
    obtain ⟨hj, hju⟩ := List.getElem?_eq_some_iff.1 hu
    have hj' : j < l.length := by simpa using hj
    obtain ⟨cs, _, hcs, hc⟩ := hel j hj'
    obtain rfl : cs = [.string l[j]] := hcs
    have := hc.at_ (j := 0) rfl
    rw [Addr.add_lit]
    rw [← hju, List.getElem_map]
    simpa [encT] using this
theorem encT_ones (l : List ByteArray) : ∀ u ∈ l.map encT, u.oneCell' = true := by
  intro u hu
  obtain ⟨s, _, rfl⟩ := List.mem_map.1 hu
  rfl
theorem grow_nil (n : Nat) (hn : n ≤ 4000) (w : World) : Calls Tryz.prog 69 #[.slice none 0 0, .int .i64 (n : Int)] w fun e w' => ∃ v, e = .returned v ∧ w'.ownsRow w.heap.size 9 1 v 0 [] ∧ Below w.heap.size w w' := by
  rcases Nat.eq_zero_or_pos n with h | h
  · subst h
    refine (Any8.slices_Grow_room Tryz.growS none 0 0 0 w (Nat.le_refl _) (by omega) (by omega) (by omega)).mono ?_
    rintro e w' ⟨rfl, rfl⟩
    exact ⟨_, rfl, World.ownsRow_nil _ _ _ _, Below.refl _ _⟩
  · obtain ⟨i0, hi0, hz0, hz1, hz2⟩ := info_parts info_string
    refine (Any8.slices_Grow_grow Tryz.growS i0 (.string ⟨#[]⟩) hi0 hz0 (by rw [hz1]; decide) none 0 0 n [] w (Nat.le_refl _) (by omega) (by rw [hz2]; omega) (by omega) (by simp) (fun _ => rfl) (fun a e => by cases e)).mono ?_
    rintro e w' ⟨rfl, rfl⟩
    refine ⟨_, rfl, ⟨rfl, .inr ⟨w.heap.size, _, _, rfl, Nat.le_refl _, Blk.new w.drew _ _, Nat.zero_le _, grownCap_le_maxLen w (0 + n) 0 _ (by unfold maxLen; omega), ?_, by simp⟩⟩, (Below.refl _ _).drew.alloc (Nat.le_refl _) _⟩
    have hg := grownCap_ge w (0 + n) 0 9
    show (#[] ++ Builtin.zeroCells (Value.string ⟨#[]⟩).cells (0 + n - 0) ++ Builtin.zeroCells (Value.string ⟨#[]⟩).cells (grownCap w (0 + n) 0 9 - (0 + n))).size = grownCap w (0 + n) 0 9 * 1
    simp [size_zeroCells, Value.cells]
    simp at hg
    omega
section
set_option maxRecDepth 100000
set_option maxHeartbeats 4000000
theorem concat_any (l1 l2 : List ByteArray) (A1 A2 : Option Addr) (c1 c2 gb : Nat) (t : TypeId) (w : World) (hb : Blk w gb t #[.slice A1 l1.length c1, .slice A2 l2.length c2]) (h1 : SlR w (· < w.heap.size) 1 RStr (.slice A1 l1.length c1) l1) (h2 : SlR w (· < w.heap.size) 1 RStr (.slice A2 l2.length c2) l2) (hl1 : l1.length ≤ 400) (hl2 : l2.length ≤ 400) :
    Calls Tryz.prog 49 #[.slice (some ⟨gb, 0, none⟩) 2 2] w fun e w' => ∃ v, e = .returned v ∧ w'.ownsRow w.heap.size 9 1 v (l1 ++ l2).length ((l1 ++ l2).map encT) ∧ Below w.heap.size w w' := by
  obtain ⟨z0, hi0, hz0, hz1, hz2⟩ := info_parts info_string
  have b0 : w.cell? ⟨gb, 0, none⟩ = some (.slice A1 l1.length c1) := hb.cell 0
  have b1 : w.cell? ⟨gb, 1, none⟩ = some (.slice A2 l2.length c2) := hb.cell 1
  have hgb := hb.lt
  have HB := Lib.hid hb
  have H1 := Lib.hid h1
  have H2 := Lib.hid h2
  clear hb h1 h2
  obtain ⟨n1, hn1⟩ : ∃ n, n = l1.length := ⟨_, rfl⟩
  obtain ⟨n2, hn2⟩ : ∃ n, n = l2.length := ⟨_, rfl⟩
  rw [← hn1] at b0 hl1 H1 HB
  rw [← hn2] at b1 hl2 H2 HB
  have HN1 := Lib.hid hn1
  have HN2 := Lib.hid hn2
  clear hn1 hn2
  go_enter Tryz.func49, Tryz.ntmps49
  go_wp2
  go_loopw [3, 5, 11] (fun s _ i wr => wr = w ∧ ∃ k m : Nat, k ≤ 2 ∧ i = .int .i64 k ∧ s = .int .i64 m ∧ ((k = 0 ∧ m = 0) ∨ (k = 1 ∧ m = n1) ∨ (k = 2 ∧ m = n1 + n2))) (fun _ _ i _ => 2 - (intOf i).toNat)
  case atStart => exact ⟨rfl, 0, 0, by omega, rfl, rfl, .inl ⟨rfl, rfl⟩⟩
  case round =>
    obtain ⟨rfl, k, m, hk, rfl, rfl, hkm⟩ := hrel
    rcases hkm with ⟨rfl, rfl⟩ | ⟨rfl, rfl⟩ | ⟨rfl, rfl⟩
    · have d1 : decide ((n1 : Int) < 0) = false := decide_eq_false (by omega)
      have d2 : decide ((0 : Int) + (n1 : Int) < 0) = false := decide_eq_false (by omega)
      go_wp2
      go_roundw
      case rel => exact ⟨trivial, 1, n1, by omega, by go_num, by go_num, .inr (.inl ⟨rfl, rfl⟩)⟩
      case measure => simp [intOf]
    · have d2 : decide ((m : Int) + (n2 : Int) < 0) = false := decide_eq_false (by omega)
      go_wp2
      go_roundw
      case rel => exact ⟨trivial, 2, m + n2, by omega, by go_num, by go_num, .inr (.inr ⟨rfl, rfl⟩)⟩
      case measure => simp [intOf]
    · go_wp2_with (go_at_call 69; refine (grow_nil (n1 + n2) (by omega) _).mono ?_; rintro e W ⟨v, rfl, hrow, hbw⟩)
      obtain ⟨w0, hw0⟩ : ∃ w0, w0 = wr := ⟨_, rfl⟩
      subst hw0
      have HBW := Lib.hid hbw
      obtain ⟨Av, cv, rfl⟩ := own_form hrow
      have c0 : W.cell? ⟨gb, 0, none⟩ = some (.slice A1 n1 c1) := (hbw.cell (p := ⟨gb, 0, none⟩) hgb).trans b0
      have c1' : W.cell? ⟨gb, 1, none⟩ = some (.slice A2 n2 c2) := (hbw.cell (p := ⟨gb, 1, none⟩) hgb).trans b1
      have HR0 := Lib.hid hrow
      clear hrow hbw
      go_loopw [6, 8, 27] (fun s _ i wo => ∃ k : Nat, k ≤ 2 ∧ i = .int .i64 k ∧ ∃ xs : List ByteArray, ((k = 0 ∧ xs = []) ∨ (k = 1 ∧ xs = l1) ∨ (k = 2 ∧ xs = l1 ++ l2)) ∧ wo.ownsRow w0.heap.size 9 1 s xs.length (xs.map encT) ∧ Below w0.heap.size w0 wo) (fun _ _ i _ => 2 - (intOf i).toNat)
      case atStart => exact ⟨0, by omega, rfl, [], .inl ⟨rfl, rfl⟩, HR0.out, HBW.out⟩
      case round =>
        obtain ⟨k, hk, rfl, xs, hx, hro, hbo⟩ := hrel
        rcases hx with ⟨rfl, hx⟩ | ⟨rfl, hx⟩ | ⟨rfl, hx⟩
        · rw [hx] at hro
          clear hx
          obtain ⟨Av, cv, rfl⟩ := own_form hro
          have hro2 : wr.ownsRow w0.heap.size 9 1 (.slice Av 0 cv) 0 (([] : List ByteArray).map encT) := hro
          have HROW := Lib.hid hro2
          have HSZ : Hid (w0.heap.size ≤ wr.heap.size) := Lib.hid hbo.size
          have HNEWS : Hid (n1 = 0 ∨ ∃ ad, A1 = some ad ∧ ∀ j u, (l1.map encT)[j]? = some u → wr.cell? (ad.add j) = some u) := Lib.hid ((news_of_str H1.out).elim (fun h => .inl (by rw [HN1.out]; exact h)) (fun ⟨ad, e, hlt, h⟩ => .inr ⟨ad, e, fun j u hu => (hbo.cell (p := ad.add j) (by unfold Addr.add; split <;> exact hlt)).trans (h j u hu)⟩))
          have d0 : wr.cell? ⟨gb, 0, none⟩ = some (.slice A1 n1 c1) := (hbo.cell (p := ⟨gb, 0, none⟩) hgb).trans b0
          have HBO := Lib.hid hbo
          show Code.wp _ _ _ _ _
          clear hro hro2 hbo
          go_wp2_with (at_builtin; refine wpList_append_any _ rfl _ _ 47 rfl w0.heap.size 9 z0 _ 1 16 Tryz.underlying47 hi0 hz0 hz1 hz2 rfl (by decide) _ 0 _ rfl HROW.out A1 n1 c1 (l1.map encT) rfl (by rw [List.length_map, ← HN1.out, Nat.mul_one]) HNEWS.out (encT_ones l1) (by unfold maxLen; omega) (by omega) HSZ.out _ rfl ?_; intro v' w1 hown1 hgrow1 hat1)
          go_roundw
          case rel =>
            refine ⟨1, by omega, by go_num, l1, .inr (.inl ⟨rfl, rfl⟩), ?_, HBO.out.grown hgrow1 HBO.out.size (fun j e => by have := HROW.out.lt j e; omega)⟩
            have e1 : l1.length = 0 + n1 := by rw [HN1.out]; omega
            rw [e1]
            simpa using hown1
          case measure => simp [intOf]
        · rw [hx] at hro
          clear hx
          obtain ⟨Av, cv, rfl⟩ := own_form hro
          have hro2 : wr.ownsRow w0.heap.size 9 1 (.slice Av n1 cv) n1 (l1.map encT) := by rw [HN1.out]; exact hro
          have HROW := Lib.hid hro2
          have HSZ : Hid (w0.heap.size ≤ wr.heap.size) := Lib.hid hbo.size
          have HNEWS : Hid (n2 = 0 ∨ ∃ ad, A2 = some ad ∧ ∀ j u, (l2.map encT)[j]? = some u → wr.cell? (ad.add j) = some u) := Lib.hid ((news_of_str H2.out).elim (fun h => .inl (by rw [HN2.out]; exact h)) (fun ⟨ad, e, hlt, h⟩ => .inr ⟨ad, e, fun j u hu => (hbo.cell (p := ad.add j) (by unfold Addr.add; split <;> exact hlt)).trans (h j u hu)⟩))
          have d1 : wr.cell? ⟨gb, 1, none⟩ = some (.slice A2 n2 c2) := (hbo.cell (p := ⟨gb, 1, none⟩) hgb).trans b1
          have HBO := Lib.hid hbo
          rw [← HN1.out]
          clear hro hro2 hbo
          go_wp2_with (at_builtin; refine wpList_append_any _ rfl _ _ 47 rfl w0.heap.size 9 z0 _ 1 16 Tryz.underlying47 hi0 hz0 hz1 hz2 rfl (by decide) _ n1 _ rfl HROW.out A2 n2 c2 (l2.map encT) rfl (by rw [List.length_map, ← HN2.out, Nat.mul_one]) HNEWS.out (encT_ones l2) (by unfold maxLen; omega) (by omega) HSZ.out _ rfl ?_; intro v' w1 hown1 hgrow1 hat1)
          go_roundw
          case rel =>
            refine ⟨2, by omega, by go_num, (l1 ++ l2), .inr (.inr ⟨rfl, rfl⟩), ?_, HBO.out.grown hgrow1 HBO.out.size (fun j e => by have := HROW.out.lt j e; omega)⟩
            have e1 : (l1 ++ l2).length = n1 + n2 := by rw [List.length_append, HN1.out, HN2.out]
            rw [e1]
            simpa using hown1
          case measure => simp [intOf]
        · rw [hx] at hro
          clear hx
          have HRO := Lib.hid hro
          have HBO := Lib.hid hbo
          clear hro hbo
          go_wp2
          go_ret
          exact ⟨_, rfl, HRO.out, HBO.out⟩
end
end Go.Proofs.YtmignlclfbaifaaGreat
