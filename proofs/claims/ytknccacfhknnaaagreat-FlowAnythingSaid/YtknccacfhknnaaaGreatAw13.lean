/- Chapter 13's example, as plain facts. What the small functions of chapter 13's statements do: has, lists; and flow.After at a place that is none. Chapter 13's example: awake of its statements is true. -/
import Derived.Test.YtknccacfhknnaaaGreatFlowAfter
import Derived.Deep.QuietTactic
import Derived.BigQuiet
namespace Go.Proofs.YtknccacfhknnaaaGreat
open Go.RowKit

def awI : LIns := ⟨2, 1, 0, 0, 0, 0, sNone, []⟩
def awB0 : LBlock := ⟨[awI], ⟨3, 1, 0, 0⟩⟩
def awB1 : LBlock := ⟨[], ⟨1, 0, 1, 0⟩⟩
def awF : LFlow := ⟨sF, 1, 2, [awB0, awB1]⟩

theorem rise_eq {S : Int → Bool} {l : List Int} (h : ∀ v, S v = true ↔ v ∈ l) (hl : l.Pairwise (· < ·)) (hp : ∀ v ∈ l, placeP v = true) : riseL S = l := by
  have h1 : (riseL S).Perm l := (List.perm_ext_iff_of_nodup (nodup_riseL S) (hl.imp fun h e => by omega)).2 fun v => by
    rw [mem_riseL]
    exact ⟨fun h2 => (h v).1 h2.2, fun h2 => ⟨hp v h2, (h v).2 h2⟩⟩
  exact List.Perm.eq_of_pairwise (le := fun a b : Int => a ≤ b) (fun a b _ _ h1 h2 => by omega) ((rise_sorted S).imp fun h => of_decide_eq_true h) (hl.imp fun h => by omega) h1
theorem aw_next0 : nextL awB0.term = [] := by decide
theorem aw_next1 : nextL awB1.term = [1] := by decide
theorem aw_wants0 : wantsL awB0.term = [1] := by decide
theorem aw_wants1 : wantsL awB1.term = [] := by decide
theorem aw_uses : usesL awI = [0] := by decide
theorem aw_sets : setsL awI = [1] := by decide
theorem aw_end (L : Nat → Int → Bool) (v : Int) : endS awB0.term L v = true ↔ v ∈ [(1 : Int)] := by
  rw [endS_iff, aw_wants0, aw_next0]
  simp
theorem aw_trans0 (L : Nat → Int → Bool) (v : Int) : transS awB0 L v = true ↔ v ∈ [(0 : Int)] := by
  show stepS (endS awB0.term L) awI v = true ↔ _
  rw [stepS_iff, aw_uses, aw_sets, aw_end]
  constructor
  · rintro (h | ⟨h1, h2⟩)
    · exact h
    · exact absurd h2 h1
  · exact .inl
theorem aw_pre : Pre awF (fun i v => decide (i = 0 ∧ v = 0)) := fun i h v hv => by
  have hi : i < 2 := h
  rcases (by omega : i = 0 ∨ i = 1) with rfl | rfl
  · have h1 := (aw_trans0 _ v).1 hv
    simp at h1
    simp [h1]
  · have h1 : endS awB1.term (fun i v => decide (i = 0 ∧ v = 0)) v = true := hv
    rw [endS_iff, aw_wants1, aw_next1] at h1
    simp at h1
theorem aw_live0 (v : Int) : liveS awF 0 v = true ↔ v ∈ [(0 : Int)] := by
  rw [liveS_eq awF 0 (by decide)]
  exact aw_trans0 _ v
theorem aw_live1 (v : Int) : liveS awF 1 v = true ↔ v ∈ ([] : List Int) := by
  constructor
  · intro h
    have := liveS_le aw_pre 1 v h
    simp at this
  · intro h; simp at h
theorem aw_lives : (List.range awF.blocks.length).map (fun i => riseL (liveS awF i)) = [[0], []] := by
  show [riseL (liveS awF 0), riseL (liveS awF 1)] = _
  rw [rise_eq aw_live0 (by simp) (by decide), rise_eq aw_live1 (by simp) (by decide)]
theorem aw_afters : afterL awB0.ins (endS awB0.term (liveS awF)) = [[1], [1]] := by
  show [riseL (endS awB0.term (liveS awF)), riseL (endS awB0.term (liveS awF))] = _
  rw [rise_eq (aw_end _) (by simp) (by decide)]
theorem aw_good : GoodF awF := fun b hb => by
  have hb' : b = awB0 ∨ b = awB1 := by simpa [awF] using hb
  rcases hb' with rfl | rfl
  · refine ⟨fun k hk => ?_, fun k hk => ?_, fun x hx => ?_⟩
    · rw [aw_next0] at hk; simp at hk
    · rw [aw_wants0] at hk; simp at hk; subst hk; decide
    · have : x = awI := by simpa [awB0] using hx
      subst this
      refine ⟨fun n hn => ?_, fun n hn => ?_, by decide⟩
      · rw [aw_uses] at hn; simp at hn; subst hn; decide
      · rw [aw_sets] at hn; simp at hn; subst hn; decide
  · refine ⟨fun k hk => ?_, fun k hk => ?_, fun x hx => ?_⟩
    · rw [aw_next1] at hk; simp at hk; subst hk; decide
    · rw [aw_wants1] at hk; simp at hk
    · simp [awB1] at hx
theorem aw_reach {M : List Bool} (hl : M.length = awF.blocks.length) (hv : Visited (succF awF) 0 (List.replicate awF.blocks.length false) M) : M = [true, false] := by
  have hl2 : M.length = 2 := hl
  have h0 := hv.at_
  have h1 : M[1]? ≠ some true := fun h => by
    have h2 := hv.least (fun k => k = 0) (fun p hp s hs => by
      subst hp
      have : succF awF 0 = [] := by decide
      rw [this] at hs
      simp at hs) rfl (fun k hk => by
        rw [List.getElem?_replicate] at hk
        split at hk <;> simp at hk) 1 h
    omega
  match M, hl2 with
  | [a, b], _ =>
    simp at h0 h1
    subst h0
    subst h1
    rfl
end Go.Proofs.YtknccacfhknnaaaGreat

namespace Go.Proofs.YtknccacfhknnaaaGreat
open Go.RowKit Go.Maps

set_option maxHeartbeats 1000000 in
theorem has_any (l : List Int) (n : Int) (v : Value) (ok : Nat → Prop) (w : World) (hv : SlR w ok 1 RInt v l) :
    Calls Tryz.prog 15 #[v, .int .i64 n] w fun e w' => e = .returned (.bool (decide (n ∈ l))) ∧ w = w' := by
  obtain ⟨A, c, hvr, hlc, hcm⟩ := hv.val
  have HV := Lib.hid hv
  clear hv
  subst hvr
  have hlen := Nat.le_trans hlc hcm
  unfold maxLen at hlen
  go_enter Tryz.func15, Tryz.ntmps15
  go_wp2
  go_loop [5] (fun s => ∃ i : Nat, i ≤ l.length ∧ s = .int .i64 i ∧ Hid (n ∉ l.take i)) (fun s => l.length - (RowKit.intOf s).toNat)
  case atStart => exact ⟨0, by omega, rfl, Lib.hid (by simp)⟩
  case round =>
    obtain ⟨i, hi, rfl, hnot⟩ := hrel
    by_cases hlt : i < l.length
    · have d0 : decide ((i : Int) < (l.length : Int)) = true := decide_eq_true (by omega)
      obtain ⟨b2, off, c', hform, _, _, hbl, hel⟩ := HV.out.form (by omega)
      obtain ⟨cs, hcl, hcs, hcell⟩ := hel i hlt
      subst hcs
      obtain ⟨rfl, rfl⟩ : A = some ⟨b2, off, none⟩ ∧ c = c' := by injection hform with h1 _ h2; exact ⟨h1, h2⟩
      obtain ⟨k, hk⟩ : ∃ k, k = l[i] := ⟨_, rfl⟩
      rw [← hk] at hcell
      have i0 : w.cell? ⟨b2, off + i, none⟩ = some (.int .i64 k) := by
        have h := hcell.at_ (j := 0) rfl
        simpa using h
      have HE : Hid (l.take (i + 1) = l.take i ++ [k]) := Lib.hid (by rw [List.take_succ_eq_append_getElem hlt, hk])
      have HM : Hid (k ∈ l) := Lib.hid (by rw [hk]; exact List.getElem_mem _)
      clear hcell hel hform hcl hk
      by_cases he : k = n
      · subst he
        have be : (k == k) = true := by simp
        have de : decide (k = k) = true := by simp
        have hm := decide_eq_true HM.out
        have HH := Lib.hid hm
        clear hm
        go_wp2
        go_ret
        exact ⟨by rw [HH.out]; rfl, rfl⟩
      · have be : (k == n) = false := by simp [he]
        have de : decide (k = n) = false := decide_eq_false he
        have HNE := Lib.hid he
        clear he
        go_wp2
        go_round
        case rel =>
          refine ⟨i + 1, by omega, by go_num, Lib.hid ?_⟩
          rw [HE.out, List.mem_append]
          rintro (h | h)
          · exact hnot.out h
          · exact HNE.out (List.mem_singleton.1 h).symm
        case measure => simp [RowKit.intOf]; omega
    · have d0 : decide ((i : Int) < (l.length : Int)) = false := decide_eq_false (by omega)
      obtain rfl : i = l.length := by omega
      go_wp2
      go_ret
      have h := hnot.out
      rw [List.take_length] at h
      exact ⟨by rw [decide_eq_false h]; rfl, rfl⟩

set_option maxHeartbeats 1000000 in
theorem After_out (f : LFlow) (hg : GoodF f) (k : Nat) (hk : f.blocks.length ≤ k) (hk2 : k ≤ 1000) (vb : Value) (w : World) (hv : SlR w (· < w.heap.size) 5 (RBlock w (· < w.heap.size)) vb f.blocks) :
    Calls Tryz.prog 25 #[.agg #[.string f.name, .int .i64 f.params, .int .i64 f.values, vb], .int .i64 k] w fun e w' => e = .returned (.slice none 0 0) ∧ Below w.heap.size w w' := by
  obtain ⟨A, c, hvr, hlc, hcm⟩ := hv.val
  have HV := Lib.hid hv
  have HG := Lib.hid hg
  clear hv hg
  subst hvr
  go_enter Tryz.func25, Tryz.ntmps25
  go_upto_region 1 with fail
  refine wp_world ?_
  intro W hW
  have hB : Below w.heap.size w W := by rw [← hW]; exact below1 _ _
  have hF : Blk W w.heap.size 35 #[.string f.name, .int .i64 f.params, .int .i64 f.values, .slice A f.blocks.length c] := by rw [← hW]; exact Blk.new_at _ _ _ rfl
  clear hW
  have c0 : W.cell? ⟨w.heap.size, 0, none⟩ = some (.string f.name) := hF.cell 0
  have c1 : W.cell? ⟨w.heap.size, 1, none⟩ = some (.int .i64 f.params) := hF.cell 1
  have c2 : W.cell? ⟨w.heap.size, 2, none⟩ = some (.int .i64 f.values) := hF.cell 2
  have c3 : W.cell? ⟨w.heap.size, 3, none⟩ = some (.slice A f.blocks.length c) := hF.cell 3
  have d0 : decide ((k : Int) < 0) = false := decide_eq_false (by omega)
  have d1 : decide ((f.blocks.length : Int) ≤ (k : Int)) = true := decide_eq_true (by omega)
  have d2 : decide (f.blocks.length ≤ k) = true := decide_eq_true (by omega)
  have HM := Lib.hid (may_any f HG.out (.slice A f.blocks.length c) W (HV.out.imp (fun _ h => Nat.lt_of_lt_of_le h hB.size) (fun b h => hB.block b h) (fun _ _ _ r => r.imp (fun _ h => Nat.lt_of_lt_of_le h hB.size) (fun b h => hB.block b h))))
  go_wp2_with (go_at_call 26; refine HM.out.mono ?_; rintro e w1 ⟨rfl, hb1⟩; have e3 : w1.cell? ⟨w.heap.size, 3, none⟩ = some (.slice A f.blocks.length c) := (hF.below hb1 hF.lt).cell 3)
  go_ret
  exact ⟨rfl, hB.trans (hb1.mono hB.size)⟩

theorem form_ints {w : World} {ok : Nat → Prop} {v : Value} {ls : List (List Int)} (h : SlR w ok 1 (RInts w ok) v ls) {i : Nat} (hi : i < ls.length) : ∃ b off A c, w.cell? ⟨b, off + i, none⟩ = some (.slice A ls[i].length c) ∧ (∃ n c', v = .slice (some ⟨b, off, none⟩) n c') ∧ SlR w ok 1 RInt (.slice A ls[i].length c) ls[i] := by
  obtain ⟨b, off, c', hform, _, _, hbl, hel⟩ := h.form (by omega)
  obtain ⟨cs, hcl, ⟨u, hcs, hs⟩, hcell⟩ := hel i hi
  obtain ⟨A, c, hu, _, _⟩ := hs.val
  subst hu
  subst hcs
  have h0 := hcell.at_ (j := 0) rfl
  exact ⟨b, off, A, c, by simpa using h0, ⟨_, _, hform⟩, hs⟩

set_option maxRecDepth 100000 in
set_option maxHeartbeats 4000000 in
theorem lists_same (ls : List (List Int)) (v u : Value) (ok : Nat → Prop) (w : World) (hv : SlR w ok 1 (RInts w ok) v ls) (hu : SlR w ok 1 (RInts w ok) u ls) :
    Calls Tryz.prog 24 #[v, u] w fun e w' => e = .returned (.bool true) ∧ Below w.heap.size w w' := by
  obtain ⟨A, c, hvr, hlc, hcm⟩ := hv.val
  obtain ⟨B, d, hur, hld, hdm⟩ := hu.val
  have HV := Lib.hid hv
  have HU := Lib.hid hu
  clear hv hu
  subst hvr
  subst hur
  have hlen := Nat.le_trans hlc hcm
  unfold maxLen at hlen
  have b0 : ((ls.length : Int) != (ls.length : Int)) = false := by simp
  go_enter Tryz.func24, Tryz.ntmps24
  go_wp2
  go_loopw [5] (fun s wr => ∃ i : Nat, i ≤ ls.length ∧ s = .int .i64 i ∧ ∃ nq, wr = w.drewN nq) (fun s _ => ls.length - (RowKit.intOf s).toNat)
  case atStart => exact ⟨0, by omega, rfl, 0, rfl⟩
  case round =>
    obtain ⟨i, hi, rfl, nq, rfl⟩ := hrel
    by_cases hlt : i < ls.length
    · have d0 : decide ((i : Int) < (ls.length : Int)) = true := decide_eq_true (by omega)
      obtain ⟨b1, o1, A1, c1, e1, ⟨_, _, f1⟩, g1⟩ := form_ints HV.out hlt
      obtain ⟨b2, o2, A2, c2, e2, ⟨_, _, f2⟩, g2⟩ := form_ints HU.out hlt
      obtain rfl : A = some ⟨b1, o1, none⟩ := by injection f1
      obtain rfl : B = some ⟨b2, o2, none⟩ := by injection f2
      obtain ⟨l, hl⟩ : ∃ l, l = ls[i] := ⟨_, rfl⟩
      rw [← hl] at e1 e2 g1 g2
      have hll := g1.len_le
      unfold maxLen at hll
      have b3 : ((l.length : Int) != (l.length : Int)) = false := by simp
      have G1 := Lib.hid g1
      have G2 := Lib.hid g2
      have p1 : (i : Int) < (ls.length : Int) := by omega
      clear f1 f2 g1 g2 hl
      go_wp2
      go_quiet (fail)
      go_wp2
      go_loopw [6] (fun s wr => ∃ j : Nat, j ≤ l.length ∧ s = .int .i64 j ∧ ∃ nq, wr = w.drewN nq) (fun s _ => l.length - (RowKit.intOf s).toNat)
      case atStart => exact ⟨0, by omega, rfl, _, World.drewN_drewN _ _ _⟩
      case round =>
        obtain ⟨j, hj, rfl, nq2, rfl⟩ := hrel
        by_cases hlt2 : j < l.length
        · have d1 : decide ((j : Int) < (l.length : Int)) = true := decide_eq_true (by omega)
          obtain ⟨b3, o3, c3, f3, _, _, _, q3⟩ := G1.out.form (by omega)
          obtain ⟨b4, o4, c4, f4, _, _, _, q4⟩ := G2.out.form (by omega)
          obtain rfl : A1 = some ⟨b3, o3, none⟩ := by injection f3
          obtain rfl : A2 = some ⟨b4, o4, none⟩ := by injection f4
          obtain ⟨cs3, _, r3, s3⟩ := q3 j hlt2
          obtain ⟨cs4, _, r4, s4⟩ := q4 j hlt2
          subst r3
          subst r4
          obtain ⟨k, hk⟩ : ∃ k, k = l[j] := ⟨_, rfl⟩
          rw [← hk] at s3 s4
          have i3 : w.cell? ⟨b3, o3 + j, none⟩ = some (.int .i64 k) := by have h := s3.at_ (j := 0) rfl; simpa using h
          have i4 : w.cell? ⟨b4, o4 + j, none⟩ = some (.int .i64 k) := by have h := s4.at_ (j := 0) rfl; simpa using h
          have b5 : (k != k) = false := by simp
          have p2 : (j : Int) < (l.length : Int) := by omega
          clear f3 f4 q3 q4 s3 s4 hk
          go_wp2
          go_quiet (fail)
          go_wp2
          go_roundw
          case rel => exact ⟨j + 1, by omega, by go_num, _, rfl⟩
          case measure => simp [RowKit.intOf]; omega
        · have d1 : decide ((j : Int) < (l.length : Int)) = false := decide_eq_false (by omega)
          go_wp2
          go_roundw
          case rel => exact ⟨i + 1, by omega, by go_num, _, rfl⟩
          case measure => simp [RowKit.intOf]; omega
    · have d0 : decide ((i : Int) < (ls.length : Int)) = false := decide_eq_false (by omega)
      go_wp2
      go_ret
      exact ⟨rfl, ⟨rfl, rfl, rfl, Nat.le_refl _, fun _ _ => rfl⟩⟩
end Go.Proofs.YtknccacfhknnaaaGreat

namespace Go.Proofs.YtknccacfhknnaaaGreat
open Go.RowKit Go.Maps

theorem slr_int1 {W : World} {g : Nat} {t : TypeId} {n : Int} {ok : Nat → Prop} (h : Blk W g t #[.int .i64 n]) (hok : ok g) : SlR W ok 1 RInt (.slice (some ⟨g, 0, none⟩) 1 1) [n] := by
  refine ⟨_, _, rfl, Nat.le_refl _, by unfold maxLen; omega, .inr ⟨g, 0, rfl, hok, fun i hi => ?_⟩⟩
  have hi' : i < 1 := hi
  obtain rfl : i = 0 := by omega
  refine ⟨_, rfl, rfl, fun j hj => ?_⟩
  have hj' : j < 1 := hj
  obtain rfl : j = 0 := by omega
  exact h.cell 0
theorem slr_rows2 {W : World} {g : Nat} {t : TypeId} {u v : Value} {a b : List Int} {ok : Nat → Prop} (h : Blk W g t #[u, v]) (hok : ok g) (hu : SlR W ok 1 RInt u a) (hv : SlR W ok 1 RInt v b) : SlR W ok 1 (RInts W ok) (.slice (some ⟨g, 0, none⟩) 2 2) [a, b] := by
  refine ⟨_, _, rfl, Nat.le_refl _, by unfold maxLen; omega, .inr ⟨g, 0, rfl, hok, fun i hi => ?_⟩⟩
  have hi' : i < 2 := hi
  rcases (by omega : i = 0 ∨ i = 1) with rfl | rfl
  · refine ⟨[u], rfl, ⟨u, rfl, hu⟩, fun j hj => ?_⟩
    have hj' : j < 1 := hj
    obtain rfl : j = 0 := by omega
    exact h.cell 0
  · refine ⟨[v], rfl, ⟨v, rfl, hv⟩, fun j hj => ?_⟩
    have hj' : j < 1 := hj
    obtain rfl : j = 0 := by omega
    exact h.cell 1
theorem lists_aw1 (v : Value) (w : World) (t1 t2 : TypeId) (hv : SlR w (· < w.heap.size) 1 (RInts w (· < w.heap.size)) v [[0], []]) :
    Calls Tryz.prog 24 #[v, .slice (some ⟨w.heap.size + 1, 0, none⟩) 2 2] ((w.alloc (.cells #[.int .i64 0] t1)).alloc (.cells #[.slice (some ⟨w.heap.size, 0, none⟩) 1 1, .slice none 0 0] t2)) fun e w' => e = .returned (.bool true) ∧ Below w.heap.size w w' := by
  have hB := below2 w (.cells #[.int .i64 0] t1) (.cells #[.slice (some ⟨w.heap.size, 0, none⟩) 1 1, .slice none 0 0] t2)
  have h1 : Blk ((w.alloc (.cells #[.int .i64 0] t1)).alloc (.cells #[.slice (some ⟨w.heap.size, 0, none⟩) 1 1, .slice none 0 0] t2)) w.heap.size t1 #[.int .i64 0] := (Blk.new_at _ _ _ rfl).alloc _
  have h2 : Blk ((w.alloc (.cells #[.int .i64 0] t1)).alloc (.cells #[.slice (some ⟨w.heap.size, 0, none⟩) 1 1, .slice none 0 0] t2)) (w.heap.size + 1) t2 #[.slice (some ⟨w.heap.size, 0, none⟩) 1 1, .slice none 0 0] := Blk.new_at _ _ _ (by simp)
  refine (lists_same [[0], []] _ _ (fun b => b < w.heap.size + 2) _ (hv.imp (fun b hb => by have : b < w.heap.size := hb; omega) (fun b hb => hB.block b hb) (fun _ _ _ r => mono_ints _ _ _ _ _ _ r (fun b hb => by have : b < w.heap.size := hb; omega) (fun b hb => hB.block b hb))) (slr_rows2 h2 (by omega) (slr_int1 h1 (by omega)) (SlR.nil_ _ _ _ _))).mono ?_
  rintro e w' ⟨he, hb⟩
  exact ⟨he, hB.trans (hb.mono hB.size)⟩
theorem lists_aw2 (v : Value) (w : World) (t1 t2 : TypeId) (hv : SlR w (· < w.heap.size) 1 (RInts w (· < w.heap.size)) v [[1], [1]]) :
    Calls Tryz.prog 24 #[v, .slice (some ⟨w.heap.size + 1 + 1, 0, none⟩) 2 2] (((w.alloc (.cells #[.int .i64 1] t1)).alloc (.cells #[.int .i64 1] t1)).alloc (.cells #[.slice (some ⟨w.heap.size, 0, none⟩) 1 1, .slice (some ⟨w.heap.size + 1, 0, none⟩) 1 1] t2)) fun e w' => e = .returned (.bool true) ∧ Below w.heap.size w w' := by
  have hB : Below w.heap.size w (((w.alloc (.cells #[.int .i64 1] t1)).alloc (.cells #[.int .i64 1] t1)).alloc (.cells #[.slice (some ⟨w.heap.size, 0, none⟩) 1 1, .slice (some ⟨w.heap.size + 1, 0, none⟩) 1 1] t2)) := (below2 w _ _).alloc (by simp <;> omega) _
  have h1 : Blk (((w.alloc (.cells #[.int .i64 1] t1)).alloc (.cells #[.int .i64 1] t1)).alloc (.cells #[.slice (some ⟨w.heap.size, 0, none⟩) 1 1, .slice (some ⟨w.heap.size + 1, 0, none⟩) 1 1] t2)) w.heap.size t1 #[.int .i64 1] := ((Blk.new_at _ _ _ rfl).alloc _).alloc _
  have h3 : Blk (((w.alloc (.cells #[.int .i64 1] t1)).alloc (.cells #[.int .i64 1] t1)).alloc (.cells #[.slice (some ⟨w.heap.size, 0, none⟩) 1 1, .slice (some ⟨w.heap.size + 1, 0, none⟩) 1 1] t2)) (w.heap.size + 1) t1 #[.int .i64 1] := (Blk.new_at _ _ _ (by simp)).alloc _
  have h2 : Blk (((w.alloc (.cells #[.int .i64 1] t1)).alloc (.cells #[.int .i64 1] t1)).alloc (.cells #[.slice (some ⟨w.heap.size, 0, none⟩) 1 1, .slice (some ⟨w.heap.size + 1, 0, none⟩) 1 1] t2)) (w.heap.size + 1 + 1) t2 #[.slice (some ⟨w.heap.size, 0, none⟩) 1 1, .slice (some ⟨w.heap.size + 1, 0, none⟩) 1 1] := Blk.new_at _ _ _ (by simp)
  refine (lists_same [[1], [1]] _ _ (fun b => b < w.heap.size + 3) _ (hv.imp (fun b hb => by have : b < w.heap.size := hb; omega) (fun b hb => hB.block b hb) (fun _ _ _ r => mono_ints _ _ _ _ _ _ r (fun b hb => by have : b < w.heap.size := hb; omega) (fun b hb => hB.block b hb))) (slr_rows2 h2 (by omega) (slr_int1 h1 (by omega)) (slr_int1 h3 (by omega)))).mono ?_
  rintro e w' ⟨he, hb⟩
  exact ⟨he, hB.trans (hb.mono hB.size)⟩
theorem aw_slr {W : World} {b1 b2 : Nat} (h1 : Blk W b1 44 #[.int .i64 2, .int .i64 1, .int .i64 0, .int .i64 0, .int .i64 0, .int .i64 0, .string sNone, .slice none 0 0])
    (h2 : Blk W b2 48 #[.slice (some ⟨b1, 0, none⟩) 1 1, .int .i64 3, .int .i64 1, .int .i64 0, .int .i64 0, .slice none 0 0, .int .i64 1, .int .i64 0, .int .i64 1, .int .i64 0]) :
    SlR W (· < W.heap.size) 5 (RBlock W (· < W.heap.size)) (.slice (some ⟨b2, 0, none⟩) 2 2) awF.blocks := by
  have hl1 := h1.lt
  have hl2 := h2.lt
  refine ⟨some ⟨b2, 0, none⟩, 2, rfl, Nat.le_refl 2, by unfold maxLen; omega, .inr ⟨b2, 0, rfl, hl2, fun i hi => ?_⟩⟩
  have hi' : i < 2 := hi
  rcases (by omega : i = 0 ∨ i = 1) with rfl | rfl
  · refine ⟨.slice (some ⟨b1, 0, none⟩) 1 1 :: termCells awB0.term, rfl, ⟨_, rfl, ?_⟩, fun j hj => ?_⟩
    · refine ⟨some ⟨b1, 0, none⟩, 1, rfl, Nat.le_refl 1, by unfold maxLen; omega, .inr ⟨b1, 0, rfl, hl1, fun k hk => ?_⟩⟩
      have hk' : k < 1 := hk
      obtain rfl : k = 0 := by omega
      refine ⟨insCells awI (.slice none 0 0), rfl, ⟨_, rfl, SlR.nil_ _ _ _ _⟩, fun j hj => ?_⟩
      have hj' : j < 8 := hj
      rcases (by omega : j = 0 ∨ j = 1 ∨ j = 2 ∨ j = 3 ∨ j = 4 ∨ j = 5 ∨ j = 6 ∨ j = 7) with rfl | rfl | rfl | rfl | rfl | rfl | rfl | rfl <;> exact h1.cell _
    · have hj' : j < 5 := hj
      rcases (by omega : j = 0 ∨ j = 1 ∨ j = 2 ∨ j = 3 ∨ j = 4) with rfl | rfl | rfl | rfl | rfl <;> exact h2.cell _
  · refine ⟨.slice none 0 0 :: termCells awB1.term, rfl, ⟨_, rfl, SlR.nil_ _ _ _ _⟩, fun j hj => ?_⟩
    have hj' : j < 5 := hj
    rcases (by omega : j = 0 ∨ j = 1 ∨ j = 2 ∨ j = 3 ∨ j = 4) with rfl | rfl | rfl | rfl | rfl <;> exact h2.cell _

/-- the world in which the example lies -/
structure AwW (f b1 b2 : Nat) (W : World) : Prop where
  h0 : Blk W f 35 #[.string sF, .int .i64 1, .int .i64 2, .slice (some ⟨b2, 0, none⟩) 2 2]
  h1 : Blk W b1 44 #[.int .i64 2, .int .i64 1, .int .i64 0, .int .i64 0, .int .i64 0, .int .i64 0, .string sNone, .slice none 0 0]
  h2 : Blk W b2 48 #[.slice (some ⟨b1, 0, none⟩) 1 1, .int .i64 3, .int .i64 1, .int .i64 0, .int .i64 0, .slice none 0 0, .int .i64 1, .int .i64 0, .int .i64 1, .int .i64 0]
theorem AwW.below {f b1 b2 : Nat} {W W' : World} (h : AwW f b1 b2 W) (hb : Below W.heap.size W W') : AwW f b1 b2 W' := ⟨h.h0.below hb h.h0.lt, h.h1.below hb h.h1.lt, h.h2.below hb h.h2.lt⟩
theorem AwW.slr {f b1 b2 : Nat} {W : World} (h : AwW f b1 b2 W) : SlR W (· < W.heap.size) 5 (RBlock W (· < W.heap.size)) (.slice (some ⟨b2, 0, none⟩) 2 2) awF.blocks := aw_slr h.h1 h.h2

theorem aw_reach_any {f b1 b2 : Nat} {W : World} (h : AwW f b1 b2 W) : Calls Tryz.prog 17 #[.agg #[.string ⟨#[102]⟩, .int .i64 1, .int .i64 2, .slice (some ⟨b2, 0, none⟩) 2 2]] W fun e w' => ∃ b off c, e = .returned (.slice (some ⟨b, off, none⟩) 2 c) ∧ Below W.heap.size W w' ∧ w'.cell? ⟨b, off, none⟩ = some (.bool true) ∧ w'.cell? ⟨b, off + 1, none⟩ = some (.bool false) ∧ b < w'.heap.size := by
  refine (reach_any awF aw_good (by decide) (by decide) (.slice (some ⟨b2, 0, none⟩) 2 2) W h.slr).mono ?_
  rintro e w' ⟨v, M, rfl, hb, hs, hl, hv⟩
  obtain rfl := aw_reach hl (hv (by decide))
  obtain ⟨b, off, c, hf, _, _, hok, hi⟩ := hs.form (by decide)
  obtain ⟨c0, _, r0, s0⟩ := hi 0 (by decide)
  obtain ⟨c1, _, r1, s1⟩ := hi 1 (by decide)
  subst r0
  subst r1
  refine ⟨b, off, c, by rw [hf]; rfl, hb, ?_, ?_, hok.2⟩
  · have := s0.at_ (j := 0) rfl; simpa using this
  · have := s1.at_ (j := 0) rfl; simpa using this
theorem aw_live_any {f b1 b2 : Nat} {W : World} (h : AwW f b1 b2 W) : Calls Tryz.prog 14 #[.agg #[.string ⟨#[102]⟩, .int .i64 1, .int .i64 2, .slice (some ⟨b2, 0, none⟩) 2 2]] W fun e w' => ∃ A c, e = .returned (.slice A 2 c) ∧ Below W.heap.size W w' ∧ SlR w' (· < w'.heap.size) 1 (RInts w' (· < w'.heap.size)) (.slice A 2 c) [[0], []] := by
  refine (live_any awF aw_good (by decide) (.slice (some ⟨b2, 0, none⟩) 2 2) W h.slr).mono ?_
  rintro e w' ⟨v, rfl, hb, hs⟩
  rw [aw_lives] at hs
  obtain ⟨A, c, hv, _, _⟩ := hs.val
  subst hv
  exact ⟨A, c, rfl, hb, hs.imp (fun b hb => hb.2) (Keeps.refl _ _) (fun _ _ _ r => mono_ints _ _ _ _ _ _ r (fun b hb => hb.2) (Keeps.refl _ _))⟩
theorem aw_after_any {f b1 b2 : Nat} {W : World} (h : AwW f b1 b2 W) : Calls Tryz.prog 25 #[.agg #[.string ⟨#[102]⟩, .int .i64 1, .int .i64 2, .slice (some ⟨b2, 0, none⟩) 2 2], .int .i64 0] W fun e w' => ∃ A c, e = .returned (.slice A 2 c) ∧ Below W.heap.size W w' ∧ SlR w' (· < w'.heap.size) 1 (RInts w' (· < w'.heap.size)) (.slice A 2 c) [[1], [1]] := by
  refine (After_any awF aw_good (by decide) 0 (by decide) (by decide) (.slice (some ⟨b2, 0, none⟩) 2 2) W h.slr).mono ?_
  rintro e w' ⟨v, rfl, hb, hs⟩
  change SlR w' _ 1 _ v (afterL awB0.ins (endS awB0.term (liveS awF))) at hs
  rw [aw_afters] at hs
  obtain ⟨A, c, hv, _, _⟩ := hs.val
  subst hv
  exact ⟨A, c, rfl, hb, hs.imp (fun b hb => hb.2) (Keeps.refl _ _) (fun _ _ _ r => mono_ints _ _ _ _ _ _ r (fun b hb => hb.2) (Keeps.refl _ _))⟩
theorem aw_out_any {f b1 b2 : Nat} {W : World} (h : AwW f b1 b2 W) : Calls Tryz.prog 25 #[.agg #[.string ⟨#[102]⟩, .int .i64 1, .int .i64 2, .slice (some ⟨b2, 0, none⟩) 2 2], .int .i64 2] W fun e w' => e = .returned (.slice none 0 0) ∧ Below W.heap.size W w' :=
  After_out awF aw_good 2 (by decide) (by decide) (.slice (some ⟨b2, 0, none⟩) 2 2) W h.slr

set_option maxRecDepth 100000 in
set_option maxHeartbeats 4000000 in
theorem awake13_any (w : World) : Calls Tryz.prog 12 #[] w fun e w' => e = .returned (.bool true) ∧ Below w.heap.size w w' := by
  go_enter Tryz.func12, Tryz.ntmps12
  go_upto_region 2 with fail
  refine wp_world ?_
  intro W hW
  have hB : Below w.heap.size w W := by rw [← hW]; exact (((Below.refl _ _).alloc (Nat.le_refl _) _).alloc (by simp) _).alloc (by simp <;> omega) _
  have hA : AwW (w.heap.size + 1 + 1) w.heap.size (w.heap.size + 1) W := by
    rw [← hW]
    exact ⟨Blk.new_at _ _ _ (by simp), ((Blk.new_at _ _ _ rfl).alloc _).alloc _, (Blk.new_at _ _ _ (by simp)).alloc _⟩
  clear hW
  have c0 : W.cell? ⟨w.heap.size + 1 + 1, 0, none⟩ = some (.string ⟨#[102]⟩) := hA.h0.cell 0
  have c1 : W.cell? ⟨w.heap.size + 1 + 1, 1, none⟩ = some (.int .i64 1) := hA.h0.cell 1
  have c2 : W.cell? ⟨w.heap.size + 1 + 1, 2, none⟩ = some (.int .i64 2) := hA.h0.cell 2
  have c3 : W.cell? ⟨w.heap.size + 1 + 1, 3, none⟩ = some (.slice (some ⟨w.heap.size + 1, 0, none⟩) 2 2) := hA.h0.cell 3
  have HA := Lib.hid hA
  have tok1 : True := trivial
  have tok2 : True := trivial
  clear hA
  go_upto_region 3 with (go_at_call 17; refine (aw_reach_any HA.out).mono ?_; rintro e w1 ⟨b, off, c, rfl, hb1, r0, r1, hbl⟩)
  clear c0 c1 c2 c3
  have hA1 := HA.out.below hb1
  have hB1 := hB.trans (hb1.mono hB.size)
  have c0 : w1.cell? ⟨w.heap.size + 1 + 1, 0, none⟩ = some (.string ⟨#[102]⟩) := hA1.h0.cell 0
  have c1 : w1.cell? ⟨w.heap.size + 1 + 1, 1, none⟩ = some (.int .i64 1) := hA1.h0.cell 1
  have c2 : w1.cell? ⟨w.heap.size + 1 + 1, 2, none⟩ = some (.int .i64 2) := hA1.h0.cell 2
  have c3 : w1.cell? ⟨w.heap.size + 1 + 1, 3, none⟩ = some (.slice (some ⟨w.heap.size + 1, 0, none⟩) 2 2) := hA1.h0.cell 3
  have HA1 := Lib.hid hA1
  have HB1 := Lib.hid hB1
  clear hA1 hB1 hb1 hB
  go_wp2_with (first | (go_at_call 14; refine (aw_live_any HA1.out).mono ?_; rintro e w2 ⟨A2, c2', rfl, hb2, hs2⟩; have HL1 := Lib.hid (lists_aw1 _ w2 3 23 hs2); have HB2 := Lib.hid hb2; have HA2 := Lib.hid (HA1.out.below hb2); clear hb2 hs2) | (go_at_call 24; have _t := tok1; refine HL1.out.mono ?_; rintro e w3 ⟨rfl, hb3⟩; have HB3 := Lib.hid hb3; have HA3 := Lib.hid (HA2.out.below hb3); have d0 : w3.cell? ⟨w.heap.size + 1 + 1, 0, none⟩ = some (.string ⟨#[102]⟩) := HA3.out.h0.cell 0; have d1 : w3.cell? ⟨w.heap.size + 1 + 1, 1, none⟩ = some (.int .i64 1) := HA3.out.h0.cell 1; have d2 : w3.cell? ⟨w.heap.size + 1 + 1, 2, none⟩ = some (.int .i64 2) := HA3.out.h0.cell 2; have d3 : w3.cell? ⟨w.heap.size + 1 + 1, 3, none⟩ = some (.slice (some ⟨w.heap.size + 1, 0, none⟩) 2 2) := HA3.out.h0.cell 3; clear tok1 hb3) | (go_at_call 25; have _t := tok2; refine (aw_after_any HA3.out).mono ?_; rintro e w4 ⟨A4, c4', rfl, hb4, hs4⟩; have HL2 := Lib.hid (lists_aw2 _ w4 3 23 hs4); have HB4 := Lib.hid hb4; have HA4 := Lib.hid (HA3.out.below hb4); clear hb4 hs4 tok2) | (go_at_call 24; refine HL2.out.mono ?_; rintro e w5 ⟨rfl, hb5⟩; have HB5 := Lib.hid hb5; have HA5 := Lib.hid (HA4.out.below hb5); have e0 : w5.cell? ⟨w.heap.size + 1 + 1, 0, none⟩ = some (.string ⟨#[102]⟩) := HA5.out.h0.cell 0; have e1 : w5.cell? ⟨w.heap.size + 1 + 1, 1, none⟩ = some (.int .i64 1) := HA5.out.h0.cell 1; have e2 : w5.cell? ⟨w.heap.size + 1 + 1, 2, none⟩ = some (.int .i64 2) := HA5.out.h0.cell 2; have e3 : w5.cell? ⟨w.heap.size + 1 + 1, 3, none⟩ = some (.slice (some ⟨w.heap.size + 1, 0, none⟩) 2 2) := HA5.out.h0.cell 3; clear hb5) | (go_at_call 25; refine (aw_out_any HA5.out).mono ?_; rintro e w6 ⟨rfl, hb6⟩; have HB6 := Lib.hid hb6; clear hb6))
  go_ret
  have q2 := HB1.out.trans (HB2.out.mono HB1.out.size)
  have q3 := q2.trans (HB3.out.mono q2.size)
  have q4 := q3.trans (HB4.out.mono q3.size)
  have q5 := q4.trans (HB5.out.mono q4.size)
  exact ⟨rfl, q5.trans (HB6.out.mono q5.size)⟩
end Go.Proofs.YtknccacfhknnaaaGreat
