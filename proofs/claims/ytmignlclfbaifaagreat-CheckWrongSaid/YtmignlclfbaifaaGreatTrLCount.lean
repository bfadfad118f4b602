/- How many statements there are: counterprooflaw05.count. Printed by wip/gen_trlcount.py. -/
import Derived.Test.YtmignlclfbaifaaGreatTrLRows
namespace Go.Proofs.YtmignlclfbaifaaGreat
open Go.RowKit

def partN (d : Nat) (loop : Bool) (s : LStmt) : Nat := (allL d s.thn (loop || decide (s.kind = 4))).length + (allL d s.els loop).length
theorem all_sum (d : Nat) (loop : Bool) : ∀ l : List LStmt, (allL (d + 1) l loop).length = l.length + (l.map (partN d loop)).sum
  | [] => rfl
  | s :: r => by
    have h := all_sum d loop r
    show ((s :: r).flatMap fun s => (s, loop) :: (allL d s.thn (loop || decide (s.kind = 4)) ++ allL d s.els loop)).length = _
    rw [List.flatMap_cons, List.length_append, List.length_cons, List.length_append, List.length_cons, List.map_cons, List.sum_cons]
    have h2 : (r.flatMap fun s => (s, loop) :: (allL d s.thn (loop || decide (s.kind = 4)) ++ allL d s.els loop)).length = r.length + (r.map (partN d loop)).sum := h
    rw [h2]
    unfold partN
    omega
theorem sum_take {l : List LStmt} {f : LStmt → Nat} {i : Nat} (hi : i < l.length) : ((l.take (i + 1)).map f).sum = ((l.take i).map f).sum + f l[i] := by
  rw [List.take_succ_eq_append_getElem hi, List.map_append, List.sum_append]
  simp
theorem sum_le {f : LStmt → Nat} : ∀ (l : List LStmt) (i : Nat), ((l.take i).map f).sum ≤ (l.map f).sum
  | [], i => by simp
  | s :: r, 0 => by simp
  | s :: r, i + 1 => by
    have h := sum_le (f := f) r i
    rw [List.take_succ_cons, List.map_cons, List.map_cons, List.sum_cons, List.sum_cons]
    omega
theorem part_le {f : LStmt → Nat} {l : List LStmt} {i : Nat} (hi : i < l.length) : ((l.take i).map f).sum + f l[i] ≤ (l.map f).sum := by
  rw [← sum_take hi]; exact sum_le l (i + 1)
set_option maxRecDepth 100000 in
set_option maxHeartbeats 8000000 in
theorem count_any : ∀ (d : Nat) (l : List LStmt) (loop : Bool) (w : World) (v : Value), SlR w (· < w.heap.size) 5 (RStmt d w (· < w.heap.size)) v l → (allL d l loop).length ≤ 20000 →
    Calls Tryz.prog 20 #[v] w fun e w' => e = .returned (.int .i64 ((allL d l loop).length : Int)) ∧ Below w.heap.size w w'
  | 0, l, loop, w, v, hr, hl => by
    have h0 : l = [] := by
      cases l with
      | nil => rfl
      | cons s r =>
        obtain ⟨_, _, _, _, _, _, _, hel⟩ := hr.form (by simp)
        obtain ⟨_, _, h, _⟩ := hel 0 (by simp)
        exact h.elim
    subst h0
    obtain ⟨Al, cl, rfl, _, _⟩ := hr.val
    clear hr hl
    go_enter Tryz.func20, Tryz.ntmps20
    go_wp2
    go_loopw [3, 4] (fun s t wr => s = .int .i64 0 ∧ t = .int .i64 0 ∧ wr = w) (fun _ _ _ => 0)
    case atStart => exact ⟨rfl, rfl, rfl⟩
    case round =>
      obtain ⟨rfl, rfl, hw⟩ := hrel
      go_wp2
      go_ret
      exact ⟨rfl, Below.refl _ _⟩
  | d + 1, l, loop, w, v, hr, hl => by
    obtain ⟨Al, cl, hv, _, _⟩ := hr.val
    subst hv
    have IH := Lib.hid (count_any d)
    obtain ⟨n, hn⟩ : ∃ n, n = l.length := ⟨_, rfl⟩
    have hsum := all_sum d loop l
    have HSUM := Lib.hid hsum
    have hn4 : n ≤ 20000 := by rw [hn]; omega
    have HL := Lib.hid hl
    have HR := Lib.hid hr
    have HN := Lib.hid hn
    rw [← hn]
    clear hr hl hsum hn
    go_enter Tryz.func20, Tryz.ntmps20
    go_wp2
    go_loopw [3, 4] (fun s t wr => ∃ i q : Nat, i ≤ n ∧ q = n + ((l.take i).map (partN d loop)).sum ∧ s = .int .i64 (q : Int) ∧ t = .int .i64 (i : Int) ∧ Below w.heap.size w wr) (fun _ t _ => n - (intOf t).toNat)
    case atStart => exact ⟨0, n, Nat.zero_le _, by simp, rfl, rfl, Below.refl _ _⟩
    case round =>
      obtain ⟨i, q, hi, hq, rfl, rfl, hbr⟩ := hrel
      have HB := Lib.hid hbr
      have HQ := Lib.hid hq
      clear hbr hq
      by_cases hlt : i < n
      · have d1 : decide ((i : Int) < (n : Int)) = true := decide_eq_true (by omega)
        have hil : i < l.length := by rw [← HN.out]; exact hlt
        have hpl := part_le (f := partN d loop) hil
        have hst := sum_take (f := partN d loop) hil
        have hle : q + partN d loop l[i] ≤ 20000 := by have h1 := HQ.out; have h2 := HSUM.out; have h3 := HL.out; have h4 := HN.out; omega
        obtain ⟨b, off, c', hform, -, -, hbl, hel⟩ := HR.out.form (by omega)
        obtain ⟨rfl, rfl⟩ : Al = some ⟨b, off, none⟩ ∧ cl = c' := by injection hform with h1 _ h2; exact ⟨h1, h2⟩
        obtain ⟨cs, -, ⟨va, vt, ve, hcs, -, ht, he⟩, hcell⟩ := hel i hil
        subst hcs
        obtain ⟨x, hx⟩ : ∃ x, x = l[i] := ⟨_, rfl⟩
        rw [← hx] at ht he hle hst
        obtain ⟨kt, hkt⟩ : ∃ k, k = (allL d x.thn (loop || decide (x.kind = 4))).length := ⟨_, rfl⟩
        obtain ⟨ke, hke⟩ : ∃ k, k = (allL d x.els loop).length := ⟨_, rfl⟩
        have hpe : partN d loop x = kt + ke := by rw [hkt, hke]; rfl
        have hkq : q + (kt + ke) ≤ 20000 := by rw [← hpe]; exact hle
        have H1 : Hid (∀ X, Below w.heap.size w X → Calls Tryz.prog 20 #[vt] X fun e w' => e = .returned (.int .i64 (kt : Int)) ∧ Below X.heap.size X w') := Lib.hid (fun X hX => by
          rw [hkt]
          exact IH.out x.thn _ X vt (ht.imp (fun _ h => Nat.lt_of_lt_of_le h hX.size) (Keeps.of_below hX) fun _ _ _ r => r.imp (fun _ h => Nat.lt_of_lt_of_le h hX.size) (Keeps.of_below hX)) (by rw [← hkt]; omega))
        have H2 : Hid (∀ X, Below w.heap.size w X → Calls Tryz.prog 20 #[ve] X fun e w' => e = .returned (.int .i64 (ke : Int)) ∧ Below X.heap.size X w') := Lib.hid (fun X hX => by
          rw [hke]
          exact IH.out x.els _ X ve (he.imp (fun _ h => Nat.lt_of_lt_of_le h hX.size) (Keeps.of_below hX) fun _ _ _ r => r.imp (fun _ h => Nat.lt_of_lt_of_le h hX.size) (Keeps.of_below hX)) (by rw [← hke]; omega))
        obtain ⟨At, ct, rfl, _, _⟩ := ht.val
        obtain ⟨Ae, ce, rfl, _, _⟩ := he.val
        have HC : Hid (∀ X, Below w.heap.size w X → X.cell? ⟨b, off + i * 5 + 3, none⟩ = some (.slice At x.thn.length ct) ∧ X.cell? ⟨b, off + i * 5 + 4, none⟩ = some (.slice Ae x.els.length ce)) := Lib.hid (fun X hX => by
          have q := hcell.keep (hX.block b hbl)
          exact ⟨q.at_ (j := 3) rfl, q.at_ (j := 4) rfl⟩)
        have HST : Hid (((l.take (i + 1)).map (partN d loop)).sum = ((l.take i).map (partN d loop)).sum + (kt + ke)) := Lib.hid (by rw [hst, hpe])
        have HLT := Lib.hid hlt
        have hi1 : (i : Int) < (n : Int) := by omega
        have hi2 : ¬ (i : Int) < 0 := by omega
        clear hil hpl hst hle hform hbl hel ht he hcell hx hkt hke hpe
        go_upto_region 5 with fail
        have HX0 : Hid (Below w.heap.size w wr.drew) := Lib.hid HB.out.drew
        refine wp_region_L (by kernel_rfl) 15 (fun X => X.cell? ⟨b, off + i * 5 + 3, none⟩ = some (.slice At x.thn.length ct) ∧ X.cell? ⟨b, off + i * 5 + 4, none⟩ = some (.slice Ae x.els.length ce)) (HC.out _ HX0.out) (fun hHeld => ?_)
        have HS0 := Lib.hid hHeld
        clear hHeld
        change wpAnyL _ _ _ _ _ 15 16 (Array.replicate 16 false) _ _
        obtain ⟨X0, hX0⟩ : ∃ X0, wr.drew = X0 := ⟨_, rfl⟩
        rw [hX0] at HX0 HS0 ⊢
        clear hX0
        refine takeL 0 13 (.int .i64 (q : Int)) HS0.out rfl rfl (by kernel_rfl) (by kernel_rfl) (by kernel_rfl) (by decide) (fun _ _ _ h => h) (by kernel_rfl) ?_ ?_
        · intro w2; go_simp
        try simp only [sA, sB, sC]
        refine takeL 1 14 (.slice (some ⟨b, off, none⟩) n cl) HS0.out rfl rfl (by kernel_rfl) (by kernel_rfl) (by kernel_rfl) (by decide) (fun _ _ _ h => h) (by kernel_rfl) ?_ ?_
        · intro w2; go_simp
        try simp only [sA, sB, sC]
        refine takeL 2 15 (.int .i64 (i : Int)) HS0.out rfl rfl (by kernel_rfl) (by kernel_rfl) (by kernel_rfl) (by decide) (fun _ _ _ h => h) (by kernel_rfl) ?_ ?_
        · intro w2; go_simp
        try simp only [sA, sB, sC]
        refine takeL 3 16 (.pointer (some ⟨b, off + i * 5, none⟩)) HS0.out rfl rfl (by kernel_rfl) (by kernel_rfl) (by kernel_rfl) (by decide) (fun _ _ _ h => h) (by kernel_rfl) ?_ ?_
        · intro w2; go_simp
        try simp only [sA, sB, sC]
        refine takeL 4 17 (.pointer (some ⟨b, off + i * 5 + 3, none⟩)) HS0.out rfl rfl (by kernel_rfl) (by kernel_rfl) (by kernel_rfl) (by decide) (fun _ _ _ h => h) (by kernel_rfl) ?_ ?_
        · intro w2; go_simp
        try simp only [sA, sB, sC]
        refine takeL_S 5 18 (.slice At x.thn.length ct) [15] HS0.out rfl rfl (by kernel_rfl) (by kernel_rfl) (by kernel_rfl) (by decide) (by kernel_rfl) (fun _ _ _ h => h) (by kernel_rfl) ?_ ?_
        · intro w2 hSw; obtain ⟨g0, g1⟩ := hSw; go_simp
        try simp only [sA, sB, sC]
        refine takeL 8 21 (.slice (some ⟨b, off, none⟩) n cl) HS0.out rfl rfl (by kernel_rfl) (by kernel_rfl) (by kernel_rfl) (by decide) (fun _ _ _ h => h) (by kernel_rfl) ?_ ?_
        · intro w2; go_simp
        try simp only [sA, sB, sC]
        refine takeL 9 22 (.int .i64 (i : Int)) HS0.out rfl rfl (by kernel_rfl) (by kernel_rfl) (by kernel_rfl) (by decide) (fun _ _ _ h => h) (by kernel_rfl) ?_ ?_
        · intro w2; go_simp
        try simp only [sA, sB, sC]
        refine takeL 10 23 (.pointer (some ⟨b, off + i * 5, none⟩)) HS0.out rfl rfl (by kernel_rfl) (by kernel_rfl) (by kernel_rfl) (by decide) (fun _ _ _ h => h) (by kernel_rfl) ?_ ?_
        · intro w2; go_simp
        try simp only [sA, sB, sC]
        refine takeL 11 24 (.pointer (some ⟨b, off + i * 5 + 4, none⟩)) HS0.out rfl rfl (by kernel_rfl) (by kernel_rfl) (by kernel_rfl) (by decide) (fun _ _ _ h => h) (by kernel_rfl) ?_ ?_
        · intro w2; go_simp
        try simp only [sA, sB, sC]
        refine takeL_S 12 25 (.slice Ae x.els.length ce) [15] HS0.out rfl rfl (by kernel_rfl) (by kernel_rfl) (by kernel_rfl) (by decide) (by kernel_rfl) (fun _ _ _ h => h) (by kernel_rfl) ?_ ?_
        · intro w2 hSw; obtain ⟨g0, g1⟩ := hSw; go_simp
        try simp only [sA, sB, sC]
        refine wpAnyL_ready (rs := [6]) (by kernel_rfl) (by simp) ?_
        refine AllReadyL.cons rfl (fun K hK => ?_) AllReadyL.nil
        go_simp
        refine (H1.out X0 HX0.out).mono ?_
        rintro e X1 ⟨rfl, hb⟩
        have HX1 := Lib.hid (HX0.out.trans (hb.mono HX0.out.size))
        clear hb
        refine hK.out _ _ (HC.out _ HX1.out) (fun hHeld => ?_)
        have HS1 := Lib.hid hHeld
        clear hK K hHeld
        try simp only [sA, sB, sC]
        refine takeL 7 20 (.int .i64 ((q + kt : Nat) : Int)) HS1.out rfl rfl (by kernel_rfl) (by kernel_rfl) (by kernel_rfl) (by decide) (fun _ _ _ h => h) (by kernel_rfl) ?_ ?_
        · intro w2; go_simp; rw [IntKind.wrap_i64]; omega
        try simp only [sA, sB, sC]
        refine wpAnyL_ready (rs := [13]) (by kernel_rfl) (by simp) ?_
        refine AllReadyL.cons rfl (fun K hK => ?_) AllReadyL.nil
        go_simp
        refine (H2.out X1 HX1.out).mono ?_
        rintro e X2 ⟨rfl, hb⟩
        have HX2 := Lib.hid (HX1.out.trans (hb.mono HX1.out.size))
        clear hb
        refine hK.out _ _ (HC.out _ HX2.out) (fun hHeld => ?_)
        have HS2 := Lib.hid hHeld
        clear hK K hHeld
        try simp only [sA, sB, sC]
        refine takeL 14 27 (.int .i64 ((q + kt + ke : Nat) : Int)) HS2.out rfl rfl (by kernel_rfl) (by kernel_rfl) (by kernel_rfl) (by decide) (fun _ _ _ h => h) (by kernel_rfl) ?_ ?_
        · intro w2; go_simp; rw [IntKind.wrap_i64]; omega
        try simp only [sA, sB, sC]
        refine wpAnyL_ready (rs := [15]) (by kernel_rfl) (by simp) ?_
        refine AllReadyL.last rfl (by kernel_rfl) (fun K hK => ?_)
        go_simp
        refine hK.out _ _ ?_
        clear hK K
        try simp only [sA, sB, sC]
        refine wpAnyL_done (by kernel_rfl) ?_ _
        go_wp2
        go_roundw
        case rel => exact ⟨i + 1, q + kt + ke, HLT.out, by rw [HST.out, HQ.out]; omega, by rfl, by go_num, HX2.out⟩
        case measure => have := HLT.out; simp [intOf]; omega
      · have hin : i = n := by omega
        have d1 : decide ((i : Int) < (n : Int)) = false := decide_eq_false (by omega)
        have HI := Lib.hid hin
        clear hin
        go_wp2
        go_ret
        have hfin : q = (allL (d + 1) l loop).length := by rw [HSUM.out, HQ.out, HI.out, HN.out, List.take_length]
        exact ⟨congrArg (fun x : Nat => Ending.returned (Value.int .i64 (x : Int))) hfin, HB.out⟩
end Go.Proofs.YtmignlclfbaifaaGreat
