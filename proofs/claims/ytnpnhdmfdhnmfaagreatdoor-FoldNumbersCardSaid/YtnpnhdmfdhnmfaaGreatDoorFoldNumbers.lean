/- A block that works on numbers alone becomes numbers: the walk of 'FoldNumbersSaid'. Printed by wip/gen_foldnumbers.py. -/
import Derived.Test.YtnpnhdmfdhnmfaaGreatDoorNumRun
import Derived.Test.YtnpnhdmfdhnmfaaGreatDoorAw14
import Derived.Test.YtnpnhdmfdhnmfaaGreatDoorAw11
import Derived.Test.YtnpnhdmfdhnmfaaGreatDoorArgsI
import Derived.BigQuiet
namespace Go.Proofs.YtnpnhdmfdhnmfaaGreatDoor
open Go.RowKit
open Go.Deep

theorem run_un {u : LUnit} (hu : UnitOk u) {m : MRun} {inp : List Int} {n : Nat} (hn : n ≤ 20000) {X : World} {A1 A2 : Option Addr} {c1 c2 : Nat} (h : UIn u X A1 A2 c1 c2) {vin : Value} (hin : SlR X (· < X.heap.size) 1 RInt vin inp) (h1 : (runU u inp n).status = m.status) (h2 : (runU u inp n).code = m.code) (h3 : (runU u inp n).out = m.out) (h4 : (runU u inp n).steps = m.steps) :
    Calls Tryz.prog 30 #[.agg #[.slice A1 u.arrays.length c1, .slice A2 u.flows.length c2], vin, .int .i64 (n : Int)] X fun e X' => ∃ A c, e = .returned (.agg #[.int .i64 m.status, .int .i64 m.code, .slice A m.out.length c, .int .i64 m.steps]) ∧ Below X.heap.size X X' := by
  refine (run_any u hu inp n hn A1 A2 c1 c2 vin X h.arr h.flo hin).mono ?_
  rintro e X' ⟨vout, he, hb, ho⟩
  rw [h1, h2, h4] at he
  rw [h3] at ho
  obtain ⟨A, c, hv⟩ := own_form ho
  subst hv
  exact ⟨A, c, he, hb⟩
def insC9 (x : LIns) : List Value := insCells x (.slice none 0 0)
def rowC (l : List LIns) : List Value := (l.map insC9).flatten
theorem rowC_snoc (l : List LIns) (x : LIns) : rowC (l ++ [x]) = rowC l ++ insC9 x := by unfold rowC; simp
/-- a block that instructions are appended to; its row may have been laid ahead of it -/
structure LJ (w2 : World) (l : List LIns) (n : Nat) (v : Value) (wr : World) : Prop where
  below : Below w2.heap.size w2 wr
  blk : Blk wr (w2.heap.size + 1) 43 #[v, .int .i64 0, .int .i64 0, .int .i64 0, .int .i64 0]
  row : wr.ownsRow w2.heap.size 36 8 v n (rowC l)
  len : l.length = n
  ne : v.ownBlock ≠ some (w2.heap.size + 1)
  lt : ∀ k, v.ownBlock = some k → k < wr.heap.size
theorem LJ.next {w2 : World} {l : List LIns} {n : Nat} {v : Value} {wr : World} (h : LJ w2 l n v wr) (x : LIns) {X3 : World} {gp cp : Nat}
    (hg : (wr.alloc (.cells (insC9 x).toArray 36)).grownBy X3 v.ownBlock) (hown : X3.ownsRow w2.heap.size 36 8 (.slice (some ⟨gp, 0, none⟩) (n + 1) cp) (n + 1) (rowC l ++ insC9 x)) (hat : v.ownBlock = some gp ∨ gp = wr.heap.size + 1) (hlt : gp < X3.heap.size) :
    LJ w2 (l ++ [x]) (n + 1) (.slice (some ⟨gp, 0, none⟩) (n + 1) cp) (X3.setCell ⟨w2.heap.size + 1, 0, none⟩ (.slice (some ⟨gp, 0, none⟩) (n + 1) cp)) := by
  have hW : w2.heap.size + 1 < wr.heap.size := h.blk.lt
  have h1 := below1 wr (.cells (insC9 x).toArray 36)
  have hne : (Value.slice (some ⟨gp, 0, none⟩) (n + 1) cp).ownBlock ≠ some (w2.heap.size + 1) := fun e => by
    have e' : gp = w2.heap.size + 1 := by simpa [Value.ownBlock] using e
    rcases hat with hat | hat
    · exact h.ne (by rw [hat, e'])
    · omega
  have hB : Below w2.heap.size w2 X3 := (h.below.trans (h1.mono h.below.size)).grown hg (by simp; omega) (fun k e => (h.row.lt k e).1)
  refine ⟨hB.setCell (Nat.le_succ _) _, ((h.blk.alloc _).grown hg h.ne).set_ 0 _, ?_, by rw [List.length_append, h.len]; rfl, hne, fun k e => ?_⟩
  · rw [rowC_snoc]
    exact fown_keep hown fun k e => Below.heap_setCell _ _ _ k (fun e2 => hne (by rw [e, e2]))
  · have e' : gp = k := by simpa [Value.ownBlock] using e
    simp [World.setCell]; omega
theorem two_cells (i : Nat) (op q : Int) (h : op = q) : insC9 (twoN i op) = [.int .i64 4, .int .i64 (2 + (i : Int)), .int .i64 (2 + (i : Int) - 1), .int .i64 (2 + (i : Int) - 2), .int .i64 q, .int .i64 0, .string ⟨#[]⟩, .slice none 0 0] := by
  subst h
  have h1 : 2 + (i : Int) - 1 = 1 + i := by omega
  have h2 : 2 + (i : Int) - 2 = i := by omega
  rw [h1, h2]; rfl
theorem index0 (a b : Int) (w : World) : (Instr.index 52 (.agg #[.int .i64 a, .int .i64 b]) (.int .i64 0)).run Tryz.prog w = .ok (.int .i64 a) w := by kernel_rfl
theorem opN_ok (o : Int) : 1 ≤ opN o ∧ opN o ≤ 16 ∧ opN o ≠ 4 ∧ opN o ≠ 5 := by
  have h0 := pk_lo o 16 (by omega)
  have h1 := pk_hi o 16 (by omega)
  unfold opN
  split <;> omega
set_option maxRecDepth 100000 in
set_option maxHeartbeats 16000000 in
theorem foldNumbers_walk (one two : Int) (vo : Value) (ops : List Int) (_hlen : (ops.length + 0) * 8 ≤ 140737488355328) (hJ : ∀ x ∈ ops, I64 x) (w : World) (hin : SlR w (· < w.heap.size) 1 RInt vo ops) (_w0 : (Lit.int .i64 one).wf = true) (_w1 : (Lit.int .i64 two).wf = true) :
    Calls Tryz.prog 12 #[.int .i64 one, .int .i64 two, vo] w fun e w' => e = .returned (.bool true) ∧ Below w.heap.size w w' := by
  obtain ⟨Ai, ci, hvi, _, _⟩ := hin.val
  subst hvi
  have HAW := Lib.hid (awake14_any w)
  obtain ⟨m, hm⟩ : ∃ m, m = min ops.length 8 := ⟨_, rfl⟩
  have hm8 : m ≤ 8 := by omega
  have hml : m ≤ ops.length := by omega
  have hmm : m = ops.length ∨ m = 8 := by omega
  obtain ⟨o, hod⟩ : ∃ o : Nat → Int, o = fun i => opN (ops.getD i 0) := ⟨_, rfl⟩
  have ho : ∀ i, 1 ≤ o i ∧ o i ≤ 16 ∧ o i ≠ 4 ∧ o i ≠ 5 := fun i => by rw [hod]; exact opN_ok _
  have HIN := Lib.hid hin
  have HJ := Lib.hid hJ
  have HO := Lib.hid ho
  have HOD := Lib.hid hod
  clear hin hJ ho hod hm
  go_enter Tryz.func12, Tryz.ntmps12
  go_upto_region 3 with (go_at_call 25; refine HAW.out.mono ?_; rintro e w2 ⟨rfl, hb2⟩)
  refine wp_world ?_
  intro W hW
  have hst : LJ w2 (nuL one two o 0) 2 (.slice (some ⟨w2.heap.size, 0, none⟩) 2 2) W := by
    rw [← hW]
    refine ⟨below2 w2 _ _, Blk.new_at _ _ _ (by simp), ?_, rfl, by simp [Value.ownBlock], fun k e => ?_⟩
    · exact own_made (n := 2) (sz := 8) ((Blk.new w2 36 #[.int .i64 1, .int .i64 0, .int .i64 0, .int .i64 0, .int .i64 0, .int .i64 one, .string ⟨#[]⟩, .slice none 0 0, .int .i64 1, .int .i64 1, .int .i64 0, .int .i64 0, .int .i64 0, .int .i64 two, .string ⟨#[]⟩, .slice none 0 0]).alloc _) (Nat.le_refl _) (by unfold maxLen; omega) (by rfl)
    · have e' : w2.heap.size = k := by simpa [Value.ownBlock] using e
      simp; omega
  have HB2 := Lib.hid hb2
  have hww : w.heap.size ≤ w2.heap.size := hb2.size
  clear hW hb2 HAW
  go_upto_region 5 with fail
  go_loopw [9, 10] (fun a s wr => ∃ i : Nat, i ≤ m ∧ s = .int .i64 i ∧ a = .int .i64 (2 + (i : Int)) ∧ ∃ v, LJ w2 (nuL one two o i) (i + 2) v wr) (fun _ s _ => m - (intOf s).toNat)
  case atStart => exact ⟨0, by omega, rfl, rfl, _, hst⟩
  case round =>
    clear hst
    obtain ⟨i, hi, rfl, rfl, v, hl⟩ := hrel
    obtain ⟨Av, cv, hv⟩ := own_form hl.row
    subst hv
    have HL := Lib.hid hl
    have hb0 : wr.cell? ⟨w2.heap.size + 1, 0, none⟩ = some (.slice Av (i + 2) cv) := hl.blk.cell 0
    have hzb := hl.blk.frozen 0
    have hbl : w2.heap.size + 1 < wr.heap.size := hl.blk.lt
    have hnb := hl.ne
    have HBLK := Lib.hid hl.blk
    have HROW := Lib.hid hl.row
    obtain ⟨z0, hi0, hzz0, hz1, hz2⟩ := info_parts info_ins
    by_cases hlt : i < m
    · have e1 : decide ((i : Int) < (ops.length : Int)) = true := decide_eq_true (by omega)
      have e2 : decide ((i : Int) < 8) = true := decide_eq_true (by omega)
      have hi3 : (i : Int) < (ops.length : Int) := by omega
      obtain ⟨gb, ob, cb', hform, _, _, hgb, hq⟩ := HIN.out.form (by omega)
      obtain ⟨rfl, rfl⟩ : Ai = some ⟨gb, ob, none⟩ ∧ ci = cb' := by injection hform with h1 _ h2; exact ⟨h1, h2⟩
      obtain ⟨cs, _, hcs, hcell⟩ := hq i (by omega)
      have hBW : Below w.heap.size w wr := HB2.out.trans (hl.below.mono hww)
      have hcw := hcell.keep (hBW.block gb hgb)
      obtain ⟨x, hx⟩ : ∃ x, x = ops[i] := ⟨_, rfl⟩
      rw [← hx] at hcs
      subst hcs
      have hxi : I64 x := HJ.out x (by rw [hx]; exact List.getElem_mem _)
      have i0 : wr.cell? ⟨gb, ob + i, none⟩ = some (.int .i64 x) := by have h := hcw.at_ (j := 0) rfl; simpa using h
      have HPK := Lib.hid (fun w2 => pick14_any x 16 hxi.1 hxi.2 (by omega) w2)
      have p0 := pk_lo x 16 (by omega)
      have p1 := pk_hi x 16 (by omega)
      have hop : o i = if 1 + pk x 16 = 4 ∨ 1 + pk x 16 = 5 then 8 else 1 + pk x 16 := by
        rw [HOD.out]
        show opN (ops.getD i 0) = _
        rw [List.getD_eq_getElem?_getD, List.getElem?_eq_getElem (by omega), ← hx]; rfl
      generalize pk x 16 = p at *
      have HOP := Lib.hid hop
      have HX := Lib.hid hx
      clear hcw hcell hq hform hl hx hxi hop hBW
      go_upto_region 8 with (go_at_call 28; refine (HPK.out _).mono ?_; rintro e w' ⟨rfl, rfl⟩)
      obtain ⟨q, hqd⟩ : ∃ q, q = 1 + p := ⟨_, rfl⟩
      rw [← hqd]
      have HQD := Lib.hid hqd
      clear hqd i0
      by_cases h4 : q = 4
      · have e4 : (q == 4) = true := by simpa using h4
        go_wp2_with (at_builtin; refine wpList_append_lies _ rfl _ _ _ rfl w2.heap.size 36 z0 _ 8 88 Tryz.underlying39 hi0 hzz0 hz1 hz2 rfl (by decide) (.slice Av (i + 2) cv) (i + 2) (rowC (nuL one two o i)) rfl (HROW.out.alloc _) ⟨wr.heap.size, 0, none⟩ 1 1 [.int .i64 4, .int .i64 (2 + (i : Int)), .int .i64 (2 + (i : Int) - 1), .int .i64 (2 + (i : Int) - 2), .int .i64 8, .int .i64 0, .string ⟨#[]⟩, .slice none 0 0] rfl rfl (World.news_of_block (Blk.new wr _ _)) (by simp [Value.oneCell']) (by decide) (by unfold maxLen; omega) (by omega) (by simp; omega) (wr.heap.size + 1) (by simp) ?_; intro g cap w5 hown5 hgrow hat hlt5; have hR5 := (HBLK.out.alloc (.cells #[.int .i64 4, .int .i64 (2 + (i : Int)), .int .i64 (2 + (i : Int) - 1), .int .i64 (2 + (i : Int) - 2), .int .i64 8, .int .i64 0, .string ⟨#[]⟩, .slice none 0 0] 36)).grown hgrow hnb; have k5 : w5.cell? ⟨w2.heap.size + 1, 0, none⟩ = some (.slice Av (i + 2) cv) := hR5.cell 0; have z5 := hR5.frozen 0)
        go_roundw
        case rel =>
          have hmc := two_cells i (o i) 8 (by rw [HOP.out, ← HQD.out]; rw [if_pos (.inl h4)])
          have hla2 : Value.int .i64 (2 + (i : Int) + 1) = Value.int .i64 (2 + ((i + 1 : Nat) : Int)) := by
            congr 1 <;> omega
          exact ⟨i + 1, by omega, by go_num, hla2, _, HL.out.next (twoN i (o i)) (by rw [hmc]; exact hgrow) (by rw [hmc]; exact hown5) hat hlt5⟩
        case measure => simp [intOf]; omega
      · have e4 : (q == 4) = false := by simpa using h4
        by_cases h5 : q = 5
        · have e5 : (q == 5) = true := by simpa using h5
          go_wp2_with (at_builtin; refine wpList_append_lies _ rfl _ _ _ rfl w2.heap.size 36 z0 _ 8 88 Tryz.underlying39 hi0 hzz0 hz1 hz2 rfl (by decide) (.slice Av (i + 2) cv) (i + 2) (rowC (nuL one two o i)) rfl (HROW.out.alloc _) ⟨wr.heap.size, 0, none⟩ 1 1 [.int .i64 4, .int .i64 (2 + (i : Int)), .int .i64 (2 + (i : Int) - 1), .int .i64 (2 + (i : Int) - 2), .int .i64 8, .int .i64 0, .string ⟨#[]⟩, .slice none 0 0] rfl rfl (World.news_of_block (Blk.new wr _ _)) (by simp [Value.oneCell']) (by decide) (by unfold maxLen; omega) (by omega) (by simp; omega) (wr.heap.size + 1) (by simp) ?_; intro g cap w5 hown5 hgrow hat hlt5; have hR5 := (HBLK.out.alloc (.cells #[.int .i64 4, .int .i64 (2 + (i : Int)), .int .i64 (2 + (i : Int) - 1), .int .i64 (2 + (i : Int) - 2), .int .i64 8, .int .i64 0, .string ⟨#[]⟩, .slice none 0 0] 36)).grown hgrow hnb; have k5 : w5.cell? ⟨w2.heap.size + 1, 0, none⟩ = some (.slice Av (i + 2) cv) := hR5.cell 0; have z5 := hR5.frozen 0)
          go_roundw
          case rel =>
            have hmc := two_cells i (o i) 8 (by rw [HOP.out, ← HQD.out]; rw [if_pos (.inr h5)])
            have hla2 : Value.int .i64 (2 + (i : Int) + 1) = Value.int .i64 (2 + ((i + 1 : Nat) : Int)) := by
              congr 1 <;> omega
            exact ⟨i + 1, by omega, by go_num, hla2, _, HL.out.next (twoN i (o i)) (by rw [hmc]; exact hgrow) (by rw [hmc]; exact hown5) hat hlt5⟩
          case measure => simp [intOf]; omega
        · have e5 : (q == 5) = false := by simpa using h5
          go_wp2_with (at_builtin; refine wpList_append_lies _ rfl _ _ _ rfl w2.heap.size 36 z0 _ 8 88 Tryz.underlying39 hi0 hzz0 hz1 hz2 rfl (by decide) (.slice Av (i + 2) cv) (i + 2) (rowC (nuL one two o i)) rfl (HROW.out.alloc _) ⟨wr.heap.size, 0, none⟩ 1 1 [.int .i64 4, .int .i64 (2 + (i : Int)), .int .i64 (2 + (i : Int) - 1), .int .i64 (2 + (i : Int) - 2), .int .i64 q, .int .i64 0, .string ⟨#[]⟩, .slice none 0 0] rfl rfl (World.news_of_block (Blk.new wr _ _)) (by simp [Value.oneCell']) (by decide) (by unfold maxLen; omega) (by omega) (by simp; omega) (wr.heap.size + 1) (by simp) ?_; intro g cap w5 hown5 hgrow hat hlt5; have hR5 := (HBLK.out.alloc (.cells #[.int .i64 4, .int .i64 (2 + (i : Int)), .int .i64 (2 + (i : Int) - 1), .int .i64 (2 + (i : Int) - 2), .int .i64 q, .int .i64 0, .string ⟨#[]⟩, .slice none 0 0] 36)).grown hgrow hnb; have k5 : w5.cell? ⟨w2.heap.size + 1, 0, none⟩ = some (.slice Av (i + 2) cv) := hR5.cell 0; have z5 := hR5.frozen 0)
          go_roundw
          case rel =>
            have hmc := two_cells i (o i) q (by rw [HOP.out, ← HQD.out]; rw [if_neg (by omega)])
            have hla2 : Value.int .i64 (2 + (i : Int) + 1) = Value.int .i64 (2 + ((i + 1 : Nat) : Int)) := by
              congr 1 <;> omega
            exact ⟨i + 1, by omega, by go_num, hla2, _, HL.out.next (twoN i (o i)) (by rw [hmc]; exact hgrow) (by rw [hmc]; exact hown5) hat hlt5⟩
          case measure => simp [intOf]; omega
    · have hmi : m = i := by omega
      subst hmi
      rcases hmm with hmm | hmm
      · have e1 : decide ((m : Int) < (ops.length : Int)) = false := decide_eq_false (by omega)
        have n1 : ¬ m < ops.length := by omega
        clear hmm
        go_upto_region 12 with fail
        obtain ⟨n, hnn⟩ : ∃ n : Nat, n = m + 1 := ⟨_, rfl⟩
        have hn9 : n ≤ 9 := by omega
        have hc2 : (2 : Int) + (m : Int) = (n : Int) + 1 := by omega
        rw [hc2]
        obtain ⟨W6, hW6⟩ : ∃ W6, W6 = wr := ⟨_, rfl⟩
        subst hW6
        have hl6 : LJ w2 (nuL one two o m) (n + 1) (.slice Av (n + 1) cv) W6 := by
          have e : m + 2 = n + 1 := by omega
          have h := HL.out
          rw [e] at h
          exact h
        have HNN := Lib.hid hnn
        have HL6 := Lib.hid hl6
        have b1 : W6.cell? ⟨w2.heap.size + 1, 1, none⟩ = some (.int .i64 0) := hl6.blk.cell 1
        have b2 : W6.cell? ⟨w2.heap.size + 1, 2, none⟩ = some (.int .i64 0) := hl6.blk.cell 2
        have b3 : W6.cell? ⟨w2.heap.size + 1, 3, none⟩ = some (.int .i64 0) := hl6.blk.cell 3
        have b4 : W6.cell? ⟨w2.heap.size + 1, 4, none⟩ = some (.int .i64 0) := hl6.blk.cell 4
        have z1' := hl6.blk.frozen 1
        have z2' := hl6.blk.frozen 2
        have z3' := hl6.blk.frozen 3
        have z4' := hl6.blk.frozen 4
        clear hl hl6 HL HBLK HROW hb0 hzb hnb hc2 hnn
        go_upto_region 13 with fail
        refine wp_world ?_
        intro W7 hW7
        have hb7 : Blk W7 (w2.heap.size + 1) 43 #[.slice Av (n + 1) cv, .int .i64 3, .int .i64 (n : Int), .int .i64 0, .int .i64 0] := by
          rw [← hW7]; exact (((HL6.out.blk.set_ 1 _).set_ 2 _).set_ 3 _).set_ 4 _
        have hneq : ∀ (q b : Nat), b ≠ w2.heap.size + 1 → b ≠ (⟨w2.heap.size + 1, q, none⟩ : Addr).block := fun _ _ h => h
        have hkf : Keeps (fun b => b ≠ w2.heap.size + 1) W6 W7 := by
          rw [← hW7]
          exact ((((Keeps.refl _ _).set (hneq 1) _).set (hneq 2) _).set (hneq 3) _).set (hneq 4) _
        have hsz7 : W7.heap.size = W6.heap.size := by rw [← hW7]; simp [World.setCell]
        have hB7 : Below w2.heap.size w2 W7 := by
          rw [← hW7]
          exact (((HL6.out.below.setCell (Nat.le_succ _) _).setCell (Nat.le_succ _) _).setCell (Nat.le_succ _) _).setCell (Nat.le_succ _) _
        have hrow7 : W7.ownsRow w2.heap.size 36 8 (.slice Av (n + 1) cv) (n + 1) (rowC (nuL one two o m)) := fown_keep HL6.out.row fun k e => hkf k (fun e2 => HL6.out.ne (by rw [e, e2]))
        have hlt7 : ∀ k, (Value.slice Av (n + 1) cv).ownBlock = some k → k < W7.heap.size := fun k e => by rw [hsz7]; exact HL6.out.lt k e
        have hsl7 : SlR W7 (· < W7.heap.size) 8 (RIns W7 (· < W7.heap.size)) (.slice Av (n + 1) cv) (nuL one two o m) := by
          have hln := HL6.out.len
          rw [← hln] at hrow7 hlt7 ⊢
          refine SlR.of_own (css := (nuL one two o m).map insC9) hrow7 rfl (List.length_map _) (fun cs hc => ?_) (fun i h1 h2 => ?_) hlt7
          · obtain ⟨x, _, rfl⟩ := List.mem_map.1 hc; rfl
          · rw [List.getElem_map]
            exact ⟨.slice none 0 0, rfl, by rw [nuL_args (List.getElem_mem _)]; exact SlR.nil_ _ _ _ _⟩
        have c0 : W7.cell? ⟨w2.heap.size + 1, 0, none⟩ = some (.slice Av (n + 1) cv) := hb7.cell 0
        have d1 : W7.cell? ⟨w2.heap.size + 1, 1, none⟩ = some (.int .i64 3) := hb7.cell 1
        have d2 : W7.cell? ⟨w2.heap.size + 1, 2, none⟩ = some (.int .i64 (n : Int)) := hb7.cell 2
        have d3 : W7.cell? ⟨w2.heap.size + 1, 3, none⟩ = some (.int .i64 0) := hb7.cell 3
        have d4 : W7.cell? ⟨w2.heap.size + 1, 4, none⟩ = some (.int .i64 0) := hb7.cell 4
        have HSL7 := Lib.hid hsl7
        have HBE7 := Lib.hid hB7
        clear hW7 hb7 hneq hkf hsz7 hB7 hrow7 hlt7 hsl7 b1 b2 b3 b4 z1' z2' z3' z4' HL6
        go_upto_region 14 with fail
        refine wp_world ?_
        intro W8 hW8
        have hA8 : Blk W8 W7.heap.size 43 #[.slice Av (n + 1) cv, .int .i64 3, .int .i64 (n : Int), .int .i64 0, .int .i64 0] := by
          rw [← hW8]; exact ((Blk.new W7 _ _).alloc _).alloc _
        have hF8 : Blk W8 (W7.heap.size + 1) 45 #[.string ⟨#[109, 97, 105, 110]⟩, .int .i64 0, .int .i64 12, .slice (some ⟨W7.heap.size, 0, none⟩) 1 1] := by
          rw [← hW8]; exact (Blk.new_at _ _ _ (by simp)).alloc _
        have hU8 : Blk W8 (W7.heap.size + 1 + 1) 27 #[.slice none 0 0, .slice (some ⟨W7.heap.size + 1, 0, none⟩) 1 1] := by
          rw [← hW8]; exact Blk.new_at _ _ _ (by simp)
        have hb78 : Below W7.heap.size W7 W8 := by rw [← hW8]; exact ((below1 W7 _).alloc (by simp) _).alloc (by simp; omega) _
        have hsl8 : SlR W8 (· < W8.heap.size) 8 (RIns W8 (· < W8.heap.size)) (.slice Av (n + 1) cv) (nuL one two o m) := HSL7.out.imp (fun b hb => Nat.lt_of_lt_of_le hb hb78.size) (fun b hb => hb78.block b hb) (fun _ _ _ r => r.imp (fun b hb => Nat.lt_of_lt_of_le hb hb78.size) (fun b hb => hb78.block b hb))
        have hui8 : UIn (nuU one two o m) W8 none (some ⟨W7.heap.size + 1, 0, none⟩) 0 1 := by
          refine ⟨SlR.nil_ _ _ _ _, ?_⟩
          refine SlR.lit [[.string ⟨#[109, 97, 105, 110]⟩, .int .i64 0, .int .i64 12, .slice (some ⟨W7.heap.size, 0, none⟩) 1 1]] hF8 rfl ⟨⟨rfl, ⟨_, rfl, ?_⟩⟩, trivial⟩ rfl hF8.lt (by show 1 ≤ 1000; omega)
          refine SlR.lit [[.slice Av (n + 1) cv, .int .i64 3, .int .i64 (n : Int), .int .i64 0, .int .i64 0]] hA8 rfl ⟨⟨rfl, ⟨_, ?_, hsl8⟩⟩, trivial⟩ rfl hA8.lt (by show 1 ≤ 1000; omega)
          rw [HNN.out]; rfl
        have huo := nu_ok one two o HO.out hm8
        have hfo : Calls Tryz.prog 26 #[.agg #[.slice none 0 0, .slice (some ⟨W7.heap.size + 1, 0, none⟩) 1 1]] W8 fun e w' => ∃ B1 B2 d1 d2, e = .returned (.tuple #[.agg #[.slice B1 0 d1, .slice B2 1 d2], .int .i64 0]) ∧ Below W8.heap.size W8 w' ∧ UIn (foldE (nuU one two o m)) w' B1 B2 d1 d2 := by
          refine (fold_u huo hui8).mono ?_
          rintro e w' ⟨B1, B2, d1, d2, rfl, hb, hu⟩
          exact ⟨B1, B2, d1, d2, rfl, hb, hu⟩
        obtain ⟨mm, hmd⟩ : ∃ mm, mm = runU (nuU one two o m) [] 99 := ⟨_, rfl⟩
        have hst9 : mm.status = 1 := by rw [hmd]; exact (nu_run one two o HO.out hm8).1
        have hrn : ∀ X, Below W8.heap.size W8 X → Calls Tryz.prog 30 #[.agg #[.slice none 0 0, .slice (some ⟨W7.heap.size + 1, 0, none⟩) 1 1], .slice none 0 0, .int .i64 99] X fun e X' => ∃ A c, e = .returned (.agg #[.int .i64 1, .int .i64 mm.code, .slice A mm.out.length c, .int .i64 mm.steps]) ∧ Below X.heap.size X X' := fun X hb => by
          have h := run_un (m := mm) huo (inp := []) (n := 99) (by omega) (hui8.below hb) (SlR.nil_ _ _ _ _) (by rw [hmd]) (by rw [hmd]) (by rw [hmd]) (by rw [hmd])
          rw [hst9] at h
          exact h
        have hcode : mm.code = valN one two o n := by rw [hmd, HNN.out]; exact (nu_run one two o HO.out hm8).2
        obtain ⟨cd, hcd⟩ : ∃ cd, cd = valN one two o n := ⟨_, rfl⟩
        rw [← hcd] at hcode
        rw [hcode] at hrn
        have hu0 : W8.cell? ⟨W7.heap.size + 1 + 1, 0, none⟩ = some (.slice none 0 0) := hU8.cell 0
        have hu1 : W8.cell? ⟨W7.heap.size + 1 + 1, 1, none⟩ = some (.slice (some ⟨W7.heap.size + 1, 0, none⟩) 1 1) := hU8.cell 1
        have HFO := Lib.hid hfo
        have HRN := Lib.hid hrn
        have HB78 := Lib.hid hb78
        have HU8 := Lib.hid hU8
        have HCD := Lib.hid hcd
        have HUO := Lib.hid huo
        generalize mm.out.length = ol at *
        generalize mm.steps = os at *
        clear hW8 hA8 hF8 hU8 hb78 hsl8 hui8 hfo hrn hst9 hcode hcd hmd huo c0 d1 d2 d3 d4
        go_upto_region 15 with (go_at_call 26; refine HFO.out.mono ?_; rintro e w9 ⟨D1, D2, e1', e2', rfl, hb9, hvi⟩)
        refine wp_world ?_
        intro W10 hW10
        have h9 : Below w9.heap.size w9 W10 := by rw [← hW10]; exact below1 _ _
        have hb10 : Below W8.heap.size W8 W10 := hb9.trans (h9.mono hb9.size)
        have hX : Blk W10 w9.heap.size 27 #[.slice D1 0 e1', .slice D2 1 e2'] := by rw [← hW10]; exact Blk.new w9 _ _
        have hvi10 : UIn (foldE (nuU one two o m)) W10 D1 D2 e1' e2' := hvi.below h9
        have hu0 : W10.cell? ⟨W7.heap.size + 1 + 1, 0, none⟩ = some (.slice none 0 0) := (HU8.out.below hb10 HU8.out.lt).cell 0
        have hu1 : W10.cell? ⟨W7.heap.size + 1 + 1, 1, none⟩ = some (.slice (some ⟨W7.heap.size + 1, 0, none⟩) 1 1) := (HU8.out.below hb10 HU8.out.lt).cell 1
        have HX := Lib.hid hX
        have HVI := Lib.hid hvi10
        have HB10 := Lib.hid hb10
        clear hW10 h9 hb10 hX hvi10 hvi hb9 HFO
        go_upto_region 16 with (go_at_call 30; refine (HRN.out _ HB10.out).mono ?_; rintro e w11 ⟨Ra, ra, rfl, hb11⟩)
        refine wp_world ?_
        intro W12 hW12
        have h12 : Below W10.heap.size W10 W12 := by rw [← hW12]; exact hb11.alloc hb11.size _
        have hR12 : Blk W12 w11.heap.size 65 #[.int .i64 1, .int .i64 cd, .slice Ra ol ra, .int .i64 os] := by rw [← hW12]; exact Blk.new w11 _ _
        have hX12 := HX.out.below h12 HX.out.lt
        have hvi12 := HVI.out.below h12
        have hfl : SlR W12 (· < W12.heap.size) 4 (RFlow W12 (· < W12.heap.size)) (.slice D2 1 e2') [⟨⟨#[109, 97, 105, 110]⟩, 0, 12, [blockE (nuB one two o m)]⟩] := hvi12.flo
        rw [nu_block one two o HO.out m] at hfl
        obtain ⟨gf, of_, rfl⟩ := sl_some hfl (by show 0 < 1; omega)
        obtain ⟨Ab, cb, hsb, hfc⟩ := flow_cells hfl (i := 0) (by show 0 < 1; omega)
        simp only [List.getElem_cons_zero] at hsb hfc
        obtain ⟨gk, ok, rfl⟩ := sl_some hsb (by show 0 < 1; omega)
        obtain ⟨Ak, ck, hsi, hbc⟩ := block_cells hsb (k := 0) (by show 0 < 1; omega)
        simp only [List.getElem_cons_zero] at hsi hbc
        have hfln : (folN one two o m).length = n + 1 := by rw [folN_len, HNN.out]
        obtain ⟨gi, oi, rfl⟩ := sl_some hsi (by omega)
        obtain ⟨Ax, cx, hax, hic⟩ := ins_cells hsi (j := n) (by omega)
        have hget : (folN one two o m)[n]'(by omega) = numN n cd := by
          have h := folN_get (one := one) (two := two) (o := o) (m := m) (j := n) (by rw [HNN.out]; omega)
          rw [List.getElem?_eq_getElem (by omega)] at h
          rw [HCD.out]; exact Option.some.inj h
        rw [hget] at hic
        rw [hfln] at hbc
        have x1 : W12.cell? ⟨w9.heap.size, 1, none⟩ = some (.slice (some ⟨gf, of_, none⟩) 1 e2') := hX12.cell 1
        have f3 : W12.cell? ⟨gf, of_ + 3, none⟩ = some (.slice (some ⟨gk, ok, none⟩) 1 cb) := by have h := (hfc W12 (Below.refl _ _)).2.2.2; simpa using h
        have a0 : W12.cell? ⟨gk, ok, none⟩ = some (.slice (some ⟨gi, oi, none⟩) (n + 1) ck) := by have h := (hbc W12 (Below.refl _ _)).1; simpa using h
        obtain ⟨i0, i1, i2, i3, i4, i5, i6, i7⟩ := hic W12 (Below.refl _ _)
        replace i0 : W12.cell? ⟨gi, oi + n * 8, none⟩ = some (.int .i64 1) := i0
        replace i1 : W12.cell? ⟨gi, oi + n * 8 + 1, none⟩ = some (.int .i64 (n : Int)) := i1
        replace i2 : W12.cell? ⟨gi, oi + n * 8 + 2, none⟩ = some (.int .i64 0) := i2
        replace i3 : W12.cell? ⟨gi, oi + n * 8 + 3, none⟩ = some (.int .i64 0) := i3
        replace i4 : W12.cell? ⟨gi, oi + n * 8 + 4, none⟩ = some (.int .i64 0) := i4
        replace i5 : W12.cell? ⟨gi, oi + n * 8 + 5, none⟩ = some (.int .i64 cd) := i5
        replace i6 : W12.cell? ⟨gi, oi + n * 8 + 6, none⟩ = some (.string ⟨#[]⟩) := i6
        replace i7 : W12.cell? ⟨gi, oi + n * 8 + 7, none⟩ = some (.slice Ax 0 cx) := i7
        have hknown : ∀ X, Below W12.heap.size W12 X → Calls Tryz.prog 27 #[.agg #[.slice D1 0 e1', .slice (some ⟨gf, of_, none⟩) 1 e2']] X fun e w' => (∃ kb : Int, e = .returned (.agg #[.int .i64 ((n : Int) + 1), .int .i64 kb])) ∧ Below X.heap.size X w' := fun X hb => by
          have h := known_u (fold_ok HUO.out) (hvi12.below hb)
          rw [nu_known one two o HO.out m] at h
          refine h.mono ?_
          rintro e w' ⟨rfl, hb'⟩
          have ec : ((m + 2 : Nat) : Int) = (n : Int) + 1 := by rw [HNN.out]; omega
          rw [ec]
          exact ⟨⟨_, rfl⟩, hb'⟩
        have n0 : ((n : Int) + 1 != (n : Int) + 1) = false := by simp
        have n5 : ((n : Int) + 1 == (n : Int) + 1) = true := by simp
        have n6 : (cd == cd) = true := by simp
        have n7 : (n : Int) < (n : Int) + 1 := by omega
        have HKN := Lib.hid hknown
        have HR12 := Lib.hid hR12
        have HX12 := Lib.hid hX12
        have H12 := Lib.hid h12
        clear hax
        clear hW12 h12 hR12 hX12 hvi12 hfl hsb hsi hfc hbc hic hget hfln hknown hb11 hu0 hu1 HRN HVI HX
        go_upto_region 19 with fail
        refine wp_world ?_
        intro W13 hW13
        have h13 : Below W12.heap.size W12 W13 := by rw [← hW13]; exact below1 _ _
        have hL13 : Blk W13 W12.heap.size 36 #[.int .i64 1, .int .i64 (n : Int), .int .i64 0, .int .i64 0, .int .i64 0, .int .i64 cd, .string ⟨#[]⟩, .slice Ax 0 cx] := by rw [← hW13]; exact Blk.new W12 _ _
        have y0 : W13.cell? ⟨w9.heap.size, 0, none⟩ = some (.slice D1 0 e1') := (HX12.out.below h13 HX12.out.lt).cell 0
        have y1 : W13.cell? ⟨w9.heap.size, 1, none⟩ = some (.slice (some ⟨gf, of_, none⟩) 1 e2') := (HX12.out.below h13 HX12.out.lt).cell 1
        have hl13 : W12.heap.size < W13.heap.size := hL13.lt
        have HL13 := Lib.hid hL13
        have H13 := Lib.hid h13
        clear hW13 h13 hL13 x1 f3 a0 i0 i1 i2 i3 i4 i5 i6 i7
        go_wp2_with (go_at_call 27; refine (HKN.out W13 H13.out).mono ?_; rintro e w14 ⟨⟨kb, rfl⟩, hb14⟩; have hix := index0 ((n : Int) + 1) kb w14; have hx14 := HL13.out.below hb14 hl13; have q0 : w14.cell? ⟨W12.heap.size, 0, none⟩ = some (.int .i64 1) := hx14.cell 0; have q5 : w14.cell? ⟨W12.heap.size, 5, none⟩ = some (.int .i64 cd) := hx14.cell 5; have hr14 := HR12.out.below (H13.out.trans (hb14.mono H13.out.size)) HR12.out.lt; have r0 : w14.cell? ⟨w11.heap.size, 0, none⟩ = some (.int .i64 1) := hr14.cell 0; have r1 : w14.cell? ⟨w11.heap.size, 1, none⟩ = some (.int .i64 cd) := hr14.cell 1)
        go_ret
        have hA := H13.out.trans (hb14.mono H13.out.size)
        have hB := H12.out.trans (hA.mono H12.out.size)
        have hC := HB10.out.trans (hB.mono HB10.out.size)
        have hD := HB78.out.trans (hC.mono HB78.out.size)
        have hE := HBE7.out.trans (hD.mono HBE7.out.size)
        exact ⟨rfl, HB2.out.trans (hE.mono HB2.out.size)⟩
      · by_cases hl8 : 8 < ops.length
        · have e1 : decide ((m : Int) < (ops.length : Int)) = true := decide_eq_true (by omega)
          have e2 : decide ((m : Int) < 8) = false := decide_eq_false (by omega)
          have n1 : m < ops.length := by omega
          have n2 : ¬ (m : Int) < 8 := by omega
          clear hmm
          go_upto_region 12 with fail
          obtain ⟨n, hnn⟩ : ∃ n : Nat, n = m + 1 := ⟨_, rfl⟩
          have hn9 : n ≤ 9 := by omega
          have hc2 : (2 : Int) + (m : Int) = (n : Int) + 1 := by omega
          rw [hc2]
          obtain ⟨W6, hW6⟩ : ∃ W6, W6 = wr := ⟨_, rfl⟩
          subst hW6
          have hl6 : LJ w2 (nuL one two o m) (n + 1) (.slice Av (n + 1) cv) W6 := by
            have e : m + 2 = n + 1 := by omega
            have h := HL.out
            rw [e] at h
            exact h
          have HNN := Lib.hid hnn
          have HL6 := Lib.hid hl6
          have b1 : W6.cell? ⟨w2.heap.size + 1, 1, none⟩ = some (.int .i64 0) := hl6.blk.cell 1
          have b2 : W6.cell? ⟨w2.heap.size + 1, 2, none⟩ = some (.int .i64 0) := hl6.blk.cell 2
          have b3 : W6.cell? ⟨w2.heap.size + 1, 3, none⟩ = some (.int .i64 0) := hl6.blk.cell 3
          have b4 : W6.cell? ⟨w2.heap.size + 1, 4, none⟩ = some (.int .i64 0) := hl6.blk.cell 4
          have z1' := hl6.blk.frozen 1
          have z2' := hl6.blk.frozen 2
          have z3' := hl6.blk.frozen 3
          have z4' := hl6.blk.frozen 4
          clear hl hl6 HL HBLK HROW hb0 hzb hnb hc2 hnn
          go_upto_region 13 with fail
          refine wp_world ?_
          intro W7 hW7
          have hb7 : Blk W7 (w2.heap.size + 1) 43 #[.slice Av (n + 1) cv, .int .i64 3, .int .i64 (n : Int), .int .i64 0, .int .i64 0] := by
            rw [← hW7]; exact (((HL6.out.blk.set_ 1 _).set_ 2 _).set_ 3 _).set_ 4 _
          have hneq : ∀ (q b : Nat), b ≠ w2.heap.size + 1 → b ≠ (⟨w2.heap.size + 1, q, none⟩ : Addr).block := fun _ _ h => h
          have hkf : Keeps (fun b => b ≠ w2.heap.size + 1) W6 W7 := by
            rw [← hW7]
            exact ((((Keeps.refl _ _).set (hneq 1) _).set (hneq 2) _).set (hneq 3) _).set (hneq 4) _
          have hsz7 : W7.heap.size = W6.heap.size := by rw [← hW7]; simp [World.setCell]
          have hB7 : Below w2.heap.size w2 W7 := by
            rw [← hW7]
            exact (((HL6.out.below.setCell (Nat.le_succ _) _).setCell (Nat.le_succ _) _).setCell (Nat.le_succ _) _).setCell (Nat.le_succ _) _
          have hrow7 : W7.ownsRow w2.heap.size 36 8 (.slice Av (n + 1) cv) (n + 1) (rowC (nuL one two o m)) := fown_keep HL6.out.row fun k e => hkf k (fun e2 => HL6.out.ne (by rw [e, e2]))
          have hlt7 : ∀ k, (Value.slice Av (n + 1) cv).ownBlock = some k → k < W7.heap.size := fun k e => by rw [hsz7]; exact HL6.out.lt k e
          have hsl7 : SlR W7 (· < W7.heap.size) 8 (RIns W7 (· < W7.heap.size)) (.slice Av (n + 1) cv) (nuL one two o m) := by
            have hln := HL6.out.len
            rw [← hln] at hrow7 hlt7 ⊢
            refine SlR.of_own (css := (nuL one two o m).map insC9) hrow7 rfl (List.length_map _) (fun cs hc => ?_) (fun i h1 h2 => ?_) hlt7
            · obtain ⟨x, _, rfl⟩ := List.mem_map.1 hc; rfl
            · rw [List.getElem_map]
              exact ⟨.slice none 0 0, rfl, by rw [nuL_args (List.getElem_mem _)]; exact SlR.nil_ _ _ _ _⟩
          have c0 : W7.cell? ⟨w2.heap.size + 1, 0, none⟩ = some (.slice Av (n + 1) cv) := hb7.cell 0
          have d1 : W7.cell? ⟨w2.heap.size + 1, 1, none⟩ = some (.int .i64 3) := hb7.cell 1
          have d2 : W7.cell? ⟨w2.heap.size + 1, 2, none⟩ = some (.int .i64 (n : Int)) := hb7.cell 2
          have d3 : W7.cell? ⟨w2.heap.size + 1, 3, none⟩ = some (.int .i64 0) := hb7.cell 3
          have d4 : W7.cell? ⟨w2.heap.size + 1, 4, none⟩ = some (.int .i64 0) := hb7.cell 4
          have HSL7 := Lib.hid hsl7
          have HBE7 := Lib.hid hB7
          clear hW7 hb7 hneq hkf hsz7 hB7 hrow7 hlt7 hsl7 b1 b2 b3 b4 z1' z2' z3' z4' HL6
          go_upto_region 14 with fail
          refine wp_world ?_
          intro W8 hW8
          have hA8 : Blk W8 W7.heap.size 43 #[.slice Av (n + 1) cv, .int .i64 3, .int .i64 (n : Int), .int .i64 0, .int .i64 0] := by
            rw [← hW8]; exact ((Blk.new W7 _ _).alloc _).alloc _
          have hF8 : Blk W8 (W7.heap.size + 1) 45 #[.string ⟨#[109, 97, 105, 110]⟩, .int .i64 0, .int .i64 12, .slice (some ⟨W7.heap.size, 0, none⟩) 1 1] := by
            rw [← hW8]; exact (Blk.new_at _ _ _ (by simp)).alloc _
          have hU8 : Blk W8 (W7.heap.size + 1 + 1) 27 #[.slice none 0 0, .slice (some ⟨W7.heap.size + 1, 0, none⟩) 1 1] := by
            rw [← hW8]; exact Blk.new_at _ _ _ (by simp)
          have hb78 : Below W7.heap.size W7 W8 := by rw [← hW8]; exact ((below1 W7 _).alloc (by simp) _).alloc (by simp; omega) _
          have hsl8 : SlR W8 (· < W8.heap.size) 8 (RIns W8 (· < W8.heap.size)) (.slice Av (n + 1) cv) (nuL one two o m) := HSL7.out.imp (fun b hb => Nat.lt_of_lt_of_le hb hb78.size) (fun b hb => hb78.block b hb) (fun _ _ _ r => r.imp (fun b hb => Nat.lt_of_lt_of_le hb hb78.size) (fun b hb => hb78.block b hb))
          have hui8 : UIn (nuU one two o m) W8 none (some ⟨W7.heap.size + 1, 0, none⟩) 0 1 := by
            refine ⟨SlR.nil_ _ _ _ _, ?_⟩
            refine SlR.lit [[.string ⟨#[109, 97, 105, 110]⟩, .int .i64 0, .int .i64 12, .slice (some ⟨W7.heap.size, 0, none⟩) 1 1]] hF8 rfl ⟨⟨rfl, ⟨_, rfl, ?_⟩⟩, trivial⟩ rfl hF8.lt (by show 1 ≤ 1000; omega)
            refine SlR.lit [[.slice Av (n + 1) cv, .int .i64 3, .int .i64 (n : Int), .int .i64 0, .int .i64 0]] hA8 rfl ⟨⟨rfl, ⟨_, ?_, hsl8⟩⟩, trivial⟩ rfl hA8.lt (by show 1 ≤ 1000; omega)
            rw [HNN.out]; rfl
          have huo := nu_ok one two o HO.out hm8
          have hfo : Calls Tryz.prog 26 #[.agg #[.slice none 0 0, .slice (some ⟨W7.heap.size + 1, 0, none⟩) 1 1]] W8 fun e w' => ∃ B1 B2 d1 d2, e = .returned (.tuple #[.agg #[.slice B1 0 d1, .slice B2 1 d2], .int .i64 0]) ∧ Below W8.heap.size W8 w' ∧ UIn (foldE (nuU one two o m)) w' B1 B2 d1 d2 := by
            refine (fold_u huo hui8).mono ?_
            rintro e w' ⟨B1, B2, d1, d2, rfl, hb, hu⟩
            exact ⟨B1, B2, d1, d2, rfl, hb, hu⟩
          obtain ⟨mm, hmd⟩ : ∃ mm, mm = runU (nuU one two o m) [] 99 := ⟨_, rfl⟩
          have hst9 : mm.status = 1 := by rw [hmd]; exact (nu_run one two o HO.out hm8).1
          have hrn : ∀ X, Below W8.heap.size W8 X → Calls Tryz.prog 30 #[.agg #[.slice none 0 0, .slice (some ⟨W7.heap.size + 1, 0, none⟩) 1 1], .slice none 0 0, .int .i64 99] X fun e X' => ∃ A c, e = .returned (.agg #[.int .i64 1, .int .i64 mm.code, .slice A mm.out.length c, .int .i64 mm.steps]) ∧ Below X.heap.size X X' := fun X hb => by
            have h := run_un (m := mm) huo (inp := []) (n := 99) (by omega) (hui8.below hb) (SlR.nil_ _ _ _ _) (by rw [hmd]) (by rw [hmd]) (by rw [hmd]) (by rw [hmd])
            rw [hst9] at h
            exact h
          have hcode : mm.code = valN one two o n := by rw [hmd, HNN.out]; exact (nu_run one two o HO.out hm8).2
          obtain ⟨cd, hcd⟩ : ∃ cd, cd = valN one two o n := ⟨_, rfl⟩
          rw [← hcd] at hcode
          rw [hcode] at hrn
          have hu0 : W8.cell? ⟨W7.heap.size + 1 + 1, 0, none⟩ = some (.slice none 0 0) := hU8.cell 0
          have hu1 : W8.cell? ⟨W7.heap.size + 1 + 1, 1, none⟩ = some (.slice (some ⟨W7.heap.size + 1, 0, none⟩) 1 1) := hU8.cell 1
          have HFO := Lib.hid hfo
          have HRN := Lib.hid hrn
          have HB78 := Lib.hid hb78
          have HU8 := Lib.hid hU8
          have HCD := Lib.hid hcd
          have HUO := Lib.hid huo
          generalize mm.out.length = ol at *
          generalize mm.steps = os at *
          clear hW8 hA8 hF8 hU8 hb78 hsl8 hui8 hfo hrn hst9 hcode hcd hmd huo c0 d1 d2 d3 d4
          go_upto_region 15 with (go_at_call 26; refine HFO.out.mono ?_; rintro e w9 ⟨D1, D2, e1', e2', rfl, hb9, hvi⟩)
          refine wp_world ?_
          intro W10 hW10
          have h9 : Below w9.heap.size w9 W10 := by rw [← hW10]; exact below1 _ _
          have hb10 : Below W8.heap.size W8 W10 := hb9.trans (h9.mono hb9.size)
          have hX : Blk W10 w9.heap.size 27 #[.slice D1 0 e1', .slice D2 1 e2'] := by rw [← hW10]; exact Blk.new w9 _ _
          have hvi10 : UIn (foldE (nuU one two o m)) W10 D1 D2 e1' e2' := hvi.below h9
          have hu0 : W10.cell? ⟨W7.heap.size + 1 + 1, 0, none⟩ = some (.slice none 0 0) := (HU8.out.below hb10 HU8.out.lt).cell 0
          have hu1 : W10.cell? ⟨W7.heap.size + 1 + 1, 1, none⟩ = some (.slice (some ⟨W7.heap.size + 1, 0, none⟩) 1 1) := (HU8.out.below hb10 HU8.out.lt).cell 1
          have HX := Lib.hid hX
          have HVI := Lib.hid hvi10
          have HB10 := Lib.hid hb10
          clear hW10 h9 hb10 hX hvi10 hvi hb9 HFO
          go_upto_region 16 with (go_at_call 30; refine (HRN.out _ HB10.out).mono ?_; rintro e w11 ⟨Ra, ra, rfl, hb11⟩)
          refine wp_world ?_
          intro W12 hW12
          have h12 : Below W10.heap.size W10 W12 := by rw [← hW12]; exact hb11.alloc hb11.size _
          have hR12 : Blk W12 w11.heap.size 65 #[.int .i64 1, .int .i64 cd, .slice Ra ol ra, .int .i64 os] := by rw [← hW12]; exact Blk.new w11 _ _
          have hX12 := HX.out.below h12 HX.out.lt
          have hvi12 := HVI.out.below h12
          have hfl : SlR W12 (· < W12.heap.size) 4 (RFlow W12 (· < W12.heap.size)) (.slice D2 1 e2') [⟨⟨#[109, 97, 105, 110]⟩, 0, 12, [blockE (nuB one two o m)]⟩] := hvi12.flo
          rw [nu_block one two o HO.out m] at hfl
          obtain ⟨gf, of_, rfl⟩ := sl_some hfl (by show 0 < 1; omega)
          obtain ⟨Ab, cb, hsb, hfc⟩ := flow_cells hfl (i := 0) (by show 0 < 1; omega)
          simp only [List.getElem_cons_zero] at hsb hfc
          obtain ⟨gk, ok, rfl⟩ := sl_some hsb (by show 0 < 1; omega)
          obtain ⟨Ak, ck, hsi, hbc⟩ := block_cells hsb (k := 0) (by show 0 < 1; omega)
          simp only [List.getElem_cons_zero] at hsi hbc
          have hfln : (folN one two o m).length = n + 1 := by rw [folN_len, HNN.out]
          obtain ⟨gi, oi, rfl⟩ := sl_some hsi (by omega)
          obtain ⟨Ax, cx, hax, hic⟩ := ins_cells hsi (j := n) (by omega)
          have hget : (folN one two o m)[n]'(by omega) = numN n cd := by
            have h := folN_get (one := one) (two := two) (o := o) (m := m) (j := n) (by rw [HNN.out]; omega)
            rw [List.getElem?_eq_getElem (by omega)] at h
            rw [HCD.out]; exact Option.some.inj h
          rw [hget] at hic
          rw [hfln] at hbc
          have x1 : W12.cell? ⟨w9.heap.size, 1, none⟩ = some (.slice (some ⟨gf, of_, none⟩) 1 e2') := hX12.cell 1
          have f3 : W12.cell? ⟨gf, of_ + 3, none⟩ = some (.slice (some ⟨gk, ok, none⟩) 1 cb) := by have h := (hfc W12 (Below.refl _ _)).2.2.2; simpa using h
          have a0 : W12.cell? ⟨gk, ok, none⟩ = some (.slice (some ⟨gi, oi, none⟩) (n + 1) ck) := by have h := (hbc W12 (Below.refl _ _)).1; simpa using h
          obtain ⟨i0, i1, i2, i3, i4, i5, i6, i7⟩ := hic W12 (Below.refl _ _)
          replace i0 : W12.cell? ⟨gi, oi + n * 8, none⟩ = some (.int .i64 1) := i0
          replace i1 : W12.cell? ⟨gi, oi + n * 8 + 1, none⟩ = some (.int .i64 (n : Int)) := i1
          replace i2 : W12.cell? ⟨gi, oi + n * 8 + 2, none⟩ = some (.int .i64 0) := i2
          replace i3 : W12.cell? ⟨gi, oi + n * 8 + 3, none⟩ = some (.int .i64 0) := i3
          replace i4 : W12.cell? ⟨gi, oi + n * 8 + 4, none⟩ = some (.int .i64 0) := i4
          replace i5 : W12.cell? ⟨gi, oi + n * 8 + 5, none⟩ = some (.int .i64 cd) := i5
          replace i6 : W12.cell? ⟨gi, oi + n * 8 + 6, none⟩ = some (.string ⟨#[]⟩) := i6
          replace i7 : W12.cell? ⟨gi, oi + n * 8 + 7, none⟩ = some (.slice Ax 0 cx) := i7
          have hknown : ∀ X, Below W12.heap.size W12 X → Calls Tryz.prog 27 #[.agg #[.slice D1 0 e1', .slice (some ⟨gf, of_, none⟩) 1 e2']] X fun e w' => (∃ kb : Int, e = .returned (.agg #[.int .i64 ((n : Int) + 1), .int .i64 kb])) ∧ Below X.heap.size X w' := fun X hb => by
            have h := known_u (fold_ok HUO.out) (hvi12.below hb)
            rw [nu_known one two o HO.out m] at h
            refine h.mono ?_
            rintro e w' ⟨rfl, hb'⟩
            have ec : ((m + 2 : Nat) : Int) = (n : Int) + 1 := by rw [HNN.out]; omega
            rw [ec]
            exact ⟨⟨_, rfl⟩, hb'⟩
          have n0 : ((n : Int) + 1 != (n : Int) + 1) = false := by simp
          have n5 : ((n : Int) + 1 == (n : Int) + 1) = true := by simp
          have n6 : (cd == cd) = true := by simp
          have n7 : (n : Int) < (n : Int) + 1 := by omega
          have HKN := Lib.hid hknown
          have HR12 := Lib.hid hR12
          have HX12 := Lib.hid hX12
          have H12 := Lib.hid h12
          clear hax
          clear hW12 h12 hR12 hX12 hvi12 hfl hsb hsi hfc hbc hic hget hfln hknown hb11 hu0 hu1 HRN HVI HX
          go_upto_region 19 with fail
          refine wp_world ?_
          intro W13 hW13
          have h13 : Below W12.heap.size W12 W13 := by rw [← hW13]; exact below1 _ _
          have hL13 : Blk W13 W12.heap.size 36 #[.int .i64 1, .int .i64 (n : Int), .int .i64 0, .int .i64 0, .int .i64 0, .int .i64 cd, .string ⟨#[]⟩, .slice Ax 0 cx] := by rw [← hW13]; exact Blk.new W12 _ _
          have y0 : W13.cell? ⟨w9.heap.size, 0, none⟩ = some (.slice D1 0 e1') := (HX12.out.below h13 HX12.out.lt).cell 0
          have y1 : W13.cell? ⟨w9.heap.size, 1, none⟩ = some (.slice (some ⟨gf, of_, none⟩) 1 e2') := (HX12.out.below h13 HX12.out.lt).cell 1
          have hl13 : W12.heap.size < W13.heap.size := hL13.lt
          have HL13 := Lib.hid hL13
          have H13 := Lib.hid h13
          clear hW13 h13 hL13 x1 f3 a0 i0 i1 i2 i3 i4 i5 i6 i7
          go_wp2_with (go_at_call 27; refine (HKN.out W13 H13.out).mono ?_; rintro e w14 ⟨⟨kb, rfl⟩, hb14⟩; have hix := index0 ((n : Int) + 1) kb w14; have hx14 := HL13.out.below hb14 hl13; have q0 : w14.cell? ⟨W12.heap.size, 0, none⟩ = some (.int .i64 1) := hx14.cell 0; have q5 : w14.cell? ⟨W12.heap.size, 5, none⟩ = some (.int .i64 cd) := hx14.cell 5; have hr14 := HR12.out.below (H13.out.trans (hb14.mono H13.out.size)) HR12.out.lt; have r0 : w14.cell? ⟨w11.heap.size, 0, none⟩ = some (.int .i64 1) := hr14.cell 0; have r1 : w14.cell? ⟨w11.heap.size, 1, none⟩ = some (.int .i64 cd) := hr14.cell 1)
          go_ret
          have hA := H13.out.trans (hb14.mono H13.out.size)
          have hB := H12.out.trans (hA.mono H12.out.size)
          have hC := HB10.out.trans (hB.mono HB10.out.size)
          have hD := HB78.out.trans (hC.mono HB78.out.size)
          have hE := HBE7.out.trans (hD.mono HBE7.out.size)
          exact ⟨rfl, HB2.out.trans (hE.mono HB2.out.size)⟩
        · have e1 : decide ((m : Int) < (ops.length : Int)) = false := decide_eq_false (by omega)
          have n1 : ¬ m < ops.length := by omega
          clear hmm
          go_upto_region 12 with fail
          obtain ⟨n, hnn⟩ : ∃ n : Nat, n = m + 1 := ⟨_, rfl⟩
          have hn9 : n ≤ 9 := by omega
          have hc2 : (2 : Int) + (m : Int) = (n : Int) + 1 := by omega
          rw [hc2]
          obtain ⟨W6, hW6⟩ : ∃ W6, W6 = wr := ⟨_, rfl⟩
          subst hW6
          have hl6 : LJ w2 (nuL one two o m) (n + 1) (.slice Av (n + 1) cv) W6 := by
            have e : m + 2 = n + 1 := by omega
            have h := HL.out
            rw [e] at h
            exact h
          have HNN := Lib.hid hnn
          have HL6 := Lib.hid hl6
          have b1 : W6.cell? ⟨w2.heap.size + 1, 1, none⟩ = some (.int .i64 0) := hl6.blk.cell 1
          have b2 : W6.cell? ⟨w2.heap.size + 1, 2, none⟩ = some (.int .i64 0) := hl6.blk.cell 2
          have b3 : W6.cell? ⟨w2.heap.size + 1, 3, none⟩ = some (.int .i64 0) := hl6.blk.cell 3
          have b4 : W6.cell? ⟨w2.heap.size + 1, 4, none⟩ = some (.int .i64 0) := hl6.blk.cell 4
          have z1' := hl6.blk.frozen 1
          have z2' := hl6.blk.frozen 2
          have z3' := hl6.blk.frozen 3
          have z4' := hl6.blk.frozen 4
          clear hl hl6 HL HBLK HROW hb0 hzb hnb hc2 hnn
          go_upto_region 13 with fail
          refine wp_world ?_
          intro W7 hW7
          have hb7 : Blk W7 (w2.heap.size + 1) 43 #[.slice Av (n + 1) cv, .int .i64 3, .int .i64 (n : Int), .int .i64 0, .int .i64 0] := by
            rw [← hW7]; exact (((HL6.out.blk.set_ 1 _).set_ 2 _).set_ 3 _).set_ 4 _
          have hneq : ∀ (q b : Nat), b ≠ w2.heap.size + 1 → b ≠ (⟨w2.heap.size + 1, q, none⟩ : Addr).block := fun _ _ h => h
          have hkf : Keeps (fun b => b ≠ w2.heap.size + 1) W6 W7 := by
            rw [← hW7]
            exact ((((Keeps.refl _ _).set (hneq 1) _).set (hneq 2) _).set (hneq 3) _).set (hneq 4) _
          have hsz7 : W7.heap.size = W6.heap.size := by rw [← hW7]; simp [World.setCell]
          have hB7 : Below w2.heap.size w2 W7 := by
            rw [← hW7]
            exact (((HL6.out.below.setCell (Nat.le_succ _) _).setCell (Nat.le_succ _) _).setCell (Nat.le_succ _) _).setCell (Nat.le_succ _) _
          have hrow7 : W7.ownsRow w2.heap.size 36 8 (.slice Av (n + 1) cv) (n + 1) (rowC (nuL one two o m)) := fown_keep HL6.out.row fun k e => hkf k (fun e2 => HL6.out.ne (by rw [e, e2]))
          have hlt7 : ∀ k, (Value.slice Av (n + 1) cv).ownBlock = some k → k < W7.heap.size := fun k e => by rw [hsz7]; exact HL6.out.lt k e
          have hsl7 : SlR W7 (· < W7.heap.size) 8 (RIns W7 (· < W7.heap.size)) (.slice Av (n + 1) cv) (nuL one two o m) := by
            have hln := HL6.out.len
            rw [← hln] at hrow7 hlt7 ⊢
            refine SlR.of_own (css := (nuL one two o m).map insC9) hrow7 rfl (List.length_map _) (fun cs hc => ?_) (fun i h1 h2 => ?_) hlt7
            · obtain ⟨x, _, rfl⟩ := List.mem_map.1 hc; rfl
            · rw [List.getElem_map]
              exact ⟨.slice none 0 0, rfl, by rw [nuL_args (List.getElem_mem _)]; exact SlR.nil_ _ _ _ _⟩
          have c0 : W7.cell? ⟨w2.heap.size + 1, 0, none⟩ = some (.slice Av (n + 1) cv) := hb7.cell 0
          have d1 : W7.cell? ⟨w2.heap.size + 1, 1, none⟩ = some (.int .i64 3) := hb7.cell 1
          have d2 : W7.cell? ⟨w2.heap.size + 1, 2, none⟩ = some (.int .i64 (n : Int)) := hb7.cell 2
          have d3 : W7.cell? ⟨w2.heap.size + 1, 3, none⟩ = some (.int .i64 0) := hb7.cell 3
          have d4 : W7.cell? ⟨w2.heap.size + 1, 4, none⟩ = some (.int .i64 0) := hb7.cell 4
          have HSL7 := Lib.hid hsl7
          have HBE7 := Lib.hid hB7
          clear hW7 hb7 hneq hkf hsz7 hB7 hrow7 hlt7 hsl7 b1 b2 b3 b4 z1' z2' z3' z4' HL6
          go_upto_region 14 with fail
          refine wp_world ?_
          intro W8 hW8
          have hA8 : Blk W8 W7.heap.size 43 #[.slice Av (n + 1) cv, .int .i64 3, .int .i64 (n : Int), .int .i64 0, .int .i64 0] := by
            rw [← hW8]; exact ((Blk.new W7 _ _).alloc _).alloc _
          have hF8 : Blk W8 (W7.heap.size + 1) 45 #[.string ⟨#[109, 97, 105, 110]⟩, .int .i64 0, .int .i64 12, .slice (some ⟨W7.heap.size, 0, none⟩) 1 1] := by
            rw [← hW8]; exact (Blk.new_at _ _ _ (by simp)).alloc _
          have hU8 : Blk W8 (W7.heap.size + 1 + 1) 27 #[.slice none 0 0, .slice (some ⟨W7.heap.size + 1, 0, none⟩) 1 1] := by
            rw [← hW8]; exact Blk.new_at _ _ _ (by simp)
          have hb78 : Below W7.heap.size W7 W8 := by rw [← hW8]; exact ((below1 W7 _).alloc (by simp) _).alloc (by simp; omega) _
          have hsl8 : SlR W8 (· < W8.heap.size) 8 (RIns W8 (· < W8.heap.size)) (.slice Av (n + 1) cv) (nuL one two o m) := HSL7.out.imp (fun b hb => Nat.lt_of_lt_of_le hb hb78.size) (fun b hb => hb78.block b hb) (fun _ _ _ r => r.imp (fun b hb => Nat.lt_of_lt_of_le hb hb78.size) (fun b hb => hb78.block b hb))
          have hui8 : UIn (nuU one two o m) W8 none (some ⟨W7.heap.size + 1, 0, none⟩) 0 1 := by
            refine ⟨SlR.nil_ _ _ _ _, ?_⟩
            refine SlR.lit [[.string ⟨#[109, 97, 105, 110]⟩, .int .i64 0, .int .i64 12, .slice (some ⟨W7.heap.size, 0, none⟩) 1 1]] hF8 rfl ⟨⟨rfl, ⟨_, rfl, ?_⟩⟩, trivial⟩ rfl hF8.lt (by show 1 ≤ 1000; omega)
            refine SlR.lit [[.slice Av (n + 1) cv, .int .i64 3, .int .i64 (n : Int), .int .i64 0, .int .i64 0]] hA8 rfl ⟨⟨rfl, ⟨_, ?_, hsl8⟩⟩, trivial⟩ rfl hA8.lt (by show 1 ≤ 1000; omega)
            rw [HNN.out]; rfl
          have huo := nu_ok one two o HO.out hm8
          have hfo : Calls Tryz.prog 26 #[.agg #[.slice none 0 0, .slice (some ⟨W7.heap.size + 1, 0, none⟩) 1 1]] W8 fun e w' => ∃ B1 B2 d1 d2, e = .returned (.tuple #[.agg #[.slice B1 0 d1, .slice B2 1 d2], .int .i64 0]) ∧ Below W8.heap.size W8 w' ∧ UIn (foldE (nuU one two o m)) w' B1 B2 d1 d2 := by
            refine (fold_u huo hui8).mono ?_
            rintro e w' ⟨B1, B2, d1, d2, rfl, hb, hu⟩
            exact ⟨B1, B2, d1, d2, rfl, hb, hu⟩
          obtain ⟨mm, hmd⟩ : ∃ mm, mm = runU (nuU one two o m) [] 99 := ⟨_, rfl⟩
          have hst9 : mm.status = 1 := by rw [hmd]; exact (nu_run one two o HO.out hm8).1
          have hrn : ∀ X, Below W8.heap.size W8 X → Calls Tryz.prog 30 #[.agg #[.slice none 0 0, .slice (some ⟨W7.heap.size + 1, 0, none⟩) 1 1], .slice none 0 0, .int .i64 99] X fun e X' => ∃ A c, e = .returned (.agg #[.int .i64 1, .int .i64 mm.code, .slice A mm.out.length c, .int .i64 mm.steps]) ∧ Below X.heap.size X X' := fun X hb => by
            have h := run_un (m := mm) huo (inp := []) (n := 99) (by omega) (hui8.below hb) (SlR.nil_ _ _ _ _) (by rw [hmd]) (by rw [hmd]) (by rw [hmd]) (by rw [hmd])
            rw [hst9] at h
            exact h
          have hcode : mm.code = valN one two o n := by rw [hmd, HNN.out]; exact (nu_run one two o HO.out hm8).2
          obtain ⟨cd, hcd⟩ : ∃ cd, cd = valN one two o n := ⟨_, rfl⟩
          rw [← hcd] at hcode
          rw [hcode] at hrn
          have hu0 : W8.cell? ⟨W7.heap.size + 1 + 1, 0, none⟩ = some (.slice none 0 0) := hU8.cell 0
          have hu1 : W8.cell? ⟨W7.heap.size + 1 + 1, 1, none⟩ = some (.slice (some ⟨W7.heap.size + 1, 0, none⟩) 1 1) := hU8.cell 1
          have HFO := Lib.hid hfo
          have HRN := Lib.hid hrn
          have HB78 := Lib.hid hb78
          have HU8 := Lib.hid hU8
          have HCD := Lib.hid hcd
          have HUO := Lib.hid huo
          generalize mm.out.length = ol at *
          generalize mm.steps = os at *
          clear hW8 hA8 hF8 hU8 hb78 hsl8 hui8 hfo hrn hst9 hcode hcd hmd huo c0 d1 d2 d3 d4
          go_upto_region 15 with (go_at_call 26; refine HFO.out.mono ?_; rintro e w9 ⟨D1, D2, e1', e2', rfl, hb9, hvi⟩)
          refine wp_world ?_
          intro W10 hW10
          have h9 : Below w9.heap.size w9 W10 := by rw [← hW10]; exact below1 _ _
          have hb10 : Below W8.heap.size W8 W10 := hb9.trans (h9.mono hb9.size)
          have hX : Blk W10 w9.heap.size 27 #[.slice D1 0 e1', .slice D2 1 e2'] := by rw [← hW10]; exact Blk.new w9 _ _
          have hvi10 : UIn (foldE (nuU one two o m)) W10 D1 D2 e1' e2' := hvi.below h9
          have hu0 : W10.cell? ⟨W7.heap.size + 1 + 1, 0, none⟩ = some (.slice none 0 0) := (HU8.out.below hb10 HU8.out.lt).cell 0
          have hu1 : W10.cell? ⟨W7.heap.size + 1 + 1, 1, none⟩ = some (.slice (some ⟨W7.heap.size + 1, 0, none⟩) 1 1) := (HU8.out.below hb10 HU8.out.lt).cell 1
          have HX := Lib.hid hX
          have HVI := Lib.hid hvi10
          have HB10 := Lib.hid hb10
          clear hW10 h9 hb10 hX hvi10 hvi hb9 HFO
          go_upto_region 16 with (go_at_call 30; refine (HRN.out _ HB10.out).mono ?_; rintro e w11 ⟨Ra, ra, rfl, hb11⟩)
          refine wp_world ?_
          intro W12 hW12
          have h12 : Below W10.heap.size W10 W12 := by rw [← hW12]; exact hb11.alloc hb11.size _
          have hR12 : Blk W12 w11.heap.size 65 #[.int .i64 1, .int .i64 cd, .slice Ra ol ra, .int .i64 os] := by rw [← hW12]; exact Blk.new w11 _ _
          have hX12 := HX.out.below h12 HX.out.lt
          have hvi12 := HVI.out.below h12
          have hfl : SlR W12 (· < W12.heap.size) 4 (RFlow W12 (· < W12.heap.size)) (.slice D2 1 e2') [⟨⟨#[109, 97, 105, 110]⟩, 0, 12, [blockE (nuB one two o m)]⟩] := hvi12.flo
          rw [nu_block one two o HO.out m] at hfl
          obtain ⟨gf, of_, rfl⟩ := sl_some hfl (by show 0 < 1; omega)
          obtain ⟨Ab, cb, hsb, hfc⟩ := flow_cells hfl (i := 0) (by show 0 < 1; omega)
          simp only [List.getElem_cons_zero] at hsb hfc
          obtain ⟨gk, ok, rfl⟩ := sl_some hsb (by show 0 < 1; omega)
          obtain ⟨Ak, ck, hsi, hbc⟩ := block_cells hsb (k := 0) (by show 0 < 1; omega)
          simp only [List.getElem_cons_zero] at hsi hbc
          have hfln : (folN one two o m).length = n + 1 := by rw [folN_len, HNN.out]
          obtain ⟨gi, oi, rfl⟩ := sl_some hsi (by omega)
          obtain ⟨Ax, cx, hax, hic⟩ := ins_cells hsi (j := n) (by omega)
          have hget : (folN one two o m)[n]'(by omega) = numN n cd := by
            have h := folN_get (one := one) (two := two) (o := o) (m := m) (j := n) (by rw [HNN.out]; omega)
            rw [List.getElem?_eq_getElem (by omega)] at h
            rw [HCD.out]; exact Option.some.inj h
          rw [hget] at hic
          rw [hfln] at hbc
          have x1 : W12.cell? ⟨w9.heap.size, 1, none⟩ = some (.slice (some ⟨gf, of_, none⟩) 1 e2') := hX12.cell 1
          have f3 : W12.cell? ⟨gf, of_ + 3, none⟩ = some (.slice (some ⟨gk, ok, none⟩) 1 cb) := by have h := (hfc W12 (Below.refl _ _)).2.2.2; simpa using h
          have a0 : W12.cell? ⟨gk, ok, none⟩ = some (.slice (some ⟨gi, oi, none⟩) (n + 1) ck) := by have h := (hbc W12 (Below.refl _ _)).1; simpa using h
          obtain ⟨i0, i1, i2, i3, i4, i5, i6, i7⟩ := hic W12 (Below.refl _ _)
          replace i0 : W12.cell? ⟨gi, oi + n * 8, none⟩ = some (.int .i64 1) := i0
          replace i1 : W12.cell? ⟨gi, oi + n * 8 + 1, none⟩ = some (.int .i64 (n : Int)) := i1
          replace i2 : W12.cell? ⟨gi, oi + n * 8 + 2, none⟩ = some (.int .i64 0) := i2
          replace i3 : W12.cell? ⟨gi, oi + n * 8 + 3, none⟩ = some (.int .i64 0) := i3
          replace i4 : W12.cell? ⟨gi, oi + n * 8 + 4, none⟩ = some (.int .i64 0) := i4
          replace i5 : W12.cell? ⟨gi, oi + n * 8 + 5, none⟩ = some (.int .i64 cd) := i5
          replace i6 : W12.cell? ⟨gi, oi + n * 8 + 6, none⟩ = some (.string ⟨#[]⟩) := i6
          replace i7 : W12.cell? ⟨gi, oi + n * 8 + 7, none⟩ = some (.slice Ax 0 cx) := i7
          have hknown : ∀ X, Below W12.heap.size W12 X → Calls Tryz.prog 27 #[.agg #[.slice D1 0 e1', .slice (some ⟨gf, of_, none⟩) 1 e2']] X fun e w' => (∃ kb : Int, e = .returned (.agg #[.int .i64 ((n : Int) + 1), .int .i64 kb])) ∧ Below X.heap.size X w' := fun X hb => by
            have h := known_u (fold_ok HUO.out) (hvi12.below hb)
            rw [nu_known one two o HO.out m] at h
            refine h.mono ?_
            rintro e w' ⟨rfl, hb'⟩
            have ec : ((m + 2 : Nat) : Int) = (n : Int) + 1 := by rw [HNN.out]; omega
            rw [ec]
            exact ⟨⟨_, rfl⟩, hb'⟩
          have n0 : ((n : Int) + 1 != (n : Int) + 1) = false := by simp
          have n5 : ((n : Int) + 1 == (n : Int) + 1) = true := by simp
          have n6 : (cd == cd) = true := by simp
          have n7 : (n : Int) < (n : Int) + 1 := by omega
          have HKN := Lib.hid hknown
          have HR12 := Lib.hid hR12
          have HX12 := Lib.hid hX12
          have H12 := Lib.hid h12
          clear hax
          clear hW12 h12 hR12 hX12 hvi12 hfl hsb hsi hfc hbc hic hget hfln hknown hb11 hu0 hu1 HRN HVI HX
          go_upto_region 19 with fail
          refine wp_world ?_
          intro W13 hW13
          have h13 : Below W12.heap.size W12 W13 := by rw [← hW13]; exact below1 _ _
          have hL13 : Blk W13 W12.heap.size 36 #[.int .i64 1, .int .i64 (n : Int), .int .i64 0, .int .i64 0, .int .i64 0, .int .i64 cd, .string ⟨#[]⟩, .slice Ax 0 cx] := by rw [← hW13]; exact Blk.new W12 _ _
          have y0 : W13.cell? ⟨w9.heap.size, 0, none⟩ = some (.slice D1 0 e1') := (HX12.out.below h13 HX12.out.lt).cell 0
          have y1 : W13.cell? ⟨w9.heap.size, 1, none⟩ = some (.slice (some ⟨gf, of_, none⟩) 1 e2') := (HX12.out.below h13 HX12.out.lt).cell 1
          have hl13 : W12.heap.size < W13.heap.size := hL13.lt
          have HL13 := Lib.hid hL13
          have H13 := Lib.hid h13
          clear hW13 h13 hL13 x1 f3 a0 i0 i1 i2 i3 i4 i5 i6 i7
          go_wp2_with (go_at_call 27; refine (HKN.out W13 H13.out).mono ?_; rintro e w14 ⟨⟨kb, rfl⟩, hb14⟩; have hix := index0 ((n : Int) + 1) kb w14; have hx14 := HL13.out.below hb14 hl13; have q0 : w14.cell? ⟨W12.heap.size, 0, none⟩ = some (.int .i64 1) := hx14.cell 0; have q5 : w14.cell? ⟨W12.heap.size, 5, none⟩ = some (.int .i64 cd) := hx14.cell 5; have hr14 := HR12.out.below (H13.out.trans (hb14.mono H13.out.size)) HR12.out.lt; have r0 : w14.cell? ⟨w11.heap.size, 0, none⟩ = some (.int .i64 1) := hr14.cell 0; have r1 : w14.cell? ⟨w11.heap.size, 1, none⟩ = some (.int .i64 cd) := hr14.cell 1)
          go_ret
          have hA := H13.out.trans (hb14.mono H13.out.size)
          have hB := H12.out.trans (hA.mono H12.out.size)
          have hC := HB10.out.trans (hB.mono HB10.out.size)
          have hD := HB78.out.trans (hC.mono HB78.out.size)
          have hE := HBE7.out.trans (hD.mono HBE7.out.size)
          exact ⟨rfl, HB2.out.trans (hE.mono HB2.out.size)⟩
end Go.Proofs.YtnpnhdmfdhnmfaaGreatDoor
