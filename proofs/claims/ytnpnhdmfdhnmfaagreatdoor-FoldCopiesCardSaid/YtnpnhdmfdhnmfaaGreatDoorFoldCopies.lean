/- A value that was moved on and on is used in the place of all that it was moved to: the walk of 'FoldCopiesSaid'. Printed by wip/gen_foldcopies.py. -/
import Derived.Test.YtnpnhdmfdhnmfaaGreatDoorFoldFold
import Derived.Test.YtnpnhdmfdhnmfaaGreatDoorAw14
import Derived.Test.YtnpnhdmfdhnmfaaGreatDoorArgs
import Derived.BigQuiet
namespace Go.Proofs.YtnpnhdmfdhnmfaaGreatDoor
open Go.RowKit
open Go.Deep

/-! ### plain -/
def lastC (v : Int) (i : Nat) : Int := if i = 0 then v else 2 + i
def movC (v : Int) (i : Nat) : LIns := ⟨2, 3 + i, lastC v i, 0, 0, 0, ⟨#[]⟩, []⟩
def movL (v : Int) : Nat → List LIns
  | 0 => []
  | i + 1 => movL v i ++ [movC v i]
def readC (v : Int) : LIns := ⟨7, v, 0, 0, 0, 0, ⟨#[]⟩, []⟩
def prC (a : Int) : LIns := ⟨8, 0, a, 0, 0, 0, ⟨#[]⟩, []⟩
def cpI (v : Int) (k : Nat) (set : Bool) : List LIns := (movL v k ++ if set then [readC v] else []) ++ [prC (lastC v k)]
def cpB (v : Int) (k : Nat) (set : Bool) : LBlock := ⟨cpI v k set, ⟨3, lastC v k, 0, 0⟩⟩
def cpU (v : Int) (k : Nat) (set : Bool) : LUnit := ⟨[], [⟨⟨#[109, 97, 105, 110]⟩, 0, 9, [cpB v k set]⟩]⟩
theorem movL_len (v : Int) : ∀ i, (movL v i).length = i
  | 0 => rfl
  | i + 1 => by show (movL v i ++ [movC v i]).length = _; rw [List.length_append, movL_len v i]; rfl
def wantC (v : Int) (k : Nat) (set : Bool) : Int := if set then lastC v k else v
/-- what the folded block is to be -/
def CpOk (v : Int) (k : Nat) (set : Bool) : Prop :=
  (blockBad (cpU v k set) ⟨⟨#[109, 97, 105, 110]⟩, 0, 9, [cpB v k set]⟩ (cpB v k set) = false) ∧ (cpI v k set).length = k + (if set then 2 else 1) ∧
  (∀ i : Fin 6, i.val < k → ((blockE (cpB v k set)).ins[i.val]?.map fun x => (x.kind, x.a)) = some (2, v)) ∧
  ((blockE (cpB v k set)).ins[(cpI v k set).length - 1]?.map fun x => x.a) = some (wantC v k set) ∧ (blockE (cpB v k set)).term.a = wantC v k set
instance (v : Int) (k : Nat) (set : Bool) : Decidable (CpOk v k set) := by unfold CpOk; infer_instance
theorem cp_all : ∀ (v : Fin 3) (k : Fin 6) (set : Bool), CpOk (v.val : Int) (k.val + 1) set := by decide +kernel
theorem cp_ok {v : Int} {k : Nat} (h0 : 0 ≤ v) (h1 : v < 3) (h2 : 1 ≤ k) (h3 : k ≤ 6) (set : Bool) : CpOk v k set := by
  have h := cp_all ⟨v.toNat, by omega⟩ ⟨k - 1, by omega⟩ set
  have e1 : ((v.toNat : Nat) : Int) = v := by omega
  have e2 : k - 1 + 1 = k := by omega
  simp only [e1, e2] at h
  exact h
theorem cpU_ok {v : Int} {k : Nat} (h0 : 0 ≤ v) (h1 : v < 3) (h2 : 1 ≤ k) (h3 : k ≤ 6) (set : Bool) : UnitOk (cpU v k set) where
  sizes := fun a ha => by cases ha
  arrs := by show 0 ≤ 500; omega
  fls := by show 1 ≤ 500; omega
  good := fun s hs => by
    have h : s = (⟨#[109, 97, 105, 110]⟩ : ByteArray) := by simpa [allNames, cpU] using hs
    exact .inl h
  nodup := by simp [allNames, cpU]
  main := ⟨0, by show 0 < 1; omega, by unfold placeU findI; rfl, by show (0 : Int) ≤ 0; omega⟩
  nums := fun f hf => by
    obtain rfl : f = _ := List.mem_singleton.1 hf
    have hl : (cpI v k set).length ≤ 8 := by rw [(cp_ok h0 h1 h2 h3 set).2.1]; split <;> omega
    unfold flowBad
    refine decide_eq_false ?_
    have hi : insCount [cpB v k set] = (cpI v k set).length := by unfold insCount cpB; simp
    show ¬ ((0 : Int) < 0 ∨ (0 : Int) > 6 ∨ (9 : Int) < 0 ∨ (9 : Int) > 50000 ∨ 1 = 0 ∨ 1 > 20000 ∨ insCount [cpB v k set] > 200000)
    rw [hi]; omega
  lens := fun f hf b hb => by
    obtain rfl : f = _ := List.mem_singleton.1 hf
    obtain rfl : b = _ := List.mem_singleton.1 hb
    show (cpI v k set).length ≤ 1000
    rw [(cp_ok h0 h1 h2 h3 set).2.1]; split <;> omega
  blocks := fun f hf => by
    obtain rfl : f = _ := List.mem_singleton.1 hf
    show (blockBad _ _ (cpB v k set) || false) = false
    rw [(cp_ok h0 h1 h2 h3 set).1]; rfl

/-! ### the walk -/
/-- a block that instructions are appended to -/
structure LI (w2 : World) (l : List LIns) (vi : Value) (css : List (List Value)) (wr : World) : Prop where
  below : Below w2.heap.size w2 wr
  blk : Blk wr w2.heap.size 43 #[vi, .int .i64 0, .int .i64 0, .int .i64 0, .int .i64 0]
  own : OwnL wr (w2.heap.size + 1) 36 8 RIns vi l css
def insC (x : LIns) : List Value := insCells x (.slice none 0 0)
theorem LI.next {w2 : World} {l : List LIns} {vi : Value} {css : List (List Value)} {wr : World} (h : LI w2 l vi css wr) (x : LIns) (hx : x.args = []) {X3 : World} {gp cp n : Nat} (hn : n = l.length)
    (hg : (wr.alloc (.cells (insC x).toArray 36)).grownBy X3 vi.ownBlock) (hown : X3.ownsRow (w2.heap.size + 1) 36 8 (.slice (some ⟨gp, 0, none⟩) (n + 1) cp) (n + 1) (css.flatten ++ insC x)) (hat : vi.ownBlock = some gp ∨ wr.heap.size + 1 ≤ gp) :
    LI w2 (l ++ [x]) (.slice (some ⟨gp, 0, none⟩) (n + 1) cp) (css ++ [insC x]) (X3.setCell ⟨w2.heap.size, 0, none⟩ (.slice (some ⟨gp, 0, none⟩) (n + 1) cp)) := by
  subst hn
  have hbase : ∀ k, vi.ownBlock = some k → w2.heap.size + 1 ≤ k ∧ k < wr.heap.size := h.own.lt
  have hW : w2.heap.size < wr.heap.size := h.blk.lt
  have h1 := below1 wr (.cells (insC x).toArray 36)
  have hke : Keeps (fun k => w2.heap.size + 1 ≤ k ∧ k < wr.heap.size) wr (wr.alloc (.cells (insC x).toArray 36)) := fun k hk => h1.block k hk.2
  have hsn := OwnL.snoc (x := x) (cs := insC x) mono_ins8 h.own hke h1.size rfl hown hg (hat.imp id fun e => by simp; omega) ⟨.slice none 0 0, rfl, by rw [hx]; exact SlR.nil_ _ _ _ _⟩
  have hB : Below w2.heap.size w2 X3 := (h.below.trans (h1.mono h.below.size)).grown hg (by simp; omega) (fun k e => by have := (hbase k e).1; omega)
  have hb3 := (h.blk.alloc (.cells (insC x).toArray 36)).grown hg (fun e => by have := (hbase _ e).1; omega)
  exact ⟨hB.setCell (Nat.le_refl _) _, hb3.set_ 0 _, hsn.keep mono_ins8 (snoc_put (by simp) _) (by simp [World.setCell])⟩
set_option maxRecDepth 100000 in
set_option maxHeartbeats 16000000 in
theorem foldCopies_walk (first nn : Int) (set : Bool) (w : World) (w0 : (Lit.int .i64 first).wf = true) (w1 : (Lit.int .i64 nn).wf = true) :
    Calls Tryz.prog 10 #[.int .i64 first, .int .i64 nn, .bool set] w fun e w' => e = .returned (.bool true) ∧ Below w.heap.size w w' := by
  obtain ⟨io, io'⟩ := i64_of_wf w0
  obtain ⟨jo, jo'⟩ := i64_of_wf w1
  have HAW := Lib.hid (awake14_any w)
  have HP1 := Lib.hid (fun w2 => pick14_any first 3 io io' (by omega) w2)
  have HP2 := Lib.hid (fun w2 => pick14_any nn 6 jo jo' (by omega) w2)
  have p0 := pk_lo first 3 (by omega)
  have p1 := pk_hi first 3 (by omega)
  have q0 := pk_lo nn 6 (by omega)
  have q1 := pk_hi nn 6 (by omega)
  generalize pk first 3 = v at *
  generalize pk nn 6 = kk at *
  obtain ⟨k1, rfl⟩ := Int.eq_ofNat_of_zero_le q0
  go_enter Tryz.func10, Tryz.ntmps10
  go_upto_region 3 with (first | (go_at_call 25; refine HAW.out.mono ?_; rintro e w2 ⟨rfl, hb2⟩) | (go_at_call 28; refine (HP1.out _).mono ?_; rintro e w' ⟨rfl, rfl⟩))
  go_upto_region 4 with (go_at_call 28; refine (HP2.out _).mono ?_; rintro e w' ⟨rfl, rfl⟩)
  obtain ⟨k, hk⟩ : ∃ k : Nat, (1 + (k1 : Int)) = (k : Int) := ⟨k1 + 1, by omega⟩
  rw [hk]
  have hk1 : 1 ≤ k := by omega
  have hk6 : k ≤ 6 := by omega
  clear hk q1
  go_upto_region 7 with fail
  refine wp_world ?_
  intro W hW
  have hst : LI w2 (movL v 0) (.slice none 0 0) [] W := by
    rw [← hW]
    exact ⟨below1 w2 _, Blk.new w2 _ _, OwnL.nil_ _ _ _ _ _⟩
  have HB2 := Lib.hid hb2
  clear hW hb2 HAW HP1 HP2
  go_loopw [11, 12] (fun a s wr => ∃ i : Nat, i ≤ k ∧ s = .int .i64 i ∧ a = .int .i64 (lastC v i) ∧ ∃ vi css, LI w2 (movL v i) vi css wr) (fun _ s _ => k - (intOf s).toNat)
  case atStart => exact ⟨0, by omega, rfl, rfl, _, _, hst⟩
  case round =>
    clear hst
    obtain ⟨i, hi, rfl, rfl, vi, css, hl⟩ := hrel
    obtain ⟨Av, cv, hv⟩ := own_form hl.own.row
    rw [movL_len] at hv
    subst hv
    have HL := Lib.hid hl
    have hb0 : wr.cell? ⟨w2.heap.size, 0, none⟩ = some (.slice Av i cv) := hl.blk.cell 0
    have hzb := hl.blk.frozen 0
    have hrow : wr.ownsRow (w2.heap.size + 1) 36 8 (.slice Av i cv) i css.flatten := by
      have h := hl.own.row
      rw [movL_len] at h
      exact h
    have hne : ∀ q, (Value.slice Av i cv).ownBlock = some q → w2.heap.size + 1 ≤ q := fun q e => (hrow.lt q e).1
    have hnb : (Value.slice Av i cv).ownBlock ≠ some w2.heap.size := fun e => by have := hne _ e; omega
    have hbl : w2.heap.size < wr.heap.size := hl.blk.lt
    have HBLK := Lib.hid hl.blk
    have HROW := Lib.hid hrow
    obtain ⟨z0, hi0, hzz0, hz1, hz2⟩ := info_parts info_ins
    by_cases hlt : i < k
    · have e1 : decide ((i : Int) < (k : Int)) = true := decide_eq_true (by omega)
      have hi3 : (i : Int) < (k : Int) := by omega
      generalize hla : lastC v i = la
      have HLA := Lib.hid hla
      clear hl hrow hla
      go_wp2_with (at_builtin; refine wpList_append_lies _ rfl _ _ _ rfl (w2.heap.size + 1) 36 z0 _ 8 88 Tryz.underlying39 hi0 hzz0 hz1 hz2 rfl (by decide) (.slice Av i cv) i css.flatten rfl (HROW.out.alloc _) ⟨wr.heap.size, 0, none⟩ 1 1 [.int .i64 2, .int .i64 (3 + (i : Int)), .int .i64 la, .int .i64 0, .int .i64 0, .int .i64 0, .string ⟨#[]⟩, .slice none 0 0] rfl rfl (World.news_of_block (Blk.new wr _ _)) (by simp [Value.oneCell']) (by decide) (by unfold maxLen; omega) (by omega) (by simp; omega) (wr.heap.size + 1) (by simp) ?_; intro g cap w5 hown5 hgrow hat hlt5; have hR5 := (HBLK.out.alloc (.cells #[.int .i64 2, .int .i64 (3 + (i : Int)), .int .i64 la, .int .i64 0, .int .i64 0, .int .i64 0, .string ⟨#[]⟩, .slice none 0 0] 36)).grown hgrow hnb; have k5 : w5.cell? ⟨w2.heap.size, 0, none⟩ = some (.slice Av i cv) := hR5.cell 0; have z5 := hR5.frozen 0)
      go_roundw
      case rel =>
        have hmc : insC (movC v i) = [.int .i64 2, .int .i64 (3 + (i : Int)), .int .i64 la, .int .i64 0, .int .i64 0, .int .i64 0, .string ⟨#[]⟩, .slice none 0 0] := by rw [← HLA.out]; rfl
        have hla2 : Value.int .i64 (3 + (i : Int)) = Value.int .i64 (lastC v (i + 1)) := by
          unfold lastC
          rw [if_neg (by omega)]
          congr 1
          push_cast
          omega
        refine ⟨i + 1, by omega, by go_num, hla2, _, _, HL.out.next (movC v i) rfl (movL_len v i).symm (by rw [hmc]; exact hgrow) (by rw [hmc]; exact hown5) (hat.imp id fun h => by omega)⟩
      case measure => simp [intOf]; omega
    · have e1 : decide ((i : Int) < (k : Int)) = false := decide_eq_false (by omega)
      have hik : k = i := by omega
      subst hik
      cases set with
      | true =>
        clear hl hrow
        go_upto_region 13 with (at_builtin; refine wpList_append_lies _ rfl _ _ _ rfl (w2.heap.size + 1) 36 z0 _ 8 88 Tryz.underlying39 hi0 hzz0 hz1 hz2 rfl (by decide) (.slice Av k cv) k css.flatten rfl (HROW.out.alloc _) ⟨wr.heap.size, 0, none⟩ 1 1 [.int .i64 7, .int .i64 v, .int .i64 0, .int .i64 0, .int .i64 0, .int .i64 0, .string ⟨#[]⟩, .slice none 0 0] rfl rfl (World.news_of_block (Blk.new wr _ _)) (by simp [Value.oneCell']) (by decide) (by unfold maxLen; omega) (by omega) (by simp; omega) (wr.heap.size + 1) (by simp) ?_; intro g cap w5 hown5 hgrow hat hlt5; have hR5 := (HBLK.out.alloc (.cells #[.int .i64 7, .int .i64 v, .int .i64 0, .int .i64 0, .int .i64 0, .int .i64 0, .string ⟨#[]⟩, .slice none 0 0] 36)).grown hgrow hnb; have k5 : w5.cell? ⟨w2.heap.size, 0, none⟩ = some (.slice Av k cv) := hR5.cell 0; have z5 := hR5.frozen 0)
        refine wp_world ?_
        intro W5 hW5
        obtain ⟨l, n, A5, c5, css5, hl5, hln, hcp, hnn⟩ : ∃ l n A5 c5 css5, LI w2 l (.slice A5 n c5) css5 W5 ∧ l.length = n ∧ l ++ [prC (lastC v k)] = cpI v k true ∧ n = k + 1 ∧ some ⟨g, 0, none⟩ = A5 ∧ cap = c5 := by
          refine ⟨movL v k ++ [readC v], k + 1, _, _, css ++ [insC (readC v)], ?_, by rw [List.length_append, movL_len]; rfl, rfl, rfl, rfl, rfl⟩
          rw [← hW5]
          exact HL.out.next (readC v) rfl (movL_len v k).symm hgrow hown5 (hat.imp id fun h => by omega)
        obtain ⟨hnn, hA5, hc5⟩ := hnn
        clear hW5 hown5 hgrow hat hlt5 hR5 k5 z5 hb0 hzb hne hnb hbl HBLK HROW HL
        clear hA5 hc5
        have hn9 : n ≤ 7 := by omega
        have hkn : k ≤ n := by omega
        have HNN := Lib.hid hnn
        clear hnn
        have hb0 : W5.cell? ⟨w2.heap.size, 0, none⟩ = some (.slice A5 n c5) := hl5.blk.cell 0
        have hzb := hl5.blk.frozen 0
        have hrow : W5.ownsRow (w2.heap.size + 1) 36 8 (.slice A5 n c5) n css5.flatten := by
          have h := hl5.own.row
          rw [hln] at h
          exact h
        have hne : ∀ q, (Value.slice A5 n c5).ownBlock = some q → w2.heap.size + 1 ≤ q := fun q e => (hrow.lt q e).1
        have hnb : (Value.slice A5 n c5).ownBlock ≠ some w2.heap.size := fun e => by have := hne _ e; omega
        have hbl : w2.heap.size < W5.heap.size := hl5.blk.lt
        have HBLK := Lib.hid hl5.blk
        have HROW := Lib.hid hrow
        have HL5 := Lib.hid hl5
        generalize hla : lastC v k = la
        have HLA := Lib.hid hla
        clear hl5 hrow hla
        go_upto_region 14 with (at_builtin; refine wpList_append_lies _ rfl _ _ _ rfl (w2.heap.size + 1) 36 z0 _ 8 88 Tryz.underlying39 hi0 hzz0 hz1 hz2 rfl (by decide) (.slice A5 n c5) n css5.flatten rfl (HROW.out.alloc _) ⟨W5.heap.size, 0, none⟩ 1 1 [.int .i64 8, .int .i64 0, .int .i64 la, .int .i64 0, .int .i64 0, .int .i64 0, .string ⟨#[]⟩, .slice none 0 0] rfl rfl (World.news_of_block (Blk.new W5 _ _)) (by simp [Value.oneCell']) (by decide) (by unfold maxLen; omega) (by omega) (by simp; omega) (W5.heap.size + 1) (by simp) ?_; intro g cap w6 hown6 hgrow6 hat6 hlt6; have hR6 := (HBLK.out.alloc (.cells #[.int .i64 8, .int .i64 0, .int .i64 la, .int .i64 0, .int .i64 0, .int .i64 0, .string ⟨#[]⟩, .slice none 0 0] 36)).grown hgrow6 hnb; have k6 : w6.cell? ⟨w2.heap.size, 0, none⟩ = some (.slice A5 n c5) := hR6.cell 0; have z6 := hR6.frozen 0)
        refine wp_world ?_
        intro W6 hW6
        have hmc : insC (prC (lastC v k)) = [.int .i64 8, .int .i64 0, .int .i64 la, .int .i64 0, .int .i64 0, .int .i64 0, .string ⟨#[]⟩, .slice none 0 0] := by rw [← HLA.out]; rfl
        have hl6 : LI w2 (cpI v k true) (.slice (some ⟨g, 0, none⟩) (n + 1) cap) (css5 ++ [insC (prC (lastC v k))]) W6 := by
          rw [← hW6, ← hcp]
          exact HL5.out.next (prC (lastC v k)) rfl hln.symm (by rw [hmc]; exact hgrow6) (by rw [hmc]; exact hown6) (hat6.imp id fun h => by omega)
        obtain ⟨css6, hcss6⟩ : ∃ css6, css6 = css5 ++ [insC (prC (lastC v k))] := ⟨_, rfl⟩
        rw [← hcss6] at hl6
        have HL6 := Lib.hid hl6
        have b1 : W6.cell? ⟨w2.heap.size, 1, none⟩ = some (.int .i64 0) := hl6.blk.cell 1
        have b2 : W6.cell? ⟨w2.heap.size, 2, none⟩ = some (.int .i64 0) := hl6.blk.cell 2
        have b3 : W6.cell? ⟨w2.heap.size, 3, none⟩ = some (.int .i64 0) := hl6.blk.cell 3
        have b4 : W6.cell? ⟨w2.heap.size, 4, none⟩ = some (.int .i64 0) := hl6.blk.cell 4
        have z1' := hl6.blk.frozen 1
        have z2' := hl6.blk.frozen 2
        have z3' := hl6.blk.frozen 3
        have z4' := hl6.blk.frozen 4
        clear hW6 hl6 hmc hown6 hgrow6 hat6 hlt6 hR6 k6 z6 hb0 hzb hne hnb HBLK HROW HL5 hcss6
        go_upto_region 15 with fail
        refine wp_world ?_
        intro W7 hW7
        have hb7 : Blk W7 w2.heap.size 43 #[.slice (some ⟨g, 0, none⟩) (n + 1) cap, .int .i64 3, .int .i64 la, .int .i64 0, .int .i64 0] := by
          rw [← hW7]; exact (((HL6.out.blk.set_ 1 _).set_ 2 _).set_ 3 _).set_ 4 _
        have hneq : ∀ (q b : Nat), b ≠ w2.heap.size → b ≠ (⟨w2.heap.size, q, none⟩ : Addr).block := fun _ _ h => h
        have hkf : Keeps (fun b => w2.heap.size < b) W6 W7 := by
          rw [← hW7]
          exact ((((Keeps.refl _ _).set (fun b hb => hneq 1 b (by omega)) _).set (fun b hb => hneq 2 b (by omega)) _).set (fun b hb => hneq 3 b (by omega)) _).set (fun b hb => hneq 4 b (by omega)) _
        have hsz7 : W7.heap.size = W6.heap.size := by rw [← hW7]; simp [World.setCell]
        have hB7 : Below w2.heap.size w2 W7 := by
          rw [← hW7]
          exact (((HL6.out.below.setCell (Nat.le_refl _) _).setCell (Nat.le_refl _) _).setCell (Nat.le_refl _) _).setCell (Nat.le_refl _) _
        have ho7 : OwnL W7 (w2.heap.size + 1) 36 8 RIns (.slice (some ⟨g, 0, none⟩) (n + 1) cap) (cpI v k true) css6 := HL6.out.own.keep mono_ins8 (hkf.mono fun b hb => by omega) (by rw [hsz7]; exact Nat.le_refl _)
        have c0 : W7.cell? ⟨w2.heap.size, 0, none⟩ = some (.slice (some ⟨g, 0, none⟩) (n + 1) cap) := hb7.cell 0
        have d1 : W7.cell? ⟨w2.heap.size, 1, none⟩ = some (.int .i64 3) := hb7.cell 1
        have d2 : W7.cell? ⟨w2.heap.size, 2, none⟩ = some (.int .i64 la) := hb7.cell 2
        have d3 : W7.cell? ⟨w2.heap.size, 3, none⟩ = some (.int .i64 0) := hb7.cell 3
        have d4 : W7.cell? ⟨w2.heap.size, 4, none⟩ = some (.int .i64 0) := hb7.cell 4
        have HB7 := Lib.hid hb7
        have HO7 := Lib.hid ho7
        have HBE7 := Lib.hid hB7
        have hl7 := hb7.lt
        clear hW7 hb7 hneq hkf hsz7 hB7 ho7 b1 b2 b3 b4 z1' z2' z3' z4' HL6
        go_upto_region 16 with fail
        refine wp_world ?_
        intro W8 hW8
        have hA8 : Blk W8 W7.heap.size 43 #[.slice (some ⟨g, 0, none⟩) (n + 1) cap, .int .i64 3, .int .i64 la, .int .i64 0, .int .i64 0] := by
          rw [← hW8]; exact ((Blk.new W7 _ _).alloc _).alloc _
        have hF8 : Blk W8 (W7.heap.size + 1) 45 #[.string ⟨#[109, 97, 105, 110]⟩, .int .i64 0, .int .i64 9, .slice (some ⟨W7.heap.size, 0, none⟩) 1 1] := by
          rw [← hW8]; exact (Blk.new_at _ _ _ (by simp)).alloc _
        have hU8 : Blk W8 (W7.heap.size + 1 + 1) 27 #[.slice none 0 0, .slice (some ⟨W7.heap.size + 1, 0, none⟩) 1 1] := by
          rw [← hW8]; exact Blk.new_at _ _ _ (by simp)
        have hb78 : Below W7.heap.size W7 W8 := by rw [← hW8]; exact ((below1 W7 _).alloc (by simp) _).alloc (by simp; omega) _
        have hsl8 : SlR W8 (· < W8.heap.size) 8 (RIns W8 (· < W8.heap.size)) (.slice (some ⟨g, 0, none⟩) (n + 1) cap) (cpI v k true) := (HO7.out.slr mono_ins8).imp (fun b hb => Nat.lt_of_lt_of_le hb.2 hb78.size) (fun b hb => hb78.block b hb.2) (fun _ _ _ r => r.imp (fun b hb => Nat.lt_of_lt_of_le hb.2 hb78.size) (fun b hb => hb78.block b hb.2))
        have hui8 : UIn (cpU v k true) W8 none (some ⟨W7.heap.size + 1, 0, none⟩) 0 1 := by
          refine ⟨SlR.nil_ _ _ _ _, ?_⟩
          refine SlR.lit [[.string ⟨#[109, 97, 105, 110]⟩, .int .i64 0, .int .i64 9, .slice (some ⟨W7.heap.size, 0, none⟩) 1 1]] hF8 rfl ⟨⟨rfl, ⟨_, rfl, ?_⟩⟩, trivial⟩ rfl hF8.lt (by show 1 ≤ 1000; omega)
          refine SlR.lit [[.slice (some ⟨g, 0, none⟩) (n + 1) cap, .int .i64 3, .int .i64 la, .int .i64 0, .int .i64 0]] hA8 rfl ⟨⟨rfl, ⟨_, by rw [← HLA.out]; rfl, hsl8⟩⟩, trivial⟩ rfl hA8.lt (by show 1 ≤ 1000; omega)
        have hco := cp_ok p0 (by omega) hk1 hk6 true
        have hfo : Calls Tryz.prog 26 #[.agg #[.slice none 0 0, .slice (some ⟨W7.heap.size + 1, 0, none⟩) 1 1]] W8 fun e w' => ∃ B1 B2 d1 d2, e = .returned (.tuple #[.agg #[.slice B1 0 d1, .slice B2 1 d2], .int .i64 0]) ∧ Below W8.heap.size W8 w' ∧ SlR w' (· < w'.heap.size) 4 (RFlow w' (· < w'.heap.size)) (.slice B2 1 d2) [⟨⟨#[109, 97, 105, 110]⟩, 0, 9, [blockE (cpB v k true)]⟩] := by
          refine (fold_u (cpU_ok p0 (by omega) hk1 hk6 true) hui8).mono ?_
          rintro e w' ⟨B1, B2, d1, d2, rfl, hb, hu⟩
          exact ⟨B1, B2, d1, d2, rfl, hb, hu.flo⟩
        have hbln : (blockE (cpB v k true)).ins.length = n + 1 := by
          show (insL E0 (cpI v k true)).length = n + 1
          have hnn := HNN.out
          rw [insL_length, hco.2.1]; simp; omega
        obtain ⟨_, _, hco1, hco2, hco3⟩ := hco
        have hcn : (cpI v k true).length - 1 = n := by
          have h : (insL E0 (cpI v k true)).length = n + 1 := hbln
          rw [insL_length] at h; omega
        rw [hcn] at hco2
        generalize blockE (cpB v k true) = bb at hfo hbln hco1 hco2 hco3
        have hwc : wantC v k true = la := by unfold wantC; rw [if_pos rfl]; exact HLA.out
        rw [hwc] at hco2 hco3
        have hu0 : W8.cell? ⟨W7.heap.size + 1 + 1, 0, none⟩ = some (.slice none 0 0) := hU8.cell 0
        have hu1 : W8.cell? ⟨W7.heap.size + 1 + 1, 1, none⟩ = some (.slice (some ⟨W7.heap.size + 1, 0, none⟩) 1 1) := hU8.cell 1
        have HFO := Lib.hid hfo
        have HB78 := Lib.hid hb78
        have HC1 := Lib.hid hco1
        have HC2 := Lib.hid hco2
        have HC3 := Lib.hid hco3
        clear hW8 hA8 hF8 hU8 hb78 hsl8 hui8 hfo hco1 hco2 hco3 hcn hwc c0 d1 d2 d3 d4
        go_upto_region 17 with (go_at_call 26; refine HFO.out.mono ?_; rintro e w9 ⟨D1, D2, e1, e2, rfl, hb9, hfl9⟩)
        refine wp_world ?_
        intro W10 hW10
        have h9 : Below w9.heap.size w9 W10 := by rw [← hW10]; exact below1 _ _
        have hb10 : Below W8.heap.size W8 W10 := hb9.trans (h9.mono hb9.size)
        have hX : Blk W10 w9.heap.size 27 #[.slice D1 0 e1, .slice D2 1 e2] := by rw [← hW10]; exact Blk.new w9 _ _
        have hfl := hb_flows hfl9 h9
        obtain ⟨gf, of_, rfl⟩ := sl_some hfl (by show 0 < 1; omega)
        obtain ⟨Ab, cb, hsb, hfc⟩ := flow_cells hfl (i := 0) (by show 0 < 1; omega)
        simp only [List.getElem_cons_zero] at hsb hfc
        obtain ⟨gb, ob, rfl⟩ := sl_some hsb (by show 0 < 1; omega)
        obtain ⟨Ai, ci, hsi, hbc⟩ := block_cells hsb (k := 0) (by show 0 < 1; omega)
        simp only [List.getElem_cons_zero] at hsi hbc
        obtain ⟨gi, oi, rfl⟩ := sl_some hsi (by omega)
        have hic := fun (j : Nat) (hj : j < bb.ins.length) => ins_cells hsi hj
        rw [hbln] at hbc
        have x1 : W10.cell? ⟨w9.heap.size, 1, none⟩ = some (.slice (some ⟨gf, of_, none⟩) 1 e2) := hX.cell 1
        have f3 : W10.cell? ⟨gf, of_ + 3, none⟩ = some (.slice (some ⟨gb, ob, none⟩) 1 cb) := by have h := (hfc W10 (Below.refl _ _)).2.2.2; simpa using h
        have a0 : W10.cell? ⟨gb, ob, none⟩ = some (.slice (some ⟨gi, oi, none⟩) (n + 1) ci) := by have h := (hbc W10 (Below.refl _ _)).1; simpa using h
        have hb27 : Below W7.heap.size W7 W10 := HB78.out.trans (hb10.mono HB78.out.size)
        have c0 : W10.cell? ⟨w2.heap.size, 0, none⟩ = some (.slice (some ⟨g, 0, none⟩) (n + 1) cap) := (HB7.out.below hb27 hl7).cell 0
        have n0 : ((n : Int) + 1 != (n : Int) + 1) = false := by simp
        have HX := Lib.hid hX
        have HFC := Lib.hid hfc
        have HBC := Lib.hid hbc
        have HIC := Lib.hid hic
        have HB27 := Lib.hid hb27
        clear hW10 h9 hb10 hX hfl hsb hsi hfc hbc hic hb27 hb9 hfl9 hu0 hu1 HFO
        go_quiet (fail)
        go_upto_region 19 with fail
        refine wp_world ?_
        intro W11 hW11
        have hb11 : Below W10.heap.size W10 W11 := by rw [← hW11]; exact below_drewN (Below.refl _ _) _
        have x1' : W11.cell? ⟨w9.heap.size, 1, none⟩ = some (.slice (some ⟨gf, of_, none⟩) 1 e2) := (HX.out.below hb11 HX.out.lt).cell 1
        have f3' : W11.cell? ⟨gf, of_ + 3, none⟩ = some (.slice (some ⟨gb, ob, none⟩) 1 cb) := by have h := (HFC.out W11 hb11).2.2.2; simpa using h
        obtain ⟨a0', a1, a2, a3, a4⟩ := HBC.out W11 hb11
        rw [Nat.zero_mul, Nat.add_zero] at a0' a1 a2 a3 a4
        have HB11 := Lib.hid hb11
        clear hW11 hb11 x1 f3 a0 c0
        go_upto_region 20 with fail
        refine wp_world ?_
        intro W12 hW12
        have h12 : Below W11.heap.size W11 W12 := by rw [← hW12]; exact below1 _ _
        have hX12 : Blk W12 W11.heap.size 43 #[.slice (some ⟨gi, oi, none⟩) (n + 1) ci, .int .i64 bb.term.kind, .int .i64 bb.term.a, .int .i64 bb.term.to, .int .i64 bb.term.els] := by rw [← hW12]; exact Blk.new W11 _ _
        rw [HC3.out] at hX12
        have hb12 : Below W10.heap.size W10 W12 := HB11.out.trans (h12.mono HB11.out.size)
        have g0 : W12.cell? ⟨W11.heap.size, 0, none⟩ = some (.slice (some ⟨gi, oi, none⟩) (n + 1) ci) := hX12.cell 0
        have g2 : W12.cell? ⟨W11.heap.size, 2, none⟩ = some (.int .i64 la) := hX12.cell 2
        have HB12 := Lib.hid hb12
        clear hW12 h12 hX12 hb12 x1' f3' a0' a1 a2 a3 a4
        go_wp2_with fail
        go_loopw [18] (fun s wr => ∃ j : Nat, j ≤ k ∧ s = .int .i64 j ∧ wr = W12) (fun s _ => k - (intOf s).toNat)
        case atStart => exact ⟨0, by omega, rfl, rfl⟩
        case round =>
          obtain ⟨j, hj, rfl, rfl⟩ := hrel
          by_cases hltj : j < k
          · have e9 : decide ((j : Int) < (k : Int)) = true := decide_eq_true (by omega)
            have hj3 : (j : Int) < (n : Int) + 1 := by omega
            have hjl : j < bb.ins.length := by omega
            obtain ⟨Ax, cx, _, hc⟩ := HIC.out j hjl
            obtain ⟨p0', p1', p2', p3', p4', p5', p6', p7'⟩ := hc _ HB12.out
            have hcc := HC1.out ⟨j, by omega⟩ hltj
            rw [List.getElem?_eq_getElem hjl] at hcc
            have hcc := Option.some.inj hcc
            have hk2 : (bb.ins[j]).kind = 2 := congrArg Prod.fst hcc
            have ha2 : (bb.ins[j]).a = v := congrArg Prod.snd hcc
            rw [hk2] at p0'
            rw [ha2] at p2'
            have n1 : (v != v) = false := by simp
            clear hc p1' p3' p4' p5' p6' p7' hcc hk2 ha2
            go_wp2_with fail
            go_roundw
            case rel => exact ⟨j + 1, by omega, by go_num, by first | trivial | rfl⟩
            case measure => simp [intOf]; omega
          · have e9 : decide ((j : Int) < (k : Int)) = false := decide_eq_false (by omega)
            have hjl : n < bb.ins.length := by omega
            obtain ⟨Ax, cx, _, hc⟩ := HIC.out n hjl
            have p2' := (hc _ HB12.out).2.2.1
            have hcc := HC2.out
            rw [List.getElem?_eq_getElem hjl] at hcc
            have ha2 : (bb.ins[n]).a = la := Option.some.inj hcc
            rw [ha2] at p2'
            have n1 : (la == la) = true := by simp
            have n3 : (n : Int) < (n : Int) + 1 := by omega
            clear hc hcc ha2
            go_wp2
            go_ret
            exact ⟨by first | trivial | rfl, HB2.out.trans ((HBE7.out.trans ((HB27.out.trans (HB12.out.mono HB27.out.size)).mono HBE7.out.size)).mono HB2.out.size)⟩
      | false =>
        obtain ⟨W5, hW5⟩ : ∃ W5, W5 = wr := ⟨_, rfl⟩
        subst hW5
        obtain ⟨l, n, A5, c5, css5, hl5, hln, hcp, hnn, hA5, hc5⟩ : ∃ l n A5 c5 css5, LI w2 l (.slice A5 n c5) css5 W5 ∧ l.length = n ∧ l ++ [prC (lastC v k)] = cpI v k false ∧ n = k ∧ Av = A5 ∧ cv = c5 :=
          ⟨movL v k, k, _, _, css, HL.out, movL_len v k, by unfold cpI; simp, rfl, rfl, rfl⟩
        clear hA5 hc5 hl hrow hb0 hzb hne hnb hbl HBLK HROW HL
        have hn9 : n ≤ 7 := by omega
        have hkn : k ≤ n := by omega
        have HNN := Lib.hid hnn
        clear hnn
        have hb0 : W5.cell? ⟨w2.heap.size, 0, none⟩ = some (.slice A5 n c5) := hl5.blk.cell 0
        have hzb := hl5.blk.frozen 0
        have hrow : W5.ownsRow (w2.heap.size + 1) 36 8 (.slice A5 n c5) n css5.flatten := by
          have h := hl5.own.row
          rw [hln] at h
          exact h
        have hne : ∀ q, (Value.slice A5 n c5).ownBlock = some q → w2.heap.size + 1 ≤ q := fun q e => (hrow.lt q e).1
        have hnb : (Value.slice A5 n c5).ownBlock ≠ some w2.heap.size := fun e => by have := hne _ e; omega
        have hbl : w2.heap.size < W5.heap.size := hl5.blk.lt
        have HBLK := Lib.hid hl5.blk
        have HROW := Lib.hid hrow
        have HL5 := Lib.hid hl5
        generalize hla : lastC v k = la
        have HLA := Lib.hid hla
        clear hl5 hrow hla
        go_upto_region 14 with (at_builtin; refine wpList_append_lies _ rfl _ _ _ rfl (w2.heap.size + 1) 36 z0 _ 8 88 Tryz.underlying39 hi0 hzz0 hz1 hz2 rfl (by decide) (.slice A5 n c5) n css5.flatten rfl (HROW.out.alloc _) ⟨W5.heap.size, 0, none⟩ 1 1 [.int .i64 8, .int .i64 0, .int .i64 la, .int .i64 0, .int .i64 0, .int .i64 0, .string ⟨#[]⟩, .slice none 0 0] rfl rfl (World.news_of_block (Blk.new W5 _ _)) (by simp [Value.oneCell']) (by decide) (by unfold maxLen; omega) (by omega) (by simp; omega) (W5.heap.size + 1) (by simp) ?_; intro g cap w6 hown6 hgrow6 hat6 hlt6; have hR6 := (HBLK.out.alloc (.cells #[.int .i64 8, .int .i64 0, .int .i64 la, .int .i64 0, .int .i64 0, .int .i64 0, .string ⟨#[]⟩, .slice none 0 0] 36)).grown hgrow6 hnb; have k6 : w6.cell? ⟨w2.heap.size, 0, none⟩ = some (.slice A5 n c5) := hR6.cell 0; have z6 := hR6.frozen 0)
        refine wp_world ?_
        intro W6 hW6
        have hmc : insC (prC (lastC v k)) = [.int .i64 8, .int .i64 0, .int .i64 la, .int .i64 0, .int .i64 0, .int .i64 0, .string ⟨#[]⟩, .slice none 0 0] := by rw [← HLA.out]; rfl
        have hl6 : LI w2 (cpI v k false) (.slice (some ⟨g, 0, none⟩) (n + 1) cap) (css5 ++ [insC (prC (lastC v k))]) W6 := by
          rw [← hW6, ← hcp]
          exact HL5.out.next (prC (lastC v k)) rfl hln.symm (by rw [hmc]; exact hgrow6) (by rw [hmc]; exact hown6) (hat6.imp id fun h => by omega)
        obtain ⟨css6, hcss6⟩ : ∃ css6, css6 = css5 ++ [insC (prC (lastC v k))] := ⟨_, rfl⟩
        rw [← hcss6] at hl6
        have HL6 := Lib.hid hl6
        have b1 : W6.cell? ⟨w2.heap.size, 1, none⟩ = some (.int .i64 0) := hl6.blk.cell 1
        have b2 : W6.cell? ⟨w2.heap.size, 2, none⟩ = some (.int .i64 0) := hl6.blk.cell 2
        have b3 : W6.cell? ⟨w2.heap.size, 3, none⟩ = some (.int .i64 0) := hl6.blk.cell 3
        have b4 : W6.cell? ⟨w2.heap.size, 4, none⟩ = some (.int .i64 0) := hl6.blk.cell 4
        have z1' := hl6.blk.frozen 1
        have z2' := hl6.blk.frozen 2
        have z3' := hl6.blk.frozen 3
        have z4' := hl6.blk.frozen 4
        clear hW6 hl6 hmc hown6 hgrow6 hat6 hlt6 hR6 k6 z6 hb0 hzb hne hnb HBLK HROW HL5 hcss6
        go_upto_region 15 with fail
        refine wp_world ?_
        intro W7 hW7
        have hb7 : Blk W7 w2.heap.size 43 #[.slice (some ⟨g, 0, none⟩) (n + 1) cap, .int .i64 3, .int .i64 la, .int .i64 0, .int .i64 0] := by
          rw [← hW7]; exact (((HL6.out.blk.set_ 1 _).set_ 2 _).set_ 3 _).set_ 4 _
        have hneq : ∀ (q b : Nat), b ≠ w2.heap.size → b ≠ (⟨w2.heap.size, q, none⟩ : Addr).block := fun _ _ h => h
        have hkf : Keeps (fun b => w2.heap.size < b) W6 W7 := by
          rw [← hW7]
          exact ((((Keeps.refl _ _).set (fun b hb => hneq 1 b (by omega)) _).set (fun b hb => hneq 2 b (by omega)) _).set (fun b hb => hneq 3 b (by omega)) _).set (fun b hb => hneq 4 b (by omega)) _
        have hsz7 : W7.heap.size = W6.heap.size := by rw [← hW7]; simp [World.setCell]
        have hB7 : Below w2.heap.size w2 W7 := by
          rw [← hW7]
          exact (((HL6.out.below.setCell (Nat.le_refl _) _).setCell (Nat.le_refl _) _).setCell (Nat.le_refl _) _).setCell (Nat.le_refl _) _
        have ho7 : OwnL W7 (w2.heap.size + 1) 36 8 RIns (.slice (some ⟨g, 0, none⟩) (n + 1) cap) (cpI v k false) css6 := HL6.out.own.keep mono_ins8 (hkf.mono fun b hb => by omega) (by rw [hsz7]; exact Nat.le_refl _)
        have c0 : W7.cell? ⟨w2.heap.size, 0, none⟩ = some (.slice (some ⟨g, 0, none⟩) (n + 1) cap) := hb7.cell 0
        have d1 : W7.cell? ⟨w2.heap.size, 1, none⟩ = some (.int .i64 3) := hb7.cell 1
        have d2 : W7.cell? ⟨w2.heap.size, 2, none⟩ = some (.int .i64 la) := hb7.cell 2
        have d3 : W7.cell? ⟨w2.heap.size, 3, none⟩ = some (.int .i64 0) := hb7.cell 3
        have d4 : W7.cell? ⟨w2.heap.size, 4, none⟩ = some (.int .i64 0) := hb7.cell 4
        have HB7 := Lib.hid hb7
        have HO7 := Lib.hid ho7
        have HBE7 := Lib.hid hB7
        have hl7 := hb7.lt
        clear hW7 hb7 hneq hkf hsz7 hB7 ho7 b1 b2 b3 b4 z1' z2' z3' z4' HL6
        go_upto_region 16 with fail
        refine wp_world ?_
        intro W8 hW8
        have hA8 : Blk W8 W7.heap.size 43 #[.slice (some ⟨g, 0, none⟩) (n + 1) cap, .int .i64 3, .int .i64 la, .int .i64 0, .int .i64 0] := by
          rw [← hW8]; exact ((Blk.new W7 _ _).alloc _).alloc _
        have hF8 : Blk W8 (W7.heap.size + 1) 45 #[.string ⟨#[109, 97, 105, 110]⟩, .int .i64 0, .int .i64 9, .slice (some ⟨W7.heap.size, 0, none⟩) 1 1] := by
          rw [← hW8]; exact (Blk.new_at _ _ _ (by simp)).alloc _
        have hU8 : Blk W8 (W7.heap.size + 1 + 1) 27 #[.slice none 0 0, .slice (some ⟨W7.heap.size + 1, 0, none⟩) 1 1] := by
          rw [← hW8]; exact Blk.new_at _ _ _ (by simp)
        have hb78 : Below W7.heap.size W7 W8 := by rw [← hW8]; exact ((below1 W7 _).alloc (by simp) _).alloc (by simp; omega) _
        have hsl8 : SlR W8 (· < W8.heap.size) 8 (RIns W8 (· < W8.heap.size)) (.slice (some ⟨g, 0, none⟩) (n + 1) cap) (cpI v k false) := (HO7.out.slr mono_ins8).imp (fun b hb => Nat.lt_of_lt_of_le hb.2 hb78.size) (fun b hb => hb78.block b hb.2) (fun _ _ _ r => r.imp (fun b hb => Nat.lt_of_lt_of_le hb.2 hb78.size) (fun b hb => hb78.block b hb.2))
        have hui8 : UIn (cpU v k false) W8 none (some ⟨W7.heap.size + 1, 0, none⟩) 0 1 := by
          refine ⟨SlR.nil_ _ _ _ _, ?_⟩
          refine SlR.lit [[.string ⟨#[109, 97, 105, 110]⟩, .int .i64 0, .int .i64 9, .slice (some ⟨W7.heap.size, 0, none⟩) 1 1]] hF8 rfl ⟨⟨rfl, ⟨_, rfl, ?_⟩⟩, trivial⟩ rfl hF8.lt (by show 1 ≤ 1000; omega)
          refine SlR.lit [[.slice (some ⟨g, 0, none⟩) (n + 1) cap, .int .i64 3, .int .i64 la, .int .i64 0, .int .i64 0]] hA8 rfl ⟨⟨rfl, ⟨_, by rw [← HLA.out]; rfl, hsl8⟩⟩, trivial⟩ rfl hA8.lt (by show 1 ≤ 1000; omega)
        have hco := cp_ok p0 (by omega) hk1 hk6 false
        have hfo : Calls Tryz.prog 26 #[.agg #[.slice none 0 0, .slice (some ⟨W7.heap.size + 1, 0, none⟩) 1 1]] W8 fun e w' => ∃ B1 B2 d1 d2, e = .returned (.tuple #[.agg #[.slice B1 0 d1, .slice B2 1 d2], .int .i64 0]) ∧ Below W8.heap.size W8 w' ∧ SlR w' (· < w'.heap.size) 4 (RFlow w' (· < w'.heap.size)) (.slice B2 1 d2) [⟨⟨#[109, 97, 105, 110]⟩, 0, 9, [blockE (cpB v k false)]⟩] := by
          refine (fold_u (cpU_ok p0 (by omega) hk1 hk6 false) hui8).mono ?_
          rintro e w' ⟨B1, B2, d1, d2, rfl, hb, hu⟩
          exact ⟨B1, B2, d1, d2, rfl, hb, hu.flo⟩
        have hbln : (blockE (cpB v k false)).ins.length = n + 1 := by
          show (insL E0 (cpI v k false)).length = n + 1
          have hnn := HNN.out
          rw [insL_length, hco.2.1]; simp; omega
        obtain ⟨_, _, hco1, hco2, hco3⟩ := hco
        have hcn : (cpI v k false).length - 1 = n := by
          have h : (insL E0 (cpI v k false)).length = n + 1 := hbln
          rw [insL_length] at h; omega
        rw [hcn] at hco2
        generalize blockE (cpB v k false) = bb at hfo hbln hco1 hco2 hco3
        have hwc : wantC v k false = v := by unfold wantC; rfl
        rw [hwc] at hco2 hco3
        have hu0 : W8.cell? ⟨W7.heap.size + 1 + 1, 0, none⟩ = some (.slice none 0 0) := hU8.cell 0
        have hu1 : W8.cell? ⟨W7.heap.size + 1 + 1, 1, none⟩ = some (.slice (some ⟨W7.heap.size + 1, 0, none⟩) 1 1) := hU8.cell 1
        have HFO := Lib.hid hfo
        have HB78 := Lib.hid hb78
        have HC1 := Lib.hid hco1
        have HC2 := Lib.hid hco2
        have HC3 := Lib.hid hco3
        clear hW8 hA8 hF8 hU8 hb78 hsl8 hui8 hfo hco1 hco2 hco3 hcn hwc c0 d1 d2 d3 d4
        go_upto_region 17 with (go_at_call 26; refine HFO.out.mono ?_; rintro e w9 ⟨D1, D2, e1, e2, rfl, hb9, hfl9⟩)
        refine wp_world ?_
        intro W10 hW10
        have h9 : Below w9.heap.size w9 W10 := by rw [← hW10]; exact below1 _ _
        have hb10 : Below W8.heap.size W8 W10 := hb9.trans (h9.mono hb9.size)
        have hX : Blk W10 w9.heap.size 27 #[.slice D1 0 e1, .slice D2 1 e2] := by rw [← hW10]; exact Blk.new w9 _ _
        have hfl := hb_flows hfl9 h9
        obtain ⟨gf, of_, rfl⟩ := sl_some hfl (by show 0 < 1; omega)
        obtain ⟨Ab, cb, hsb, hfc⟩ := flow_cells hfl (i := 0) (by show 0 < 1; omega)
        simp only [List.getElem_cons_zero] at hsb hfc
        obtain ⟨gb, ob, rfl⟩ := sl_some hsb (by show 0 < 1; omega)
        obtain ⟨Ai, ci, hsi, hbc⟩ := block_cells hsb (k := 0) (by show 0 < 1; omega)
        simp only [List.getElem_cons_zero] at hsi hbc
        obtain ⟨gi, oi, rfl⟩ := sl_some hsi (by omega)
        have hic := fun (j : Nat) (hj : j < bb.ins.length) => ins_cells hsi hj
        rw [hbln] at hbc
        have x1 : W10.cell? ⟨w9.heap.size, 1, none⟩ = some (.slice (some ⟨gf, of_, none⟩) 1 e2) := hX.cell 1
        have f3 : W10.cell? ⟨gf, of_ + 3, none⟩ = some (.slice (some ⟨gb, ob, none⟩) 1 cb) := by have h := (hfc W10 (Below.refl _ _)).2.2.2; simpa using h
        have a0 : W10.cell? ⟨gb, ob, none⟩ = some (.slice (some ⟨gi, oi, none⟩) (n + 1) ci) := by have h := (hbc W10 (Below.refl _ _)).1; simpa using h
        have hb27 : Below W7.heap.size W7 W10 := HB78.out.trans (hb10.mono HB78.out.size)
        have c0 : W10.cell? ⟨w2.heap.size, 0, none⟩ = some (.slice (some ⟨g, 0, none⟩) (n + 1) cap) := (HB7.out.below hb27 hl7).cell 0
        have n0 : ((n : Int) + 1 != (n : Int) + 1) = false := by simp
        have HX := Lib.hid hX
        have HFC := Lib.hid hfc
        have HBC := Lib.hid hbc
        have HIC := Lib.hid hic
        have HB27 := Lib.hid hb27
        clear hW10 h9 hb10 hX hfl hsb hsi hfc hbc hic hb27 hb9 hfl9 hu0 hu1 HFO
        go_quiet (fail)
        go_upto_region 19 with fail
        refine wp_world ?_
        intro W11 hW11
        have hb11 : Below W10.heap.size W10 W11 := by rw [← hW11]; exact below_drewN (Below.refl _ _) _
        have x1' : W11.cell? ⟨w9.heap.size, 1, none⟩ = some (.slice (some ⟨gf, of_, none⟩) 1 e2) := (HX.out.below hb11 HX.out.lt).cell 1
        have f3' : W11.cell? ⟨gf, of_ + 3, none⟩ = some (.slice (some ⟨gb, ob, none⟩) 1 cb) := by have h := (HFC.out W11 hb11).2.2.2; simpa using h
        obtain ⟨a0', a1, a2, a3, a4⟩ := HBC.out W11 hb11
        rw [Nat.zero_mul, Nat.add_zero] at a0' a1 a2 a3 a4
        have HB11 := Lib.hid hb11
        clear hW11 hb11 x1 f3 a0 c0
        go_upto_region 20 with fail
        refine wp_world ?_
        intro W12 hW12
        have h12 : Below W11.heap.size W11 W12 := by rw [← hW12]; exact below1 _ _
        have hX12 : Blk W12 W11.heap.size 43 #[.slice (some ⟨gi, oi, none⟩) (n + 1) ci, .int .i64 bb.term.kind, .int .i64 bb.term.a, .int .i64 bb.term.to, .int .i64 bb.term.els] := by rw [← hW12]; exact Blk.new W11 _ _
        rw [HC3.out] at hX12
        have hb12 : Below W10.heap.size W10 W12 := HB11.out.trans (h12.mono HB11.out.size)
        have g0 : W12.cell? ⟨W11.heap.size, 0, none⟩ = some (.slice (some ⟨gi, oi, none⟩) (n + 1) ci) := hX12.cell 0
        have g2 : W12.cell? ⟨W11.heap.size, 2, none⟩ = some (.int .i64 v) := hX12.cell 2
        have HB12 := Lib.hid hb12
        clear hW12 h12 hX12 hb12 x1' f3' a0' a1 a2 a3 a4
        go_wp2_with fail
        go_loopw [18] (fun s wr => ∃ j : Nat, j ≤ k ∧ s = .int .i64 j ∧ wr = W12) (fun s _ => k - (intOf s).toNat)
        case atStart => exact ⟨0, by omega, rfl, rfl⟩
        case round =>
          obtain ⟨j, hj, rfl, rfl⟩ := hrel
          by_cases hltj : j < k
          · have e9 : decide ((j : Int) < (k : Int)) = true := decide_eq_true (by omega)
            have hj3 : (j : Int) < (n : Int) + 1 := by omega
            have hjl : j < bb.ins.length := by omega
            obtain ⟨Ax, cx, _, hc⟩ := HIC.out j hjl
            obtain ⟨p0', p1', p2', p3', p4', p5', p6', p7'⟩ := hc _ HB12.out
            have hcc := HC1.out ⟨j, by omega⟩ hltj
            rw [List.getElem?_eq_getElem hjl] at hcc
            have hcc := Option.some.inj hcc
            have hk2 : (bb.ins[j]).kind = 2 := congrArg Prod.fst hcc
            have ha2 : (bb.ins[j]).a = v := congrArg Prod.snd hcc
            rw [hk2] at p0'
            rw [ha2] at p2'
            have n1 : (v != v) = false := by simp
            clear hc p1' p3' p4' p5' p6' p7' hcc hk2 ha2
            go_wp2_with fail
            go_roundw
            case rel => exact ⟨j + 1, by omega, by go_num, by first | trivial | rfl⟩
            case measure => simp [intOf]; omega
          · have e9 : decide ((j : Int) < (k : Int)) = false := decide_eq_false (by omega)
            have hjl : n < bb.ins.length := by omega
            obtain ⟨Ax, cx, _, hc⟩ := HIC.out n hjl
            have p2' := (hc _ HB12.out).2.2.1
            have hcc := HC2.out
            rw [List.getElem?_eq_getElem hjl] at hcc
            have ha2 : (bb.ins[n]).a = v := Option.some.inj hcc
            rw [ha2] at p2'
            have n1 : (v == v) = true := by simp
            have n3 : (n : Int) < (n : Int) + 1 := by omega
            clear hc hcc ha2
            go_wp2
            go_ret
            exact ⟨by first | trivial | rfl, HB2.out.trans ((HBE7.out.trans ((HB27.out.trans (HB12.out.mono HB27.out.size)).mono HBE7.out.size)).mono HB2.out.size)⟩
end Go.Proofs.YtnpnhdmfdhnmfaaGreatDoor
