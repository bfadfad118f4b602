/- What tree.stmt tells, for each form of statements. Printed by wip/gen_trstmt.py. -/
import Derived.Test.YtmignlclfbaifaaGreatTrWell
import Derived.Test.YtmignlclfbaifaaGreatTrNamed
namespace Go.Proofs.YtmignlclfbaifaaGreat
open Go.RowKit

theorem tl_nil : (⟨#[]⟩ : ByteArray).toList = [] := by rw [ByteArray.toList_eq]
theorem name_empty : nameB ⟨#[]⟩ = false := rfl
/-- the statement's block, its form's, and what else is so -/
def WS (sn : ByteArray) (X : World) (sb fb : Nat) (k : Int) (Aa : Option Addr) (na ca : Nat) (At : Option Addr) (nt ct : Nat) (Ae : Option Addr) (ne ce : Nat) (fs : Array Value) (w : World) (p : Prop) : Prop :=
  Blk X sb 45 #[.int .i64 k, .string sn, .slice Aa na ca, .slice At nt ct, .slice Ae ne ce] ∧ Blk X fb 119 fs ∧ Below w.heap.size w X ∧ fb < X.heap.size ∧ p
theorem WS.drew {sn : ByteArray} {X : World} {sb fb : Nat} {k : Int} {Aa At Ae : Option Addr} {na ca nt ct ne ce : Nat} {fs : Array Value} {w : World} {p : Prop} (h : WS sn X sb fb k Aa na ca At nt ct Ae ne ce fs w p) : WS sn X.drew sb fb k Aa na ca At nt ct Ae ne ce fs w p :=
  ⟨h.1.drew, h.2.1.drew, h.2.2.1.drew, h.2.2.2.1, h.2.2.2.2⟩
theorem WS.below {sn : ByteArray} {X Y : World} {sb fb : Nat} {k : Int} {Aa At Ae : Option Addr} {na ca nt ct ne ce : Nat} {fs : Array Value} {w : World} {p q : Prop} (h : WS sn X sb fb k Aa na ca At nt ct Ae ne ce fs w p) (hb : Below X.heap.size X Y) (hp : p → q) : WS sn Y sb fb k Aa na ca At nt ct Ae ne ce fs w q :=
  ⟨h.1.below hb h.1.lt, h.2.1.below hb h.2.1.lt, h.2.2.1.trans (hb.mono h.2.2.1.size), Nat.lt_of_lt_of_le h.2.2.2.1 hb.size, hp h.2.2.2.2⟩

set_option maxRecDepth 100000 in
set_option maxHeartbeats 4000000 in
theorem stmt_set (sn : ByteArray) (na nt me : Nat) (a : Int) (m : Nat) (Aa At Ae : Option Addr) (ca ct ce : Nat) (w : World) (bA bT bE b0 : Bool) (hm : m ≤ 1000) (k : Int) (hk : (k == 10) = false) (h0 : b0 = (decide ((na : Int) = a) && (false || decide (nt = 0)) && (false || decide (me = 0)) && (true == nameB sn) && (true || decide (sn = ⟨#[]⟩)) && true && bA && bT && bE))
    (hf : ∀ X, Calls Tryz.prog 87 #[.int .i64 k] X fun r w' => r = .returned (.tuple #[.agg #[.bool true, .int .i64 a, .bool false, .bool false], .bool true]) ∧ Below X.heap.size X w')
    (hA : ∀ X, Below w.heap.size w X → Calls Tryz.prog 88 #[.slice Aa na ca, .func (.func 89) #[] #[]] X fun r w' => r = .returned (.bool (!bA)) ∧ Below X.heap.size X w')
    (hT : ∀ X, Below w.heap.size w X → Calls Tryz.prog 44 #[.slice At nt ct, .int .i64 (m : Int)] X fun r w' => r = .returned (.bool bT) ∧ Below X.heap.size X w')
    (hE : ∀ X, Below w.heap.size w X → Calls Tryz.prog 44 #[.slice Ae me ce, .int .i64 (m : Int)] X fun r w' => r = .returned (.bool bE) ∧ Below X.heap.size X w') :
    Calls Tryz.prog 65 #[.agg #[.int .i64 k, .string sn, .slice Aa na ca, .slice At nt ct, .slice Ae me ce], .int .i64 ((m : Int) + 1)] w fun r w' => r = .returned (.bool b0) ∧ Below w.heap.size w w' := by
  have HF := Lib.hid hf
  have HB0 := Lib.hid h0
  have HA := Lib.hid hA
  have HTT := Lib.hid hT
  have HE := Lib.hid hE
  clear hf hA hT hE h0
  have HKN := Lib.hid hk
  clear hk
  go_enter Tryz.func65, Tryz.ntmps65
  go_upto_region 1 with fail
  refine wp_world ?_
  intro W hW
  have hG : Blk W w.heap.size 45 #[.int .i64 k, .string sn, .slice Aa na ca, .slice At nt ct, .slice Ae me ce] := by rw [← hW]; exact Blk.new _ _ _
  have hB : Below w.heap.size w W := by rw [← hW]; exact below1 _ _
  have a0 : W.cell? ⟨w.heap.size, 0, none⟩ = some (.int .i64 k) := hG.cell 0
  have hlt : w.heap.size < W.heap.size := hG.lt
  have HG := Lib.hid hG
  have HB := Lib.hid hB
  clear hW hG hB
  go_upto_region 2 with (go_at_call 87; refine (HF.out W).mono ?_; rintro r W1 ⟨rfl, hb1⟩; have HB1 := Lib.hid hb1; clear hb1)
  refine wp_world ?_
  intro W3 hW3
  have hX : Blk W3 W1.heap.size 119 #[.bool true, .int .i64 a, .bool false, .bool false] := by rw [← hW3]; exact Blk.new_at _ _ _ rfl
  have hG : Blk W3 w.heap.size 45 #[.int .i64 k, .string sn, .slice Aa na ca, .slice At nt ct, .slice Ae me ce] := by rw [← hW3]; exact (HG.out.below HB1.out hlt).alloc _
  have hB : Below w.heap.size w W3 := by rw [← hW3]; exact (HB.out.trans (HB1.out.mono HB.out.size)).alloc (Nat.le_trans HB.out.size HB1.out.size) _
  clear a0
  have b2 : W3.cell? ⟨w.heap.size, 2, none⟩ = some (.slice Aa na ca) := hG.cell 2
  have b3 : W3.cell? ⟨w.heap.size, 3, none⟩ = some (.slice At nt ct) := hG.cell 3
  have b4 : W3.cell? ⟨w.heap.size, 4, none⟩ = some (.slice Ae me ce) := hG.cell 4
  have x0 : W3.cell? ⟨W1.heap.size, 0, none⟩ = some (.bool true) := hX.cell 0
  have x1 : W3.cell? ⟨W1.heap.size, 1, none⟩ = some (.int .i64 a) := hX.cell 1
  have x2 : W3.cell? ⟨W1.heap.size, 2, none⟩ = some (.bool false) := hX.cell 2
  have x3 : W3.cell? ⟨W1.heap.size, 3, none⟩ = some (.bool false) := hX.cell 3
  have HB3 := Lib.hid hB
  have HX3 := Lib.hid hX
  have HG3 := Lib.hid hG
  clear hW3 hX hG hB hlt HB HB1 HG
  have dm : (((m : Int) + 1) == 0) = false := by rw [beq_dec]; exact decide_eq_false (by omega)
  by_cases hl : (na : Int) = a
  case neg =>
    have l1 : ((na : Int) == a) = false := by rw [beq_dec]; exact decide_eq_false hl
    have l2 : ((na : Int) != a) = true := by rw [bne, l1]; rfl
    have HR : Hid (b0 = false) := Lib.hid (by rw [HB0.out]; simp [hl])
    clear hl
    go_wp2
    go_ret
    exact ⟨congrArg (fun b => Ending.returned (Value.bool b)) HR.out.symm, HB3.out⟩
  have l1 : ((na : Int) == a) = true := by rw [beq_dec]; exact decide_eq_true hl
  have l2 : ((na : Int) != a) = false := by rw [bne, l1]; rfl
  have HL := Lib.hid hl
  clear hl
  rcases Nat.eq_zero_or_pos nt with ht | ht
  case inr =>
    have d1 : decide ((nt : Int) > 0) = true := decide_eq_true (by omega)
    have d2 : decide (0 < (nt : Int)) = true := decide_eq_true (by omega)
    have HR : Hid (b0 = false) := Lib.hid (by rw [HB0.out]; have h0 : ¬ nt = 0 := (by omega); simp [h0])
    go_wp2
    go_ret
    exact ⟨congrArg (fun b => Ending.returned (Value.bool b)) HR.out.symm, HB3.out⟩
  subst ht
  rcases Nat.eq_zero_or_pos me with he | he
  case inr =>
    have d1 : decide ((me : Int) > 0) = true := decide_eq_true (by omega)
    have d2 : decide (0 < (me : Int)) = true := decide_eq_true (by omega)
    have HR : Hid (b0 = false) := Lib.hid (by rw [HB0.out]; have h0 : ¬ me = 0 := (by omega); simp [h0])
    go_wp2
    go_ret
    exact ⟨congrArg (fun b => Ending.returned (Value.bool b)) HR.out.symm, HB3.out⟩
  subst he
  go_upto_region 4 with fail
  clear dm l1 l2 b2 b3 b4 x0 x1 x2 x3
  have HT3 : Hid ((fun X => (WS sn X w.heap.size W1.heap.size (k) Aa na ca At 0 ct Ae 0 ce #[.bool true, .int .i64 a, .bool false, .bool false] w True)) W3) := Lib.hid ⟨HG3.out, HX3.out, HB3.out, HX3.out.lt, trivial⟩
  clear HG3 HX3 HB3
  cases hn : nameB sn with
  | false =>
    have HN : Hid (∀ X, Calls Tryz.prog 62 #[.string sn] X fun e w' => e = .returned (.bool false) ∧ Below X.heap.size X w') := Lib.hid (fun X => by have := name_any sn X; rw [hn] at this; exact this)
    have HR : Hid (b0 = false) := Lib.hid (by rw [HB0.out]; simp [hn])
    have k1 := HKN.out
    clear hn
    have SO : Hid (∀ X, (fun X => (WS sn X w.heap.size W1.heap.size (k) Aa na ca At 0 ct Ae 0 ce #[.bool true, .int .i64 a, .bool false, .bool false] w True)) X → (fun X => X.cell? ⟨w.heap.size, 0, none⟩ = some (.int .i64 k) ∧ X.cell? ⟨w.heap.size, 1, none⟩ = some (.string sn) ∧ X.cell? ⟨w.heap.size, 2, none⟩ = some (.slice Aa na ca) ∧ X.cell? ⟨W1.heap.size, 0, none⟩ = some (.bool true)) X) := Lib.hid (fun X hb => ⟨hb.1.cell 0, hb.1.cell 1, hb.1.cell 2, hb.2.1.cell 0⟩)
    refine wp_region_L (by kernel_rfl) 28 (fun X => X.cell? ⟨w.heap.size, 0, none⟩ = some (.int .i64 k) ∧ X.cell? ⟨w.heap.size, 1, none⟩ = some (.string sn) ∧ X.cell? ⟨w.heap.size, 2, none⟩ = some (.slice Aa na ca) ∧ X.cell? ⟨W1.heap.size, 0, none⟩ = some (.bool true)) (SO.out _ (WS.drew HT3.out)) (fun hHeld => ?_)
    have HS0 := Lib.hid hHeld
    clear hHeld
    change wpAnyL _ _ _ _ _ 28 29 (Array.replicate 29 false) _ _
    obtain ⟨X0, hX0⟩ : ∃ X0, W3.drew = X0 := ⟨_, rfl⟩
    have HT4 : Hid ((fun X => (WS sn X w.heap.size W1.heap.size (k) Aa na ca At 0 ct Ae 0 ce #[.bool true, .int .i64 a, .bool false, .bool false] w True)) W3.drew) := Lib.hid (WS.drew HT3.out)
    rw [hX0] at HT4 HS0 ⊢
    clear hX0 HT3 W3
    refine tj 0 49 (.pointer (some ⟨W1.heap.size, 0, none⟩)) HS0.out rfl rfl ?_
    try simp only [sA, sB, sC]
    refine tS 1 50 (.bool true) [5, 6, 10, 16, 28] HS0.out rfl rfl ?_ ?_
    · intro w2 hSw; obtain ⟨g0, g1, g2, g3⟩ := hSw; go_simp
    try simp only [sA, sB, sC]
    refine tj 2 51 (.pointer (some ⟨w.heap.size, 1, none⟩)) HS0.out rfl rfl ?_
    try simp only [sA, sB, sC]
    refine tS 3 52 (.string sn) [4, 6, 10, 16, 28] HS0.out rfl rfl ?_ ?_
    · intro w2 hSw; obtain ⟨g0, g1, g2, g3⟩ := hSw; go_simp
    try simp only [sA, sB, sC]
    refine wpAnyL_ready (rs := [4]) (by kernel_rfl) (by simp) ?_
    refine AllReadyL.cons rfl (fun K hK => ?_) AllReadyL.nil
    go_simp
    refine (HN.out X0).mono ?_
    rintro e X1 ⟨rfl, hx1⟩
    have HT1 := Lib.hid (WS.below HT4.out hx1 (fun h => h))
    clear hx1
    refine hK.out _ _ (SO.out _ HT1.out) (fun hHeld => ?_)
    have HS1 := Lib.hid hHeld
    clear hK K hHeld
    try simp only [sA, sB, sC]
    refine tj 5 54 (.bool true) HS1.out rfl rfl ?_
    try simp only [sA, sB, sC]
    refine tj 6 55 (.bool true) HS1.out rfl rfl ?_
    try simp only [sA, sB, sC]
    refine tN 7 56 HS1.out rfl rfl ?_
    try simp only [sA, sB, sC]
    refine tN 8 57 HS1.out rfl rfl ?_
    try simp only [sA, sB, sC]
    refine tN 9 58 HS1.out rfl rfl ?_
    try simp only [sA, sB, sC]
    refine tN 10 59 HS1.out rfl rfl ?_
    try simp only [sA, sB, sC]
    refine tN 11 60 HS1.out rfl rfl ?_
    try simp only [sA, sB, sC]
    refine tN 12 61 HS1.out rfl rfl ?_
    try simp only [sA, sB, sC]
    refine tN 13 62 HS1.out rfl rfl ?_
    try simp only [sA, sB, sC]
    refine tN 14 63 HS1.out rfl rfl ?_
    try simp only [sA, sB, sC]
    refine tj 15 64 (.bool true) HS1.out rfl rfl ?_
    try simp only [sA, sB, sC]
    refine tj 16 65 (.bool true) HS1.out rfl rfl ?_
    try simp only [sA, sB, sC]
    refine tN 17 66 HS1.out rfl rfl ?_
    try simp only [sA, sB, sC]
    refine tN 18 67 HS1.out rfl rfl ?_
    try simp only [sA, sB, sC]
    refine tN 19 68 HS1.out rfl rfl ?_
    try simp only [sA, sB, sC]
    refine tN 20 69 HS1.out rfl rfl ?_
    try simp only [sA, sB, sC]
    refine tN 21 70 HS1.out rfl rfl ?_
    try simp only [sA, sB, sC]
    refine tN 22 71 HS1.out rfl rfl ?_
    try simp only [sA, sB, sC]
    refine tN 23 72 HS1.out rfl rfl ?_
    try simp only [sA, sB, sC]
    refine tN 24 73 HS1.out rfl rfl ?_
    try simp only [sA, sB, sC]
    refine tN 25 74 HS1.out rfl rfl ?_
    try simp only [sA, sB, sC]
    refine tN 26 75 HS1.out rfl rfl ?_
    try simp only [sA, sB, sC]
    refine tN 27 76 HS1.out rfl rfl ?_
    try simp only [sA, sB, sC]
    refine wpAnyL_ready (rs := [28]) (by kernel_rfl) (by simp) ?_
    refine AllReadyL.last rfl (by kernel_rfl) (fun K hK => ?_)
    go_simp
    refine hK.out _ _ ?_
    clear hK K
    try simp only [sA, sB, sC]
    refine wpAnyL_done (by kernel_rfl) ?_ _
    go_wp2
    go_ret
    exact ⟨congrArg (fun b => Ending.returned (Value.bool b)) HR.out.symm, HT1.out.2.2.1⟩
  | true =>
    have HN : Hid (∀ X, Calls Tryz.prog 62 #[.string sn] X fun e w' => e = .returned (.bool true) ∧ Below X.heap.size X w') := Lib.hid (fun X => by have := name_any sn X; rw [hn] at this; exact this)
    have HR : Hid (b0 = (bA && bT && bE)) := Lib.hid (by rw [HB0.out]; simp [hn, HL.out])
    have k1 := HKN.out
    clear hn
    have SO : Hid (∀ X, (fun X => (WS sn X w.heap.size W1.heap.size (k) Aa na ca At 0 ct Ae 0 ce #[.bool true, .int .i64 a, .bool false, .bool false] w True)) X → (fun X => X.cell? ⟨w.heap.size, 0, none⟩ = some (.int .i64 k) ∧ X.cell? ⟨w.heap.size, 1, none⟩ = some (.string sn) ∧ X.cell? ⟨w.heap.size, 2, none⟩ = some (.slice Aa na ca) ∧ X.cell? ⟨W1.heap.size, 0, none⟩ = some (.bool true)) X) := Lib.hid (fun X hb => ⟨hb.1.cell 0, hb.1.cell 1, hb.1.cell 2, hb.2.1.cell 0⟩)
    refine wp_region_L (by kernel_rfl) 28 (fun X => X.cell? ⟨w.heap.size, 0, none⟩ = some (.int .i64 k) ∧ X.cell? ⟨w.heap.size, 1, none⟩ = some (.string sn) ∧ X.cell? ⟨w.heap.size, 2, none⟩ = some (.slice Aa na ca) ∧ X.cell? ⟨W1.heap.size, 0, none⟩ = some (.bool true)) (SO.out _ (WS.drew HT3.out)) (fun hHeld => ?_)
    have HS0 := Lib.hid hHeld
    clear hHeld
    change wpAnyL _ _ _ _ _ 28 29 (Array.replicate 29 false) _ _
    obtain ⟨X0, hX0⟩ : ∃ X0, W3.drew = X0 := ⟨_, rfl⟩
    have HT4 : Hid ((fun X => (WS sn X w.heap.size W1.heap.size (k) Aa na ca At 0 ct Ae 0 ce #[.bool true, .int .i64 a, .bool false, .bool false] w True)) W3.drew) := Lib.hid (WS.drew HT3.out)
    rw [hX0] at HT4 HS0 ⊢
    clear hX0 HT3 W3
    refine tj 0 49 (.pointer (some ⟨W1.heap.size, 0, none⟩)) HS0.out rfl rfl ?_
    try simp only [sA, sB, sC]
    refine tS 1 50 (.bool true) [5, 6, 10, 16, 28] HS0.out rfl rfl ?_ ?_
    · intro w2 hSw; obtain ⟨g0, g1, g2, g3⟩ := hSw; go_simp
    try simp only [sA, sB, sC]
    refine tj 2 51 (.pointer (some ⟨w.heap.size, 1, none⟩)) HS0.out rfl rfl ?_
    try simp only [sA, sB, sC]
    refine tS 3 52 (.string sn) [4, 6, 10, 16, 28] HS0.out rfl rfl ?_ ?_
    · intro w2 hSw; obtain ⟨g0, g1, g2, g3⟩ := hSw; go_simp
    try simp only [sA, sB, sC]
    refine wpAnyL_ready (rs := [4]) (by kernel_rfl) (by simp) ?_
    refine AllReadyL.cons rfl (fun K hK => ?_) AllReadyL.nil
    go_simp
    refine (HN.out X0).mono ?_
    rintro e X1 ⟨rfl, hx1⟩
    have HT1 := Lib.hid (WS.below HT4.out hx1 (fun h => h))
    clear hx1
    refine hK.out _ _ (SO.out _ HT1.out) (fun hHeld => ?_)
    have HS1 := Lib.hid hHeld
    clear hK K hHeld
    try simp only [sA, sB, sC]
    refine tj 5 54 (.bool false) HS1.out rfl rfl ?_
    try simp only [sA, sB, sC]
    refine tj 6 55 (.bool false) HS1.out rfl rfl ?_
    try simp only [sA, sB, sC]
    refine tj 7 56 (.pointer (some ⟨W1.heap.size, 0, none⟩)) HS1.out rfl rfl ?_
    try simp only [sA, sB, sC]
    refine tS 8 57 (.bool true) [9, 10, 16, 28] HS1.out rfl rfl ?_ ?_
    · intro w2 hSw; obtain ⟨g0, g1, g2, g3⟩ := hSw; go_simp
    try simp only [sA, sB, sC]
    refine tj 9 58 (.bool false) HS1.out rfl rfl ?_
    try simp only [sA, sB, sC]
    refine tj 10 59 (.bool false) HS1.out rfl rfl ?_
    try simp only [sA, sB, sC]
    refine tN 11 60 HS1.out rfl rfl ?_
    try simp only [sA, sB, sC]
    refine tN 12 61 HS1.out rfl rfl ?_
    try simp only [sA, sB, sC]
    refine tN 13 62 HS1.out rfl rfl ?_
    try simp only [sA, sB, sC]
    refine tj 14 63 (.bool false) HS1.out rfl rfl ?_
    try simp only [sA, sB, sC]
    refine tj 15 64 (.bool false) HS1.out rfl rfl ?_
    try simp only [sA, sB, sC]
    refine tj 16 65 (.bool false) HS1.out rfl rfl ?_
    try simp only [sA, sB, sC]
    refine tj 17 66 (.pointer (some ⟨w.heap.size, 0, none⟩)) HS1.out rfl rfl ?_
    try simp only [sA, sB, sC]
    refine tS 18 67 (.int .i64 k) [19, 20, 27, 28] HS1.out rfl rfl ?_ ?_
    · intro w2 hSw; obtain ⟨g0, g1, g2, g3⟩ := hSw; go_simp
    try simp only [sA, sB, sC]
    refine tj 19 68 (.bool false) HS1.out rfl rfl ?_
    try simp only [sA, sB, sC]
    refine tj 20 69 (.bool false) HS1.out rfl rfl ?_
    try simp only [sA, sB, sC]
    refine tN 21 70 HS1.out rfl rfl ?_
    try simp only [sA, sB, sC]
    refine tN 22 71 HS1.out rfl rfl ?_
    try simp only [sA, sB, sC]
    refine tN 23 72 HS1.out rfl rfl ?_
    try simp only [sA, sB, sC]
    refine tN 24 73 HS1.out rfl rfl ?_
    try simp only [sA, sB, sC]
    refine tN 25 74 HS1.out rfl rfl ?_
    try simp only [sA, sB, sC]
    refine tN 26 75 HS1.out rfl rfl ?_
    try simp only [sA, sB, sC]
    refine tj 27 76 (.bool false) HS1.out rfl rfl ?_
    try simp only [sA, sB, sC]
    refine wpAnyL_ready (rs := [28]) (by kernel_rfl) (by simp) ?_
    refine AllReadyL.last rfl (by kernel_rfl) (fun K hK => ?_)
    go_simp
    refine hK.out _ _ ?_
    clear hK K
    try simp only [sA, sB, sC]
    refine wpAnyL_done (by kernel_rfl) ?_ _
    have hG := HT1.out.1
    have b2 : X1.cell? ⟨w.heap.size, 2, none⟩ = some (.slice Aa na ca) := hG.cell 2
    have b3 : X1.cell? ⟨w.heap.size, 3, none⟩ = some (.slice At 0 ct) := hG.cell 3
    have b4 : X1.cell? ⟨w.heap.size, 4, none⟩ = some (.slice Ae 0 ce) := hG.cell 4
    have HG := Lib.hid hG
    have hlt : w.heap.size < X1.heap.size := hG.lt
    have HB := Lib.hid HT1.out.2.2.1
    clear hG HT1 HT4 HS0 HS1 SO
    cases bA with
    | false =>
      have HA2 : Hid (∀ X, Below w.heap.size w X → Calls Tryz.prog 88 #[.slice Aa na ca, .func (.func 89) #[] #[]] X fun r w' => r = .returned (.bool true) ∧ Below X.heap.size X w') := Lib.hid (fun X hx => HA.out X hx)
      clear HA
      go_wp2_with (go_at_call 88; refine (HA2.out X1 HB.out).mono ?_; rintro r w' ⟨rfl, hb⟩)
      go_ret
      exact ⟨congrArg (fun b => Ending.returned (Value.bool b)) HR.out.symm, HB.out.trans (hb.mono HB.out.size)⟩
    | true =>
      have HA2 : Hid (∀ X, Below w.heap.size w X → Calls Tryz.prog 88 #[.slice Aa na ca, .func (.func 89) #[] #[]] X fun r w' => r = .returned (.bool false) ∧ Below X.heap.size X w') := Lib.hid (fun X hx => HA.out X hx)
      clear HA
      have HTOK : Hid True := Lib.hid trivial
      cases bT with
      | false =>
        go_wp2_with (first | (go_at_call 88; refine (HA2.out X1 HB.out).mono ?_; rintro r X2 ⟨rfl, hb⟩; have c3 := (hb.cell (p := ⟨w.heap.size, 3, none⟩) hlt).trans b3; have c4 := (hb.cell (p := ⟨w.heap.size, 4, none⟩) hlt).trans b4; have hlt2 : w.heap.size < X2.heap.size := Nat.lt_of_lt_of_le hlt hb.size; have HB2 := Lib.hid (HB.out.trans (hb.mono HB.out.size)); have _t := HTOK; clear hb) | (go_at_call 44; refine (HTT.out X2 HB2.out).mono ?_; rintro r w' ⟨rfl, hb⟩))
        go_ret
        exact ⟨congrArg (fun b => Ending.returned (Value.bool b)) HR.out.symm, HB2.out.trans (hb.mono HB2.out.size)⟩
      | true =>
        go_wp2_with (first | (go_at_call 88; refine (HA2.out X1 HB.out).mono ?_; rintro r X2 ⟨rfl, hb⟩; have c3 := (hb.cell (p := ⟨w.heap.size, 3, none⟩) hlt).trans b3; have c4 := (hb.cell (p := ⟨w.heap.size, 4, none⟩) hlt).trans b4; have hlt2 : w.heap.size < X2.heap.size := Nat.lt_of_lt_of_le hlt hb.size; have HB2 := Lib.hid (HB.out.trans (hb.mono HB.out.size)); have _t := HTOK; clear hb) | (have _u := _t.out; clear _u; go_at_call 44; refine (HTT.out X2 HB2.out).mono ?_; clear _t; rintro r X3 ⟨rfl, hb⟩; have c5 := (hb.cell (p := ⟨w.heap.size, 4, none⟩) hlt2).trans c4; have HB4 := Lib.hid (HB2.out.trans (hb.mono HB2.out.size)); clear hb) | (go_at_call 44; refine (HE.out X3 HB4.out).mono ?_; rintro r w' ⟨rfl, hb⟩))
        go_ret
        exact ⟨congrArg (fun b => Ending.returned (Value.bool b)) HR.out.symm, HB4.out.trans (hb.mono HB4.out.size)⟩
set_option maxRecDepth 100000 in
set_option maxHeartbeats 4000000 in
theorem stmt_if (sn : ByteArray) (na nt me : Nat) (a : Int) (m : Nat) (Aa At Ae : Option Addr) (ca ct ce : Nat) (w : World) (bA bT bE b0 : Bool) (hm : m ≤ 1000) (k : Int) (hk : (k == 10) = false) (h0 : b0 = (decide ((na : Int) = a) && (true || decide (nt = 0)) && (true || decide (me = 0)) && (false == nameB sn) && (false || decide (sn = ⟨#[]⟩)) && true && bA && bT && bE))
    (hf : ∀ X, Calls Tryz.prog 87 #[.int .i64 k] X fun r w' => r = .returned (.tuple #[.agg #[.bool false, .int .i64 a, .bool true, .bool true], .bool true]) ∧ Below X.heap.size X w')
    (hA : ∀ X, Below w.heap.size w X → Calls Tryz.prog 88 #[.slice Aa na ca, .func (.func 89) #[] #[]] X fun r w' => r = .returned (.bool (!bA)) ∧ Below X.heap.size X w')
    (hT : ∀ X, Below w.heap.size w X → Calls Tryz.prog 44 #[.slice At nt ct, .int .i64 (m : Int)] X fun r w' => r = .returned (.bool bT) ∧ Below X.heap.size X w')
    (hE : ∀ X, Below w.heap.size w X → Calls Tryz.prog 44 #[.slice Ae me ce, .int .i64 (m : Int)] X fun r w' => r = .returned (.bool bE) ∧ Below X.heap.size X w') :
    Calls Tryz.prog 65 #[.agg #[.int .i64 k, .string sn, .slice Aa na ca, .slice At nt ct, .slice Ae me ce], .int .i64 ((m : Int) + 1)] w fun r w' => r = .returned (.bool b0) ∧ Below w.heap.size w w' := by
  have HF := Lib.hid hf
  have HB0 := Lib.hid h0
  have HA := Lib.hid hA
  have HTT := Lib.hid hT
  have HE := Lib.hid hE
  clear hf hA hT hE h0
  have HKN := Lib.hid hk
  clear hk
  go_enter Tryz.func65, Tryz.ntmps65
  go_upto_region 1 with fail
  refine wp_world ?_
  intro W hW
  have hG : Blk W w.heap.size 45 #[.int .i64 k, .string sn, .slice Aa na ca, .slice At nt ct, .slice Ae me ce] := by rw [← hW]; exact Blk.new _ _ _
  have hB : Below w.heap.size w W := by rw [← hW]; exact below1 _ _
  have a0 : W.cell? ⟨w.heap.size, 0, none⟩ = some (.int .i64 k) := hG.cell 0
  have hlt : w.heap.size < W.heap.size := hG.lt
  have HG := Lib.hid hG
  have HB := Lib.hid hB
  clear hW hG hB
  go_upto_region 2 with (go_at_call 87; refine (HF.out W).mono ?_; rintro r W1 ⟨rfl, hb1⟩; have HB1 := Lib.hid hb1; clear hb1)
  refine wp_world ?_
  intro W3 hW3
  have hX : Blk W3 W1.heap.size 119 #[.bool false, .int .i64 a, .bool true, .bool true] := by rw [← hW3]; exact Blk.new_at _ _ _ rfl
  have hG : Blk W3 w.heap.size 45 #[.int .i64 k, .string sn, .slice Aa na ca, .slice At nt ct, .slice Ae me ce] := by rw [← hW3]; exact (HG.out.below HB1.out hlt).alloc _
  have hB : Below w.heap.size w W3 := by rw [← hW3]; exact (HB.out.trans (HB1.out.mono HB.out.size)).alloc (Nat.le_trans HB.out.size HB1.out.size) _
  clear a0
  have b2 : W3.cell? ⟨w.heap.size, 2, none⟩ = some (.slice Aa na ca) := hG.cell 2
  have b3 : W3.cell? ⟨w.heap.size, 3, none⟩ = some (.slice At nt ct) := hG.cell 3
  have b4 : W3.cell? ⟨w.heap.size, 4, none⟩ = some (.slice Ae me ce) := hG.cell 4
  have x0 : W3.cell? ⟨W1.heap.size, 0, none⟩ = some (.bool false) := hX.cell 0
  have x1 : W3.cell? ⟨W1.heap.size, 1, none⟩ = some (.int .i64 a) := hX.cell 1
  have x2 : W3.cell? ⟨W1.heap.size, 2, none⟩ = some (.bool true) := hX.cell 2
  have x3 : W3.cell? ⟨W1.heap.size, 3, none⟩ = some (.bool true) := hX.cell 3
  have HB3 := Lib.hid hB
  have HX3 := Lib.hid hX
  have HG3 := Lib.hid hG
  clear hW3 hX hG hB hlt HB HB1 HG
  have dm : (((m : Int) + 1) == 0) = false := by rw [beq_dec]; exact decide_eq_false (by omega)
  by_cases hl : (na : Int) = a
  case neg =>
    have l1 : ((na : Int) == a) = false := by rw [beq_dec]; exact decide_eq_false hl
    have l2 : ((na : Int) != a) = true := by rw [bne, l1]; rfl
    have HR : Hid (b0 = false) := Lib.hid (by rw [HB0.out]; simp [hl])
    clear hl
    go_wp2
    go_ret
    exact ⟨congrArg (fun b => Ending.returned (Value.bool b)) HR.out.symm, HB3.out⟩
  have l1 : ((na : Int) == a) = true := by rw [beq_dec]; exact decide_eq_true hl
  have l2 : ((na : Int) != a) = false := by rw [bne, l1]; rfl
  have HL := Lib.hid hl
  clear hl
  go_upto_region 4 with fail
  clear dm l1 l2 b2 b3 b4 x0 x1 x2 x3
  have HT3 : Hid ((fun X => (WS sn X w.heap.size W1.heap.size (k) Aa na ca At nt ct Ae me ce #[.bool false, .int .i64 a, .bool true, .bool true] w True)) W3) := Lib.hid ⟨HG3.out, HX3.out, HB3.out, HX3.out.lt, trivial⟩
  clear HG3 HX3 HB3
  cases hn : nameB sn with
  | true =>
    have HN : Hid (∀ X, Calls Tryz.prog 62 #[.string sn] X fun e w' => e = .returned (.bool true) ∧ Below X.heap.size X w') := Lib.hid (fun X => by have := name_any sn X; rw [hn] at this; exact this)
    have HR : Hid (b0 = false) := Lib.hid (by rw [HB0.out]; simp [hn])
    have k1 := HKN.out
    clear hn
    have SO : Hid (∀ X, (fun X => (WS sn X w.heap.size W1.heap.size (k) Aa na ca At nt ct Ae me ce #[.bool false, .int .i64 a, .bool true, .bool true] w True)) X → (fun X => X.cell? ⟨w.heap.size, 0, none⟩ = some (.int .i64 k) ∧ X.cell? ⟨w.heap.size, 1, none⟩ = some (.string sn) ∧ X.cell? ⟨w.heap.size, 2, none⟩ = some (.slice Aa na ca) ∧ X.cell? ⟨W1.heap.size, 0, none⟩ = some (.bool false)) X) := Lib.hid (fun X hb => ⟨hb.1.cell 0, hb.1.cell 1, hb.1.cell 2, hb.2.1.cell 0⟩)
    refine wp_region_L (by kernel_rfl) 28 (fun X => X.cell? ⟨w.heap.size, 0, none⟩ = some (.int .i64 k) ∧ X.cell? ⟨w.heap.size, 1, none⟩ = some (.string sn) ∧ X.cell? ⟨w.heap.size, 2, none⟩ = some (.slice Aa na ca) ∧ X.cell? ⟨W1.heap.size, 0, none⟩ = some (.bool false)) (SO.out _ (WS.drew HT3.out)) (fun hHeld => ?_)
    have HS0 := Lib.hid hHeld
    clear hHeld
    change wpAnyL _ _ _ _ _ 28 29 (Array.replicate 29 false) _ _
    obtain ⟨X0, hX0⟩ : ∃ X0, W3.drew = X0 := ⟨_, rfl⟩
    have HT4 : Hid ((fun X => (WS sn X w.heap.size W1.heap.size (k) Aa na ca At nt ct Ae me ce #[.bool false, .int .i64 a, .bool true, .bool true] w True)) W3.drew) := Lib.hid (WS.drew HT3.out)
    rw [hX0] at HT4 HS0 ⊢
    clear hX0 HT3 W3
    refine tj 0 49 (.pointer (some ⟨W1.heap.size, 0, none⟩)) HS0.out rfl rfl ?_
    try simp only [sA, sB, sC]
    refine tS 1 50 (.bool false) [5, 6, 10, 16, 28] HS0.out rfl rfl ?_ ?_
    · intro w2 hSw; obtain ⟨g0, g1, g2, g3⟩ := hSw; go_simp
    try simp only [sA, sB, sC]
    refine tj 2 51 (.pointer (some ⟨w.heap.size, 1, none⟩)) HS0.out rfl rfl ?_
    try simp only [sA, sB, sC]
    refine tS 3 52 (.string sn) [4, 6, 10, 16, 28] HS0.out rfl rfl ?_ ?_
    · intro w2 hSw; obtain ⟨g0, g1, g2, g3⟩ := hSw; go_simp
    try simp only [sA, sB, sC]
    refine wpAnyL_ready (rs := [4]) (by kernel_rfl) (by simp) ?_
    refine AllReadyL.cons rfl (fun K hK => ?_) AllReadyL.nil
    go_simp
    refine (HN.out X0).mono ?_
    rintro e X1 ⟨rfl, hx1⟩
    have HT1 := Lib.hid (WS.below HT4.out hx1 (fun h => h))
    clear hx1
    refine hK.out _ _ (SO.out _ HT1.out) (fun hHeld => ?_)
    have HS1 := Lib.hid hHeld
    clear hK K hHeld
    try simp only [sA, sB, sC]
    refine tj 5 54 (.bool true) HS1.out rfl rfl ?_
    try simp only [sA, sB, sC]
    refine tj 6 55 (.bool true) HS1.out rfl rfl ?_
    try simp only [sA, sB, sC]
    refine tN 7 56 HS1.out rfl rfl ?_
    try simp only [sA, sB, sC]
    refine tN 8 57 HS1.out rfl rfl ?_
    try simp only [sA, sB, sC]
    refine tN 9 58 HS1.out rfl rfl ?_
    try simp only [sA, sB, sC]
    refine tN 10 59 HS1.out rfl rfl ?_
    try simp only [sA, sB, sC]
    refine tN 11 60 HS1.out rfl rfl ?_
    try simp only [sA, sB, sC]
    refine tN 12 61 HS1.out rfl rfl ?_
    try simp only [sA, sB, sC]
    refine tN 13 62 HS1.out rfl rfl ?_
    try simp only [sA, sB, sC]
    refine tN 14 63 HS1.out rfl rfl ?_
    try simp only [sA, sB, sC]
    refine tj 15 64 (.bool true) HS1.out rfl rfl ?_
    try simp only [sA, sB, sC]
    refine tj 16 65 (.bool true) HS1.out rfl rfl ?_
    try simp only [sA, sB, sC]
    refine tN 17 66 HS1.out rfl rfl ?_
    try simp only [sA, sB, sC]
    refine tN 18 67 HS1.out rfl rfl ?_
    try simp only [sA, sB, sC]
    refine tN 19 68 HS1.out rfl rfl ?_
    try simp only [sA, sB, sC]
    refine tN 20 69 HS1.out rfl rfl ?_
    try simp only [sA, sB, sC]
    refine tN 21 70 HS1.out rfl rfl ?_
    try simp only [sA, sB, sC]
    refine tN 22 71 HS1.out rfl rfl ?_
    try simp only [sA, sB, sC]
    refine tN 23 72 HS1.out rfl rfl ?_
    try simp only [sA, sB, sC]
    refine tN 24 73 HS1.out rfl rfl ?_
    try simp only [sA, sB, sC]
    refine tN 25 74 HS1.out rfl rfl ?_
    try simp only [sA, sB, sC]
    refine tN 26 75 HS1.out rfl rfl ?_
    try simp only [sA, sB, sC]
    refine tN 27 76 HS1.out rfl rfl ?_
    try simp only [sA, sB, sC]
    refine wpAnyL_ready (rs := [28]) (by kernel_rfl) (by simp) ?_
    refine AllReadyL.last rfl (by kernel_rfl) (fun K hK => ?_)
    go_simp
    refine hK.out _ _ ?_
    clear hK K
    try simp only [sA, sB, sC]
    refine wpAnyL_done (by kernel_rfl) ?_ _
    go_wp2
    go_ret
    exact ⟨congrArg (fun b => Ending.returned (Value.bool b)) HR.out.symm, HT1.out.2.2.1⟩
  | false =>
    by_cases he : sn = ⟨#[]⟩
    case neg =>
      have HN : Hid (∀ X, Calls Tryz.prog 62 #[.string sn] X fun e w' => e = .returned (.bool false) ∧ Below X.heap.size X w') := Lib.hid (fun X => by have := name_any sn X; rw [hn] at this; exact this)
      have HR : Hid (b0 = false) := Lib.hid (by rw [HB0.out]; simp [hn, he])
      have e1 : (sn.toList == []) = false := by have h := tl_beq sn ⟨#[]⟩; rw [tl_nil] at h; rw [h]; exact decide_eq_false he
      have e2 : (sn.toList != []) = true := by rw [bne, e1]; rfl
      have e3 : sn.toList.isEmpty = false := by cases h : sn.toList with | nil => rw [h] at e1; cases e1 | cons _ _ => rfl
      have k1 := HKN.out
      clear hn he
      have SO : Hid (∀ X, (fun X => (WS sn X w.heap.size W1.heap.size (k) Aa na ca At nt ct Ae me ce #[.bool false, .int .i64 a, .bool true, .bool true] w True)) X → (fun X => X.cell? ⟨w.heap.size, 0, none⟩ = some (.int .i64 k) ∧ X.cell? ⟨w.heap.size, 1, none⟩ = some (.string sn) ∧ X.cell? ⟨w.heap.size, 2, none⟩ = some (.slice Aa na ca) ∧ X.cell? ⟨W1.heap.size, 0, none⟩ = some (.bool false)) X) := Lib.hid (fun X hb => ⟨hb.1.cell 0, hb.1.cell 1, hb.1.cell 2, hb.2.1.cell 0⟩)
      refine wp_region_L (by kernel_rfl) 28 (fun X => X.cell? ⟨w.heap.size, 0, none⟩ = some (.int .i64 k) ∧ X.cell? ⟨w.heap.size, 1, none⟩ = some (.string sn) ∧ X.cell? ⟨w.heap.size, 2, none⟩ = some (.slice Aa na ca) ∧ X.cell? ⟨W1.heap.size, 0, none⟩ = some (.bool false)) (SO.out _ (WS.drew HT3.out)) (fun hHeld => ?_)
      have HS0 := Lib.hid hHeld
      clear hHeld
      change wpAnyL _ _ _ _ _ 28 29 (Array.replicate 29 false) _ _
      obtain ⟨X0, hX0⟩ : ∃ X0, W3.drew = X0 := ⟨_, rfl⟩
      have HT4 : Hid ((fun X => (WS sn X w.heap.size W1.heap.size (k) Aa na ca At nt ct Ae me ce #[.bool false, .int .i64 a, .bool true, .bool true] w True)) W3.drew) := Lib.hid (WS.drew HT3.out)
      rw [hX0] at HT4 HS0 ⊢
      clear hX0 HT3 W3
      refine tj 0 49 (.pointer (some ⟨W1.heap.size, 0, none⟩)) HS0.out rfl rfl ?_
      try simp only [sA, sB, sC]
      refine tS 1 50 (.bool false) [5, 6, 10, 16, 28] HS0.out rfl rfl ?_ ?_
      · intro w2 hSw; obtain ⟨g0, g1, g2, g3⟩ := hSw; go_simp
      try simp only [sA, sB, sC]
      refine tj 2 51 (.pointer (some ⟨w.heap.size, 1, none⟩)) HS0.out rfl rfl ?_
      try simp only [sA, sB, sC]
      refine tS 3 52 (.string sn) [4, 6, 10, 16, 28] HS0.out rfl rfl ?_ ?_
      · intro w2 hSw; obtain ⟨g0, g1, g2, g3⟩ := hSw; go_simp
      try simp only [sA, sB, sC]
      refine wpAnyL_ready (rs := [4]) (by kernel_rfl) (by simp) ?_
      refine AllReadyL.cons rfl (fun K hK => ?_) AllReadyL.nil
      go_simp
      refine (HN.out X0).mono ?_
      rintro e X1 ⟨rfl, hx1⟩
      have HT1 := Lib.hid (WS.below HT4.out hx1 (fun h => h))
      clear hx1
      refine hK.out _ _ (SO.out _ HT1.out) (fun hHeld => ?_)
      have HS1 := Lib.hid hHeld
      clear hK K hHeld
      try simp only [sA, sB, sC]
      refine tj 5 54 (.bool false) HS1.out rfl rfl ?_
      try simp only [sA, sB, sC]
      refine tj 6 55 (.bool false) HS1.out rfl rfl ?_
      try simp only [sA, sB, sC]
      refine tj 7 56 (.pointer (some ⟨W1.heap.size, 0, none⟩)) HS1.out rfl rfl ?_
      try simp only [sA, sB, sC]
      refine tS 8 57 (.bool false) [9, 10, 16, 28] HS1.out rfl rfl ?_ ?_
      · intro w2 hSw; obtain ⟨g0, g1, g2, g3⟩ := hSw; go_simp
      try simp only [sA, sB, sC]
      refine tj 9 58 (.bool true) HS1.out rfl rfl ?_
      try simp only [sA, sB, sC]
      refine tj 10 59 (.bool true) HS1.out rfl rfl ?_
      try simp only [sA, sB, sC]
      refine tj 11 60 (.pointer (some ⟨w.heap.size, 1, none⟩)) HS1.out rfl rfl ?_
      try simp only [sA, sB, sC]
      refine tS 12 61 (.string sn) [13, 14, 15, 16, 28] HS1.out rfl rfl ?_ ?_
      · intro w2 hSw; obtain ⟨g0, g1, g2, g3⟩ := hSw; go_simp
      try simp only [sA, sB, sC]
      refine tj 13 62 (.bool true) HS1.out rfl rfl ?_
      try simp only [sA, sB, sC]
      refine tj 14 63 (.bool true) HS1.out rfl rfl ?_
      try simp only [sA, sB, sC]
      refine tj 15 64 (.bool true) HS1.out rfl rfl ?_
      try simp only [sA, sB, sC]
      refine tj 16 65 (.bool true) HS1.out rfl rfl ?_
      try simp only [sA, sB, sC]
      refine tN 17 66 HS1.out rfl rfl ?_
      try simp only [sA, sB, sC]
      refine tN 18 67 HS1.out rfl rfl ?_
      try simp only [sA, sB, sC]
      refine tN 19 68 HS1.out rfl rfl ?_
      try simp only [sA, sB, sC]
      refine tN 20 69 HS1.out rfl rfl ?_
      try simp only [sA, sB, sC]
      refine tN 21 70 HS1.out rfl rfl ?_
      try simp only [sA, sB, sC]
      refine tN 22 71 HS1.out rfl rfl ?_
      try simp only [sA, sB, sC]
      refine tN 23 72 HS1.out rfl rfl ?_
      try simp only [sA, sB, sC]
      refine tN 24 73 HS1.out rfl rfl ?_
      try simp only [sA, sB, sC]
      refine tN 25 74 HS1.out rfl rfl ?_
      try simp only [sA, sB, sC]
      refine tN 26 75 HS1.out rfl rfl ?_
      try simp only [sA, sB, sC]
      refine tN 27 76 HS1.out rfl rfl ?_
      try simp only [sA, sB, sC]
      refine wpAnyL_ready (rs := [28]) (by kernel_rfl) (by simp) ?_
      refine AllReadyL.last rfl (by kernel_rfl) (fun K hK => ?_)
      go_simp
      refine hK.out _ _ ?_
      clear hK K
      try simp only [sA, sB, sC]
      refine wpAnyL_done (by kernel_rfl) ?_ _
      go_wp2
      go_ret
      exact ⟨congrArg (fun b => Ending.returned (Value.bool b)) HR.out.symm, HT1.out.2.2.1⟩
    have HN : Hid (∀ X, Calls Tryz.prog 62 #[.string sn] X fun e w' => e = .returned (.bool false) ∧ Below X.heap.size X w') := Lib.hid (fun X => by have := name_any sn X; rw [hn] at this; exact this)
    have HR : Hid (b0 = (bA && bT && bE)) := Lib.hid (by rw [HB0.out]; simp [name_empty, HL.out, he])
    have e1 : (sn.toList == []) = true := by have h := tl_beq sn ⟨#[]⟩; rw [tl_nil] at h; rw [h]; exact decide_eq_true he
    have e2 : (sn.toList != []) = false := by rw [bne, e1]; rfl
    have e3 : sn.toList.isEmpty = true := by rw [he, tl_nil]; rfl
    have k1 := HKN.out
    clear hn he
    have SO : Hid (∀ X, (fun X => (WS sn X w.heap.size W1.heap.size (k) Aa na ca At nt ct Ae me ce #[.bool false, .int .i64 a, .bool true, .bool true] w True)) X → (fun X => X.cell? ⟨w.heap.size, 0, none⟩ = some (.int .i64 k) ∧ X.cell? ⟨w.heap.size, 1, none⟩ = some (.string sn) ∧ X.cell? ⟨w.heap.size, 2, none⟩ = some (.slice Aa na ca) ∧ X.cell? ⟨W1.heap.size, 0, none⟩ = some (.bool false)) X) := Lib.hid (fun X hb => ⟨hb.1.cell 0, hb.1.cell 1, hb.1.cell 2, hb.2.1.cell 0⟩)
    refine wp_region_L (by kernel_rfl) 28 (fun X => X.cell? ⟨w.heap.size, 0, none⟩ = some (.int .i64 k) ∧ X.cell? ⟨w.heap.size, 1, none⟩ = some (.string sn) ∧ X.cell? ⟨w.heap.size, 2, none⟩ = some (.slice Aa na ca) ∧ X.cell? ⟨W1.heap.size, 0, none⟩ = some (.bool false)) (SO.out _ (WS.drew HT3.out)) (fun hHeld => ?_)
    have HS0 := Lib.hid hHeld
    clear hHeld
    change wpAnyL _ _ _ _ _ 28 29 (Array.replicate 29 false) _ _
    obtain ⟨X0, hX0⟩ : ∃ X0, W3.drew = X0 := ⟨_, rfl⟩
    have HT4 : Hid ((fun X => (WS sn X w.heap.size W1.heap.size (k) Aa na ca At nt ct Ae me ce #[.bool false, .int .i64 a, .bool true, .bool true] w True)) W3.drew) := Lib.hid (WS.drew HT3.out)
    rw [hX0] at HT4 HS0 ⊢
    clear hX0 HT3 W3
    refine tj 0 49 (.pointer (some ⟨W1.heap.size, 0, none⟩)) HS0.out rfl rfl ?_
    try simp only [sA, sB, sC]
    refine tS 1 50 (.bool false) [5, 6, 10, 16, 28] HS0.out rfl rfl ?_ ?_
    · intro w2 hSw; obtain ⟨g0, g1, g2, g3⟩ := hSw; go_simp
    try simp only [sA, sB, sC]
    refine tj 2 51 (.pointer (some ⟨w.heap.size, 1, none⟩)) HS0.out rfl rfl ?_
    try simp only [sA, sB, sC]
    refine tS 3 52 (.string sn) [4, 6, 10, 16, 28] HS0.out rfl rfl ?_ ?_
    · intro w2 hSw; obtain ⟨g0, g1, g2, g3⟩ := hSw; go_simp
    try simp only [sA, sB, sC]
    refine wpAnyL_ready (rs := [4]) (by kernel_rfl) (by simp) ?_
    refine AllReadyL.cons rfl (fun K hK => ?_) AllReadyL.nil
    go_simp
    refine (HN.out X0).mono ?_
    rintro e X1 ⟨rfl, hx1⟩
    have HT1 := Lib.hid (WS.below HT4.out hx1 (fun h => h))
    clear hx1
    refine hK.out _ _ (SO.out _ HT1.out) (fun hHeld => ?_)
    have HS1 := Lib.hid hHeld
    clear hK K hHeld
    try simp only [sA, sB, sC]
    refine tj 5 54 (.bool false) HS1.out rfl rfl ?_
    try simp only [sA, sB, sC]
    refine tj 6 55 (.bool false) HS1.out rfl rfl ?_
    try simp only [sA, sB, sC]
    refine tj 7 56 (.pointer (some ⟨W1.heap.size, 0, none⟩)) HS1.out rfl rfl ?_
    try simp only [sA, sB, sC]
    refine tS 8 57 (.bool false) [9, 10, 16, 28] HS1.out rfl rfl ?_ ?_
    · intro w2 hSw; obtain ⟨g0, g1, g2, g3⟩ := hSw; go_simp
    try simp only [sA, sB, sC]
    refine tj 9 58 (.bool true) HS1.out rfl rfl ?_
    try simp only [sA, sB, sC]
    refine tj 10 59 (.bool true) HS1.out rfl rfl ?_
    try simp only [sA, sB, sC]
    refine tj 11 60 (.pointer (some ⟨w.heap.size, 1, none⟩)) HS1.out rfl rfl ?_
    try simp only [sA, sB, sC]
    refine tS 12 61 (.string sn) [13, 14, 15, 16, 28] HS1.out rfl rfl ?_ ?_
    · intro w2 hSw; obtain ⟨g0, g1, g2, g3⟩ := hSw; go_simp
    try simp only [sA, sB, sC]
    refine tj 13 62 (.bool false) HS1.out rfl rfl ?_
    try simp only [sA, sB, sC]
    refine tj 14 63 (.bool false) HS1.out rfl rfl ?_
    try simp only [sA, sB, sC]
    refine tj 15 64 (.bool false) HS1.out rfl rfl ?_
    try simp only [sA, sB, sC]
    refine tj 16 65 (.bool false) HS1.out rfl rfl ?_
    try simp only [sA, sB, sC]
    refine tj 17 66 (.pointer (some ⟨w.heap.size, 0, none⟩)) HS1.out rfl rfl ?_
    try simp only [sA, sB, sC]
    refine tS 18 67 (.int .i64 k) [19, 20, 27, 28] HS1.out rfl rfl ?_ ?_
    · intro w2 hSw; obtain ⟨g0, g1, g2, g3⟩ := hSw; go_simp
    try simp only [sA, sB, sC]
    refine tj 19 68 (.bool false) HS1.out rfl rfl ?_
    try simp only [sA, sB, sC]
    refine tj 20 69 (.bool false) HS1.out rfl rfl ?_
    try simp only [sA, sB, sC]
    refine tN 21 70 HS1.out rfl rfl ?_
    try simp only [sA, sB, sC]
    refine tN 22 71 HS1.out rfl rfl ?_
    try simp only [sA, sB, sC]
    refine tN 23 72 HS1.out rfl rfl ?_
    try simp only [sA, sB, sC]
    refine tN 24 73 HS1.out rfl rfl ?_
    try simp only [sA, sB, sC]
    refine tN 25 74 HS1.out rfl rfl ?_
    try simp only [sA, sB, sC]
    refine tN 26 75 HS1.out rfl rfl ?_
    try simp only [sA, sB, sC]
    refine tj 27 76 (.bool false) HS1.out rfl rfl ?_
    try simp only [sA, sB, sC]
    refine wpAnyL_ready (rs := [28]) (by kernel_rfl) (by simp) ?_
    refine AllReadyL.last rfl (by kernel_rfl) (fun K hK => ?_)
    go_simp
    refine hK.out _ _ ?_
    clear hK K
    try simp only [sA, sB, sC]
    refine wpAnyL_done (by kernel_rfl) ?_ _
    have hG := HT1.out.1
    have b2 : X1.cell? ⟨w.heap.size, 2, none⟩ = some (.slice Aa na ca) := hG.cell 2
    have b3 : X1.cell? ⟨w.heap.size, 3, none⟩ = some (.slice At nt ct) := hG.cell 3
    have b4 : X1.cell? ⟨w.heap.size, 4, none⟩ = some (.slice Ae me ce) := hG.cell 4
    have HG := Lib.hid hG
    have hlt : w.heap.size < X1.heap.size := hG.lt
    have HB := Lib.hid HT1.out.2.2.1
    clear hG HT1 HT4 HS0 HS1 SO
    cases bA with
    | false =>
      have HA2 : Hid (∀ X, Below w.heap.size w X → Calls Tryz.prog 88 #[.slice Aa na ca, .func (.func 89) #[] #[]] X fun r w' => r = .returned (.bool true) ∧ Below X.heap.size X w') := Lib.hid (fun X hx => HA.out X hx)
      clear HA
      go_wp2_with (go_at_call 88; refine (HA2.out X1 HB.out).mono ?_; rintro r w' ⟨rfl, hb⟩)
      go_ret
      exact ⟨congrArg (fun b => Ending.returned (Value.bool b)) HR.out.symm, HB.out.trans (hb.mono HB.out.size)⟩
    | true =>
      have HA2 : Hid (∀ X, Below w.heap.size w X → Calls Tryz.prog 88 #[.slice Aa na ca, .func (.func 89) #[] #[]] X fun r w' => r = .returned (.bool false) ∧ Below X.heap.size X w') := Lib.hid (fun X hx => HA.out X hx)
      clear HA
      have HTOK : Hid True := Lib.hid trivial
      cases bT with
      | false =>
        go_wp2_with (first | (go_at_call 88; refine (HA2.out X1 HB.out).mono ?_; rintro r X2 ⟨rfl, hb⟩; have c3 := (hb.cell (p := ⟨w.heap.size, 3, none⟩) hlt).trans b3; have c4 := (hb.cell (p := ⟨w.heap.size, 4, none⟩) hlt).trans b4; have hlt2 : w.heap.size < X2.heap.size := Nat.lt_of_lt_of_le hlt hb.size; have HB2 := Lib.hid (HB.out.trans (hb.mono HB.out.size)); have _t := HTOK; clear hb) | (go_at_call 44; refine (HTT.out X2 HB2.out).mono ?_; rintro r w' ⟨rfl, hb⟩))
        go_ret
        exact ⟨congrArg (fun b => Ending.returned (Value.bool b)) HR.out.symm, HB2.out.trans (hb.mono HB2.out.size)⟩
      | true =>
        go_wp2_with (first | (go_at_call 88; refine (HA2.out X1 HB.out).mono ?_; rintro r X2 ⟨rfl, hb⟩; have c3 := (hb.cell (p := ⟨w.heap.size, 3, none⟩) hlt).trans b3; have c4 := (hb.cell (p := ⟨w.heap.size, 4, none⟩) hlt).trans b4; have hlt2 : w.heap.size < X2.heap.size := Nat.lt_of_lt_of_le hlt hb.size; have HB2 := Lib.hid (HB.out.trans (hb.mono HB.out.size)); have _t := HTOK; clear hb) | (have _u := _t.out; clear _u; go_at_call 44; refine (HTT.out X2 HB2.out).mono ?_; clear _t; rintro r X3 ⟨rfl, hb⟩; have c5 := (hb.cell (p := ⟨w.heap.size, 4, none⟩) hlt2).trans c4; have HB4 := Lib.hid (HB2.out.trans (hb.mono HB2.out.size)); clear hb) | (go_at_call 44; refine (HE.out X3 HB4.out).mono ?_; rintro r w' ⟨rfl, hb⟩))
        go_ret
        exact ⟨congrArg (fun b => Ending.returned (Value.bool b)) HR.out.symm, HB4.out.trans (hb.mono HB4.out.size)⟩
set_option maxRecDepth 100000 in
set_option maxHeartbeats 4000000 in
theorem stmt_while (sn : ByteArray) (na nt me : Nat) (a : Int) (m : Nat) (Aa At Ae : Option Addr) (ca ct ce : Nat) (w : World) (bA bT bE b0 : Bool) (hm : m ≤ 1000) (k : Int) (hk : (k == 10) = false) (h0 : b0 = (decide ((na : Int) = a) && (true || decide (nt = 0)) && (false || decide (me = 0)) && (false == nameB sn) && (false || decide (sn = ⟨#[]⟩)) && true && bA && bT && bE))
    (hf : ∀ X, Calls Tryz.prog 87 #[.int .i64 k] X fun r w' => r = .returned (.tuple #[.agg #[.bool false, .int .i64 a, .bool true, .bool false], .bool true]) ∧ Below X.heap.size X w')
    (hA : ∀ X, Below w.heap.size w X → Calls Tryz.prog 88 #[.slice Aa na ca, .func (.func 89) #[] #[]] X fun r w' => r = .returned (.bool (!bA)) ∧ Below X.heap.size X w')
    (hT : ∀ X, Below w.heap.size w X → Calls Tryz.prog 44 #[.slice At nt ct, .int .i64 (m : Int)] X fun r w' => r = .returned (.bool bT) ∧ Below X.heap.size X w')
    (hE : ∀ X, Below w.heap.size w X → Calls Tryz.prog 44 #[.slice Ae me ce, .int .i64 (m : Int)] X fun r w' => r = .returned (.bool bE) ∧ Below X.heap.size X w') :
    Calls Tryz.prog 65 #[.agg #[.int .i64 k, .string sn, .slice Aa na ca, .slice At nt ct, .slice Ae me ce], .int .i64 ((m : Int) + 1)] w fun r w' => r = .returned (.bool b0) ∧ Below w.heap.size w w' := by
  have HF := Lib.hid hf
  have HB0 := Lib.hid h0
  have HA := Lib.hid hA
  have HTT := Lib.hid hT
  have HE := Lib.hid hE
  clear hf hA hT hE h0
  have HKN := Lib.hid hk
  clear hk
  go_enter Tryz.func65, Tryz.ntmps65
  go_upto_region 1 with fail
  refine wp_world ?_
  intro W hW
  have hG : Blk W w.heap.size 45 #[.int .i64 k, .string sn, .slice Aa na ca, .slice At nt ct, .slice Ae me ce] := by rw [← hW]; exact Blk.new _ _ _
  have hB : Below w.heap.size w W := by rw [← hW]; exact below1 _ _
  have a0 : W.cell? ⟨w.heap.size, 0, none⟩ = some (.int .i64 k) := hG.cell 0
  have hlt : w.heap.size < W.heap.size := hG.lt
  have HG := Lib.hid hG
  have HB := Lib.hid hB
  clear hW hG hB
  go_upto_region 2 with (go_at_call 87; refine (HF.out W).mono ?_; rintro r W1 ⟨rfl, hb1⟩; have HB1 := Lib.hid hb1; clear hb1)
  refine wp_world ?_
  intro W3 hW3
  have hX : Blk W3 W1.heap.size 119 #[.bool false, .int .i64 a, .bool true, .bool false] := by rw [← hW3]; exact Blk.new_at _ _ _ rfl
  have hG : Blk W3 w.heap.size 45 #[.int .i64 k, .string sn, .slice Aa na ca, .slice At nt ct, .slice Ae me ce] := by rw [← hW3]; exact (HG.out.below HB1.out hlt).alloc _
  have hB : Below w.heap.size w W3 := by rw [← hW3]; exact (HB.out.trans (HB1.out.mono HB.out.size)).alloc (Nat.le_trans HB.out.size HB1.out.size) _
  clear a0
  have b2 : W3.cell? ⟨w.heap.size, 2, none⟩ = some (.slice Aa na ca) := hG.cell 2
  have b3 : W3.cell? ⟨w.heap.size, 3, none⟩ = some (.slice At nt ct) := hG.cell 3
  have b4 : W3.cell? ⟨w.heap.size, 4, none⟩ = some (.slice Ae me ce) := hG.cell 4
  have x0 : W3.cell? ⟨W1.heap.size, 0, none⟩ = some (.bool false) := hX.cell 0
  have x1 : W3.cell? ⟨W1.heap.size, 1, none⟩ = some (.int .i64 a) := hX.cell 1
  have x2 : W3.cell? ⟨W1.heap.size, 2, none⟩ = some (.bool true) := hX.cell 2
  have x3 : W3.cell? ⟨W1.heap.size, 3, none⟩ = some (.bool false) := hX.cell 3
  have HB3 := Lib.hid hB
  have HX3 := Lib.hid hX
  have HG3 := Lib.hid hG
  clear hW3 hX hG hB hlt HB HB1 HG
  have dm : (((m : Int) + 1) == 0) = false := by rw [beq_dec]; exact decide_eq_false (by omega)
  by_cases hl : (na : Int) = a
  case neg =>
    have l1 : ((na : Int) == a) = false := by rw [beq_dec]; exact decide_eq_false hl
    have l2 : ((na : Int) != a) = true := by rw [bne, l1]; rfl
    have HR : Hid (b0 = false) := Lib.hid (by rw [HB0.out]; simp [hl])
    clear hl
    go_wp2
    go_ret
    exact ⟨congrArg (fun b => Ending.returned (Value.bool b)) HR.out.symm, HB3.out⟩
  have l1 : ((na : Int) == a) = true := by rw [beq_dec]; exact decide_eq_true hl
  have l2 : ((na : Int) != a) = false := by rw [bne, l1]; rfl
  have HL := Lib.hid hl
  clear hl
  rcases Nat.eq_zero_or_pos me with he | he
  case inr =>
    have d1 : decide ((me : Int) > 0) = true := decide_eq_true (by omega)
    have d2 : decide (0 < (me : Int)) = true := decide_eq_true (by omega)
    have HR : Hid (b0 = false) := Lib.hid (by rw [HB0.out]; have h0 : ¬ me = 0 := (by omega); simp [h0])
    go_wp2
    go_ret
    exact ⟨congrArg (fun b => Ending.returned (Value.bool b)) HR.out.symm, HB3.out⟩
  subst he
  go_upto_region 4 with fail
  clear dm l1 l2 b2 b3 b4 x0 x1 x2 x3
  have HT3 : Hid ((fun X => (WS sn X w.heap.size W1.heap.size (k) Aa na ca At nt ct Ae 0 ce #[.bool false, .int .i64 a, .bool true, .bool false] w True)) W3) := Lib.hid ⟨HG3.out, HX3.out, HB3.out, HX3.out.lt, trivial⟩
  clear HG3 HX3 HB3
  cases hn : nameB sn with
  | true =>
    have HN : Hid (∀ X, Calls Tryz.prog 62 #[.string sn] X fun e w' => e = .returned (.bool true) ∧ Below X.heap.size X w') := Lib.hid (fun X => by have := name_any sn X; rw [hn] at this; exact this)
    have HR : Hid (b0 = false) := Lib.hid (by rw [HB0.out]; simp [hn])
    have k1 := HKN.out
    clear hn
    have SO : Hid (∀ X, (fun X => (WS sn X w.heap.size W1.heap.size (k) Aa na ca At nt ct Ae 0 ce #[.bool false, .int .i64 a, .bool true, .bool false] w True)) X → (fun X => X.cell? ⟨w.heap.size, 0, none⟩ = some (.int .i64 k) ∧ X.cell? ⟨w.heap.size, 1, none⟩ = some (.string sn) ∧ X.cell? ⟨w.heap.size, 2, none⟩ = some (.slice Aa na ca) ∧ X.cell? ⟨W1.heap.size, 0, none⟩ = some (.bool false)) X) := Lib.hid (fun X hb => ⟨hb.1.cell 0, hb.1.cell 1, hb.1.cell 2, hb.2.1.cell 0⟩)
    refine wp_region_L (by kernel_rfl) 28 (fun X => X.cell? ⟨w.heap.size, 0, none⟩ = some (.int .i64 k) ∧ X.cell? ⟨w.heap.size, 1, none⟩ = some (.string sn) ∧ X.cell? ⟨w.heap.size, 2, none⟩ = some (.slice Aa na ca) ∧ X.cell? ⟨W1.heap.size, 0, none⟩ = some (.bool false)) (SO.out _ (WS.drew HT3.out)) (fun hHeld => ?_)
    have HS0 := Lib.hid hHeld
    clear hHeld
    change wpAnyL _ _ _ _ _ 28 29 (Array.replicate 29 false) _ _
    obtain ⟨X0, hX0⟩ : ∃ X0, W3.drew = X0 := ⟨_, rfl⟩
    have HT4 : Hid ((fun X => (WS sn X w.heap.size W1.heap.size (k) Aa na ca At nt ct Ae 0 ce #[.bool false, .int .i64 a, .bool true, .bool false] w True)) W3.drew) := Lib.hid (WS.drew HT3.out)
    rw [hX0] at HT4 HS0 ⊢
    clear hX0 HT3 W3
    refine tj 0 49 (.pointer (some ⟨W1.heap.size, 0, none⟩)) HS0.out rfl rfl ?_
    try simp only [sA, sB, sC]
    refine tS 1 50 (.bool false) [5, 6, 10, 16, 28] HS0.out rfl rfl ?_ ?_
    · intro w2 hSw; obtain ⟨g0, g1, g2, g3⟩ := hSw; go_simp
    try simp only [sA, sB, sC]
    refine tj 2 51 (.pointer (some ⟨w.heap.size, 1, none⟩)) HS0.out rfl rfl ?_
    try simp only [sA, sB, sC]
    refine tS 3 52 (.string sn) [4, 6, 10, 16, 28] HS0.out rfl rfl ?_ ?_
    · intro w2 hSw; obtain ⟨g0, g1, g2, g3⟩ := hSw; go_simp
    try simp only [sA, sB, sC]
    refine wpAnyL_ready (rs := [4]) (by kernel_rfl) (by simp) ?_
    refine AllReadyL.cons rfl (fun K hK => ?_) AllReadyL.nil
    go_simp
    refine (HN.out X0).mono ?_
    rintro e X1 ⟨rfl, hx1⟩
    have HT1 := Lib.hid (WS.below HT4.out hx1 (fun h => h))
    clear hx1
    refine hK.out _ _ (SO.out _ HT1.out) (fun hHeld => ?_)
    have HS1 := Lib.hid hHeld
    clear hK K hHeld
    try simp only [sA, sB, sC]
    refine tj 5 54 (.bool true) HS1.out rfl rfl ?_
    try simp only [sA, sB, sC]
    refine tj 6 55 (.bool true) HS1.out rfl rfl ?_
    try simp only [sA, sB, sC]
    refine tN 7 56 HS1.out rfl rfl ?_
    try simp only [sA, sB, sC]
    refine tN 8 57 HS1.out rfl rfl ?_
    try simp only [sA, sB, sC]
    refine tN 9 58 HS1.out rfl rfl ?_
    try simp only [sA, sB, sC]
    refine tN 10 59 HS1.out rfl rfl ?_
    try simp only [sA, sB, sC]
    refine tN 11 60 HS1.out rfl rfl ?_
    try simp only [sA, sB, sC]
    refine tN 12 61 HS1.out rfl rfl ?_
    try simp only [sA, sB, sC]
    refine tN 13 62 HS1.out rfl rfl ?_
    try simp only [sA, sB, sC]
    refine tN 14 63 HS1.out rfl rfl ?_
    try simp only [sA, sB, sC]
    refine tj 15 64 (.bool true) HS1.out rfl rfl ?_
    try simp only [sA, sB, sC]
    refine tj 16 65 (.bool true) HS1.out rfl rfl ?_
    try simp only [sA, sB, sC]
    refine tN 17 66 HS1.out rfl rfl ?_
    try simp only [sA, sB, sC]
    refine tN 18 67 HS1.out rfl rfl ?_
    try simp only [sA, sB, sC]
    refine tN 19 68 HS1.out rfl rfl ?_
    try simp only [sA, sB, sC]
    refine tN 20 69 HS1.out rfl rfl ?_
    try simp only [sA, sB, sC]
    refine tN 21 70 HS1.out rfl rfl ?_
    try simp only [sA, sB, sC]
    refine tN 22 71 HS1.out rfl rfl ?_
    try simp only [sA, sB, sC]
    refine tN 23 72 HS1.out rfl rfl ?_
    try simp only [sA, sB, sC]
    refine tN 24 73 HS1.out rfl rfl ?_
    try simp only [sA, sB, sC]
    refine tN 25 74 HS1.out rfl rfl ?_
    try simp only [sA, sB, sC]
    refine tN 26 75 HS1.out rfl rfl ?_
    try simp only [sA, sB, sC]
    refine tN 27 76 HS1.out rfl rfl ?_
    try simp only [sA, sB, sC]
    refine wpAnyL_ready (rs := [28]) (by kernel_rfl) (by simp) ?_
    refine AllReadyL.last rfl (by kernel_rfl) (fun K hK => ?_)
    go_simp
    refine hK.out _ _ ?_
    clear hK K
    try simp only [sA, sB, sC]
    refine wpAnyL_done (by kernel_rfl) ?_ _
    go_wp2
    go_ret
    exact ⟨congrArg (fun b => Ending.returned (Value.bool b)) HR.out.symm, HT1.out.2.2.1⟩
  | false =>
    by_cases he : sn = ⟨#[]⟩
    case neg =>
      have HN : Hid (∀ X, Calls Tryz.prog 62 #[.string sn] X fun e w' => e = .returned (.bool false) ∧ Below X.heap.size X w') := Lib.hid (fun X => by have := name_any sn X; rw [hn] at this; exact this)
      have HR : Hid (b0 = false) := Lib.hid (by rw [HB0.out]; simp [hn, he])
      have e1 : (sn.toList == []) = false := by have h := tl_beq sn ⟨#[]⟩; rw [tl_nil] at h; rw [h]; exact decide_eq_false he
      have e2 : (sn.toList != []) = true := by rw [bne, e1]; rfl
      have e3 : sn.toList.isEmpty = false := by cases h : sn.toList with | nil => rw [h] at e1; cases e1 | cons _ _ => rfl
      have k1 := HKN.out
      clear hn he
      have SO : Hid (∀ X, (fun X => (WS sn X w.heap.size W1.heap.size (k) Aa na ca At nt ct Ae 0 ce #[.bool false, .int .i64 a, .bool true, .bool false] w True)) X → (fun X => X.cell? ⟨w.heap.size, 0, none⟩ = some (.int .i64 k) ∧ X.cell? ⟨w.heap.size, 1, none⟩ = some (.string sn) ∧ X.cell? ⟨w.heap.size, 2, none⟩ = some (.slice Aa na ca) ∧ X.cell? ⟨W1.heap.size, 0, none⟩ = some (.bool false)) X) := Lib.hid (fun X hb => ⟨hb.1.cell 0, hb.1.cell 1, hb.1.cell 2, hb.2.1.cell 0⟩)
      refine wp_region_L (by kernel_rfl) 28 (fun X => X.cell? ⟨w.heap.size, 0, none⟩ = some (.int .i64 k) ∧ X.cell? ⟨w.heap.size, 1, none⟩ = some (.string sn) ∧ X.cell? ⟨w.heap.size, 2, none⟩ = some (.slice Aa na ca) ∧ X.cell? ⟨W1.heap.size, 0, none⟩ = some (.bool false)) (SO.out _ (WS.drew HT3.out)) (fun hHeld => ?_)
      have HS0 := Lib.hid hHeld
      clear hHeld
      change wpAnyL _ _ _ _ _ 28 29 (Array.replicate 29 false) _ _
      obtain ⟨X0, hX0⟩ : ∃ X0, W3.drew = X0 := ⟨_, rfl⟩
      have HT4 : Hid ((fun X => (WS sn X w.heap.size W1.heap.size (k) Aa na ca At nt ct Ae 0 ce #[.bool false, .int .i64 a, .bool true, .bool false] w True)) W3.drew) := Lib.hid (WS.drew HT3.out)
      rw [hX0] at HT4 HS0 ⊢
      clear hX0 HT3 W3
      refine tj 0 49 (.pointer (some ⟨W1.heap.size, 0, none⟩)) HS0.out rfl rfl ?_
      try simp only [sA, sB, sC]
      refine tS 1 50 (.bool false) [5, 6, 10, 16, 28] HS0.out rfl rfl ?_ ?_
      · intro w2 hSw; obtain ⟨g0, g1, g2, g3⟩ := hSw; go_simp
      try simp only [sA, sB, sC]
      refine tj 2 51 (.pointer (some ⟨w.heap.size, 1, none⟩)) HS0.out rfl rfl ?_
      try simp only [sA, sB, sC]
      refine tS 3 52 (.string sn) [4, 6, 10, 16, 28] HS0.out rfl rfl ?_ ?_
      · intro w2 hSw; obtain ⟨g0, g1, g2, g3⟩ := hSw; go_simp
      try simp only [sA, sB, sC]
      refine wpAnyL_ready (rs := [4]) (by kernel_rfl) (by simp) ?_
      refine AllReadyL.cons rfl (fun K hK => ?_) AllReadyL.nil
      go_simp
      refine (HN.out X0).mono ?_
      rintro e X1 ⟨rfl, hx1⟩
      have HT1 := Lib.hid (WS.below HT4.out hx1 (fun h => h))
      clear hx1
      refine hK.out _ _ (SO.out _ HT1.out) (fun hHeld => ?_)
      have HS1 := Lib.hid hHeld
      clear hK K hHeld
      try simp only [sA, sB, sC]
      refine tj 5 54 (.bool false) HS1.out rfl rfl ?_
      try simp only [sA, sB, sC]
      refine tj 6 55 (.bool false) HS1.out rfl rfl ?_
      try simp only [sA, sB, sC]
      refine tj 7 56 (.pointer (some ⟨W1.heap.size, 0, none⟩)) HS1.out rfl rfl ?_
      try simp only [sA, sB, sC]
      refine tS 8 57 (.bool false) [9, 10, 16, 28] HS1.out rfl rfl ?_ ?_
      · intro w2 hSw; obtain ⟨g0, g1, g2, g3⟩ := hSw; go_simp
      try simp only [sA, sB, sC]
      refine tj 9 58 (.bool true) HS1.out rfl rfl ?_
      try simp only [sA, sB, sC]
      refine tj 10 59 (.bool true) HS1.out rfl rfl ?_
      try simp only [sA, sB, sC]
      refine tj 11 60 (.pointer (some ⟨w.heap.size, 1, none⟩)) HS1.out rfl rfl ?_
      try simp only [sA, sB, sC]
      refine tS 12 61 (.string sn) [13, 14, 15, 16, 28] HS1.out rfl rfl ?_ ?_
      · intro w2 hSw; obtain ⟨g0, g1, g2, g3⟩ := hSw; go_simp
      try simp only [sA, sB, sC]
      refine tj 13 62 (.bool true) HS1.out rfl rfl ?_
      try simp only [sA, sB, sC]
      refine tj 14 63 (.bool true) HS1.out rfl rfl ?_
      try simp only [sA, sB, sC]
      refine tj 15 64 (.bool true) HS1.out rfl rfl ?_
      try simp only [sA, sB, sC]
      refine tj 16 65 (.bool true) HS1.out rfl rfl ?_
      try simp only [sA, sB, sC]
      refine tN 17 66 HS1.out rfl rfl ?_
      try simp only [sA, sB, sC]
      refine tN 18 67 HS1.out rfl rfl ?_
      try simp only [sA, sB, sC]
      refine tN 19 68 HS1.out rfl rfl ?_
      try simp only [sA, sB, sC]
      refine tN 20 69 HS1.out rfl rfl ?_
      try simp only [sA, sB, sC]
      refine tN 21 70 HS1.out rfl rfl ?_
      try simp only [sA, sB, sC]
      refine tN 22 71 HS1.out rfl rfl ?_
      try simp only [sA, sB, sC]
      refine tN 23 72 HS1.out rfl rfl ?_
      try simp only [sA, sB, sC]
      refine tN 24 73 HS1.out rfl rfl ?_
      try simp only [sA, sB, sC]
      refine tN 25 74 HS1.out rfl rfl ?_
      try simp only [sA, sB, sC]
      refine tN 26 75 HS1.out rfl rfl ?_
      try simp only [sA, sB, sC]
      refine tN 27 76 HS1.out rfl rfl ?_
      try simp only [sA, sB, sC]
      refine wpAnyL_ready (rs := [28]) (by kernel_rfl) (by simp) ?_
      refine AllReadyL.last rfl (by kernel_rfl) (fun K hK => ?_)
      go_simp
      refine hK.out _ _ ?_
      clear hK K
      try simp only [sA, sB, sC]
      refine wpAnyL_done (by kernel_rfl) ?_ _
      go_wp2
      go_ret
      exact ⟨congrArg (fun b => Ending.returned (Value.bool b)) HR.out.symm, HT1.out.2.2.1⟩
    have HN : Hid (∀ X, Calls Tryz.prog 62 #[.string sn] X fun e w' => e = .returned (.bool false) ∧ Below X.heap.size X w') := Lib.hid (fun X => by have := name_any sn X; rw [hn] at this; exact this)
    have HR : Hid (b0 = (bA && bT && bE)) := Lib.hid (by rw [HB0.out]; simp [name_empty, HL.out, he])
    have e1 : (sn.toList == []) = true := by have h := tl_beq sn ⟨#[]⟩; rw [tl_nil] at h; rw [h]; exact decide_eq_true he
    have e2 : (sn.toList != []) = false := by rw [bne, e1]; rfl
    have e3 : sn.toList.isEmpty = true := by rw [he, tl_nil]; rfl
    have k1 := HKN.out
    clear hn he
    have SO : Hid (∀ X, (fun X => (WS sn X w.heap.size W1.heap.size (k) Aa na ca At nt ct Ae 0 ce #[.bool false, .int .i64 a, .bool true, .bool false] w True)) X → (fun X => X.cell? ⟨w.heap.size, 0, none⟩ = some (.int .i64 k) ∧ X.cell? ⟨w.heap.size, 1, none⟩ = some (.string sn) ∧ X.cell? ⟨w.heap.size, 2, none⟩ = some (.slice Aa na ca) ∧ X.cell? ⟨W1.heap.size, 0, none⟩ = some (.bool false)) X) := Lib.hid (fun X hb => ⟨hb.1.cell 0, hb.1.cell 1, hb.1.cell 2, hb.2.1.cell 0⟩)
    refine wp_region_L (by kernel_rfl) 28 (fun X => X.cell? ⟨w.heap.size, 0, none⟩ = some (.int .i64 k) ∧ X.cell? ⟨w.heap.size, 1, none⟩ = some (.string sn) ∧ X.cell? ⟨w.heap.size, 2, none⟩ = some (.slice Aa na ca) ∧ X.cell? ⟨W1.heap.size, 0, none⟩ = some (.bool false)) (SO.out _ (WS.drew HT3.out)) (fun hHeld => ?_)
    have HS0 := Lib.hid hHeld
    clear hHeld
    change wpAnyL _ _ _ _ _ 28 29 (Array.replicate 29 false) _ _
    obtain ⟨X0, hX0⟩ : ∃ X0, W3.drew = X0 := ⟨_, rfl⟩
    have HT4 : Hid ((fun X => (WS sn X w.heap.size W1.heap.size (k) Aa na ca At nt ct Ae 0 ce #[.bool false, .int .i64 a, .bool true, .bool false] w True)) W3.drew) := Lib.hid (WS.drew HT3.out)
    rw [hX0] at HT4 HS0 ⊢
    clear hX0 HT3 W3
    refine tj 0 49 (.pointer (some ⟨W1.heap.size, 0, none⟩)) HS0.out rfl rfl ?_
    try simp only [sA, sB, sC]
    refine tS 1 50 (.bool false) [5, 6, 10, 16, 28] HS0.out rfl rfl ?_ ?_
    · intro w2 hSw; obtain ⟨g0, g1, g2, g3⟩ := hSw; go_simp
    try simp only [sA, sB, sC]
    refine tj 2 51 (.pointer (some ⟨w.heap.size, 1, none⟩)) HS0.out rfl rfl ?_
    try simp only [sA, sB, sC]
    refine tS 3 52 (.string sn) [4, 6, 10, 16, 28] HS0.out rfl rfl ?_ ?_
    · intro w2 hSw; obtain ⟨g0, g1, g2, g3⟩ := hSw; go_simp
    try simp only [sA, sB, sC]
    refine wpAnyL_ready (rs := [4]) (by kernel_rfl) (by simp) ?_
    refine AllReadyL.cons rfl (fun K hK => ?_) AllReadyL.nil
    go_simp
    refine (HN.out X0).mono ?_
    rintro e X1 ⟨rfl, hx1⟩
    have HT1 := Lib.hid (WS.below HT4.out hx1 (fun h => h))
    clear hx1
    refine hK.out _ _ (SO.out _ HT1.out) (fun hHeld => ?_)
    have HS1 := Lib.hid hHeld
    clear hK K hHeld
    try simp only [sA, sB, sC]
    refine tj 5 54 (.bool false) HS1.out rfl rfl ?_
    try simp only [sA, sB, sC]
    refine tj 6 55 (.bool false) HS1.out rfl rfl ?_
    try simp only [sA, sB, sC]
    refine tj 7 56 (.pointer (some ⟨W1.heap.size, 0, none⟩)) HS1.out rfl rfl ?_
    try simp only [sA, sB, sC]
    refine tS 8 57 (.bool false) [9, 10, 16, 28] HS1.out rfl rfl ?_ ?_
    · intro w2 hSw; obtain ⟨g0, g1, g2, g3⟩ := hSw; go_simp
    try simp only [sA, sB, sC]
    refine tj 9 58 (.bool true) HS1.out rfl rfl ?_
    try simp only [sA, sB, sC]
    refine tj 10 59 (.bool true) HS1.out rfl rfl ?_
    try simp only [sA, sB, sC]
    refine tj 11 60 (.pointer (some ⟨w.heap.size, 1, none⟩)) HS1.out rfl rfl ?_
    try simp only [sA, sB, sC]
    refine tS 12 61 (.string sn) [13, 14, 15, 16, 28] HS1.out rfl rfl ?_ ?_
    · intro w2 hSw; obtain ⟨g0, g1, g2, g3⟩ := hSw; go_simp
    try simp only [sA, sB, sC]
    refine tj 13 62 (.bool false) HS1.out rfl rfl ?_
    try simp only [sA, sB, sC]
    refine tj 14 63 (.bool false) HS1.out rfl rfl ?_
    try simp only [sA, sB, sC]
    refine tj 15 64 (.bool false) HS1.out rfl rfl ?_
    try simp only [sA, sB, sC]
    refine tj 16 65 (.bool false) HS1.out rfl rfl ?_
    try simp only [sA, sB, sC]
    refine tj 17 66 (.pointer (some ⟨w.heap.size, 0, none⟩)) HS1.out rfl rfl ?_
    try simp only [sA, sB, sC]
    refine tS 18 67 (.int .i64 k) [19, 20, 27, 28] HS1.out rfl rfl ?_ ?_
    · intro w2 hSw; obtain ⟨g0, g1, g2, g3⟩ := hSw; go_simp
    try simp only [sA, sB, sC]
    refine tj 19 68 (.bool false) HS1.out rfl rfl ?_
    try simp only [sA, sB, sC]
    refine tj 20 69 (.bool false) HS1.out rfl rfl ?_
    try simp only [sA, sB, sC]
    refine tN 21 70 HS1.out rfl rfl ?_
    try simp only [sA, sB, sC]
    refine tN 22 71 HS1.out rfl rfl ?_
    try simp only [sA, sB, sC]
    refine tN 23 72 HS1.out rfl rfl ?_
    try simp only [sA, sB, sC]
    refine tN 24 73 HS1.out rfl rfl ?_
    try simp only [sA, sB, sC]
    refine tN 25 74 HS1.out rfl rfl ?_
    try simp only [sA, sB, sC]
    refine tN 26 75 HS1.out rfl rfl ?_
    try simp only [sA, sB, sC]
    refine tj 27 76 (.bool false) HS1.out rfl rfl ?_
    try simp only [sA, sB, sC]
    refine wpAnyL_ready (rs := [28]) (by kernel_rfl) (by simp) ?_
    refine AllReadyL.last rfl (by kernel_rfl) (fun K hK => ?_)
    go_simp
    refine hK.out _ _ ?_
    clear hK K
    try simp only [sA, sB, sC]
    refine wpAnyL_done (by kernel_rfl) ?_ _
    have hG := HT1.out.1
    have b2 : X1.cell? ⟨w.heap.size, 2, none⟩ = some (.slice Aa na ca) := hG.cell 2
    have b3 : X1.cell? ⟨w.heap.size, 3, none⟩ = some (.slice At nt ct) := hG.cell 3
    have b4 : X1.cell? ⟨w.heap.size, 4, none⟩ = some (.slice Ae 0 ce) := hG.cell 4
    have HG := Lib.hid hG
    have hlt : w.heap.size < X1.heap.size := hG.lt
    have HB := Lib.hid HT1.out.2.2.1
    clear hG HT1 HT4 HS0 HS1 SO
    cases bA with
    | false =>
      have HA2 : Hid (∀ X, Below w.heap.size w X → Calls Tryz.prog 88 #[.slice Aa na ca, .func (.func 89) #[] #[]] X fun r w' => r = .returned (.bool true) ∧ Below X.heap.size X w') := Lib.hid (fun X hx => HA.out X hx)
      clear HA
      go_wp2_with (go_at_call 88; refine (HA2.out X1 HB.out).mono ?_; rintro r w' ⟨rfl, hb⟩)
      go_ret
      exact ⟨congrArg (fun b => Ending.returned (Value.bool b)) HR.out.symm, HB.out.trans (hb.mono HB.out.size)⟩
    | true =>
      have HA2 : Hid (∀ X, Below w.heap.size w X → Calls Tryz.prog 88 #[.slice Aa na ca, .func (.func 89) #[] #[]] X fun r w' => r = .returned (.bool false) ∧ Below X.heap.size X w') := Lib.hid (fun X hx => HA.out X hx)
      clear HA
      have HTOK : Hid True := Lib.hid trivial
      cases bT with
      | false =>
        go_wp2_with (first | (go_at_call 88; refine (HA2.out X1 HB.out).mono ?_; rintro r X2 ⟨rfl, hb⟩; have c3 := (hb.cell (p := ⟨w.heap.size, 3, none⟩) hlt).trans b3; have c4 := (hb.cell (p := ⟨w.heap.size, 4, none⟩) hlt).trans b4; have hlt2 : w.heap.size < X2.heap.size := Nat.lt_of_lt_of_le hlt hb.size; have HB2 := Lib.hid (HB.out.trans (hb.mono HB.out.size)); have _t := HTOK; clear hb) | (go_at_call 44; refine (HTT.out X2 HB2.out).mono ?_; rintro r w' ⟨rfl, hb⟩))
        go_ret
        exact ⟨congrArg (fun b => Ending.returned (Value.bool b)) HR.out.symm, HB2.out.trans (hb.mono HB2.out.size)⟩
      | true =>
        go_wp2_with (first | (go_at_call 88; refine (HA2.out X1 HB.out).mono ?_; rintro r X2 ⟨rfl, hb⟩; have c3 := (hb.cell (p := ⟨w.heap.size, 3, none⟩) hlt).trans b3; have c4 := (hb.cell (p := ⟨w.heap.size, 4, none⟩) hlt).trans b4; have hlt2 : w.heap.size < X2.heap.size := Nat.lt_of_lt_of_le hlt hb.size; have HB2 := Lib.hid (HB.out.trans (hb.mono HB.out.size)); have _t := HTOK; clear hb) | (have _u := _t.out; clear _u; go_at_call 44; refine (HTT.out X2 HB2.out).mono ?_; clear _t; rintro r X3 ⟨rfl, hb⟩; have c5 := (hb.cell (p := ⟨w.heap.size, 4, none⟩) hlt2).trans c4; have HB4 := Lib.hid (HB2.out.trans (hb.mono HB2.out.size)); clear hb) | (go_at_call 44; refine (HE.out X3 HB4.out).mono ?_; rintro r w' ⟨rfl, hb⟩))
        go_ret
        exact ⟨congrArg (fun b => Ending.returned (Value.bool b)) HR.out.symm, HB4.out.trans (hb.mono HB4.out.size)⟩
set_option maxRecDepth 100000 in
set_option maxHeartbeats 4000000 in
theorem stmt_plain (sn : ByteArray) (na nt me : Nat) (a : Int) (m : Nat) (Aa At Ae : Option Addr) (ca ct ce : Nat) (w : World) (bA bT bE b0 : Bool) (hm : m ≤ 1000) (k : Int) (hk : (k == 10) = false) (h0 : b0 = (decide ((na : Int) = a) && (false || decide (nt = 0)) && (false || decide (me = 0)) && (false == nameB sn) && (false || decide (sn = ⟨#[]⟩)) && true && bA && bT && bE))
    (hf : ∀ X, Calls Tryz.prog 87 #[.int .i64 k] X fun r w' => r = .returned (.tuple #[.agg #[.bool false, .int .i64 a, .bool false, .bool false], .bool true]) ∧ Below X.heap.size X w')
    (hA : ∀ X, Below w.heap.size w X → Calls Tryz.prog 88 #[.slice Aa na ca, .func (.func 89) #[] #[]] X fun r w' => r = .returned (.bool (!bA)) ∧ Below X.heap.size X w')
    (hT : ∀ X, Below w.heap.size w X → Calls Tryz.prog 44 #[.slice At nt ct, .int .i64 (m : Int)] X fun r w' => r = .returned (.bool bT) ∧ Below X.heap.size X w')
    (hE : ∀ X, Below w.heap.size w X → Calls Tryz.prog 44 #[.slice Ae me ce, .int .i64 (m : Int)] X fun r w' => r = .returned (.bool bE) ∧ Below X.heap.size X w') :
    Calls Tryz.prog 65 #[.agg #[.int .i64 k, .string sn, .slice Aa na ca, .slice At nt ct, .slice Ae me ce], .int .i64 ((m : Int) + 1)] w fun r w' => r = .returned (.bool b0) ∧ Below w.heap.size w w' := by
  have HF := Lib.hid hf
  have HB0 := Lib.hid h0
  have HA := Lib.hid hA
  have HTT := Lib.hid hT
  have HE := Lib.hid hE
  clear hf hA hT hE h0
  have HKN := Lib.hid hk
  clear hk
  go_enter Tryz.func65, Tryz.ntmps65
  go_upto_region 1 with fail
  refine wp_world ?_
  intro W hW
  have hG : Blk W w.heap.size 45 #[.int .i64 k, .string sn, .slice Aa na ca, .slice At nt ct, .slice Ae me ce] := by rw [← hW]; exact Blk.new _ _ _
  have hB : Below w.heap.size w W := by rw [← hW]; exact below1 _ _
  have a0 : W.cell? ⟨w.heap.size, 0, none⟩ = some (.int .i64 k) := hG.cell 0
  have hlt : w.heap.size < W.heap.size := hG.lt
  have HG := Lib.hid hG
  have HB := Lib.hid hB
  clear hW hG hB
  go_upto_region 2 with (go_at_call 87; refine (HF.out W).mono ?_; rintro r W1 ⟨rfl, hb1⟩; have HB1 := Lib.hid hb1; clear hb1)
  refine wp_world ?_
  intro W3 hW3
  have hX : Blk W3 W1.heap.size 119 #[.bool false, .int .i64 a, .bool false, .bool false] := by rw [← hW3]; exact Blk.new_at _ _ _ rfl
  have hG : Blk W3 w.heap.size 45 #[.int .i64 k, .string sn, .slice Aa na ca, .slice At nt ct, .slice Ae me ce] := by rw [← hW3]; exact (HG.out.below HB1.out hlt).alloc _
  have hB : Below w.heap.size w W3 := by rw [← hW3]; exact (HB.out.trans (HB1.out.mono HB.out.size)).alloc (Nat.le_trans HB.out.size HB1.out.size) _
  clear a0
  have b2 : W3.cell? ⟨w.heap.size, 2, none⟩ = some (.slice Aa na ca) := hG.cell 2
  have b3 : W3.cell? ⟨w.heap.size, 3, none⟩ = some (.slice At nt ct) := hG.cell 3
  have b4 : W3.cell? ⟨w.heap.size, 4, none⟩ = some (.slice Ae me ce) := hG.cell 4
  have x0 : W3.cell? ⟨W1.heap.size, 0, none⟩ = some (.bool false) := hX.cell 0
  have x1 : W3.cell? ⟨W1.heap.size, 1, none⟩ = some (.int .i64 a) := hX.cell 1
  have x2 : W3.cell? ⟨W1.heap.size, 2, none⟩ = some (.bool false) := hX.cell 2
  have x3 : W3.cell? ⟨W1.heap.size, 3, none⟩ = some (.bool false) := hX.cell 3
  have HB3 := Lib.hid hB
  have HX3 := Lib.hid hX
  have HG3 := Lib.hid hG
  clear hW3 hX hG hB hlt HB HB1 HG
  have dm : (((m : Int) + 1) == 0) = false := by rw [beq_dec]; exact decide_eq_false (by omega)
  by_cases hl : (na : Int) = a
  case neg =>
    have l1 : ((na : Int) == a) = false := by rw [beq_dec]; exact decide_eq_false hl
    have l2 : ((na : Int) != a) = true := by rw [bne, l1]; rfl
    have HR : Hid (b0 = false) := Lib.hid (by rw [HB0.out]; simp [hl])
    clear hl
    go_wp2
    go_ret
    exact ⟨congrArg (fun b => Ending.returned (Value.bool b)) HR.out.symm, HB3.out⟩
  have l1 : ((na : Int) == a) = true := by rw [beq_dec]; exact decide_eq_true hl
  have l2 : ((na : Int) != a) = false := by rw [bne, l1]; rfl
  have HL := Lib.hid hl
  clear hl
  rcases Nat.eq_zero_or_pos nt with ht | ht
  case inr =>
    have d1 : decide ((nt : Int) > 0) = true := decide_eq_true (by omega)
    have d2 : decide (0 < (nt : Int)) = true := decide_eq_true (by omega)
    have HR : Hid (b0 = false) := Lib.hid (by rw [HB0.out]; have h0 : ¬ nt = 0 := (by omega); simp [h0])
    go_wp2
    go_ret
    exact ⟨congrArg (fun b => Ending.returned (Value.bool b)) HR.out.symm, HB3.out⟩
  subst ht
  rcases Nat.eq_zero_or_pos me with he | he
  case inr =>
    have d1 : decide ((me : Int) > 0) = true := decide_eq_true (by omega)
    have d2 : decide (0 < (me : Int)) = true := decide_eq_true (by omega)
    have HR : Hid (b0 = false) := Lib.hid (by rw [HB0.out]; have h0 : ¬ me = 0 := (by omega); simp [h0])
    go_wp2
    go_ret
    exact ⟨congrArg (fun b => Ending.returned (Value.bool b)) HR.out.symm, HB3.out⟩
  subst he
  go_upto_region 4 with fail
  clear dm l1 l2 b2 b3 b4 x0 x1 x2 x3
  have HT3 : Hid ((fun X => (WS sn X w.heap.size W1.heap.size (k) Aa na ca At 0 ct Ae 0 ce #[.bool false, .int .i64 a, .bool false, .bool false] w True)) W3) := Lib.hid ⟨HG3.out, HX3.out, HB3.out, HX3.out.lt, trivial⟩
  clear HG3 HX3 HB3
  cases hn : nameB sn with
  | true =>
    have HN : Hid (∀ X, Calls Tryz.prog 62 #[.string sn] X fun e w' => e = .returned (.bool true) ∧ Below X.heap.size X w') := Lib.hid (fun X => by have := name_any sn X; rw [hn] at this; exact this)
    have HR : Hid (b0 = false) := Lib.hid (by rw [HB0.out]; simp [hn])
    have k1 := HKN.out
    clear hn
    have SO : Hid (∀ X, (fun X => (WS sn X w.heap.size W1.heap.size (k) Aa na ca At 0 ct Ae 0 ce #[.bool false, .int .i64 a, .bool false, .bool false] w True)) X → (fun X => X.cell? ⟨w.heap.size, 0, none⟩ = some (.int .i64 k) ∧ X.cell? ⟨w.heap.size, 1, none⟩ = some (.string sn) ∧ X.cell? ⟨w.heap.size, 2, none⟩ = some (.slice Aa na ca) ∧ X.cell? ⟨W1.heap.size, 0, none⟩ = some (.bool false)) X) := Lib.hid (fun X hb => ⟨hb.1.cell 0, hb.1.cell 1, hb.1.cell 2, hb.2.1.cell 0⟩)
    refine wp_region_L (by kernel_rfl) 28 (fun X => X.cell? ⟨w.heap.size, 0, none⟩ = some (.int .i64 k) ∧ X.cell? ⟨w.heap.size, 1, none⟩ = some (.string sn) ∧ X.cell? ⟨w.heap.size, 2, none⟩ = some (.slice Aa na ca) ∧ X.cell? ⟨W1.heap.size, 0, none⟩ = some (.bool false)) (SO.out _ (WS.drew HT3.out)) (fun hHeld => ?_)
    have HS0 := Lib.hid hHeld
    clear hHeld
    change wpAnyL _ _ _ _ _ 28 29 (Array.replicate 29 false) _ _
    obtain ⟨X0, hX0⟩ : ∃ X0, W3.drew = X0 := ⟨_, rfl⟩
    have HT4 : Hid ((fun X => (WS sn X w.heap.size W1.heap.size (k) Aa na ca At 0 ct Ae 0 ce #[.bool false, .int .i64 a, .bool false, .bool false] w True)) W3.drew) := Lib.hid (WS.drew HT3.out)
    rw [hX0] at HT4 HS0 ⊢
    clear hX0 HT3 W3
    refine tj 0 49 (.pointer (some ⟨W1.heap.size, 0, none⟩)) HS0.out rfl rfl ?_
    try simp only [sA, sB, sC]
    refine tS 1 50 (.bool false) [5, 6, 10, 16, 28] HS0.out rfl rfl ?_ ?_
    · intro w2 hSw; obtain ⟨g0, g1, g2, g3⟩ := hSw; go_simp
    try simp only [sA, sB, sC]
    refine tj 2 51 (.pointer (some ⟨w.heap.size, 1, none⟩)) HS0.out rfl rfl ?_
    try simp only [sA, sB, sC]
    refine tS 3 52 (.string sn) [4, 6, 10, 16, 28] HS0.out rfl rfl ?_ ?_
    · intro w2 hSw; obtain ⟨g0, g1, g2, g3⟩ := hSw; go_simp
    try simp only [sA, sB, sC]
    refine wpAnyL_ready (rs := [4]) (by kernel_rfl) (by simp) ?_
    refine AllReadyL.cons rfl (fun K hK => ?_) AllReadyL.nil
    go_simp
    refine (HN.out X0).mono ?_
    rintro e X1 ⟨rfl, hx1⟩
    have HT1 := Lib.hid (WS.below HT4.out hx1 (fun h => h))
    clear hx1
    refine hK.out _ _ (SO.out _ HT1.out) (fun hHeld => ?_)
    have HS1 := Lib.hid hHeld
    clear hK K hHeld
    try simp only [sA, sB, sC]
    refine tj 5 54 (.bool true) HS1.out rfl rfl ?_
    try simp only [sA, sB, sC]
    refine tj 6 55 (.bool true) HS1.out rfl rfl ?_
    try simp only [sA, sB, sC]
    refine tN 7 56 HS1.out rfl rfl ?_
    try simp only [sA, sB, sC]
    refine tN 8 57 HS1.out rfl rfl ?_
    try simp only [sA, sB, sC]
    refine tN 9 58 HS1.out rfl rfl ?_
    try simp only [sA, sB, sC]
    refine tN 10 59 HS1.out rfl rfl ?_
    try simp only [sA, sB, sC]
    refine tN 11 60 HS1.out rfl rfl ?_
    try simp only [sA, sB, sC]
    refine tN 12 61 HS1.out rfl rfl ?_
    try simp only [sA, sB, sC]
    refine tN 13 62 HS1.out rfl rfl ?_
    try simp only [sA, sB, sC]
    refine tN 14 63 HS1.out rfl rfl ?_
    try simp only [sA, sB, sC]
    refine tj 15 64 (.bool true) HS1.out rfl rfl ?_
    try simp only [sA, sB, sC]
    refine tj 16 65 (.bool true) HS1.out rfl rfl ?_
    try simp only [sA, sB, sC]
    refine tN 17 66 HS1.out rfl rfl ?_
    try simp only [sA, sB, sC]
    refine tN 18 67 HS1.out rfl rfl ?_
    try simp only [sA, sB, sC]
    refine tN 19 68 HS1.out rfl rfl ?_
    try simp only [sA, sB, sC]
    refine tN 20 69 HS1.out rfl rfl ?_
    try simp only [sA, sB, sC]
    refine tN 21 70 HS1.out rfl rfl ?_
    try simp only [sA, sB, sC]
    refine tN 22 71 HS1.out rfl rfl ?_
    try simp only [sA, sB, sC]
    refine tN 23 72 HS1.out rfl rfl ?_
    try simp only [sA, sB, sC]
    refine tN 24 73 HS1.out rfl rfl ?_
    try simp only [sA, sB, sC]
    refine tN 25 74 HS1.out rfl rfl ?_
    try simp only [sA, sB, sC]
    refine tN 26 75 HS1.out rfl rfl ?_
    try simp only [sA, sB, sC]
    refine tN 27 76 HS1.out rfl rfl ?_
    try simp only [sA, sB, sC]
    refine wpAnyL_ready (rs := [28]) (by kernel_rfl) (by simp) ?_
    refine AllReadyL.last rfl (by kernel_rfl) (fun K hK => ?_)
    go_simp
    refine hK.out _ _ ?_
    clear hK K
    try simp only [sA, sB, sC]
    refine wpAnyL_done (by kernel_rfl) ?_ _
    go_wp2
    go_ret
    exact ⟨congrArg (fun b => Ending.returned (Value.bool b)) HR.out.symm, HT1.out.2.2.1⟩
  | false =>
    by_cases he : sn = ⟨#[]⟩
    case neg =>
      have HN : Hid (∀ X, Calls Tryz.prog 62 #[.string sn] X fun e w' => e = .returned (.bool false) ∧ Below X.heap.size X w') := Lib.hid (fun X => by have := name_any sn X; rw [hn] at this; exact this)
      have HR : Hid (b0 = false) := Lib.hid (by rw [HB0.out]; simp [hn, he])
      have e1 : (sn.toList == []) = false := by have h := tl_beq sn ⟨#[]⟩; rw [tl_nil] at h; rw [h]; exact decide_eq_false he
      have e2 : (sn.toList != []) = true := by rw [bne, e1]; rfl
      have e3 : sn.toList.isEmpty = false := by cases h : sn.toList with | nil => rw [h] at e1; cases e1 | cons _ _ => rfl
      have k1 := HKN.out
      clear hn he
      have SO : Hid (∀ X, (fun X => (WS sn X w.heap.size W1.heap.size (k) Aa na ca At 0 ct Ae 0 ce #[.bool false, .int .i64 a, .bool false, .bool false] w True)) X → (fun X => X.cell? ⟨w.heap.size, 0, none⟩ = some (.int .i64 k) ∧ X.cell? ⟨w.heap.size, 1, none⟩ = some (.string sn) ∧ X.cell? ⟨w.heap.size, 2, none⟩ = some (.slice Aa na ca) ∧ X.cell? ⟨W1.heap.size, 0, none⟩ = some (.bool false)) X) := Lib.hid (fun X hb => ⟨hb.1.cell 0, hb.1.cell 1, hb.1.cell 2, hb.2.1.cell 0⟩)
      refine wp_region_L (by kernel_rfl) 28 (fun X => X.cell? ⟨w.heap.size, 0, none⟩ = some (.int .i64 k) ∧ X.cell? ⟨w.heap.size, 1, none⟩ = some (.string sn) ∧ X.cell? ⟨w.heap.size, 2, none⟩ = some (.slice Aa na ca) ∧ X.cell? ⟨W1.heap.size, 0, none⟩ = some (.bool false)) (SO.out _ (WS.drew HT3.out)) (fun hHeld => ?_)
      have HS0 := Lib.hid hHeld
      clear hHeld
      change wpAnyL _ _ _ _ _ 28 29 (Array.replicate 29 false) _ _
      obtain ⟨X0, hX0⟩ : ∃ X0, W3.drew = X0 := ⟨_, rfl⟩
      have HT4 : Hid ((fun X => (WS sn X w.heap.size W1.heap.size (k) Aa na ca At 0 ct Ae 0 ce #[.bool false, .int .i64 a, .bool false, .bool false] w True)) W3.drew) := Lib.hid (WS.drew HT3.out)
      rw [hX0] at HT4 HS0 ⊢
      clear hX0 HT3 W3
      refine tj 0 49 (.pointer (some ⟨W1.heap.size, 0, none⟩)) HS0.out rfl rfl ?_
      try simp only [sA, sB, sC]
      refine tS 1 50 (.bool false) [5, 6, 10, 16, 28] HS0.out rfl rfl ?_ ?_
      · intro w2 hSw; obtain ⟨g0, g1, g2, g3⟩ := hSw; go_simp
      try simp only [sA, sB, sC]
      refine tj 2 51 (.pointer (some ⟨w.heap.size, 1, none⟩)) HS0.out rfl rfl ?_
      try simp only [sA, sB, sC]
      refine tS 3 52 (.string sn) [4, 6, 10, 16, 28] HS0.out rfl rfl ?_ ?_
      · intro w2 hSw; obtain ⟨g0, g1, g2, g3⟩ := hSw; go_simp
      try simp only [sA, sB, sC]
      refine wpAnyL_ready (rs := [4]) (by kernel_rfl) (by simp) ?_
      refine AllReadyL.cons rfl (fun K hK => ?_) AllReadyL.nil
      go_simp
      refine (HN.out X0).mono ?_
      rintro e X1 ⟨rfl, hx1⟩
      have HT1 := Lib.hid (WS.below HT4.out hx1 (fun h => h))
      clear hx1
      refine hK.out _ _ (SO.out _ HT1.out) (fun hHeld => ?_)
      have HS1 := Lib.hid hHeld
      clear hK K hHeld
      try simp only [sA, sB, sC]
      refine tj 5 54 (.bool false) HS1.out rfl rfl ?_
      try simp only [sA, sB, sC]
      refine tj 6 55 (.bool false) HS1.out rfl rfl ?_
      try simp only [sA, sB, sC]
      refine tj 7 56 (.pointer (some ⟨W1.heap.size, 0, none⟩)) HS1.out rfl rfl ?_
      try simp only [sA, sB, sC]
      refine tS 8 57 (.bool false) [9, 10, 16, 28] HS1.out rfl rfl ?_ ?_
      · intro w2 hSw; obtain ⟨g0, g1, g2, g3⟩ := hSw; go_simp
      try simp only [sA, sB, sC]
      refine tj 9 58 (.bool true) HS1.out rfl rfl ?_
      try simp only [sA, sB, sC]
      refine tj 10 59 (.bool true) HS1.out rfl rfl ?_
      try simp only [sA, sB, sC]
      refine tj 11 60 (.pointer (some ⟨w.heap.size, 1, none⟩)) HS1.out rfl rfl ?_
      try simp only [sA, sB, sC]
      refine tS 12 61 (.string sn) [13, 14, 15, 16, 28] HS1.out rfl rfl ?_ ?_
      · intro w2 hSw; obtain ⟨g0, g1, g2, g3⟩ := hSw; go_simp
      try simp only [sA, sB, sC]
      refine tj 13 62 (.bool true) HS1.out rfl rfl ?_
      try simp only [sA, sB, sC]
      refine tj 14 63 (.bool true) HS1.out rfl rfl ?_
      try simp only [sA, sB, sC]
      refine tj 15 64 (.bool true) HS1.out rfl rfl ?_
      try simp only [sA, sB, sC]
      refine tj 16 65 (.bool true) HS1.out rfl rfl ?_
      try simp only [sA, sB, sC]
      refine tN 17 66 HS1.out rfl rfl ?_
      try simp only [sA, sB, sC]
      refine tN 18 67 HS1.out rfl rfl ?_
      try simp only [sA, sB, sC]
      refine tN 19 68 HS1.out rfl rfl ?_
      try simp only [sA, sB, sC]
      refine tN 20 69 HS1.out rfl rfl ?_
      try simp only [sA, sB, sC]
      refine tN 21 70 HS1.out rfl rfl ?_
      try simp only [sA, sB, sC]
      refine tN 22 71 HS1.out rfl rfl ?_
      try simp only [sA, sB, sC]
      refine tN 23 72 HS1.out rfl rfl ?_
      try simp only [sA, sB, sC]
      refine tN 24 73 HS1.out rfl rfl ?_
      try simp only [sA, sB, sC]
      refine tN 25 74 HS1.out rfl rfl ?_
      try simp only [sA, sB, sC]
      refine tN 26 75 HS1.out rfl rfl ?_
      try simp only [sA, sB, sC]
      refine tN 27 76 HS1.out rfl rfl ?_
      try simp only [sA, sB, sC]
      refine wpAnyL_ready (rs := [28]) (by kernel_rfl) (by simp) ?_
      refine AllReadyL.last rfl (by kernel_rfl) (fun K hK => ?_)
      go_simp
      refine hK.out _ _ ?_
      clear hK K
      try simp only [sA, sB, sC]
      refine wpAnyL_done (by kernel_rfl) ?_ _
      go_wp2
      go_ret
      exact ⟨congrArg (fun b => Ending.returned (Value.bool b)) HR.out.symm, HT1.out.2.2.1⟩
    have HN : Hid (∀ X, Calls Tryz.prog 62 #[.string sn] X fun e w' => e = .returned (.bool false) ∧ Below X.heap.size X w') := Lib.hid (fun X => by have := name_any sn X; rw [hn] at this; exact this)
    have HR : Hid (b0 = (bA && bT && bE)) := Lib.hid (by rw [HB0.out]; simp [name_empty, HL.out, he])
    have e1 : (sn.toList == []) = true := by have h := tl_beq sn ⟨#[]⟩; rw [tl_nil] at h; rw [h]; exact decide_eq_true he
    have e2 : (sn.toList != []) = false := by rw [bne, e1]; rfl
    have e3 : sn.toList.isEmpty = true := by rw [he, tl_nil]; rfl
    have k1 := HKN.out
    clear hn he
    have SO : Hid (∀ X, (fun X => (WS sn X w.heap.size W1.heap.size (k) Aa na ca At 0 ct Ae 0 ce #[.bool false, .int .i64 a, .bool false, .bool false] w True)) X → (fun X => X.cell? ⟨w.heap.size, 0, none⟩ = some (.int .i64 k) ∧ X.cell? ⟨w.heap.size, 1, none⟩ = some (.string sn) ∧ X.cell? ⟨w.heap.size, 2, none⟩ = some (.slice Aa na ca) ∧ X.cell? ⟨W1.heap.size, 0, none⟩ = some (.bool false)) X) := Lib.hid (fun X hb => ⟨hb.1.cell 0, hb.1.cell 1, hb.1.cell 2, hb.2.1.cell 0⟩)
    refine wp_region_L (by kernel_rfl) 28 (fun X => X.cell? ⟨w.heap.size, 0, none⟩ = some (.int .i64 k) ∧ X.cell? ⟨w.heap.size, 1, none⟩ = some (.string sn) ∧ X.cell? ⟨w.heap.size, 2, none⟩ = some (.slice Aa na ca) ∧ X.cell? ⟨W1.heap.size, 0, none⟩ = some (.bool false)) (SO.out _ (WS.drew HT3.out)) (fun hHeld => ?_)
    have HS0 := Lib.hid hHeld
    clear hHeld
    change wpAnyL _ _ _ _ _ 28 29 (Array.replicate 29 false) _ _
    obtain ⟨X0, hX0⟩ : ∃ X0, W3.drew = X0 := ⟨_, rfl⟩
    have HT4 : Hid ((fun X => (WS sn X w.heap.size W1.heap.size (k) Aa na ca At 0 ct Ae 0 ce #[.bool false, .int .i64 a, .bool false, .bool false] w True)) W3.drew) := Lib.hid (WS.drew HT3.out)
    rw [hX0] at HT4 HS0 ⊢
    clear hX0 HT3 W3
    refine tj 0 49 (.pointer (some ⟨W1.heap.size, 0, none⟩)) HS0.out rfl rfl ?_
    try simp only [sA, sB, sC]
    refine tS 1 50 (.bool false) [5, 6, 10, 16, 28] HS0.out rfl rfl ?_ ?_
    · intro w2 hSw; obtain ⟨g0, g1, g2, g3⟩ := hSw; go_simp
    try simp only [sA, sB, sC]
    refine tj 2 51 (.pointer (some ⟨w.heap.size, 1, none⟩)) HS0.out rfl rfl ?_
    try simp only [sA, sB, sC]
    refine tS 3 52 (.string sn) [4, 6, 10, 16, 28] HS0.out rfl rfl ?_ ?_
    · intro w2 hSw; obtain ⟨g0, g1, g2, g3⟩ := hSw; go_simp
    try simp only [sA, sB, sC]
    refine wpAnyL_ready (rs := [4]) (by kernel_rfl) (by simp) ?_
    refine AllReadyL.cons rfl (fun K hK => ?_) AllReadyL.nil
    go_simp
    refine (HN.out X0).mono ?_
    rintro e X1 ⟨rfl, hx1⟩
    have HT1 := Lib.hid (WS.below HT4.out hx1 (fun h => h))
    clear hx1
    refine hK.out _ _ (SO.out _ HT1.out) (fun hHeld => ?_)
    have HS1 := Lib.hid hHeld
    clear hK K hHeld
    try simp only [sA, sB, sC]
    refine tj 5 54 (.bool false) HS1.out rfl rfl ?_
    try simp only [sA, sB, sC]
    refine tj 6 55 (.bool false) HS1.out rfl rfl ?_
    try simp only [sA, sB, sC]
    refine tj 7 56 (.pointer (some ⟨W1.heap.size, 0, none⟩)) HS1.out rfl rfl ?_
    try simp only [sA, sB, sC]
    refine tS 8 57 (.bool false) [9, 10, 16, 28] HS1.out rfl rfl ?_ ?_
    · intro w2 hSw; obtain ⟨g0, g1, g2, g3⟩ := hSw; go_simp
    try simp only [sA, sB, sC]
    refine tj 9 58 (.bool true) HS1.out rfl rfl ?_
    try simp only [sA, sB, sC]
    refine tj 10 59 (.bool true) HS1.out rfl rfl ?_
    try simp only [sA, sB, sC]
    refine tj 11 60 (.pointer (some ⟨w.heap.size, 1, none⟩)) HS1.out rfl rfl ?_
    try simp only [sA, sB, sC]
    refine tS 12 61 (.string sn) [13, 14, 15, 16, 28] HS1.out rfl rfl ?_ ?_
    · intro w2 hSw; obtain ⟨g0, g1, g2, g3⟩ := hSw; go_simp
    try simp only [sA, sB, sC]
    refine tj 13 62 (.bool false) HS1.out rfl rfl ?_
    try simp only [sA, sB, sC]
    refine tj 14 63 (.bool false) HS1.out rfl rfl ?_
    try simp only [sA, sB, sC]
    refine tj 15 64 (.bool false) HS1.out rfl rfl ?_
    try simp only [sA, sB, sC]
    refine tj 16 65 (.bool false) HS1.out rfl rfl ?_
    try simp only [sA, sB, sC]
    refine tj 17 66 (.pointer (some ⟨w.heap.size, 0, none⟩)) HS1.out rfl rfl ?_
    try simp only [sA, sB, sC]
    refine tS 18 67 (.int .i64 k) [19, 20, 27, 28] HS1.out rfl rfl ?_ ?_
    · intro w2 hSw; obtain ⟨g0, g1, g2, g3⟩ := hSw; go_simp
    try simp only [sA, sB, sC]
    refine tj 19 68 (.bool false) HS1.out rfl rfl ?_
    try simp only [sA, sB, sC]
    refine tj 20 69 (.bool false) HS1.out rfl rfl ?_
    try simp only [sA, sB, sC]
    refine tN 21 70 HS1.out rfl rfl ?_
    try simp only [sA, sB, sC]
    refine tN 22 71 HS1.out rfl rfl ?_
    try simp only [sA, sB, sC]
    refine tN 23 72 HS1.out rfl rfl ?_
    try simp only [sA, sB, sC]
    refine tN 24 73 HS1.out rfl rfl ?_
    try simp only [sA, sB, sC]
    refine tN 25 74 HS1.out rfl rfl ?_
    try simp only [sA, sB, sC]
    refine tN 26 75 HS1.out rfl rfl ?_
    try simp only [sA, sB, sC]
    refine tj 27 76 (.bool false) HS1.out rfl rfl ?_
    try simp only [sA, sB, sC]
    refine wpAnyL_ready (rs := [28]) (by kernel_rfl) (by simp) ?_
    refine AllReadyL.last rfl (by kernel_rfl) (fun K hK => ?_)
    go_simp
    refine hK.out _ _ ?_
    clear hK K
    try simp only [sA, sB, sC]
    refine wpAnyL_done (by kernel_rfl) ?_ _
    have hG := HT1.out.1
    have b2 : X1.cell? ⟨w.heap.size, 2, none⟩ = some (.slice Aa na ca) := hG.cell 2
    have b3 : X1.cell? ⟨w.heap.size, 3, none⟩ = some (.slice At 0 ct) := hG.cell 3
    have b4 : X1.cell? ⟨w.heap.size, 4, none⟩ = some (.slice Ae 0 ce) := hG.cell 4
    have HG := Lib.hid hG
    have hlt : w.heap.size < X1.heap.size := hG.lt
    have HB := Lib.hid HT1.out.2.2.1
    clear hG HT1 HT4 HS0 HS1 SO
    cases bA with
    | false =>
      have HA2 : Hid (∀ X, Below w.heap.size w X → Calls Tryz.prog 88 #[.slice Aa na ca, .func (.func 89) #[] #[]] X fun r w' => r = .returned (.bool true) ∧ Below X.heap.size X w') := Lib.hid (fun X hx => HA.out X hx)
      clear HA
      go_wp2_with (go_at_call 88; refine (HA2.out X1 HB.out).mono ?_; rintro r w' ⟨rfl, hb⟩)
      go_ret
      exact ⟨congrArg (fun b => Ending.returned (Value.bool b)) HR.out.symm, HB.out.trans (hb.mono HB.out.size)⟩
    | true =>
      have HA2 : Hid (∀ X, Below w.heap.size w X → Calls Tryz.prog 88 #[.slice Aa na ca, .func (.func 89) #[] #[]] X fun r w' => r = .returned (.bool false) ∧ Below X.heap.size X w') := Lib.hid (fun X hx => HA.out X hx)
      clear HA
      have HTOK : Hid True := Lib.hid trivial
      cases bT with
      | false =>
        go_wp2_with (first | (go_at_call 88; refine (HA2.out X1 HB.out).mono ?_; rintro r X2 ⟨rfl, hb⟩; have c3 := (hb.cell (p := ⟨w.heap.size, 3, none⟩) hlt).trans b3; have c4 := (hb.cell (p := ⟨w.heap.size, 4, none⟩) hlt).trans b4; have hlt2 : w.heap.size < X2.heap.size := Nat.lt_of_lt_of_le hlt hb.size; have HB2 := Lib.hid (HB.out.trans (hb.mono HB.out.size)); have _t := HTOK; clear hb) | (go_at_call 44; refine (HTT.out X2 HB2.out).mono ?_; rintro r w' ⟨rfl, hb⟩))
        go_ret
        exact ⟨congrArg (fun b => Ending.returned (Value.bool b)) HR.out.symm, HB2.out.trans (hb.mono HB2.out.size)⟩
      | true =>
        go_wp2_with (first | (go_at_call 88; refine (HA2.out X1 HB.out).mono ?_; rintro r X2 ⟨rfl, hb⟩; have c3 := (hb.cell (p := ⟨w.heap.size, 3, none⟩) hlt).trans b3; have c4 := (hb.cell (p := ⟨w.heap.size, 4, none⟩) hlt).trans b4; have hlt2 : w.heap.size < X2.heap.size := Nat.lt_of_lt_of_le hlt hb.size; have HB2 := Lib.hid (HB.out.trans (hb.mono HB.out.size)); have _t := HTOK; clear hb) | (have _u := _t.out; clear _u; go_at_call 44; refine (HTT.out X2 HB2.out).mono ?_; clear _t; rintro r X3 ⟨rfl, hb⟩; have c5 := (hb.cell (p := ⟨w.heap.size, 4, none⟩) hlt2).trans c4; have HB4 := Lib.hid (HB2.out.trans (hb.mono HB2.out.size)); clear hb) | (go_at_call 44; refine (HE.out X3 HB4.out).mono ?_; rintro r w' ⟨rfl, hb⟩))
        go_ret
        exact ⟨congrArg (fun b => Ending.returned (Value.bool b)) HR.out.symm, HB4.out.trans (hb.mono HB4.out.size)⟩
set_option maxRecDepth 100000 in
set_option maxHeartbeats 4000000 in
theorem stmt_call (sn : ByteArray) (na nt me : Nat) (m : Nat) (At Ae : Option Addr) (ca ct ce : Nat) (w : World) (bA bT bE b0 : Bool) (hm : m ≤ 1000) (ab ao : Nat) (k0 : Int) (hab : ab < w.heap.size) (hk0 : na = 1 → w.cell? ⟨ab, ao, none⟩ = some (.int .i64 k0)) (h0 : b0 = (decide ((na : Int) = 1) && (false || decide (nt = 0)) && (false || decide (me = 0)) && (false == nameB sn) && (false || decide (sn = ⟨#[]⟩)) && decide (k0 = 5) && bA && bT && bE))
    (hf : ∀ X, Calls Tryz.prog 87 #[.int .i64 10] X fun r w' => r = .returned (.tuple #[.agg #[.bool false, .int .i64 1, .bool false, .bool false], .bool true]) ∧ Below X.heap.size X w')
    (hA : ∀ X, Below w.heap.size w X → Calls Tryz.prog 88 #[.slice (some ⟨ab, ao, none⟩) na ca, .func (.func 89) #[] #[]] X fun r w' => r = .returned (.bool (!bA)) ∧ Below X.heap.size X w')
    (hT : ∀ X, Below w.heap.size w X → Calls Tryz.prog 44 #[.slice At nt ct, .int .i64 (m : Int)] X fun r w' => r = .returned (.bool bT) ∧ Below X.heap.size X w')
    (hE : ∀ X, Below w.heap.size w X → Calls Tryz.prog 44 #[.slice Ae me ce, .int .i64 (m : Int)] X fun r w' => r = .returned (.bool bE) ∧ Below X.heap.size X w') :
    Calls Tryz.prog 65 #[.agg #[.int .i64 10, .string sn, .slice (some ⟨ab, ao, none⟩) na ca, .slice At nt ct, .slice Ae me ce], .int .i64 ((m : Int) + 1)] w fun r w' => r = .returned (.bool b0) ∧ Below w.heap.size w w' := by
  have HF := Lib.hid hf
  have HB0 := Lib.hid h0
  have HA := Lib.hid hA
  have HTT := Lib.hid hT
  have HE := Lib.hid hE
  have HK0 := Lib.hid hk0
  have HAB := Lib.hid hab
  clear hf hA hT hE h0 hk0 hab
  go_enter Tryz.func65, Tryz.ntmps65
  go_upto_region 1 with fail
  refine wp_world ?_
  intro W hW
  have hG : Blk W w.heap.size 45 #[.int .i64 10, .string sn, .slice (some ⟨ab, ao, none⟩) na ca, .slice At nt ct, .slice Ae me ce] := by rw [← hW]; exact Blk.new _ _ _
  have hB : Below w.heap.size w W := by rw [← hW]; exact below1 _ _
  have a0 : W.cell? ⟨w.heap.size, 0, none⟩ = some (.int .i64 10) := hG.cell 0
  have hlt : w.heap.size < W.heap.size := hG.lt
  have HG := Lib.hid hG
  have HB := Lib.hid hB
  clear hW hG hB
  go_upto_region 2 with (go_at_call 87; refine (HF.out W).mono ?_; rintro r W1 ⟨rfl, hb1⟩; have HB1 := Lib.hid hb1; clear hb1)
  refine wp_world ?_
  intro W3 hW3
  have hX : Blk W3 W1.heap.size 119 #[.bool false, .int .i64 1, .bool false, .bool false] := by rw [← hW3]; exact Blk.new_at _ _ _ rfl
  have hG : Blk W3 w.heap.size 45 #[.int .i64 10, .string sn, .slice (some ⟨ab, ao, none⟩) na ca, .slice At nt ct, .slice Ae me ce] := by rw [← hW3]; exact (HG.out.below HB1.out hlt).alloc _
  have hB : Below w.heap.size w W3 := by rw [← hW3]; exact (HB.out.trans (HB1.out.mono HB.out.size)).alloc (Nat.le_trans HB.out.size HB1.out.size) _
  clear a0
  have b2 : W3.cell? ⟨w.heap.size, 2, none⟩ = some (.slice (some ⟨ab, ao, none⟩) na ca) := hG.cell 2
  have b3 : W3.cell? ⟨w.heap.size, 3, none⟩ = some (.slice At nt ct) := hG.cell 3
  have b4 : W3.cell? ⟨w.heap.size, 4, none⟩ = some (.slice Ae me ce) := hG.cell 4
  have x0 : W3.cell? ⟨W1.heap.size, 0, none⟩ = some (.bool false) := hX.cell 0
  have x1 : W3.cell? ⟨W1.heap.size, 1, none⟩ = some (.int .i64 1) := hX.cell 1
  have x2 : W3.cell? ⟨W1.heap.size, 2, none⟩ = some (.bool false) := hX.cell 2
  have x3 : W3.cell? ⟨W1.heap.size, 3, none⟩ = some (.bool false) := hX.cell 3
  have HB3 := Lib.hid hB
  have HX3 := Lib.hid hX
  have HG3 := Lib.hid hG
  clear hW3 hX hG hB hlt HB HB1 HG
  have dm : (((m : Int) + 1) == 0) = false := by rw [beq_dec]; exact decide_eq_false (by omega)
  by_cases hl : (na : Int) = 1
  case neg =>
    have l1 : ((na : Int) == 1) = false := by rw [beq_dec]; exact decide_eq_false hl
    have l2 : ((na : Int) != 1) = true := by rw [bne, l1]; rfl
    have HR : Hid (b0 = false) := Lib.hid (by rw [HB0.out]; simp [hl])
    clear hl
    go_wp2
    go_ret
    exact ⟨congrArg (fun b => Ending.returned (Value.bool b)) HR.out.symm, HB3.out⟩
  have l1 : ((na : Int) == 1) = true := by rw [beq_dec]; exact decide_eq_true hl
  have l2 : ((na : Int) != 1) = false := by rw [bne, l1]; rfl
  have HL := Lib.hid hl
  clear hl
  rcases Nat.eq_zero_or_pos nt with ht | ht
  case inr =>
    have d1 : decide ((nt : Int) > 0) = true := decide_eq_true (by omega)
    have d2 : decide (0 < (nt : Int)) = true := decide_eq_true (by omega)
    have HR : Hid (b0 = false) := Lib.hid (by rw [HB0.out]; have h0 : ¬ nt = 0 := (by omega); simp [h0])
    go_wp2
    go_ret
    exact ⟨congrArg (fun b => Ending.returned (Value.bool b)) HR.out.symm, HB3.out⟩
  subst ht
  rcases Nat.eq_zero_or_pos me with he | he
  case inr =>
    have d1 : decide ((me : Int) > 0) = true := decide_eq_true (by omega)
    have d2 : decide (0 < (me : Int)) = true := decide_eq_true (by omega)
    have HR : Hid (b0 = false) := Lib.hid (by rw [HB0.out]; have h0 : ¬ me = 0 := (by omega); simp [h0])
    go_wp2
    go_ret
    exact ⟨congrArg (fun b => Ending.returned (Value.bool b)) HR.out.symm, HB3.out⟩
  subst he
  go_upto_region 4 with fail
  clear dm l1 l2 b2 b3 b4 x0 x1 x2 x3
  have HT3 : Hid ((fun X => (WS sn X w.heap.size W1.heap.size (10) (some ⟨ab, ao, none⟩) na ca At 0 ct Ae 0 ce #[.bool false, .int .i64 1, .bool false, .bool false] w (X.cell? ⟨ab, ao, none⟩ = some (.int .i64 k0)))) W3) := Lib.hid ⟨HG3.out, HX3.out, HB3.out, HX3.out.lt, (HB3.out.cell (p := ⟨ab, ao, none⟩) HAB.out).trans (HK0.out (by have := HL.out; omega))⟩
  clear HG3 HX3 HB3
  cases hn : nameB sn with
  | true =>
    have HN : Hid (∀ X, Calls Tryz.prog 62 #[.string sn] X fun e w' => e = .returned (.bool true) ∧ Below X.heap.size X w') := Lib.hid (fun X => by have := name_any sn X; rw [hn] at this; exact this)
    have HR : Hid (b0 = false) := Lib.hid (by rw [HB0.out]; simp [hn])
    have ln : na = 1 := by have := HL.out; omega
    clear hn
    have SO : Hid (∀ X, (fun X => (WS sn X w.heap.size W1.heap.size (10) (some ⟨ab, ao, none⟩) na ca At 0 ct Ae 0 ce #[.bool false, .int .i64 1, .bool false, .bool false] w (X.cell? ⟨ab, ao, none⟩ = some (.int .i64 k0)))) X → (fun X => X.cell? ⟨w.heap.size, 0, none⟩ = some (.int .i64 10) ∧ X.cell? ⟨w.heap.size, 1, none⟩ = some (.string sn) ∧ X.cell? ⟨w.heap.size, 2, none⟩ = some (.slice (some ⟨ab, ao, none⟩) na ca) ∧ X.cell? ⟨W1.heap.size, 0, none⟩ = some (.bool false) ∧ X.cell? ⟨ab, ao, none⟩ = some (.int .i64 k0)) X) := Lib.hid (fun X hb => ⟨hb.1.cell 0, hb.1.cell 1, hb.1.cell 2, hb.2.1.cell 0, hb.2.2.2.2⟩)
    refine wp_region_L (by kernel_rfl) 28 (fun X => X.cell? ⟨w.heap.size, 0, none⟩ = some (.int .i64 10) ∧ X.cell? ⟨w.heap.size, 1, none⟩ = some (.string sn) ∧ X.cell? ⟨w.heap.size, 2, none⟩ = some (.slice (some ⟨ab, ao, none⟩) na ca) ∧ X.cell? ⟨W1.heap.size, 0, none⟩ = some (.bool false) ∧ X.cell? ⟨ab, ao, none⟩ = some (.int .i64 k0)) (SO.out _ (WS.drew HT3.out)) (fun hHeld => ?_)
    have HS0 := Lib.hid hHeld
    clear hHeld
    change wpAnyL _ _ _ _ _ 28 29 (Array.replicate 29 false) _ _
    obtain ⟨X0, hX0⟩ : ∃ X0, W3.drew = X0 := ⟨_, rfl⟩
    have HT4 : Hid ((fun X => (WS sn X w.heap.size W1.heap.size (10) (some ⟨ab, ao, none⟩) na ca At 0 ct Ae 0 ce #[.bool false, .int .i64 1, .bool false, .bool false] w (X.cell? ⟨ab, ao, none⟩ = some (.int .i64 k0)))) W3.drew) := Lib.hid (WS.drew HT3.out)
    rw [hX0] at HT4 HS0 ⊢
    clear hX0 HT3 W3
    refine tj 0 49 (.pointer (some ⟨W1.heap.size, 0, none⟩)) HS0.out rfl rfl ?_
    try simp only [sA, sB, sC]
    refine tS 1 50 (.bool false) [5, 6, 10, 16, 28] HS0.out rfl rfl ?_ ?_
    · intro w2 hSw; obtain ⟨g0, g1, g2, g3, g4⟩ := hSw; go_simp
    try simp only [sA, sB, sC]
    refine tj 2 51 (.pointer (some ⟨w.heap.size, 1, none⟩)) HS0.out rfl rfl ?_
    try simp only [sA, sB, sC]
    refine tS 3 52 (.string sn) [4, 6, 10, 16, 28] HS0.out rfl rfl ?_ ?_
    · intro w2 hSw; obtain ⟨g0, g1, g2, g3, g4⟩ := hSw; go_simp
    try simp only [sA, sB, sC]
    refine wpAnyL_ready (rs := [4]) (by kernel_rfl) (by simp) ?_
    refine AllReadyL.cons rfl (fun K hK => ?_) AllReadyL.nil
    go_simp
    refine (HN.out X0).mono ?_
    rintro e X1 ⟨rfl, hx1⟩
    have HT1 := Lib.hid (WS.below HT4.out hx1 (fun h => (hx1.cell (p := ⟨ab, ao, none⟩) (Nat.lt_of_lt_of_le HAB.out HT4.out.2.2.1.size)).trans h))
    clear hx1
    refine hK.out _ _ (SO.out _ HT1.out) (fun hHeld => ?_)
    have HS1 := Lib.hid hHeld
    clear hK K hHeld
    try simp only [sA, sB, sC]
    refine tj 5 54 (.bool true) HS1.out rfl rfl ?_
    try simp only [sA, sB, sC]
    refine tj 6 55 (.bool true) HS1.out rfl rfl ?_
    try simp only [sA, sB, sC]
    refine tN 7 56 HS1.out rfl rfl ?_
    try simp only [sA, sB, sC]
    refine tN 8 57 HS1.out rfl rfl ?_
    try simp only [sA, sB, sC]
    refine tN 9 58 HS1.out rfl rfl ?_
    try simp only [sA, sB, sC]
    refine tN 10 59 HS1.out rfl rfl ?_
    try simp only [sA, sB, sC]
    refine tN 11 60 HS1.out rfl rfl ?_
    try simp only [sA, sB, sC]
    refine tN 12 61 HS1.out rfl rfl ?_
    try simp only [sA, sB, sC]
    refine tN 13 62 HS1.out rfl rfl ?_
    try simp only [sA, sB, sC]
    refine tN 14 63 HS1.out rfl rfl ?_
    try simp only [sA, sB, sC]
    refine tj 15 64 (.bool true) HS1.out rfl rfl ?_
    try simp only [sA, sB, sC]
    refine tj 16 65 (.bool true) HS1.out rfl rfl ?_
    try simp only [sA, sB, sC]
    refine tN 17 66 HS1.out rfl rfl ?_
    try simp only [sA, sB, sC]
    refine tN 18 67 HS1.out rfl rfl ?_
    try simp only [sA, sB, sC]
    refine tN 19 68 HS1.out rfl rfl ?_
    try simp only [sA, sB, sC]
    refine tN 20 69 HS1.out rfl rfl ?_
    try simp only [sA, sB, sC]
    refine tN 21 70 HS1.out rfl rfl ?_
    try simp only [sA, sB, sC]
    refine tN 22 71 HS1.out rfl rfl ?_
    try simp only [sA, sB, sC]
    refine tN 23 72 HS1.out rfl rfl ?_
    try simp only [sA, sB, sC]
    refine tN 24 73 HS1.out rfl rfl ?_
    try simp only [sA, sB, sC]
    refine tN 25 74 HS1.out rfl rfl ?_
    try simp only [sA, sB, sC]
    refine tN 26 75 HS1.out rfl rfl ?_
    try simp only [sA, sB, sC]
    refine tN 27 76 HS1.out rfl rfl ?_
    try simp only [sA, sB, sC]
    refine wpAnyL_ready (rs := [28]) (by kernel_rfl) (by simp) ?_
    refine AllReadyL.last rfl (by kernel_rfl) (fun K hK => ?_)
    go_simp
    refine hK.out _ _ ?_
    clear hK K
    try simp only [sA, sB, sC]
    refine wpAnyL_done (by kernel_rfl) ?_ _
    go_wp2
    go_ret
    exact ⟨congrArg (fun b => Ending.returned (Value.bool b)) HR.out.symm, HT1.out.2.2.1⟩
  | false =>
    by_cases he : sn = ⟨#[]⟩
    case neg =>
      have HN : Hid (∀ X, Calls Tryz.prog 62 #[.string sn] X fun e w' => e = .returned (.bool false) ∧ Below X.heap.size X w') := Lib.hid (fun X => by have := name_any sn X; rw [hn] at this; exact this)
      have HR : Hid (b0 = false) := Lib.hid (by rw [HB0.out]; simp [hn, he])
      have e1 : (sn.toList == []) = false := by have h := tl_beq sn ⟨#[]⟩; rw [tl_nil] at h; rw [h]; exact decide_eq_false he
      have e2 : (sn.toList != []) = true := by rw [bne, e1]; rfl
      have e3 : sn.toList.isEmpty = false := by cases h : sn.toList with | nil => rw [h] at e1; cases e1 | cons _ _ => rfl
      have ln : na = 1 := by have := HL.out; omega
      clear hn he
      have SO : Hid (∀ X, (fun X => (WS sn X w.heap.size W1.heap.size (10) (some ⟨ab, ao, none⟩) na ca At 0 ct Ae 0 ce #[.bool false, .int .i64 1, .bool false, .bool false] w (X.cell? ⟨ab, ao, none⟩ = some (.int .i64 k0)))) X → (fun X => X.cell? ⟨w.heap.size, 0, none⟩ = some (.int .i64 10) ∧ X.cell? ⟨w.heap.size, 1, none⟩ = some (.string sn) ∧ X.cell? ⟨w.heap.size, 2, none⟩ = some (.slice (some ⟨ab, ao, none⟩) na ca) ∧ X.cell? ⟨W1.heap.size, 0, none⟩ = some (.bool false) ∧ X.cell? ⟨ab, ao, none⟩ = some (.int .i64 k0)) X) := Lib.hid (fun X hb => ⟨hb.1.cell 0, hb.1.cell 1, hb.1.cell 2, hb.2.1.cell 0, hb.2.2.2.2⟩)
      refine wp_region_L (by kernel_rfl) 28 (fun X => X.cell? ⟨w.heap.size, 0, none⟩ = some (.int .i64 10) ∧ X.cell? ⟨w.heap.size, 1, none⟩ = some (.string sn) ∧ X.cell? ⟨w.heap.size, 2, none⟩ = some (.slice (some ⟨ab, ao, none⟩) na ca) ∧ X.cell? ⟨W1.heap.size, 0, none⟩ = some (.bool false) ∧ X.cell? ⟨ab, ao, none⟩ = some (.int .i64 k0)) (SO.out _ (WS.drew HT3.out)) (fun hHeld => ?_)
      have HS0 := Lib.hid hHeld
      clear hHeld
      change wpAnyL _ _ _ _ _ 28 29 (Array.replicate 29 false) _ _
      obtain ⟨X0, hX0⟩ : ∃ X0, W3.drew = X0 := ⟨_, rfl⟩
      have HT4 : Hid ((fun X => (WS sn X w.heap.size W1.heap.size (10) (some ⟨ab, ao, none⟩) na ca At 0 ct Ae 0 ce #[.bool false, .int .i64 1, .bool false, .bool false] w (X.cell? ⟨ab, ao, none⟩ = some (.int .i64 k0)))) W3.drew) := Lib.hid (WS.drew HT3.out)
      rw [hX0] at HT4 HS0 ⊢
      clear hX0 HT3 W3
      refine tj 0 49 (.pointer (some ⟨W1.heap.size, 0, none⟩)) HS0.out rfl rfl ?_
      try simp only [sA, sB, sC]
      refine tS 1 50 (.bool false) [5, 6, 10, 16, 28] HS0.out rfl rfl ?_ ?_
      · intro w2 hSw; obtain ⟨g0, g1, g2, g3, g4⟩ := hSw; go_simp
      try simp only [sA, sB, sC]
      refine tj 2 51 (.pointer (some ⟨w.heap.size, 1, none⟩)) HS0.out rfl rfl ?_
      try simp only [sA, sB, sC]
      refine tS 3 52 (.string sn) [4, 6, 10, 16, 28] HS0.out rfl rfl ?_ ?_
      · intro w2 hSw; obtain ⟨g0, g1, g2, g3, g4⟩ := hSw; go_simp
      try simp only [sA, sB, sC]
      refine wpAnyL_ready (rs := [4]) (by kernel_rfl) (by simp) ?_
      refine AllReadyL.cons rfl (fun K hK => ?_) AllReadyL.nil
      go_simp
      refine (HN.out X0).mono ?_
      rintro e X1 ⟨rfl, hx1⟩
      have HT1 := Lib.hid (WS.below HT4.out hx1 (fun h => (hx1.cell (p := ⟨ab, ao, none⟩) (Nat.lt_of_lt_of_le HAB.out HT4.out.2.2.1.size)).trans h))
      clear hx1
      refine hK.out _ _ (SO.out _ HT1.out) (fun hHeld => ?_)
      have HS1 := Lib.hid hHeld
      clear hK K hHeld
      try simp only [sA, sB, sC]
      refine tj 5 54 (.bool false) HS1.out rfl rfl ?_
      try simp only [sA, sB, sC]
      refine tj 6 55 (.bool false) HS1.out rfl rfl ?_
      try simp only [sA, sB, sC]
      refine tj 7 56 (.pointer (some ⟨W1.heap.size, 0, none⟩)) HS1.out rfl rfl ?_
      try simp only [sA, sB, sC]
      refine tS 8 57 (.bool false) [9, 10, 16, 28] HS1.out rfl rfl ?_ ?_
      · intro w2 hSw; obtain ⟨g0, g1, g2, g3, g4⟩ := hSw; go_simp
      try simp only [sA, sB, sC]
      refine tj 9 58 (.bool true) HS1.out rfl rfl ?_
      try simp only [sA, sB, sC]
      refine tj 10 59 (.bool true) HS1.out rfl rfl ?_
      try simp only [sA, sB, sC]
      refine tj 11 60 (.pointer (some ⟨w.heap.size, 1, none⟩)) HS1.out rfl rfl ?_
      try simp only [sA, sB, sC]
      refine tS 12 61 (.string sn) [13, 14, 15, 16, 28] HS1.out rfl rfl ?_ ?_
      · intro w2 hSw; obtain ⟨g0, g1, g2, g3, g4⟩ := hSw; go_simp
      try simp only [sA, sB, sC]
      refine tj 13 62 (.bool true) HS1.out rfl rfl ?_
      try simp only [sA, sB, sC]
      refine tj 14 63 (.bool true) HS1.out rfl rfl ?_
      try simp only [sA, sB, sC]
      refine tj 15 64 (.bool true) HS1.out rfl rfl ?_
      try simp only [sA, sB, sC]
      refine tj 16 65 (.bool true) HS1.out rfl rfl ?_
      try simp only [sA, sB, sC]
      refine tN 17 66 HS1.out rfl rfl ?_
      try simp only [sA, sB, sC]
      refine tN 18 67 HS1.out rfl rfl ?_
      try simp only [sA, sB, sC]
      refine tN 19 68 HS1.out rfl rfl ?_
      try simp only [sA, sB, sC]
      refine tN 20 69 HS1.out rfl rfl ?_
      try simp only [sA, sB, sC]
      refine tN 21 70 HS1.out rfl rfl ?_
      try simp only [sA, sB, sC]
      refine tN 22 71 HS1.out rfl rfl ?_
      try simp only [sA, sB, sC]
      refine tN 23 72 HS1.out rfl rfl ?_
      try simp only [sA, sB, sC]
      refine tN 24 73 HS1.out rfl rfl ?_
      try simp only [sA, sB, sC]
      refine tN 25 74 HS1.out rfl rfl ?_
      try simp only [sA, sB, sC]
      refine tN 26 75 HS1.out rfl rfl ?_
      try simp only [sA, sB, sC]
      refine tN 27 76 HS1.out rfl rfl ?_
      try simp only [sA, sB, sC]
      refine wpAnyL_ready (rs := [28]) (by kernel_rfl) (by simp) ?_
      refine AllReadyL.last rfl (by kernel_rfl) (fun K hK => ?_)
      go_simp
      refine hK.out _ _ ?_
      clear hK K
      try simp only [sA, sB, sC]
      refine wpAnyL_done (by kernel_rfl) ?_ _
      go_wp2
      go_ret
      exact ⟨congrArg (fun b => Ending.returned (Value.bool b)) HR.out.symm, HT1.out.2.2.1⟩
    by_cases h5 : k0 = 5
    case neg =>
      have HN : Hid (∀ X, Calls Tryz.prog 62 #[.string sn] X fun e w' => e = .returned (.bool false) ∧ Below X.heap.size X w') := Lib.hid (fun X => by have := name_any sn X; rw [hn] at this; exact this)
      have HR : Hid (b0 = false) := Lib.hid (by rw [HB0.out]; simp [he, h5])
      have e1 : (sn.toList == []) = true := by have h := tl_beq sn ⟨#[]⟩; rw [tl_nil] at h; rw [h]; exact decide_eq_true he
      have e2 : (sn.toList != []) = false := by rw [bne, e1]; rfl
      have e3 : sn.toList.isEmpty = true := by rw [he, tl_nil]; rfl
      have k1 : (k0 == 5) = false := by rw [beq_dec]; exact decide_eq_false h5
      have k2 : (k0 != 5) = true := by rw [bne, k1]; rfl
      have ln : na = 1 := by have := HL.out; omega
      clear hn he h5
      have SO : Hid (∀ X, (fun X => (WS sn X w.heap.size W1.heap.size (10) (some ⟨ab, ao, none⟩) na ca At 0 ct Ae 0 ce #[.bool false, .int .i64 1, .bool false, .bool false] w (X.cell? ⟨ab, ao, none⟩ = some (.int .i64 k0)))) X → (fun X => X.cell? ⟨w.heap.size, 0, none⟩ = some (.int .i64 10) ∧ X.cell? ⟨w.heap.size, 1, none⟩ = some (.string sn) ∧ X.cell? ⟨w.heap.size, 2, none⟩ = some (.slice (some ⟨ab, ao, none⟩) na ca) ∧ X.cell? ⟨W1.heap.size, 0, none⟩ = some (.bool false) ∧ X.cell? ⟨ab, ao, none⟩ = some (.int .i64 k0)) X) := Lib.hid (fun X hb => ⟨hb.1.cell 0, hb.1.cell 1, hb.1.cell 2, hb.2.1.cell 0, hb.2.2.2.2⟩)
      refine wp_region_L (by kernel_rfl) 28 (fun X => X.cell? ⟨w.heap.size, 0, none⟩ = some (.int .i64 10) ∧ X.cell? ⟨w.heap.size, 1, none⟩ = some (.string sn) ∧ X.cell? ⟨w.heap.size, 2, none⟩ = some (.slice (some ⟨ab, ao, none⟩) na ca) ∧ X.cell? ⟨W1.heap.size, 0, none⟩ = some (.bool false) ∧ X.cell? ⟨ab, ao, none⟩ = some (.int .i64 k0)) (SO.out _ (WS.drew HT3.out)) (fun hHeld => ?_)
      have HS0 := Lib.hid hHeld
      clear hHeld
      change wpAnyL _ _ _ _ _ 28 29 (Array.replicate 29 false) _ _
      obtain ⟨X0, hX0⟩ : ∃ X0, W3.drew = X0 := ⟨_, rfl⟩
      have HT4 : Hid ((fun X => (WS sn X w.heap.size W1.heap.size (10) (some ⟨ab, ao, none⟩) na ca At 0 ct Ae 0 ce #[.bool false, .int .i64 1, .bool false, .bool false] w (X.cell? ⟨ab, ao, none⟩ = some (.int .i64 k0)))) W3.drew) := Lib.hid (WS.drew HT3.out)
      rw [hX0] at HT4 HS0 ⊢
      clear hX0 HT3 W3
      refine tj 0 49 (.pointer (some ⟨W1.heap.size, 0, none⟩)) HS0.out rfl rfl ?_
      try simp only [sA, sB, sC]
      refine tS 1 50 (.bool false) [5, 6, 10, 16, 28] HS0.out rfl rfl ?_ ?_
      · intro w2 hSw; obtain ⟨g0, g1, g2, g3, g4⟩ := hSw; go_simp
      try simp only [sA, sB, sC]
      refine tj 2 51 (.pointer (some ⟨w.heap.size, 1, none⟩)) HS0.out rfl rfl ?_
      try simp only [sA, sB, sC]
      refine tS 3 52 (.string sn) [4, 6, 10, 16, 28] HS0.out rfl rfl ?_ ?_
      · intro w2 hSw; obtain ⟨g0, g1, g2, g3, g4⟩ := hSw; go_simp
      try simp only [sA, sB, sC]
      refine wpAnyL_ready (rs := [4]) (by kernel_rfl) (by simp) ?_
      refine AllReadyL.cons rfl (fun K hK => ?_) AllReadyL.nil
      go_simp
      refine (HN.out X0).mono ?_
      rintro e X1 ⟨rfl, hx1⟩
      have HT1 := Lib.hid (WS.below HT4.out hx1 (fun h => (hx1.cell (p := ⟨ab, ao, none⟩) (Nat.lt_of_lt_of_le HAB.out HT4.out.2.2.1.size)).trans h))
      clear hx1
      refine hK.out _ _ (SO.out _ HT1.out) (fun hHeld => ?_)
      have HS1 := Lib.hid hHeld
      clear hK K hHeld
      try simp only [sA, sB, sC]
      refine tj 5 54 (.bool false) HS1.out rfl rfl ?_
      try simp only [sA, sB, sC]
      refine tj 6 55 (.bool false) HS1.out rfl rfl ?_
      try simp only [sA, sB, sC]
      refine tj 7 56 (.pointer (some ⟨W1.heap.size, 0, none⟩)) HS1.out rfl rfl ?_
      try simp only [sA, sB, sC]
      refine tS 8 57 (.bool false) [9, 10, 16, 28] HS1.out rfl rfl ?_ ?_
      · intro w2 hSw; obtain ⟨g0, g1, g2, g3, g4⟩ := hSw; go_simp
      try simp only [sA, sB, sC]
      refine tj 9 58 (.bool true) HS1.out rfl rfl ?_
      try simp only [sA, sB, sC]
      refine tj 10 59 (.bool true) HS1.out rfl rfl ?_
      try simp only [sA, sB, sC]
      refine tj 11 60 (.pointer (some ⟨w.heap.size, 1, none⟩)) HS1.out rfl rfl ?_
      try simp only [sA, sB, sC]
      refine tS 12 61 (.string sn) [13, 14, 15, 16, 28] HS1.out rfl rfl ?_ ?_
      · intro w2 hSw; obtain ⟨g0, g1, g2, g3, g4⟩ := hSw; go_simp
      try simp only [sA, sB, sC]
      refine tj 13 62 (.bool false) HS1.out rfl rfl ?_
      try simp only [sA, sB, sC]
      refine tj 14 63 (.bool false) HS1.out rfl rfl ?_
      try simp only [sA, sB, sC]
      refine tj 15 64 (.bool false) HS1.out rfl rfl ?_
      try simp only [sA, sB, sC]
      refine tj 16 65 (.bool false) HS1.out rfl rfl ?_
      try simp only [sA, sB, sC]
      refine tj 17 66 (.pointer (some ⟨w.heap.size, 0, none⟩)) HS1.out rfl rfl ?_
      try simp only [sA, sB, sC]
      refine tS 18 67 (.int .i64 10) [19, 20, 27, 28] HS1.out rfl rfl ?_ ?_
      · intro w2 hSw; obtain ⟨g0, g1, g2, g3, g4⟩ := hSw; go_simp
      try simp only [sA, sB, sC]
      refine tj 19 68 (.bool true) HS1.out rfl rfl ?_
      try simp only [sA, sB, sC]
      refine tj 20 69 (.bool true) HS1.out rfl rfl ?_
      try simp only [sA, sB, sC]
      refine tj 21 70 (.pointer (some ⟨w.heap.size, 2, none⟩)) HS1.out rfl rfl ?_
      try simp only [sA, sB, sC]
      refine tS 22 71 (.slice (some ⟨ab, ao, none⟩) na ca) [23, 24, 25, 26, 27, 28] HS1.out rfl rfl ?_ ?_
      · intro w2 hSw; obtain ⟨g0, g1, g2, g3, g4⟩ := hSw; go_simp
      try simp only [sA, sB, sC]
      refine tj 23 72 (.pointer (some ⟨ab, ao, none⟩)) HS1.out rfl rfl ?_
      try simp only [sA, sB, sC]
      refine tj 24 73 (.pointer (some ⟨ab, ao, none⟩)) HS1.out rfl rfl ?_
      try simp only [sA, sB, sC]
      refine tS 25 74 (.int .i64 k0) [26, 27, 28] HS1.out rfl rfl ?_ ?_
      · intro w2 hSw; obtain ⟨g0, g1, g2, g3, g4⟩ := hSw; go_simp
      try simp only [sA, sB, sC]
      refine tj 26 75 (.bool true) HS1.out rfl rfl ?_
      try simp only [sA, sB, sC]
      refine tj 27 76 (.bool true) HS1.out rfl rfl ?_
      try simp only [sA, sB, sC]
      refine wpAnyL_ready (rs := [28]) (by kernel_rfl) (by simp) ?_
      refine AllReadyL.last rfl (by kernel_rfl) (fun K hK => ?_)
      go_simp
      refine hK.out _ _ ?_
      clear hK K
      try simp only [sA, sB, sC]
      refine wpAnyL_done (by kernel_rfl) ?_ _
      go_wp2
      go_ret
      exact ⟨congrArg (fun b => Ending.returned (Value.bool b)) HR.out.symm, HT1.out.2.2.1⟩
    have HN : Hid (∀ X, Calls Tryz.prog 62 #[.string sn] X fun e w' => e = .returned (.bool false) ∧ Below X.heap.size X w') := Lib.hid (fun X => by have := name_any sn X; rw [hn] at this; exact this)
    have HR : Hid (b0 = (bA && bT && bE)) := Lib.hid (by rw [HB0.out]; simp [name_empty, HL.out, he, h5])
    have e1 : (sn.toList == []) = true := by have h := tl_beq sn ⟨#[]⟩; rw [tl_nil] at h; rw [h]; exact decide_eq_true he
    have e2 : (sn.toList != []) = false := by rw [bne, e1]; rfl
    have e3 : sn.toList.isEmpty = true := by rw [he, tl_nil]; rfl
    have k1 : (k0 == 5) = true := by rw [beq_dec]; exact decide_eq_true h5
    have k2 : (k0 != 5) = false := by rw [bne, k1]; rfl
    have ln : na = 1 := by have := HL.out; omega
    clear hn he h5
    have SO : Hid (∀ X, (fun X => (WS sn X w.heap.size W1.heap.size (10) (some ⟨ab, ao, none⟩) na ca At 0 ct Ae 0 ce #[.bool false, .int .i64 1, .bool false, .bool false] w (X.cell? ⟨ab, ao, none⟩ = some (.int .i64 k0)))) X → (fun X => X.cell? ⟨w.heap.size, 0, none⟩ = some (.int .i64 10) ∧ X.cell? ⟨w.heap.size, 1, none⟩ = some (.string sn) ∧ X.cell? ⟨w.heap.size, 2, none⟩ = some (.slice (some ⟨ab, ao, none⟩) na ca) ∧ X.cell? ⟨W1.heap.size, 0, none⟩ = some (.bool false) ∧ X.cell? ⟨ab, ao, none⟩ = some (.int .i64 k0)) X) := Lib.hid (fun X hb => ⟨hb.1.cell 0, hb.1.cell 1, hb.1.cell 2, hb.2.1.cell 0, hb.2.2.2.2⟩)
    refine wp_region_L (by kernel_rfl) 28 (fun X => X.cell? ⟨w.heap.size, 0, none⟩ = some (.int .i64 10) ∧ X.cell? ⟨w.heap.size, 1, none⟩ = some (.string sn) ∧ X.cell? ⟨w.heap.size, 2, none⟩ = some (.slice (some ⟨ab, ao, none⟩) na ca) ∧ X.cell? ⟨W1.heap.size, 0, none⟩ = some (.bool false) ∧ X.cell? ⟨ab, ao, none⟩ = some (.int .i64 k0)) (SO.out _ (WS.drew HT3.out)) (fun hHeld => ?_)
    have HS0 := Lib.hid hHeld
    clear hHeld
    change wpAnyL _ _ _ _ _ 28 29 (Array.replicate 29 false) _ _
    obtain ⟨X0, hX0⟩ : ∃ X0, W3.drew = X0 := ⟨_, rfl⟩
    have HT4 : Hid ((fun X => (WS sn X w.heap.size W1.heap.size (10) (some ⟨ab, ao, none⟩) na ca At 0 ct Ae 0 ce #[.bool false, .int .i64 1, .bool false, .bool false] w (X.cell? ⟨ab, ao, none⟩ = some (.int .i64 k0)))) W3.drew) := Lib.hid (WS.drew HT3.out)
    rw [hX0] at HT4 HS0 ⊢
    clear hX0 HT3 W3
    refine tj 0 49 (.pointer (some ⟨W1.heap.size, 0, none⟩)) HS0.out rfl rfl ?_
    try simp only [sA, sB, sC]
    refine tS 1 50 (.bool false) [5, 6, 10, 16, 28] HS0.out rfl rfl ?_ ?_
    · intro w2 hSw; obtain ⟨g0, g1, g2, g3, g4⟩ := hSw; go_simp
    try simp only [sA, sB, sC]
    refine tj 2 51 (.pointer (some ⟨w.heap.size, 1, none⟩)) HS0.out rfl rfl ?_
    try simp only [sA, sB, sC]
    refine tS 3 52 (.string sn) [4, 6, 10, 16, 28] HS0.out rfl rfl ?_ ?_
    · intro w2 hSw; obtain ⟨g0, g1, g2, g3, g4⟩ := hSw; go_simp
    try simp only [sA, sB, sC]
    refine wpAnyL_ready (rs := [4]) (by kernel_rfl) (by simp) ?_
    refine AllReadyL.cons rfl (fun K hK => ?_) AllReadyL.nil
    go_simp
    refine (HN.out X0).mono ?_
    rintro e X1 ⟨rfl, hx1⟩
    have HT1 := Lib.hid (WS.below HT4.out hx1 (fun h => (hx1.cell (p := ⟨ab, ao, none⟩) (Nat.lt_of_lt_of_le HAB.out HT4.out.2.2.1.size)).trans h))
    clear hx1
    refine hK.out _ _ (SO.out _ HT1.out) (fun hHeld => ?_)
    have HS1 := Lib.hid hHeld
    clear hK K hHeld
    try simp only [sA, sB, sC]
    refine tj 5 54 (.bool false) HS1.out rfl rfl ?_
    try simp only [sA, sB, sC]
    refine tj 6 55 (.bool false) HS1.out rfl rfl ?_
    try simp only [sA, sB, sC]
    refine tj 7 56 (.pointer (some ⟨W1.heap.size, 0, none⟩)) HS1.out rfl rfl ?_
    try simp only [sA, sB, sC]
    refine tS 8 57 (.bool false) [9, 10, 16, 28] HS1.out rfl rfl ?_ ?_
    · intro w2 hSw; obtain ⟨g0, g1, g2, g3, g4⟩ := hSw; go_simp
    try simp only [sA, sB, sC]
    refine tj 9 58 (.bool true) HS1.out rfl rfl ?_
    try simp only [sA, sB, sC]
    refine tj 10 59 (.bool true) HS1.out rfl rfl ?_
    try simp only [sA, sB, sC]
    refine tj 11 60 (.pointer (some ⟨w.heap.size, 1, none⟩)) HS1.out rfl rfl ?_
    try simp only [sA, sB, sC]
    refine tS 12 61 (.string sn) [13, 14, 15, 16, 28] HS1.out rfl rfl ?_ ?_
    · intro w2 hSw; obtain ⟨g0, g1, g2, g3, g4⟩ := hSw; go_simp
    try simp only [sA, sB, sC]
    refine tj 13 62 (.bool false) HS1.out rfl rfl ?_
    try simp only [sA, sB, sC]
    refine tj 14 63 (.bool false) HS1.out rfl rfl ?_
    try simp only [sA, sB, sC]
    refine tj 15 64 (.bool false) HS1.out rfl rfl ?_
    try simp only [sA, sB, sC]
    refine tj 16 65 (.bool false) HS1.out rfl rfl ?_
    try simp only [sA, sB, sC]
    refine tj 17 66 (.pointer (some ⟨w.heap.size, 0, none⟩)) HS1.out rfl rfl ?_
    try simp only [sA, sB, sC]
    refine tS 18 67 (.int .i64 10) [19, 20, 27, 28] HS1.out rfl rfl ?_ ?_
    · intro w2 hSw; obtain ⟨g0, g1, g2, g3, g4⟩ := hSw; go_simp
    try simp only [sA, sB, sC]
    refine tj 19 68 (.bool true) HS1.out rfl rfl ?_
    try simp only [sA, sB, sC]
    refine tj 20 69 (.bool true) HS1.out rfl rfl ?_
    try simp only [sA, sB, sC]
    refine tj 21 70 (.pointer (some ⟨w.heap.size, 2, none⟩)) HS1.out rfl rfl ?_
    try simp only [sA, sB, sC]
    refine tS 22 71 (.slice (some ⟨ab, ao, none⟩) na ca) [23, 24, 25, 26, 27, 28] HS1.out rfl rfl ?_ ?_
    · intro w2 hSw; obtain ⟨g0, g1, g2, g3, g4⟩ := hSw; go_simp
    try simp only [sA, sB, sC]
    refine tj 23 72 (.pointer (some ⟨ab, ao, none⟩)) HS1.out rfl rfl ?_
    try simp only [sA, sB, sC]
    refine tj 24 73 (.pointer (some ⟨ab, ao, none⟩)) HS1.out rfl rfl ?_
    try simp only [sA, sB, sC]
    refine tS 25 74 (.int .i64 k0) [26, 27, 28] HS1.out rfl rfl ?_ ?_
    · intro w2 hSw; obtain ⟨g0, g1, g2, g3, g4⟩ := hSw; go_simp
    try simp only [sA, sB, sC]
    refine tj 26 75 (.bool false) HS1.out rfl rfl ?_
    try simp only [sA, sB, sC]
    refine tj 27 76 (.bool false) HS1.out rfl rfl ?_
    try simp only [sA, sB, sC]
    refine wpAnyL_ready (rs := [28]) (by kernel_rfl) (by simp) ?_
    refine AllReadyL.last rfl (by kernel_rfl) (fun K hK => ?_)
    go_simp
    refine hK.out _ _ ?_
    clear hK K
    try simp only [sA, sB, sC]
    refine wpAnyL_done (by kernel_rfl) ?_ _
    have hG := HT1.out.1
    have b2 : X1.cell? ⟨w.heap.size, 2, none⟩ = some (.slice (some ⟨ab, ao, none⟩) na ca) := hG.cell 2
    have b3 : X1.cell? ⟨w.heap.size, 3, none⟩ = some (.slice At 0 ct) := hG.cell 3
    have b4 : X1.cell? ⟨w.heap.size, 4, none⟩ = some (.slice Ae 0 ce) := hG.cell 4
    have HG := Lib.hid hG
    have hlt : w.heap.size < X1.heap.size := hG.lt
    have HB := Lib.hid HT1.out.2.2.1
    clear hG HT1 HT4 HS0 HS1 SO ln k1 k2
    cases bA with
    | false =>
      have HA2 : Hid (∀ X, Below w.heap.size w X → Calls Tryz.prog 88 #[.slice (some ⟨ab, ao, none⟩) na ca, .func (.func 89) #[] #[]] X fun r w' => r = .returned (.bool true) ∧ Below X.heap.size X w') := Lib.hid (fun X hx => HA.out X hx)
      clear HA
      go_wp2_with (go_at_call 88; refine (HA2.out X1 HB.out).mono ?_; rintro r w' ⟨rfl, hb⟩)
      go_ret
      exact ⟨congrArg (fun b => Ending.returned (Value.bool b)) HR.out.symm, HB.out.trans (hb.mono HB.out.size)⟩
    | true =>
      have HA2 : Hid (∀ X, Below w.heap.size w X → Calls Tryz.prog 88 #[.slice (some ⟨ab, ao, none⟩) na ca, .func (.func 89) #[] #[]] X fun r w' => r = .returned (.bool false) ∧ Below X.heap.size X w') := Lib.hid (fun X hx => HA.out X hx)
      clear HA
      have HTOK : Hid True := Lib.hid trivial
      cases bT with
      | false =>
        go_wp2_with (first | (go_at_call 88; refine (HA2.out X1 HB.out).mono ?_; rintro r X2 ⟨rfl, hb⟩; have c3 := (hb.cell (p := ⟨w.heap.size, 3, none⟩) hlt).trans b3; have c4 := (hb.cell (p := ⟨w.heap.size, 4, none⟩) hlt).trans b4; have hlt2 : w.heap.size < X2.heap.size := Nat.lt_of_lt_of_le hlt hb.size; have HB2 := Lib.hid (HB.out.trans (hb.mono HB.out.size)); have _t := HTOK; clear hb) | (go_at_call 44; refine (HTT.out X2 HB2.out).mono ?_; rintro r w' ⟨rfl, hb⟩))
        go_ret
        exact ⟨congrArg (fun b => Ending.returned (Value.bool b)) HR.out.symm, HB2.out.trans (hb.mono HB2.out.size)⟩
      | true =>
        go_wp2_with (first | (go_at_call 88; refine (HA2.out X1 HB.out).mono ?_; rintro r X2 ⟨rfl, hb⟩; have c3 := (hb.cell (p := ⟨w.heap.size, 3, none⟩) hlt).trans b3; have c4 := (hb.cell (p := ⟨w.heap.size, 4, none⟩) hlt).trans b4; have hlt2 : w.heap.size < X2.heap.size := Nat.lt_of_lt_of_le hlt hb.size; have HB2 := Lib.hid (HB.out.trans (hb.mono HB.out.size)); have _t := HTOK; clear hb) | (have _u := _t.out; clear _u; go_at_call 44; refine (HTT.out X2 HB2.out).mono ?_; clear _t; rintro r X3 ⟨rfl, hb⟩; have c5 := (hb.cell (p := ⟨w.heap.size, 4, none⟩) hlt2).trans c4; have HB4 := Lib.hid (HB2.out.trans (hb.mono HB2.out.size)); clear hb) | (go_at_call 44; refine (HE.out X3 HB4.out).mono ?_; rintro r w' ⟨rfl, hb⟩))
        go_ret
        exact ⟨congrArg (fun b => Ending.returned (Value.bool b)) HR.out.symm, HB4.out.trans (hb.mono HB4.out.size)⟩
end Go.Proofs.YtmignlclfbaifaaGreat
