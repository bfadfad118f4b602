/- What tree.stmt, tree.stmts tell of statements of bounded depth. -/
import Derived.Test.YtmignlclfbaifaaGreatTrStmt
namespace Go.Proofs.YtmignlclfbaifaaGreat
open Go.RowKit

/-! ### the plain law -/
def bareK (k : Int) (nb em : Bool) (na nt me : Nat) (c : Bool) : Bool :=
  if k = 1 ∨ k = 2 then nb && decide ((na : Int) = k) && decide (nt = 0) && decide (me = 0)
  else if k = 3 then em && decide (na = 1)
  else if k = 4 then em && decide (na = 1) && decide (me = 0)
  else if k = 5 ∨ k = 6 then em && decide (na = 0) && decide (nt = 0) && decide (me = 0)
  else if k = 7 ∨ k = 8 ∨ k = 9 then em && decide (na = 1) && decide (nt = 0) && decide (me = 0)
  else if k = 10 then em && decide (na = 1) && decide (nt = 0) && decide (me = 0) && c
  else false
theorem bareK_eq (s : LStmt) : bareS s = bareK s.kind (nameB s.name) (decide (s.name = ⟨#[]⟩)) s.args.length s.thn.length s.els.length (s.args.all fun e => decide (e.kind = 5)) := rfl
theorem bareK_form (k : Int) (nb em : Bool) (na nt me : Nat) (c : Bool) (h : em = true → nb = false) : bareK k nb em na nt me c = ((formL k).2.2.2.2 && decide ((na : Int) = (formL k).2.1) && ((formL k).2.2.1 || decide (nt = 0)) && ((formL k).2.2.2.1 || decide (me = 0)) && ((formL k).1 == nb) && ((formL k).1 || em) && (!decide (k = 10) || c)) := by
  have i1 : decide ((na : Int) = 1) = decide (na = 1) := decide_eq_decide.2 (by omega)
  have i0 : decide ((na : Int) = 0) = decide (na = 0) := decide_eq_decide.2 (by omega)
  rcases (by omega : k = 1 ∨ k = 2 ∨ k = 3 ∨ k = 4 ∨ k = 5 ∨ k = 6 ∨ k = 7 ∨ k = 8 ∨ k = 9 ∨ k = 10 ∨ (k < 1 ∨ 10 < k)) with rfl | rfl | rfl | rfl | rfl | rfl | rfl | rfl | rfl | rfl | hk
  case inr.inr.inr.inr.inr.inr.inr.inr.inr.inr =>
    have h1 : formL k = (false, 0, false, false, false) := by
      unfold formL
      rw [if_neg (by omega), if_neg (by omega), if_neg (by omega), if_neg (by omega), if_neg (by omega), if_neg (by omega)]
    have h2 : bareK k nb em na nt me c = false := by
      unfold bareK
      rw [if_neg (by omega), if_neg (by omega), if_neg (by omega), if_neg (by omega), if_neg (by omega), if_neg (by omega)]
    rw [h1, h2]
    rfl
  case inl =>
    show (nb && decide ((na : Int) = 1) && decide (nt = 0) && decide (me = 0)) = (true && decide ((na : Int) = 1) && (false || decide (nt = 0)) && (false || decide (me = 0)) && (true == nb) && (true || em) && (true || c))
    cases nb <;> cases decide ((na : Int) = 1) <;> cases decide (nt = 0) <;> cases decide (me = 0) <;> rfl
  case inr.inl =>
    show (nb && decide ((na : Int) = 2) && decide (nt = 0) && decide (me = 0)) = (true && decide ((na : Int) = 2) && (false || decide (nt = 0)) && (false || decide (me = 0)) && (true == nb) && (true || em) && (true || c))
    cases nb <;> cases decide ((na : Int) = 2) <;> cases decide (nt = 0) <;> cases decide (me = 0) <;> rfl
  case inr.inr.inl =>
    show (em && decide (na = 1)) = (true && decide ((na : Int) = 1) && (true || decide (nt = 0)) && (true || decide (me = 0)) && (false == nb) && (false || em) && (true || c))
    rw [i1]
    cases em <;> cases nb <;> cases decide (na = 1) <;> simp_all
  case inr.inr.inr.inl =>
    show (em && decide (na = 1) && decide (me = 0)) = (true && decide ((na : Int) = 1) && (true || decide (nt = 0)) && (false || decide (me = 0)) && (false == nb) && (false || em) && (true || c))
    rw [i1]
    cases em <;> cases nb <;> cases decide (na = 1) <;> cases decide (me = 0) <;> simp_all
  case inr.inr.inr.inr.inr.inr.inr.inr.inr.inl =>
    show (em && decide (na = 1) && decide (nt = 0) && decide (me = 0) && c) = (true && decide ((na : Int) = 1) && (false || decide (nt = 0)) && (false || decide (me = 0)) && (false == nb) && (false || em) && (false || c))
    rw [i1]
    cases em <;> cases nb <;> cases decide (na = 1) <;> cases decide (nt = 0) <;> cases decide (me = 0) <;> simp_all
  case inr.inr.inr.inr.inl =>
    show (em && decide (na = 0) && decide (nt = 0) && decide (me = 0)) = (true && decide ((na : Int) = 0) && (false || decide (nt = 0)) && (false || decide (me = 0)) && (false == nb) && (false || em) && (true || c))
    rw [i0]
    cases em <;> cases nb <;> cases decide (na = 0) <;> cases decide (nt = 0) <;> cases decide (me = 0) <;> simp_all
  case inr.inr.inr.inr.inr.inl =>
    show (em && decide (na = 0) && decide (nt = 0) && decide (me = 0)) = (true && decide ((na : Int) = 0) && (false || decide (nt = 0)) && (false || decide (me = 0)) && (false == nb) && (false || em) && (true || c))
    rw [i0]
    cases em <;> cases nb <;> cases decide (na = 0) <;> cases decide (nt = 0) <;> cases decide (me = 0) <;> simp_all
  all_goals
    show (em && decide (na = 1) && decide (nt = 0) && decide (me = 0)) = (true && decide ((na : Int) = 1) && (false || decide (nt = 0)) && (false || decide (me = 0)) && (false == nb) && (false || em) && (true || c))
    rw [i1]
    cases em <;> cases nb <;> cases decide (na = 1) <;> cases decide (nt = 0) <;> cases decide (me = 0) <;> simp_all
theorem bare_form (s : LStmt) : bareS s = ((formL s.kind).2.2.2.2 && decide ((s.args.length : Int) = (formL s.kind).2.1) && ((formL s.kind).2.2.1 || decide (s.thn.length = 0)) && ((formL s.kind).2.2.2.1 || decide (s.els.length = 0)) && ((formL s.kind).1 == nameB s.name) && ((formL s.kind).1 || decide (s.name = ⟨#[]⟩)) && (!decide (s.kind = 10) || s.args.all fun e => decide (e.kind = 5))) := by
  rw [bareK_eq]
  exact bareK_form _ _ _ _ _ _ _ fun h => by rw [of_decide_eq_true h]; rfl
theorem stmt_none (sn : ByteArray) (na nt me : Nat) (a : Int) (m : Nat) (Aa At Ae : Option Addr) (ca ct ce : Nat) (w : World) (k : Int) (nm th mo ok : Bool) (hok : ok = false)
    (hf : ∀ X, Calls Tryz.prog 87 #[.int .i64 k] X fun r w' => r = .returned (.tuple #[.agg #[.bool nm, .int .i64 a, .bool th, .bool mo], .bool ok]) ∧ Below X.heap.size X w') :
    Calls Tryz.prog 65 #[.agg #[.int .i64 k, .string sn, .slice Aa na ca, .slice At nt ct, .slice Ae me ce], .int .i64 (m : Int)] w fun r w' => r = .returned (.bool false) ∧ Below w.heap.size w w' := by
  subst hok
  have HF := Lib.hid hf
  clear hf
  go_enter Tryz.func65, Tryz.ntmps65
  go_upto_region 1 with fail
  refine wp_world ?_
  intro W hW
  have hG : Blk W w.heap.size 45 #[.int .i64 k, .string sn, .slice Aa na ca, .slice At nt ct, .slice Ae me ce] := by rw [← hW]; exact Blk.new _ _ _
  have hB : Below w.heap.size w W := by rw [← hW]; exact below1 _ _
  have a0 : W.cell? ⟨w.heap.size, 0, none⟩ = some (.int .i64 k) := hG.cell 0
  have hlt : w.heap.size < W.heap.size := hG.lt
  have HG := Lib.hid hG
  have HB := Lib.hid hB
  clear hW hG hB
  go_upto_region 2 with (go_at_call 87; refine (HF.out W).mono ?_; rintro r W1 ⟨rfl, hb1⟩; have HB1 := Lib.hid hb1; clear hb1)
  refine wp_world ?_
  intro W3 hW3
  have hX : Blk W3 W1.heap.size 119 #[.bool nm, .int .i64 a, .bool th, .bool mo] := by rw [← hW3]; exact Blk.new_at _ _ _ rfl
  have hG : Blk W3 w.heap.size 45 #[.int .i64 k, .string sn, .slice Aa na ca, .slice At nt ct, .slice Ae me ce] := by rw [← hW3]; exact (HG.out.below HB1.out hlt).alloc _
  have hB : Below w.heap.size w W3 := by rw [← hW3]; exact (HB.out.trans (HB1.out.mono HB.out.size)).alloc (Nat.le_trans HB.out.size HB1.out.size) _
  clear a0
  have b2 : W3.cell? ⟨w.heap.size, 2, none⟩ = some (.slice Aa na ca) := hG.cell 2
  have x1 : W3.cell? ⟨W1.heap.size, 1, none⟩ = some (.int .i64 a) := hX.cell 1
  have HB3 := Lib.hid hB
  clear hW3 hX hG hB hlt HB HB1 HG
  go_wp2
  go_ret
  exact ⟨rfl, HB3.out⟩
theorem stmt_zero (sn : ByteArray) (na nt me : Nat) (a : Int) (m : Nat) (Aa At Ae : Option Addr) (ca ct ce : Nat) (w : World) (k : Int) (nm th mo ok : Bool) (hok : ok = true) (hm : m = 0)
    (hf : ∀ X, Calls Tryz.prog 87 #[.int .i64 k] X fun r w' => r = .returned (.tuple #[.agg #[.bool nm, .int .i64 a, .bool th, .bool mo], .bool ok]) ∧ Below X.heap.size X w') :
    Calls Tryz.prog 65 #[.agg #[.int .i64 k, .string sn, .slice Aa na ca, .slice At nt ct, .slice Ae me ce], .int .i64 (m : Int)] w fun r w' => r = .returned (.bool false) ∧ Below w.heap.size w w' := by
  subst hok
  subst hm
  have HF := Lib.hid hf
  clear hf
  go_enter Tryz.func65, Tryz.ntmps65
  go_upto_region 1 with fail
  refine wp_world ?_
  intro W hW
  have hG : Blk W w.heap.size 45 #[.int .i64 k, .string sn, .slice Aa na ca, .slice At nt ct, .slice Ae me ce] := by rw [← hW]; exact Blk.new _ _ _
  have hB : Below w.heap.size w W := by rw [← hW]; exact below1 _ _
  have a0 : W.cell? ⟨w.heap.size, 0, none⟩ = some (.int .i64 k) := hG.cell 0
  have hlt : w.heap.size < W.heap.size := hG.lt
  have HG := Lib.hid hG
  have HB := Lib.hid hB
  clear hW hG hB
  go_upto_region 2 with (go_at_call 87; refine (HF.out W).mono ?_; rintro r W1 ⟨rfl, hb1⟩; have HB1 := Lib.hid hb1; clear hb1)
  refine wp_world ?_
  intro W3 hW3
  have hX : Blk W3 W1.heap.size 119 #[.bool nm, .int .i64 a, .bool th, .bool mo] := by rw [← hW3]; exact Blk.new_at _ _ _ rfl
  have hG : Blk W3 w.heap.size 45 #[.int .i64 k, .string sn, .slice Aa na ca, .slice At nt ct, .slice Ae me ce] := by rw [← hW3]; exact (HG.out.below HB1.out hlt).alloc _
  have hB : Below w.heap.size w W3 := by rw [← hW3]; exact (HB.out.trans (HB1.out.mono HB.out.size)).alloc (Nat.le_trans HB.out.size HB1.out.size) _
  clear a0
  have b2 : W3.cell? ⟨w.heap.size, 2, none⟩ = some (.slice Aa na ca) := hG.cell 2
  have x1 : W3.cell? ⟨W1.heap.size, 1, none⟩ = some (.int .i64 a) := hX.cell 1
  have HB3 := Lib.hid hB
  clear hW3 hX hG hB hlt HB HB1 HG
  go_wp2
  go_ret
  exact ⟨rfl, HB3.out⟩
theorem stmt_len (sn : ByteArray) (na nt me : Nat) (a : Int) (m : Nat) (Aa At Ae : Option Addr) (ca ct ce : Nat) (w : World) (k : Int) (nm th mo ok : Bool) (hok : ok = true) (hl : ¬ (na : Int) = a)
    (hf : ∀ X, Calls Tryz.prog 87 #[.int .i64 k] X fun r w' => r = .returned (.tuple #[.agg #[.bool nm, .int .i64 a, .bool th, .bool mo], .bool ok]) ∧ Below X.heap.size X w') :
    Calls Tryz.prog 65 #[.agg #[.int .i64 k, .string sn, .slice Aa na ca, .slice At nt ct, .slice Ae me ce], .int .i64 ((m : Int) + 1)] w fun r w' => r = .returned (.bool false) ∧ Below w.heap.size w w' := by
  subst hok
  have l1 : ((na : Int) == a) = false := by rw [beq_dec]; exact decide_eq_false hl
  have l2 : ((na : Int) != a) = true := by rw [bne, l1]; rfl
  have dm : (((m : Int) + 1) == 0) = false := by rw [beq_dec]; exact decide_eq_false (by omega)
  have HF := Lib.hid hf
  clear hf hl
  go_enter Tryz.func65, Tryz.ntmps65
  go_upto_region 1 with fail
  refine wp_world ?_
  intro W hW
  have hG : Blk W w.heap.size 45 #[.int .i64 k, .string sn, .slice Aa na ca, .slice At nt ct, .slice Ae me ce] := by rw [← hW]; exact Blk.new _ _ _
  have hB : Below w.heap.size w W := by rw [← hW]; exact below1 _ _
  have a0 : W.cell? ⟨w.heap.size, 0, none⟩ = some (.int .i64 k) := hG.cell 0
  have hlt : w.heap.size < W.heap.size := hG.lt
  have HG := Lib.hid hG
  have HB := Lib.hid hB
  clear hW hG hB
  go_upto_region 2 with (go_at_call 87; refine (HF.out W).mono ?_; rintro r W1 ⟨rfl, hb1⟩; have HB1 := Lib.hid hb1; clear hb1)
  refine wp_world ?_
  intro W3 hW3
  have hX : Blk W3 W1.heap.size 119 #[.bool nm, .int .i64 a, .bool th, .bool mo] := by rw [← hW3]; exact Blk.new_at _ _ _ rfl
  have hG : Blk W3 w.heap.size 45 #[.int .i64 k, .string sn, .slice Aa na ca, .slice At nt ct, .slice Ae me ce] := by rw [← hW3]; exact (HG.out.below HB1.out hlt).alloc _
  have hB : Below w.heap.size w W3 := by rw [← hW3]; exact (HB.out.trans (HB1.out.mono HB.out.size)).alloc (Nat.le_trans HB.out.size HB1.out.size) _
  clear a0
  have b2 : W3.cell? ⟨w.heap.size, 2, none⟩ = some (.slice Aa na ca) := hG.cell 2
  have x1 : W3.cell? ⟨W1.heap.size, 1, none⟩ = some (.int .i64 a) := hX.cell 1
  have HB3 := Lib.hid hB
  clear hW3 hX hG hB hlt HB HB1 HG
  go_wp2
  go_ret
  exact ⟨rfl, HB3.out⟩

/-! ### statements of bounded depth -/
def StmtAt (d m : Nat) : Prop := ∀ (s : LStmt) (va vt ve : Value) (w : World), SlR w (· < w.heap.size) 5 (RExpr (d + 1) w (· < w.heap.size)) va s.args → SlR w (· < w.heap.size) 5 (RStmt (d + 1) w (· < w.heap.size)) vt s.thn → SlR w (· < w.heap.size) 5 (RStmt (d + 1) w (· < w.heap.size)) ve s.els →
  Calls Tryz.prog 65 #[.agg #[.int .i64 s.kind, .string s.name, va, vt, ve], .int .i64 (m : Int)] w fun r w' => r = .returned (.bool (stmtB (d + 1) m s)) ∧ Below w.heap.size w w'
def TStmtsAt (d m : Nat) : Prop := ∀ (l : List LStmt) (v : Value) (w : World), SlR w (· < w.heap.size) 5 (RStmt (d + 1) w (· < w.heap.size)) v l →
  Calls Tryz.prog 44 #[v, .int .i64 (m : Int)] w fun r w' => r = .returned (.bool (l.all (stmtB (d + 1) m))) ∧ Below w.heap.size w w'
theorem stmt1_pred (d : Nat) (l : List LExpr) (w : World) : Pred_exp d 89 #[] (fun x => !(deepE 40 x && wellE (d + 1) x)) l w := by
  intro W cs x hx hr hb
  obtain ⟨va, rfl, hs⟩ := hr
  obtain ⟨A, c, hva, _, _⟩ := hs.val
  subst hva
  have HB := Lib.hid hb
  have HS := Lib.hid (fun (X : World) (hx : Below W.heap.size W X) => rightx_any d x (.slice A x.args.length c) X (hs.imp (fun b h => Nat.lt_of_lt_of_le h hx.size) (fun b h => hx.block b h) (fun _ _ _ r => RExpr.imp (fun b h => Nat.lt_of_lt_of_le h hx.size) (fun b h => hx.block b h) _ r)))
  clear hb hs
  show Calls Tryz.prog 89 #[.agg #[.int .i64 x.kind, .int .i64 x.op, .int .i64 x.n, .string x.name, .slice A x.args.length c]] W _
  go_enter Tryz.func89, Tryz.ntmps89
  go_wp2_with (go_at_call 90; refine (HS.out _ (below1 _ _)).mono ?_; rintro e w' ⟨rfl, hb2⟩)
  go_ret
  exact ⟨by rw [Bool.not_and]; rfl, HB.out.trans (((below1 _ _).trans (hb2.mono (by simp))).mono HB.out.size)⟩
theorem stmts1_pred (d m : Nat) (h : StmtAt d m) (l : List LStmt) (nb : Nat) (w : World) (hn : w.cell? ⟨nb, 0, none⟩ = some (.int .i64 (m : Int))) (hlt : nb < w.heap.size) : Pred_stm d 64 #[.pointer (some ⟨nb, 0, none⟩)] (fun x => !stmtB (d + 1) m x) l w := by
  intro W cs x hx hr hb
  obtain ⟨va, vt, ve, rfl, h1, h2, h3⟩ := hr
  have hc : W.cell? ⟨nb, 0, none⟩ = some (.int .i64 (m : Int)) := (hb.cell (p := ⟨nb, 0, none⟩) hlt).trans hn
  have hnb : nb < W.heap.size := Nat.lt_of_lt_of_le hlt hb.size
  obtain ⟨Aa, ca, rfl, _, _⟩ := h1.val
  obtain ⟨At, ct, rfl, _, _⟩ := h2.val
  obtain ⟨Ae, ce, rfl, _, _⟩ := h3.val
  have HB := Lib.hid hb
  have HS := Lib.hid (fun (X : World) (hx : Below W.heap.size W X) => h x (.slice Aa x.args.length ca) (.slice At x.thn.length ct) (.slice Ae x.els.length ce) X (h1.imp (fun b h => Nat.lt_of_lt_of_le h hx.size) (fun b h => hx.block b h) (fun _ _ _ r => RExpr.imp (fun b h => Nat.lt_of_lt_of_le h hx.size) (fun b h => hx.block b h) _ r))
    (h2.imp (fun b h => Nat.lt_of_lt_of_le h hx.size) (fun b h => hx.block b h) (fun _ _ _ r => RStmt.up d (Nat.le_succ d) (RStmt.imp (fun b h => Nat.lt_of_lt_of_le h hx.size) (fun b h => hx.block b h) _ r))) (h3.imp (fun b h => Nat.lt_of_lt_of_le h hx.size) (fun b h => hx.block b h) (fun _ _ _ r => RStmt.up d (Nat.le_succ d) (RStmt.imp (fun b h => Nat.lt_of_lt_of_le h hx.size) (fun b h => hx.block b h) _ r))))
  clear hb hn h1 h2 h3 h
  show Calls Tryz.prog 64 #[.agg #[.int .i64 x.kind, .string x.name, .slice Aa x.args.length ca, .slice At x.thn.length ct, .slice Ae x.els.length ce], .pointer (some ⟨nb, 0, none⟩)] W _
  go_enter Tryz.func64, Tryz.ntmps64
  go_wp2_with (go_at_call 65; refine (HS.out _ (below1 _ _)).mono ?_; rintro e w' ⟨rfl, hb2⟩)
  go_ret
  exact ⟨rfl, HB.out.trans (((below1 _ _).trans (hb2.mono (by simp))).mono HB.out.size)⟩
theorem stmts_any (d m : Nat) (h : StmtAt d m) : TStmtsAt d m := by
  intro l v w hv
  obtain ⟨A, c, rfl, _, _⟩ := hv.val
  have HV := Lib.hid hv
  clear hv
  go_enter Tryz.func44, Tryz.ntmps44
  go_upto_region 1 with fail
  refine wp_world ?_
  intro W hW
  have hB : Below w.heap.size w W := by rw [← hW]; exact below1 _ _
  have hs : W.heap.size = w.heap.size + 1 := by rw [← hW]; simp
  have c3 : W.cell? ⟨w.heap.size, 0, none⟩ = some (.int .i64 (m : Int)) := by rw [← hW]; exact (Blk.new _ _ _).cell 0
  have hi := con_stmts1 d (.pointer (some ⟨w.heap.size, 0, none⟩)) l (.slice A l.length c) (fun x => !stmtB (d + 1) m x) W (HV.out.imp (fun b h => Nat.lt_of_lt_of_le h hB.size) (fun b h => hB.block b h) (fun _ _ _ r => RStmt.imp (fun b h => Nat.lt_of_lt_of_le h hB.size) (fun b h => hB.block b h) _ r)) (stmts1_pred d m h l w.heap.size W c3 (by omega))
  have hall : (!l.any fun x => !stmtB (d + 1) m x) = l.all (stmtB (d + 1) m) := by
    rw [List.not_any_eq_all_not]
    simp
  have HI := Lib.hid hi
  have HB := Lib.hid hB
  have HALL := Lib.hid hall
  clear hW hi hB hall hs h
  go_wp2_with (go_at_call 63; refine HI.out.mono ?_; rintro e w' ⟨rfl, hb⟩)
  go_ret
  exact ⟨by rw [← HALL.out]; rfl, HB.out.trans (hb.mono HB.out.size)⟩
theorem stmt_any (d : Nat) : ∀ m : Nat, m ≤ 1000 → StmtAt d m
  | 0, _ => by
    intro s va vt ve w h1 h2 h3
    obtain ⟨Aa, ca, rfl, _, _⟩ := h1.val
    obtain ⟨At, ct, rfl, _, _⟩ := h2.val
    obtain ⟨Ae, ce, rfl, _, _⟩ := h3.val
    show Calls Tryz.prog 65 #[.agg #[.int .i64 s.kind, .string s.name, .slice Aa s.args.length ca, .slice At s.thn.length ct, .slice Ae s.els.length ce], .int .i64 ((0 : Nat) : Int)] w fun r w' => r = .returned (.bool false) ∧ Below w.heap.size w w'
    have hf := fun X => form_any s.kind X
    rcases hq : formL s.kind with ⟨nm, a, th, mo, ok⟩
    cases ok with
    | false => exact stmt_none s.name s.args.length s.thn.length s.els.length a 0 Aa At Ae ca ct ce w s.kind nm th mo false rfl (fun X => by have := hf X; unfold formV at this; rw [hq] at this; exact this)
    | true => exact stmt_zero s.name s.args.length s.thn.length s.els.length a 0 Aa At Ae ca ct ce w s.kind nm th mo true rfl rfl (fun X => by have := hf X; unfold formV at this; rw [hq] at this; exact this)
  | m + 1, hm => by
    intro s va vt ve w h1 h2 h3
    have IH := stmts_any d m (stmt_any d m (by omega))
    obtain ⟨Aa, ca, rfl, _, _⟩ := h1.val
    obtain ⟨At, ct, rfl, _, _⟩ := h2.val
    obtain ⟨Ae, ce, rfl, _, _⟩ := h3.val
    have e1 : ((m + 1 : Nat) : Int) = (m : Int) + 1 := by omega
    rw [e1]
    have hA : ∀ X, Below w.heap.size w X → Calls Tryz.prog 88 #[.slice Aa s.args.length ca, .func (.func 89) #[] #[]] X fun r w' => r = .returned (.bool (!(s.args.all fun e => deepE 40 e && wellE (d + 1) e))) ∧ Below X.heap.size X w' := fun X hx => by
      have h := con_stmt1 d s.args (.slice Aa s.args.length ca) (fun x => !(deepE 40 x && wellE (d + 1) x)) X (h1.imp (fun b h => Nat.lt_of_lt_of_le h hx.size) (fun b h => hx.block b h) (fun _ _ _ r => RExpr.imp (fun b h => Nat.lt_of_lt_of_le h hx.size) (fun b h => hx.block b h) _ r)) (stmt1_pred d s.args X)
      have hall : (s.args.any fun x => !(deepE 40 x && wellE (d + 1) x)) = !(s.args.all fun e => deepE 40 e && wellE (d + 1) e) := by
        rw [List.all_eq_not_any_not]; simp
      rw [hall] at h
      exact h
    have hT := fun (X : World) (hx : Below w.heap.size w X) => IH s.thn (.slice At s.thn.length ct) X (h2.imp (fun b h => Nat.lt_of_lt_of_le h hx.size) (fun b h => hx.block b h) (fun _ _ _ r => RStmt.imp (fun b h => Nat.lt_of_lt_of_le h hx.size) (fun b h => hx.block b h) _ r))
    have hE := fun (X : World) (hx : Below w.heap.size w X) => IH s.els (.slice Ae s.els.length ce) X (h3.imp (fun b h => Nat.lt_of_lt_of_le h hx.size) (fun b h => hx.block b h) (fun _ _ _ r => RStmt.imp (fun b h => Nat.lt_of_lt_of_le h hx.size) (fun b h => hx.block b h) _ r))
    have hf := fun X => form_any s.kind X
    have hbare := bare_form s
    rcases hq : formL s.kind with ⟨nm, a, th, mo, ok⟩
    rw [hq] at hbare
    have hf2 : ∀ X, Calls Tryz.prog 87 #[.int .i64 s.kind] X fun r w' => r = .returned (.tuple #[.agg #[.bool nm, .int .i64 a, .bool th, .bool mo], .bool ok]) ∧ Below X.heap.size X w' := fun X => by
      have := hf X; unfold formV at this; rw [hq] at this; exact this
    have hres : stmtB (d + 1) (m + 1) s = (bareS s && (s.args.all fun e => deepE 40 e && wellE (d + 1) e) && s.thn.all (stmtB (d + 1) m) && s.els.all (stmtB (d + 1) m)) := rfl
    rw [hres]
    by_cases hl : ok = true ∧ (s.args.length : Int) = a
    case neg =>
      have hb0 : bareS s = false := by
        rw [hbare]
        by_cases ho : ok = true
        · have : ¬ (s.args.length : Int) = a := fun h => hl ⟨ho, h⟩
          simp [this]
        · simp [Bool.not_eq_true] at ho
          simp [ho]
      rw [hb0]
      cases ok with
      | false =>
        have := stmt_none s.name s.args.length s.thn.length s.els.length a (m + 1) Aa At Ae ca ct ce w s.kind nm th mo false rfl hf2
        rw [e1] at this
        exact this
      | true => exact stmt_len s.name s.args.length s.thn.length s.els.length a m Aa At Ae ca ct ce w s.kind nm th mo true rfl (fun h => hl ⟨rfl, h⟩) hf2
    obtain ⟨rfl, hl⟩ := hl
    by_cases h10 : s.kind = 10
    · have ho : formL s.kind = (false, 1, false, false, true) := by rw [h10]; rfl
      rw [hq] at ho
      injection ho with o1 o2
      injection o2 with o2 o3
      injection o3 with o3 o4
      injection o4 with o4 o5
      subst o1 o2 o3 o4
      have hl1 : s.args.length = 1 := by omega
      obtain ⟨b, o, c', hv, _, _, hbl, hel⟩ := h1.form (by omega)
      have hAa : Aa = some ⟨b, o, none⟩ := by injection hv
      subst hAa
      obtain ⟨cs, _, ⟨vq, rfl, _⟩, hc⟩ := hel 0 (by omega)
      have hc0 : w.cell? ⟨b, o, none⟩ = some (.int .i64 (s.args[0]'(by omega)).kind) := by
        have := hc.at_ (j := 0) rfl
        simpa using this
      have h5 : (s.args.all fun e => decide (e.kind = 5)) = decide ((s.args[0]'(by omega)).kind = 5) := by
        obtain ⟨k, nm, l, t, e⟩ := s
        match l, hl1 with
        | [x], _ =>
          show ([x].all fun e => decide (e.kind = 5)) = decide (x.kind = 5)
          simp
      have hc := stmt_call s.name s.args.length s.thn.length s.els.length m At Ae ca ct ce w _ _ _ _ (by omega) b o _ hbl (fun _ => hc0) rfl (fun X => by have := hf2 X; rw [h10] at this; exact this) hA hT hE
      rw [h10]
      refine hc.mono ?_
      rintro r w' ⟨rfl, hb⟩
      refine ⟨?_, hb⟩
      rw [hbare, h10, h5, decide_eq_true (rfl : (10 : Int) = 10)]
      simp only [Bool.not_true, Bool.false_or, Bool.true_and]
    · have hk : (s.kind == 10) = false := by rw [beq_dec]; exact decide_eq_false h10
      have hd : decide (s.kind = 10) = false := decide_eq_false h10
      have fin : ∀ (b0 : Bool), b0 = (decide ((s.args.length : Int) = a) && (th || decide (s.thn.length = 0)) && (mo || decide (s.els.length = 0)) && (nm == nameB s.name) && (nm || decide (s.name = ⟨#[]⟩)) && true && (s.args.all fun e => deepE 40 e && wellE (d + 1) e) && s.thn.all (stmtB (d + 1) m) && s.els.all (stmtB (d + 1) m)) → b0 = (bareS s && (s.args.all fun e => deepE 40 e && wellE (d + 1) e) && s.thn.all (stmtB (d + 1) m) && s.els.all (stmtB (d + 1) m)) := fun b0 h => by
        rw [h, hbare, hd]
        simp only [Bool.not_false, Bool.true_or, Bool.true_and]
      have hform : (nm, th, mo) = (true, false, false) ∨ (nm, th, mo) = (false, true, true) ∨ (nm, th, mo) = (false, true, false) ∨ (nm, th, mo) = (false, false, false) := by
        have h := hq
        unfold formL at h
        repeat' split at h
        all_goals (injection h with o1 o2; injection o2 with o2 o3; injection o3 with o3 o4; injection o4 with o4 o5; subst o1 o3 o4; simp)
      rcases hform with h | h | h | h
      all_goals
        injection h with o1 o2
        injection o2 with o2 o3
        subst o1 o2 o3
        first
          | exact (stmt_set s.name s.args.length s.thn.length s.els.length a m Aa At Ae ca ct ce w _ _ _ _ (by omega) s.kind hk rfl hf2 hA hT hE).mono (fun r w' ⟨e, hb⟩ => ⟨e.trans (congrArg (fun b => Ending.returned (Value.bool b)) (fin _ rfl)), hb⟩)
          | exact (stmt_if s.name s.args.length s.thn.length s.els.length a m Aa At Ae ca ct ce w _ _ _ _ (by omega) s.kind hk rfl hf2 hA hT hE).mono (fun r w' ⟨e, hb⟩ => ⟨e.trans (congrArg (fun b => Ending.returned (Value.bool b)) (fin _ rfl)), hb⟩)
          | exact (stmt_while s.name s.args.length s.thn.length s.els.length a m Aa At Ae ca ct ce w _ _ _ _ (by omega) s.kind hk rfl hf2 hA hT hE).mono (fun r w' ⟨e, hb⟩ => ⟨e.trans (congrArg (fun b => Ending.returned (Value.bool b)) (fin _ rfl)), hb⟩)
          | exact (stmt_plain s.name s.args.length s.thn.length s.els.length a m Aa At Ae ca ct ce w _ _ _ _ (by omega) s.kind hk rfl hf2 hA hT hE).mono (fun r w' ⟨e, hb⟩ => ⟨e.trans (congrArg (fun b => Ending.returned (Value.bool b)) (fin _ rfl)), hb⟩)
end Go.Proofs.YtmignlclfbaifaaGreat
