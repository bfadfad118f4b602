/- What (*checker).exprs and stmt tell of expressions and statements of bounded depth: what is wrong first. -/
import Derived.Test.YtmignlclfbaifaaGreatTrOwn
import Derived.Test.YtmignlclfbaifaaGreatTrLaws
namespace Go.Proofs.YtmignlclfbaifaaGreat
open Go.RowKit

section
variable {d : Nat} {w : World} {cb : Nat} {p : LProg} {vars : List ByteArray} {A1 A2 A3 : Option Addr} {c1 c2 c3 : Nat}
theorem own_any (h : CkAt d w cb p vars A1 A2 A3 c1 c2 c3) (e : LExpr) (A : Option Addr) (c : Nat) :
    Calls Tryz.prog 94 #[.pointer (some ⟨cb, 0, none⟩), .agg #[.int .i64 e.kind, .int .i64 e.op, .int .i64 e.n, .string e.name, .slice A e.args.length c]] w fun r w' => r = .returned (.int .i64 (ownE p vars e)) ∧ Below w.heap.size w w' := by
  by_cases h2 : e.kind = 2
  · have he : ownE p vars e = if hasS vars e.name then 0 else 51 := by unfold ownE; rw [if_pos h2]
    rw [he, h2]
    exact own_var h e.op e.n e.name A e.args.length c
  by_cases h6 : e.kind = 6
  · have he : ownE p vars e = if p.arrays.any (fun a => decide (a.1 = e.name)) then 0 else 51 := by unfold ownE; rw [if_neg h2, if_pos h6]
    rw [he, h6]
    exact own_index h e.op e.n e.name A e.args.length c
  by_cases h5 : e.kind = 5
  · have he : ownE p vars e = match p.funcs.find? (fun f => decide (f.name = e.name)) with
        | none => 51
        | some f => if f.params.length = e.args.length then 0 else 52 := by unfold ownE; rw [if_neg h2, if_neg h6, if_pos h5]; cases p.funcs.find? (fun f => decide (f.name = e.name)) <;> rfl
    rw [h5]
    exact own_call h e.op e.n e.name A e.args.length c _ he
  · have he : ownE p vars e = 0 := by unfold ownE; rw [if_neg h2, if_neg h6, if_neg h5]
    rw [he]
    exact own_other e.kind e.op e.n e.name A e.args.length c (by rw [beq_dec]; exact decide_eq_false h2) (by rw [beq_dec]; exact decide_eq_false h6) (by rw [beq_dec]; exact decide_eq_false h5)
end
theorem firstE_at {α : Type} {g : α → Int} : ∀ {l : List α} {k : Nat} (hk : k < l.length), g l[k] ≠ 0 → (∀ (j : Nat) (hj : j < l.length), j < k → g l[j] = 0) → firstE g l = g l[k]
  | x :: l, 0, _, h, _ => if_pos h
  | x :: l, k + 1, hk, h, h0 => by
    have hx : g x = 0 := h0 0 (Nat.succ_pos _) (Nat.succ_pos _)
    show (if g x ≠ 0 then g x else firstE g l) = _
    rw [if_neg (fun h => h hx)]
    exact firstE_at (l := l) (by simpa using hk) h fun j hj hjk => h0 (j + 1) (by simpa using hj) (by omega)
theorem firstE_none {α : Type} {g : α → Int} {l : List α} (h : ∀ (j : Nat) (hj : j < l.length), g l[j] = 0) : firstE g l = 0 := firstE_zero fun x hx => by
  obtain ⟨i, hi, rfl⟩ := List.getElem_of_mem hx
  exact h i hi
/-- an expression, and its parts m deep at most -/
def oneE (p : LProg) (vars : List ByteArray) (m : Nat) (e : LExpr) : Int := if ownE p vars e ≠ 0 then ownE p vars e else exprsE p vars m e.args
theorem oneE_zero {p : LProg} {vars : List ByteArray} {m : Nat} {e : LExpr} (h : ownE p vars e = 0 ∧ exprsE p vars m e.args = 0) : oneE p vars m e = 0 := by
  unfold oneE
  rw [if_neg (fun h2 => h2 h.1), h.2]
/-- checker.exprs at expressions m deep at most -/
def ExprsAt (d m : Nat) : Prop := ∀ (w : World) (cb : Nat) (p : LProg) (vars : List ByteArray) (A1 A2 A3 : Option Addr) (c1 c2 c3 : Nat), CkAt d w cb p vars A1 A2 A3 c1 c2 c3 → ∀ (l : List LExpr) (v : Value), SlR w (· < w.heap.size) 5 (RExpr m w (· < w.heap.size)) v l →
  Calls Tryz.prog 77 #[.pointer (some ⟨cb, 0, none⟩), v] w fun r w' => r = .returned (.int .i64 (exprsE p vars m l)) ∧ Below w.heap.size w w'
theorem exprs_nil (cb : Nat) (A : Option Addr) (c : Nat) (w : World) : Calls Tryz.prog 77 #[.pointer (some ⟨cb, 0, none⟩), .slice A 0 c] w fun r w' => r = .returned (.int .i64 0) ∧ Below w.heap.size w w' := by
  go_enter Tryz.func77, Tryz.ntmps77
  go_wp2
  go_loopw [6, 11] (fun _ i wr => i = .int .i64 0 ∧ wr = w) (fun _ _ _ => 0)
  case atStart => exact ⟨rfl, rfl⟩
  case round =>
    obtain ⟨rfl, rfl⟩ := hrel
    go_wp2
    go_ret
    exact ⟨rfl, Below.refl _ _⟩
set_option maxRecDepth 100000 in
set_option maxHeartbeats 4000000 in
theorem exprs_any (d : Nat) : ∀ m : Nat, ExprsAt d m
  | 0 => by
    intro w cb p vars A1 A2 A3 c1 c2 c3 h l v hv
    obtain ⟨A, c, rfl, _, _⟩ := hv.val
    have he : l.length = 0 := by
      rcases Nat.eq_zero_or_pos l.length with h | h
      · exact h
      · obtain ⟨_, _, _, _, _, _, _, hel⟩ := hv.form h
        obtain ⟨_, _, hr, _⟩ := hel 0 h
        exact hr.elim
    obtain rfl : l = [] := List.eq_nil_of_length_eq_zero he
    exact exprs_nil cb A c w
  | m + 1 => by
    intro w cb p vars A1 A2 A3 c1 c2 c3 h l v hv
    have IH := Lib.hid (exprs_any d m)
    obtain ⟨A, c, rfl, hlc, hcm⟩ := hv.val
    have hlen := Nat.le_trans hlc hcm
    unfold maxLen at hlen
    have HV := Lib.hid hv
    have HK := Lib.hid h
    have hres : exprsE p vars (m + 1) l = firstE (oneE p vars m) l := rfl
    have HRES := Lib.hid hres
    clear hv h hres
    go_enter Tryz.func77, Tryz.ntmps77
    go_wp2
    go_loopw [6, 11] (fun _ i wr => ∃ k : Nat, k ≤ l.length ∧ i = .int .i64 k ∧ (∀ j (h : j < l.length), j < k → ownE p vars l[j] = 0 ∧ exprsE p vars m l[j].args = 0) ∧ Below w.heap.size w wr) (fun _ i _ => l.length - (intOf i).toNat)
    case atStart => exact ⟨0, by omega, rfl, fun j _ h => by omega, Below.refl _ _⟩
    case round =>
      obtain ⟨k, hk, rfl, hno, hb⟩ := hrel
      have HNO := Lib.hid hno
      clear hno
      by_cases hlt : k < l.length
      · have d1 : decide ((k : Int) < (l.length : Int)) = true := decide_eq_true (by omega)
        obtain ⟨b, off, c', hform, _, _, hbl, hel⟩ := HV.out.form (by omega)
        obtain ⟨cs, hcl, hcs, hcell⟩ := hel k hlt
        obtain ⟨rfl, rfl⟩ : A = some ⟨b, off, none⟩ ∧ c = c' := by injection hform with h1 _ h2; exact ⟨h1, h2⟩
        obtain ⟨x, hx⟩ : ∃ x, x = l[k] := ⟨_, rfl⟩
        rw [← hx] at hcs
        obtain ⟨va, rfl, hs⟩ := hcs
        obtain ⟨Aa, ca, rfl, _, _⟩ := hs.val
        have hcw := hcell.keep (hb.block b hbl)
        have i0 : wr.cell? ⟨b, off + k * 5, none⟩ = some (.int .i64 x.kind) := by have h := hcw.at_ (j := 0) rfl; simpa using h
        have i1 : wr.cell? ⟨b, off + k * 5 + 1, none⟩ = some (.int .i64 x.op) := by have h := hcw.at_ (j := 1) rfl; simpa using h
        have i2 : wr.cell? ⟨b, off + k * 5 + 2, none⟩ = some (.int .i64 x.n) := by have h := hcw.at_ (j := 2) rfl; simpa using h
        have i3 : wr.cell? ⟨b, off + k * 5 + 3, none⟩ = some (.string x.name) := by have h := hcw.at_ (j := 3) rfl; simpa using h
        have i4 : wr.cell? ⟨b, off + k * 5 + 4, none⟩ = some (.slice Aa x.args.length ca) := by have h := hcw.at_ (j := 4) rfl; simpa using h
        obtain ⟨o, ho⟩ : ∃ o, o = ownE p vars x := ⟨_, rfl⟩
        obtain ⟨q, hq⟩ : ∃ q, q = exprsE p vars m x.args := ⟨_, rfl⟩
        have HO : Hid (∀ X, Below wr.heap.size wr X → Calls Tryz.prog 94 #[.pointer (some ⟨cb, 0, none⟩), .agg #[.int .i64 x.kind, .int .i64 x.op, .int .i64 x.n, .string x.name, .slice Aa x.args.length ca]] X fun r w' => r = .returned (.int .i64 o) ∧ Below X.heap.size X w') := Lib.hid (fun X hX => by
          rw [ho]; exact own_any (HK.out.below (hb.trans (hX.mono hb.size))) x Aa ca)
        have HQ : Hid (∀ X, Below wr.heap.size wr X → Calls Tryz.prog 77 #[.pointer (some ⟨cb, 0, none⟩), .slice Aa x.args.length ca] X fun r w' => r = .returned (.int .i64 q) ∧ Below X.heap.size X w') := Lib.hid (fun X hX => by
          have hw : Below w.heap.size w X := hb.trans (hX.mono hb.size)
          rw [hq]
          exact IH.out X cb p vars A1 A2 A3 c1 c2 c3 (HK.out.below hw) x.args _ (hs.imp (fun b h => Nat.lt_of_lt_of_le h hw.size) (fun b h => hw.block b h) fun _ _ _ r => RExpr.imp (fun b h => Nat.lt_of_lt_of_le h hw.size) (fun b h => hw.block b h) _ r))
        have HX := Lib.hid hx
        have HB := Lib.hid hb
        have HOO := Lib.hid ho
        have HQQ := Lib.hid hq
        clear hcell hcw hel hform hx hb ho hq hs hbl hcl
        have BA : Hid (Below wr.heap.size wr (wr.alloc (.cells #[.int .i64 x.kind, .int .i64 x.op, .int .i64 x.n, .string x.name, .slice Aa x.args.length ca] 42))) := Lib.hid (below1 _ _)
        have CA : Hid ((wr.alloc (.cells #[.int .i64 x.kind, .int .i64 x.op, .int .i64 x.n, .string x.name, .slice Aa x.args.length ca] 42)).cell? ⟨wr.heap.size, 4, none⟩ = some (.slice Aa x.args.length ca)) := Lib.hid ((Blk.new wr 42 #[.int .i64 x.kind, .int .i64 x.op, .int .i64 x.n, .string x.name, .slice Aa x.args.length ca]).cell 4)
        by_cases h0 : o = 0
        · subst h0
          by_cases h1 : q = 0
          · subst h1
            go_wp2_with (first
              | (go_at_call 94; refine (HO.out _ BA.out).mono ?_; rintro e w1 ⟨rfl, hb1⟩; have e4 := (hb1.cell (p := ⟨wr.heap.size, 4, none⟩) (by simp)).trans CA.out; have HB1 := Lib.hid (BA.out.trans (hb1.mono BA.out.size)); clear hb1)
              | (go_at_call 77; refine (HQ.out _ HB1.out).mono ?_; rintro e w2 ⟨rfl, hb2⟩; have HB2 := Lib.hid (HB1.out.trans (hb2.mono HB1.out.size)); clear hb2))
            go_roundw
            case rel =>
              refine ⟨k + 1, by omega, by go_num, ?_, HB.out.trans (HB2.out.mono HB.out.size)⟩
              intro j hj hjk
              by_cases e : j < k
              · exact HNO.out j hj e
              · obtain rfl : j = k := by omega
                rw [← HX.out]
                exact ⟨HOO.out.symm, HQQ.out.symm⟩
            case measure => simp [intOf]; omega
          · have q1 : (q == 0) = false := by rw [beq_dec]; exact decide_eq_false h1
            have q2 : (q != 0) = true := by rw [bne, q1]; rfl
            have H1 := Lib.hid h1
            clear h1
            go_wp2_with (first
              | (go_at_call 94; refine (HO.out _ BA.out).mono ?_; rintro e w1 ⟨rfl, hb1⟩; have e4 := (hb1.cell (p := ⟨wr.heap.size, 4, none⟩) (by simp)).trans CA.out; have HB1 := Lib.hid (BA.out.trans (hb1.mono BA.out.size)); clear hb1)
              | (go_at_call 77; refine (HQ.out _ HB1.out).mono ?_; rintro e w2 ⟨rfl, hb2⟩; have HB2 := Lib.hid (HB1.out.trans (hb2.mono HB1.out.size)); clear hb2))
            go_ret
            refine ⟨?_, HB.out.trans (HB2.out.mono HB.out.size)⟩
            have hg : oneE p vars m l[k] = q := by
              unfold oneE
              rw [← HX.out, ← HOO.out, ← HQQ.out, if_neg (fun h => h rfl)]
            rw [HRES.out, firstE_at hlt (by rw [hg]; exact H1.out) (fun j hj hjk => oneE_zero (HNO.out j hj hjk)), hg]
            rfl
        · have q1 : (o == 0) = false := by rw [beq_dec]; exact decide_eq_false h0
          have q2 : (o != 0) = true := by rw [bne, q1]; rfl
          have H0 := Lib.hid h0
          clear h0
          go_wp2_with (go_at_call 94; refine (HO.out _ BA.out).mono ?_; rintro e w1 ⟨rfl, hb1⟩; have HB1 := Lib.hid (BA.out.trans (hb1.mono BA.out.size)); clear hb1)
          go_ret
          refine ⟨?_, HB.out.trans (HB1.out.mono HB.out.size)⟩
          have hg : oneE p vars m l[k] = o := by
            unfold oneE
            rw [← HX.out, ← HOO.out, if_pos H0.out]
          rw [HRES.out, firstE_at hlt (by rw [hg]; exact H0.out) (fun j hj hjk => oneE_zero (HNO.out j hj hjk)), hg]
          rfl
      · obtain rfl : k = l.length := by omega
        have HB := Lib.hid hb
        have HR : Hid (exprsE p vars (m + 1) l = 0) := Lib.hid (by
          rw [HRES.out]
          exact firstE_none fun j hj => oneE_zero (HNO.out j hj hj))
        clear hb HNO
        go_wp2
        go_ret
        exact ⟨by rw [HR.out]; rfl, HB.out⟩

section
variable {d : Nat} {w : World} {cb : Nat} {p : LProg} {vars : List ByteArray} {A1 A2 A3 : Option Addr} {c1 c2 c3 : Nat}
theorem st_loop5 (nm : ByteArray) (Aa At Ae : Option Addr) (na ca nt ct ne ce : Nat) (loop : Bool) (q : Int)
    (hq : ∀ X, Below w.heap.size w X → Calls Tryz.prog 77 #[.pointer (some ⟨cb, 0, none⟩), .slice Aa na ca] X fun r w' => r = .returned (.int .i64 q) ∧ Below X.heap.size X w') :
    Calls Tryz.prog 54 #[.pointer (some ⟨cb, 0, none⟩), .agg #[.int .i64 5, .string nm, .slice Aa na ca, .slice At nt ct, .slice Ae ne ce], .bool loop] w fun r w' => r = .returned (.int .i64 (if loop then q else 53)) ∧ Below w.heap.size w w' := by

  have HQ := Lib.hid hq
  have BA : Hid (Below w.heap.size w (w.alloc (.cells #[.int .i64 5, .string nm, .slice Aa na ca, .slice At nt ct, .slice Ae ne ce] 45))) := Lib.hid (below1 _ _)
  have CA : Hid ((w.alloc (.cells #[.int .i64 5, .string nm, .slice Aa na ca, .slice At nt ct, .slice Ae ne ce] 45)).cell? ⟨w.heap.size, 2, none⟩ = some (.slice Aa na ca)) := Lib.hid ((Blk.new w 45 #[.int .i64 5, .string nm, .slice Aa na ca, .slice At nt ct, .slice Ae ne ce]).cell 2)
  clear hq
  cases loop with
  | false =>
    go_enter Tryz.func54, Tryz.ntmps54
    go_wp2_with (first | (go_at_call 74; refine (flag_any _ _ _).mono ?_; rintro e w9 ⟨rfl, rfl⟩))
    go_ret
    exact ⟨rfl, BA.out⟩
  | true =>
    go_enter Tryz.func54, Tryz.ntmps54
    go_wp2_with (first | (go_at_call 74; refine (flag_any _ _ _).mono ?_; rintro e w9 ⟨rfl, rfl⟩) | (go_at_call 77; refine (HQ.out _ BA.out).mono ?_; rintro e w2 ⟨rfl, hb2⟩; have HB2 := Lib.hid (BA.out.trans (hb2.mono BA.out.size)); clear hb2))
    go_ret
    exact ⟨rfl, HB2.out⟩
theorem st_loop6 (nm : ByteArray) (Aa At Ae : Option Addr) (na ca nt ct ne ce : Nat) (loop : Bool) (q : Int)
    (hq : ∀ X, Below w.heap.size w X → Calls Tryz.prog 77 #[.pointer (some ⟨cb, 0, none⟩), .slice Aa na ca] X fun r w' => r = .returned (.int .i64 q) ∧ Below X.heap.size X w') :
    Calls Tryz.prog 54 #[.pointer (some ⟨cb, 0, none⟩), .agg #[.int .i64 6, .string nm, .slice Aa na ca, .slice At nt ct, .slice Ae ne ce], .bool loop] w fun r w' => r = .returned (.int .i64 (if loop then q else 53)) ∧ Below w.heap.size w w' := by

  have HQ := Lib.hid hq
  have BA : Hid (Below w.heap.size w (w.alloc (.cells #[.int .i64 6, .string nm, .slice Aa na ca, .slice At nt ct, .slice Ae ne ce] 45))) := Lib.hid (below1 _ _)
  have CA : Hid ((w.alloc (.cells #[.int .i64 6, .string nm, .slice Aa na ca, .slice At nt ct, .slice Ae ne ce] 45)).cell? ⟨w.heap.size, 2, none⟩ = some (.slice Aa na ca)) := Lib.hid ((Blk.new w 45 #[.int .i64 6, .string nm, .slice Aa na ca, .slice At nt ct, .slice Ae ne ce]).cell 2)
  clear hq
  cases loop with
  | false =>
    go_enter Tryz.func54, Tryz.ntmps54
    go_wp2_with (first | (go_at_call 74; refine (flag_any _ _ _).mono ?_; rintro e w9 ⟨rfl, rfl⟩))
    go_ret
    exact ⟨rfl, BA.out⟩
  | true =>
    go_enter Tryz.func54, Tryz.ntmps54
    go_wp2_with (first | (go_at_call 74; refine (flag_any _ _ _).mono ?_; rintro e w9 ⟨rfl, rfl⟩) | (go_at_call 77; refine (HQ.out _ BA.out).mono ?_; rintro e w2 ⟨rfl, hb2⟩; have HB2 := Lib.hid (BA.out.trans (hb2.mono BA.out.size)); clear hb2))
    go_ret
    exact ⟨rfl, HB2.out⟩
theorem st_set (h : CkAt d w cb p vars A1 A2 A3 c1 c2 c3) (nm : ByteArray) (Aa At Ae : Option Addr) (na ca nt ct ne ce : Nat) (loop : Bool) (q : Int)
    (hq : ∀ X, Below w.heap.size w X → Calls Tryz.prog 77 #[.pointer (some ⟨cb, 0, none⟩), .slice Aa na ca] X fun r w' => r = .returned (.int .i64 q) ∧ Below X.heap.size X w') :
    Calls Tryz.prog 54 #[.pointer (some ⟨cb, 0, none⟩), .agg #[.int .i64 1, .string nm, .slice Aa na ca, .slice At nt ct, .slice Ae ne ce], .bool loop] w fun r w' => r = .returned (.int .i64 (if hasS vars nm then q else 51)) ∧ Below w.heap.size w w' := by
  have HKN := Lib.hid (fun (X : World) (hx : Below w.heap.size w X) => known_any (h.below hx) nm)
  obtain ⟨bq, hbq⟩ : ∃ b, b = hasS vars nm := ⟨_, rfl⟩
  rw [← hbq] at HKN ⊢
  clear hbq
  have HQ := Lib.hid hq
  have BA : Hid (Below w.heap.size w (w.alloc (.cells #[.int .i64 1, .string nm, .slice Aa na ca, .slice At nt ct, .slice Ae ne ce] 45))) := Lib.hid (below1 _ _)
  have CA : Hid ((w.alloc (.cells #[.int .i64 1, .string nm, .slice Aa na ca, .slice At nt ct, .slice Ae ne ce] 45)).cell? ⟨w.heap.size, 2, none⟩ = some (.slice Aa na ca)) := Lib.hid ((Blk.new w 45 #[.int .i64 1, .string nm, .slice Aa na ca, .slice At nt ct, .slice Ae ne ce]).cell 2)
  clear h hq
  cases bq with
  | false =>
    go_enter Tryz.func54, Tryz.ntmps54
    go_wp2_with (first | (go_at_call 75; refine (HKN.out _ BA.out).mono ?_; rintro e w1 ⟨rfl, hb1⟩; have e2 := (hb1.cell (p := ⟨w.heap.size, 2, none⟩) (by simp)).trans CA.out; have HB1 := Lib.hid (BA.out.trans (hb1.mono BA.out.size)); clear hb1) | (go_at_call 74; refine (flag_any _ _ _).mono ?_; rintro e w9 ⟨rfl, rfl⟩))
    go_ret
    exact ⟨rfl, HB1.out⟩
  | true =>
    go_enter Tryz.func54, Tryz.ntmps54
    go_wp2_with (first | (go_at_call 75; refine (HKN.out _ BA.out).mono ?_; rintro e w1 ⟨rfl, hb1⟩; have e2 := (hb1.cell (p := ⟨w.heap.size, 2, none⟩) (by simp)).trans CA.out; have HB1 := Lib.hid (BA.out.trans (hb1.mono BA.out.size)); clear hb1) | (go_at_call 74; refine (flag_any _ _ _).mono ?_; rintro e w9 ⟨rfl, rfl⟩) | (go_at_call 77; refine (HQ.out _ HB1.out).mono ?_; rintro e w2 ⟨rfl, hb2⟩; have HB2 := Lib.hid (HB1.out.trans (hb2.mono HB1.out.size)); clear hb2))
    go_ret
    exact ⟨rfl, HB2.out⟩
theorem st_store (h : CkAt d w cb p vars A1 A2 A3 c1 c2 c3) (nm : ByteArray) (Aa At Ae : Option Addr) (na ca nt ct ne ce : Nat) (loop : Bool) (q : Int)
    (hq : ∀ X, Below w.heap.size w X → Calls Tryz.prog 77 #[.pointer (some ⟨cb, 0, none⟩), .slice Aa na ca] X fun r w' => r = .returned (.int .i64 q) ∧ Below X.heap.size X w') :
    Calls Tryz.prog 54 #[.pointer (some ⟨cb, 0, none⟩), .agg #[.int .i64 2, .string nm, .slice Aa na ca, .slice At nt ct, .slice Ae ne ce], .bool loop] w fun r w' => r = .returned (.int .i64 (if (p.arrays.any fun a => decide (a.1 = nm)) then q else 51)) ∧ Below w.heap.size w w' := by
  have HKN := Lib.hid (fun (X : World) (hx : Below w.heap.size w X) => array_any (h.below hx) nm)
  obtain ⟨bq, hbq⟩ : ∃ b, b = (p.arrays.any fun a => decide (a.1 = nm)) := ⟨_, rfl⟩
  rw [← hbq] at HKN ⊢
  clear hbq
  have HQ := Lib.hid hq
  have BA : Hid (Below w.heap.size w (w.alloc (.cells #[.int .i64 2, .string nm, .slice Aa na ca, .slice At nt ct, .slice Ae ne ce] 45))) := Lib.hid (below1 _ _)
  have CA : Hid ((w.alloc (.cells #[.int .i64 2, .string nm, .slice Aa na ca, .slice At nt ct, .slice Ae ne ce] 45)).cell? ⟨w.heap.size, 2, none⟩ = some (.slice Aa na ca)) := Lib.hid ((Blk.new w 45 #[.int .i64 2, .string nm, .slice Aa na ca, .slice At nt ct, .slice Ae ne ce]).cell 2)
  clear h hq
  cases bq with
  | false =>
    go_enter Tryz.func54, Tryz.ntmps54
    go_wp2_with (first | (go_at_call 76; refine (HKN.out _ BA.out).mono ?_; rintro e w1 ⟨rfl, hb1⟩; have e2 := (hb1.cell (p := ⟨w.heap.size, 2, none⟩) (by simp)).trans CA.out; have HB1 := Lib.hid (BA.out.trans (hb1.mono BA.out.size)); clear hb1) | (go_at_call 74; refine (flag_any _ _ _).mono ?_; rintro e w9 ⟨rfl, rfl⟩))
    go_ret
    exact ⟨rfl, HB1.out⟩
  | true =>
    go_enter Tryz.func54, Tryz.ntmps54
    go_wp2_with (first | (go_at_call 76; refine (HKN.out _ BA.out).mono ?_; rintro e w1 ⟨rfl, hb1⟩; have e2 := (hb1.cell (p := ⟨w.heap.size, 2, none⟩) (by simp)).trans CA.out; have HB1 := Lib.hid (BA.out.trans (hb1.mono BA.out.size)); clear hb1) | (go_at_call 74; refine (flag_any _ _ _).mono ?_; rintro e w9 ⟨rfl, rfl⟩) | (go_at_call 77; refine (HQ.out _ HB1.out).mono ?_; rintro e w2 ⟨rfl, hb2⟩; have HB2 := Lib.hid (HB1.out.trans (hb2.mono HB1.out.size)); clear hb2))
    go_ret
    exact ⟨rfl, HB2.out⟩
theorem st_other (k : Int) (h1 : (k == 1) = false) (h2 : (k == 2) = false) (h5 : (k == 5) = false) (h6 : (k == 6) = false) (nm : ByteArray) (Aa At Ae : Option Addr) (na ca nt ct ne ce : Nat) (loop : Bool) (q : Int)
    (hq : ∀ X, Below w.heap.size w X → Calls Tryz.prog 77 #[.pointer (some ⟨cb, 0, none⟩), .slice Aa na ca] X fun r w' => r = .returned (.int .i64 q) ∧ Below X.heap.size X w') :
    Calls Tryz.prog 54 #[.pointer (some ⟨cb, 0, none⟩), .agg #[.int .i64 k, .string nm, .slice Aa na ca, .slice At nt ct, .slice Ae ne ce], .bool loop] w fun r w' => r = .returned (.int .i64 (q)) ∧ Below w.heap.size w w' := by

  have HQ := Lib.hid hq
  have BA : Hid (Below w.heap.size w (w.alloc (.cells #[.int .i64 k, .string nm, .slice Aa na ca, .slice At nt ct, .slice Ae ne ce] 45))) := Lib.hid (below1 _ _)
  have CA : Hid ((w.alloc (.cells #[.int .i64 k, .string nm, .slice Aa na ca, .slice At nt ct, .slice Ae ne ce] 45)).cell? ⟨w.heap.size, 2, none⟩ = some (.slice Aa na ca)) := Lib.hid ((Blk.new w 45 #[.int .i64 k, .string nm, .slice Aa na ca, .slice At nt ct, .slice Ae ne ce]).cell 2)
  clear hq
  go_enter Tryz.func54, Tryz.ntmps54
  go_wp2_with (first | (go_at_call 77; refine (HQ.out _ BA.out).mono ?_; rintro e w2 ⟨rfl, hb2⟩; have HB2 := Lib.hid (BA.out.trans (hb2.mono BA.out.size)); clear hb2))
  go_ret
  exact ⟨rfl, HB2.out⟩
/-- checker.stmt at a statement whose expressions are m deep at most -/
theorem stmt_ck (h : CkAt d w cb p vars A1 A2 A3 c1 c2 c3) (m : Nat) (s : LStmt) (Aa At Ae : Option Addr) (ca nt ct ne ce : Nat) (loop : Bool) (hs : SlR w (· < w.heap.size) 5 (RExpr m w (· < w.heap.size)) (.slice Aa s.args.length ca) s.args) :
    Calls Tryz.prog 54 #[.pointer (some ⟨cb, 0, none⟩), .agg #[.int .i64 s.kind, .string s.name, .slice Aa s.args.length ca, .slice At nt ct, .slice Ae ne ce], .bool loop] w fun r w' => r = .returned (.int .i64 (stmtE p vars m s loop)) ∧ Below w.heap.size w w' := by
  have hq : ∀ X, Below w.heap.size w X → Calls Tryz.prog 77 #[.pointer (some ⟨cb, 0, none⟩), .slice Aa s.args.length ca] X fun r w' => r = .returned (.int .i64 (exprsE p vars m s.args)) ∧ Below X.heap.size X w' := fun X hX =>
    exprs_any d m X cb p vars A1 A2 A3 c1 c2 c3 (h.below hX) s.args _ (hs.imp (fun b h => Nat.lt_of_lt_of_le h hX.size) (fun b h => hX.block b h) fun _ _ _ r => RExpr.imp (fun b h => Nat.lt_of_lt_of_le h hX.size) (fun b h => hX.block b h) _ r)
  by_cases h5 : s.kind = 5
  · have he : stmtE p vars m s loop = if loop then exprsE p vars m s.args else 53 := by
      unfold stmtE
      simp only [h5, true_or, if_true]
      cases loop <;> simp
    rw [he, h5]
    exact st_loop5 s.name Aa At Ae _ ca nt ct ne ce loop _ hq
  by_cases h6 : s.kind = 6
  · have he : stmtE p vars m s loop = if loop then exprsE p vars m s.args else 53 := by
      unfold stmtE
      simp only [h6, or_true, if_true]
      cases loop <;> simp
    rw [he, h6]
    exact st_loop6 s.name Aa At Ae _ ca nt ct ne ce loop _ hq
  have h56 : ¬ (s.kind = 5 ∨ s.kind = 6) := fun h => h.elim h5 h6
  by_cases h1 : s.kind = 1
  · have he : stmtE p vars m s loop = if hasS vars s.name then exprsE p vars m s.args else 51 := by
      unfold stmtE
      rw [if_neg h56, if_pos h1]
      cases hasS vars s.name <;> simp
    rw [he, h1]
    exact st_set h s.name Aa At Ae _ ca nt ct ne ce loop _ hq
  by_cases h2 : s.kind = 2
  · have he : stmtE p vars m s loop = if (p.arrays.any fun a => decide (a.1 = s.name)) then exprsE p vars m s.args else 51 := by
      unfold stmtE
      rw [if_neg h56, if_neg h1, if_pos h2]
      cases (p.arrays.any fun a => decide (a.1 = s.name)) <;> simp
    rw [he, h2]
    exact st_store h s.name Aa At Ae _ ca nt ct ne ce loop _ hq
  · have he : stmtE p vars m s loop = exprsE p vars m s.args := by
      unfold stmtE
      rw [if_neg h56, if_neg h1, if_neg h2]
      simp
    rw [he]
    exact st_other s.kind (by rw [beq_dec]; exact decide_eq_false h1) (by rw [beq_dec]; exact decide_eq_false h2) (by rw [beq_dec]; exact decide_eq_false h5) (by rw [beq_dec]; exact decide_eq_false h6) s.name Aa At Ae _ ca nt ct ne ce loop _ hq
end
end Go.Proofs.YtmignlclfbaifaaGreat
