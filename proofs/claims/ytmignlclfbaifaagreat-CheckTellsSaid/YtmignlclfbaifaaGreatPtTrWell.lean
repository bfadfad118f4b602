/- What tree.only, tree.well, tree.RightExpr, tree.named tell. -/
import Derived.Test.YtmignlclfbaifaaGreatPtTrOnly
set_option maxRecDepth 100000
namespace Go.Proofs.YtmignlclfbaifaaGreat
open Go.RowKit
set_option maxHeartbeats 4000000 in
theorem only_any (e:LExpr) (A:Option Addr) (c:Nat) (w:World):Calls Tryz.prog 113 #[.agg #[.int .i64 e.kind,.int .i64 e.op,.int .i64 e.n,.string e.name,.slice A e.args.length c]] w fun r w'=>∃(o n:Int) (s:ByteArray) (a:Int) (ok:Bool),
  r=.returned (.tuple #[.agg #[.int .i64 e.kind,.int .i64 o,.int .i64 n,.string s,.slice none 0 0],.int .i64 a,.bool ok])∧Below w.heap.size w w'∧(ok && ((e.args.length:Int) == a) && (o == e.op) && (n == e.n) && (s.toList == e.name.toList))=bareE e:=by
 obtain ⟨k,op,n,s,l⟩:=e
 show Calls Tryz.prog 113 #[.agg #[.int .i64 k,.int .i64 op,.int .i64 n,.string s,.slice A l.length c]] w _
 rcases (by omega:k=1∨k=2∨k=3∨k=4∨k=5∨k=6∨k=7∨(k<1∨7<k)) with rfl|rfl|rfl|rfl|rfl|rfl|rfl|hk
 ·refine (only1 op n s l.length c A w).mono ?_
  rintro r w' ⟨rfl,hb⟩
  refine ⟨_,_,_,_,_,rfl,hb,?_⟩
  show (decide (0≤n) && ((l.length:Int) == 0) && (0 == op) && (n == n) && ((⟨#[]⟩:ByteArray).toList == s.toList))=bareE (LExpr.mk 1 op n s l)
  rw [show bareE (LExpr.mk 1 op n s l)=(decide (0≤n) && decide (op=0) && decide (s=⟨#[]⟩) && decide (l.length=0)) from rfl,tl_beq,beq_dec,beq_dec,beq_dec,Bool.eq_iff_iff]
  simp only [Bool.and_eq_true,decide_eq_true_eq]
  constructor
  ·rintro ⟨⟨⟨⟨h1,h2⟩,h3⟩,h4⟩,h5⟩
   refine ⟨⟨⟨?_,?_⟩,?_⟩,?_⟩ <;> first|assumption|trivial|exact h5.symm|omega
  ·rintro ⟨⟨⟨h1,h2⟩,h3⟩,h4⟩
   refine ⟨⟨⟨⟨?_,?_⟩,?_⟩,?_⟩,?_⟩ <;> first|assumption|trivial|rfl|exact h3.symm|omega
 ·refine (only2 op n s l.length c A w).mono ?_
  rintro r w' ⟨rfl,hb⟩
  refine ⟨_,_,_,_,_,rfl,hb,?_⟩
  show (nameB s && ((l.length:Int) == 0) && (0 == op) && (0 == n) && ((s:ByteArray).toList == s.toList))=bareE (LExpr.mk 2 op n s l)
  rw [show bareE (LExpr.mk 2 op n s l)=(nameB s && decide (op=0) && decide (n=0) && decide (l.length=0)) from rfl,tl_beq,beq_dec,beq_dec,beq_dec,Bool.eq_iff_iff]
  simp only [Bool.and_eq_true,decide_eq_true_eq]
  constructor
  ·rintro ⟨⟨⟨⟨h1,h2⟩,h3⟩,h4⟩,h5⟩
   refine ⟨⟨⟨?_,?_⟩,?_⟩,?_⟩ <;> first|assumption|trivial|exact h5.symm|omega
  ·rintro ⟨⟨⟨h1,h2⟩,h3⟩,h4⟩
   refine ⟨⟨⟨⟨?_,?_⟩,?_⟩,?_⟩,?_⟩ <;> first|assumption|trivial|rfl|exact h3.symm|omega
 ·by_cases h1:op=17
  ·subst h1
   refine (only3a n s l.length c A w).mono ?_
   rintro r w' ⟨rfl,hb⟩
   refine ⟨_,_,_,_,_,rfl,hb,?_⟩
   show (true && ((l.length:Int) == 1) && (17 == (17:Int)) && (0 == n) && ((⟨#[]⟩:ByteArray).toList == s.toList))=bareE (LExpr.mk 3 (17:Int) n s l)
   rw [show bareE (LExpr.mk 3 (17:Int) n s l)=(decide (((17:Int)=17)∨((17:Int)=18)∨((17:Int)=19)) && decide (n=0) && decide (s=⟨#[]⟩) && decide (l.length=1)) from rfl,tl_beq,beq_dec,beq_dec,beq_dec,Bool.eq_iff_iff]
   simp only [Bool.and_eq_true,decide_eq_true_eq]
   constructor
   ·rintro ⟨⟨⟨⟨h1,h2⟩,h3⟩,h4⟩,h5⟩
    refine ⟨⟨⟨?_,?_⟩,?_⟩,?_⟩ <;> first|assumption|trivial|exact h5.symm|omega
   ·rintro ⟨⟨⟨h1,h2⟩,h3⟩,h4⟩
    refine ⟨⟨⟨⟨?_,?_⟩,?_⟩,?_⟩,?_⟩ <;> first|assumption|trivial|rfl|exact h3.symm|omega
  by_cases h2:op=18
  ·subst h2
   refine (only3b n s l.length c A w).mono ?_
   rintro r w' ⟨rfl,hb⟩
   refine ⟨_,_,_,_,_,rfl,hb,?_⟩
   show (true && ((l.length:Int) == 1) && (18 == (18:Int)) && (0 == n) && ((⟨#[]⟩:ByteArray).toList == s.toList))=bareE (LExpr.mk 3 (18:Int) n s l)
   rw [show bareE (LExpr.mk 3 (18:Int) n s l)=(decide (((18:Int)=17)∨((18:Int)=18)∨((18:Int)=19)) && decide (n=0) && decide (s=⟨#[]⟩) && decide (l.length=1)) from rfl,tl_beq,beq_dec,beq_dec,beq_dec,Bool.eq_iff_iff]
   simp only [Bool.and_eq_true,decide_eq_true_eq]
   constructor
   ·rintro ⟨⟨⟨⟨h1,h2⟩,h3⟩,h4⟩,h5⟩
    refine ⟨⟨⟨?_,?_⟩,?_⟩,?_⟩ <;> first|assumption|trivial|exact h5.symm|omega
   ·rintro ⟨⟨⟨h1,h2⟩,h3⟩,h4⟩
    refine ⟨⟨⟨⟨?_,?_⟩,?_⟩,?_⟩,?_⟩ <;> first|assumption|trivial|rfl|exact h3.symm|omega
  by_cases h3:op=19
  ·subst h3
   refine (only3c n s l.length c A w).mono ?_
   rintro r w' ⟨rfl,hb⟩
   refine ⟨_,_,_,_,_,rfl,hb,?_⟩
   show (true && ((l.length:Int) == 1) && (19 == (19:Int)) && (0 == n) && ((⟨#[]⟩:ByteArray).toList == s.toList))=bareE (LExpr.mk 3 (19:Int) n s l)
   rw [show bareE (LExpr.mk 3 (19:Int) n s l)=(decide (((19:Int)=17)∨((19:Int)=18)∨((19:Int)=19)) && decide (n=0) && decide (s=⟨#[]⟩) && decide (l.length=1)) from rfl,tl_beq,beq_dec,beq_dec,beq_dec,Bool.eq_iff_iff]
   simp only [Bool.and_eq_true,decide_eq_true_eq]
   constructor
   ·rintro ⟨⟨⟨⟨h1,h2⟩,h3⟩,h4⟩,h5⟩
    refine ⟨⟨⟨?_,?_⟩,?_⟩,?_⟩ <;> first|assumption|trivial|exact h5.symm|omega
   ·rintro ⟨⟨⟨h1,h2⟩,h3⟩,h4⟩
    refine ⟨⟨⟨⟨?_,?_⟩,?_⟩,?_⟩,?_⟩ <;> first|assumption|trivial|rfl|exact h3.symm|omega
  ·refine (only3d op n s l.length c A w (by rw [beq_dec];exact dF h1) (by rw [beq_dec];exact dF h2) (by rw [beq_dec];exact dF h3)).mono ?_
   rintro r w' ⟨rfl,hb⟩
   refine ⟨_,_,_,_,_,rfl,hb,?_⟩
   simp [bareE,LExpr.kind,LExpr.op,LExpr.n,LExpr.name,LExpr.args,h1,h2,h3]
 ·have hl:(0<Ar.lvl op)↔(1≤op∧op≤16):=by
   unfold Ar.lvl
   repeat' split
   all_goals omega
  refine (only4 op n s l.length c A w).mono ?_
  rintro r w' ⟨rfl,hb⟩
  refine ⟨_,_,_,_,_,rfl,hb,?_⟩
  show (decide (0<Ar.lvl op) && ((l.length:Int) == 2) && (op == op) && (0 == n) && ((⟨#[]⟩:ByteArray).toList == s.toList))=bareE (LExpr.mk 4 op n s l)
  rw [show bareE (LExpr.mk 4 op n s l)=(decide (1≤op∧op≤16) && decide (n=0) && decide (s=⟨#[]⟩) && decide (l.length=2)) from rfl,tl_beq,beq_dec,beq_dec,beq_dec,Bool.eq_iff_iff]
  simp only [Bool.and_eq_true,decide_eq_true_eq,hl]
  constructor
  ·rintro ⟨⟨⟨⟨h1,h2⟩,h3⟩,h4⟩,h5⟩
   refine ⟨⟨⟨?_,?_⟩,?_⟩,?_⟩ <;> first|assumption|trivial|exact h5.symm|omega
  ·rintro ⟨⟨⟨h1,h2⟩,h3⟩,h4⟩
   refine ⟨⟨⟨⟨?_,?_⟩,?_⟩,?_⟩,?_⟩ <;> first|assumption|trivial|rfl|exact h3.symm|omega
 ·cases hn:nameB s with
  |true=>
   refine (only5y op n s l.length c A w hn).mono ?_
   rintro r w' ⟨rfl,hb⟩
   refine ⟨_,_,_,_,_,rfl,hb,?_⟩
   show (decide ((l.length:Int)≤6) && ((l.length:Int) == (l.length:Int)) && (0 == op) && (0 == n) && ((s:ByteArray).toList == s.toList))=bareE (LExpr.mk 5 op n s l)
   rw [show bareE (LExpr.mk 5 op n s l)=(nameB s && decide (op=0) && decide (n=0) && decide (l.length≤6)) from rfl,tl_beq,beq_dec,beq_dec,beq_dec,Bool.eq_iff_iff]
   simp only [Bool.and_eq_true,decide_eq_true_eq,hn]
   constructor
   ·rintro ⟨⟨⟨⟨h1,h2⟩,h3⟩,h4⟩,h5⟩
    refine ⟨⟨⟨?_,?_⟩,?_⟩,?_⟩ <;> first|assumption|trivial|exact h5.symm|omega
   ·rintro ⟨⟨⟨h1,h2⟩,h3⟩,h4⟩
    refine ⟨⟨⟨⟨?_,?_⟩,?_⟩,?_⟩,?_⟩ <;> first|assumption|trivial|rfl|exact h3.symm|omega
  |false=>
   refine (only5n op n s l.length c A w hn).mono ?_
   rintro r w' ⟨rfl,hb⟩
   refine ⟨_,_,_,_,_,rfl,hb,?_⟩
   simp [bareE,LExpr.kind,LExpr.op,LExpr.n,LExpr.name,LExpr.args,hn]
 ·refine (only6 op n s l.length c A w).mono ?_
  rintro r w' ⟨rfl,hb⟩
  refine ⟨_,_,_,_,_,rfl,hb,?_⟩
  show (nameB s && ((l.length:Int) == 1) && (0 == op) && (0 == n) && ((s:ByteArray).toList == s.toList))=bareE (LExpr.mk 6 op n s l)
  rw [show bareE (LExpr.mk 6 op n s l)=(nameB s && decide (op=0) && decide (n=0) && decide (l.length=1)) from rfl,tl_beq,beq_dec,beq_dec,beq_dec,Bool.eq_iff_iff]
  simp only [Bool.and_eq_true,decide_eq_true_eq]
  constructor
  ·rintro ⟨⟨⟨⟨h1,h2⟩,h3⟩,h4⟩,h5⟩
   refine ⟨⟨⟨?_,?_⟩,?_⟩,?_⟩ <;> first|assumption|trivial|exact h5.symm|omega
  ·rintro ⟨⟨⟨h1,h2⟩,h3⟩,h4⟩
   refine ⟨⟨⟨⟨?_,?_⟩,?_⟩,?_⟩,?_⟩ <;> first|assumption|trivial|rfl|exact h3.symm|omega
 ·refine (only7 op n s l.length c A w).mono ?_
  rintro r w' ⟨rfl,hb⟩
  refine ⟨_,_,_,_,_,rfl,hb,?_⟩
  show (true && ((l.length:Int) == 0) && (0 == op) && (0 == n) && ((⟨#[]⟩:ByteArray).toList == s.toList))=bareE (LExpr.mk 7 op n s l)
  rw [show bareE (LExpr.mk 7 op n s l)=(decide (op=0) && decide (n=0) && decide (s=⟨#[]⟩) && decide (l.length=0)) from rfl,tl_beq,beq_dec,beq_dec,beq_dec,Bool.eq_iff_iff]
  simp only [Bool.and_eq_true,decide_eq_true_eq]
  constructor
  ·rintro ⟨⟨⟨⟨h1,h2⟩,h3⟩,h4⟩,h5⟩
   refine ⟨⟨⟨?_,?_⟩,?_⟩,?_⟩ <;> first|assumption|trivial|exact h5.symm|omega
  ·rintro ⟨⟨⟨h1,h2⟩,h3⟩,h4⟩
   refine ⟨⟨⟨⟨?_,?_⟩,?_⟩,?_⟩,?_⟩ <;> first|assumption|trivial|rfl|exact h3.symm|omega
 ·have hne:∀q:Int,1≤q→q≤7→(k == q)=false:=fun q h1 h2=>by rw [beq_dec];exact dF (by omega)
  refine (only0 k op n s l.length c A w (hne 1 (by decide) (by decide)) (hne 2 (by decide) (by decide)) (hne 3 (by decide) (by decide)) (hne 4 (by decide) (by decide)) (hne 5 (by decide) (by decide)) (hne 6 (by decide) (by decide)) (hne 7 (by decide) (by decide))).mono ?_
  rintro r w' ⟨rfl,hb⟩
  refine ⟨_,_,_,_,_,rfl,hb,?_⟩
  have hb:bareE (LExpr.mk k op n s l)=false:=by
   have hk:∀q:Int,1≤q→q≤7→¬(LExpr.mk k op n s l).kind=q:=fun q h1 h2 e=>by
    have e2:k=q:=e
    omega
   unfold bareE
   rw [if_neg (hk 1 (by decide) (by decide)),if_neg (hk 2 (by decide) (by decide)),if_neg (hk 3 (by decide) (by decide)),if_neg (hk 4 (by decide) (by decide)),if_neg (hk 5 (by decide) (by decide)),if_neg (hk 6 (by decide) (by decide)),if_neg (hk 7 (by decide) (by decide))]
  rw [hb]
  rfl
def WellAt (d:Nat):Prop:=∀(e:LExpr) (va:Value) (w:World),SlR w (· < w.heap.size) 5 (RExpr d w (· < w.heap.size)) va e.args→Calls Tryz.prog 99 #[.agg #[.int .i64 e.kind,.int .i64 e.op,.int .i64 e.n,.string e.name,va]] w fun r w'=>r=.returned (.bool (wellE (d+1) e))∧Below w.heap.size w w'
theorem well1_pred (d:Nat) (h:WellAt d) (l:List LExpr) (w:World):Pred_exp d 114 #[] (fun x=>!wellE (d+1) x) l w:=by
 intro W cs x hx hr hb
 obtain ⟨va,rfl,hs⟩:=hr
 obtain ⟨A,c,hva,_,_⟩:=hs.val
 subst hva
 have HB:=Ω hb
 have HS:=Ω (fun (X:World) (hx:Below W.heap.size W X)=>h x (.slice A x.args.length c) X (hs.imp (fun b h=>ltle h hx.size) (fun b h=>hx.block b h) (fun _ _ _ r=>RExpr.imp (fun b h=>ltle h hx.size) (fun b h=>hx.block b h) _ r)))
 clear hb hs h
 show Calls Tryz.prog 114 #[.agg #[.int .i64 x.kind,.int .i64 x.op,.int .i64 x.n,.string x.name,.slice A x.args.length c]] W _
 go_enter Tryz.func114,Tryz.ntmps114
 go_wp2_with (go_at_call 99;refine (HS.out _ (below1 _ _)).mono ?_;rintro e w' ⟨rfl,hb2⟩)
 go_ret
 exact ⟨rfl,HB.out.trans (((below1 _ _).trans (hb2.mono (by simp))).mono HB.out.size)⟩
theorem well_walk (e:LExpr) (A:Option Addr) (c:Nat) (w:World) (d:Nat) (q:LExpr→Bool) (hs:SlR w (· < w.heap.size) 5 (RExpr (d+1) w (· < w.heap.size)) (.slice A e.args.length c) e.args) (hp:∀W:World,Pred_exp d 114 #[] (fun x=>!q x) e.args W) :
  Calls Tryz.prog 99 #[.agg #[.int .i64 e.kind,.int .i64 e.op,.int .i64 e.n,.string e.name,.slice A e.args.length c]] w fun r w'=>r=.returned (.bool (bareE e && e.args.all q))∧Below w.heap.size w w':=by
 have HO:=Ω (fun w=>only_any e A c w)
 have HC:=Ω (fun (X:World) (hx:Below w.heap.size w X)=>con_well1 d e.args (.slice A e.args.length c) (fun x=>!q x) X (hs.imp (fun b h=>ltle h hx.size) (fun b h=>hx.block b h) (fun _ _ _ r=>RExpr.imp (fun b h=>ltle h hx.size) (fun b h=>hx.block b h) _ r)) (hp X))
 have hall:(!e.args.any fun x=>!q x)=e.args.all q:=by
  rw [List.not_any_eq_all_not]
  simp
 have HALL:=Ω hall
 clear hs hp hall
 go_enter Tryz.func99,Tryz.ntmps99
 go_upto_region 1 with fail
 refine wp_world ?_
 intro W hW
 have hG:Blk W w.heap.size 42 #[.int .i64 e.kind,.int .i64 e.op,.int .i64 e.n,.string e.name,.slice A e.args.length c]:=by rw [←hW];exact Blk.new _ _ _
 have hB:Below w.heap.size w W:=by rw [←hW];exact below1 _ _
 obtain ⟨a0,a1,a2,a3,a4⟩:=hG.c5
 have hlt:w.heap.size<W.heap.size:=hG.lt
 have HG:=Ω hG
 have HB:=Ω hB
 clear hW hG hB
 go_upto_region 2 with (go_at_call 113;refine (HO.out W).mono ?_;rintro r W1 ⟨o,n,s,a,ok,rfl,hb1,hbare⟩;have HB1:=Ω hb1;have HBARE:=Ω hbare;clear hb1 hbare)
 refine wp_world ?_
 intro W2 hW2
 have hX:Blk W2 W1.heap.size 42 #[.int .i64 e.kind,.int .i64 o,.int .i64 n,.string s,.slice none 0 0]:=by rw [←hW2];exact Blk.new_at _ _ _ rfl
 have hG:Blk W2 w.heap.size 42 #[.int .i64 e.kind,.int .i64 e.op,.int .i64 e.n,.string e.name,.slice A e.args.length c]:=by rw [←hW2];exact (HG.out.below HB1.out hlt).alloc _
 have hB:Below w.heap.size w W2:=by rw [←hW2];exact (HB.out.trans (HB1.out.mono HB.out.size)).alloc (Nat.le_trans HB.out.size HB1.out.size) _
 clear a0 a1 a2 a3 a4
 have a1:W2.cell? ⟨w.heap.size,1,none⟩=some (.int .i64 e.op):=hG.cell 1
 have a2:W2.cell? ⟨w.heap.size,2,none⟩=some (.int .i64 e.n):=hG.cell 2
 have a3:W2.cell? ⟨w.heap.size,3,none⟩=some (.string e.name):=hG.cell 3
 have a4:W2.cell? ⟨w.heap.size,4,none⟩=some (.slice A e.args.length c):=hG.cell 4
 have x1:W2.cell? ⟨W1.heap.size,1,none⟩=some (.int .i64 o):=hX.cell 1
 have x2:W2.cell? ⟨W1.heap.size,2,none⟩=some (.int .i64 n):=hX.cell 2
 have x3:W2.cell? ⟨W1.heap.size,3,none⟩=some (.string s):=hX.cell 3
 have HB2:=Ω hB
 clear hW2 hX hG hB hlt
 have hE:=HBARE.out
 clear HBARE
 cases h1:ok with
 |false=>
  rw [h1] at hE
  have HE:=Ω hE
  clear h1 hE
  go_wp2
  go_ret
  exact ⟨by rw [←HE.out];rfl,HB2.out⟩
 |true=>
 cases h2:((e.args.length:Int) == a) with
 |false=>
  rw [h1,h2] at hE
  have HE:=Ω hE
  clear h1 hE
  go_wp2
  go_ret
  exact ⟨by rw [←HE.out];rfl,HB2.out⟩
 |true=>
 cases h3:(o == e.op) with
 |false=>
  rw [h1,h2,h3] at hE
  have HE:=Ω hE
  clear h1 hE
  go_wp2
  go_ret
  exact ⟨by rw [←HE.out];rfl,HB2.out⟩
 |true=>
 cases h4:(n == e.n) with
 |false=>
  rw [h1,h2,h3,h4] at hE
  have HE:=Ω hE
  clear h1 hE
  go_wp2
  go_ret
  exact ⟨by rw [←HE.out];rfl,HB2.out⟩
 |true=>
 cases h5:(s.toList == e.name.toList) with
 |false=>
  rw [h1,h2,h3,h4,h5] at hE
  have HE:=Ω hE
  clear h1 hE
  go_wp2
  go_ret
  exact ⟨by rw [←HE.out];rfl,HB2.out⟩
 |true=>
  rw [h1,h2,h3,h4,h5] at hE
  have HE:=Ω hE
  clear h1 hE
  go_wp2_with (go_at_call 88;refine (HC.out W2 HB2.out).mono ?_;rintro r w' ⟨rfl,hb⟩)
  go_ret
  exact ⟨by rw [←HE.out,←HALL.out];rfl,HB2.out.trans (hb.mono HB2.out.size)⟩
theorem well_any:∀d:Nat,WellAt d
 |0=>by
  intro e va w hs
  obtain ⟨A,c,rfl,_,_⟩:=hs.val
  have he:e.args.length=0:=by
   rcases Nat.eq_zero_or_pos e.args.length with h|h
   ·exact h
   ·obtain ⟨_,_,_,_,_,_,_,hel⟩:=hs.form h
    obtain ⟨_,_,hr,_⟩:=hel 0 h
    exact hr.elim
  have hn:e.args=[]:=List.eq_nil_of_length_eq_zero he
  refine (well_walk e A c w 0 (wellE 0) (hs.imp (fun _ h=>h) (Keeps.refl _ _) fun _ _ _ r=>RExpr.up 0 (Nat.zero_le 1) r) (fun W W' cs x hx=>by rw [hn] at hx;cases hx)).mono ?_
  exact fun r w' h=>h
 |d+1=>by
  intro e va w hs
  obtain ⟨A,c,rfl,_,_⟩:=hs.val
  refine (well_walk e A c w d (wellE (d+1)) hs (fun W=>well1_pred d (well_any d) e.args W)).mono ?_
  exact fun r w' h=>h
theorem rightx_any (d:Nat) (e:LExpr) (va:Value) (w:World) (hs:SlR w (· < w.heap.size) 5 (RExpr d w (· < w.heap.size)) va e.args) :
  Calls Tryz.prog 90 #[.agg #[.int .i64 e.kind,.int .i64 e.op,.int .i64 e.n,.string e.name,va]] w fun r w'=>r=.returned (.bool (deepE 40 e && wellE (d+1) e))∧Below w.heap.size w w':=by
 obtain ⟨A,c,hva,_,_⟩:=hs.val
 subst hva
 have HD:=Ω (fun (X:World) (hx:Below w.heap.size w X)=>deep_any d 40 (by decide) e (.slice A e.args.length c) X (hs.imp (fun b h=>ltle h hx.size) (fun b h=>hx.block b h) (fun _ _ _ r=>RExpr.imp (fun b h=>ltle h hx.size) (fun b h=>hx.block b h) _ r)))
 have HW:=Ω (fun (X:World) (hx:Below w.heap.size w X)=>well_any d e (.slice A e.args.length c) X (hs.imp (fun b h=>ltle h hx.size) (fun b h=>hx.block b h) (fun _ _ _ r=>RExpr.imp (fun b h=>ltle h hx.size) (fun b h=>hx.block b h) _ r)))
 clear hs
 cases hd:deepE 40 e with
 |false=>
  have HD2:Hid (∀X:World,Below w.heap.size w X→Calls Tryz.prog 98 #[.agg #[.int .i64 e.kind,.int .i64 e.op,.int .i64 e.n,.string e.name,.slice A e.args.length c],.int .i64 40] X fun r w'=>r=.returned (.bool false)∧Below X.heap.size X w'):=Ω (fun X hx=>by have:=HD.out X hx;rw [hd] at this;exact this)
  clear hd HD
  go_enter Tryz.func90,Tryz.ntmps90
  go_wp2_with (go_at_call 98;refine (HD2.out _ (below1 _ _)).mono ?_;rintro e w' ⟨rfl,hb⟩)
  go_ret
  exact ⟨rfl,(below1 _ _).trans (hb.mono (by simp))⟩
 |true=>
  have HD2:Hid (∀X:World,Below w.heap.size w X→Calls Tryz.prog 98 #[.agg #[.int .i64 e.kind,.int .i64 e.op,.int .i64 e.n,.string e.name,.slice A e.args.length c],.int .i64 40] X fun r w'=>r=.returned (.bool true)∧Below X.heap.size X w'):=Ω (fun X hx=>by have:=HD.out X hx;rw [hd] at this;exact this)
  clear hd HD
  go_enter Tryz.func90,Tryz.ntmps90
  go_upto_region 1 with fail
  refine wp_world ?_
  intro W hW
  have hG:Blk W w.heap.size 42 #[.int .i64 e.kind,.int .i64 e.op,.int .i64 e.n,.string e.name,.slice A e.args.length c]:=by rw [←hW];exact Blk.new _ _ _
  have hB:Below w.heap.size w W:=by rw [←hW];exact below1 _ _
  obtain ⟨a0,a1,a2,a3,a4⟩:=hG.c5
  have hlt:w.heap.size<W.heap.size:=hG.lt
  have HG:=Ω hG
  have HB:=Ω hB
  clear hW hG hB
  go_wp2_with (first
   |(go_at_call 98;refine (HD2.out W HB.out).mono ?_;rintro r W1 ⟨rfl,hb1⟩;have b0:=(hb1.cell (p:=⟨w.heap.size,0,none⟩) hlt).trans a0;have b1:=(hb1.cell (p:=⟨w.heap.size,1,none⟩) hlt).trans a1;have b2:=(hb1.cell (p:=⟨w.heap.size,2,none⟩) hlt).trans a2;have b3:=(hb1.cell (p:=⟨w.heap.size,3,none⟩) hlt).trans a3;have b4:=(hb1.cell (p:=⟨w.heap.size,4,none⟩) hlt).trans a4;have HB1:=Ω (HB.out.trans (hb1.mono HB.out.size));clear hb1)
   |(go_at_call 99;refine (HW.out _ HB1.out).mono ?_;rintro r W2 ⟨rfl,hb2⟩))
  go_ret
  exact ⟨by rw [Bool.true_and];rfl,HB1.out.trans (hb2.mono HB1.out.size)⟩
end Go.Proofs.YtmignlclfbaifaaGreat
