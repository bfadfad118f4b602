/- The document's expr (counterproofref05): oneE. Printed by wip/gen_rfown.py. The document's one (counterproofref05): stmtE. Printed by wip/gen_rfone.py. The document's stmts (counterproofref05): what is wrong first, and how many statements there are up to it. Printed by wip/gen_rfsts.py. -/
import Derived.Test.YtmignlclfbaifaaGreatPtRfB
import Derived.Test.YtmignlclfbaifaaGreatPtTrCk
namespace Go.Proofs.YtmignlclfbaifaaGreat
open Go.RowKit
structure DocIn (d:Nat) (w:World) (p:LProg) (vars:List ByteArray) (A1 A2 Av:Option Addr) (n1 n2 nv c1 c2 cv:Nat):Prop where
 ha:SlR w (· < w.heap.size) 2 RArr (.slice A1 n1 c1) p.arrays
 hf:SlR w (· < w.heap.size) 4 (RFunc d w (· < w.heap.size)) (.slice A2 n2 c2) p.funcs
 hv:SlR w (· < w.heap.size) 1 RStr (.slice Av nv cv) vars
 e1:n1=p.arrays.length
 e2:n2=p.funcs.length
 ev:nv=vars.length
theorem DocIn.below {d:Nat} {w X:World} {p:LProg} {vars:List ByteArray} {A1 A2 Av:Option Addr} {n1 n2 nv c1 c2 cv:Nat} (h:DocIn d w p vars A1 A2 Av n1 n2 nv c1 c2 cv) (hX:Below w.heap.size w X):DocIn d X p vars A1 A2 Av n1 n2 nv c1 c2 cv:=
 ⟨h.ha.imp (fun _ hb=>ltle hb hX.size) (Keeps.of_below hX) fun _ _ _ r=>r,
  h.hf.imp (fun _ hb=>ltle hb hX.size) (Keeps.of_below hX) fun _ _ _ r=>r.imp (fun _ hb=>ltle hb hX.size) (Keeps.of_below hX),
  h.hv.imp (fun _ hb=>ltle hb hX.size) (Keeps.of_below hX) fun _ _ _ r=>r,h.e1,h.e2,h.ev⟩
theorem findP_find {α:Type} (q:α→Bool):∀l:List α,(findP q l=-1∧l.find? q=none∧l.any q=false)∨∃(i:Nat) (hi:i<l.length),findP q l=(i:Int)∧l.find? q=some l[i]∧l.any q=true
 |[]=>.inl ⟨rfl,rfl,rfl⟩
 |x :: l=>by
  cases hx:q x with
  |true=>exact .inr ⟨0,by simp,by simp [findP,hx],by simp [hx],by simp [hx]⟩
  |false=>
   rcases findP_find q l with ⟨h1,h2,h3⟩|⟨i,hi,h1,h2,h3⟩
   ·exact .inl ⟨by simp [findP,hx,h1],by simp [hx,h2],by simp only [List.any_cons,hx,h3];rfl⟩
   ·refine .inr ⟨i+1,by simpa using hi,?_,by simp [hx,h2],by simp only [List.any_cons,hx,h3];rfl⟩
    unfold findP
    rw [hx,h1,if_neg (by decide),if_neg (by omega)]
    omega
def ExprDoc (d m:Nat):Prop:=∀(w:World) (p:LProg) (vars:List ByteArray) (A1 A2 Av:Option Addr) (n1 n2 nv c1 c2 cv:Nat),DocIn d w p vars A1 A2 Av n1 n2 nv c1 c2 cv→∀(e:LExpr) (Ae:Option Addr) (ne ce:Nat),SlR w (· < w.heap.size) 5 (RExpr m w (· < w.heap.size)) (.slice Ae ne ce) e.args→ne=e.args.length→
 Calls Tryz.prog 82 #[.agg #[.slice A1 n1 c1,.slice A2 n2 c2],.slice Av nv cv,.agg #[.int .i64 e.kind,.int .i64 e.op,.int .i64 e.n,.string e.name,.slice Ae ne ce]] w fun r w'=>r=.returned (.int .i64 (oneE p vars m e))∧Below w.heap.size w w'
theorem one_own {p:LProg} {vars:List ByteArray} {m:Nat} {e:LExpr} {o:Int} (h:ownE p vars e=o) (h0:o≠0):oneE p vars m e=o:=by
 unfold oneE
 rw [h,if_pos h0]
theorem exprs_pred {p:LProg} {vars:List ByteArray} {m:Nat} {l:List LExpr} (h:∀(j:Nat) (hj:j<l.length),oneE p vars m.pred l[j]=0):exprsE p vars m l=0:=by
 cases m with
 |zero=>rfl
 |succ m=>exact firstE_none (g:=oneE p vars m) h
section
set_option maxRecDepth 100000
set_option maxHeartbeats 8000000
theorem expr_stepD (d m:Nat) (IH:Hid (∀m',m=m'+1→ExprDoc d m')):ExprDoc d m:=by
 intro w p vars A1 A2 Av n1 n2 nv c1 c2 cv hin e Ae ne ce hr hn
 have hl:=hr.len_le
 unfold maxLen at hl
 rw [←hn] at hl
 have HI:=Ω hin
 have HR:=Ω hr
 have HN:=Ω hn
 clear hin hr hn
 go_enter Tryz.func82,Tryz.ntmps82
 go_upto_region 1 with fail
 refine wp_world ?_
 intro W hW
 have hB:Below w.heap.size w W:=by rw [←hW];exact below2 _ _ _
 have hb:Blk W w.heap.size 27 #[.slice A1 n1 c1,.slice A2 n2 c2]:=by rw [←hW];exact (Blk.new _ _ _).alloc _
 have hx:Blk W (w.heap.size+1) 42 #[.int .i64 e.kind,.int .i64 e.op,.int .i64 e.n,.string e.name,.slice Ae ne ce]:=by rw [←hW];exact Blk.new_at _ _ _ (by simp)
 have HCL:Hid (∀X,Below W.heap.size W X→X.cell? ⟨w.heap.size,0,none⟩=some (.slice A1 n1 c1)∧X.cell? ⟨w.heap.size,1,none⟩=some (.slice A2 n2 c2)∧X.cell? ⟨w.heap.size+1,0,none⟩=some (.int .i64 e.kind)∧X.cell? ⟨w.heap.size+1,3,none⟩=some (.string e.name)∧X.cell? ⟨w.heap.size+1,4,none⟩=some (.slice Ae ne ce)):=Ω (fun X hX=>
  have q:=hb.below hX hb.lt
  have q2:=hx.below hX hx.lt
  ⟨q.cell 0,q.cell 1,q2.cell 0,q2.cell 3,q2.cell 4⟩)
 have HB:=Ω hB
 have HF:Hid (∀X,Below W.heap.size W X→Below w.heap.size w X):=Ω (fun X hX=>HB.out.trans (hX.mono HB.out.size))
 clear hW hB hb hx
 obtain ⟨z0,z1,z2,z3,z4⟩:=HCL.out W (Below.refl _ _)
 go_upto_block 0 with fail
 go_cut [] (fun wx=>ownE p vars e=0∧Below W.heap.size W wx)
 case first=>
  have HHAS:Hid (∀X,Below W.heap.size W X→Calls Tryz.prog 33 #[.slice Av nv cv,.string e.name] X fun r w'=>r=.returned (.bool (hasS vars e.name))∧X=w'):=Ω (fun X hX=>has_doc _ _ _ vars HI.out.ev e.name X (HI.out.below (HF.out X hX)).hv)
  have HARR:Hid (∀X,Below W.heap.size W X→Calls Tryz.prog 18 #[.agg #[.slice A1 n1 c1,.slice A2 n2 c2],.string e.name] X fun r w'=>r=.returned (.int .i64 (arrayL p e.name))∧Below X.heap.size X w'):=Ω (fun X hX=>array_doc p A1 A2 n1 n2 c1 c2 HI.out.e1 e.name X (HI.out.below (HF.out X hX)).ha)
  have HPLA:Hid (∀X,Below W.heap.size W X→Calls Tryz.prog 16 #[.agg #[.slice A1 n1 c1,.slice A2 n2 c2],.string e.name] X fun r w'=>r=.returned (.int .i64 (placeL p e.name))∧Below X.heap.size X w'):=Ω (fun X hX=>place_doc d p A1 A2 n1 n2 c1 c2 HI.out.e2 e.name X (HI.out.below (HF.out X hX)).hf)
  by_cases h2:e.kind=2
  ·obtain ⟨v,hv⟩:∃v,v=hasS vars e.name:=⟨_,rfl⟩
   have ho:ownE p vars e=if v then 0 else 51:=by unfold ownE;rw [if_pos h2,hv]
   rw [←hv] at HHAS
   have HO:=Ω ho
   have k2:(e.kind == 2)=true:=beq_iff_eq.2 h2
   clear hv ho h2
   cases v with
   |true=>
    go_wp2_with (go_at_call 33;refine (HHAS.out _ (Below.refl _ _)).mono ?_;rintro r w1 ⟨rfl,hw1⟩;subst hw1)
    go_meet
    case rel=>exact ⟨HO.out,Below.refl _ _⟩
   |false=>
    go_wp2_with (go_at_call 33;refine (HHAS.out _ (Below.refl _ _)).mono ?_;rintro r w1 ⟨rfl,hw1⟩;subst hw1)
    go_ret
    exact ⟨by rw [one_own (HO.out.trans rfl) (by decide)];rfl,HB.out⟩
  by_cases h6:e.kind=6
  ·have k2:(e.kind == 2)=false:=by rw [beq_dec];exact dF h2
   have k6:(e.kind == 6)=true:=beq_iff_eq.2 h6
   have ho:ownE p vars e=if p.arrays.any (fun a=>decide (a.1=e.name)) then 0 else 51:=by unfold ownE;rw [if_neg h2,if_pos h6]
   have HO:=Ω ho
   obtain ⟨g,hg⟩:∃g,g=arrayL p e.name:=⟨_,rfl⟩
   rw [←hg] at HARR
   have hf:=findP_find (fun a:ByteArray × Int=>decide (a.1=e.name)) p.arrays
   change (arrayL p e.name=-1∧_)∨_ at hf
   have hgb:(g=-1∧ownE p vars e=51)∨(0≤g∧ownE p vars e=0):=by
    rcases hf with ⟨q1,_,q3⟩|⟨i,hi,q1,_,q3⟩
    ·exact .inl ⟨hg.trans q1,by rw [HO.out,q3];rfl⟩
    ·exact .inr ⟨by rw [hg];have q1':arrayL p e.name=(i:Int):=q1;rw [q1'];omega,by rw [HO.out,q3];rfl⟩
   clear hf hg ho h2 h6
   rcases hgb with ⟨hg,ho⟩|⟨hg,ho⟩
   ·have HOO:=Ω ho
    have d1:decide (g<0)=true:=dT (by omega)
    clear ho hg
    go_wp2_with (go_at_call 18;refine (HARR.out _ (Below.refl _ _)).mono ?_;rintro r w1 ⟨rfl,hw1⟩;have HB1:=Ω hw1;clear hw1)
    go_ret
    exact ⟨by rw [one_own HOO.out (by decide)];rfl,HF.out _ HB1.out⟩
   ·have HOO:=Ω ho
    have d1:decide (g<0)=false:=dF (by omega)
    clear ho hg
    go_wp2_with (go_at_call 18;refine (HARR.out _ (Below.refl _ _)).mono ?_;rintro r w1 ⟨rfl,hw1⟩;have HB1:=Ω hw1;clear hw1)
    go_meet
    case rel=>exact ⟨HOO.out,HB1.out⟩
  have k2:(e.kind == 2)=false:=by rw [beq_dec];exact dF h2
  have k6:(e.kind == 6)=false:=by rw [beq_dec];exact dF h6
  by_cases h5:e.kind=5
  ·have k5:(e.kind == 5)=true:=beq_iff_eq.2 h5
   have ho:ownE p vars e=match p.funcs.find? (fun f=>decide (f.name=e.name)) with
    |none=>51
    |some f=>if f.params.length=e.args.length then 0 else 52:=by unfold ownE;rw [if_neg h2,if_neg h6,if_pos h5];cases p.funcs.find? (fun f=>decide (f.name=e.name)) <;> rfl
   have HO:=Ω ho
   obtain ⟨g,hg⟩:∃g,g=placeL p e.name:=⟨_,rfl⟩
   rw [←hg] at HPLA
   have hf:=findP_find (fun f:LFunc=>decide (f.name=e.name)) p.funcs
   change (placeL p e.name=-1∧_)∨_ at hf
   have HFIN:=Ω hf
   have HG:=Ω hg
   clear hf ho hg h2 h6 h5
   rcases HFIN.out with ⟨q1,q2,_⟩|⟨i,hi,q1,q2,_⟩
   ·have hoo:ownE p vars e=51:=by rw [HO.out,q2]
    have HOO:=Ω hoo
    have d1:decide (g<0)=true:=dT (by rw [HG.out,q1];decide)
    clear q1 q2 hoo
    go_wp2_with (go_at_call 16;refine (HPLA.out _ (Below.refl _ _)).mono ?_;rintro r w1 ⟨rfl,hw1⟩;have HB1:=Ω hw1;clear hw1)
    go_ret
    exact ⟨by rw [one_own HOO.out (by decide)];rfl,HF.out _ HB1.out⟩
   ·have hgi:g=(i:Int):=by rw [HG.out];exact q1
    subst hgi
    have d1:decide ((i:Int)<0)=false:=dF (by omega)
    obtain ⟨b,off,Ap,Al,Ab,np,nl,nb,cp,cl,cb,hA,hbl,hnp,hnl,hnb,hrp,hrl,hrb,hcl⟩:=func_at HI.out.hf hi
    have hi1:(i:Int)<(n2:Int):=by rw [HI.out.e2];omega
    have hi0:¬(i:Int)<0:=by omega
    obtain ⟨np',hnp'⟩:∃n,n=np:=⟨_,rfl⟩
    have hlp:=hrp.len_le
    unfold maxLen at hlp
    rw [←hnp] at hlp
    have hoo:ownE p vars e=if np=ne then 0 else 52:=by rw [HO.out,q2,hnp,HN.out]
    subst hA
    have HCF:Hid (∀X,Below W.heap.size W X→X.cell? ⟨b,off+i*4+1,none⟩=some (.slice Ap np cp)):=Ω (fun X hX=>(hcl X ((HF.out X hX).block b hbl)).2.1)
    have HOO:=Ω hoo
    clear hcl hbl hrp hrl hrb hnp hnl hnb q1 q2 hoo hnp' hi HFIN HG HO
    have SO:Hid (∀X,Below W.heap.size W X→(fun X=>X.cell? ⟨w.heap.size,1,none⟩=some (.slice (some ⟨b,off,none⟩) n2 c2)∧X.cell? ⟨w.heap.size+1,4,none⟩=some (.slice Ae ne ce)∧X.cell? ⟨b,off+i*4+1,none⟩=some (.slice Ap np cp)) X):=Ω (fun X hX=>⟨(HCL.out X hX).2.1,(HCL.out X hX).2.2.2.2,HCF.out X hX⟩)
    have dq:((np:Int) != (ne:Int))=!decide (np=ne):=by
     rw [bne,Bool.eq_iff_iff]
     simp only [Bool.not_eq_true',beq_eq_false_iff_ne,decide_eq_false_iff_not,ne_eq]
     omega
    obtain ⟨bb,hbb⟩:∃x,x=!decide (np=ne):=⟨_,rfl⟩
    rw [←hbb] at dq
    have HBB:=Ω hbb
    clear hbb
    go_upto_region 12 with (go_at_call 16;refine (HPLA.out _ (Below.refl _ _)).mono ?_;rintro r w1 ⟨rfl,hw1⟩;have HB1:=Ω hw1;clear hw1 z0 z1 z2 z3 z4)
    refine wp_region_G 10 (fun X=>X.cell? ⟨w.heap.size,1,none⟩=some (.slice (some ⟨b,off,none⟩) n2 c2)∧X.cell? ⟨w.heap.size+1,4,none⟩=some (.slice Ae ne ce)∧X.cell? ⟨b,off+i*4+1,none⟩=some (.slice Ap np cp)) (SO.out _ HB1.out.drew) ?_
    change GL _ _ _ _ _ 10 11 (Array.replicate 11 false) _ _
    have HX0:Hid (Below W.heap.size W w1.drew):=Ω HB1.out.drew
    obtain ⟨X0,hX0⟩:∃X0,w1.drew=X0:=⟨_,rfl⟩
    rw [hX0] at HX0 ⊢
    clear hX0
    refine gj 0 (.pointer (some ⟨w.heap.size,1,none⟩)) ?_
    refine gS 1 (.slice (some ⟨b,off,none⟩) n2 c2) [3,4,5,6,10] ?_ ?_
    ·intro w2 hSw;obtain ⟨g0,g1,g2⟩:=hSw;go_simp
    refine gj 2 (.int .i64 (i:Int)) ?_
    refine gj 3 (.pointer (some ⟨b,off+i*4,none⟩)) ?_
    refine gj 4 (.pointer (some ⟨b,off+i*4+1,none⟩)) ?_
    refine gS 5 (.slice Ap np cp) [6,10] ?_ ?_
    ·intro w2 hSw;obtain ⟨g0,g1,g2⟩:=hSw;go_simp
    refine gj 6 (.int .i64 (np:Int)) ?_
    refine gj 7 (.pointer (some ⟨w.heap.size+1,4,none⟩)) ?_
    refine gS 8 (.slice Ae ne ce) [9,10] ?_ ?_
    ·intro w2 hSw;obtain ⟨g0,g1,g2⟩:=hSw;go_simp
    refine gj 9 (.int .i64 (ne:Int)) ?_
    refine gL (fun K hK=>?_)
    go_simp
    refine hK.out _ _ ?_
    clear hK K
    try simp only [sG]
    cases bb with
    |true=>
     go_wp2
     go_ret
     have h9:¬np=ne:=by have h:=HBB.out;intro h2;rw [dT h2] at h;cases h
     exact ⟨by rw [one_own (HOO.out.trans (if_neg h9)) (by decide)];rfl,HF.out _ HX0.out⟩
    |false=>
     go_wp2
     go_meet
     case rel=>
      have h9:np=ne:=by have h:=HBB.out;cases hd:decide (np=ne);rw [hd] at h;cases h;exact of_decide_eq_true hd
      exact ⟨HOO.out.trans (if_pos h9),HX0.out⟩
  ·have k5:(e.kind == 5)=false:=by rw [beq_dec];exact dF h5
   have ho:ownE p vars e=0:=by unfold ownE;rw [if_neg h2,if_neg h6,if_neg h5]
   have HO:=Ω ho
   clear ho h2 h6 h5
   go_wp2
   go_meet
   case rel=>exact ⟨HO.out,Below.refl _ _⟩
 case rest=>
  obtain ⟨ho,hbx⟩:=hcut
  have HO:=Ω ho
  have HBX:=Ω hbx
  clear ho hbx z0 z1 z2 z3 z4
  go_wp2
  go_loopw [8] (fun a wr=>∃k:Nat,k≤ne∧a=.int .i64 (k:Int)∧Below W.heap.size W wr∧∀(j:Nat) (h:j<e.args.length),j<k→oneE p vars m.pred e.args[j]=0) (fun a _=>ne-(intOf a).toNat)
  case atStart=>exact ⟨0,by omega,rfl,HBX.out,fun j _ h=>absurd h (Nat.not_lt_zero _)⟩
  case round=>
   obtain ⟨k,hk,rfl,hbr,hall⟩:=hrel
   have HBR:=Ω hbr
   have HA:=Ω hall
   obtain ⟨z0,z1,z2,z3,z4⟩:=HCL.out wr hbr
   clear hall hbr
   by_cases hlt:k<ne
   ·have d1:decide ((k:Int)<(ne:Int))=true:=dT (by omega)
    have hk1:(k:Int)<(ne:Int):=by omega
    have hk0:¬(k:Int)<0:=by omega
    have hkl:k<e.args.length:=by rw [←HN.out];exact hlt
    obtain ⟨b,off,Ax,nx,cx,m',hA,hm,hnx,hbl,hrx,hcl⟩:=expr_at HR.out HN.out hkl
    obtain ⟨x,hx⟩:∃x,x=e.args[k]'hkl:=⟨_,rfl⟩
    rw [←hx] at hnx hrx hcl
    subst hA
    obtain ⟨o,hoo⟩:∃o,o=oneE p vars m' x:=⟨_,rfl⟩
    have HC:Hid (∀X,Below w.heap.size w X→Calls Tryz.prog 82 #[.agg #[.slice A1 n1 c1,.slice A2 n2 c2],.slice Av nv cv,.agg #[.int .i64 x.kind,.int .i64 x.op,.int .i64 x.n,.string x.name,.slice Ax nx cx]] X fun r w'=>r=.returned (.int .i64 o)∧Below X.heap.size X w'):=Ω (fun X hX=>by
     rw [hoo]
     exact IH.out m' hm X p vars A1 A2 Av n1 n2 nv c1 c2 cv (HI.out.below hX) x Ax nx cx (hrx.imp (fun b hb=>ltle hb hX.size) (Keeps.of_below hX) fun _ _ _ r=>r.imp (fun b hb=>ltle hb hX.size) (Keeps.of_below hX)) hnx)
    have HCX:Hid (∀X,Below w.heap.size w X→X.cell? ⟨b,off+k*5,none⟩=some (.int .i64 x.kind)∧X.cell? ⟨b,off+k*5+1,none⟩=some (.int .i64 x.op)∧X.cell? ⟨b,off+k*5+2,none⟩=some (.int .i64 x.n)∧X.cell? ⟨b,off+k*5+3,none⟩=some (.string x.name)∧X.cell? ⟨b,off+k*5+4,none⟩=some (.slice Ax nx cx)):=Ω (fun X hX=>hcl X (hX.block b hbl))
    have hmp:m.pred=m':=by rw [hm];rfl
    have HX:=Ω hx
    have HKL:=Ω hkl
    have HOO:=Ω hoo
    have HMP:=Ω hmp
    have HM:=Ω hm
    clear hcl hbl hrx hnx hx hoo hmp hm z0 z1 z2 z3
    have SO:Hid (∀X,Below W.heap.size W X→(fun X=>X.cell? ⟨w.heap.size,0,none⟩=some (.slice A1 n1 c1)∧X.cell? ⟨w.heap.size,1,none⟩=some (.slice A2 n2 c2)∧X.cell? ⟨w.heap.size+1,4,none⟩=some (.slice (some ⟨b,off,none⟩) ne ce)∧X.cell? ⟨b,off+k*5,none⟩=some (.int .i64 x.kind)∧X.cell? ⟨b,off+k*5+1,none⟩=some (.int .i64 x.op)∧X.cell? ⟨b,off+k*5+2,none⟩=some (.int .i64 x.n)∧X.cell? ⟨b,off+k*5+3,none⟩=some (.string x.name)∧X.cell? ⟨b,off+k*5+4,none⟩=some (.slice Ax nx cx)) X):=Ω (fun X hX=>have q:=HCL.out X hX;have y:=HCX.out X (HF.out X hX);⟨q.1,q.2.1,q.2.2.2.2,y.1,y.2.1,y.2.2.1,y.2.2.2.1,y.2.2.2.2⟩)
    go_upto_region 17 with fail
    clear z4
    refine wp_region_G 8 (fun X=>X.cell? ⟨w.heap.size,0,none⟩=some (.slice A1 n1 c1)∧X.cell? ⟨w.heap.size,1,none⟩=some (.slice A2 n2 c2)∧X.cell? ⟨w.heap.size+1,4,none⟩=some (.slice (some ⟨b,off,none⟩) ne ce)∧X.cell? ⟨b,off+k*5,none⟩=some (.int .i64 x.kind)∧X.cell? ⟨b,off+k*5+1,none⟩=some (.int .i64 x.op)∧X.cell? ⟨b,off+k*5+2,none⟩=some (.int .i64 x.n)∧X.cell? ⟨b,off+k*5+3,none⟩=some (.string x.name)∧X.cell? ⟨b,off+k*5+4,none⟩=some (.slice Ax nx cx)) (SO.out _ HBR.out.drew) ?_
    change GL _ _ _ _ _ 8 9 (Array.replicate 9 false) _ _
    have HX0:Hid (Below W.heap.size W wr.drew):=Ω HBR.out.drew
    obtain ⟨X0,hX0⟩:∃X0,wr.drew=X0:=⟨_,rfl⟩
    rw [hX0] at HX0 ⊢
    clear hX0
    refine gS 0 (.agg #[.slice A1 n1 c1,.slice A2 n2 c2]) [8] ?_ ?_
    ·intro w2 hSw;obtain ⟨g0,g1,g2,g3,g4,g5,g6,g7⟩:=hSw;go_simp
    refine gj 1 (.slice Av nv cv) ?_
    refine gj 2 (.pointer (some ⟨w.heap.size+1,4,none⟩)) ?_
    refine gS 3 (.slice (some ⟨b,off,none⟩) ne ce) [8] ?_ ?_
    ·intro w2 hSw;obtain ⟨g0,g1,g2,g3,g4,g5,g6,g7⟩:=hSw;go_simp
    refine gj 4 (.int .i64 (k:Int)) ?_
    refine gj 5 (.pointer (some ⟨b,off+k*5,none⟩)) ?_
    refine gS 6 (.agg #[.int .i64 x.kind,.int .i64 x.op,.int .i64 x.n,.string x.name,.slice Ax nx cx]) [8] ?_ ?_
    ·intro w2 hSw;obtain ⟨g0,g1,g2,g3,g4,g5,g6,g7⟩:=hSw;go_simp
    refine gO 7 (fun K hK=>?_)
    go_simp
    refine (HC.out X0 (HF.out _ HX0.out)).mono ?_
    rintro r X1 ⟨rfl,hb⟩
    have HX1:=Ω (HX0.out.trans (hb.mono HX0.out.size))
    clear hb
    refine hK.out _ _ (SO.out _ HX1.out) ?_
    clear hK K
    try simp only [sG]
    refine gL (fun K hK=>?_)
    go_simp
    refine hK.out _ _ ?_
    clear hK K
    try simp only [sG]
    by_cases h0:o=0
    ·have q1:(o == 0)=true:=beq_iff_eq.2 h0
     have q2:(o != 0)=false:=by rw [bne,q1];rfl
     have H0:=Ω h0
     clear h0
     go_wp2
     go_roundw
     case rel=>
      refine ⟨k+1,by omega,by go_num,HX1.out,fun j hj hjk=>?_⟩
      rcases Nat.lt_succ_iff_lt_or_eq.1 hjk with h|rfl
      ·exact HA.out j hj h
      ·rw [HMP.out,←HX.out,←HOO.out];exact H0.out
     case measure=>simp [intOf];omega
    ·have q1:(o == 0)=false:=by rw [beq_dec];exact dF h0
     have q2:(o != 0)=true:=by rw [bne,q1];rfl
     have H0:=Ω h0
     clear h0
     go_wp2
     go_ret
     have hf:oneE p vars m e=o:=by
      have hg:oneE p vars m' (e.args[k]'HKL.out)=o:=by rw [←HX.out,←HOO.out]
      have h1:exprsE p vars m e.args=firstE (oneE p vars m') e.args:=by rw [HM.out];rfl
      unfold oneE
      rw [if_neg (fun h=>h HO.out),h1,firstE_at HKL.out (by rw [hg];exact H0.out) (fun j hj hjk=>by rw [←HMP.out];exact HA.out j hj hjk),hg]
     rw [hf]
     exact ⟨rfl,HF.out _ HX1.out⟩
   ·have hkn:k=ne:=by omega
    have d1:decide ((k:Int)<(ne:Int))=false:=dF (by omega)
    go_wp2
    go_ret
    have hf:oneE p vars m e=0:=oneE_zero ⟨HO.out,exprs_pred fun j hj=>HA.out j hj (by rw [hkn,HN.out];exact hj)⟩
    rw [hf]
    exact ⟨rfl,HF.out _ HBR.out⟩
theorem expr_doc (d:Nat):∀m:Nat,ExprDoc d m
 |0=>expr_stepD d 0 (Ω fun m' h=>absurd h (by omega))
 |m+1=>expr_stepD d (m+1) (Ω fun m' h=>by
  obtain rfl:m=m':=by omega
  exact expr_doc d m)
end
end Go.Proofs.YtmignlclfbaifaaGreat
namespace Go.Proofs.YtmignlclfbaifaaGreat
open Go.RowKit
def headE (p:LProg) (vars:List ByteArray) (s:LStmt) (loop:Bool):Int:=
 if s.kind=5∨s.kind=6 then (if loop then 0 else 53) else if s.kind=1 then (if hasS vars s.name then 0 else 51) else if s.kind=2 then (if p.arrays.any (fun a=>decide (a.1=s.name)) then 0 else 51) else 0
theorem stmtE_head {p:LProg} {vars:List ByteArray} {D:Nat} {s:LStmt} {loop:Bool} {o:Int} (h:headE p vars s loop=o) (h0:o≠0):stmtE p vars D s loop=o:=by
 show (if headE p vars s loop≠0 then headE p vars s loop else exprsE p vars D s.args)=o
 rw [h,if_pos h0]
theorem stmtE_args {p:LProg} {vars:List ByteArray} {D:Nat} {s:LStmt} {loop:Bool} (h:headE p vars s loop=0):stmtE p vars D s loop=exprsE p vars D s.args:=by
 show (if headE p vars s loop≠0 then headE p vars s loop else exprsE p vars D s.args)=_
 rw [h,if_neg (fun h=>h rfl)]
section
set_option maxRecDepth 100000
set_option maxHeartbeats 8000000
theorem one_doc (d D:Nat) (w:World) (p:LProg) (vars:List ByteArray) (A1 A2 Av:Option Addr) (n1 n2 nv c1 c2 cv:Nat) (hin:DocIn d w p vars A1 A2 Av n1 n2 nv c1 c2 cv) (s:LStmt) (loop:Bool) (Aa At Ae:Option Addr) (na nt ne ca ct ce:Nat) (hr:SlR w (· < w.heap.size) 5 (RExpr D w (· < w.heap.size)) (.slice Aa na ca) s.args) (hn:na=s.args.length) :
  Calls Tryz.prog 59 #[.agg #[.slice A1 n1 c1,.slice A2 n2 c2],.slice Av nv cv,.agg #[.int .i64 s.kind,.string s.name,.slice Aa na ca,.slice At nt ct,.slice Ae ne ce],.bool loop] w fun r w'=>r=.returned (.int .i64 (stmtE p vars D s loop))∧Below w.heap.size w w':=by
 have hl:=hr.len_le
 unfold maxLen at hl
 rw [←hn] at hl
 have HI:=Ω hin
 have HR:=Ω hr
 have HN:=Ω hn
 clear hin hr hn
 go_enter Tryz.func59,Tryz.ntmps59
 go_upto_region 1 with fail
 refine wp_world ?_
 intro W hW
 have hB:Below w.heap.size w W:=by rw [←hW];exact below2 _ _ _
 have hb:Blk W w.heap.size 27 #[.slice A1 n1 c1,.slice A2 n2 c2]:=by rw [←hW];exact (Blk.new _ _ _).alloc _
 have hx:Blk W (w.heap.size+1) 45 #[.int .i64 s.kind,.string s.name,.slice Aa na ca,.slice At nt ct,.slice Ae ne ce]:=by rw [←hW];exact Blk.new_at _ _ _ (by simp)
 have HCL:Hid (∀X,Below W.heap.size W X→X.cell? ⟨w.heap.size,0,none⟩=some (.slice A1 n1 c1)∧X.cell? ⟨w.heap.size,1,none⟩=some (.slice A2 n2 c2)∧X.cell? ⟨w.heap.size+1,0,none⟩=some (.int .i64 s.kind)∧X.cell? ⟨w.heap.size+1,1,none⟩=some (.string s.name)∧X.cell? ⟨w.heap.size+1,2,none⟩=some (.slice Aa na ca)):=Ω (fun X hX=>
  have q:=hb.below hX hb.lt
  have q2:=hx.below hX hx.lt
  ⟨q.cell 0,q.cell 1,q2.cell 0,q2.cell 1,q2.cell 2⟩)
 have HB:=Ω hB
 have HF:Hid (∀X,Below W.heap.size W X→Below w.heap.size w X):=Ω (fun X hX=>HB.out.trans (hX.mono HB.out.size))
 clear hW hB hb hx
 obtain ⟨z0,z1,z2,z3,z4⟩:=HCL.out W (Below.refl _ _)
 go_upto_block 0 with fail
 go_cut [] (fun wx=>headE p vars s loop=0∧Below W.heap.size W wx)
 case first=>
  by_cases h5:s.kind=5
  ·have k5:(s.kind == 5)=true:=beq_iff_eq.2 h5
   have ho:headE p vars s loop=if loop then 0 else 53:=by unfold headE;rw [if_pos (.inl h5)]
   have HO:=Ω ho
   clear ho h5
   cases loop with
   |true=>
    go_wp2
    go_meet
    case rel=>exact ⟨HO.out,Below.refl _ _⟩
   |false=>
    go_wp2
    go_ret
    exact ⟨by rw [stmtE_head (HO.out.trans rfl) (by decide)];rfl,HB.out⟩
  have k5:(s.kind == 5)=false:=by rw [beq_dec];exact dF h5
  by_cases h6:s.kind=6
  ·have k6:(s.kind == 6)=true:=beq_iff_eq.2 h6
   have ho:headE p vars s loop=if loop then 0 else 53:=by unfold headE;rw [if_pos (.inr h6)]
   have HO:=Ω ho
   clear ho h5 h6
   cases loop with
   |true=>
    go_wp2
    go_meet
    case rel=>exact ⟨HO.out,Below.refl _ _⟩
   |false=>
    go_wp2
    go_ret
    exact ⟨by rw [stmtE_head (HO.out.trans rfl) (by decide)];rfl,HB.out⟩
  have k6:(s.kind == 6)=false:=by rw [beq_dec];exact dF h6
  have hne:¬(s.kind=5∨s.kind=6):=fun h=>h.elim h5 h6
  have HHAS:Hid (∀X,Below W.heap.size W X→Calls Tryz.prog 33 #[.slice Av nv cv,.string s.name] X fun r w'=>r=.returned (.bool (hasS vars s.name))∧X=w'):=Ω (fun X hX=>has_doc _ _ _ vars HI.out.ev s.name X (HI.out.below (HF.out X hX)).hv)
  have HARR:Hid (∀X,Below W.heap.size W X→Calls Tryz.prog 18 #[.agg #[.slice A1 n1 c1,.slice A2 n2 c2],.string s.name] X fun r w'=>r=.returned (.int .i64 (arrayL p s.name))∧Below X.heap.size X w'):=Ω (fun X hX=>array_doc p A1 A2 n1 n2 c1 c2 HI.out.e1 s.name X (HI.out.below (HF.out X hX)).ha)
  by_cases h1:s.kind=1
  ·have k1:(s.kind == 1)=true:=beq_iff_eq.2 h1
   obtain ⟨v,hv⟩:∃v,v=hasS vars s.name:=⟨_,rfl⟩
   have ho:headE p vars s loop=if v then 0 else 51:=by unfold headE;rw [if_neg hne,if_pos h1,hv]
   rw [←hv] at HHAS
   have HO:=Ω ho
   clear hv ho h1 h5 h6 hne
   cases v with
   |true=>
    go_wp2_with (go_at_call 33;refine (HHAS.out _ (Below.refl _ _)).mono ?_;rintro r w1 ⟨rfl,hw1⟩;subst hw1)
    go_meet
    case rel=>exact ⟨HO.out,Below.refl _ _⟩
   |false=>
    go_wp2_with (go_at_call 33;refine (HHAS.out _ (Below.refl _ _)).mono ?_;rintro r w1 ⟨rfl,hw1⟩;subst hw1)
    go_ret
    exact ⟨by rw [stmtE_head (HO.out.trans rfl) (by decide)];rfl,HB.out⟩
  have k1:(s.kind == 1)=false:=by rw [beq_dec];exact dF h1
  by_cases h2:s.kind=2
  ·have k2:(s.kind == 2)=true:=beq_iff_eq.2 h2
   have ho:headE p vars s loop=if p.arrays.any (fun a=>decide (a.1=s.name)) then 0 else 51:=by unfold headE;rw [if_neg hne,if_neg h1,if_pos h2]
   have HO:=Ω ho
   obtain ⟨g,hg⟩:∃g,g=arrayL p s.name:=⟨_,rfl⟩
   rw [←hg] at HARR
   have hf:=findP_find (fun a:ByteArray × Int=>decide (a.1=s.name)) p.arrays
   change (arrayL p s.name=-1∧_)∨_ at hf
   have hgb:(g=-1∧headE p vars s loop=51)∨(0≤g∧headE p vars s loop=0):=by
    rcases hf with ⟨q1,_,q3⟩|⟨i,hi,q1,_,q3⟩
    ·exact .inl ⟨hg.trans q1,by rw [HO.out,q3];rfl⟩
    ·exact .inr ⟨by rw [hg];have q1':arrayL p s.name=(i:Int):=q1;rw [q1'];omega,by rw [HO.out,q3];rfl⟩
   clear hf hg ho h1 h2 h5 h6 hne
   rcases hgb with ⟨hg,ho⟩|⟨hg,ho⟩
   ·have HOO:=Ω ho
    have d1:decide (g<0)=true:=dT (by omega)
    clear ho hg
    go_wp2_with (go_at_call 18;refine (HARR.out _ (Below.refl _ _)).mono ?_;rintro r w1 ⟨rfl,hw1⟩;have HB1:=Ω hw1;clear hw1)
    go_ret
    exact ⟨by rw [stmtE_head HOO.out (by decide)];rfl,HF.out _ HB1.out⟩
   ·have HOO:=Ω ho
    have d1:decide (g<0)=false:=dF (by omega)
    clear ho hg
    go_wp2_with (go_at_call 18;refine (HARR.out _ (Below.refl _ _)).mono ?_;rintro r w1 ⟨rfl,hw1⟩;have HB1:=Ω hw1;clear hw1)
    go_meet
    case rel=>exact ⟨HOO.out,HB1.out⟩
  ·have k2:(s.kind == 2)=false:=by rw [beq_dec];exact dF h2
   have ho:headE p vars s loop=0:=by unfold headE;rw [if_neg hne,if_neg h1,if_neg h2]
   have HO:=Ω ho
   clear ho h1 h2 h5 h6 hne
   go_wp2
   go_meet
   case rel=>exact ⟨HO.out,Below.refl _ _⟩
 case rest=>
  obtain ⟨ho,hbx⟩:=hcut
  have HO:=Ω ho
  have HBX:=Ω hbx
  clear ho hbx z0 z1 z2 z3 z4
  go_wp2
  go_loopw [9] (fun a wr=>∃k:Nat,k≤na∧a=.int .i64 (k:Int)∧Below W.heap.size W wr∧∀(j:Nat) (h:j<s.args.length),j<k→oneE p vars D.pred s.args[j]=0) (fun a _=>na-(intOf a).toNat)
  case atStart=>exact ⟨0,by omega,rfl,HBX.out,fun j _ h=>absurd h (Nat.not_lt_zero _)⟩
  case round=>
   obtain ⟨k,hk,rfl,hbr,hall⟩:=hrel
   have HBR:=Ω hbr
   have HA:=Ω hall
   obtain ⟨z0,z1,z2,z3,z4⟩:=HCL.out wr hbr
   clear hall hbr
   by_cases hlt:k<na
   ·have d1:decide ((k:Int)<(na:Int))=true:=dT (by omega)
    have hk1:(k:Int)<(na:Int):=by omega
    have hk0:¬(k:Int)<0:=by omega
    have hkl:k<s.args.length:=by rw [←HN.out];exact hlt
    obtain ⟨b,off,Ax,nx,cx,m',hA,hm,hnx,hbl,hrx,hcl⟩:=expr_at HR.out HN.out hkl
    obtain ⟨x,hx⟩:∃x,x=s.args[k]'hkl:=⟨_,rfl⟩
    rw [←hx] at hnx hrx hcl
    subst hA
    obtain ⟨o,hoo⟩:∃o,o=oneE p vars m' x:=⟨_,rfl⟩
    have HC:Hid (∀X,Below w.heap.size w X→Calls Tryz.prog 82 #[.agg #[.slice A1 n1 c1,.slice A2 n2 c2],.slice Av nv cv,.agg #[.int .i64 x.kind,.int .i64 x.op,.int .i64 x.n,.string x.name,.slice Ax nx cx]] X fun r w'=>r=.returned (.int .i64 o)∧Below X.heap.size X w'):=Ω (fun X hX=>by
     rw [hoo]
     exact expr_doc d m' X p vars A1 A2 Av n1 n2 nv c1 c2 cv (HI.out.below hX) x Ax nx cx (hrx.imp (fun b hb=>ltle hb hX.size) (Keeps.of_below hX) fun _ _ _ r=>r.imp (fun b hb=>ltle hb hX.size) (Keeps.of_below hX)) hnx)
    have HCX:Hid (∀X,Below w.heap.size w X→X.cell? ⟨b,off+k*5,none⟩=some (.int .i64 x.kind)∧X.cell? ⟨b,off+k*5+1,none⟩=some (.int .i64 x.op)∧X.cell? ⟨b,off+k*5+2,none⟩=some (.int .i64 x.n)∧X.cell? ⟨b,off+k*5+3,none⟩=some (.string x.name)∧X.cell? ⟨b,off+k*5+4,none⟩=some (.slice Ax nx cx)):=Ω (fun X hX=>hcl X (hX.block b hbl))
    have hmp:D.pred=m':=by rw [hm];rfl
    have HX:=Ω hx
    have HKL:=Ω hkl
    have HOO:=Ω hoo
    have HMP:=Ω hmp
    have HM:=Ω hm
    clear hcl hbl hrx hnx hx hoo hmp hm z0 z1 z2 z3
    have SO:Hid (∀X,Below W.heap.size W X→(fun X=>X.cell? ⟨w.heap.size,0,none⟩=some (.slice A1 n1 c1)∧X.cell? ⟨w.heap.size,1,none⟩=some (.slice A2 n2 c2)∧X.cell? ⟨w.heap.size+1,2,none⟩=some (.slice (some ⟨b,off,none⟩) na ca)∧X.cell? ⟨b,off+k*5,none⟩=some (.int .i64 x.kind)∧X.cell? ⟨b,off+k*5+1,none⟩=some (.int .i64 x.op)∧X.cell? ⟨b,off+k*5+2,none⟩=some (.int .i64 x.n)∧X.cell? ⟨b,off+k*5+3,none⟩=some (.string x.name)∧X.cell? ⟨b,off+k*5+4,none⟩=some (.slice Ax nx cx)) X):=Ω (fun X hX=>have q:=HCL.out X hX;have y:=HCX.out X (HF.out X hX);⟨q.1,q.2.1,q.2.2.2.2,y.1,y.2.1,y.2.2.1,y.2.2.2.1,y.2.2.2.2⟩)
    go_upto_region 15 with fail
    clear z4
    refine wp_region_G 8 (fun X=>X.cell? ⟨w.heap.size,0,none⟩=some (.slice A1 n1 c1)∧X.cell? ⟨w.heap.size,1,none⟩=some (.slice A2 n2 c2)∧X.cell? ⟨w.heap.size+1,2,none⟩=some (.slice (some ⟨b,off,none⟩) na ca)∧X.cell? ⟨b,off+k*5,none⟩=some (.int .i64 x.kind)∧X.cell? ⟨b,off+k*5+1,none⟩=some (.int .i64 x.op)∧X.cell? ⟨b,off+k*5+2,none⟩=some (.int .i64 x.n)∧X.cell? ⟨b,off+k*5+3,none⟩=some (.string x.name)∧X.cell? ⟨b,off+k*5+4,none⟩=some (.slice Ax nx cx)) (SO.out _ HBR.out.drew) ?_
    change GL _ _ _ _ _ 8 9 (Array.replicate 9 false) _ _
    have HX0:Hid (Below W.heap.size W wr.drew):=Ω HBR.out.drew
    obtain ⟨X0,hX0⟩:∃X0,wr.drew=X0:=⟨_,rfl⟩
    rw [hX0] at HX0 ⊢
    clear hX0
    refine gS 0 (.agg #[.slice A1 n1 c1,.slice A2 n2 c2]) [8] ?_ ?_
    ·intro w2 hSw;obtain ⟨g0,g1,g2,g3,g4,g5,g6,g7⟩:=hSw;go_simp
    refine gj 1 (.slice Av nv cv) ?_
    refine gj 2 (.pointer (some ⟨w.heap.size+1,2,none⟩)) ?_
    refine gS 3 (.slice (some ⟨b,off,none⟩) na ca) [8] ?_ ?_
    ·intro w2 hSw;obtain ⟨g0,g1,g2,g3,g4,g5,g6,g7⟩:=hSw;go_simp
    refine gj 4 (.int .i64 (k:Int)) ?_
    refine gj 5 (.pointer (some ⟨b,off+k*5,none⟩)) ?_
    refine gS 6 (.agg #[.int .i64 x.kind,.int .i64 x.op,.int .i64 x.n,.string x.name,.slice Ax nx cx]) [8] ?_ ?_
    ·intro w2 hSw;obtain ⟨g0,g1,g2,g3,g4,g5,g6,g7⟩:=hSw;go_simp
    refine gO 7 (fun K hK=>?_)
    go_simp
    refine (HC.out X0 (HF.out _ HX0.out)).mono ?_
    rintro r X1 ⟨rfl,hb⟩
    have HX1:=Ω (HX0.out.trans (hb.mono HX0.out.size))
    clear hb
    refine hK.out _ _ (SO.out _ HX1.out) ?_
    clear hK K
    try simp only [sG]
    refine gL (fun K hK=>?_)
    go_simp
    refine hK.out _ _ ?_
    clear hK K
    try simp only [sG]
    by_cases h0:o=0
    ·have q1:(o == 0)=true:=beq_iff_eq.2 h0
     have q2:(o != 0)=false:=by rw [bne,q1];rfl
     have H0:=Ω h0
     clear h0
     go_wp2
     go_roundw
     case rel=>
      refine ⟨k+1,by omega,by go_num,HX1.out,fun j hj hjk=>?_⟩
      rcases Nat.lt_succ_iff_lt_or_eq.1 hjk with h|rfl
      ·exact HA.out j hj h
      ·rw [HMP.out,←HX.out,←HOO.out];exact H0.out
     case measure=>simp [intOf];omega
    ·have q1:(o == 0)=false:=by rw [beq_dec];exact dF h0
     have q2:(o != 0)=true:=by rw [bne,q1];rfl
     have H0:=Ω h0
     clear h0
     go_wp2
     go_ret
     have hf:stmtE p vars D s loop=o:=by
      have hg:oneE p vars m' (s.args[k]'HKL.out)=o:=by rw [←HX.out,←HOO.out]
      have h1:exprsE p vars D s.args=firstE (oneE p vars m') s.args:=by rw [HM.out];rfl
      rw [stmtE_args HO.out,h1,firstE_at HKL.out (by rw [hg];exact H0.out) (fun j hj hjk=>by rw [←HMP.out];exact HA.out j hj hjk),hg]
     rw [hf]
     exact ⟨rfl,HF.out _ HX1.out⟩
   ·have hkn:k=na:=by omega
    have d1:decide ((k:Int)<(na:Int))=false:=dF (by omega)
    go_wp2
    go_ret
    have hf:stmtE p vars D s loop=0:=by rw [stmtE_args HO.out];exact exprs_pred fun j hj=>HA.out j hj (by rw [hkn,HN.out];exact hj)
    rw [hf]
    exact ⟨rfl,HF.out _ HBR.out⟩
end
end Go.Proofs.YtmignlclfbaifaaGreat
namespace Go.Proofs.YtmignlclfbaifaaGreat
open Go.RowKit
def cntE {α:Type} (g:α→Int):List α→Int × Nat
 |[]=>(0,0)
 |x :: l=>if g x≠0 then (g x,0) else ((cntE g l).1,(cntE g l).2+1)
theorem cntE_eq {α:Type} (g:α→Int) (x:α) (l:List α):cntE g (x :: l)=if g x≠0 then (g x,0) else ((cntE g l).1,(cntE g l).2+1):=rfl
theorem cntE_cons {α:Type} {g:α→Int} {x:α} {l:List α} (h:g x=0):cntE g (x :: l)=((cntE g l).1,(cntE g l).2+1):=by rw [cntE_eq,if_neg (fun h2=>h2 h)]
theorem cntE_at {α:Type} {g:α→Int} {x:α} {l:List α} (h:g x≠0):cntE g (x :: l)=(g x,0):=by rw [cntE_eq,if_pos h]
theorem cntE_firstAt {α:Type} (g:α→Int):∀(l:List α) (k:Nat),firstAt g k l=((cntE g l).1,if (cntE g l).1≠0 then (k:Int)+((cntE g l).2:Int) else 0)
 |[],_=>rfl
 |x :: l,k=>by
  show (if g x≠0 then (g x,(k:Int)) else firstAt g (k+1) l)=_
  by_cases h:g x=0
  ·rw [if_neg (fun h2=>h2 h),cntE_cons h,cntE_firstAt g l (k+1)]
   by_cases h2:(cntE g l).1=0
   ·rw [if_neg (fun h3=>h3 h2),if_neg (fun h3=>h3 h2)]
   ·rw [if_pos h2,if_pos h2]
    show ((cntE g l).1,((k+1:Nat):Int)+((cntE g l).2:Int))=((cntE g l).1,(k:Int)+(((cntE g l).2+1:Nat):Int))
    rw [show ((k+1:Nat):Int)+((cntE g l).2:Int)=(k:Int)+(((cntE g l).2+1:Nat):Int) by omega]
  ·rw [if_pos h,cntE_at h,if_pos h]
   show (g x,(k:Int))=(g x,(k:Int)+((0:Nat):Int))
   rw [show (k:Int)+((0:Nat):Int)=(k:Int) by omega]
theorem cntE_le {α:Type} (g:α→Int):∀l:List α,(cntE g l).2≤l.length
 |[]=>Nat.le_refl _
 |x :: l=>by
  have h:=cntE_le g l
  by_cases h0:g x=0
  ·rw [cntE_cons h0];exact Nat.succ_le_succ h
  ·rw [cntE_at h0];exact Nat.zero_le _
theorem cntE_all {α:Type} {g:α→Int}:∀{l:List α},(cntE g l).1=0→(cntE g l).2=l.length
 |[],_=>rfl
 |x :: l,h=>by
  by_cases h0:g x=0
  ·rw [cntE_cons h0] at h ⊢
   exact congrArg (·+1) (cntE_all h)
  ·rw [cntE_at h0] at h
   exact absurd h h0
theorem cntE_append {α:Type} (g:α→Int):∀a b:List α,cntE g (a++b)=if (cntE g a).1≠0 then cntE g a else ((cntE g b).1,a.length+(cntE g b).2)
 |[],b=>by
  show cntE g b=if (0:Int)≠0 then _ else ((cntE g b).1,0+(cntE g b).2)
  rw [if_neg (fun h=>h rfl),Nat.zero_add]
 |x :: a,b=>by
  have ih:=cntE_append g a b
  rw [List.cons_append]
  by_cases h:g x=0
  ·rw [cntE_cons h,cntE_cons h,ih]
   by_cases h2:(cntE g a).1=0
   ·rw [if_neg (fun h3=>h3 h2),if_neg (fun h3=>h3 h2)]
    show ((cntE g b).1,a.length+(cntE g b).2+1)=((cntE g b).1,a.length+1+(cntE g b).2)
    rw [show a.length+(cntE g b).2+1=a.length+1+(cntE g b).2 by omega]
   ·rw [if_pos h2,if_pos h2]
  ·rw [cntE_at h,cntE_at h,if_pos h]
theorem cntE_skip {α:Type} {g:α→Int} {a b:List α} (h:(cntE g a).1=0):cntE g (a++b)=((cntE g b).1,a.length+(cntE g b).2):=by rw [cntE_append,if_neg (fun h2=>h2 h)]
theorem cntE_hit {α:Type} {g:α→Int} {a b:List α} (h:(cntE g a).1≠0):cntE g (a++b)=cntE g a:=by rw [cntE_append,if_pos h]
def innL (m:Nat) (s:LStmt) (loop:Bool):List (LStmt × Bool):=allL m s.thn (loop || decide (s.kind=4))++allL m s.els loop
theorem allL_nil (m:Nat) (loop:Bool):allL m [] loop=[]:=by cases m <;> rfl
theorem allL_cons (m:Nat) (s:LStmt) (l:List LStmt) (loop:Bool):allL (m+1) (s :: l) loop=(s,loop) :: (innL m s loop++allL (m+1) l loop):=by
 show ((s :: l).flatMap fun s=>(s,loop) :: (allL m s.thn (loop || decide (s.kind=4))++allL m s.els loop))=_
 rw [List.flatMap_cons]
 rfl
theorem allL_cutD {m:Nat} {l:List LStmt} {loop:Bool} {k:Nat} (hk:k<l.length):allL (m+1) l loop=allL (m+1) (l.take k) loop++(l[k],loop) :: (innL m l[k] loop++allL (m+1) (l.drop (k+1)) loop):=by
 have h:l=l.take k++l[k] :: l.drop (k+1):=by rw [←List.drop_eq_getElem_cons hk,List.take_append_drop]
 conv=>lhs;rw [h]
 rw [allL_append,allL_cons]
theorem allL_takeD {m:Nat} {l:List LStmt} {loop:Bool} {k:Nat} (hk:k<l.length):allL (m+1) (l.take (k+1)) loop=allL (m+1) (l.take k) loop++(l[k],loop) :: innL m l[k] loop:=by
 rw [List.take_succ_eq_append_getElem hk,allL_append,allL_cons,allL_nil,List.append_nil]
def StmtsDoc (d D m:Nat):Prop:=∀(w:World) (p:LProg) (vars:List ByteArray) (A1 A2 Av:Option Addr) (n1 n2 nv c1 c2 cv:Nat),DocIn d w p vars A1 A2 Av n1 n2 nv c1 c2 cv→∀(l:List LStmt) (loop:Bool) (A:Option Addr) (n c:Nat),SlR w (· < w.heap.size) 5 (RStmt m w (· < w.heap.size)) (.slice A n c) l→n=l.length→(allL m l loop).length≤4611686018427387904→
 Calls Tryz.prog 34 #[.agg #[.slice A1 n1 c1,.slice A2 n2 c2],.slice Av nv cv,.slice A n c,.bool loop] w fun r w'=>r=.returned (.tuple #[.int .i64 (cntE (fun x=>stmtE p vars D x.1 x.2) (allL m l loop)).1,.int .i64 ((cntE (fun x=>stmtE p vars D x.1 x.2) (allL m l loop)).2:Int)])∧Below w.heap.size w w'
section
set_option maxRecDepth 100000
set_option maxHeartbeats 8000000
theorem stmts_stepD (d D m:Nat) (hD:m≤D) (IH:Hid (∀m',m=m'+1→StmtsDoc d D m')):StmtsDoc d D m:=by
 intro w p vars A1 A2 Av n1 n2 nv c1 c2 cv hin l loop A n c hr hn hbig
 have hl:=hr.len_le
 unfold maxLen at hl
 rw [←hn] at hl
 obtain ⟨G,hG⟩:∃G:LStmt × Bool→Int,G=fun x=>stmtE p vars D x.1 x.2:=⟨_,rfl⟩
 rw [←hG]
 have HGG:=Ω hG
 have HI:=Ω hin
 have HR:=Ω hr
 have HN:=Ω hn
 have HBIG:=Ω hbig
 have HDD:=Ω hD
 clear hin hr hn hbig hG hD
 go_enter Tryz.func34,Tryz.ntmps34
 go_upto_region 1 with fail
 refine wp_world ?_
 intro W hW
 have hB:Below w.heap.size w W:=by rw [←hW];exact below1 _ _
 have hb:Blk W w.heap.size 27 #[.slice A1 n1 c1,.slice A2 n2 c2]:=by rw [←hW];exact Blk.new _ _ _
 have HCL:Hid (∀X,Below W.heap.size W X→X.cell? ⟨w.heap.size,0,none⟩=some (.slice A1 n1 c1)∧X.cell? ⟨w.heap.size,1,none⟩=some (.slice A2 n2 c2)):=Ω (fun X hX=>
  have q:=hb.below hX hb.lt
  ⟨q.cell 0,q.cell 1⟩)
 have HB:=Ω hB
 have HF:Hid (∀X,Below W.heap.size W X→Below w.heap.size w X):=Ω (fun X hX=>HB.out.trans (hX.mono HB.out.size))
 clear hW hB hb
 go_wp2
 go_loopw [10,11] (fun a b wr=>∃(k n0:Nat),k≤n∧a=.int .i64 (n0:Int)∧b=.int .i64 (k:Int)∧Below W.heap.size W wr∧n0=(allL m (l.take k) loop).length∧(cntE G (allL m (l.take k) loop)).1=0) (fun _ b _=>n-(intOf b).toNat)
 case atStart=>exact ⟨0,0,by omega,rfl,rfl,Below.refl _ _,by rw [List.take_zero,allL_nil];rfl,by rw [List.take_zero,allL_nil];rfl⟩
 case round=>
  obtain ⟨k,n0,hk,rfl,rfl,hbr,hn0,hz⟩:=hrel
  have HBR:=Ω hbr
  have HN0:=Ω hn0
  have HZ:=Ω hz
  clear hbr hn0 hz
  by_cases hlt:k<n
  ·have d1:decide ((k:Int)<(n:Int))=true:=dT (by omega)
   have hk1:(k:Int)<(n:Int):=by omega
   have hk0:¬(k:Int)<0:=by omega
   have hkl:k<l.length:=by rw [←HN.out];exact hlt
   obtain ⟨b,off,Aa,At,Ae,na,nt,ne,ca,ct,ce,m',hA,hm,hna,hnt,hne,hbl,hra,hrt,hre,hcl⟩:=stmt_at HR.out HN.out hkl
   obtain ⟨x,hx⟩:∃x,x=l[k]'hkl:=⟨_,rfl⟩
   obtain ⟨T,hT⟩:∃T,T=allL m' x.thn (loop || decide (x.kind=4)):=⟨_,rfl⟩
   obtain ⟨E,hE⟩:∃E,E=allL m' x.els loop:=⟨_,rfl⟩
   have hcut:allL m l loop=allL m (l.take k) loop++(x,loop) :: ((T++E)++allL m (l.drop (k+1)) loop):=by rw [hT,hE,hx,hm];exact allL_cutD hkl
   have htake:allL m (l.take (k+1)) loop=allL m (l.take k) loop++(x,loop) :: (T++E):=by rw [hT,hE,hx,hm];exact allL_takeD hkl
   have hlen:n0+1+T.length+E.length≤4611686018427387904:=by
    have h:=HBIG.out
    rw [hcut] at h
    simp only [List.length_append,List.length_cons] at h
    have h2:=HN0.out
    omega
   rw [←hx] at hna hnt hne hra hrt hre hcl
   subst hA
   obtain ⟨o,hoo⟩:∃o,o=G (x,loop):=⟨_,rfl⟩
   have HS1:Hid (∀X,Below w.heap.size w X→Calls Tryz.prog 59 #[.agg #[.slice A1 n1 c1,.slice A2 n2 c2],.slice Av nv cv,.agg #[.int .i64 x.kind,.string x.name,.slice Aa na ca,.slice At nt ct,.slice Ae ne ce],.bool loop] X fun r w'=>r=.returned (.int .i64 o)∧Below X.heap.size X w'):=Ω (fun X hX=>by
    rw [hoo,HGG.out]
    exact one_doc d D X p vars A1 A2 Av n1 n2 nv c1 c2 cv (HI.out.below hX) x loop Aa At Ae na nt ne ca ct ce (hra.imp (fun b hb=>ltle hb hX.size) (Keeps.of_below hX) fun _ _ _ r=>RExpr.up _ HDD.out (r.imp (fun b hb=>ltle hb hX.size) (Keeps.of_below hX))) hna)
   obtain ⟨lp,hlp⟩:∃lp,lp=(loop || decide (x.kind=4)):=⟨_,rfl⟩
   obtain ⟨u,hu⟩:∃u,u=(cntE G T).1:=⟨_,rfl⟩
   obtain ⟨a,ha⟩:∃a,a=(cntE G T).2:=⟨_,rfl⟩
   obtain ⟨v,hv⟩:∃v,v=(cntE G E).1:=⟨_,rfl⟩
   obtain ⟨e,he⟩:∃e,e=(cntE G E).2:=⟨_,rfl⟩
   have hal:a≤T.length:=by rw [ha];exact cntE_le G T
   have hel:e≤E.length:=by rw [he];exact cntE_le G E
   have HTH:Hid (∀X,Below w.heap.size w X→Calls Tryz.prog 34 #[.agg #[.slice A1 n1 c1,.slice A2 n2 c2],.slice Av nv cv,.slice At nt ct,.bool lp] X fun r w'=>r=.returned (.tuple #[.int .i64 u,.int .i64 (a:Int)])∧Below X.heap.size X w'):=Ω (fun X hX=>by
    have h:=IH.out m' hm X p vars A1 A2 Av n1 n2 nv c1 c2 cv (HI.out.below hX) x.thn lp At nt ct (hrt.imp (fun b hb=>ltle hb hX.size) (Keeps.of_below hX) fun _ _ _ r=>r.imp (fun b hb=>ltle hb hX.size) (Keeps.of_below hX)) hnt (by rw [hlp,←hT];omega)
    rw [←HGG.out,hlp,←hT,←hu,←ha] at h
    rw [hlp]
    exact h)
   have HEL:Hid (∀X,Below w.heap.size w X→Calls Tryz.prog 34 #[.agg #[.slice A1 n1 c1,.slice A2 n2 c2],.slice Av nv cv,.slice Ae ne ce,.bool loop] X fun r w'=>r=.returned (.tuple #[.int .i64 v,.int .i64 (e:Int)])∧Below X.heap.size X w'):=Ω (fun X hX=>by
    have h:=IH.out m' hm X p vars A1 A2 Av n1 n2 nv c1 c2 cv (HI.out.below hX) x.els loop Ae ne ce (hre.imp (fun b hb=>ltle hb hX.size) (Keeps.of_below hX) fun _ _ _ r=>r.imp (fun b hb=>ltle hb hX.size) (Keeps.of_below hX)) hne (by rw [←hE];omega)
    rw [←HGG.out,←hE,←hv,←he] at h
    exact h)
   have HCX:Hid (∀X,Below w.heap.size w X→X.cell? ⟨b,off+k*5,none⟩=some (.int .i64 x.kind)∧X.cell? ⟨b,off+k*5+1,none⟩=some (.string x.name)∧X.cell? ⟨b,off+k*5+2,none⟩=some (.slice Aa na ca)∧X.cell? ⟨b,off+k*5+3,none⟩=some (.slice At nt ct)∧X.cell? ⟨b,off+k*5+4,none⟩=some (.slice Ae ne ce)):=Ω (fun X hX=>hcl X (hX.block b hbl))
   have SO:Hid (∀X,Below W.heap.size W X→(fun X=>X.cell? ⟨w.heap.size,0,none⟩=some (.slice A1 n1 c1)∧X.cell? ⟨w.heap.size,1,none⟩=some (.slice A2 n2 c2)∧X.cell? ⟨b,off+k*5,none⟩=some (.int .i64 x.kind)∧X.cell? ⟨b,off+k*5+1,none⟩=some (.string x.name)∧X.cell? ⟨b,off+k*5+2,none⟩=some (.slice Aa na ca)∧X.cell? ⟨b,off+k*5+3,none⟩=some (.slice At nt ct)∧X.cell? ⟨b,off+k*5+4,none⟩=some (.slice Ae ne ce)) X):=Ω (fun X hX=>have q:=HCL.out X hX;have y:=HCX.out X (HF.out X hX);⟨q.1,q.2,y.1,y.2.1,y.2.2.1,y.2.2.2.1,y.2.2.2.2⟩)
   have HKL:=Ω hkl
   have HCUT:=Ω hcut
   have HTK:=Ω htake
   have HOO:=Ω hoo
   have HU:=Ω hu
   have HAA:=Ω ha
   have HV:=Ω hv
   have HEE:=Ω he
   have HLEN:=Ω hlen
   obtain ⟨k4,hk4⟩:∃k4,k4=(x.kind == 4):=⟨_,rfl⟩
   have HLP:Hid (lp=(loop || k4)):=Ω (by rw [hlp,hk4,beq_dec])
   have q4:=hk4.symm
   have hn1:n0+1+a+e≤4611686018427387904:=by omega
   clear hcl hbl hra hrt hre hna hnt hne hx hT hE hcut htake hoo hu ha hv he hlen hlp hk4 hm hal hel
   go_upto_region 5 with fail
   refine wp_region_G 8 (fun X=>X.cell? ⟨w.heap.size,0,none⟩=some (.slice A1 n1 c1)∧X.cell? ⟨w.heap.size,1,none⟩=some (.slice A2 n2 c2)∧X.cell? ⟨b,off+k*5,none⟩=some (.int .i64 x.kind)∧X.cell? ⟨b,off+k*5+1,none⟩=some (.string x.name)∧X.cell? ⟨b,off+k*5+2,none⟩=some (.slice Aa na ca)∧X.cell? ⟨b,off+k*5+3,none⟩=some (.slice At nt ct)∧X.cell? ⟨b,off+k*5+4,none⟩=some (.slice Ae ne ce)) (SO.out _ HBR.out.drew) ?_
   change GL _ _ _ _ _ 8 9 (Array.replicate 9 false) _ _
   have HY0:Hid (Below W.heap.size W wr.drew):=Ω HBR.out.drew
   obtain ⟨Y0,hY0⟩:∃Y0,wr.drew=Y0:=⟨_,rfl⟩
   rw [hY0] at HY0 ⊢
   clear hY0
   refine gS 0 (.agg #[.slice A1 n1 c1,.slice A2 n2 c2]) [8] ?_ ?_
   ·intro w2 hSw;obtain ⟨g0,g1,g2,g3,g4,g5,g6⟩:=hSw;go_simp
   refine gj 1 (.slice Av nv cv) ?_
   refine gj 2 (.slice (some ⟨b,off,none⟩) n c) ?_
   refine gj 3 (.int .i64 (k:Int)) ?_
   refine gj 4 (.pointer (some ⟨b,off+k*5,none⟩)) ?_
   refine gS 5 (.agg #[.int .i64 x.kind,.string x.name,.slice Aa na ca,.slice At nt ct,.slice Ae ne ce]) [8] ?_ ?_
   ·intro w2 hSw;obtain ⟨g0,g1,g2,g3,g4,g5,g6⟩:=hSw;go_simp
   refine gj 6 (.bool loop) ?_
   refine gO 7 (fun K hK=>?_)
   go_simp
   refine (HS1.out Y0 (HF.out _ HY0.out)).mono ?_
   rintro r X1 ⟨rfl,hb⟩
   have HX1:=Ω (HY0.out.trans (hb.mono HY0.out.size))
   clear hb
   refine hK.out _ _ (SO.out _ HX1.out) ?_
   clear hK K
   try simp only [sG]
   refine gL (fun K hK=>?_)
   go_simp
   refine hK.out _ _ ?_
   clear hK K
   try simp only [sG]
   by_cases h0:o=0
   case neg=>
    have q1:(o == 0)=false:=by rw [beq_dec];exact dF h0
    have q2:(o != 0)=true:=by rw [bne,q1];rfl
    have H0:=Ω h0
    clear h0
    go_wp2
    go_ret2
    have hf:cntE G (allL m l loop)=(o,n0):=by rw [HCUT.out,cntE_skip HZ.out,cntE_at (by rw [←HOO.out];exact H0.out),←HOO.out,←HN0.out];rfl
    rw [hf]
    exact ⟨rfl,HF.out _ HX1.out⟩
   case pos=>
   have q1:(o == 0)=true:=beq_iff_eq.2 h0
   have q2:(o != 0)=false:=by rw [bne,q1];rfl
   have H0:=Ω h0
   clear h0
   have hcut2:cntE G (allL m l loop)=((cntE G ((T++E)++allL m (l.drop (k+1)) loop)).1,n0+((cntE G ((T++E)++allL m (l.drop (k+1)) loop)).2+1)):=by rw [HCUT.out,cntE_skip HZ.out,cntE_cons (by rw [←HOO.out];exact H0.out),←HN0.out]
   have HC2:=Ω hcut2
   clear hcut2
   go_upto_region 9 with fail
   go_cut [13,14] (fun s t wx=>s=.int .i64 u∧t=.int .i64 (a:Int)∧Below W.heap.size W wx)
   case first=>
    cases loop with
    |true=>
     have hlq:lp=true:=by rw [HLP.out];rfl
     rw [hlq] at HTH
     clear hlq
     refine wp_region_G 21 (fun X=>X.cell? ⟨w.heap.size,0,none⟩=some (.slice A1 n1 c1)∧X.cell? ⟨w.heap.size,1,none⟩=some (.slice A2 n2 c2)∧X.cell? ⟨b,off+k*5,none⟩=some (.int .i64 x.kind)∧X.cell? ⟨b,off+k*5+1,none⟩=some (.string x.name)∧X.cell? ⟨b,off+k*5+2,none⟩=some (.slice Aa na ca)∧X.cell? ⟨b,off+k*5+3,none⟩=some (.slice At nt ct)∧X.cell? ⟨b,off+k*5+4,none⟩=some (.slice Ae ne ce)) (SO.out _ HX1.out.drew) ?_
     change GL _ _ _ _ _ 21 22 (Array.replicate 22 false) _ _
     have HY0:Hid (Below W.heap.size W X1.drew):=Ω HX1.out.drew
     obtain ⟨Y0,hY0⟩:∃Y0,X1.drew=Y0:=⟨_,rfl⟩
     rw [hY0] at HY0 ⊢
     clear hY0
     refine gS 0 (.agg #[.slice A1 n1 c1,.slice A2 n2 c2]) [21] ?_ ?_
     ·intro w2 hSw;obtain ⟨g0,g1,g2,g3,g4,g5,g6⟩:=hSw;go_simp
     refine gj 1 (.slice Av nv cv) ?_
     refine gj 2 (.slice (some ⟨b,off,none⟩) n c) ?_
     refine gj 3 (.int .i64 (k:Int)) ?_
     refine gj 4 (.pointer (some ⟨b,off+k*5,none⟩)) ?_
     refine gj 5 (.pointer (some ⟨b,off+k*5+3,none⟩)) ?_
     refine gS 6 (.slice At nt ct) [21] ?_ ?_
     ·intro w2 hSw;obtain ⟨g0,g1,g2,g3,g4,g5,g6⟩:=hSw;go_simp
     refine gj 7 (.bool true) ?_
     refine gj 8 (.bool true) ?_
     refine gN 9 ?_
     refine gN 10 ?_
     refine gN 11 ?_
     refine gN 12 ?_
     refine gN 13 ?_
     refine gN 14 ?_
     refine gj 15 (.bool true) ?_
     refine gO 16 (fun K hK=>?_)
     go_simp
     refine (HTH.out Y0 (HF.out _ HY0.out)).mono ?_
     rintro r X2 ⟨rfl,hb⟩
     have HX2:=Ω (HY0.out.trans (hb.mono HY0.out.size))
     clear hb
     refine hK.out _ _ (SO.out _ HX2.out) ?_
     clear hK K
     try simp only [sG]
     refine gj 17 (.tuple #[.int .i64 u,.int .i64 (a:Int)]) ?_
     refine gj 18 (.int .i64 u) ?_
     refine gj 19 (.int .i64 (a:Int)) ?_
     refine gj 20 (.int .i64 u) ?_
     refine gL (fun K hK=>?_)
     go_simp
     refine hK.out _ _ ?_
     clear hK K
     try simp only [sG]
     go_wp2
     go_meet
     case rel=>exact ⟨rfl,rfl,HX2.out⟩
    |false=>
     have hlq:lp=k4:=by rw [HLP.out];rfl
     rw [hlq] at HTH
     have HLQ:=Ω hlq
     clear hlq
     refine wp_region_G 21 (fun X=>X.cell? ⟨w.heap.size,0,none⟩=some (.slice A1 n1 c1)∧X.cell? ⟨w.heap.size,1,none⟩=some (.slice A2 n2 c2)∧X.cell? ⟨b,off+k*5,none⟩=some (.int .i64 x.kind)∧X.cell? ⟨b,off+k*5+1,none⟩=some (.string x.name)∧X.cell? ⟨b,off+k*5+2,none⟩=some (.slice Aa na ca)∧X.cell? ⟨b,off+k*5+3,none⟩=some (.slice At nt ct)∧X.cell? ⟨b,off+k*5+4,none⟩=some (.slice Ae ne ce)) (SO.out _ HX1.out.drew) ?_
     change GL _ _ _ _ _ 21 22 (Array.replicate 22 false) _ _
     have HY0:Hid (Below W.heap.size W X1.drew):=Ω HX1.out.drew
     obtain ⟨Y0,hY0⟩:∃Y0,X1.drew=Y0:=⟨_,rfl⟩
     rw [hY0] at HY0 ⊢
     clear hY0
     refine gS 0 (.agg #[.slice A1 n1 c1,.slice A2 n2 c2]) [21] ?_ ?_
     ·intro w2 hSw;obtain ⟨g0,g1,g2,g3,g4,g5,g6⟩:=hSw;go_simp
     refine gj 1 (.slice Av nv cv) ?_
     refine gj 2 (.slice (some ⟨b,off,none⟩) n c) ?_
     refine gj 3 (.int .i64 (k:Int)) ?_
     refine gj 4 (.pointer (some ⟨b,off+k*5,none⟩)) ?_
     refine gj 5 (.pointer (some ⟨b,off+k*5+3,none⟩)) ?_
     refine gS 6 (.slice At nt ct) [21] ?_ ?_
     ·intro w2 hSw;obtain ⟨g0,g1,g2,g3,g4,g5,g6⟩:=hSw;go_simp
     refine gj 7 (.bool false) ?_
     refine gj 8 (.bool false) ?_
     refine gj 9 (.slice (some ⟨b,off,none⟩) n c) ?_
     refine gj 10 (.int .i64 (k:Int)) ?_
     refine gj 11 (.pointer (some ⟨b,off+k*5,none⟩)) ?_
     refine gj 12 (.pointer (some ⟨b,off+k*5,none⟩)) ?_
     refine gS 13 (.int .i64 x.kind) [21] ?_ ?_
     ·intro w2 hSw;obtain ⟨g0,g1,g2,g3,g4,g5,g6⟩:=hSw;go_simp
     refine gj 14 (.bool k4) ?_
     refine gj 15 (.bool k4) ?_
     refine gO 16 (fun K hK=>?_)
     go_simp
     refine (HTH.out Y0 (HF.out _ HY0.out)).mono ?_
     rintro r X2 ⟨rfl,hb⟩
     have HX2:=Ω (HY0.out.trans (hb.mono HY0.out.size))
     clear hb
     refine hK.out _ _ (SO.out _ HX2.out) ?_
     clear hK K
     try simp only [sG]
     refine gj 17 (.tuple #[.int .i64 u,.int .i64 (a:Int)]) ?_
     refine gj 18 (.int .i64 u) ?_
     refine gj 19 (.int .i64 (a:Int)) ?_
     refine gj 20 (.int .i64 u) ?_
     refine gL (fun K hK=>?_)
     go_simp
     refine hK.out _ _ ?_
     clear hK K
     try simp only [sG]
     go_wp2
     go_meet
     case rel=>exact ⟨rfl,rfl,HX2.out⟩
   case rest=>
   obtain ⟨rfl,rfl,hb3⟩:=hcut
   have HX3:=Ω hb3
   clear hb3
   by_cases h0:u=0
   case neg=>
    have q5:(u == 0)=false:=by rw [beq_dec];exact dF h0
    have q6:(u != 0)=true:=by rw [bne,q5];rfl
    have H9:=Ω h0
    clear h0
    go_wp2
    go_ret2
    have hf:cntE G (allL m l loop)=(u,n0+(a+1)):=by rw [HC2.out,List.append_assoc,cntE_hit (by rw [←HU.out];exact H9.out),←HU.out,←HAA.out]
    rw [hf]
    refine ⟨?_,HF.out _ HX3.out⟩
    show Ending.returned (.tuple #[.int .i64 u,.int .i64 ((n0:Int)+1+(a:Int))])=.returned (.tuple #[.int .i64 u,.int .i64 ((n0+(a+1):Nat):Int)])
    rw [show ((n0+(a+1):Nat):Int)=(n0:Int)+1+(a:Int) by omega]
   case pos=>
   have q5:(u == 0)=true:=beq_iff_eq.2 h0
   have q6:(u != 0)=false:=by rw [bne,q5];rfl
   have H9:=Ω h0
   clear h0
   go_upto_region 13 with fail
   refine wp_region_G 13 (fun X=>X.cell? ⟨w.heap.size,0,none⟩=some (.slice A1 n1 c1)∧X.cell? ⟨w.heap.size,1,none⟩=some (.slice A2 n2 c2)∧X.cell? ⟨b,off+k*5,none⟩=some (.int .i64 x.kind)∧X.cell? ⟨b,off+k*5+1,none⟩=some (.string x.name)∧X.cell? ⟨b,off+k*5+2,none⟩=some (.slice Aa na ca)∧X.cell? ⟨b,off+k*5+3,none⟩=some (.slice At nt ct)∧X.cell? ⟨b,off+k*5+4,none⟩=some (.slice Ae ne ce)) (SO.out _ HX3.out.drew) ?_
   change GL _ _ _ _ _ 13 14 (Array.replicate 14 false) _ _
   have HY0:Hid (Below W.heap.size W wc.drew):=Ω HX3.out.drew
   obtain ⟨Y0,hY0⟩:∃Y0,wc.drew=Y0:=⟨_,rfl⟩
   rw [hY0] at HY0 ⊢
   clear hY0
   refine gS 0 (.agg #[.slice A1 n1 c1,.slice A2 n2 c2]) [13] ?_ ?_
   ·intro w2 hSw;obtain ⟨g0,g1,g2,g3,g4,g5,g6⟩:=hSw;go_simp
   refine gj 1 (.slice Av nv cv) ?_
   refine gj 2 (.slice (some ⟨b,off,none⟩) n c) ?_
   refine gj 3 (.int .i64 (k:Int)) ?_
   refine gj 4 (.pointer (some ⟨b,off+k*5,none⟩)) ?_
   refine gj 5 (.pointer (some ⟨b,off+k*5+4,none⟩)) ?_
   refine gS 6 (.slice Ae ne ce) [13] ?_ ?_
   ·intro w2 hSw;obtain ⟨g0,g1,g2,g3,g4,g5,g6⟩:=hSw;go_simp
   refine gj 7 (.bool loop) ?_
   refine gO 8 (fun K hK=>?_)
   go_simp
   refine (HEL.out Y0 (HF.out _ HY0.out)).mono ?_
   rintro r X5 ⟨rfl,hb⟩
   have HX5:=Ω (HY0.out.trans (hb.mono HY0.out.size))
   clear hb
   refine hK.out _ _ (SO.out _ HX5.out) ?_
   clear hK K
   try simp only [sG]
   refine gj 9 (.tuple #[.int .i64 v,.int .i64 (e:Int)]) ?_
   refine gj 10 (.int .i64 v) ?_
   refine gj 11 (.int .i64 (e:Int)) ?_
   refine gj 12 (.int .i64 v) ?_
   refine gL (fun K hK=>?_)
   go_simp
   refine hK.out _ _ ?_
   clear hK K
   try simp only [sG]
   by_cases h0:v=0
   case neg=>
    have q7:(v == 0)=false:=by rw [beq_dec];exact dF h0
    have q8:(v != 0)=true:=by rw [bne,q7];rfl
    have HV9:=Ω h0
    clear h0
    go_wp2
    go_ret2
    have hf:cntE G (allL m l loop)=(v,n0+(a+e+1)):=by
     rw [HC2.out,List.append_assoc,cntE_skip (by rw [←HU.out];exact H9.out),cntE_hit (by rw [←HV.out];exact HV9.out),←HV.out,←HEE.out,←cntE_all (by rw [←HU.out];exact H9.out),←HAA.out]
    rw [hf]
    refine ⟨?_,HF.out _ HX5.out⟩
    show Ending.returned (.tuple #[.int .i64 v,.int .i64 ((n0:Int)+1+(a:Int)+(e:Int))])=.returned (.tuple #[.int .i64 v,.int .i64 ((n0+(a+e+1):Nat):Int)])
    rw [show ((n0+(a+e+1):Nat):Int)=(n0:Int)+1+(a:Int)+(e:Int) by omega]
   case pos=>
   have q7:(v == 0)=true:=beq_iff_eq.2 h0
   have q8:(v != 0)=false:=by rw [bne,q7];rfl
   have HV9:=Ω h0
   clear h0
   go_wp2
   go_roundw
   case rel=>
    have ea:a=T.length:=by rw [HAA.out];exact cntE_all (by rw [←HU.out];exact H9.out)
    have ee:e=E.length:=by rw [HEE.out];exact cntE_all (by rw [←HV.out];exact HV9.out)
    refine ⟨k+1,n0+1+a+e,by omega,by first|rfl|(congr 1;omega),by go_num,HX5.out,?_,?_⟩
    ·rw [HTK.out,List.length_append,List.length_cons,List.length_append,←HN0.out];omega
    ·rw [HTK.out,cntE_skip HZ.out,cntE_cons (by rw [←HOO.out];exact H0.out),cntE_skip (by rw [←HU.out];exact H9.out),←HV.out];exact HV9.out
   case measure=>simp [intOf];omega
  ·have hkn:k=n:=by omega
   have d1:decide ((k:Int)<(n:Int))=false:=dF (by omega)
   go_wp2
   go_ret2
   have ht:l.take k=l:=by rw [hkn,HN.out,List.take_length]
   have hf:cntE G (allL m l loop)=(0,n0):=by
    have h1:=HZ.out
    have h2:=HN0.out
    rw [ht] at h1 h2
    have h3:=cntE_all h1
    rw [←h2] at h3
    exact Prod.ext h1 h3
   rw [hf]
   exact ⟨rfl,HF.out _ HBR.out⟩
theorem stmts_doc (d D:Nat):∀m:Nat,m≤D→StmtsDoc d D m
 |0,h=>stmts_stepD d D 0 h (Ω fun m' h=>absurd h (by omega))
 |m+1,h=>stmts_stepD d D (m+1) h (Ω fun m' h2=>by
  obtain rfl:m=m':=by omega
  exact stmts_doc d D m (by omega))
end
end Go.Proofs.YtmignlclfbaifaaGreat
