/- The document's stmts (counterproofref03): stmtB. Printed by wip/gen_rfstmt.py. The document's Right (counterproofref03): rightB. Printed by wip/gen_rfright.py. The document's has (counterproofref05): hasS. Printed by wip/gen_rfcheck.py. The document's twice (counterproofref05): twiceB. Printed by wip/gen_rfcheck.py. -/
import Derived.Test.YtmignlclfbaifaaGreatPtRfA
import Derived.Test.YtmignlclfbaifaaGreatPtTrSmall
import Derived.Test.YtmignlclfbaifaaGreatPtRegion
namespace Go.Proofs.YtmignlclfbaifaaGreat
open Go.RowKit
theorem bareS1 {x:LStmt} (h:x.kind=1):bareS x=((nameB x.name && (decide (x.thn.length=0) && decide (x.els.length=0))) && ((x.args.length:Int) == 1)):=by
 have e:((x.args.length:Int) == 1)=decide (x.args.length=1):=by rw [Bool.eq_iff_iff,beq_iff_eq,decide_eq_true_eq];omega
 have e2:decide ((x.args.length:Int)=x.kind)=decide (x.args.length=1):=decide_eq_decide.2 (by omega)
 rw [e]
 unfold bareS
 repeat rw [if_neg (by omega)]
 rw [if_pos (by omega),e2]
 cases nameB x.name <;> cases decide (x.thn.length=0) <;> cases decide (x.els.length=0) <;> cases decide (x.args.length=1) <;> rfl
theorem bareS2 {x:LStmt} (h:x.kind=2):bareS x=((nameB x.name && (decide (x.thn.length=0) && decide (x.els.length=0))) && ((x.args.length:Int) == 2)):=by
 have e:((x.args.length:Int) == 2)=decide (x.args.length=2):=by rw [Bool.eq_iff_iff,beq_iff_eq,decide_eq_true_eq];omega
 have e2:decide ((x.args.length:Int)=x.kind)=decide (x.args.length=2):=decide_eq_decide.2 (by omega)
 rw [e]
 unfold bareS
 repeat rw [if_neg (by omega)]
 rw [if_pos (by omega),e2]
 cases nameB x.name <;> cases decide (x.thn.length=0) <;> cases decide (x.els.length=0) <;> cases decide (x.args.length=2) <;> rfl
theorem bareS3 {x:LStmt} (h:x.kind=3):bareS x=((decide (x.name=⟨#[]⟩)) && ((x.args.length:Int) == 1)):=by
 have e:((x.args.length:Int) == 1)=decide (x.args.length=1):=by rw [Bool.eq_iff_iff,beq_iff_eq,decide_eq_true_eq];omega
 rw [e]
 unfold bareS
 repeat rw [if_neg (by omega)]
 rw [if_pos (by omega)]
theorem bareS4 {x:LStmt} (h:x.kind=4):bareS x=(((decide (x.name=⟨#[]⟩) && decide (x.els.length=0))) && ((x.args.length:Int) == 1)):=by
 have e:((x.args.length:Int) == 1)=decide (x.args.length=1):=by rw [Bool.eq_iff_iff,beq_iff_eq,decide_eq_true_eq];omega
 rw [e]
 unfold bareS
 repeat rw [if_neg (by omega)]
 rw [if_pos (by omega)]
 cases decide (x.name=⟨#[]⟩) <;> cases decide (x.els.length=0) <;> cases decide (x.args.length=1) <;> rfl
theorem bareS5 {x:LStmt} (h:x.kind=5):bareS x=(((decide (x.name=⟨#[]⟩) && (decide (x.thn.length=0) && decide (x.els.length=0)))) && ((x.args.length:Int) == 0)):=by
 have e:((x.args.length:Int) == 0)=decide (x.args.length=0):=by rw [Bool.eq_iff_iff,beq_iff_eq,decide_eq_true_eq];omega
 rw [e]
 unfold bareS
 repeat rw [if_neg (by omega)]
 rw [if_pos (by omega)]
 cases decide (x.name=⟨#[]⟩) <;> cases decide (x.thn.length=0) <;> cases decide (x.els.length=0) <;> cases decide (x.args.length=0) <;> rfl
theorem bareS6 {x:LStmt} (h:x.kind=6):bareS x=(((decide (x.name=⟨#[]⟩) && (decide (x.thn.length=0) && decide (x.els.length=0)))) && ((x.args.length:Int) == 0)):=by
 have e:((x.args.length:Int) == 0)=decide (x.args.length=0):=by rw [Bool.eq_iff_iff,beq_iff_eq,decide_eq_true_eq];omega
 rw [e]
 unfold bareS
 repeat rw [if_neg (by omega)]
 rw [if_pos (by omega)]
 cases decide (x.name=⟨#[]⟩) <;> cases decide (x.thn.length=0) <;> cases decide (x.els.length=0) <;> cases decide (x.args.length=0) <;> rfl
theorem bareS7 {x:LStmt} (h:x.kind=7):bareS x=(((decide (x.name=⟨#[]⟩) && (decide (x.thn.length=0) && decide (x.els.length=0)))) && ((x.args.length:Int) == 1)):=by
 have e:((x.args.length:Int) == 1)=decide (x.args.length=1):=by rw [Bool.eq_iff_iff,beq_iff_eq,decide_eq_true_eq];omega
 rw [e]
 unfold bareS
 repeat rw [if_neg (by omega)]
 rw [if_pos (by omega)]
 cases decide (x.name=⟨#[]⟩) <;> cases decide (x.thn.length=0) <;> cases decide (x.els.length=0) <;> cases decide (x.args.length=1) <;> rfl
theorem bareS8 {x:LStmt} (h:x.kind=8):bareS x=(((decide (x.name=⟨#[]⟩) && (decide (x.thn.length=0) && decide (x.els.length=0)))) && ((x.args.length:Int) == 1)):=by
 have e:((x.args.length:Int) == 1)=decide (x.args.length=1):=by rw [Bool.eq_iff_iff,beq_iff_eq,decide_eq_true_eq];omega
 rw [e]
 unfold bareS
 repeat rw [if_neg (by omega)]
 rw [if_pos (by omega)]
 cases decide (x.name=⟨#[]⟩) <;> cases decide (x.thn.length=0) <;> cases decide (x.els.length=0) <;> cases decide (x.args.length=1) <;> rfl
theorem bareS9 {x:LStmt} (h:x.kind=9):bareS x=(((decide (x.name=⟨#[]⟩) && (decide (x.thn.length=0) && decide (x.els.length=0)))) && ((x.args.length:Int) == 1)):=by
 have e:((x.args.length:Int) == 1)=decide (x.args.length=1):=by rw [Bool.eq_iff_iff,beq_iff_eq,decide_eq_true_eq];omega
 rw [e]
 unfold bareS
 repeat rw [if_neg (by omega)]
 rw [if_pos (by omega)]
 cases decide (x.name=⟨#[]⟩) <;> cases decide (x.thn.length=0) <;> cases decide (x.els.length=0) <;> cases decide (x.args.length=1) <;> rfl
theorem bareS10 {x:LStmt} (h:x.kind=10):bareS x=((((decide (x.name=⟨#[]⟩) && (decide (x.thn.length=0) && decide (x.els.length=0))) && ((x.args.length:Int) == 1)) && x.args.all fun e=>decide (e.kind=5)) && ((x.args.length:Int) == 1)):=by
 have e:((x.args.length:Int) == 1)=decide (x.args.length=1):=by rw [Bool.eq_iff_iff,beq_iff_eq,decide_eq_true_eq];omega
 rw [e]
 unfold bareS
 repeat rw [if_neg (by omega)]
 rw [if_pos (by omega)]
 cases decide (x.name=⟨#[]⟩) <;> cases decide (x.thn.length=0) <;> cases decide (x.els.length=0) <;> cases decide (x.args.length=1) <;> cases (x.args.all fun e=>decide (e.kind=5)) <;> rfl
theorem bareS0 {x:LStmt} (h:x.kind<1∨10<x.kind):bareS x=false:=by
 unfold bareS
 repeat rw [if_neg (by omega)]
theorem one_ofR {α:Type} {l:List α} (h:l.length=1) (h0:0<l.length):l=[l[0]'h0]:=by
 match l,h with
 |[z],_=>rfl
def StmtsRef (D d:Nat):Prop:=∀(l:List LStmt) (A:Option Addr) (n c:Nat) (w:World),SlR w (· < w.heap.size) 5 (RStmt d w (· < w.heap.size)) (.slice A n c) l→n=l.length→
  Calls Tryz.prog 58 #[.slice A n c] w fun r w'=>r=.returned (.bool (l.all (stmtB (D+1) d)))∧Below w.heap.size w w'
section
set_option maxRecDepth 100000
set_option maxHeartbeats 8000000
theorem stmts_stepR (D d:Nat) (hD:d≤D+1) (IH:Hid (∀d',d=d'+1→StmtsRef D d')):StmtsRef D d:=by
 intro l A n c w hr hn
 have hl:=hr.len_le
 unfold maxLen at hl
 rw [←hn] at hl
 have HR:=Ω hr
 have HN:=Ω hn
 have HDD:=Ω hD
 clear hr hn hD
 go_enter Tryz.func58,Tryz.ntmps58
 go_wp2
 go_loopw [3] (fun a wr=>∃k:Nat,k≤n∧a=.int .i64 (k:Int)∧Below w.heap.size w wr∧∀x∈l.take k,stmtB (D+1) d x=true) (fun a _=>n-(intOf a).toNat)
 case atStart=>exact ⟨0,by omega,rfl,Below.refl _ _,fun x hx=>by simp at hx⟩
 case round=>
  obtain ⟨k,hk,rfl,hbr,hall⟩:=hrel
  obtain ⟨wo,hwo⟩:∃wo,wo=wr:=⟨_,rfl⟩
  subst hwo
  have HA:=Ω hall
  have HBR:=Ω hbr
  clear hall hbr
  by_cases hlt:k<n
  ·have d1:decide ((k:Int)<(n:Int))=true:=dT (by omega)
   have hk1:(k:Int)<(n:Int):=by omega
   have hk0:¬(k:Int)<0:=by omega
   have hkl:k<l.length:=by rw [←HN.out];exact hlt
   obtain ⟨b,off,Aa,At,Ae,na,nt,ne,ca,ct,ce,d',hA,hd,hna,hnt,hne,hbl,hra,hrt,hre,hcl⟩:=stmt_at HR.out HN.out hkl
   obtain ⟨x,hx⟩:∃x,x=l[k]'hkl:=⟨_,rfl⟩
   rw [←hx] at hna hnt hne hra hrt hre hcl
   subst hA
   obtain ⟨i0,i1,i2,i3,i4⟩:=hcl wo (HBR.out.block b hbl)
   have HRA:Hid (SlR w (· < w.heap.size) 5 (RExpr (D+1) w (· < w.heap.size)) (.slice Aa na ca) x.args):=Ω (hra.imp (fun _ h=>h) (Keeps.refl _ _) fun _ _ _ r=>RExpr.up _ HDD.out r)
   have HT:Hid (∀X,Below w.heap.size w X→Calls Tryz.prog 58 #[.slice At nt ct] X fun r w'=>r=.returned (.bool (x.thn.all (stmtB (D+1) d')))∧Below X.heap.size X w'):=Ω (fun X hX=>IH.out d' hd x.thn At nt ct X (hrt.imp (fun b hb=>ltle hb hX.size) (Keeps.of_below hX) fun _ _ _ r=>r.imp (fun b hb=>ltle hb hX.size) (Keeps.of_below hX)) hnt)
   have HE:Hid (∀X,Below w.heap.size w X→Calls Tryz.prog 58 #[.slice Ae ne ce] X fun r w'=>r=.returned (.bool (x.els.all (stmtB (D+1) d')))∧Below X.heap.size X w'):=Ω (fun X hX=>IH.out d' hd x.els Ae ne ce X (hre.imp (fun b hb=>ltle hb hX.size) (Keeps.of_below hX) fun _ _ _ r=>r.imp (fun b hb=>ltle hb hX.size) (Keeps.of_below hX)) hne)
   have hla:=HRA.out.len_le
   unfold maxLen at hla
   rw [←hna] at hla
   obtain ⟨vt,hvt⟩:∃v,v=x.thn.all (stmtB (D+1) d'):=⟨_,rfl⟩
   obtain ⟨ve,hve⟩:∃v,v=x.els.all (stmtB (D+1) d'):=⟨_,rfl⟩
   rw [←hvt] at HT
   rw [←hve] at HE
   have HS:Hid (stmtB (D+1) d x=(bareS x && x.args.all (fun e=>deepE 40 e && wellE (D+1) e) && vt && ve)):=Ω (by rw [hd,hvt,hve];rfl)
   have HX:=Ω hx
   have HKL:=Ω hkl
   have HNA:=Ω hna
   have HNT:=Ω hnt
   have HNE:=Ω hne
   have HNO:Hid (stmtB (D+1) d x=false→l.all (stmtB (D+1) d)=false):=Ω (fun h=>by
    rw [List.all_eq_false]
    exact ⟨x,by rw [HX.out];exact List.getElem_mem _,by rw [h];exact Bool.false_ne_true⟩)
   clear hcl hbl hra hrt hre hd hna hnt hne hvt hve hx
   go_upto_region 5 with fail
   refine wp_world ?_
   intro W hW
   have hB:Below wo.heap.size wo W:=by rw [←hW];exact below1 _ _
   have hb:Blk W wo.heap.size 45 #[.int .i64 x.kind,.string x.name,.slice Aa na ca,.slice At nt ct,.slice Ae ne ce]:=by rw [←hW];exact Blk.new _ _ _
   have HB:Hid (Below w.heap.size w W):=Ω (HBR.out.trans (hB.mono HBR.out.size))
   have HBK:=Ω hb
   have HWS:=Ω hB.size
   clear hW hB hb i0 i1 i2 i3 i4
   have HCL:Hid (∀X,Below W.heap.size W X→X.cell? ⟨wo.heap.size,0,none⟩=some (.int .i64 x.kind)∧X.cell? ⟨wo.heap.size,1,none⟩=some (.string x.name)∧X.cell? ⟨wo.heap.size,2,none⟩=some (.slice Aa na ca)∧X.cell? ⟨wo.heap.size,3,none⟩=some (.slice At nt ct)∧X.cell? ⟨wo.heap.size,4,none⟩=some (.slice Ae ne ce)):=Ω (fun X hX=>
    have q:=HBK.out.below hX HBK.out.lt
    ⟨q.cell 0,q.cell 1,q.cell 2,q.cell 3,q.cell 4⟩)
   have HF:Hid (∀X,Below W.heap.size W X→Below w.heap.size w X):=Ω (fun X hX=>HB.out.trans (hX.mono HB.out.size))
   go_wp2
   go_loopw [5] (fun a wr=>∃j:Nat,j≤na∧a=.int .i64 (j:Int)∧Below W.heap.size W wr∧∀y∈x.args.take j,(deepE 40 y && wellE (D+1) y)=true) (fun a _=>na-(intOf a).toNat)
   case atStart=>exact ⟨0,by omega,rfl,Below.refl _ _,fun x hx=>by simp at hx⟩
   case round=>
    obtain ⟨j,hj,rfl,hb2,hall⟩:=hrel
    have HA2:=Ω hall
    have HB2:=Ω hb2
    obtain ⟨c0,c1,c2,c3,c4⟩:=HCL.out wr hb2
    clear hall hb2
    by_cases hjt:j<na
    ·have d2:decide ((j:Int)<(na:Int))=true:=dT (by omega)
     have hj1:(j:Int)<(na:Int):=by omega
     have hj0:¬(j:Int)<0:=by omega
     have hjl:j<x.args.length:=by rw [←HNA.out];exact hjt
     obtain ⟨bq,oq,Ay,ny,cy,d9,hA,hd,hny,hbl,hry,hcl⟩:=expr_at HRA.out HNA.out hjl
     obtain ⟨y,hy⟩:∃y,y=x.args[j]'hjl:=⟨_,rfl⟩
     rw [←hy] at hny hry hcl
     subst hA
     have hBw:Below w.heap.size w wr:=HF.out _ HB2.out
     obtain ⟨i0,i1,i2,i3,i4⟩:=hcl wr (hBw.block bq hbl)
     have hcall:Calls Tryz.prog 81 #[.agg #[.int .i64 y.kind,.int .i64 y.op,.int .i64 y.n,.string y.name,.slice Ay ny cy]] wr fun r w'=>r=.returned (.bool (deepE 40 y && wellE (D+1) y))∧Below wr.heap.size wr w':=by
      cases hd
      exact rexpr_ref D y Ay ny cy hny wr (hry.imp (fun b hb=>ltle hb hBw.size) (Keeps.of_below hBw) fun _ _ _ r=>r.imp (fun b hb=>ltle hb hBw.size) (Keeps.of_below hBw))
     obtain ⟨v,hv⟩:∃v,v=(deepE 40 y && wellE (D+1) y):=⟨_,rfl⟩
     rw [←hv] at hcall
     have HC:=Ω hcall
     have HV:=Ω hv
     have HY:=Ω hy
     have HJL:=Ω hjl
     clear hcl hbl hry hd hny hBw hcall hv hy c0 c1 c3 c4
     cases v with
     |true=>
      go_wp2_with (go_at_call 81;refine HC.out.mono ?_;rintro r w3 ⟨rfl,hb3⟩;have HB3:=Ω hb3;clear hb3)
      go_roundw
      case rel=>
       refine ⟨j+1,by omega,by go_num,HB2.out.trans (HB3.out.mono HB2.out.size),?_⟩
       intro z hz
       rw [List.take_succ_eq_append_getElem HJL.out,List.mem_append,List.mem_singleton,←HY.out] at hz
       rcases hz with hz|rfl
       ·exact HA2.out z hz
       ·exact HV.out.symm
      case measure=>simp [intOf];omega
     |false=>
      go_wp2_with (go_at_call 81;refine HC.out.mono ?_;rintro r w3 ⟨rfl,hb3⟩;have HB3:=Ω hb3;clear hb3)
      go_ret
      refine ⟨?_,HF.out _ (HB2.out.trans (HB3.out.mono HB2.out.size))⟩
      have hf:l.all (stmtB (D+1) d)=false:=HNO.out (by
       rw [HS.out]
       have hq:x.args.all (fun e=>deepE 40 e && wellE (D+1) e)=false:=by
        rw [List.all_eq_false]
        exact ⟨y,by rw [HY.out];exact List.getElem_mem _,by rw [←HV.out];exact Bool.false_ne_true⟩
       rw [hq,Bool.and_false];rfl)
      rw [hf];rfl
    ·have hjn:j=na:=by omega
     have d2:decide ((j:Int)<(na:Int))=false:=dF (by omega)
     have HSS:Hid (stmtB (D+1) d x=(bareS x && vt && ve)):=Ω (by
      have hq:x.args.all (fun e=>deepE 40 e && wellE (D+1) e)=true:=by
       rw [List.all_eq_true]
       intro y hy
       refine HA2.out y ?_
       rw [hjn,HNA.out,List.take_length]
       exact hy
      rw [HS.out,hq,Bool.and_true])
     clear HA2 HS hj
     have hret:Hid ((vt && ve)=false→l.all (stmtB (D+1) d)=false):=Ω (fun h=>HNO.out (by rw [HSS.out,Bool.and_assoc,h,Bool.and_false]))
     have tok1:True:=trivial
     cases vt with
     |false=>
      go_wp2_with (first|(go_at_call 58;have _t:=tok1;clear _t tok1;refine (HT.out _ (HF.out _ HB2.out)).mono ?_;rintro r w3 ⟨rfl,hb3⟩;have HB3:=Ω (HB2.out.trans (hb3.mono HB2.out.size));obtain ⟨e0,e1,e2,e3,e4⟩:=HCL.out w3 HB3.out;clear hb3)|(go_at_call 58;refine (HE.out _ (HF.out _ HB3.out)).mono ?_;rintro r w4 ⟨rfl,hb4⟩;have HB4:=Ω (HB3.out.trans (hb4.mono HB3.out.size));obtain ⟨f0,f1,f2,f3,f4⟩:=HCL.out w4 HB4.out;clear hb4 e0 e1 e2 e3 e4)|(go_at_call 55;refine (rname_any _ _).mono ?_;rintro r w5 ⟨rfl,hw5⟩;subst hw5))
      go_ret
      exact ⟨by rw [hret.out rfl];rfl,HF.out _ HB4.out⟩
     |true=>
     cases ve with
     |false=>
      go_wp2_with (first|(go_at_call 58;have _t:=tok1;clear _t tok1;refine (HT.out _ (HF.out _ HB2.out)).mono ?_;rintro r w3 ⟨rfl,hb3⟩;have HB3:=Ω (HB2.out.trans (hb3.mono HB2.out.size));obtain ⟨e0,e1,e2,e3,e4⟩:=HCL.out w3 HB3.out;clear hb3)|(go_at_call 58;refine (HE.out _ (HF.out _ HB3.out)).mono ?_;rintro r w4 ⟨rfl,hb4⟩;have HB4:=Ω (HB3.out.trans (hb4.mono HB3.out.size));obtain ⟨f0,f1,f2,f3,f4⟩:=HCL.out w4 HB4.out;clear hb4 e0 e1 e2 e3 e4)|(go_at_call 55;refine (rname_any _ _).mono ?_;rintro r w5 ⟨rfl,hw5⟩;subst hw5))
      go_ret
      exact ⟨by rw [hret.out rfl];rfl,HF.out _ HB4.out⟩
     |true=>
      go_upto_region 17 with (first|(go_at_call 58;have _t:=tok1;clear _t tok1;refine (HT.out _ (HF.out _ HB2.out)).mono ?_;rintro r w3 ⟨rfl,hb3⟩;have HB3:=Ω (HB2.out.trans (hb3.mono HB2.out.size));obtain ⟨e0,e1,e2,e3,e4⟩:=HCL.out w3 HB3.out;clear hb3)|(go_at_call 58;refine (HE.out _ (HF.out _ HB3.out)).mono ?_;rintro r w4 ⟨rfl,hb4⟩;have HB4:=Ω (HB3.out.trans (hb4.mono HB3.out.size));obtain ⟨f0,f1,f2,f3,f4⟩:=HCL.out w4 HB4.out;clear hb4 e0 e1 e2 e3 e4)|(go_at_call 55;refine (rname_any _ _).mono ?_;rintro r w5 ⟨rfl,hw5⟩;subst hw5))
      obtain ⟨bt,hbt⟩:∃b,b=decide (x.thn.length=0):=⟨_,rfl⟩
      obtain ⟨be,hbe⟩:∃b,b=decide (x.els.length=0):=⟨_,rfl⟩
      have t1:((nt:Int) == 0)=bt:=by rw [hbt,HNT.out,Bool.eq_iff_iff];simp
      have t2:((ne:Int) == 0)=be:=by rw [hbe,HNE.out,Bool.eq_iff_iff];simp
      have HBT:=Ω hbt;have HBE:=Ω hbe;clear hbt hbe
      obtain ⟨nb,hnb⟩:∃b,b=nameB x.name:=⟨_,rfl⟩
      obtain ⟨es,hes⟩:∃b,b=decide (x.name=⟨#[]⟩):=⟨_,rfl⟩
      have t3:(x.name.toList == [])=es:=by rw [empty_beq,hes]
      have HNB:=Ω hnb;have HES:=Ω hes
      rw [←hnb]
      clear hnb hes
      go_cut [11] (fun s wx=>s=.bool (bt && be)∧wx=w4)
      case first=>
       cases bt <;> (go_wp2;go_meet;exact ⟨rfl,rfl⟩)
      case rest=>
      obtain ⟨rfl,hw⟩:=hcut
      rw [hw]
      clear hw
      obtain ⟨bl,hbl⟩:∃b,b=(bt && be):=⟨_,rfl⟩
      rw [←hbl]
      have HBL:=Ω hbl
      clear hbl
      go_upto_block 4 with fail
      go_cut [10,12] (fun a s wx=>∃(q:Int) (v:Bool),a=.int .i64 q∧s=.bool v∧(v && ((na:Int) == q))=bareS x∧wx=w4)
      case first=>
       rcases (by omega:x.kind=1∨x.kind=2∨x.kind=3∨x.kind=4∨x.kind=5∨x.kind=6∨x.kind=7∨x.kind=8∨x.kind=9∨x.kind=10∨(x.kind<1∨10<x.kind)) with hq|hq|hq|hq|hq|hq|hq|hq|hq|hq|hq
       ·have k1:(x.kind == 1)=true:=by rw [hq];rfl
        have HZ:Hid (((nb && bl) && ((na:Int) == 1))=bareS x):=Ω (by rw [bareS1 hq,←HNB.out,←HBT.out,←HBE.out,←HBL.out,←HNA.out])
        clear hq
        cases nb <;> (go_wp2;go_meet;case rel=>exact ⟨1,_,rfl,rfl,HZ.out,rfl⟩)
       ·have k1:(x.kind == 1)=false:=by rw [hq];rfl
        have k2:(x.kind == 2)=true:=by rw [hq];rfl
        have HZ:Hid (((nb && bl) && ((na:Int) == 2))=bareS x):=Ω (by rw [bareS2 hq,←HNB.out,←HBT.out,←HBE.out,←HBL.out,←HNA.out])
        clear hq
        cases nb <;> (go_wp2;go_meet;case rel=>exact ⟨2,_,rfl,rfl,HZ.out,rfl⟩)
       ·have k1:(x.kind == 1)=false:=by rw [hq];rfl
        have k2:(x.kind == 2)=false:=by rw [hq];rfl
        have k3:(x.kind == 3)=true:=by rw [hq];rfl
        have HZ:Hid ((es && ((na:Int) == 1))=bareS x):=Ω (by rw [bareS3 hq,←HES.out,←HNA.out])
        clear hq
        (go_wp2;go_meet;case rel=>exact ⟨1,_,rfl,rfl,HZ.out,rfl⟩)
       ·have k1:(x.kind == 1)=false:=by rw [hq];rfl
        have k2:(x.kind == 2)=false:=by rw [hq];rfl
        have k3:(x.kind == 3)=false:=by rw [hq];rfl
        have k4:(x.kind == 4)=true:=by rw [hq];rfl
        have HZ:Hid (((es && be) && ((na:Int) == 1))=bareS x):=Ω (by rw [bareS4 hq,←HES.out,←HBE.out,←HNA.out])
        clear hq
        cases es <;> (go_wp2;go_meet;case rel=>exact ⟨1,_,rfl,rfl,HZ.out,rfl⟩)
       ·have k1:(x.kind == 1)=false:=by rw [hq];rfl
        have k2:(x.kind == 2)=false:=by rw [hq];rfl
        have k3:(x.kind == 3)=false:=by rw [hq];rfl
        have k4:(x.kind == 4)=false:=by rw [hq];rfl
        have k5:(x.kind == 5)=true:=by rw [hq];rfl
        have HZ:Hid (((es && bl) && ((na:Int) == 0))=bareS x):=Ω (by rw [bareS5 hq,←HES.out,←HBT.out,←HBE.out,←HBL.out,←HNA.out])
        clear hq
        cases es <;> (go_wp2;go_meet;case rel=>exact ⟨0,_,rfl,rfl,HZ.out,rfl⟩)
       ·have k1:(x.kind == 1)=false:=by rw [hq];rfl
        have k2:(x.kind == 2)=false:=by rw [hq];rfl
        have k3:(x.kind == 3)=false:=by rw [hq];rfl
        have k4:(x.kind == 4)=false:=by rw [hq];rfl
        have k5:(x.kind == 5)=false:=by rw [hq];rfl
        have k6:(x.kind == 6)=true:=by rw [hq];rfl
        have HZ:Hid (((es && bl) && ((na:Int) == 0))=bareS x):=Ω (by rw [bareS6 hq,←HES.out,←HBT.out,←HBE.out,←HBL.out,←HNA.out])
        clear hq
        cases es <;> (go_wp2;go_meet;case rel=>exact ⟨0,_,rfl,rfl,HZ.out,rfl⟩)
       ·have k1:(x.kind == 1)=false:=by rw [hq];rfl
        have k2:(x.kind == 2)=false:=by rw [hq];rfl
        have k3:(x.kind == 3)=false:=by rw [hq];rfl
        have k4:(x.kind == 4)=false:=by rw [hq];rfl
        have k5:(x.kind == 5)=false:=by rw [hq];rfl
        have k6:(x.kind == 6)=false:=by rw [hq];rfl
        have k7:(x.kind == 7)=true:=by rw [hq];rfl
        have HZ:Hid (((es && bl) && ((na:Int) == 1))=bareS x):=Ω (by rw [bareS7 hq,←HES.out,←HBT.out,←HBE.out,←HBL.out,←HNA.out])
        clear hq
        cases es <;> (go_wp2;go_meet;case rel=>exact ⟨1,_,rfl,rfl,HZ.out,rfl⟩)
       ·have k1:(x.kind == 1)=false:=by rw [hq];rfl
        have k2:(x.kind == 2)=false:=by rw [hq];rfl
        have k3:(x.kind == 3)=false:=by rw [hq];rfl
        have k4:(x.kind == 4)=false:=by rw [hq];rfl
        have k5:(x.kind == 5)=false:=by rw [hq];rfl
        have k6:(x.kind == 6)=false:=by rw [hq];rfl
        have k7:(x.kind == 7)=false:=by rw [hq];rfl
        have k8:(x.kind == 8)=true:=by rw [hq];rfl
        have HZ:Hid (((es && bl) && ((na:Int) == 1))=bareS x):=Ω (by rw [bareS8 hq,←HES.out,←HBT.out,←HBE.out,←HBL.out,←HNA.out])
        clear hq
        cases es <;> (go_wp2;go_meet;case rel=>exact ⟨1,_,rfl,rfl,HZ.out,rfl⟩)
       ·have k1:(x.kind == 1)=false:=by rw [hq];rfl
        have k2:(x.kind == 2)=false:=by rw [hq];rfl
        have k3:(x.kind == 3)=false:=by rw [hq];rfl
        have k4:(x.kind == 4)=false:=by rw [hq];rfl
        have k5:(x.kind == 5)=false:=by rw [hq];rfl
        have k6:(x.kind == 6)=false:=by rw [hq];rfl
        have k7:(x.kind == 7)=false:=by rw [hq];rfl
        have k8:(x.kind == 8)=false:=by rw [hq];rfl
        have k9:(x.kind == 9)=true:=by rw [hq];rfl
        have HZ:Hid (((es && bl) && ((na:Int) == 1))=bareS x):=Ω (by rw [bareS9 hq,←HES.out,←HBT.out,←HBE.out,←HBL.out,←HNA.out])
        clear hq
        cases es <;> (go_wp2;go_meet;case rel=>exact ⟨1,_,rfl,rfl,HZ.out,rfl⟩)
       ·have k1:(x.kind == 1)=false:=by rw [hq];rfl
        have k2:(x.kind == 2)=false:=by rw [hq];rfl
        have k3:(x.kind == 3)=false:=by rw [hq];rfl
        have k4:(x.kind == 4)=false:=by rw [hq];rfl
        have k5:(x.kind == 5)=false:=by rw [hq];rfl
        have k6:(x.kind == 6)=false:=by rw [hq];rfl
        have k7:(x.kind == 7)=false:=by rw [hq];rfl
        have k8:(x.kind == 8)=false:=by rw [hq];rfl
        have k9:(x.kind == 9)=false:=by rw [hq];rfl
        have k10:(x.kind == 10)=true:=by rw [hq];rfl
        have HZ:Hid (bareS x=((((es && bl) && ((na:Int) == 1)) && x.args.all fun e=>decide (e.kind=5)) && ((na:Int) == 1))):=Ω (by rw [bareS10 hq,HBL.out,HES.out,HBT.out,HBE.out,HNA.out])
        clear hq HBT HBE HES
        have fin:Hid (∀v:Bool,v=(((es && bl) && ((na:Int) == 1)) && x.args.all fun e=>decide (e.kind=5))→(v && ((na:Int) == 1))=bareS x):=Ω (fun v hv=>by rw [HZ.out,hv])
        clear HZ
        cases es with
        |false=>go_wp2;go_meet;case rel=>exact ⟨1,false,rfl,rfl,fin.out _ rfl,rfl⟩
        |true=>
        cases bl with
        |false=>go_wp2;go_meet;case rel=>exact ⟨1,false,rfl,rfl,fin.out _ rfl,rfl⟩
        |true=>
        by_cases hn1:na=1
        ·have hal:0<x.args.length:=by rw [←HNA.out,hn1];omega
         obtain ⟨bq,oq,Ay,ny,cy,d9,hA,hd,hny,hbl,hry,hcl⟩:=expr_at HRA.out HNA.out hal
         obtain ⟨y,hy⟩:∃y,y=x.args[0]'hal:=⟨_,rfl⟩
         rw [←hy] at hny hry hcl
         have hxy:x.args=[y]:=by rw [hy];exact one_ofR (by rw [←HNA.out,hn1]) hal
         subst hA
         obtain ⟨i0,i1,i2,i3,i4⟩:=hcl w4 ((HF.out _ HB4.out).block bq hbl)
         have j0:w4.cell? ⟨bq,oq,none⟩=some (.int .i64 y.kind):=by simpa using i0
         obtain ⟨k5,hk5⟩:∃v,v=(y.kind == 5):=⟨_,rfl⟩
         have a5:=hk5.symm
         have HZ:Hid ((k5 && ((na:Int) == 1))=bareS x):=Ω (fin.out _ (by rw [hxy,hn1,hk5,beq_dec];simp))
         clear hcl hbl hry hd hny hy hxy fin hk5 i1 i2 i3 i4
         subst hn1
         go_wp2;go_meet;case rel=>exact ⟨1,k5,rfl,rfl,HZ.out,rfl⟩
        ·have n1:((na:Int) == 1)=false:=by rw [beq_dec];exact dF (by omega)
         have HZ:Hid ((false && ((na:Int) == 1))=bareS x):=Ω (fin.out _ (by rw [n1];rfl))
         clear hn1
         go_wp2;go_meet;case rel=>exact ⟨1,false,rfl,rfl,HZ.out,rfl⟩
       ·have k1:(x.kind == 1)=false:=by rw [beq_dec];exact dF (by omega)
        have k2:(x.kind == 2)=false:=by rw [beq_dec];exact dF (by omega)
        have k3:(x.kind == 3)=false:=by rw [beq_dec];exact dF (by omega)
        have k4:(x.kind == 4)=false:=by rw [beq_dec];exact dF (by omega)
        have k5:(x.kind == 5)=false:=by rw [beq_dec];exact dF (by omega)
        have k6:(x.kind == 6)=false:=by rw [beq_dec];exact dF (by omega)
        have k7:(x.kind == 7)=false:=by rw [beq_dec];exact dF (by omega)
        have k8:(x.kind == 8)=false:=by rw [beq_dec];exact dF (by omega)
        have k9:(x.kind == 9)=false:=by rw [beq_dec];exact dF (by omega)
        have k10:(x.kind == 10)=false:=by rw [beq_dec];exact dF (by omega)
        have HZ:Hid ((false && ((na:Int) == 1))=bareS x):=Ω (by rw [bareS0 hq,Bool.false_and])
        clear hq
        (go_wp2;go_meet;case rel=>exact ⟨1,_,rfl,rfl,HZ.out,rfl⟩)
      case rest=>
      obtain ⟨q,v,rfl,rfl,hv,hw⟩:=hcut
      rw [hw]
      clear hw
      have HV:Hid ((v && ((na:Int) == q))=bareS x):=Ω hv
      clear hv HNB HES HBT HBE HBL t1 t2 t3
      cases v with
      |false=>
       go_wp2
       go_ret
       exact ⟨by rw [HNO.out (by rw [HSS.out,←HV.out];rfl)];rfl,HF.out _ HB4.out⟩
      |true=>
       obtain ⟨r,hr⟩:∃r,r=((na:Int) == q):=⟨_,rfl⟩
       have r1:=hr.symm
       have r2:((na:Int) != q)=!r:=by rw [hr];rfl
       have HVR:Hid (bareS x=r):=Ω (by rw [←HV.out,hr];rfl)
       clear hr HV
       cases r with
       |false=>
        go_wp2
        go_ret
        exact ⟨by rw [HNO.out (by rw [HSS.out,HVR.out];rfl)];rfl,HF.out _ HB4.out⟩
       |true=>
        go_wp2
        go_roundw
        case rel=>
         refine ⟨k+1,by omega,by go_num,HF.out _ HB4.out,?_⟩
         intro y hy
         rw [List.take_succ_eq_append_getElem HKL.out,List.mem_append,List.mem_singleton,←HX.out] at hy
         rcases hy with hy|rfl
         ·exact HA.out y hy
         ·rw [HSS.out,HVR.out];rfl
        case measure=>simp [intOf];omega
  ·have hkn:k=n:=by omega
   have d1:decide ((k:Int)<(n:Int))=false:=dF (by omega)
   go_wp2
   go_ret
   refine ⟨?_,HBR.out⟩
   have hf:l.all (stmtB (D+1) d)=true:=by
    rw [List.all_eq_true]
    intro y hy
    refine HA.out y ?_
    rw [hkn,HN.out,List.take_length]
    exact hy
   rw [hf];rfl
theorem stmts_ref (D:Nat):∀d:Nat,d≤D+1→StmtsRef D d
 |0,h=>stmts_stepR D 0 h (Ω fun d' h=>absurd h (by omega))
 |d+1,h=>stmts_stepR D (d+1) h (Ω fun d' e=>by cases e;exact stmts_ref D d (by omega))
end
end Go.Proofs.YtmignlclfbaifaaGreat
namespace Go.Proofs.YtmignlclfbaifaaGreat
open Go.RowKit
section
set_option maxRecDepth 100000
set_option maxHeartbeats 8000000
theorem arr_at {w:World} {A:Option Addr} {n c:Nat} {l:List (ByteArray × Int)} (h:SlR w (· < w.heap.size) 2 RArr (.slice A n c) l) {k:Nat} (hk:k<l.length) :
  ∃b off,A=some ⟨b,off,none⟩∧b<w.heap.size∧∀X:World,X.heap[b]?=w.heap[b]?→X.cell? ⟨b,off+k*2,none⟩=some (.string l[k].1)∧X.cell? ⟨b,off+k*2+1,none⟩=some (.int .i64 l[k].2):=by
 obtain ⟨b,off,c',hform,_,_,hb,hel⟩:=h.form (by omega)
 obtain ⟨cs,_,hcs,hcell⟩:=hel k hk
 subst hcs
 refine ⟨b,off,by injection hform,hb,fun X hX=>?_⟩
 have hq:=hcell.keep hX
 exact ⟨by simpa using hq.at_ (j:=0) rfl,hq.at_ (j:=1) rfl⟩
theorem func_at {d:Nat} {w:World} {A:Option Addr} {n c:Nat} {l:List LFunc} (h:SlR w (· < w.heap.size) 4 (RFunc d w (· < w.heap.size)) (.slice A n c) l) {k:Nat} (hk:k<l.length) :
  ∃(b off:Nat) (Ap Al Ab:Option Addr) (np nl nb cp cl cb:Nat),A=some ⟨b,off,none⟩∧b<w.heap.size∧np=l[k].params.length∧nl=l[k].locals.length∧nb=l[k].body.length∧SlR w (· < w.heap.size) 1 RStr (.slice Ap np cp) l[k].params∧SlR w (· < w.heap.size) 1 RStr (.slice Al nl cl) l[k].locals∧SlR w (· < w.heap.size) 5 (RStmt d w (· < w.heap.size)) (.slice Ab nb cb) l[k].body∧
   ∀X:World,X.heap[b]?=w.heap[b]?→X.cell? ⟨b,off+k*4,none⟩=some (.string l[k].name)∧X.cell? ⟨b,off+k*4+1,none⟩=some (.slice Ap np cp)∧X.cell? ⟨b,off+k*4+2,none⟩=some (.slice Al nl cl)∧X.cell? ⟨b,off+k*4+3,none⟩=some (.slice Ab nb cb):=by
 obtain ⟨b,off,c',hform,_,_,hb,hel⟩:=h.form (by omega)
 obtain ⟨cs,_,hcs,hcell⟩:=hel k hk
 obtain ⟨vp,vl,vb,rfl,h1,h2,h3⟩:=hcs
 obtain ⟨Ap,cp,rfl,_,_⟩:=h1.val
 obtain ⟨Al,cl,rfl,_,_⟩:=h2.val
 obtain ⟨Ab,cb,rfl,_,_⟩:=h3.val
 refine ⟨b,off,Ap,Al,Ab,_,_,_,cp,cl,cb,by injection hform,hb,rfl,rfl,rfl,h1,h2,h3,fun X hX=>?_⟩
 have hq:=hcell.keep hX
 exact ⟨by simpa using hq.at_ (j:=0) rfl,hq.at_ (j:=1) rfl,hq.at_ (j:=2) rfl,hq.at_ (j:=3) rfl⟩
theorem right_doc (d:Nat) (p:LProg) (A1 A2:Option Addr) (n1 n2 c1 c2:Nat) (hn1:n1=p.arrays.length) (hn2:n2=p.funcs.length) (w:World) (ha:SlR w (· < w.heap.size) 2 RArr (.slice A1 n1 c1) p.arrays) (hf:SlR w (· < w.heap.size) 4 (RFunc (d+1) w (· < w.heap.size)) (.slice A2 n2 c2) p.funcs) :
  Calls Tryz.prog 31 #[.agg #[.slice A1 n1 c1,.slice A2 n2 c2]] w fun r w'=>r=.returned (.bool (rightB (d+1) p))∧Below w.heap.size w w':=by
 have hl1:=ha.len_le
 have hl2:=hf.len_le
 unfold maxLen at hl1 hl2
 rw [←hn1] at hl1
 rw [←hn2] at hl2
 have HA:=Ω ha
 have HFN:=Ω hf
 have HN1:=Ω hn1
 have HN2:=Ω hn2
 clear ha hf hn1 hn2
 go_enter Tryz.func31,Tryz.ntmps31
 go_upto_region 1 with fail
 refine wp_world ?_
 intro W hW
 have hB:Below w.heap.size w W:=by rw [←hW];exact below1 _ _
 have hb:Blk W w.heap.size 27 #[.slice A1 n1 c1,.slice A2 n2 c2]:=by rw [←hW];exact Blk.new _ _ _
 have b0:=hb.cell 0
 have HBK:=Ω hb
 have HB:=Ω hB
 clear hW hB hb
 go_wp2
 go_loopw [3] (fun a wr=>∃k:Nat,k≤n1∧a=.int .i64 (k:Int)∧wr=W∧∀x∈p.arrays.take k,(nameB x.1 && decide (1≤x.2∧x.2≤1048576))=true) (fun a _=>n1-(intOf a).toNat)
 case atStart=>exact ⟨0,by omega,rfl,by trivial,fun x hx=>by simp at hx⟩
 case round=>
  obtain ⟨k,hk,rfl,hw,hall⟩:=hrel
  subst hw
  obtain ⟨W,hwo⟩:∃wo,wo=wr:=⟨_,rfl⟩
  subst hwo
  have HAL:=Ω hall
  clear hall
  by_cases hlt:k<n1
  ·have d1:decide ((k:Int)<(n1:Int))=true:=dT (by omega)
   have hk1:(k:Int)<(n1:Int):=by omega
   have hk0:¬(k:Int)<0:=by omega
   have hkl:k<p.arrays.length:=by rw [←HN1.out];exact hlt
   obtain ⟨b,off,hA,hbl,hcl⟩:=arr_at HA.out hkl
   obtain ⟨x,hx⟩:∃x,x=p.arrays[k]'hkl:=⟨_,rfl⟩
   rw [←hx] at hcl
   subst hA
   obtain ⟨i0,i1⟩:=hcl W (HB.out.block b hbl)
   obtain ⟨v,hv⟩:∃v,v=nameB x.1:=⟨_,rfl⟩
   obtain ⟨lo,hlo⟩:∃v,v=decide (x.2<1):=⟨_,rfl⟩
   obtain ⟨hi,hhi⟩:∃v,v=decide (x.2 > 1048576):=⟨_,rfl⟩
   have HC:Hid (Calls Tryz.prog 55 #[.string x.1] W fun r w'=>r=.returned (.bool v)∧W=w'):=Ω (by rw [hv];exact rname_any x.1 W)
   have HX:=Ω hx
   have HKL:=Ω hkl
   have HV:Hid ((nameB x.1 && decide (1≤x.2∧x.2≤1048576))=(v && (!lo && !hi))):=Ω (by
    rw [←hv,hlo,hhi]
    congr 1
    rw [Bool.eq_iff_iff]
    simp only [Bool.and_eq_true,Bool.not_eq_true',decide_eq_true_eq,decide_eq_false_iff_not]
    omega)
   have HNO:Hid ((v && (!lo && !hi))=false→rightB (d+1) p=false):=Ω (fun h=>by
    have hq:p.arrays.all (fun a=>nameB a.1 && decide (1≤a.2∧a.2≤1048576))=false:=by
     rw [List.all_eq_false]
     exact ⟨x,by rw [HX.out];exact List.getElem_mem _,by rw [HV.out,h];exact Bool.false_ne_true⟩
    unfold rightB
    rw [hq,Bool.false_and])
   have e1:=hlo.symm
   have e2:=hhi.symm
   have e3:decide ((1048576:Int)<x.2)=hi:=hhi.symm
   clear hcl hbl hv hx hlo hhi
   cases v with
   |false=>
    go_wp2_with (go_at_call 55;refine HC.out.mono ?_;rintro r w1 ⟨rfl,hw1⟩;subst hw1)
    go_ret
    exact ⟨by rw [HNO.out rfl];rfl,HB.out⟩
   |true=>
    cases lo with
    |true=>
     go_wp2_with (go_at_call 55;refine HC.out.mono ?_;rintro r w1 ⟨rfl,hw1⟩;subst hw1)
     go_ret
     exact ⟨by rw [HNO.out rfl];rfl,HB.out⟩
    |false=>
     cases hi with
     |true=>
      go_wp2_with (go_at_call 55;refine HC.out.mono ?_;rintro r w1 ⟨rfl,hw1⟩;subst hw1)
      go_ret
      exact ⟨by rw [HNO.out rfl];rfl,HB.out⟩
     |false=>
      go_wp2_with (go_at_call 55;refine HC.out.mono ?_;rintro r w1 ⟨rfl,hw1⟩;subst hw1)
      go_roundw
      case rel=>
       refine ⟨k+1,by omega,by go_num,by trivial,?_⟩
       intro y hy
       rw [List.take_succ_eq_append_getElem HKL.out,List.mem_append,List.mem_singleton,←HX.out] at hy
       rcases hy with hy|rfl
       ·exact HAL.out y hy
       ·rw [HV.out];rfl
      case measure=>simp [intOf];omega
  ·have hkn:k=n1:=by omega
   have d1:decide ((k:Int)<(n1:Int))=false:=dF (by omega)
   have HARR:Hid (p.arrays.all (fun a=>nameB a.1 && decide (1≤a.2∧a.2≤1048576))=true):=Ω (by
    rw [List.all_eq_true]
    intro y hy
    refine HAL.out y ?_
    rw [hkn,HN1.out,List.take_length]
    exact hy)
   have HRB:Hid (rightB (d+1) p=p.funcs.all (funcB (d+1))):=Ω (by unfold rightB;rw [HARR.out,Bool.true_and])
   have b1:=HBK.out.cell 1
   clear HAL hk hkn
   go_wp2
   go_loopw [5] (fun a wr=>∃k:Nat,k≤n2∧a=.int .i64 (k:Int)∧Below W.heap.size W wr∧∀x∈p.funcs.take k,funcB (d+1) x=true) (fun a _=>n2-(intOf a).toNat)
   case atStart=>exact ⟨0,by omega,rfl,Below.refl _ _,fun x hx=>by simp at hx⟩
   case round=>
    obtain ⟨k,hk,rfl,hbr,hall⟩:=hrel
    obtain ⟨wo,hwo⟩:∃wo,wo=wr:=⟨_,rfl⟩
    subst hwo
    have HAL:=Ω hall
    have HBR:=Ω hbr
    have b1:=(HBK.out.below hbr HBK.out.lt).cell 1
    clear hall hbr
    by_cases hlt:k<n2
    ·have d1:decide ((k:Int)<(n2:Int))=true:=dT (by omega)
     have hk1:(k:Int)<(n2:Int):=by omega
     have hk0:¬(k:Int)<0:=by omega
     have hkl:k<p.funcs.length:=by rw [←HN2.out];exact hlt
     have HBW:Hid (Below w.heap.size w wo):=Ω (HB.out.trans (HBR.out.mono HB.out.size))
     obtain ⟨b,off,Ap,Al,Ab,np,nl,nb,cp,cl,cb,hA,hbl,hnp,hnl,hnb,hrp,hrl,hrb,hcl⟩:=func_at HFN.out hkl
     obtain ⟨x,hx⟩:∃x,x=p.funcs[k]'hkl:=⟨_,rfl⟩
     rw [←hx] at hcl hnp hnl hnb hrp hrl hrb
     subst hA
     obtain ⟨i0,i1,i2,i3⟩:=hcl wo (HBW.out.block b hbl)
     have hlp:=hrp.len_le
     unfold maxLen at hlp
     rw [←hnp] at hlp
     obtain ⟨v0,hv0⟩:∃v,v=nameB x.name:=⟨_,rfl⟩
     obtain ⟨v1,hv1⟩:∃v,v=x.params.all nameB:=⟨_,rfl⟩
     obtain ⟨v2,hv2⟩:∃v,v=x.locals.all nameB:=⟨_,rfl⟩
     obtain ⟨lp,hlo⟩:∃v,v=decide ((np:Int) > 6):=⟨_,rfl⟩
     have hu:=farL_top 42 x.body
     obtain ⟨u,hu0⟩:∃u,u=farL 42 x.body:=⟨_,rfl⟩
     rw [←hu0] at hu
     obtain ⟨fa,hfa⟩:∃v,v=decide ((u:Int) > 40):=⟨_,rfl⟩
     obtain ⟨st,hst⟩:∃v,v=x.body.all (stmtB (d+1) (d+1)):=⟨_,rfl⟩
     have HS:Hid (funcB (d+1) x=(v0 && v1 && v2 && !lp && (!fa && st))):=Ω (by
      unfold funcB
      rw [stmtB_split (d+1) (d+1) x.body (SlR.fits _ hrb),←hv0,←hv1,←hv2,←hst,←hu0]
      have q1:decide (x.params.length≤6)=!lp:=by rw [hlo,←hnp,Bool.eq_iff_iff];simp;omega
      have q2:decide (u≤40)=!fa:=by rw [hfa,Bool.eq_iff_iff];simp;omega
      rw [q1,q2])
     have HX:=Ω hx
     have HKL:=Ω hkl
     have HNO:Hid (funcB (d+1) x=false→rightB (d+1) p=false):=Ω (fun h=>by
      rw [HRB.out,List.all_eq_false]
      exact ⟨x,by rw [HX.out];exact List.getElem_mem _,by rw [h];exact Bool.false_ne_true⟩)
     have H0:Hid (∀X,Calls Tryz.prog 55 #[.string x.name] X fun r w'=>r=.returned (.bool v0)∧X=w'):=Ω (fun X=>by rw [hv0];exact rname_any x.name X)
     have H1:Hid (∀X,Below w.heap.size w X→Calls Tryz.prog 56 #[.slice Ap np cp] X fun r w'=>r=.returned (.bool v1)∧X=w'):=Ω (fun X hX=>by rw [hv1];exact names_ref Ap np cp x.params hnp X (hrp.imp (fun b hb=>ltle hb hX.size) (Keeps.of_below hX) fun _ _ _ r=>r))
     have H2:Hid (∀X,Below w.heap.size w X→Calls Tryz.prog 56 #[.slice Al nl cl] X fun r w'=>r=.returned (.bool v2)∧X=w'):=Ω (fun X hX=>by rw [hv2];exact names_ref Al nl cl x.locals hnl X (hrl.imp (fun b hb=>ltle hb hX.size) (Keeps.of_below hX) fun _ _ _ r=>r))
     have H3:Hid (∀X,Below w.heap.size w X→Calls Tryz.prog 57 #[.slice Ab nb cb,.int .i64 42] X fun r w'=>r=.returned (.int .i64 (u:Int))∧Below X.heap.size X w'):=Ω (fun X hX=>by rw [hu0];exact far_ref 42 (by omega) (d+1) x.body Ab nb cb X (hrb.imp (fun b hb=>ltle hb hX.size) (Keeps.of_below hX) fun _ _ _ r=>r.imp (fun b hb=>ltle hb hX.size) (Keeps.of_below hX)) hnb)
     have H4:Hid (∀X,Below w.heap.size w X→Calls Tryz.prog 58 #[.slice Ab nb cb] X fun r w'=>r=.returned (.bool st)∧Below X.heap.size X w'):=Ω (fun X hX=>by rw [hst];exact stmts_ref d (d+1) (by omega) x.body Ab nb cb X (hrb.imp (fun b hb=>ltle hb hX.size) (Keeps.of_below hX) fun _ _ _ r=>r.imp (fun b hb=>ltle hb hX.size) (Keeps.of_below hX)) hnb)
     have e1:=hlo.symm
     have e2:=hfa.symm
     have e3:decide ((6:Int)<(np:Int))=lp:=hlo.symm
     have e4:decide ((40:Int)<(u:Int))=fa:=hfa.symm
     clear hcl hbl hrp hrl hrb hnp hnl hnb hv0 hv1 hv2 hlo hfa hst hx hu0
     go_upto_region 11 with fail
     refine wp_world ?_
     intro W2 hW2
     have hB2:Below wo.heap.size wo W2:=by rw [←hW2];exact below1 _ _
     have hb2:Blk W2 wo.heap.size 49 #[.string x.name,.slice Ap np cp,.slice Al nl cl,.slice Ab nb cb]:=by rw [←hW2];exact Blk.new _ _ _
     have HBK2:=Ω hb2
     have HB2:Hid (Below w.heap.size w W2):=Ω (HBW.out.trans (hB2.mono HBW.out.size))
     have HB2W:Hid (Below W.heap.size W W2):=Ω (HBR.out.trans (hB2.mono HBR.out.size))
     clear hW2 hB2 hb2 i0 i1 i2 i3
     have HCL:Hid (∀X,Below W2.heap.size W2 X→X.cell? ⟨wo.heap.size,0,none⟩=some (.string x.name)∧X.cell? ⟨wo.heap.size,1,none⟩=some (.slice Ap np cp)∧X.cell? ⟨wo.heap.size,2,none⟩=some (.slice Al nl cl)∧X.cell? ⟨wo.heap.size,3,none⟩=some (.slice Ab nb cb)):=Ω (fun X hX=>
      have q:=HBK2.out.below hX HBK2.out.lt
      ⟨q.cell 0,q.cell 1,q.cell 2,q.cell 3⟩)
     have HF:Hid (∀X,Below W2.heap.size W2 X→Below w.heap.size w X):=Ω (fun X hX=>HB2.out.trans (hX.mono HB2.out.size))
     obtain ⟨z0,z1,z2,z3⟩:=HCL.out W2 (Below.refl _ _)
     have tok1:True:=trivial
     cases v0 with
     |false=>go_wp2_with (first|(go_at_call 55;refine (H0.out _).mono ?_;rintro r w1 ⟨rfl,hw1⟩;subst hw1)|(go_at_call 56;have _t:=tok1;clear _t tok1;refine (H1.out _ HB2.out).mono ?_;rintro r w1 ⟨rfl,hw1⟩;subst hw1)|(go_at_call 56;refine (H2.out _ HB2.out).mono ?_;rintro r w1 ⟨rfl,hw1⟩;subst hw1)|(go_at_call 57;refine (H3.out _ HB2.out).mono ?_;rintro r w5 ⟨rfl,hb5⟩;obtain ⟨y0,y1,y2,y3⟩:=HCL.out w5 hb5;have HB5:=Ω hb5;clear hb5)|(go_at_call 58;refine (H4.out _ (HF.out _ HB5.out)).mono ?_;rintro r w6 ⟨rfl,hb6⟩;have HB6:=Ω (HB5.out.trans (hb6.mono HB5.out.size));clear hb6));go_ret;exact ⟨by rw [HNO.out (by rw [HS.out];rfl)];rfl,HF.out _ (Below.refl _ _)⟩
     |true=>
      cases v1 with
      |false=>go_wp2_with (first|(go_at_call 55;refine (H0.out _).mono ?_;rintro r w1 ⟨rfl,hw1⟩;subst hw1)|(go_at_call 56;have _t:=tok1;clear _t tok1;refine (H1.out _ HB2.out).mono ?_;rintro r w1 ⟨rfl,hw1⟩;subst hw1)|(go_at_call 56;refine (H2.out _ HB2.out).mono ?_;rintro r w1 ⟨rfl,hw1⟩;subst hw1)|(go_at_call 57;refine (H3.out _ HB2.out).mono ?_;rintro r w5 ⟨rfl,hb5⟩;obtain ⟨y0,y1,y2,y3⟩:=HCL.out w5 hb5;have HB5:=Ω hb5;clear hb5)|(go_at_call 58;refine (H4.out _ (HF.out _ HB5.out)).mono ?_;rintro r w6 ⟨rfl,hb6⟩;have HB6:=Ω (HB5.out.trans (hb6.mono HB5.out.size));clear hb6));go_ret;exact ⟨by rw [HNO.out (by rw [HS.out];rfl)];rfl,HF.out _ (Below.refl _ _)⟩
      |true=>
       cases v2 with
       |false=>go_wp2_with (first|(go_at_call 55;refine (H0.out _).mono ?_;rintro r w1 ⟨rfl,hw1⟩;subst hw1)|(go_at_call 56;have _t:=tok1;clear _t tok1;refine (H1.out _ HB2.out).mono ?_;rintro r w1 ⟨rfl,hw1⟩;subst hw1)|(go_at_call 56;refine (H2.out _ HB2.out).mono ?_;rintro r w1 ⟨rfl,hw1⟩;subst hw1)|(go_at_call 57;refine (H3.out _ HB2.out).mono ?_;rintro r w5 ⟨rfl,hb5⟩;obtain ⟨y0,y1,y2,y3⟩:=HCL.out w5 hb5;have HB5:=Ω hb5;clear hb5)|(go_at_call 58;refine (H4.out _ (HF.out _ HB5.out)).mono ?_;rintro r w6 ⟨rfl,hb6⟩;have HB6:=Ω (HB5.out.trans (hb6.mono HB5.out.size));clear hb6));go_ret;exact ⟨by rw [HNO.out (by rw [HS.out];rfl)];rfl,HF.out _ (Below.refl _ _)⟩
       |true=>
        cases lp with
        |true=>go_wp2_with (first|(go_at_call 55;refine (H0.out _).mono ?_;rintro r w1 ⟨rfl,hw1⟩;subst hw1)|(go_at_call 56;have _t:=tok1;clear _t tok1;refine (H1.out _ HB2.out).mono ?_;rintro r w1 ⟨rfl,hw1⟩;subst hw1)|(go_at_call 56;refine (H2.out _ HB2.out).mono ?_;rintro r w1 ⟨rfl,hw1⟩;subst hw1)|(go_at_call 57;refine (H3.out _ HB2.out).mono ?_;rintro r w5 ⟨rfl,hb5⟩;obtain ⟨y0,y1,y2,y3⟩:=HCL.out w5 hb5;have HB5:=Ω hb5;clear hb5)|(go_at_call 58;refine (H4.out _ (HF.out _ HB5.out)).mono ?_;rintro r w6 ⟨rfl,hb6⟩;have HB6:=Ω (HB5.out.trans (hb6.mono HB5.out.size));clear hb6));go_ret;exact ⟨by rw [HNO.out (by rw [HS.out];rfl)];rfl,HF.out _ (Below.refl _ _)⟩
        |false=>
         cases fa with
         |true=>go_wp2_with (first|(go_at_call 55;refine (H0.out _).mono ?_;rintro r w1 ⟨rfl,hw1⟩;subst hw1)|(go_at_call 56;have _t:=tok1;clear _t tok1;refine (H1.out _ HB2.out).mono ?_;rintro r w1 ⟨rfl,hw1⟩;subst hw1)|(go_at_call 56;refine (H2.out _ HB2.out).mono ?_;rintro r w1 ⟨rfl,hw1⟩;subst hw1)|(go_at_call 57;refine (H3.out _ HB2.out).mono ?_;rintro r w5 ⟨rfl,hb5⟩;obtain ⟨y0,y1,y2,y3⟩:=HCL.out w5 hb5;have HB5:=Ω hb5;clear hb5)|(go_at_call 58;refine (H4.out _ (HF.out _ HB5.out)).mono ?_;rintro r w6 ⟨rfl,hb6⟩;have HB6:=Ω (HB5.out.trans (hb6.mono HB5.out.size));clear hb6));go_ret;exact ⟨by rw [HNO.out (by rw [HS.out];rfl)];rfl,HF.out _ HB5.out⟩
         |false=>
          cases st with
          |false=>go_wp2_with (first|(go_at_call 55;refine (H0.out _).mono ?_;rintro r w1 ⟨rfl,hw1⟩;subst hw1)|(go_at_call 56;have _t:=tok1;clear _t tok1;refine (H1.out _ HB2.out).mono ?_;rintro r w1 ⟨rfl,hw1⟩;subst hw1)|(go_at_call 56;refine (H2.out _ HB2.out).mono ?_;rintro r w1 ⟨rfl,hw1⟩;subst hw1)|(go_at_call 57;refine (H3.out _ HB2.out).mono ?_;rintro r w5 ⟨rfl,hb5⟩;obtain ⟨y0,y1,y2,y3⟩:=HCL.out w5 hb5;have HB5:=Ω hb5;clear hb5)|(go_at_call 58;refine (H4.out _ (HF.out _ HB5.out)).mono ?_;rintro r w6 ⟨rfl,hb6⟩;have HB6:=Ω (HB5.out.trans (hb6.mono HB5.out.size));clear hb6));go_ret;exact ⟨by rw [HNO.out (by rw [HS.out];rfl)];rfl,HF.out _ HB6.out⟩
          |true=>
           go_wp2_with (first|(go_at_call 55;refine (H0.out _).mono ?_;rintro r w1 ⟨rfl,hw1⟩;subst hw1)|(go_at_call 56;have _t:=tok1;clear _t tok1;refine (H1.out _ HB2.out).mono ?_;rintro r w1 ⟨rfl,hw1⟩;subst hw1)|(go_at_call 56;refine (H2.out _ HB2.out).mono ?_;rintro r w1 ⟨rfl,hw1⟩;subst hw1)|(go_at_call 57;refine (H3.out _ HB2.out).mono ?_;rintro r w5 ⟨rfl,hb5⟩;obtain ⟨y0,y1,y2,y3⟩:=HCL.out w5 hb5;have HB5:=Ω hb5;clear hb5)|(go_at_call 58;refine (H4.out _ (HF.out _ HB5.out)).mono ?_;rintro r w6 ⟨rfl,hb6⟩;have HB6:=Ω (HB5.out.trans (hb6.mono HB5.out.size));clear hb6))
           go_roundw
           case rel=>
            refine ⟨k+1,by omega,by go_num,HB2W.out.trans (HB6.out.mono HB2W.out.size),?_⟩
            intro y hy
            rw [List.take_succ_eq_append_getElem HKL.out,List.mem_append,List.mem_singleton,←HX.out] at hy
            rcases hy with hy|rfl
            ·exact HAL.out y hy
            ·rw [HS.out];rfl
           case measure=>simp [intOf];omega
    ·have hkn:k=n2:=by omega
     have d1:decide ((k:Int)<(n2:Int))=false:=dF (by omega)
     go_wp2
     go_ret
     refine ⟨?_,HB.out.trans (HBR.out.mono HB.out.size)⟩
     have hf:p.funcs.all (funcB (d+1))=true:=by
      rw [List.all_eq_true]
      intro y hy
      refine HAL.out y ?_
      rw [hkn,HN2.out,List.take_length]
      exact hy
     rw [HRB.out,hf];rfl
end
end Go.Proofs.YtmignlclfbaifaaGreat
namespace Go.Proofs.YtmignlclfbaifaaGreat
open Go.RowKit
set_option maxRecDepth 100000 in
set_option maxHeartbeats 4000000 in
theorem has_doc (A:Option Addr) (n c:Nat) (l:List ByteArray) (hn:n=l.length) (s:ByteArray) (w:World) (hr:SlR w (· < w.heap.size) 1 RStr (.slice A n c) l) :
  Calls Tryz.prog 33 #[.slice A n c,.string s] w fun r w'=>r=.returned (.bool (hasS l s))∧w=w':=by
 have hl:=hr.len_le
 unfold maxLen at hl
 rw [←hn] at hl
 have HR:=Ω hr
 have HN:=Ω hn
 clear hr hn
 go_enter Tryz.func33,Tryz.ntmps33
 go_wp2
 go_loopw [5] (fun a wr=>∃k:Nat,k≤n∧a=.int .i64 (k:Int)∧wr=w∧∀x∈l.take k,x≠s) (fun a _=>n-(intOf a).toNat)
 case atStart=>exact ⟨0,by omega,rfl,by trivial,fun x hx=>by simp at hx⟩
 case round=>
  obtain ⟨k,hk,rfl,hw,hall⟩:=hrel
  subst hw
  have HA:=Ω hall
  clear hall
  by_cases hlt:k<n
  ·have d1:decide ((k:Int)<(n:Int))=true:=dT (by omega)
   have hk1:(k:Int)<(n:Int):=by omega
   have hk0:¬(k:Int)<0:=by omega
   have hkl:k<l.length:=by rw [←HN.out];exact hlt
   obtain ⟨b,off,hA,hbl,hcl⟩:=name_at HR.out hkl
   obtain ⟨x,hx⟩:∃x,x=l[k]'hkl:=⟨_,rfl⟩
   rw [←hx] at hcl
   subst hA
   have i0:=hcl wr rfl
   obtain ⟨v,hv⟩:∃v,v=(x.toList == s.toList):=⟨_,rfl⟩
   have hv2:=hv
   rw [tl_beq] at hv2
   have e1:=hv.symm
   have HV:=Ω hv2
   have HX:=Ω hx
   have HKL:=Ω hkl
   clear hcl hbl hv hv2 hx
   cases v with
   |true=>
    go_wp2
    go_ret
    have hf:hasS l s=true:=hasS_iff.2 (by
     have h1:x=s:=of_decide_eq_true HV.out.symm
     rw [←h1,HX.out]
     exact List.getElem_mem _)
    rw [hf]
    exact ⟨rfl,rfl⟩
   |false=>
    go_wp2
    go_roundw
    case rel=>
     refine ⟨k+1,by omega,by go_num,by trivial,?_⟩
     intro y hy
     rw [List.take_succ_eq_append_getElem HKL.out,List.mem_append,List.mem_singleton,←HX.out] at hy
     rcases hy with hy|rfl
     ·exact HA.out y hy
     ·exact of_decide_eq_false HV.out.symm
    case measure=>simp [intOf];omega
  ·have hkn:k=n:=by omega
   have d1:decide ((k:Int)<(n:Int))=false:=dF (by omega)
   go_wp2
   go_ret
   have hf:hasS l s=false:=by
    cases h:hasS l s with
    |false=>rfl
    |true=>exact absurd rfl (HA.out s (by rw [hkn,HN.out,List.take_length];exact hasS_iff.1 h))
   rw [hf]
   exact ⟨rfl,rfl⟩
set_option maxRecDepth 100000 in
set_option maxHeartbeats 4000000 in
theorem place_doc (d:Nat) (p:LProg) (A1 A2:Option Addr) (n1 n2 c1 c2:Nat) (hn:n2=p.funcs.length) (s:ByteArray) (w:World) (hf:SlR w (· < w.heap.size) 4 (RFunc d w (· < w.heap.size)) (.slice A2 n2 c2) p.funcs) :
  Calls Tryz.prog 16 #[.agg #[.slice A1 n1 c1,.slice A2 n2 c2],.string s] w fun r w'=>r=.returned (.int .i64 (placeL p s))∧Below w.heap.size w w':=by
 have hl:=hf.len_le
 unfold maxLen at hl
 rw [←hn] at hl
 have HR:=Ω hf
 have HN:=Ω hn
 clear hf hn
 go_enter Tryz.func16,Tryz.ntmps16
 go_upto_region 1 with fail
 refine wp_world ?_
 intro W hW
 have hB:Below w.heap.size w W:=by rw [←hW];exact below1 _ _
 have hb:Blk W w.heap.size 27 #[.slice A1 n1 c1,.slice A2 n2 c2]:=by rw [←hW];exact Blk.new _ _ _
 have b1:=hb.cell 1
 have HB:=Ω hB
 clear hW hB hb
 go_wp2
 go_loopw [5] (fun a wr=>∃k:Nat,k≤n2∧a=.int .i64 (k:Int)∧wr=W∧∀(j:Nat) (hj:j<p.funcs.length),j<k→decide (p.funcs[j].name=s)=false) (fun a _=>n2-(intOf a).toNat)
 case atStart=>exact ⟨0,by omega,rfl,by trivial,fun j hj h=>absurd h (Nat.not_lt_zero _)⟩
 case round=>
  obtain ⟨k,hk,rfl,hw,hall⟩:=hrel
  subst hw
  have HA:=Ω hall
  clear hall
  by_cases hlt:k<n2
  ·have d1:decide ((k:Int)<(n2:Int))=true:=dT (by omega)
   have hk1:(k:Int)<(n2:Int):=by omega
   have hk0:¬(k:Int)<0:=by omega
   have hkl:k<p.funcs.length:=by rw [←HN.out];exact hlt
   obtain ⟨b,off,Ap,Al,Ab,np,nl,nb,cp,cl,cb,hA,hbl,hnp,hnl,hnb,hrp,hrl,hrb,hcl⟩:=func_at HR.out hkl
   obtain ⟨x,hx⟩:∃x,x=p.funcs[k]'hkl:=⟨_,rfl⟩
   clear hnp hnl hnb hrp hrl hrb
   rw [←hx] at hcl
   subst hA
   have i0:=(hcl wr (HB.out.block b hbl)).1
   obtain ⟨v,hv⟩:∃v,v=(x.name.toList == s.toList):=⟨_,rfl⟩
   have hv2:=hv
   rw [tl_beq] at hv2
   have e1:=hv.symm
   have HV:=Ω hv2
   have HX:=Ω hx
   have HKL:=Ω hkl
   clear hcl hbl hv hv2 hx
   cases v with
   |true=>
    go_wp2
    go_ret
    have hf:placeL p s=(k:Int):=findP_at HKL.out (by rw [←HX.out];exact HV.out.symm) HA.out
    rw [hf]
    exact ⟨rfl,HB.out⟩
   |false=>
    go_wp2
    go_roundw
    case rel=>
     refine ⟨k+1,by omega,by go_num,by trivial,?_⟩
     intro j hj hjk
     rcases Nat.lt_succ_iff_lt_or_eq.1 hjk with h|rfl
     ·exact HA.out j hj h
     ·rw [←HX.out];exact HV.out.symm
    case measure=>simp [intOf];omega
  ·have hkn:k=n2:=by omega
   have d1:decide ((k:Int)<(n2:Int))=false:=dF (by omega)
   go_wp2
   go_ret
   have hf:placeL p s=-1:=findP_none (fun x hx=>by
    obtain ⟨j,hj,rfl⟩:=List.getElem_of_mem hx
    exact HA.out j hj (by rw [hkn,HN.out];exact hj))
   rw [hf]
   exact ⟨rfl,HB.out⟩
set_option maxRecDepth 100000 in
set_option maxHeartbeats 4000000 in
theorem array_doc (p:LProg) (A1 A2:Option Addr) (n1 n2 c1 c2:Nat) (hn:n1=p.arrays.length) (s:ByteArray) (w:World) (hf:SlR w (· < w.heap.size) 2 RArr (.slice A1 n1 c1) p.arrays) :
  Calls Tryz.prog 18 #[.agg #[.slice A1 n1 c1,.slice A2 n2 c2],.string s] w fun r w'=>r=.returned (.int .i64 (arrayL p s))∧Below w.heap.size w w':=by
 have hl:=hf.len_le
 unfold maxLen at hl
 rw [←hn] at hl
 have HR:=Ω hf
 have HN:=Ω hn
 clear hf hn
 go_enter Tryz.func18,Tryz.ntmps18
 go_upto_region 1 with fail
 refine wp_world ?_
 intro W hW
 have hB:Below w.heap.size w W:=by rw [←hW];exact below1 _ _
 have hb:Blk W w.heap.size 27 #[.slice A1 n1 c1,.slice A2 n2 c2]:=by rw [←hW];exact Blk.new _ _ _
 have b0:=hb.cell 0
 have HB:=Ω hB
 clear hW hB hb
 go_wp2
 go_loopw [5] (fun a wr=>∃k:Nat,k≤n1∧a=.int .i64 (k:Int)∧wr=W∧∀(j:Nat) (hj:j<p.arrays.length),j<k→decide (p.arrays[j].1=s)=false) (fun a _=>n1-(intOf a).toNat)
 case atStart=>exact ⟨0,by omega,rfl,by trivial,fun j hj h=>absurd h (Nat.not_lt_zero _)⟩
 case round=>
  obtain ⟨k,hk,rfl,hw,hall⟩:=hrel
  subst hw
  have HA:=Ω hall
  clear hall
  by_cases hlt:k<n1
  ·have d1:decide ((k:Int)<(n1:Int))=true:=dT (by omega)
   have hk1:(k:Int)<(n1:Int):=by omega
   have hk0:¬(k:Int)<0:=by omega
   have hkl:k<p.arrays.length:=by rw [←HN.out];exact hlt
   obtain ⟨b,off,hA,hbl,hcl⟩:=arr_at HR.out hkl
   obtain ⟨x,hx⟩:∃x,x=p.arrays[k]'hkl:=⟨_,rfl⟩
   rw [←hx] at hcl
   subst hA
   have i0:=(hcl wr (HB.out.block b hbl)).1
   obtain ⟨v,hv⟩:∃v,v=(x.1.toList == s.toList):=⟨_,rfl⟩
   have hv2:=hv
   rw [tl_beq] at hv2
   have e1:=hv.symm
   have HV:=Ω hv2
   have HX:=Ω hx
   have HKL:=Ω hkl
   clear hcl hbl hv hv2 hx
   cases v with
   |true=>
    go_wp2
    go_ret
    have hf:arrayL p s=(k:Int):=findP_at HKL.out (by rw [←HX.out];exact HV.out.symm) HA.out
    rw [hf]
    exact ⟨rfl,HB.out⟩
   |false=>
    go_wp2
    go_roundw
    case rel=>
     refine ⟨k+1,by omega,by go_num,by trivial,?_⟩
     intro j hj hjk
     rcases Nat.lt_succ_iff_lt_or_eq.1 hjk with h|rfl
     ·exact HA.out j hj h
     ·rw [←HX.out];exact HV.out.symm
    case measure=>simp [intOf];omega
  ·have hkn:k=n1:=by omega
   have d1:decide ((k:Int)<(n1:Int))=false:=dF (by omega)
   go_wp2
   go_ret
   have hf:arrayL p s=-1:=findP_none (fun x hx=>by
    obtain ⟨j,hj,rfl⟩:=List.getElem_of_mem hx
    exact HA.out j hj (by rw [hkn,HN.out];exact hj))
   rw [hf]
   exact ⟨rfl,HB.out⟩
end Go.Proofs.YtmignlclfbaifaaGreat
namespace Go.Proofs.YtmignlclfbaifaaGreat
open Go.RowKit
theorem SlR.cutR {α:Type} {w:World} {ok:Nat→Prop} {sz n c k:Nat} {A:Option Addr} {R:List Value→α→Prop} {l:List α} (h:SlR w ok sz R (.slice A n c) l) (hk:k≤n):SlR w ok sz R (.slice A k c) (l.take k):=by
 obtain ⟨A',c',hv,h1,h2,h3⟩:=h
 injection hv with e1 e2 e3
 subst e1 e2 e3
 have hl:(l.take k).length=k:=by rw [List.length_take];omega
 refine ⟨A,c,by rw [hl],by omega,h2,?_⟩
 rcases h3 with rfl|⟨b,off,hA,hb,hi⟩
 ·exact .inl (by simp)
 ·refine .inr ⟨b,off,hA,hb,fun i hi2=>?_⟩
  obtain ⟨cs,q1,q2,q3⟩:=hi i (by rw [hl] at hi2;omega)
  exact ⟨cs,q1,by rw [List.getElem_take];exact q2,q3⟩
set_option maxRecDepth 100000 in
set_option maxHeartbeats 4000000 in
theorem twice_doc (A:Option Addr) (n c:Nat) (l:List ByteArray) (hn:n=l.length) (w:World) (hr:SlR w (· < w.heap.size) 1 RStr (.slice A n c) l) :
  Calls Tryz.prog 32 #[.slice A n c] w fun r w'=>r=.returned (.bool (twiceB l))∧Below w.heap.size w w':=by
 have hl:=hr.len_le
 unfold maxLen at hl
 rw [←hn] at hl
 have hnc:n≤c:=by obtain ⟨_,_,h,h1,h2⟩:=hr.val;injection h with _ _ e;subst e;omega
 have HR:=Ω hr
 have HN:=Ω hn
 clear hr hn
 go_enter Tryz.func32,Tryz.ntmps32
 go_wp2
 go_loopw [3] (fun a wr=>∃k:Nat,k≤n∧a=.int .i64 (k:Int)∧Below w.heap.size w wr∧(l.take k).Nodup) (fun a _=>n-(intOf a).toNat)
 case atStart=>exact ⟨0,by omega,rfl,Below.refl _ _,by simp⟩
 case round=>
  obtain ⟨k,hk,rfl,hbr,hall⟩:=hrel
  have HA:=Ω hall
  have HBR:=Ω hbr
  clear hall hbr
  by_cases hlt:k<n
  ·have d1:decide ((k:Int)<(n:Int))=true:=dT (by omega)
   have hk1:(k:Int)<(n:Int):=by omega
   have hk0:¬(k:Int)<0:=by omega
   have hkc:¬c<k:=by omega
   have hkl:k<l.length:=by rw [←HN.out];exact hlt
   obtain ⟨b,off,hA,hbl,hcl⟩:=name_at HR.out hkl
   obtain ⟨x,hx⟩:∃x,x=l[k]'hkl:=⟨_,rfl⟩
   rw [←hx] at hcl
   subst hA
   obtain ⟨v,hv⟩:∃v,v=hasS (l.take k) x:=⟨_,rfl⟩
   have HC:Hid (∀X,Below w.heap.size w X→Calls Tryz.prog 33 #[.slice (some ⟨b,off,none⟩) k c,.string x] X fun r w'=>r=.returned (.bool v)∧X=w'):=Ω (fun X hX=>by
    rw [hv]
    exact has_doc _ _ _ (l.take k) (by rw [List.length_take];omega) x X ((HR.out.cutR (Nat.le_of_lt hlt)).imp (fun b hb=>ltle hb hX.size) (Keeps.of_below hX) fun _ _ _ r=>r))
   have HCL:Hid (∀X,Below w.heap.size w X→X.cell? ⟨b,off+k,none⟩=some (.string x)):=Ω (fun X hX=>hcl X (hX.block b hbl))
   have HV:=Ω hv
   have HX:=Ω hx
   have HKL:=Ω hkl
   have i0:=HCL.out wr HBR.out
   clear hcl hbl hv hx
   cases v with
   |true=>
    go_upto_region 4 with fail
    have SO:Hid (∀X,Below w.heap.size w X→(fun X=>X.cell? ⟨b,off+k,none⟩=some (.string x)) X):=HCL
    refine wp_region_G 7 (fun X=>X.cell? ⟨b,off+k,none⟩=some (.string x)) (SO.out _ HBR.out.drew) ?_
    change GL _ _ _ _ _ 7 8 (Array.replicate 8 false) _ _
    obtain ⟨X0,hX0⟩:∃X0,wr.drew=X0:=⟨_,rfl⟩
    have HT0:Hid (Below w.heap.size w wr.drew):=Ω HBR.out.drew
    rw [hX0] at HT0 ⊢
    clear hX0
    refine gj 0 (.slice (some ⟨b,off,none⟩) n c) ?_
    refine gj 1 (.int .i64 (k:Int)) ?_
    refine gk 2 (.slice (some ⟨b,off,none⟩) k c) ?_ ?_
    ·intro w2;go_simp
    refine gj 3 (.slice (some ⟨b,off,none⟩) n c) ?_
    refine gj 4 (.int .i64 (k:Int)) ?_
    refine gk 5 (.pointer (some ⟨b,off+k,none⟩)) ?_ ?_
    ·intro w2;go_simp
    refine gS 6 (.string x) [7] ?_ ?_
    ·intro w2 hSw;obtain g0:=hSw;go_simp
    refine gL (fun K hK=>?_)
    go_simp
    refine (HC.out X0 HT0.out).mono ?_
    rintro e X1 ⟨rfl,hw1⟩
    subst hw1
    refine hK.out _ _ ?_
    clear hK K
    try simp only [sG]
    go_wp2
    go_ret
    have hf:twiceB l=true:=by
     have hm:x∈l.take k:=hasS_iff.1 HV.out.symm
     unfold twiceB
     rw [dF,Bool.not_false]
     intro hnd
     have h2:(l.take (k+1)).Nodup:=hnd.sublist (List.take_sublist _ _)
     rw [List.take_succ_eq_append_getElem HKL.out,←HX.out,List.nodup_append] at h2
     exact h2.2.2 _ hm _ (by simp) rfl
    rw [hf]
    exact ⟨rfl,HT0.out⟩
   |false=>
    go_upto_region 4 with fail
    have SO:Hid (∀X,Below w.heap.size w X→(fun X=>X.cell? ⟨b,off+k,none⟩=some (.string x)) X):=HCL
    refine wp_region_G 7 (fun X=>X.cell? ⟨b,off+k,none⟩=some (.string x)) (SO.out _ HBR.out.drew) ?_
    change GL _ _ _ _ _ 7 8 (Array.replicate 8 false) _ _
    obtain ⟨X0,hX0⟩:∃X0,wr.drew=X0:=⟨_,rfl⟩
    have HT0:Hid (Below w.heap.size w wr.drew):=Ω HBR.out.drew
    rw [hX0] at HT0 ⊢
    clear hX0
    refine gj 0 (.slice (some ⟨b,off,none⟩) n c) ?_
    refine gj 1 (.int .i64 (k:Int)) ?_
    refine gk 2 (.slice (some ⟨b,off,none⟩) k c) ?_ ?_
    ·intro w2;go_simp
    refine gj 3 (.slice (some ⟨b,off,none⟩) n c) ?_
    refine gj 4 (.int .i64 (k:Int)) ?_
    refine gk 5 (.pointer (some ⟨b,off+k,none⟩)) ?_ ?_
    ·intro w2;go_simp
    refine gS 6 (.string x) [7] ?_ ?_
    ·intro w2 hSw;obtain g0:=hSw;go_simp
    refine gL (fun K hK=>?_)
    go_simp
    refine (HC.out X0 HT0.out).mono ?_
    rintro e X1 ⟨rfl,hw1⟩
    subst hw1
    refine hK.out _ _ ?_
    clear hK K
    try simp only [sG]
    go_wp2
    go_roundw
    case rel=>
     refine ⟨k+1,by omega,by go_num,HT0.out,?_⟩
     rw [List.take_succ_eq_append_getElem HKL.out,←HX.out,List.nodup_append]
     refine ⟨HA.out,by simp,?_⟩
     intro y hy z hz e
     rw [List.mem_singleton] at hz
     subst hz
     subst e
     have h1:=hasS_iff.2 hy
     rw [←HV.out] at h1
     cases h1
    case measure=>simp [intOf];omega
  ·have hkn:k=n:=by omega
   have d1:decide ((k:Int)<(n:Int))=false:=dF (by omega)
   go_wp2
   go_ret
   have hf:twiceB l=false:=by
    have h:=HA.out
    rw [hkn,HN.out,List.take_length] at h
    unfold twiceB
    rw [dT h,Bool.not_true]
   rw [hf]
   exact ⟨rfl,HBR.out⟩
end Go.Proofs.YtmignlclfbaifaaGreat
