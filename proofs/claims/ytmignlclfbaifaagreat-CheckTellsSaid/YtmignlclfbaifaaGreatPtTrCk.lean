/- What the checker's small parts tell: slices.Index and Contains at texts, flag, known, array. What (*checker).own, exprs and stmt tell: what is wrong first. Printed by wip/gen_trown.py. What (*checker).exprs and stmt tell of expressions and statements of bounded depth: what is wrong first. -/
import Derived.Test.YtmignlclfbaifaaGreatPtTrSmall
import Derived.Test.YtmignlclfbaifaaGreatPtTrSeqs
import Derived.Test.YtmignlclfbaifaaGreatPtRegion
import Derived.Test.YtmignlclfbaifaaGreatPtTrBase
namespace Go.Proofs.YtmignlclfbaifaaGreat
open Go.RowKit
section
set_option maxHeartbeats 1000000
theorem index_text (l:List ByteArray) (s:ByteArray) (v:Value) (w:World) (hv:SlR w (· < w.heap.size) 1 RStr v l) :
  Calls Tryz.prog 71 #[v,.string s] w fun e w'=>e=.returned (.int .i64 (findP (fun x=>decide (x=s)) l))∧Below w.heap.size w w':=by
 obtain ⟨A,c,hvv,hlc,hcm⟩:=hv.val
 have HV:=Ω hv
 clear hv
 subst hvv
 have hlen:=Nat.le_trans hlc hcm
 unfold maxLen at hlen
 go_enter Tryz.func71,Tryz.ntmps71
 go_wp2
 go_loopw [5,8] (fun _ i wr=>∃k:Nat,k≤l.length∧i=.int .i64 k∧(∀j (h:j<l.length),j<k→decide (l[j]=s)=false)∧Below w.heap.size w wr) (fun _ i _=>l.length-(intOf i).toNat)
 case atStart=>exact ⟨0,by omega,rfl,fun j _ h=>by omega,Below.refl _ _⟩
 case round=>
  obtain ⟨k,hk,rfl,hno,hb⟩:=hrel
  have HNO:=Ω hno
  clear hno
  by_cases hlt:k<l.length
  ·have d1:decide ((k:Int)<(l.length:Int))=true:=dT (by omega)
   obtain ⟨b,off,c',hform,_,_,hbl,hel⟩:=HV.out.form (by omega)
   obtain ⟨cs,hcl,hcs,hcell⟩:=hel k hlt
   obtain ⟨rfl,rfl⟩:A=some ⟨b,off,none⟩∧c=c':=by injection hform with h1 _ h2;exact ⟨h1,h2⟩
   obtain ⟨x,hx⟩:∃x,x=l[k]:=⟨_,rfl⟩
   rw [←hx] at hcs
   obtain rfl:cs=[.string x]:=hcs
   have hcw:=hcell.keep (hb.block b hbl)
   have i0:wr.cell? ⟨b,off+k,none⟩=some (.string x):=by have h:=hcw.at_ (j:=0) rfl;simpa using h
   have HX:=Ω hx
   have HB:=Ω hb
   clear hcell hcw hel hform hx hb
   by_cases hq:x=s
   ·have e1:(s.toList == x.toList)=true:=by rw [tl_beq];exact dT hq.symm
    have HQ:=Ω hq
    clear hq
    go_wp2
    go_ret
    refine ⟨?_,HB.out⟩
    rw [findP_at (q:=fun x=>decide (x=s)) hlt (by rw [←HX.out];exact dT HQ.out) HNO.out]
    rfl
   ·have e1:(s.toList == x.toList)=false:=by rw [tl_beq];exact dF fun h=>hq h.symm
    have HQ:=Ω hq
    clear hq
    go_wp2
    go_roundw
    case rel=>
     refine ⟨k+1,by omega,by go_num,?_,HB.out⟩
     intro j hj hjk
     by_cases e:j<k
     ·exact HNO.out j hj e
     ·obtain rfl:j=k:=by omega
      rw [←HX.out];exact dF HQ.out
    case measure=>simp [intOf];omega
  ·obtain rfl:k=l.length:=by omega
   have HB:=Ω hb
   clear hb
   go_wp2
   go_ret
   refine ⟨?_,HB.out⟩
   rw [findP_none fun x hx=>by obtain ⟨i,hi,rfl⟩:=List.getElem_of_mem hx;exact HNO.out i hi hi]
   rfl
theorem contains_text (l:List ByteArray) (s:ByteArray) (v:Value) (w:World) (hv:SlR w (· < w.heap.size) 1 RStr v l) :
  Calls Tryz.prog 52 #[v,.string s] w fun e w'=>e=.returned (.bool (hasS l s))∧Below w.heap.size w w':=by
 have HI:=Ω (index_text l s v w hv)
 have hn:=findP_nonneg (fun x=>decide (x=s)) l
 have HN:=Ω hn
 obtain ⟨A,c,rfl,_,_⟩:=hv.val
 clear hv hn
 go_enter Tryz.func52,Tryz.ntmps52
 go_wp2_with (go_at_call 71;refine HI.out.mono ?_;rintro e w' ⟨rfl,hb⟩)
 go_ret
 exact ⟨by unfold hasS;rw [←HN.out];rfl,hb⟩
end
theorem flag_any (b:Bool) (e:Int) (w:World):Calls Tryz.prog 74 #[.bool b,.int .i64 e] w fun r w'=>r=.returned (.int .i64 (if b then 0 else e))∧w=w':=by
 cases b
 all_goals
  go_enter Tryz.func74,Tryz.ntmps74
  go_wp2
  go_ret
  exact ⟨rfl,rfl⟩
structure CkAt (d:Nat) (w:World) (cb:Nat) (p:LProg) (vars:List ByteArray) (A1 A2 A3:Option Addr) (c1 c2 c3:Nat):Prop where
 blk:Blk w cb 90 #[.slice A1 p.arrays.length c1,.slice A2 p.funcs.length c2,.slice A3 vars.length c3]
 arrs:SlR w (· < w.heap.size) 2 RArr (.slice A1 p.arrays.length c1) p.arrays
 funs:SlR w (· < w.heap.size) 4 (RFunc d w (· < w.heap.size)) (.slice A2 p.funcs.length c2) p.funcs
 vrs:SlR w (· < w.heap.size) 1 RStr (.slice A3 vars.length c3) vars
theorem CkAt.below {d:Nat} {w w':World} {cb:Nat} {p:LProg} {vars:List ByteArray} {A1 A2 A3:Option Addr} {c1 c2 c3:Nat} (h:CkAt d w cb p vars A1 A2 A3 c1 c2 c3) (hb:Below w.heap.size w w'):CkAt d w' cb p vars A1 A2 A3 c1 c2 c3:=
 have up:∀b,b<w.heap.size→b<w'.heap.size:=fun _ h=>ltle h hb.size
 have kp:Keeps (· < w.heap.size) w w':=fun b h=>hb.block b h
 ⟨h.blk.below hb h.blk.lt,h.arrs.imp up kp fun _ _ _ r=>r,h.funs.imp up kp fun _ _ _ r=>r.imp up kp,h.vrs.imp up kp fun _ _ _ r=>r⟩
section
variable {d:Nat} {w:World} {cb:Nat} {p:LProg} {vars:List ByteArray} {A1 A2 A3:Option Addr} {c1 c2 c3:Nat}
theorem known_any (h:CkAt d w cb p vars A1 A2 A3 c1 c2 c3) (s:ByteArray):Calls Tryz.prog 75 #[.pointer (some ⟨cb,0,none⟩),.string s] w fun e w'=>e=.returned (.bool (hasS vars s))∧Below w.heap.size w w':=by
 have HC:=Ω (contains_text vars s _ w h.vrs)
 have b2:w.cell? ⟨cb,2,none⟩=some (.slice A3 vars.length c3):=h.blk.cell 2
 clear h
 go_enter Tryz.func75,Tryz.ntmps75
 go_wp2_with (go_at_call 52;refine HC.out.mono ?_;rintro e w' ⟨rfl,hb⟩)
 go_ret
 exact ⟨rfl,hb⟩
theorem array_any (h:CkAt d w cb p vars A1 A2 A3 c1 c2 c3) (s:ByteArray):Calls Tryz.prog 76 #[.pointer (some ⟨cb,0,none⟩),.string s] w fun e w'=>e=.returned (.bool (p.arrays.any fun a=>decide (a.1=s)))∧Below w.heap.size w w':=by
 have HC:=Ω (arrayL_any p A1 A2 p.funcs.length c1 c2 s w h.arrs)
 have b0:w.cell? ⟨cb,0,none⟩=some (.slice A1 p.arrays.length c1):=h.blk.cell 0
 have b1:w.cell? ⟨cb,1,none⟩=some (.slice A2 p.funcs.length c2):=h.blk.cell 1
 have hn:decide (0≤arrayL p s)=p.arrays.any fun a=>decide (a.1=s):=findP_nonneg _ _
 have HN:=Ω hn
 clear h hn
 go_enter Tryz.func76,Tryz.ntmps76
 go_wp2_with (go_at_call 17;refine HC.out.mono ?_;rintro e w' ⟨rfl,hb⟩)
 go_ret
 exact ⟨by rw [←HN.out];rfl,hb⟩
end
end Go.Proofs.YtmignlclfbaifaaGreat
namespace Go.Proofs.YtmignlclfbaifaaGreat
open Go.RowKit
theorem find_place {α:Type} (q:α→Bool) (l:List α):(findP q l=-1∧l.find? q=none)∨∃(i:Nat) (hi:i<l.length),findP q l=(i:Int)∧l.find? q=some l[i]:=by
 rcases findP_lt (q:=q) (l:=l) with h|⟨i,hi,h1,h2⟩
 ·exact .inl ⟨findP_none h,List.find?_eq_none.2 fun x hx=>by rw [h x hx];decide⟩
 ·refine .inr ⟨i,hi,findP_at hi h1 h2,?_⟩
  rw [List.find?_eq_some_iff_getElem]
  exact ⟨h1,i,hi,rfl,fun j hj=>by rw [h2 j (by omega) hj];rfl⟩
section
variable {d:Nat} {w:World} {cb:Nat} {p:LProg} {vars:List ByteArray} {A1 A2 A3:Option Addr} {c1 c2 c3:Nat}
set_option maxHeartbeats 4000000
theorem own_var (h:CkAt d w cb p vars A1 A2 A3 c1 c2 c3) (op n:Int) (nm:ByteArray) (A:Option Addr) (na c:Nat) :
  Calls Tryz.prog 94 #[.pointer (some ⟨cb,0,none⟩),.agg #[.int .i64 2,.int .i64 op,.int .i64 n,.string nm,.slice A na c]] w fun r w'=>r=.returned (.int .i64 (if hasS vars nm then 0 else 51))∧Below w.heap.size w w':=by
 have HK:=Ω (fun (X:World) (hx:Below w.heap.size w X)=>known_any (h.below hx) nm)
 clear h
 obtain ⟨q,hq⟩:∃q,q=hasS vars nm:=⟨_,rfl⟩
 rw [←hq] at HK ⊢
 clear hq
 cases q
 all_goals
  go_enter Tryz.func94,Tryz.ntmps94
  go_wp2_with (first
   |(go_at_call 75;refine (HK.out _ (below1 _ _)).mono ?_;rintro e w1 ⟨rfl,hb⟩;have HB:=Ω ((below1 w _).trans (hb.mono (by simp)));clear hb)
   |(go_at_call 74;refine (flag_any _ _ _).mono ?_;rintro e w2 ⟨rfl,rfl⟩))
  go_ret
  exact ⟨rfl,HB.out⟩
theorem own_index (h:CkAt d w cb p vars A1 A2 A3 c1 c2 c3) (op n:Int) (nm:ByteArray) (A:Option Addr) (na c:Nat) :
  Calls Tryz.prog 94 #[.pointer (some ⟨cb,0,none⟩),.agg #[.int .i64 6,.int .i64 op,.int .i64 n,.string nm,.slice A na c]] w fun r w'=>r=.returned (.int .i64 (if p.arrays.any (fun a=>decide (a.1=nm)) then 0 else 51))∧Below w.heap.size w w':=by
 have HK:=Ω (fun (X:World) (hx:Below w.heap.size w X)=>array_any (h.below hx) nm)
 clear h
 obtain ⟨q,hq⟩:∃q,q=p.arrays.any (fun a=>decide (a.1=nm)):=⟨_,rfl⟩
 rw [←hq] at HK ⊢
 clear hq
 cases q
 all_goals
  go_enter Tryz.func94,Tryz.ntmps94
  go_wp2_with (first
   |(go_at_call 76;refine (HK.out _ (below1 _ _)).mono ?_;rintro e w1 ⟨rfl,hb⟩;have HB:=Ω ((below1 w _).trans (hb.mono (by simp)));clear hb)
   |(go_at_call 74;refine (flag_any _ _ _).mono ?_;rintro e w2 ⟨rfl,rfl⟩))
  go_ret
  exact ⟨rfl,HB.out⟩
theorem own_other (k op n:Int) (nm:ByteArray) (A:Option Addr) (na c:Nat) (h2:(k == 2)=false) (h6:(k == 6)=false) (h5:(k == 5)=false) :
  Calls Tryz.prog 94 #[.pointer (some ⟨cb,0,none⟩),.agg #[.int .i64 k,.int .i64 op,.int .i64 n,.string nm,.slice A na c]] w fun r w'=>r=.returned (.int .i64 0)∧Below w.heap.size w w':=by
 go_enter Tryz.func94,Tryz.ntmps94
 go_wp2
 go_ret
 exact ⟨rfl,below1 _ _⟩
theorem own_call (h:CkAt d w cb p vars A1 A2 A3 c1 c2 c3) (op n:Int) (nm:ByteArray) (A:Option Addr) (na c:Nat) (e0:Int) (he:e0=match p.funcs.find? (fun f=>decide (f.name=nm)) with
  |none=>51
  |some f=>if f.params.length=na then 0 else 52) :
  Calls Tryz.prog 94 #[.pointer (some ⟨cb,0,none⟩),.agg #[.int .i64 5,.int .i64 op,.int .i64 n,.string nm,.slice A na c]] w fun r w'=>r=.returned (.int .i64 e0)∧Below w.heap.size w w':=by
 have HPL:=fun (X:World) (hx:Below w.heap.size w X)=>place_any d p A1 A2 p.arrays.length c1 c2 nm X (h.below hx).funs
 have hfuns:=h.funs
 have hblk:=h.blk
 clear h
 go_enter Tryz.func94,Tryz.ntmps94
 go_upto_region 7 with fail
 refine wp_world ?_
 intro W hW
 have hG:Blk W w.heap.size 42 #[.int .i64 5,.int .i64 op,.int .i64 n,.string nm,.slice A na c]:=by rw [←hW];exact Blk.new _ _ _
 have hB:Below w.heap.size w W:=by rw [←hW];exact below1 _ _
 have hC:Blk W cb 90 #[.slice A1 p.arrays.length c1,.slice A2 p.funcs.length c2,.slice A3 vars.length c3]:=hblk.below hB hblk.lt
 have HPL:=Ω (fun (X:World) (hx:Below W.heap.size W X)=>HPL X (hB.trans (hx.mono hB.size)))
 have HX0:Hid (Below W.heap.size W W.drew):=Ω (Below.refl _ _).drew
 have SO:Hid (∀X,Below W.heap.size W X→(fun X=>X.cell? ⟨cb,0,none⟩=some (.slice A1 p.arrays.length c1)∧X.cell? ⟨cb,1,none⟩=some (.slice A2 p.funcs.length c2)∧X.cell? ⟨w.heap.size,3,none⟩=some (.string nm)) X):=Ω (fun X hx=>⟨(hC.below hx hC.lt).cell 0,(hC.below hx hC.lt).cell 1,(hG.below hx hG.lt).cell 3⟩)
 have HB:=Ω hB
 have HG:=Ω hG
 have HC:=Ω hC
 have HFN:=Ω hfuns
 clear hW hG hB hC hblk hfuns
 have HE:=Ω he
 clear he
 rcases find_place (fun f:LFunc=>decide (f.name=nm)) p.funcs with ⟨h1,h2⟩|⟨k,hk,h1,h2⟩
 ·have hpl:placeL p nm=-1:=h1
  have HE0:Hid (e0=51):=Ω (by rw [HE.out,h2])
  rw [hpl] at HPL
  clear h1 h2 HE
  refine wp_region_L (by kernel_rfl) 7 (fun X=>X.cell? ⟨cb,0,none⟩=some (.slice A1 p.arrays.length c1)∧X.cell? ⟨cb,1,none⟩=some (.slice A2 p.funcs.length c2)∧X.cell? ⟨w.heap.size,3,none⟩=some (.string nm)) (SO.out _ HX0.out) (fun hHeld=>?_)
  have HS0:=Ω hHeld
  clear hHeld
  change wpAnyL _ _ _ _ _ 7 8 (Array.replicate 8 false) _ _
  obtain ⟨X0,hX0⟩:∃X0,W.drew=X0:=⟨_,rfl⟩
  rw [hX0] at HX0 HS0 ⊢
  clear hX0
  refine takeL 0 24 (.pointer (some ⟨cb,0,none⟩)) HS0.out rfl rfl (by kernel_rfl) (by kernel_rfl) (by kernel_rfl) (by decide) (fun _ _ _ h=>h) (by kernel_rfl) ?_ ?_
  ·intro w2;go_simp
  try simp only [sA,sB,sC]
  refine takeL 1 25 (.pointer (some ⟨cb,0,none⟩)) HS0.out rfl rfl (by kernel_rfl) (by kernel_rfl) (by kernel_rfl) (by decide) (fun _ _ _ h=>h) (by kernel_rfl) ?_ ?_
  ·intro w2;go_simp
  try simp only [sA,sB,sC]
  refine takeL 2 26 (.pointer (some ⟨cb,0,none⟩)) HS0.out rfl rfl (by kernel_rfl) (by kernel_rfl) (by kernel_rfl) (by decide) (fun _ _ _ h=>h) (by kernel_rfl) ?_ ?_
  ·intro w2;go_simp
  try simp only [sA,sB,sC]
  refine takeL_S 3 27 (.agg #[.slice A1 p.arrays.length c1,.slice A2 p.funcs.length c2]) [7] HS0.out rfl rfl (by kernel_rfl) (by kernel_rfl) (by kernel_rfl) (by decide) (by kernel_rfl) (fun _ _ _ h=>h) (by kernel_rfl) ?_ ?_
  ·intro w2 hSw;obtain ⟨g0,g1,g2⟩:=hSw;go_simp
  try simp only [sA,sB,sC]
  refine takeL 4 28 (.pointer (some ⟨w.heap.size,3,none⟩)) HS0.out rfl rfl (by kernel_rfl) (by kernel_rfl) (by kernel_rfl) (by decide) (fun _ _ _ h=>h) (by kernel_rfl) ?_ ?_
  ·intro w2;go_simp
  try simp only [sA,sB,sC]
  refine takeL_S 5 29 (.string nm) [7] HS0.out rfl rfl (by kernel_rfl) (by kernel_rfl) (by kernel_rfl) (by decide) (by kernel_rfl) (fun _ _ _ h=>h) (by kernel_rfl) ?_ ?_
  ·intro w2 hSw;obtain ⟨g0,g1,g2⟩:=hSw;go_simp
  try simp only [sA,sB,sC]
  refine wpAnyL_ready (rs:=[6]) (by kernel_rfl) (by simp) ?_
  refine AllReadyL.cons rfl (fun K hK=>?_) AllReadyL.nil
  go_simp
  refine (HPL.out X0 HX0.out).mono ?_
  rintro e X1 ⟨rfl,hx1⟩
  have HX1:Hid (Below W.heap.size W X1):=Ω (HX0.out.trans (hx1.mono HX0.out.size))
  clear hx1
  refine hK.out _ _ (SO.out _ HX1.out) (fun hHeld=>?_)
  have HS1:=Ω hHeld
  clear hK K hHeld
  try simp only [sA,sB,sC]
  refine wpAnyL_ready (rs:=[7]) (by kernel_rfl) (by simp) ?_
  refine AllReadyL.last rfl (by kernel_rfl) (fun K hK=>?_)
  go_simp
  refine hK.out _ _ ?_
  clear hK K
  try simp only [sA,sB,sC]
  refine wpAnyL_done (by kernel_rfl) ?_ _
  go_wp2
  go_ret
  exact ⟨by rw [HE0.out];rfl,HB.out.trans (HX1.out.mono HB.out.size)⟩
 ·have hpl:placeL p nm=(k:Int):=h1
  have HE0:Hid (e0=if p.funcs[k].params.length=na then 0 else 52):=Ω (by rw [HE.out,h2])
  rw [hpl] at HPL
  clear h1 h2 HE
  have d1:decide ((k:Int)<0)=false:=dF (by omega)
  refine wp_region_L (by kernel_rfl) 7 (fun X=>X.cell? ⟨cb,0,none⟩=some (.slice A1 p.arrays.length c1)∧X.cell? ⟨cb,1,none⟩=some (.slice A2 p.funcs.length c2)∧X.cell? ⟨w.heap.size,3,none⟩=some (.string nm)) (SO.out _ HX0.out) (fun hHeld=>?_)
  have HS0:=Ω hHeld
  clear hHeld
  change wpAnyL _ _ _ _ _ 7 8 (Array.replicate 8 false) _ _
  obtain ⟨X0,hX0⟩:∃X0,W.drew=X0:=⟨_,rfl⟩
  rw [hX0] at HX0 HS0 ⊢
  clear hX0
  refine takeL 0 24 (.pointer (some ⟨cb,0,none⟩)) HS0.out rfl rfl (by kernel_rfl) (by kernel_rfl) (by kernel_rfl) (by decide) (fun _ _ _ h=>h) (by kernel_rfl) ?_ ?_
  ·intro w2;go_simp
  try simp only [sA,sB,sC]
  refine takeL 1 25 (.pointer (some ⟨cb,0,none⟩)) HS0.out rfl rfl (by kernel_rfl) (by kernel_rfl) (by kernel_rfl) (by decide) (fun _ _ _ h=>h) (by kernel_rfl) ?_ ?_
  ·intro w2;go_simp
  try simp only [sA,sB,sC]
  refine takeL 2 26 (.pointer (some ⟨cb,0,none⟩)) HS0.out rfl rfl (by kernel_rfl) (by kernel_rfl) (by kernel_rfl) (by decide) (fun _ _ _ h=>h) (by kernel_rfl) ?_ ?_
  ·intro w2;go_simp
  try simp only [sA,sB,sC]
  refine takeL_S 3 27 (.agg #[.slice A1 p.arrays.length c1,.slice A2 p.funcs.length c2]) [7] HS0.out rfl rfl (by kernel_rfl) (by kernel_rfl) (by kernel_rfl) (by decide) (by kernel_rfl) (fun _ _ _ h=>h) (by kernel_rfl) ?_ ?_
  ·intro w2 hSw;obtain ⟨g0,g1,g2⟩:=hSw;go_simp
  try simp only [sA,sB,sC]
  refine takeL 4 28 (.pointer (some ⟨w.heap.size,3,none⟩)) HS0.out rfl rfl (by kernel_rfl) (by kernel_rfl) (by kernel_rfl) (by decide) (fun _ _ _ h=>h) (by kernel_rfl) ?_ ?_
  ·intro w2;go_simp
  try simp only [sA,sB,sC]
  refine takeL_S 5 29 (.string nm) [7] HS0.out rfl rfl (by kernel_rfl) (by kernel_rfl) (by kernel_rfl) (by decide) (by kernel_rfl) (fun _ _ _ h=>h) (by kernel_rfl) ?_ ?_
  ·intro w2 hSw;obtain ⟨g0,g1,g2⟩:=hSw;go_simp
  try simp only [sA,sB,sC]
  refine wpAnyL_ready (rs:=[6]) (by kernel_rfl) (by simp) ?_
  refine AllReadyL.cons rfl (fun K hK=>?_) AllReadyL.nil
  go_simp
  refine (HPL.out X0 HX0.out).mono ?_
  rintro e X1 ⟨rfl,hx1⟩
  have HX1:Hid (Below W.heap.size W X1):=Ω (HX0.out.trans (hx1.mono HX0.out.size))
  clear hx1
  refine hK.out _ _ (SO.out _ HX1.out) (fun hHeld=>?_)
  have HS1:=Ω hHeld
  clear hK K hHeld
  try simp only [sA,sB,sC]
  refine wpAnyL_ready (rs:=[7]) (by kernel_rfl) (by simp) ?_
  refine AllReadyL.last rfl (by kernel_rfl) (fun K hK=>?_)
  go_simp
  refine hK.out _ _ ?_
  clear hK K
  try simp only [sA,sB,sC]
  refine wpAnyL_done (by kernel_rfl) ?_ _
  obtain ⟨b,off,c',hform,_,_,hbl,hel⟩:=HFN.out.form (by omega)
  obtain ⟨cs,hcl,⟨vp,vl,vb,hcs,hsp,_,_⟩,hcell⟩:=hel k hk
  obtain ⟨rfl,rfl⟩:A2=some ⟨b,off,none⟩∧c2=c':=by injection hform with h1 _ h2;exact ⟨h1,h2⟩
  obtain ⟨Ap,cp,rfl,_,_⟩:=hsp.val
  subst hcs
  obtain ⟨np,hnp⟩:∃np,np=p.funcs[k].params.length:=⟨_,rfl⟩
  rw [←hnp] at HE0 hcell
  have hb1:Below w.heap.size w X1:=HB.out.trans (HX1.out.mono HB.out.size)
  have SO2:Hid (∀X,Below X1.heap.size X1 X→(fun X=>X.cell? ⟨cb,1,none⟩=some (.slice (some ⟨b,off,none⟩) p.funcs.length c2)∧X.cell? ⟨b,off+k*4+1,none⟩=some (.slice Ap np cp)∧X.cell? ⟨w.heap.size,4,none⟩=some (.slice A na c)) X):=Ω (fun X hx=>by
   have hX:Below W.heap.size W X:=HX1.out.trans (hx.mono HX1.out.size)
   have hw:Below w.heap.size w X:=HB.out.trans (hX.mono HB.out.size)
   have hcw:=hcell.keep (hw.block b hbl)
   exact ⟨(HC.out.below hX HC.out.lt).cell 1,by have h:=hcw.at_ (j:=1) rfl;simpa using h,(HG.out.below hX HG.out.lt).cell 4⟩)
  have HX2:Hid (Below X1.heap.size X1 X1.drew):=Ω (Below.refl _ _).drew
  obtain ⟨bq,hbq⟩:∃q,q=((np:Int) == (na:Int)):=⟨_,rfl⟩
  have HBQ:=Ω hbq
  have HB1:=Ω hb1
  have hk2:k<p.funcs.length:=hk
  have d2:((np:Int) == (na:Int))=bq:=hbq.symm
  have HR:Hid (e0=if bq then 0 else 52):=Ω (by
   rw [HE0.out,hbq,beq_dec]
   by_cases h:np=na
   ·rw [if_pos h,dT (by omega),if_pos rfl]
   ·rw [if_neg h,dF (by omega)];rfl)
  clear hcell hel hform hb1 hbq hnp hbl hcl hsp HE0 hpl HC HG SO HS0 HS1 HX0 HB
  go_upto_region 10 with fail
  refine wp_region_L (by kernel_rfl) 15 (fun X=>X.cell? ⟨cb,1,none⟩=some (.slice (some ⟨b,off,none⟩) p.funcs.length c2)∧X.cell? ⟨b,off+k*4+1,none⟩=some (.slice Ap np cp)∧X.cell? ⟨w.heap.size,4,none⟩=some (.slice A na c)) (SO2.out _ HX2.out) (fun hHeld=>?_)
  have HS0:=Ω hHeld
  clear hHeld
  change wpAnyL _ _ _ _ _ 15 16 (Array.replicate 16 false) _ _
  obtain ⟨X2,hX2⟩:∃X2,X1.drew=X2:=⟨_,rfl⟩
  rw [hX2] at HX2 HS0 ⊢
  clear hX2 HX1
  refine takeL 0 33 (.pointer (some ⟨cb,0,none⟩)) HS0.out rfl rfl (by kernel_rfl) (by kernel_rfl) (by kernel_rfl) (by decide) (fun _ _ _ h=>h) (by kernel_rfl) ?_ ?_
  ·intro w2;go_simp
  try simp only [sA,sB,sC]
  refine takeL 1 34 (.pointer (some ⟨cb,0,none⟩)) HS0.out rfl rfl (by kernel_rfl) (by kernel_rfl) (by kernel_rfl) (by decide) (fun _ _ _ h=>h) (by kernel_rfl) ?_ ?_
  ·intro w2;go_simp
  try simp only [sA,sB,sC]
  refine takeL 2 35 (.pointer (some ⟨cb,0,none⟩)) HS0.out rfl rfl (by kernel_rfl) (by kernel_rfl) (by kernel_rfl) (by decide) (fun _ _ _ h=>h) (by kernel_rfl) ?_ ?_
  ·intro w2;go_simp
  try simp only [sA,sB,sC]
  refine takeL 3 36 (.pointer (some ⟨cb,1,none⟩)) HS0.out rfl rfl (by kernel_rfl) (by kernel_rfl) (by kernel_rfl) (by decide) (fun _ _ _ h=>h) (by kernel_rfl) ?_ ?_
  ·intro w2;go_simp
  try simp only [sA,sB,sC]
  refine takeL_S 4 37 (.slice (some ⟨b,off,none⟩) p.funcs.length c2) [15] HS0.out rfl rfl (by kernel_rfl) (by kernel_rfl) (by kernel_rfl) (by decide) (by kernel_rfl) (fun _ _ _ h=>h) (by kernel_rfl) ?_ ?_
  ·intro w2 hSw;obtain ⟨g0,g1,g2⟩:=hSw;go_simp
  try simp only [sA,sB,sC]
  refine takeL 5 38 (.int .i64 (k:Int)) HS0.out rfl rfl (by kernel_rfl) (by kernel_rfl) (by kernel_rfl) (by decide) (fun _ _ _ h=>h) (by kernel_rfl) ?_ ?_
  ·intro w2;go_simp
  try simp only [sA,sB,sC]
  refine takeL 6 39 (.pointer (some ⟨b,off+k*4,none⟩)) HS0.out rfl rfl (by kernel_rfl) (by kernel_rfl) (by kernel_rfl) (by decide) (fun _ _ _ h=>h) (by kernel_rfl) ?_ ?_
  ·intro w2;go_simp
  try simp only [sA,sB,sC]
  refine takeL 7 40 (.pointer (some ⟨b,off+k*4+1,none⟩)) HS0.out rfl rfl (by kernel_rfl) (by kernel_rfl) (by kernel_rfl) (by decide) (fun _ _ _ h=>h) (by kernel_rfl) ?_ ?_
  ·intro w2;go_simp
  try simp only [sA,sB,sC]
  refine takeL_S 8 41 (.slice Ap np cp) [15] HS0.out rfl rfl (by kernel_rfl) (by kernel_rfl) (by kernel_rfl) (by decide) (by kernel_rfl) (fun _ _ _ h=>h) (by kernel_rfl) ?_ ?_
  ·intro w2 hSw;obtain ⟨g0,g1,g2⟩:=hSw;go_simp
  try simp only [sA,sB,sC]
  refine takeL 9 42 (.int .i64 (np:Int)) HS0.out rfl rfl (by kernel_rfl) (by kernel_rfl) (by kernel_rfl) (by decide) (fun _ _ _ h=>h) (by kernel_rfl) ?_ ?_
  ·intro w2;go_simp
  try simp only [sA,sB,sC]
  refine takeL 10 43 (.pointer (some ⟨w.heap.size,4,none⟩)) HS0.out rfl rfl (by kernel_rfl) (by kernel_rfl) (by kernel_rfl) (by decide) (fun _ _ _ h=>h) (by kernel_rfl) ?_ ?_
  ·intro w2;go_simp
  try simp only [sA,sB,sC]
  refine takeL_S 11 44 (.slice A na c) [15] HS0.out rfl rfl (by kernel_rfl) (by kernel_rfl) (by kernel_rfl) (by decide) (by kernel_rfl) (fun _ _ _ h=>h) (by kernel_rfl) ?_ ?_
  ·intro w2 hSw;obtain ⟨g0,g1,g2⟩:=hSw;go_simp
  try simp only [sA,sB,sC]
  refine takeL 12 45 (.int .i64 (na:Int)) HS0.out rfl rfl (by kernel_rfl) (by kernel_rfl) (by kernel_rfl) (by decide) (fun _ _ _ h=>h) (by kernel_rfl) ?_ ?_
  ·intro w2;go_simp
  try simp only [sA,sB,sC]
  refine takeL 13 46 (.bool bq) HS0.out rfl rfl (by kernel_rfl) (by kernel_rfl) (by kernel_rfl) (by decide) (fun _ _ _ h=>h) (by kernel_rfl) ?_ ?_
  ·intro w2;go_simp
  try simp only [sA,sB,sC]
  refine wpAnyL_ready (rs:=[14]) (by kernel_rfl) (by simp) ?_
  refine AllReadyL.cons rfl (fun K hK=>?_) AllReadyL.nil
  go_simp
  refine (flag_any bq 52 X2).mono ?_
  rintro e X3 ⟨rfl,rfl⟩
  refine hK.out _ _ (SO2.out _ HX2.out) (fun hHeld=>?_)
  have HS1:=Ω hHeld
  clear hK K hHeld
  try simp only [sA,sB,sC]
  refine wpAnyL_ready (rs:=[15]) (by kernel_rfl) (by simp) ?_
  refine AllReadyL.last rfl (by kernel_rfl) (fun K hK=>?_)
  go_simp
  refine hK.out _ _ ?_
  clear hK K
  try simp only [sA,sB,sC]
  refine wpAnyL_done (by kernel_rfl) ?_ _
  cases bq
  all_goals
   go_wp2
   go_ret
   exact ⟨by rw [HR.out];rfl,HB1.out.trans (HX2.out.mono HB1.out.size)⟩
end
end Go.Proofs.YtmignlclfbaifaaGreat
namespace Go.Proofs.YtmignlclfbaifaaGreat
open Go.RowKit
section
variable {d:Nat} {w:World} {cb:Nat} {p:LProg} {vars:List ByteArray} {A1 A2 A3:Option Addr} {c1 c2 c3:Nat}
theorem own_any (h:CkAt d w cb p vars A1 A2 A3 c1 c2 c3) (e:LExpr) (A:Option Addr) (c:Nat) :
  Calls Tryz.prog 94 #[.pointer (some ⟨cb,0,none⟩),.agg #[.int .i64 e.kind,.int .i64 e.op,.int .i64 e.n,.string e.name,.slice A e.args.length c]] w fun r w'=>r=.returned (.int .i64 (ownE p vars e))∧Below w.heap.size w w':=by
 by_cases h2:e.kind=2
 ·have he:ownE p vars e=if hasS vars e.name then 0 else 51:=by unfold ownE;rw [if_pos h2]
  rw [he,h2]
  exact own_var h e.op e.n e.name A e.args.length c
 by_cases h6:e.kind=6
 ·have he:ownE p vars e=if p.arrays.any (fun a=>decide (a.1=e.name)) then 0 else 51:=by unfold ownE;rw [if_neg h2,if_pos h6]
  rw [he,h6]
  exact own_index h e.op e.n e.name A e.args.length c
 by_cases h5:e.kind=5
 ·have he:ownE p vars e=match p.funcs.find? (fun f=>decide (f.name=e.name)) with
      |none=>51
      |some f=>if f.params.length=e.args.length then 0 else 52:=by unfold ownE;rw [if_neg h2,if_neg h6,if_pos h5];cases p.funcs.find? (fun f=>decide (f.name=e.name)) <;> rfl
  rw [h5]
  exact own_call h e.op e.n e.name A e.args.length c _ he
 ·have he:ownE p vars e=0:=by unfold ownE;rw [if_neg h2,if_neg h6,if_neg h5]
  rw [he]
  exact own_other e.kind e.op e.n e.name A e.args.length c (by rw [beq_dec];exact dF h2) (by rw [beq_dec];exact dF h6) (by rw [beq_dec];exact dF h5)
end
theorem firstE_at {α:Type} {g:α→Int}:∀{l:List α} {k:Nat} (hk:k<l.length),g l[k]≠0→(∀(j:Nat) (hj:j<l.length),j<k→g l[j]=0)→firstE g l=g l[k]
 |x :: l,0,_,h,_=>if_pos h
 |x :: l,k+1,hk,h,h0=>by
  have hx:g x=0:=h0 0 (Nat.succ_pos _) (Nat.succ_pos _)
  show (if g x≠0 then g x else firstE g l)=_
  rw [if_neg (fun h=>h hx)]
  exact firstE_at (l:=l) (by simpa using hk) h fun j hj hjk=>h0 (j+1) (by simpa using hj) (by omega)
theorem firstE_none {α:Type} {g:α→Int} {l:List α} (h:∀(j:Nat) (hj:j<l.length),g l[j]=0):firstE g l=0:=firstE_zero fun x hx=>by
 obtain ⟨i,hi,rfl⟩:=List.getElem_of_mem hx
 exact h i hi
def oneE (p:LProg) (vars:List ByteArray) (m:Nat) (e:LExpr):Int:=if ownE p vars e≠0 then ownE p vars e else exprsE p vars m e.args
theorem oneE_zero {p:LProg} {vars:List ByteArray} {m:Nat} {e:LExpr} (h:ownE p vars e=0∧exprsE p vars m e.args=0):oneE p vars m e=0:=by
 unfold oneE
 rw [if_neg (fun h2=>h2 h.1),h.2]
def ExprsAt (d m:Nat):Prop:=∀(w:World) (cb:Nat) (p:LProg) (vars:List ByteArray) (A1 A2 A3:Option Addr) (c1 c2 c3:Nat),CkAt d w cb p vars A1 A2 A3 c1 c2 c3→∀(l:List LExpr) (v:Value),SlR w (· < w.heap.size) 5 (RExpr m w (· < w.heap.size)) v l→
 Calls Tryz.prog 77 #[.pointer (some ⟨cb,0,none⟩),v] w fun r w'=>r=.returned (.int .i64 (exprsE p vars m l))∧Below w.heap.size w w'
theorem exprs_nil (cb:Nat) (A:Option Addr) (c:Nat) (w:World):Calls Tryz.prog 77 #[.pointer (some ⟨cb,0,none⟩),.slice A 0 c] w fun r w'=>r=.returned (.int .i64 0)∧Below w.heap.size w w':=by
 go_enter Tryz.func77,Tryz.ntmps77
 go_wp2
 go_loopw [6,11] (fun _ i wr=>i=.int .i64 0∧wr=w) (fun _ _ _=>0)
 case atStart=>exact ⟨rfl,rfl⟩
 case round=>
  obtain ⟨rfl,rfl⟩:=hrel
  go_wp2
  go_ret
  exact ⟨rfl,Below.refl _ _⟩
set_option maxRecDepth 100000 in
set_option maxHeartbeats 4000000 in
theorem exprs_any (d:Nat):∀m:Nat,ExprsAt d m
 |0=>by
  intro w cb p vars A1 A2 A3 c1 c2 c3 h l v hv
  obtain ⟨A,c,rfl,_,_⟩:=hv.val
  have he:l.length=0:=by
   rcases Nat.eq_zero_or_pos l.length with h|h
   ·exact h
   ·obtain ⟨_,_,_,_,_,_,_,hel⟩:=hv.form h
    obtain ⟨_,_,hr,_⟩:=hel 0 h
    exact hr.elim
  obtain rfl:l=[]:=List.eq_nil_of_length_eq_zero he
  exact exprs_nil cb A c w
 |m+1=>by
  intro w cb p vars A1 A2 A3 c1 c2 c3 h l v hv
  have IH:=Ω (exprs_any d m)
  obtain ⟨A,c,rfl,hlc,hcm⟩:=hv.val
  have hlen:=Nat.le_trans hlc hcm
  unfold maxLen at hlen
  have HV:=Ω hv
  have HK:=Ω h
  have hres:exprsE p vars (m+1) l=firstE (oneE p vars m) l:=rfl
  have HRES:=Ω hres
  clear hv h hres
  go_enter Tryz.func77,Tryz.ntmps77
  go_wp2
  go_loopw [6,11] (fun _ i wr=>∃k:Nat,k≤l.length∧i=.int .i64 k∧(∀j (h:j<l.length),j<k→ownE p vars l[j]=0∧exprsE p vars m l[j].args=0)∧Below w.heap.size w wr) (fun _ i _=>l.length-(intOf i).toNat)
  case atStart=>exact ⟨0,by omega,rfl,fun j _ h=>by omega,Below.refl _ _⟩
  case round=>
   obtain ⟨k,hk,rfl,hno,hb⟩:=hrel
   have HNO:=Ω hno
   clear hno
   by_cases hlt:k<l.length
   ·have d1:decide ((k:Int)<(l.length:Int))=true:=dT (by omega)
    obtain ⟨b,off,c',hform,_,_,hbl,hel⟩:=HV.out.form (by omega)
    obtain ⟨cs,hcl,hcs,hcell⟩:=hel k hlt
    obtain ⟨rfl,rfl⟩:A=some ⟨b,off,none⟩∧c=c':=by injection hform with h1 _ h2;exact ⟨h1,h2⟩
    obtain ⟨x,hx⟩:∃x,x=l[k]:=⟨_,rfl⟩
    rw [←hx] at hcs
    obtain ⟨va,rfl,hs⟩:=hcs
    obtain ⟨Aa,ca,rfl,_,_⟩:=hs.val
    have hcw:=hcell.keep (hb.block b hbl)
    have i0:wr.cell? ⟨b,off+k*5,none⟩=some (.int .i64 x.kind):=by have h:=hcw.at_ (j:=0) rfl;simpa using h
    have i1:wr.cell? ⟨b,off+k*5+1,none⟩=some (.int .i64 x.op):=by have h:=hcw.at_ (j:=1) rfl;simpa using h
    have i2:wr.cell? ⟨b,off+k*5+2,none⟩=some (.int .i64 x.n):=by have h:=hcw.at_ (j:=2) rfl;simpa using h
    have i3:wr.cell? ⟨b,off+k*5+3,none⟩=some (.string x.name):=by have h:=hcw.at_ (j:=3) rfl;simpa using h
    have i4:wr.cell? ⟨b,off+k*5+4,none⟩=some (.slice Aa x.args.length ca):=by have h:=hcw.at_ (j:=4) rfl;simpa using h
    obtain ⟨o,ho⟩:∃o,o=ownE p vars x:=⟨_,rfl⟩
    obtain ⟨q,hq⟩:∃q,q=exprsE p vars m x.args:=⟨_,rfl⟩
    have HO:Hid (∀X,Below wr.heap.size wr X→Calls Tryz.prog 94 #[.pointer (some ⟨cb,0,none⟩),.agg #[.int .i64 x.kind,.int .i64 x.op,.int .i64 x.n,.string x.name,.slice Aa x.args.length ca]] X fun r w'=>r=.returned (.int .i64 o)∧Below X.heap.size X w'):=Ω (fun X hX=>by
     rw [ho];exact own_any (HK.out.below (hb.trans (hX.mono hb.size))) x Aa ca)
    have HQ:Hid (∀X,Below wr.heap.size wr X→Calls Tryz.prog 77 #[.pointer (some ⟨cb,0,none⟩),.slice Aa x.args.length ca] X fun r w'=>r=.returned (.int .i64 q)∧Below X.heap.size X w'):=Ω (fun X hX=>by
     have hw:Below w.heap.size w X:=hb.trans (hX.mono hb.size)
     rw [hq]
     exact IH.out X cb p vars A1 A2 A3 c1 c2 c3 (HK.out.below hw) x.args _ (hs.imp (fun b h=>ltle h hw.size) (fun b h=>hw.block b h) fun _ _ _ r=>RExpr.imp (fun b h=>ltle h hw.size) (fun b h=>hw.block b h) _ r))
    have HX:=Ω hx
    have HB:=Ω hb
    have HOO:=Ω ho
    have HQQ:=Ω hq
    clear hcell hcw hel hform hx hb ho hq hs hbl hcl
    have BA:Hid (Below wr.heap.size wr (wr.alloc (.cells #[.int .i64 x.kind,.int .i64 x.op,.int .i64 x.n,.string x.name,.slice Aa x.args.length ca] 42))):=Ω (below1 _ _)
    have CA:Hid ((wr.alloc (.cells #[.int .i64 x.kind,.int .i64 x.op,.int .i64 x.n,.string x.name,.slice Aa x.args.length ca] 42)).cell? ⟨wr.heap.size,4,none⟩=some (.slice Aa x.args.length ca)):=Ω ((Blk.new wr 42 #[.int .i64 x.kind,.int .i64 x.op,.int .i64 x.n,.string x.name,.slice Aa x.args.length ca]).cell 4)
    by_cases h0:o=0
    ·subst h0
     by_cases h1:q=0
     ·subst h1
      go_wp2_with (first
       |(go_at_call 94;refine (HO.out _ BA.out).mono ?_;rintro e w1 ⟨rfl,hb1⟩;have e4:=(hb1.cell (p:=⟨wr.heap.size,4,none⟩) (by simp)).trans CA.out;have HB1:=Ω (BA.out.trans (hb1.mono BA.out.size));clear hb1)
       |(go_at_call 77;refine (HQ.out _ HB1.out).mono ?_;rintro e w2 ⟨rfl,hb2⟩;have HB2:=Ω (HB1.out.trans (hb2.mono HB1.out.size));clear hb2))
      go_roundw
      case rel=>
       refine ⟨k+1,by omega,by go_num,?_,HB.out.trans (HB2.out.mono HB.out.size)⟩
       intro j hj hjk
       by_cases e:j<k
       ·exact HNO.out j hj e
       ·obtain rfl:j=k:=by omega
        rw [←HX.out]
        exact ⟨HOO.out.symm,HQQ.out.symm⟩
      case measure=>simp [intOf];omega
     ·have q1:(q == 0)=false:=by rw [beq_dec];exact dF h1
      have q2:(q != 0)=true:=by rw [bne,q1];rfl
      have H1:=Ω h1
      clear h1
      go_wp2_with (first
       |(go_at_call 94;refine (HO.out _ BA.out).mono ?_;rintro e w1 ⟨rfl,hb1⟩;have e4:=(hb1.cell (p:=⟨wr.heap.size,4,none⟩) (by simp)).trans CA.out;have HB1:=Ω (BA.out.trans (hb1.mono BA.out.size));clear hb1)
       |(go_at_call 77;refine (HQ.out _ HB1.out).mono ?_;rintro e w2 ⟨rfl,hb2⟩;have HB2:=Ω (HB1.out.trans (hb2.mono HB1.out.size));clear hb2))
      go_ret
      refine ⟨?_,HB.out.trans (HB2.out.mono HB.out.size)⟩
      have hg:oneE p vars m l[k]=q:=by
       unfold oneE
       rw [←HX.out,←HOO.out,←HQQ.out,if_neg (fun h=>h rfl)]
      rw [HRES.out,firstE_at hlt (by rw [hg];exact H1.out) (fun j hj hjk=>oneE_zero (HNO.out j hj hjk)),hg]
      rfl
    ·have q1:(o == 0)=false:=by rw [beq_dec];exact dF h0
     have q2:(o != 0)=true:=by rw [bne,q1];rfl
     have H0:=Ω h0
     clear h0
     go_wp2_with (go_at_call 94;refine (HO.out _ BA.out).mono ?_;rintro e w1 ⟨rfl,hb1⟩;have HB1:=Ω (BA.out.trans (hb1.mono BA.out.size));clear hb1)
     go_ret
     refine ⟨?_,HB.out.trans (HB1.out.mono HB.out.size)⟩
     have hg:oneE p vars m l[k]=o:=by
      unfold oneE
      rw [←HX.out,←HOO.out,if_pos H0.out]
     rw [HRES.out,firstE_at hlt (by rw [hg];exact H0.out) (fun j hj hjk=>oneE_zero (HNO.out j hj hjk)),hg]
     rfl
   ·obtain rfl:k=l.length:=by omega
    have HB:=Ω hb
    have HR:Hid (exprsE p vars (m+1) l=0):=Ω (by
     rw [HRES.out]
     exact firstE_none fun j hj=>oneE_zero (HNO.out j hj hj))
    clear hb HNO
    go_wp2
    go_ret
    exact ⟨by rw [HR.out];rfl,HB.out⟩
section
variable {d:Nat} {w:World} {cb:Nat} {p:LProg} {vars:List ByteArray} {A1 A2 A3:Option Addr} {c1 c2 c3:Nat}
theorem st_loop5 (nm:ByteArray) (Aa At Ae:Option Addr) (na ca nt ct ne ce:Nat) (loop:Bool) (q:Int)
  (hq:∀X,Below w.heap.size w X→Calls Tryz.prog 77 #[.pointer (some ⟨cb,0,none⟩),.slice Aa na ca] X fun r w'=>r=.returned (.int .i64 q)∧Below X.heap.size X w') :
  Calls Tryz.prog 54 #[.pointer (some ⟨cb,0,none⟩),.agg #[.int .i64 5,.string nm,.slice Aa na ca,.slice At nt ct,.slice Ae ne ce],.bool loop] w fun r w'=>r=.returned (.int .i64 (if loop then q else 53))∧Below w.heap.size w w':=by
 have HQ:=Ω hq
 have BA:Hid (Below w.heap.size w (w.alloc (.cells #[.int .i64 5,.string nm,.slice Aa na ca,.slice At nt ct,.slice Ae ne ce] 45))):=Ω (below1 _ _)
 have CA:Hid ((w.alloc (.cells #[.int .i64 5,.string nm,.slice Aa na ca,.slice At nt ct,.slice Ae ne ce] 45)).cell? ⟨w.heap.size,2,none⟩=some (.slice Aa na ca)):=Ω ((Blk.new w 45 #[.int .i64 5,.string nm,.slice Aa na ca,.slice At nt ct,.slice Ae ne ce]).cell 2)
 clear hq
 cases loop with
 |false=>
  go_enter Tryz.func54,Tryz.ntmps54
  go_wp2_with (first|(go_at_call 74;refine (flag_any _ _ _).mono ?_;rintro e w9 ⟨rfl,rfl⟩))
  go_ret
  exact ⟨rfl,BA.out⟩
 |true=>
  go_enter Tryz.func54,Tryz.ntmps54
  go_wp2_with (first|(go_at_call 74;refine (flag_any _ _ _).mono ?_;rintro e w9 ⟨rfl,rfl⟩)|(go_at_call 77;refine (HQ.out _ BA.out).mono ?_;rintro e w2 ⟨rfl,hb2⟩;have HB2:=Ω (BA.out.trans (hb2.mono BA.out.size));clear hb2))
  go_ret
  exact ⟨rfl,HB2.out⟩
theorem st_loop6 (nm:ByteArray) (Aa At Ae:Option Addr) (na ca nt ct ne ce:Nat) (loop:Bool) (q:Int)
  (hq:∀X,Below w.heap.size w X→Calls Tryz.prog 77 #[.pointer (some ⟨cb,0,none⟩),.slice Aa na ca] X fun r w'=>r=.returned (.int .i64 q)∧Below X.heap.size X w') :
  Calls Tryz.prog 54 #[.pointer (some ⟨cb,0,none⟩),.agg #[.int .i64 6,.string nm,.slice Aa na ca,.slice At nt ct,.slice Ae ne ce],.bool loop] w fun r w'=>r=.returned (.int .i64 (if loop then q else 53))∧Below w.heap.size w w':=by
 have HQ:=Ω hq
 have BA:Hid (Below w.heap.size w (w.alloc (.cells #[.int .i64 6,.string nm,.slice Aa na ca,.slice At nt ct,.slice Ae ne ce] 45))):=Ω (below1 _ _)
 have CA:Hid ((w.alloc (.cells #[.int .i64 6,.string nm,.slice Aa na ca,.slice At nt ct,.slice Ae ne ce] 45)).cell? ⟨w.heap.size,2,none⟩=some (.slice Aa na ca)):=Ω ((Blk.new w 45 #[.int .i64 6,.string nm,.slice Aa na ca,.slice At nt ct,.slice Ae ne ce]).cell 2)
 clear hq
 cases loop with
 |false=>
  go_enter Tryz.func54,Tryz.ntmps54
  go_wp2_with (first|(go_at_call 74;refine (flag_any _ _ _).mono ?_;rintro e w9 ⟨rfl,rfl⟩))
  go_ret
  exact ⟨rfl,BA.out⟩
 |true=>
  go_enter Tryz.func54,Tryz.ntmps54
  go_wp2_with (first|(go_at_call 74;refine (flag_any _ _ _).mono ?_;rintro e w9 ⟨rfl,rfl⟩)|(go_at_call 77;refine (HQ.out _ BA.out).mono ?_;rintro e w2 ⟨rfl,hb2⟩;have HB2:=Ω (BA.out.trans (hb2.mono BA.out.size));clear hb2))
  go_ret
  exact ⟨rfl,HB2.out⟩
theorem st_set (h:CkAt d w cb p vars A1 A2 A3 c1 c2 c3) (nm:ByteArray) (Aa At Ae:Option Addr) (na ca nt ct ne ce:Nat) (loop:Bool) (q:Int)
  (hq:∀X,Below w.heap.size w X→Calls Tryz.prog 77 #[.pointer (some ⟨cb,0,none⟩),.slice Aa na ca] X fun r w'=>r=.returned (.int .i64 q)∧Below X.heap.size X w') :
  Calls Tryz.prog 54 #[.pointer (some ⟨cb,0,none⟩),.agg #[.int .i64 1,.string nm,.slice Aa na ca,.slice At nt ct,.slice Ae ne ce],.bool loop] w fun r w'=>r=.returned (.int .i64 (if hasS vars nm then q else 51))∧Below w.heap.size w w':=by
 have HKN:=Ω (fun (X:World) (hx:Below w.heap.size w X)=>known_any (h.below hx) nm)
 obtain ⟨bq,hbq⟩:∃b,b=hasS vars nm:=⟨_,rfl⟩
 rw [←hbq] at HKN ⊢
 clear hbq
 have HQ:=Ω hq
 have BA:Hid (Below w.heap.size w (w.alloc (.cells #[.int .i64 1,.string nm,.slice Aa na ca,.slice At nt ct,.slice Ae ne ce] 45))):=Ω (below1 _ _)
 have CA:Hid ((w.alloc (.cells #[.int .i64 1,.string nm,.slice Aa na ca,.slice At nt ct,.slice Ae ne ce] 45)).cell? ⟨w.heap.size,2,none⟩=some (.slice Aa na ca)):=Ω ((Blk.new w 45 #[.int .i64 1,.string nm,.slice Aa na ca,.slice At nt ct,.slice Ae ne ce]).cell 2)
 clear h hq
 cases bq with
 |false=>
  go_enter Tryz.func54,Tryz.ntmps54
  go_wp2_with (first|(go_at_call 75;refine (HKN.out _ BA.out).mono ?_;rintro e w1 ⟨rfl,hb1⟩;have e2:=(hb1.cell (p:=⟨w.heap.size,2,none⟩) (by simp)).trans CA.out;have HB1:=Ω (BA.out.trans (hb1.mono BA.out.size));clear hb1)|(go_at_call 74;refine (flag_any _ _ _).mono ?_;rintro e w9 ⟨rfl,rfl⟩))
  go_ret
  exact ⟨rfl,HB1.out⟩
 |true=>
  go_enter Tryz.func54,Tryz.ntmps54
  go_wp2_with (first|(go_at_call 75;refine (HKN.out _ BA.out).mono ?_;rintro e w1 ⟨rfl,hb1⟩;have e2:=(hb1.cell (p:=⟨w.heap.size,2,none⟩) (by simp)).trans CA.out;have HB1:=Ω (BA.out.trans (hb1.mono BA.out.size));clear hb1)|(go_at_call 74;refine (flag_any _ _ _).mono ?_;rintro e w9 ⟨rfl,rfl⟩)|(go_at_call 77;refine (HQ.out _ HB1.out).mono ?_;rintro e w2 ⟨rfl,hb2⟩;have HB2:=Ω (HB1.out.trans (hb2.mono HB1.out.size));clear hb2))
  go_ret
  exact ⟨rfl,HB2.out⟩
theorem st_store (h:CkAt d w cb p vars A1 A2 A3 c1 c2 c3) (nm:ByteArray) (Aa At Ae:Option Addr) (na ca nt ct ne ce:Nat) (loop:Bool) (q:Int)
  (hq:∀X,Below w.heap.size w X→Calls Tryz.prog 77 #[.pointer (some ⟨cb,0,none⟩),.slice Aa na ca] X fun r w'=>r=.returned (.int .i64 q)∧Below X.heap.size X w') :
  Calls Tryz.prog 54 #[.pointer (some ⟨cb,0,none⟩),.agg #[.int .i64 2,.string nm,.slice Aa na ca,.slice At nt ct,.slice Ae ne ce],.bool loop] w fun r w'=>r=.returned (.int .i64 (if (p.arrays.any fun a=>decide (a.1=nm)) then q else 51))∧Below w.heap.size w w':=by
 have HKN:=Ω (fun (X:World) (hx:Below w.heap.size w X)=>array_any (h.below hx) nm)
 obtain ⟨bq,hbq⟩:∃b,b=(p.arrays.any fun a=>decide (a.1=nm)):=⟨_,rfl⟩
 rw [←hbq] at HKN ⊢
 clear hbq
 have HQ:=Ω hq
 have BA:Hid (Below w.heap.size w (w.alloc (.cells #[.int .i64 2,.string nm,.slice Aa na ca,.slice At nt ct,.slice Ae ne ce] 45))):=Ω (below1 _ _)
 have CA:Hid ((w.alloc (.cells #[.int .i64 2,.string nm,.slice Aa na ca,.slice At nt ct,.slice Ae ne ce] 45)).cell? ⟨w.heap.size,2,none⟩=some (.slice Aa na ca)):=Ω ((Blk.new w 45 #[.int .i64 2,.string nm,.slice Aa na ca,.slice At nt ct,.slice Ae ne ce]).cell 2)
 clear h hq
 cases bq with
 |false=>
  go_enter Tryz.func54,Tryz.ntmps54
  go_wp2_with (first|(go_at_call 76;refine (HKN.out _ BA.out).mono ?_;rintro e w1 ⟨rfl,hb1⟩;have e2:=(hb1.cell (p:=⟨w.heap.size,2,none⟩) (by simp)).trans CA.out;have HB1:=Ω (BA.out.trans (hb1.mono BA.out.size));clear hb1)|(go_at_call 74;refine (flag_any _ _ _).mono ?_;rintro e w9 ⟨rfl,rfl⟩))
  go_ret
  exact ⟨rfl,HB1.out⟩
 |true=>
  go_enter Tryz.func54,Tryz.ntmps54
  go_wp2_with (first|(go_at_call 76;refine (HKN.out _ BA.out).mono ?_;rintro e w1 ⟨rfl,hb1⟩;have e2:=(hb1.cell (p:=⟨w.heap.size,2,none⟩) (by simp)).trans CA.out;have HB1:=Ω (BA.out.trans (hb1.mono BA.out.size));clear hb1)|(go_at_call 74;refine (flag_any _ _ _).mono ?_;rintro e w9 ⟨rfl,rfl⟩)|(go_at_call 77;refine (HQ.out _ HB1.out).mono ?_;rintro e w2 ⟨rfl,hb2⟩;have HB2:=Ω (HB1.out.trans (hb2.mono HB1.out.size));clear hb2))
  go_ret
  exact ⟨rfl,HB2.out⟩
theorem st_other (k:Int) (h1:(k == 1)=false) (h2:(k == 2)=false) (h5:(k == 5)=false) (h6:(k == 6)=false) (nm:ByteArray) (Aa At Ae:Option Addr) (na ca nt ct ne ce:Nat) (loop:Bool) (q:Int)
  (hq:∀X,Below w.heap.size w X→Calls Tryz.prog 77 #[.pointer (some ⟨cb,0,none⟩),.slice Aa na ca] X fun r w'=>r=.returned (.int .i64 q)∧Below X.heap.size X w') :
  Calls Tryz.prog 54 #[.pointer (some ⟨cb,0,none⟩),.agg #[.int .i64 k,.string nm,.slice Aa na ca,.slice At nt ct,.slice Ae ne ce],.bool loop] w fun r w'=>r=.returned (.int .i64 (q))∧Below w.heap.size w w':=by
 have HQ:=Ω hq
 have BA:Hid (Below w.heap.size w (w.alloc (.cells #[.int .i64 k,.string nm,.slice Aa na ca,.slice At nt ct,.slice Ae ne ce] 45))):=Ω (below1 _ _)
 have CA:Hid ((w.alloc (.cells #[.int .i64 k,.string nm,.slice Aa na ca,.slice At nt ct,.slice Ae ne ce] 45)).cell? ⟨w.heap.size,2,none⟩=some (.slice Aa na ca)):=Ω ((Blk.new w 45 #[.int .i64 k,.string nm,.slice Aa na ca,.slice At nt ct,.slice Ae ne ce]).cell 2)
 clear hq
 go_enter Tryz.func54,Tryz.ntmps54
 go_wp2_with (first|(go_at_call 77;refine (HQ.out _ BA.out).mono ?_;rintro e w2 ⟨rfl,hb2⟩;have HB2:=Ω (BA.out.trans (hb2.mono BA.out.size));clear hb2))
 go_ret
 exact ⟨rfl,HB2.out⟩
theorem stmt_ck (h:CkAt d w cb p vars A1 A2 A3 c1 c2 c3) (m:Nat) (s:LStmt) (Aa At Ae:Option Addr) (ca nt ct ne ce:Nat) (loop:Bool) (hs:SlR w (· < w.heap.size) 5 (RExpr m w (· < w.heap.size)) (.slice Aa s.args.length ca) s.args) :
  Calls Tryz.prog 54 #[.pointer (some ⟨cb,0,none⟩),.agg #[.int .i64 s.kind,.string s.name,.slice Aa s.args.length ca,.slice At nt ct,.slice Ae ne ce],.bool loop] w fun r w'=>r=.returned (.int .i64 (stmtE p vars m s loop))∧Below w.heap.size w w':=by
 have hq:∀X,Below w.heap.size w X→Calls Tryz.prog 77 #[.pointer (some ⟨cb,0,none⟩),.slice Aa s.args.length ca] X fun r w'=>r=.returned (.int .i64 (exprsE p vars m s.args))∧Below X.heap.size X w':=fun X hX=>
  exprs_any d m X cb p vars A1 A2 A3 c1 c2 c3 (h.below hX) s.args _ (hs.imp (fun b h=>ltle h hX.size) (fun b h=>hX.block b h) fun _ _ _ r=>RExpr.imp (fun b h=>ltle h hX.size) (fun b h=>hX.block b h) _ r)
 by_cases h5:s.kind=5
 ·have he:stmtE p vars m s loop=if loop then exprsE p vars m s.args else 53:=by
   unfold stmtE
   simp only [h5,true_or,if_true]
   cases loop <;> simp
  rw [he,h5]
  exact st_loop5 s.name Aa At Ae _ ca nt ct ne ce loop _ hq
 by_cases h6:s.kind=6
 ·have he:stmtE p vars m s loop=if loop then exprsE p vars m s.args else 53:=by
   unfold stmtE
   simp only [h6,or_true,if_true]
   cases loop <;> simp
  rw [he,h6]
  exact st_loop6 s.name Aa At Ae _ ca nt ct ne ce loop _ hq
 have h56:¬(s.kind=5∨s.kind=6):=fun h=>h.elim h5 h6
 by_cases h1:s.kind=1
 ·have he:stmtE p vars m s loop=if hasS vars s.name then exprsE p vars m s.args else 51:=by
   unfold stmtE
   rw [if_neg h56,if_pos h1]
   cases hasS vars s.name <;> simp
  rw [he,h1]
  exact st_set h s.name Aa At Ae _ ca nt ct ne ce loop _ hq
 by_cases h2:s.kind=2
 ·have he:stmtE p vars m s loop=if (p.arrays.any fun a=>decide (a.1=s.name)) then exprsE p vars m s.args else 51:=by
   unfold stmtE
   rw [if_neg h56,if_neg h1,if_pos h2]
   cases (p.arrays.any fun a=>decide (a.1=s.name)) <;> simp
  rw [he,h2]
  exact st_store h s.name Aa At Ae _ ca nt ct ne ce loop _ hq
 ·have he:stmtE p vars m s loop=exprsE p vars m s.args:=by
   unfold stmtE
   rw [if_neg h56,if_neg h1,if_neg h2]
   simp
  rw [he]
  exact st_other s.kind (by rw [beq_dec];exact dF h1) (by rw [beq_dec];exact dF h2) (by rw [beq_dec];exact dF h5) (by rw [beq_dec];exact dF h6) s.name Aa At Ae _ ca nt ct ne ce loop _ hq
end
end Go.Proofs.YtmignlclfbaifaaGreat
