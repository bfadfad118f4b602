/- The generator's expressions: (scope).expr, where the scope is not free: some expression that is made of what there is. Printed by wip/gen_trexpr.py. -/
import Derived.Test.YtmignlclfbaifaaGreatPtFrA
namespace Go.Proofs.YtmignlclfbaifaaGreat
open Go.RowKit
section
set_option maxRecDepth 100000
set_option maxHeartbeats 4000000
theorem row_cell {X:World} {g:Nat} {T:TypeId} {kn q z k:Nat} (h:Blk X g T #[.int .i64 0,.int .i64 1,.int .i64 2,.int .i64 3,.int .i64 (kn:Int),.int .i64 (q:Int),.int .i64 (z:Int),.int .i64 9223372036854775807]) (hk:k<8):∃v:Int,0≤v∧X.cell? ⟨g,k,none⟩=some (.int .i64 v):=by
 rcases (by omega:k=0∨k=1∨k=2∨k=3∨k=4∨k=5∨k=6∨k=7) with rfl|rfl|rfl|rfl|rfl|rfl|rfl|rfl
 ·exact ⟨0,by omega,h.cell 0⟩
 ·exact ⟨1,by omega,h.cell 1⟩
 ·exact ⟨2,by omega,h.cell 2⟩
 ·exact ⟨3,by omega,h.cell 3⟩
 ·exact ⟨kn,by omega,h.cell 4⟩
 ·exact ⟨q,by omega,h.cell 5⟩
 ·exact ⟨z,by omega,h.cell 6⟩
 ·exact ⟨9223372036854775807,by omega,h.cell 7⟩
theorem field_arr (s:ByteArray) (sz:Int) (w:World):Sem.run Tryz.prog (Instr.field 53 (.agg #[.string s,.int .i64 sz]) 0) w=.ok (.string s) w:=by kernel_rfl
theorem expr_step (fr:Bool) (m:Nat) (hm:1≤m) (hm2:m≤1000) (hX:2≤m→ExprAt fr (m-1)) (hC:2≤m→CallAt fr m):ExprAt fr m:=by
 intro w sb c Av Aa Af cv ca cf loop hs hc hk
 have HSB:=Ω hs.lt
 have HOK:=Ω hk
 have HCC:=Ω hc
 obtain ⟨nv,hnv⟩:∃n,n=c.vars.length:=⟨_,rfl⟩
 obtain ⟨na,hna⟩:∃n,n=c.arrs.length:=⟨_,rfl⟩
 obtain ⟨nf,hnf⟩:∃n,n=c.funs.length:=⟨_,rfl⟩
 have HSS:=Ω hs
 have lv:nv≤400:=hnv▸hk.lv
 have la:na≤400:=hna▸hk.la
 have lf:nf≤400:=hnf▸hk.lf
 have em:((m-1:Nat):Int)=(m:Int)-1:=by omega
 have HX:Hid (2≤m→∀X,w.grownBy X (some sb)→SrcAt X sb→Calls Tryz.prog 24 #[.agg #[.slice Av nv cv,.slice Aa na ca,.slice Af nf cf,.bool fr,.bool loop],.pointer (some ⟨sb,0,none⟩),.int .i64 ((m:Int)-1)] X (ExprPost X sb c (m-1))):=Ω (fun h2 X hg hsx=>by
  have h:=hX h2 X sb c Av Aa Af cv ca cf loop hsx (hc.grown hg) hk
  rw [em,←hnv,←hna,←hnf] at h
  exact h)
 have HCL:Hid (2≤m→∀X,w.grownBy X (some sb)→SrcAt X sb→Calls Tryz.prog 41 #[.agg #[.slice Av nv cv,.slice Aa na ca,.slice Af nf cf,.bool fr,.bool loop],.pointer (some ⟨sb,0,none⟩),.int .i64 (m:Int)] X (ExprPost X sb c m)):=Ω (fun h2 X hg hsx=>by
  have h:=hC h2 X sb c Av Aa Af cv ca cf loop hsx (hc.grown hg) hk
  rw [←hnv,←hna,←hnf] at h
  exact h.mono fun _ _ q=>q.1)
 have HNAME:Hid (∀X,w.grownBy X (some sb)→SrcAt X sb→Calls Tryz.prog 40 #[.agg #[.slice Av nv cv,.slice Aa na ca,.slice Af nf cf,.bool fr,.bool loop],.pointer (some ⟨sb,0,none⟩),.slice Av nv cv] X fun e w'=>(∃s,okN c s∧e=.returned (.string s))∧SrcAt w' sb∧X.grownBy w' (some sb)):=Ω (fun X hg hsx=>by
  have h:=gname_any (c:=c) fr hsx c.vars Av cv (hc.grown hg).vars (.slice Av nv cv) (.slice Aa na ca) (.slice Af nf cf) (.bool loop)
  rw [←hnv] at h
  exact h)
 have HARR:Hid (∀X,w.grownBy X (some sb)→SrcAt X sb→Calls Tryz.prog 25 #[.agg #[.slice Av nv cv,.slice Aa na ca,.slice Af nf cf,.bool fr,.bool loop],.pointer (some ⟨sb,0,none⟩)] X fun e w'=>(∃s sz,okN c s∧e=.returned (.agg #[.string s,.int .i64 sz]))∧SrcAt w' sb∧X.grownBy w' (some sb)):=Ω (fun X hg hsx=>by
  have h:=garray_any fr hsx (hc.grown hg) (.slice Av nv cv) (.slice Af nf cf) (.bool loop)
  rw [←hna] at h
  exact h)
 rw [←hnv,←hna,←hnf]
 have HNV:=Ω hnv
 have HNA:=Ω hna
 have HNF:=Ω hnf
 clear hs hc hk hX hC hnv hna hnf em
 go_enter Tryz.func24,Tryz.ntmps24
 go_upto_region 1 with fail
 refine wp_world ?_
 intro W hW
 have hst:StE fr w sb W nv na nf Av Aa Af cv ca cf loop:=by
  rw [←hW]
  exact ⟨grown_below' (below2 _ _ _),HSS.out.below (below2 _ _ _),(Blk.new _ _ _).alloc _,Blk.new_at _ _ _ (by simp),by simp,HSB.out⟩
 have HST:=Ω hst
 clear hW hst
 go_upto_if 20 with (go_at_call 21;refine (next_any _ sb 12 (by omega) HST.out.src).mono ?_;rintro e w1 ⟨⟨k1,hk1,rfl⟩,hs1,hg1⟩;have HS1:=Ω (HST.out.step hg1 hs1);clear hs1 hg1;obtain ⟨ab0,ab1,ab2,ab3,ab4⟩:=HS1.out.box.c5;obtain ⟨ar0,ar1,ar2,ar3,ar4⟩:=HS1.out.res.c5;obtain ⟨az0,az1,az2,az3,az4⟩:=HS1.out.res.z5;have alt:w.heap.size+1<w1.heap.size:=HS1.out.lt)
 have HKD:=Ω hk1
 go_cut [7] (fun s7 wx=>∃j:Int,s7=.int .i64 j∧0≤j∧(j<4∨(j<12∧2≤m))∧wx=w1)
 case first=>
  by_cases hm3:m<2
  ·have d1:decide ((m:Int)<2)=true:=dT (by omega)
   go_wp2
   go_meet
   case rel=>exact ⟨((k1%4:Nat):Int),by go_num,by omega,.inl (by omega),rfl⟩
  ·have d1:decide ((m:Int)<2)=false:=dF (by omega)
   go_wp2
   go_meet
   case rel=>exact ⟨(k1:Int),rfl,by omega,.inr ⟨by have:=HKD.out;omega,by omega⟩,rfl⟩
 case rest=>
 obtain ⟨j,rfl,hj0,hj,hw⟩:=hcut
 rw [hw]
 clear hw
 obtain ⟨bv,hbv⟩:∃b,b=(decide (0<nv) || fr):=⟨_,rfl⟩
 have HBV:=Ω hbv
 obtain ⟨ba,hba⟩:∃b,b=(decide (0<na) || fr):=⟨_,rfl⟩
 obtain ⟨bf,hbf⟩:∃b,b=(decide (0<nf) || fr):=⟨_,rfl⟩
 have HBF:=Ω hbf
 clear hbf
 have HBA:=Ω hba
 clear hbv hba
 go_upto_region 4 with fail
 go_cut [8] (fun s wx=>s=.bool bv∧wx=w1)
 case first=>
  rcases Nat.eq_zero_or_pos nv with h0|h0
  ·have hx:bv=fr:=by rw [HBV.out,dF (by omega),Bool.false_or]
   have HXX:=Ω hx
   clear hx
   subst h0
   go_wp2
   go_meet
   case rel=>exact ⟨by rw [HXX.out],rfl⟩
  ·have d1:decide ((nv:Int) > 0)=true:=dT (by omega)
   have d2:decide (0<(nv:Int))=true:=dT (by omega)
   have hx:bv=true:=by rw [HBV.out,dT h0,Bool.true_or]
   have HXX:=Ω hx
   clear hx
   go_wp2
   go_meet
   case rel=>exact ⟨by rw [HXX.out],rfl⟩
 case rest=>
 obtain ⟨rfl,hw⟩:=hcut
 rw [hw]
 clear hw
 go_upto_region 5 with fail
 go_cut [9] (fun s wx=>s=.bool ba∧wx=w1)
 case first=>
  rcases Nat.eq_zero_or_pos na with h0|h0
  ·have hx:ba=fr:=by rw [HBA.out,dF (by omega),Bool.false_or]
   have HXX:=Ω hx
   clear hx
   subst h0
   go_wp2
   go_meet
   case rel=>exact ⟨by rw [HXX.out],rfl⟩
  ·have d1:decide ((na:Int) > 0)=true:=dT (by omega)
   have d2:decide (0<(na:Int))=true:=dT (by omega)
   have hx:ba=true:=by rw [HBA.out,dT h0,Bool.true_or]
   have HXX:=Ω hx
   clear hx
   go_wp2
   go_meet
   case rel=>exact ⟨by rw [HXX.out],rfl⟩
 case rest=>
 obtain ⟨rfl,hw⟩:=hcut
 rw [hw]
 clear hw
 go_upto_region 6 with fail
 go_cut [10] (fun s wx=>s=.bool bf∧wx=w1)
 case first=>
  rcases Nat.eq_zero_or_pos nf with h0|h0
  ·have hx:bf=fr:=by rw [HBF.out,dF (by omega),Bool.false_or]
   have HXX:=Ω hx
   clear hx
   subst h0
   go_wp2
   go_meet
   case rel=>exact ⟨by rw [HXX.out],rfl⟩
  ·have d1:decide ((nf:Int) > 0)=true:=dT (by omega)
   have d2:decide (0<(nf:Int))=true:=dT (by omega)
   have hx:bf=true:=by rw [HBF.out,dT h0,Bool.true_or]
   have HXX:=Ω hx
   clear hx
   go_wp2
   go_meet
   case rel=>exact ⟨by rw [HXX.out],rfl⟩
 case rest=>
 obtain ⟨rfl,hw⟩:=hcut
 rw [hw]
 clear hw
 clear HST HCC HSS HKD
 rcases (by omega:j=0∨j=1∨j=2∨j=3∨j=4∨j=5∨j=6∨(7≤j∧j<12)) with rfl|rfl|rfl|rfl|rfl|rfl|rfl|hj7
 case inl=>
  go_upto_region 14 with (go_at_call 21;refine (next_any _ sb 1000 (by omega) HS1.out.src).mono ?_;rintro e wn ⟨⟨kn,hkn,rfl⟩,hs1,hg1⟩;have HN:=Ω (HS1.out.step hg1 hs1);clear hs1 hg1;obtain ⟨nb0,nb1,nb2,nb3,nb4⟩:=HN.out.box.c5;obtain ⟨nr0,nr1,nr2,nr3,nr4⟩:=HN.out.res.c5;obtain ⟨nz0,nz1,nz2,nz3,nz4⟩:=HN.out.res.z5;have nlt:w.heap.size+1<wn.heap.size:=HN.out.lt)
  obtain ⟨q,hq⟩:∃q,q=kn*kn:=⟨_,rfl⟩
  have hq2:q<1000000:=by rw [hq];exact Nat.lt_of_le_of_lt (Nat.mul_le_mul (show kn≤999 by omega) (show kn≤999 by omega)) (by decide)
  obtain ⟨z,hz⟩:∃z,z=2 ^ (kn%63):=⟨_,rfl⟩
  have hz2:z<9223372036854775808:=by rw [hz];exact Nat.lt_of_le_of_lt (Nat.pow_le_pow_right (by decide) (show kn%63≤62 by omega)) (by decide)
  have HQ:=Ω hq;have HZ:=Ω hz;clear hq hz
  have HN0:Hid (StE fr w sb wn.drew nv na nf Av Aa Af cv ca cf loop):=Ω (HN.out.below (Below.refl _ _).drew)
  refine wp_region_G 13 (fun _=>True) (trivial) ?_
  change GL _ _ _ _ _ 13 14 (Array.replicate 14 false) _ _
  obtain ⟨X0,hX0⟩:∃X0,wn.drew=X0:=⟨_,rfl⟩
  rw [hX0] at HN0 ⊢
  clear hX0
  refine gj 0 (.int .i64 (kn:Int)) ?_
  refine gj 1 (.int .i64 (kn:Int)) ?_
  refine gj 2 (.int .i64 (kn:Int)) ?_
  refine gk 3 (.int .i64 (q:Int)) ?_ ?_
  ·intro w2;go_simp;rw [show (kn:Int)*kn=(q:Int) by rw [HQ.out,Int.natCast_mul]];rw [IntKind.wrap_i64];omega
  refine gj 4 (.int .i64 (kn:Int)) ?_
  refine gk 5 (.int .i64 ((kn%63:Nat):Int)) ?_ ?_
  ·intro w2;go_simp;exact Int.tmod_eq_emod_of_nonneg (by omega)
  refine gk 6 (.int .i64 (z:Int)) ?_ ?_
  ·intro w2;go_simp;rw [show ((kn:Int)%63).toNat=kn%63 by omega,show (2:Int) ^ (kn%63)=(z:Int) by rw [HZ.out];exact (Int.natCast_pow 2 _).symm];rw [IntKind.wrap_i64];omega
  refine gj 8 (.pointer (some ⟨sb,0,none⟩)) ?_
  refine gR (rs:=[7,9]) ?_
  refine gC (fun K hK=>?_) (gC (fun K hK=>?_) AllReadyL.nil)
  ·go_simp
   obtain ⟨X1,hXX⟩:∃X,X0.alloc (.cells #[.int .i64 0,.int .i64 1,.int .i64 2,.int .i64 3,.int .i64 (kn:Int),.int .i64 (q:Int),.int .i64 (z:Int),.int .i64 9223372036854775807] 3)=X:=⟨_,rfl⟩
   rw [hXX]
   have HN1:Hid (StE fr w sb X1 nv na nf Av Aa Af cv ca cf loop):=Ω (by rw [←hXX];exact HN0.out.below (below1 _ _))
   have HB1:Hid (Blk X1 X0.heap.size 3 #[.int .i64 0,.int .i64 1,.int .i64 2,.int .i64 3,.int .i64 (kn:Int),.int .i64 (q:Int),.int .i64 (z:Int),.int .i64 9223372036854775807]):=Ω (by rw [←hXX];exact Blk.new_at _ _ _ rfl)
   have hgl1:X0.heap.size<X1.heap.size:=by rw [←hXX];simp
   have HGL:=Ω hgl1
   clear hgl1
   clear hXX
   refine hK.out _ _ (trivial) ?_
   clear hK K
   try simp only [sG]
   refine gO 9 (fun K hK=>?_)
   go_simp
   refine (next_any _ sb 8 (by omega) HN1.out.src).mono ?_
   rintro e X2 ⟨⟨k,hk,rfl⟩,hs,hg⟩
   have HN2:=Ω (HN1.out.step hg hs)
   have HB2:=Ω (HB1.out.grown hg (fun e=>by have:=sj e;have:=HSB.out;have:=HN0.out.lt;omega))
   have hgl:X0.heap.size<X2.heap.size:=ltle HGL.out hg.size
   clear hs hg
   refine hK.out _ _ (trivial) ?_
   clear hK K
   try simp only [sG]
   obtain ⟨v,hv0,hcell⟩:=row_cell HB2.out hk
   refine gk 10 (.pointer (some ⟨X0.heap.size,k,none⟩)) ?_ ?_
   ·intro w2;go_simp;intro h8;omega
   refine gO 11 (fun K hK=>?_)
   go_simp
   refine hK.out _ _ (trivial) ?_
   clear hK K
   try simp only [sG]
   refine gj 12 (.agg #[.int .i64 1,.int .i64 0,.int .i64 v,.string ⟨#[]⟩,.slice none 0 0]) ?_
   refine gL (fun K hK=>?_)
   obtain ⟨ub0,ub1,ub2,ub3,ub4⟩:=HN2.out.box.c5;obtain ⟨ur0,ur1,ur2,ur3,ur4⟩:=HN2.out.res.c5;obtain ⟨uz0,uz1,uz2,uz3,uz4⟩:=HN2.out.res.z5;have ult:w.heap.size+1<X2.heap.size:=HN2.out.lt
   go_simp
   refine hK.out _ _ ?_
   clear hK K
   try simp only [sG]
   go_wp2
   have hend:=expr_end HN2.out ⟨1,0,v,⟨#[]⟩,[]⟩ (.slice none 0 0) (made_num (c:=c) hm hv0) (SlR.nil_ _ _ _ _)
   refine bodyPost_ret (v:=.agg #[.int .i64 (⟨1,0,v,⟨#[]⟩,[]⟩:LExpr).kind,.int .i64 (⟨1,0,v,⟨#[]⟩,[]⟩:LExpr).op,.int .i64 (⟨1,0,v,⟨#[]⟩,[]⟩:LExpr).n,.string (⟨1,0,v,⟨#[]⟩,[]⟩:LExpr).name,.slice none 0 0]) (results_cell_row (p:=6) (ty:=42) (by kernel_rfl) _ _ (w.heap.size+1) 42 _ (0,0) _ rfl hend.1 Tryz.underlying42 rfl (by kernel_rfl)) rfl hend.2
  ·go_simp
   refine (next_any _ sb 8 (by omega) HN0.out.src).mono ?_
   rintro e X1 ⟨⟨k,hk,rfl⟩,hs,hg⟩
   have HN1:=Ω (HN0.out.step hg hs)
   clear hs hg
   refine hK.out _ _ (trivial) ?_
   clear hK K
   try simp only [sG]
   refine gO 7 (fun K hK=>?_)
   go_simp
   obtain ⟨X2,hXX⟩:∃X,X1.alloc (.cells #[.int .i64 0,.int .i64 1,.int .i64 2,.int .i64 3,.int .i64 (kn:Int),.int .i64 (q:Int),.int .i64 (z:Int),.int .i64 9223372036854775807] 3)=X:=⟨_,rfl⟩
   rw [hXX]
   have HN2:Hid (StE fr w sb X2 nv na nf Av Aa Af cv ca cf loop):=Ω (by rw [←hXX];exact HN1.out.below (below1 _ _))
   have HB2:Hid (Blk X2 X1.heap.size 3 #[.int .i64 0,.int .i64 1,.int .i64 2,.int .i64 3,.int .i64 (kn:Int),.int .i64 (q:Int),.int .i64 (z:Int),.int .i64 9223372036854775807]):=Ω (by rw [←hXX];exact Blk.new_at _ _ _ rfl)
   have hgl:X1.heap.size<X2.heap.size:=by rw [←hXX];simp
   clear hXX
   refine hK.out _ _ (trivial) ?_
   clear hK K
   try simp only [sG]
   obtain ⟨v,hv0,hcell⟩:=row_cell HB2.out hk
   refine gk 10 (.pointer (some ⟨X1.heap.size,k,none⟩)) ?_ ?_
   ·intro w2;go_simp;intro h8;omega
   refine gO 11 (fun K hK=>?_)
   go_simp
   refine hK.out _ _ (trivial) ?_
   clear hK K
   try simp only [sG]
   refine gj 12 (.agg #[.int .i64 1,.int .i64 0,.int .i64 v,.string ⟨#[]⟩,.slice none 0 0]) ?_
   refine gL (fun K hK=>?_)
   obtain ⟨ub0,ub1,ub2,ub3,ub4⟩:=HN2.out.box.c5;obtain ⟨ur0,ur1,ur2,ur3,ur4⟩:=HN2.out.res.c5;obtain ⟨uz0,uz1,uz2,uz3,uz4⟩:=HN2.out.res.z5;have ult:w.heap.size+1<X2.heap.size:=HN2.out.lt
   go_simp
   refine hK.out _ _ ?_
   clear hK K
   try simp only [sG]
   go_wp2
   have hend:=expr_end HN2.out ⟨1,0,v,⟨#[]⟩,[]⟩ (.slice none 0 0) (made_num (c:=c) hm hv0) (SlR.nil_ _ _ _ _)
   refine bodyPost_ret (v:=.agg #[.int .i64 (⟨1,0,v,⟨#[]⟩,[]⟩:LExpr).kind,.int .i64 (⟨1,0,v,⟨#[]⟩,[]⟩:LExpr).op,.int .i64 (⟨1,0,v,⟨#[]⟩,[]⟩:LExpr).n,.string (⟨1,0,v,⟨#[]⟩,[]⟩:LExpr).name,.slice none 0 0]) (results_cell_row (p:=6) (ty:=42) (by kernel_rfl) _ _ (w.heap.size+1) 42 _ (0,0) _ rfl hend.1 Tryz.underlying42 rfl (by kernel_rfl)) rfl hend.2
 case inr.inl=>
  cases bv with
  |true=>
   have HNM:=Ω HNAME.out
   go_wp2_with (go_at_call 40;refine (HNM.out _ HS1.out.g HS1.out.src).mono ?_;rintro e w2 ⟨⟨s,hsm,rfl⟩,hs2,hg2⟩;have HS2:=Ω (HS1.out.step hg2 hs2);have HM:=Ω hsm;clear hs2 hg2 hsm;obtain ⟨vb0,vb1,vb2,vb3,vb4⟩:=HS2.out.box.c5;obtain ⟨vr0,vr1,vr2,vr3,vr4⟩:=HS2.out.res.c5;obtain ⟨vz0,vz1,vz2,vz3,vz4⟩:=HS2.out.res.z5;have vlt:w.heap.size+1<w2.heap.size:=HS2.out.lt)
   have hend:=expr_end HS2.out (⟨2,0,0,s,[]⟩) (.slice none 0 0) (made_var hm HOK.out HM.out) (SlR.nil_ _ _ _ _)
   refine bodyPost_ret (v:=.agg #[.int .i64 (⟨2,0,0,s,[]⟩:LExpr).kind,.int .i64 (⟨2,0,0,s,[]⟩:LExpr).op,.int .i64 (⟨2,0,0,s,[]⟩:LExpr).n,.string (⟨2,0,0,s,[]⟩:LExpr).name,.slice none 0 0]) (results_cell_row (p:=6) (ty:=42) (by kernel_rfl) _ _ (w.heap.size+1) 42 _ (0,0) _ rfl hend.1 Tryz.underlying42 rfl (by kernel_rfl)) rfl hend.2
  |false=>
   go_upto_region 14 with (go_at_call 21;refine (next_any _ sb 1000 (by omega) HS1.out.src).mono ?_;rintro e wn ⟨⟨kn,hkn,rfl⟩,hs1,hg1⟩;have HN:=Ω (HS1.out.step hg1 hs1);clear hs1 hg1;obtain ⟨nb0,nb1,nb2,nb3,nb4⟩:=HN.out.box.c5;obtain ⟨nr0,nr1,nr2,nr3,nr4⟩:=HN.out.res.c5;obtain ⟨nz0,nz1,nz2,nz3,nz4⟩:=HN.out.res.z5;have nlt:w.heap.size+1<wn.heap.size:=HN.out.lt)
   obtain ⟨q,hq⟩:∃q,q=kn*kn:=⟨_,rfl⟩
   have hq2:q<1000000:=by rw [hq];exact Nat.lt_of_le_of_lt (Nat.mul_le_mul (show kn≤999 by omega) (show kn≤999 by omega)) (by decide)
   obtain ⟨z,hz⟩:∃z,z=2 ^ (kn%63):=⟨_,rfl⟩
   have hz2:z<9223372036854775808:=by rw [hz];exact Nat.lt_of_le_of_lt (Nat.pow_le_pow_right (by decide) (show kn%63≤62 by omega)) (by decide)
   have HQ:=Ω hq;have HZ:=Ω hz;clear hq hz
   have HN0:Hid (StE fr w sb wn.drew nv na nf Av Aa Af cv ca cf loop):=Ω (HN.out.below (Below.refl _ _).drew)
   refine wp_region_G 13 (fun _=>True) (trivial) ?_
   change GL _ _ _ _ _ 13 14 (Array.replicate 14 false) _ _
   obtain ⟨X0,hX0⟩:∃X0,wn.drew=X0:=⟨_,rfl⟩
   rw [hX0] at HN0 ⊢
   clear hX0
   refine gj 0 (.int .i64 (kn:Int)) ?_
   refine gj 1 (.int .i64 (kn:Int)) ?_
   refine gj 2 (.int .i64 (kn:Int)) ?_
   refine gk 3 (.int .i64 (q:Int)) ?_ ?_
   ·intro w2;go_simp;rw [show (kn:Int)*kn=(q:Int) by rw [HQ.out,Int.natCast_mul]];rw [IntKind.wrap_i64];omega
   refine gj 4 (.int .i64 (kn:Int)) ?_
   refine gk 5 (.int .i64 ((kn%63:Nat):Int)) ?_ ?_
   ·intro w2;go_simp;exact Int.tmod_eq_emod_of_nonneg (by omega)
   refine gk 6 (.int .i64 (z:Int)) ?_ ?_
   ·intro w2;go_simp;rw [show ((kn:Int)%63).toNat=kn%63 by omega,show (2:Int) ^ (kn%63)=(z:Int) by rw [HZ.out];exact (Int.natCast_pow 2 _).symm];rw [IntKind.wrap_i64];omega
   refine gj 8 (.pointer (some ⟨sb,0,none⟩)) ?_
   refine gR (rs:=[7,9]) ?_
   refine gC (fun K hK=>?_) (gC (fun K hK=>?_) AllReadyL.nil)
   ·go_simp
    obtain ⟨X1,hXX⟩:∃X,X0.alloc (.cells #[.int .i64 0,.int .i64 1,.int .i64 2,.int .i64 3,.int .i64 (kn:Int),.int .i64 (q:Int),.int .i64 (z:Int),.int .i64 9223372036854775807] 3)=X:=⟨_,rfl⟩
    rw [hXX]
    have HN1:Hid (StE fr w sb X1 nv na nf Av Aa Af cv ca cf loop):=Ω (by rw [←hXX];exact HN0.out.below (below1 _ _))
    have HB1:Hid (Blk X1 X0.heap.size 3 #[.int .i64 0,.int .i64 1,.int .i64 2,.int .i64 3,.int .i64 (kn:Int),.int .i64 (q:Int),.int .i64 (z:Int),.int .i64 9223372036854775807]):=Ω (by rw [←hXX];exact Blk.new_at _ _ _ rfl)
    have hgl1:X0.heap.size<X1.heap.size:=by rw [←hXX];simp
    have HGL:=Ω hgl1
    clear hgl1
    clear hXX
    refine hK.out _ _ (trivial) ?_
    clear hK K
    try simp only [sG]
    refine gO 9 (fun K hK=>?_)
    go_simp
    refine (next_any _ sb 8 (by omega) HN1.out.src).mono ?_
    rintro e X2 ⟨⟨k,hk,rfl⟩,hs,hg⟩
    have HN2:=Ω (HN1.out.step hg hs)
    have HB2:=Ω (HB1.out.grown hg (fun e=>by have:=sj e;have:=HSB.out;have:=HN0.out.lt;omega))
    have hgl:X0.heap.size<X2.heap.size:=ltle HGL.out hg.size
    clear hs hg
    refine hK.out _ _ (trivial) ?_
    clear hK K
    try simp only [sG]
    obtain ⟨v,hv0,hcell⟩:=row_cell HB2.out hk
    refine gk 10 (.pointer (some ⟨X0.heap.size,k,none⟩)) ?_ ?_
    ·intro w2;go_simp;intro h8;omega
    refine gO 11 (fun K hK=>?_)
    go_simp
    refine hK.out _ _ (trivial) ?_
    clear hK K
    try simp only [sG]
    refine gj 12 (.agg #[.int .i64 1,.int .i64 0,.int .i64 v,.string ⟨#[]⟩,.slice none 0 0]) ?_
    refine gL (fun K hK=>?_)
    obtain ⟨ub0,ub1,ub2,ub3,ub4⟩:=HN2.out.box.c5;obtain ⟨ur0,ur1,ur2,ur3,ur4⟩:=HN2.out.res.c5;obtain ⟨uz0,uz1,uz2,uz3,uz4⟩:=HN2.out.res.z5;have ult:w.heap.size+1<X2.heap.size:=HN2.out.lt
    go_simp
    refine hK.out _ _ ?_
    clear hK K
    try simp only [sG]
    go_wp2
    have hend:=expr_end HN2.out ⟨1,0,v,⟨#[]⟩,[]⟩ (.slice none 0 0) (made_num (c:=c) hm hv0) (SlR.nil_ _ _ _ _)
    refine bodyPost_ret (v:=.agg #[.int .i64 (⟨1,0,v,⟨#[]⟩,[]⟩:LExpr).kind,.int .i64 (⟨1,0,v,⟨#[]⟩,[]⟩:LExpr).op,.int .i64 (⟨1,0,v,⟨#[]⟩,[]⟩:LExpr).n,.string (⟨1,0,v,⟨#[]⟩,[]⟩:LExpr).name,.slice none 0 0]) (results_cell_row (p:=6) (ty:=42) (by kernel_rfl) _ _ (w.heap.size+1) 42 _ (0,0) _ rfl hend.1 Tryz.underlying42 rfl (by kernel_rfl)) rfl hend.2
   ·go_simp
    refine (next_any _ sb 8 (by omega) HN0.out.src).mono ?_
    rintro e X1 ⟨⟨k,hk,rfl⟩,hs,hg⟩
    have HN1:=Ω (HN0.out.step hg hs)
    clear hs hg
    refine hK.out _ _ (trivial) ?_
    clear hK K
    try simp only [sG]
    refine gO 7 (fun K hK=>?_)
    go_simp
    obtain ⟨X2,hXX⟩:∃X,X1.alloc (.cells #[.int .i64 0,.int .i64 1,.int .i64 2,.int .i64 3,.int .i64 (kn:Int),.int .i64 (q:Int),.int .i64 (z:Int),.int .i64 9223372036854775807] 3)=X:=⟨_,rfl⟩
    rw [hXX]
    have HN2:Hid (StE fr w sb X2 nv na nf Av Aa Af cv ca cf loop):=Ω (by rw [←hXX];exact HN1.out.below (below1 _ _))
    have HB2:Hid (Blk X2 X1.heap.size 3 #[.int .i64 0,.int .i64 1,.int .i64 2,.int .i64 3,.int .i64 (kn:Int),.int .i64 (q:Int),.int .i64 (z:Int),.int .i64 9223372036854775807]):=Ω (by rw [←hXX];exact Blk.new_at _ _ _ rfl)
    have hgl:X1.heap.size<X2.heap.size:=by rw [←hXX];simp
    clear hXX
    refine hK.out _ _ (trivial) ?_
    clear hK K
    try simp only [sG]
    obtain ⟨v,hv0,hcell⟩:=row_cell HB2.out hk
    refine gk 10 (.pointer (some ⟨X1.heap.size,k,none⟩)) ?_ ?_
    ·intro w2;go_simp;intro h8;omega
    refine gO 11 (fun K hK=>?_)
    go_simp
    refine hK.out _ _ (trivial) ?_
    clear hK K
    try simp only [sG]
    refine gj 12 (.agg #[.int .i64 1,.int .i64 0,.int .i64 v,.string ⟨#[]⟩,.slice none 0 0]) ?_
    refine gL (fun K hK=>?_)
    obtain ⟨ub0,ub1,ub2,ub3,ub4⟩:=HN2.out.box.c5;obtain ⟨ur0,ur1,ur2,ur3,ur4⟩:=HN2.out.res.c5;obtain ⟨uz0,uz1,uz2,uz3,uz4⟩:=HN2.out.res.z5;have ult:w.heap.size+1<X2.heap.size:=HN2.out.lt
    go_simp
    refine hK.out _ _ ?_
    clear hK K
    try simp only [sG]
    go_wp2
    have hend:=expr_end HN2.out ⟨1,0,v,⟨#[]⟩,[]⟩ (.slice none 0 0) (made_num (c:=c) hm hv0) (SlR.nil_ _ _ _ _)
    refine bodyPost_ret (v:=.agg #[.int .i64 (⟨1,0,v,⟨#[]⟩,[]⟩:LExpr).kind,.int .i64 (⟨1,0,v,⟨#[]⟩,[]⟩:LExpr).op,.int .i64 (⟨1,0,v,⟨#[]⟩,[]⟩:LExpr).n,.string (⟨1,0,v,⟨#[]⟩,[]⟩:LExpr).name,.slice none 0 0]) (results_cell_row (p:=6) (ty:=42) (by kernel_rfl) _ _ (w.heap.size+1) 42 _ (0,0) _ rfl hend.1 Tryz.underlying42 rfl (by kernel_rfl)) rfl hend.2
 case inr.inr.inl=>
  cases bv with
  |true=>
   have HNM:=Ω HNAME.out
   go_wp2_with (go_at_call 40;refine (HNM.out _ HS1.out.g HS1.out.src).mono ?_;rintro e w2 ⟨⟨s,hsm,rfl⟩,hs2,hg2⟩;have HS2:=Ω (HS1.out.step hg2 hs2);have HM:=Ω hsm;clear hs2 hg2 hsm;obtain ⟨vb0,vb1,vb2,vb3,vb4⟩:=HS2.out.box.c5;obtain ⟨vr0,vr1,vr2,vr3,vr4⟩:=HS2.out.res.c5;obtain ⟨vz0,vz1,vz2,vz3,vz4⟩:=HS2.out.res.z5;have vlt:w.heap.size+1<w2.heap.size:=HS2.out.lt)
   have hend:=expr_end HS2.out (⟨2,0,0,s,[]⟩) (.slice none 0 0) (made_var hm HOK.out HM.out) (SlR.nil_ _ _ _ _)
   refine bodyPost_ret (v:=.agg #[.int .i64 (⟨2,0,0,s,[]⟩:LExpr).kind,.int .i64 (⟨2,0,0,s,[]⟩:LExpr).op,.int .i64 (⟨2,0,0,s,[]⟩:LExpr).n,.string (⟨2,0,0,s,[]⟩:LExpr).name,.slice none 0 0]) (results_cell_row (p:=6) (ty:=42) (by kernel_rfl) _ _ (w.heap.size+1) 42 _ (0,0) _ rfl hend.1 Tryz.underlying42 rfl (by kernel_rfl)) rfl hend.2
  |false=>
   go_upto_region 14 with (go_at_call 21;refine (next_any _ sb 1000 (by omega) HS1.out.src).mono ?_;rintro e wn ⟨⟨kn,hkn,rfl⟩,hs1,hg1⟩;have HN:=Ω (HS1.out.step hg1 hs1);clear hs1 hg1;obtain ⟨nb0,nb1,nb2,nb3,nb4⟩:=HN.out.box.c5;obtain ⟨nr0,nr1,nr2,nr3,nr4⟩:=HN.out.res.c5;obtain ⟨nz0,nz1,nz2,nz3,nz4⟩:=HN.out.res.z5;have nlt:w.heap.size+1<wn.heap.size:=HN.out.lt)
   obtain ⟨q,hq⟩:∃q,q=kn*kn:=⟨_,rfl⟩
   have hq2:q<1000000:=by rw [hq];exact Nat.lt_of_le_of_lt (Nat.mul_le_mul (show kn≤999 by omega) (show kn≤999 by omega)) (by decide)
   obtain ⟨z,hz⟩:∃z,z=2 ^ (kn%63):=⟨_,rfl⟩
   have hz2:z<9223372036854775808:=by rw [hz];exact Nat.lt_of_le_of_lt (Nat.pow_le_pow_right (by decide) (show kn%63≤62 by omega)) (by decide)
   have HQ:=Ω hq;have HZ:=Ω hz;clear hq hz
   have HN0:Hid (StE fr w sb wn.drew nv na nf Av Aa Af cv ca cf loop):=Ω (HN.out.below (Below.refl _ _).drew)
   refine wp_region_G 13 (fun _=>True) (trivial) ?_
   change GL _ _ _ _ _ 13 14 (Array.replicate 14 false) _ _
   obtain ⟨X0,hX0⟩:∃X0,wn.drew=X0:=⟨_,rfl⟩
   rw [hX0] at HN0 ⊢
   clear hX0
   refine gj 0 (.int .i64 (kn:Int)) ?_
   refine gj 1 (.int .i64 (kn:Int)) ?_
   refine gj 2 (.int .i64 (kn:Int)) ?_
   refine gk 3 (.int .i64 (q:Int)) ?_ ?_
   ·intro w2;go_simp;rw [show (kn:Int)*kn=(q:Int) by rw [HQ.out,Int.natCast_mul]];rw [IntKind.wrap_i64];omega
   refine gj 4 (.int .i64 (kn:Int)) ?_
   refine gk 5 (.int .i64 ((kn%63:Nat):Int)) ?_ ?_
   ·intro w2;go_simp;exact Int.tmod_eq_emod_of_nonneg (by omega)
   refine gk 6 (.int .i64 (z:Int)) ?_ ?_
   ·intro w2;go_simp;rw [show ((kn:Int)%63).toNat=kn%63 by omega,show (2:Int) ^ (kn%63)=(z:Int) by rw [HZ.out];exact (Int.natCast_pow 2 _).symm];rw [IntKind.wrap_i64];omega
   refine gj 8 (.pointer (some ⟨sb,0,none⟩)) ?_
   refine gR (rs:=[7,9]) ?_
   refine gC (fun K hK=>?_) (gC (fun K hK=>?_) AllReadyL.nil)
   ·go_simp
    obtain ⟨X1,hXX⟩:∃X,X0.alloc (.cells #[.int .i64 0,.int .i64 1,.int .i64 2,.int .i64 3,.int .i64 (kn:Int),.int .i64 (q:Int),.int .i64 (z:Int),.int .i64 9223372036854775807] 3)=X:=⟨_,rfl⟩
    rw [hXX]
    have HN1:Hid (StE fr w sb X1 nv na nf Av Aa Af cv ca cf loop):=Ω (by rw [←hXX];exact HN0.out.below (below1 _ _))
    have HB1:Hid (Blk X1 X0.heap.size 3 #[.int .i64 0,.int .i64 1,.int .i64 2,.int .i64 3,.int .i64 (kn:Int),.int .i64 (q:Int),.int .i64 (z:Int),.int .i64 9223372036854775807]):=Ω (by rw [←hXX];exact Blk.new_at _ _ _ rfl)
    have hgl1:X0.heap.size<X1.heap.size:=by rw [←hXX];simp
    have HGL:=Ω hgl1
    clear hgl1
    clear hXX
    refine hK.out _ _ (trivial) ?_
    clear hK K
    try simp only [sG]
    refine gO 9 (fun K hK=>?_)
    go_simp
    refine (next_any _ sb 8 (by omega) HN1.out.src).mono ?_
    rintro e X2 ⟨⟨k,hk,rfl⟩,hs,hg⟩
    have HN2:=Ω (HN1.out.step hg hs)
    have HB2:=Ω (HB1.out.grown hg (fun e=>by have:=sj e;have:=HSB.out;have:=HN0.out.lt;omega))
    have hgl:X0.heap.size<X2.heap.size:=ltle HGL.out hg.size
    clear hs hg
    refine hK.out _ _ (trivial) ?_
    clear hK K
    try simp only [sG]
    obtain ⟨v,hv0,hcell⟩:=row_cell HB2.out hk
    refine gk 10 (.pointer (some ⟨X0.heap.size,k,none⟩)) ?_ ?_
    ·intro w2;go_simp;intro h8;omega
    refine gO 11 (fun K hK=>?_)
    go_simp
    refine hK.out _ _ (trivial) ?_
    clear hK K
    try simp only [sG]
    refine gj 12 (.agg #[.int .i64 1,.int .i64 0,.int .i64 v,.string ⟨#[]⟩,.slice none 0 0]) ?_
    refine gL (fun K hK=>?_)
    obtain ⟨ub0,ub1,ub2,ub3,ub4⟩:=HN2.out.box.c5;obtain ⟨ur0,ur1,ur2,ur3,ur4⟩:=HN2.out.res.c5;obtain ⟨uz0,uz1,uz2,uz3,uz4⟩:=HN2.out.res.z5;have ult:w.heap.size+1<X2.heap.size:=HN2.out.lt
    go_simp
    refine hK.out _ _ ?_
    clear hK K
    try simp only [sG]
    go_wp2
    have hend:=expr_end HN2.out ⟨1,0,v,⟨#[]⟩,[]⟩ (.slice none 0 0) (made_num (c:=c) hm hv0) (SlR.nil_ _ _ _ _)
    refine bodyPost_ret (v:=.agg #[.int .i64 (⟨1,0,v,⟨#[]⟩,[]⟩:LExpr).kind,.int .i64 (⟨1,0,v,⟨#[]⟩,[]⟩:LExpr).op,.int .i64 (⟨1,0,v,⟨#[]⟩,[]⟩:LExpr).n,.string (⟨1,0,v,⟨#[]⟩,[]⟩:LExpr).name,.slice none 0 0]) (results_cell_row (p:=6) (ty:=42) (by kernel_rfl) _ _ (w.heap.size+1) 42 _ (0,0) _ rfl hend.1 Tryz.underlying42 rfl (by kernel_rfl)) rfl hend.2
   ·go_simp
    refine (next_any _ sb 8 (by omega) HN0.out.src).mono ?_
    rintro e X1 ⟨⟨k,hk,rfl⟩,hs,hg⟩
    have HN1:=Ω (HN0.out.step hg hs)
    clear hs hg
    refine hK.out _ _ (trivial) ?_
    clear hK K
    try simp only [sG]
    refine gO 7 (fun K hK=>?_)
    go_simp
    obtain ⟨X2,hXX⟩:∃X,X1.alloc (.cells #[.int .i64 0,.int .i64 1,.int .i64 2,.int .i64 3,.int .i64 (kn:Int),.int .i64 (q:Int),.int .i64 (z:Int),.int .i64 9223372036854775807] 3)=X:=⟨_,rfl⟩
    rw [hXX]
    have HN2:Hid (StE fr w sb X2 nv na nf Av Aa Af cv ca cf loop):=Ω (by rw [←hXX];exact HN1.out.below (below1 _ _))
    have HB2:Hid (Blk X2 X1.heap.size 3 #[.int .i64 0,.int .i64 1,.int .i64 2,.int .i64 3,.int .i64 (kn:Int),.int .i64 (q:Int),.int .i64 (z:Int),.int .i64 9223372036854775807]):=Ω (by rw [←hXX];exact Blk.new_at _ _ _ rfl)
    have hgl:X1.heap.size<X2.heap.size:=by rw [←hXX];simp
    clear hXX
    refine hK.out _ _ (trivial) ?_
    clear hK K
    try simp only [sG]
    obtain ⟨v,hv0,hcell⟩:=row_cell HB2.out hk
    refine gk 10 (.pointer (some ⟨X1.heap.size,k,none⟩)) ?_ ?_
    ·intro w2;go_simp;intro h8;omega
    refine gO 11 (fun K hK=>?_)
    go_simp
    refine hK.out _ _ (trivial) ?_
    clear hK K
    try simp only [sG]
    refine gj 12 (.agg #[.int .i64 1,.int .i64 0,.int .i64 v,.string ⟨#[]⟩,.slice none 0 0]) ?_
    refine gL (fun K hK=>?_)
    obtain ⟨ub0,ub1,ub2,ub3,ub4⟩:=HN2.out.box.c5;obtain ⟨ur0,ur1,ur2,ur3,ur4⟩:=HN2.out.res.c5;obtain ⟨uz0,uz1,uz2,uz3,uz4⟩:=HN2.out.res.z5;have ult:w.heap.size+1<X2.heap.size:=HN2.out.lt
    go_simp
    refine hK.out _ _ ?_
    clear hK K
    try simp only [sG]
    go_wp2
    have hend:=expr_end HN2.out ⟨1,0,v,⟨#[]⟩,[]⟩ (.slice none 0 0) (made_num (c:=c) hm hv0) (SlR.nil_ _ _ _ _)
    refine bodyPost_ret (v:=.agg #[.int .i64 (⟨1,0,v,⟨#[]⟩,[]⟩:LExpr).kind,.int .i64 (⟨1,0,v,⟨#[]⟩,[]⟩:LExpr).op,.int .i64 (⟨1,0,v,⟨#[]⟩,[]⟩:LExpr).n,.string (⟨1,0,v,⟨#[]⟩,[]⟩:LExpr).name,.slice none 0 0]) (results_cell_row (p:=6) (ty:=42) (by kernel_rfl) _ _ (w.heap.size+1) 42 _ (0,0) _ rfl hend.1 Tryz.underlying42 rfl (by kernel_rfl)) rfl hend.2
 case inr.inr.inr.inl=>
  go_upto_if 64 with (go_at_call 21;refine (next_any _ sb 3 (by omega) HS1.out.src).mono ?_;rintro e w2 ⟨⟨r,hr,rfl⟩,hs1,hg1⟩;have HS2:=Ω (HS1.out.step hg1 hs1);clear hs1 hg1;obtain ⟨ob0,ob1,ob2,ob3,ob4⟩:=HS2.out.box.c5;obtain ⟨or0,or1,or2,or3,or4⟩:=HS2.out.res.c5;obtain ⟨oz0,oz1,oz2,oz3,oz4⟩:=HS2.out.res.z5;have olt:w.heap.size+1<w2.heap.size:=HS2.out.lt)
  clear ab0 ab1 ab2 ab3 ab4 ar0 ar1 ar2 ar3 ar4 az0 az1 az2 az3 az4 alt
  rcases (by omega:r=0∨r=1∨r=2) with rfl|rfl|rfl
  case inl=>
   go_upto_region 14 with (go_at_call 21;refine (next_any _ sb 1000 (by omega) HS2.out.src).mono ?_;rintro e wn ⟨⟨kn,hkn,rfl⟩,hs1,hg1⟩;have HN:=Ω (HS2.out.step hg1 hs1);clear hs1 hg1;obtain ⟨nb0,nb1,nb2,nb3,nb4⟩:=HN.out.box.c5;obtain ⟨nr0,nr1,nr2,nr3,nr4⟩:=HN.out.res.c5;obtain ⟨nz0,nz1,nz2,nz3,nz4⟩:=HN.out.res.z5;have nlt:w.heap.size+1<wn.heap.size:=HN.out.lt)
   obtain ⟨q,hq⟩:∃q,q=kn*kn:=⟨_,rfl⟩
   have hq2:q<1000000:=by rw [hq];exact Nat.lt_of_le_of_lt (Nat.mul_le_mul (show kn≤999 by omega) (show kn≤999 by omega)) (by decide)
   obtain ⟨z,hz⟩:∃z,z=2 ^ (kn%63):=⟨_,rfl⟩
   have hz2:z<9223372036854775808:=by rw [hz];exact Nat.lt_of_le_of_lt (Nat.pow_le_pow_right (by decide) (show kn%63≤62 by omega)) (by decide)
   have HQ:=Ω hq;have HZ:=Ω hz;clear hq hz
   have HN0:Hid (StE fr w sb wn.drew nv na nf Av Aa Af cv ca cf loop):=Ω (HN.out.below (Below.refl _ _).drew)
   refine wp_region_G 13 (fun _=>True) (trivial) ?_
   change GL _ _ _ _ _ 13 14 (Array.replicate 14 false) _ _
   obtain ⟨X0,hX0⟩:∃X0,wn.drew=X0:=⟨_,rfl⟩
   rw [hX0] at HN0 ⊢
   clear hX0
   refine gj 0 (.int .i64 (kn:Int)) ?_
   refine gj 1 (.int .i64 (kn:Int)) ?_
   refine gj 2 (.int .i64 (kn:Int)) ?_
   refine gk 3 (.int .i64 (q:Int)) ?_ ?_
   ·intro w2;go_simp;rw [show (kn:Int)*kn=(q:Int) by rw [HQ.out,Int.natCast_mul]];rw [IntKind.wrap_i64];omega
   refine gj 4 (.int .i64 (kn:Int)) ?_
   refine gk 5 (.int .i64 ((kn%63:Nat):Int)) ?_ ?_
   ·intro w2;go_simp;exact Int.tmod_eq_emod_of_nonneg (by omega)
   refine gk 6 (.int .i64 (z:Int)) ?_ ?_
   ·intro w2;go_simp;rw [show ((kn:Int)%63).toNat=kn%63 by omega,show (2:Int) ^ (kn%63)=(z:Int) by rw [HZ.out];exact (Int.natCast_pow 2 _).symm];rw [IntKind.wrap_i64];omega
   refine gj 8 (.pointer (some ⟨sb,0,none⟩)) ?_
   refine gR (rs:=[7,9]) ?_
   refine gC (fun K hK=>?_) (gC (fun K hK=>?_) AllReadyL.nil)
   ·go_simp
    obtain ⟨X1,hXX⟩:∃X,X0.alloc (.cells #[.int .i64 0,.int .i64 1,.int .i64 2,.int .i64 3,.int .i64 (kn:Int),.int .i64 (q:Int),.int .i64 (z:Int),.int .i64 9223372036854775807] 3)=X:=⟨_,rfl⟩
    rw [hXX]
    have HN1:Hid (StE fr w sb X1 nv na nf Av Aa Af cv ca cf loop):=Ω (by rw [←hXX];exact HN0.out.below (below1 _ _))
    have HB1:Hid (Blk X1 X0.heap.size 3 #[.int .i64 0,.int .i64 1,.int .i64 2,.int .i64 3,.int .i64 (kn:Int),.int .i64 (q:Int),.int .i64 (z:Int),.int .i64 9223372036854775807]):=Ω (by rw [←hXX];exact Blk.new_at _ _ _ rfl)
    have hgl1:X0.heap.size<X1.heap.size:=by rw [←hXX];simp
    have HGL:=Ω hgl1
    clear hgl1
    clear hXX
    refine hK.out _ _ (trivial) ?_
    clear hK K
    try simp only [sG]
    refine gO 9 (fun K hK=>?_)
    go_simp
    refine (next_any _ sb 8 (by omega) HN1.out.src).mono ?_
    rintro e X2 ⟨⟨k,hk,rfl⟩,hs,hg⟩
    have HN2:=Ω (HN1.out.step hg hs)
    have HB2:=Ω (HB1.out.grown hg (fun e=>by have:=sj e;have:=HSB.out;have:=HN0.out.lt;omega))
    have hgl:X0.heap.size<X2.heap.size:=ltle HGL.out hg.size
    clear hs hg
    refine hK.out _ _ (trivial) ?_
    clear hK K
    try simp only [sG]
    obtain ⟨v,hv0,hcell⟩:=row_cell HB2.out hk
    refine gk 10 (.pointer (some ⟨X0.heap.size,k,none⟩)) ?_ ?_
    ·intro w2;go_simp;intro h8;omega
    refine gO 11 (fun K hK=>?_)
    go_simp
    refine hK.out _ _ (trivial) ?_
    clear hK K
    try simp only [sG]
    refine gj 12 (.agg #[.int .i64 1,.int .i64 0,.int .i64 v,.string ⟨#[]⟩,.slice none 0 0]) ?_
    refine gL (fun K hK=>?_)
    obtain ⟨ub0,ub1,ub2,ub3,ub4⟩:=HN2.out.box.c5;obtain ⟨ur0,ur1,ur2,ur3,ur4⟩:=HN2.out.res.c5;obtain ⟨uz0,uz1,uz2,uz3,uz4⟩:=HN2.out.res.z5;have ult:w.heap.size+1<X2.heap.size:=HN2.out.lt
    go_simp
    refine hK.out _ _ ?_
    clear hK K
    try simp only [sG]
    go_wp2
    have hend:=expr_end HN2.out ⟨1,0,v,⟨#[]⟩,[]⟩ (.slice none 0 0) (made_num (c:=c) hm hv0) (SlR.nil_ _ _ _ _)
    refine bodyPost_ret (v:=.agg #[.int .i64 (⟨1,0,v,⟨#[]⟩,[]⟩:LExpr).kind,.int .i64 (⟨1,0,v,⟨#[]⟩,[]⟩:LExpr).op,.int .i64 (⟨1,0,v,⟨#[]⟩,[]⟩:LExpr).n,.string (⟨1,0,v,⟨#[]⟩,[]⟩:LExpr).name,.slice none 0 0]) (results_cell_row (p:=6) (ty:=42) (by kernel_rfl) _ _ (w.heap.size+1) 42 _ (0,0) _ rfl hend.1 Tryz.underlying42 rfl (by kernel_rfl)) rfl hend.2
   ·go_simp
    refine (next_any _ sb 8 (by omega) HN0.out.src).mono ?_
    rintro e X1 ⟨⟨k,hk,rfl⟩,hs,hg⟩
    have HN1:=Ω (HN0.out.step hg hs)
    clear hs hg
    refine hK.out _ _ (trivial) ?_
    clear hK K
    try simp only [sG]
    refine gO 7 (fun K hK=>?_)
    go_simp
    obtain ⟨X2,hXX⟩:∃X,X1.alloc (.cells #[.int .i64 0,.int .i64 1,.int .i64 2,.int .i64 3,.int .i64 (kn:Int),.int .i64 (q:Int),.int .i64 (z:Int),.int .i64 9223372036854775807] 3)=X:=⟨_,rfl⟩
    rw [hXX]
    have HN2:Hid (StE fr w sb X2 nv na nf Av Aa Af cv ca cf loop):=Ω (by rw [←hXX];exact HN1.out.below (below1 _ _))
    have HB2:Hid (Blk X2 X1.heap.size 3 #[.int .i64 0,.int .i64 1,.int .i64 2,.int .i64 3,.int .i64 (kn:Int),.int .i64 (q:Int),.int .i64 (z:Int),.int .i64 9223372036854775807]):=Ω (by rw [←hXX];exact Blk.new_at _ _ _ rfl)
    have hgl:X1.heap.size<X2.heap.size:=by rw [←hXX];simp
    clear hXX
    refine hK.out _ _ (trivial) ?_
    clear hK K
    try simp only [sG]
    obtain ⟨v,hv0,hcell⟩:=row_cell HB2.out hk
    refine gk 10 (.pointer (some ⟨X1.heap.size,k,none⟩)) ?_ ?_
    ·intro w2;go_simp;intro h8;omega
    refine gO 11 (fun K hK=>?_)
    go_simp
    refine hK.out _ _ (trivial) ?_
    clear hK K
    try simp only [sG]
    refine gj 12 (.agg #[.int .i64 1,.int .i64 0,.int .i64 v,.string ⟨#[]⟩,.slice none 0 0]) ?_
    refine gL (fun K hK=>?_)
    obtain ⟨ub0,ub1,ub2,ub3,ub4⟩:=HN2.out.box.c5;obtain ⟨ur0,ur1,ur2,ur3,ur4⟩:=HN2.out.res.c5;obtain ⟨uz0,uz1,uz2,uz3,uz4⟩:=HN2.out.res.z5;have ult:w.heap.size+1<X2.heap.size:=HN2.out.lt
    go_simp
    refine hK.out _ _ ?_
    clear hK K
    try simp only [sG]
    go_wp2
    have hend:=expr_end HN2.out ⟨1,0,v,⟨#[]⟩,[]⟩ (.slice none 0 0) (made_num (c:=c) hm hv0) (SlR.nil_ _ _ _ _)
    refine bodyPost_ret (v:=.agg #[.int .i64 (⟨1,0,v,⟨#[]⟩,[]⟩:LExpr).kind,.int .i64 (⟨1,0,v,⟨#[]⟩,[]⟩:LExpr).op,.int .i64 (⟨1,0,v,⟨#[]⟩,[]⟩:LExpr).n,.string (⟨1,0,v,⟨#[]⟩,[]⟩:LExpr).name,.slice none 0 0]) (results_cell_row (p:=6) (ty:=42) (by kernel_rfl) _ _ (w.heap.size+1) 42 _ (0,0) _ rfl hend.1 Tryz.underlying42 rfl (by kernel_rfl)) rfl hend.2
  case inr.inl=>
   go_upto_region 14 with (go_at_call 21;refine (next_any _ sb 1000 (by omega) HS2.out.src).mono ?_;rintro e wn ⟨⟨kn,hkn,rfl⟩,hs1,hg1⟩;have HN:=Ω (HS2.out.step hg1 hs1);clear hs1 hg1;obtain ⟨nb0,nb1,nb2,nb3,nb4⟩:=HN.out.box.c5;obtain ⟨nr0,nr1,nr2,nr3,nr4⟩:=HN.out.res.c5;obtain ⟨nz0,nz1,nz2,nz3,nz4⟩:=HN.out.res.z5;have nlt:w.heap.size+1<wn.heap.size:=HN.out.lt)
   obtain ⟨q,hq⟩:∃q,q=kn*kn:=⟨_,rfl⟩
   have hq2:q<1000000:=by rw [hq];exact Nat.lt_of_le_of_lt (Nat.mul_le_mul (show kn≤999 by omega) (show kn≤999 by omega)) (by decide)
   obtain ⟨z,hz⟩:∃z,z=2 ^ (kn%63):=⟨_,rfl⟩
   have hz2:z<9223372036854775808:=by rw [hz];exact Nat.lt_of_le_of_lt (Nat.pow_le_pow_right (by decide) (show kn%63≤62 by omega)) (by decide)
   have HQ:=Ω hq;have HZ:=Ω hz;clear hq hz
   have HN0:Hid (StE fr w sb wn.drew nv na nf Av Aa Af cv ca cf loop):=Ω (HN.out.below (Below.refl _ _).drew)
   refine wp_region_G 13 (fun _=>True) (trivial) ?_
   change GL _ _ _ _ _ 13 14 (Array.replicate 14 false) _ _
   obtain ⟨X0,hX0⟩:∃X0,wn.drew=X0:=⟨_,rfl⟩
   rw [hX0] at HN0 ⊢
   clear hX0
   refine gj 0 (.int .i64 (kn:Int)) ?_
   refine gj 1 (.int .i64 (kn:Int)) ?_
   refine gj 2 (.int .i64 (kn:Int)) ?_
   refine gk 3 (.int .i64 (q:Int)) ?_ ?_
   ·intro w2;go_simp;rw [show (kn:Int)*kn=(q:Int) by rw [HQ.out,Int.natCast_mul]];rw [IntKind.wrap_i64];omega
   refine gj 4 (.int .i64 (kn:Int)) ?_
   refine gk 5 (.int .i64 ((kn%63:Nat):Int)) ?_ ?_
   ·intro w2;go_simp;exact Int.tmod_eq_emod_of_nonneg (by omega)
   refine gk 6 (.int .i64 (z:Int)) ?_ ?_
   ·intro w2;go_simp;rw [show ((kn:Int)%63).toNat=kn%63 by omega,show (2:Int) ^ (kn%63)=(z:Int) by rw [HZ.out];exact (Int.natCast_pow 2 _).symm];rw [IntKind.wrap_i64];omega
   refine gj 8 (.pointer (some ⟨sb,0,none⟩)) ?_
   refine gR (rs:=[7,9]) ?_
   refine gC (fun K hK=>?_) (gC (fun K hK=>?_) AllReadyL.nil)
   ·go_simp
    obtain ⟨X1,hXX⟩:∃X,X0.alloc (.cells #[.int .i64 0,.int .i64 1,.int .i64 2,.int .i64 3,.int .i64 (kn:Int),.int .i64 (q:Int),.int .i64 (z:Int),.int .i64 9223372036854775807] 3)=X:=⟨_,rfl⟩
    rw [hXX]
    have HN1:Hid (StE fr w sb X1 nv na nf Av Aa Af cv ca cf loop):=Ω (by rw [←hXX];exact HN0.out.below (below1 _ _))
    have HB1:Hid (Blk X1 X0.heap.size 3 #[.int .i64 0,.int .i64 1,.int .i64 2,.int .i64 3,.int .i64 (kn:Int),.int .i64 (q:Int),.int .i64 (z:Int),.int .i64 9223372036854775807]):=Ω (by rw [←hXX];exact Blk.new_at _ _ _ rfl)
    have hgl1:X0.heap.size<X1.heap.size:=by rw [←hXX];simp
    have HGL:=Ω hgl1
    clear hgl1
    clear hXX
    refine hK.out _ _ (trivial) ?_
    clear hK K
    try simp only [sG]
    refine gO 9 (fun K hK=>?_)
    go_simp
    refine (next_any _ sb 8 (by omega) HN1.out.src).mono ?_
    rintro e X2 ⟨⟨k,hk,rfl⟩,hs,hg⟩
    have HN2:=Ω (HN1.out.step hg hs)
    have HB2:=Ω (HB1.out.grown hg (fun e=>by have:=sj e;have:=HSB.out;have:=HN0.out.lt;omega))
    have hgl:X0.heap.size<X2.heap.size:=ltle HGL.out hg.size
    clear hs hg
    refine hK.out _ _ (trivial) ?_
    clear hK K
    try simp only [sG]
    obtain ⟨v,hv0,hcell⟩:=row_cell HB2.out hk
    refine gk 10 (.pointer (some ⟨X0.heap.size,k,none⟩)) ?_ ?_
    ·intro w2;go_simp;intro h8;omega
    refine gO 11 (fun K hK=>?_)
    go_simp
    refine hK.out _ _ (trivial) ?_
    clear hK K
    try simp only [sG]
    refine gj 12 (.agg #[.int .i64 1,.int .i64 0,.int .i64 v,.string ⟨#[]⟩,.slice none 0 0]) ?_
    refine gL (fun K hK=>?_)
    obtain ⟨ub0,ub1,ub2,ub3,ub4⟩:=HN2.out.box.c5;obtain ⟨ur0,ur1,ur2,ur3,ur4⟩:=HN2.out.res.c5;obtain ⟨uz0,uz1,uz2,uz3,uz4⟩:=HN2.out.res.z5;have ult:w.heap.size+1<X2.heap.size:=HN2.out.lt
    go_simp
    refine hK.out _ _ ?_
    clear hK K
    try simp only [sG]
    go_wp2
    have hend:=expr_end HN2.out ⟨1,0,v,⟨#[]⟩,[]⟩ (.slice none 0 0) (made_num (c:=c) hm hv0) (SlR.nil_ _ _ _ _)
    refine bodyPost_ret (v:=.agg #[.int .i64 (⟨1,0,v,⟨#[]⟩,[]⟩:LExpr).kind,.int .i64 (⟨1,0,v,⟨#[]⟩,[]⟩:LExpr).op,.int .i64 (⟨1,0,v,⟨#[]⟩,[]⟩:LExpr).n,.string (⟨1,0,v,⟨#[]⟩,[]⟩:LExpr).name,.slice none 0 0]) (results_cell_row (p:=6) (ty:=42) (by kernel_rfl) _ _ (w.heap.size+1) 42 _ (0,0) _ rfl hend.1 Tryz.underlying42 rfl (by kernel_rfl)) rfl hend.2
   ·go_simp
    refine (next_any _ sb 8 (by omega) HN0.out.src).mono ?_
    rintro e X1 ⟨⟨k,hk,rfl⟩,hs,hg⟩
    have HN1:=Ω (HN0.out.step hg hs)
    clear hs hg
    refine hK.out _ _ (trivial) ?_
    clear hK K
    try simp only [sG]
    refine gO 7 (fun K hK=>?_)
    go_simp
    obtain ⟨X2,hXX⟩:∃X,X1.alloc (.cells #[.int .i64 0,.int .i64 1,.int .i64 2,.int .i64 3,.int .i64 (kn:Int),.int .i64 (q:Int),.int .i64 (z:Int),.int .i64 9223372036854775807] 3)=X:=⟨_,rfl⟩
    rw [hXX]
    have HN2:Hid (StE fr w sb X2 nv na nf Av Aa Af cv ca cf loop):=Ω (by rw [←hXX];exact HN1.out.below (below1 _ _))
    have HB2:Hid (Blk X2 X1.heap.size 3 #[.int .i64 0,.int .i64 1,.int .i64 2,.int .i64 3,.int .i64 (kn:Int),.int .i64 (q:Int),.int .i64 (z:Int),.int .i64 9223372036854775807]):=Ω (by rw [←hXX];exact Blk.new_at _ _ _ rfl)
    have hgl:X1.heap.size<X2.heap.size:=by rw [←hXX];simp
    clear hXX
    refine hK.out _ _ (trivial) ?_
    clear hK K
    try simp only [sG]
    obtain ⟨v,hv0,hcell⟩:=row_cell HB2.out hk
    refine gk 10 (.pointer (some ⟨X1.heap.size,k,none⟩)) ?_ ?_
    ·intro w2;go_simp;intro h8;omega
    refine gO 11 (fun K hK=>?_)
    go_simp
    refine hK.out _ _ (trivial) ?_
    clear hK K
    try simp only [sG]
    refine gj 12 (.agg #[.int .i64 1,.int .i64 0,.int .i64 v,.string ⟨#[]⟩,.slice none 0 0]) ?_
    refine gL (fun K hK=>?_)
    obtain ⟨ub0,ub1,ub2,ub3,ub4⟩:=HN2.out.box.c5;obtain ⟨ur0,ur1,ur2,ur3,ur4⟩:=HN2.out.res.c5;obtain ⟨uz0,uz1,uz2,uz3,uz4⟩:=HN2.out.res.z5;have ult:w.heap.size+1<X2.heap.size:=HN2.out.lt
    go_simp
    refine hK.out _ _ ?_
    clear hK K
    try simp only [sG]
    go_wp2
    have hend:=expr_end HN2.out ⟨1,0,v,⟨#[]⟩,[]⟩ (.slice none 0 0) (made_num (c:=c) hm hv0) (SlR.nil_ _ _ _ _)
    refine bodyPost_ret (v:=.agg #[.int .i64 (⟨1,0,v,⟨#[]⟩,[]⟩:LExpr).kind,.int .i64 (⟨1,0,v,⟨#[]⟩,[]⟩:LExpr).op,.int .i64 (⟨1,0,v,⟨#[]⟩,[]⟩:LExpr).n,.string (⟨1,0,v,⟨#[]⟩,[]⟩:LExpr).name,.slice none 0 0]) (results_cell_row (p:=6) (ty:=42) (by kernel_rfl) _ _ (w.heap.size+1) 42 _ (0,0) _ rfl hend.1 Tryz.underlying42 rfl (by kernel_rfl)) rfl hend.2
  case inr.inr=>
   go_wp2
   have hend:=expr_end HS2.out (⟨7,0,0,⟨#[]⟩,[]⟩) (.slice none 0 0) (made_read (c:=c) hm) (SlR.nil_ _ _ _ _)
   refine bodyPost_ret (v:=.agg #[.int .i64 (⟨7,0,0,⟨#[]⟩,[]⟩:LExpr).kind,.int .i64 (⟨7,0,0,⟨#[]⟩,[]⟩:LExpr).op,.int .i64 (⟨7,0,0,⟨#[]⟩,[]⟩:LExpr).n,.string (⟨7,0,0,⟨#[]⟩,[]⟩:LExpr).name,.slice none 0 0]) (results_cell_row (p:=6) (ty:=42) (by kernel_rfl) _ _ (w.heap.size+1) 42 _ (0,0) _ rfl hend.1 Tryz.underlying42 rfl (by kernel_rfl)) rfl hend.2
 case inr.inr.inr.inr.inl=>
  have HXX:=Ω (HX.out (by omega))
  go_upto_region 17 with (go_at_call 21;refine (next_any _ sb 3 (by omega) HS1.out.src).mono ?_;rintro e w2 ⟨⟨r,hr,rfl⟩,hs1,hg1⟩;have HS2:=Ω (HS1.out.step hg1 hs1);clear hs1 hg1;obtain ⟨ob0,ob1,ob2,ob3,ob4⟩:=HS2.out.box.c5;obtain ⟨or0,or1,or2,or3,or4⟩:=HS2.out.res.c5;obtain ⟨oz0,oz1,oz2,oz3,oz4⟩:=HS2.out.res.z5;have olt:w.heap.size+1<w2.heap.size:=HS2.out.lt)
  have HRR:=Ω hr
  clear ab0 ab1 ab2 ab3 ab4 ar0 ar1 ar2 ar3 ar4 az0 az1 az2 az3 az4 alt
  go_wp2_with (go_at_call 24;refine (HXX.out _ HS2.out.g HS2.out.src).mono ?_;intro e w3 hp;obtain ⟨x,Ax,cx,rfl,hmx,hrx,hsx,hgx⟩:=hp.open HS2.out;have HMx:=Ω hmx;have HRx:=Ω hrx;have HS3:=Ω hsx;clear hp hmx hrx hsx hgx;obtain ⟨pb0,pb1,pb2,pb3,pb4⟩:=HS3.out.box.c5;obtain ⟨pr0,pr1,pr2,pr3,pr4⟩:=HS3.out.res.c5;obtain ⟨pz0,pz1,pz2,pz3,pz4⟩:=HS3.out.res.z5;have plt:w.heap.size+1<w3.heap.size:=HS3.out.lt)
  have hrow:=rowE_one (w:=w) hm (Blk.new w3 42 #[.int .i64 x.kind,.int .i64 x.op,.int .i64 x.n,.string x.name,.slice Ax x.args.length cx]) (HRx.out.below (below1 _ _)) plt (by simp)
  have hend:=expr_end_alloc HS3.out (.cells #[.int .i64 x.kind,.int .i64 x.op,.int .i64 x.n,.string x.name,.slice Ax x.args.length cx] 42) (⟨3,17+(r:Int),0,⟨#[]⟩,[x]⟩) (.slice (some ⟨w3.heap.size,0,none⟩) 1 1) (made_one (by omega) HRR.out HMx.out) hrow
  refine bodyPost_ret (v:=.agg #[.int .i64 (⟨3,17+(r:Int),0,⟨#[]⟩,[x]⟩:LExpr).kind,.int .i64 (⟨3,17+(r:Int),0,⟨#[]⟩,[x]⟩:LExpr).op,.int .i64 (⟨3,17+(r:Int),0,⟨#[]⟩,[x]⟩:LExpr).n,.string (⟨3,17+(r:Int),0,⟨#[]⟩,[x]⟩:LExpr).name,.slice (some ⟨w3.heap.size,0,none⟩) 1 1]) (results_cell_row (p:=6) (ty:=42) (by kernel_rfl) _ _ (w.heap.size+1) 42 _ (0,0) _ rfl hend.1 Tryz.underlying42 rfl (by kernel_rfl)) rfl hend.2
 case inr.inr.inr.inr.inr.inl=>
  cases ba with
  |true=>
   have HXX:=Ω (HX.out (by omega))
   have HAM:=Ω HARR.out
   go_upto_region 20 with (go_at_call 25;refine (HAM.out _ HS1.out.g HS1.out.src).mono ?_;rintro e w2 ⟨⟨s,sz,hsm,rfl⟩,hs2,hg2⟩;have HS2:=Ω (HS1.out.step hg2 hs2);have HM:=Ω hsm;clear hs2 hg2 hsm;have hfld:=field_arr s sz;obtain ⟨vb0,vb1,vb2,vb3,vb4⟩:=HS2.out.box.c5;obtain ⟨vr0,vr1,vr2,vr3,vr4⟩:=HS2.out.res.c5;obtain ⟨vz0,vz1,vz2,vz3,vz4⟩:=HS2.out.res.z5;have vlt:w.heap.size+1<w2.heap.size:=HS2.out.lt)
   clear ab0 ab1 ab2 ab3 ab4 ar0 ar1 ar2 ar3 ar4 az0 az1 az2 az3 az4 alt
   go_wp2_with (go_at_call 24;refine (HXX.out _ HS2.out.g HS2.out.src).mono ?_;intro e w3 hp;obtain ⟨x,Ax,cx,rfl,hmx,hrx,hsx,hgx⟩:=hp.open HS2.out;have HMx:=Ω hmx;have HRx:=Ω hrx;have HS3:=Ω hsx;clear hp hmx hrx hsx hgx;obtain ⟨pb0,pb1,pb2,pb3,pb4⟩:=HS3.out.box.c5;obtain ⟨pr0,pr1,pr2,pr3,pr4⟩:=HS3.out.res.c5;obtain ⟨pz0,pz1,pz2,pz3,pz4⟩:=HS3.out.res.z5;have plt:w.heap.size+1<w3.heap.size:=HS3.out.lt)
   have hrow:=rowE_one (w:=w) hm (Blk.new w3 42 #[.int .i64 x.kind,.int .i64 x.op,.int .i64 x.n,.string x.name,.slice Ax x.args.length cx]) (HRx.out.below (below1 _ _)) plt (by simp)
   have hend:=expr_end_alloc HS3.out (.cells #[.int .i64 x.kind,.int .i64 x.op,.int .i64 x.n,.string x.name,.slice Ax x.args.length cx] 42) (⟨6,0,0,s,[x]⟩) (.slice (some ⟨w3.heap.size,0,none⟩) 1 1) (made_index (by omega) HOK.out HM.out HMx.out) hrow
   refine bodyPost_ret (v:=.agg #[.int .i64 (⟨6,0,0,s,[x]⟩:LExpr).kind,.int .i64 (⟨6,0,0,s,[x]⟩:LExpr).op,.int .i64 (⟨6,0,0,s,[x]⟩:LExpr).n,.string (⟨6,0,0,s,[x]⟩:LExpr).name,.slice (some ⟨w3.heap.size,0,none⟩) 1 1]) (results_cell_row (p:=6) (ty:=42) (by kernel_rfl) _ _ (w.heap.size+1) 42 _ (0,0) _ rfl hend.1 Tryz.underlying42 rfl (by kernel_rfl)) rfl hend.2
  |false=>
   have HXX:=Ω (HX.out (by omega))
   go_upto_region 24 with (go_at_call 21;refine (next_any _ sb 16 (by omega) HS1.out.src).mono ?_;rintro e w2 ⟨⟨r,hr,rfl⟩,hs1,hg1⟩;have HS2:=Ω (HS1.out.step hg1 hs1);clear hs1 hg1;obtain ⟨ob0,ob1,ob2,ob3,ob4⟩:=HS2.out.box.c5;obtain ⟨or0,or1,or2,or3,or4⟩:=HS2.out.res.c5;obtain ⟨oz0,oz1,oz2,oz3,oz4⟩:=HS2.out.res.z5;have olt:w.heap.size+1<w2.heap.size:=HS2.out.lt)
   have HRR:=Ω hr
   clear ab0 ab1 ab2 ab3 ab4 ar0 ar1 ar2 ar3 ar4 az0 az1 az2 az3 az4 alt
   go_upto_region 25 with (go_at_call 24;refine (HXX.out _ HS2.out.g HS2.out.src).mono ?_;intro e w3 hp;obtain ⟨x,Ax,cx,rfl,hmx,hrx,hsx,hgx⟩:=hp.open HS2.out;have HMx:=Ω hmx;have HRx:=Ω hrx;have HS3:=Ω hsx;clear hp hmx hrx hsx hgx;obtain ⟨pb0,pb1,pb2,pb3,pb4⟩:=HS3.out.box.c5;obtain ⟨pr0,pr1,pr2,pr3,pr4⟩:=HS3.out.res.c5;obtain ⟨pz0,pz1,pz2,pz3,pz4⟩:=HS3.out.res.z5;have plt:w.heap.size+1<w3.heap.size:=HS3.out.lt)
   refine wp_world ?_
   intro W1 hW1
   have h4:StE fr w sb W1 nv na nf Av Aa Af cv ca cf loop:=by rw [←hW1];exact HS3.out.below (below1 _ _)
   have h4r:RowE w W1 (m-1) (.slice Ax x.args.length cx) x.args:=by rw [←hW1];exact HRx.out.below (below1 _ _)
   have h4b:Blk W1 w3.heap.size 42 #[.int .i64 x.kind,.int .i64 x.op,.int .i64 x.n,.string x.name,.slice Ax x.args.length cx]:=by rw [←hW1];exact Blk.new_at _ _ _ rfl
   have h4l:w3.heap.size<W1.heap.size:=by rw [←hW1];simp
   clear hW1 HS3 HS2
   clear ob0 ob1 ob2 ob3 ob4 or0 or1 or2 or3 or4 oz0 oz1 oz2 oz3 oz4 olt
   clear pb0 pb1 pb2 pb3 pb4 pr0 pr1 pr2 pr3 pr4 pz0 pz1 pz2 pz3 pz4
   have HS4:=Ω h4;have HR4:=Ω h4r;have HB4:=Ω h4b;clear h4 h4r h4b
   obtain ⟨qb0,qb1,qb2,qb3,qb4⟩:=HS4.out.box.c5;obtain ⟨qr0,qr1,qr2,qr3,qr4⟩:=HS4.out.res.c5;obtain ⟨qz0,qz1,qz2,qz3,qz4⟩:=HS4.out.res.z5;have qlt:w.heap.size+1<W1.heap.size:=HS4.out.lt
   go_upto_region 26 with (go_at_call 24;refine (HXX.out _ HS4.out.g HS4.out.src).mono ?_;intro e w5 hp;obtain ⟨y,Ay,cy,rfl,hmy,hry,hsy,hgy⟩:=hp.open HS4.out;have HMy:=Ω hmy;have HRy:=Ω hry;have HS5:=Ω hsy;have HB5:=Ω (HB4.out.grown hgy (fun e=>by have:=sj e;have:=HSB.out;omega));have HR5:=Ω (HR4.out.grown hgy HSB.out);have hsz5:=hgy.size;clear hp hmy hry hsy hgy;obtain ⟨sb0,sb1,sb2,sb3,sb4⟩:=HS5.out.box.c5;obtain ⟨sr0,sr1,sr2,sr3,sr4⟩:=HS5.out.res.c5;obtain ⟨sz0,sz1,sz2,sz3,sz4⟩:=HS5.out.res.z5;have slt:w.heap.size+1<w5.heap.size:=HS5.out.lt)
   refine wp_world ?_
   intro W2 hW2
   have h6:StE fr w sb W2 nv na nf Av Aa Af cv ca cf loop:=by rw [←hW2];exact HS5.out.below (below1 _ _)
   have h6r:RowE w W2 (m-1) (.slice Ax x.args.length cx) x.args:=by rw [←hW2];exact HR5.out.below (below1 _ _)
   have h6s:RowE w W2 (m-1) (.slice Ay y.args.length cy) y.args:=by rw [←hW2];exact HRy.out.below (below1 _ _)
   have h6b:Blk W2 w3.heap.size 42 #[.int .i64 x.kind,.int .i64 x.op,.int .i64 x.n,.string x.name,.slice Ax x.args.length cx]:=by rw [←hW2];exact HB5.out.alloc _
   have h6c:Blk W2 w5.heap.size 42 #[.int .i64 y.kind,.int .i64 y.op,.int .i64 y.n,.string y.name,.slice Ay y.args.length cy]:=by rw [←hW2];exact Blk.new_at _ _ _ rfl
   have h6l:w5.heap.size<W2.heap.size:=by rw [←hW2];simp
   clear hW2 HS5 HB5 HR5 HRy HS4 HB4 HR4
   clear qb0 qb1 qb2 qb3 qb4 qr0 qr1 qr2 qr3 qr4 qz0 qz1 qz2 qz3 qz4 qlt
   clear sb0 sb1 sb2 sb3 sb4 sr0 sr1 sr2 sr3 sr4 sz0 sz1 sz2 sz3 sz4
   have HS6:=Ω h6;have HRx6:=Ω h6r;have HRy6:=Ω h6s;clear h6 h6r h6s
   obtain ⟨xa0,xa1,xa2,xa3,xa4⟩:=h6b.c5
   obtain ⟨ya0,ya1,ya2,ya3,ya4⟩:=h6c.c5
   clear h6b h6c
   obtain ⟨tb0,tb1,tb2,tb3,tb4⟩:=HS6.out.box.c5;obtain ⟨tr0,tr1,tr2,tr3,tr4⟩:=HS6.out.res.c5;obtain ⟨tz0,tz1,tz2,tz3,tz4⟩:=HS6.out.res.z5;have tlt:w.heap.size+1<W2.heap.size:=HS6.out.lt
   go_wp2
   have hrow:=rowE_two (w:=w) hm (Blk.new W2 42 #[.int .i64 x.kind,.int .i64 x.op,.int .i64 x.n,.string x.name,.slice Ax x.args.length cx,.int .i64 y.kind,.int .i64 y.op,.int .i64 y.n,.string y.name,.slice Ay y.args.length cy]) (HRx6.out.below (below1 _ _)) (HRy6.out.below (below1 _ _)) tlt (by simp)
   have hend:=expr_end_alloc HS6.out (.cells #[.int .i64 x.kind,.int .i64 x.op,.int .i64 x.n,.string x.name,.slice Ax x.args.length cx,.int .i64 y.kind,.int .i64 y.op,.int .i64 y.n,.string y.name,.slice Ay y.args.length cy] 42) (⟨4,1+(r:Int),0,⟨#[]⟩,[x,y]⟩) (.slice (some ⟨W2.heap.size,0,none⟩) 2 2) (made_two (by omega) HRR.out HMx.out HMy.out) hrow
   refine bodyPost_ret (v:=.agg #[.int .i64 (⟨4,1+(r:Int),0,⟨#[]⟩,[x,y]⟩:LExpr).kind,.int .i64 (⟨4,1+(r:Int),0,⟨#[]⟩,[x,y]⟩:LExpr).op,.int .i64 (⟨4,1+(r:Int),0,⟨#[]⟩,[x,y]⟩:LExpr).n,.string (⟨4,1+(r:Int),0,⟨#[]⟩,[x,y]⟩:LExpr).name,.slice (some ⟨W2.heap.size,0,none⟩) 2 2]) (results_cell_row (p:=6) (ty:=42) (by kernel_rfl) _ _ (w.heap.size+1) 42 _ (0,0) _ rfl hend.1 Tryz.underlying42 rfl (by kernel_rfl)) rfl hend.2
 case inr.inr.inr.inr.inr.inr.inl=>
  cases bf with
  |true=>
   have HXX:=Ω (HCL.out (by omega))
   go_wp2_with (go_at_call 41;refine (HXX.out _ HS1.out.g HS1.out.src).mono ?_;intro e w3 hp;obtain ⟨x,Ax,cx,rfl,hmx,hrx,hsx,hgx⟩:=hp.open HS1.out;have HMx:=Ω hmx;have HRx:=Ω hrx;have HS3:=Ω hsx;clear hp hmx hrx hsx hgx;obtain ⟨pb0,pb1,pb2,pb3,pb4⟩:=HS3.out.box.c5;obtain ⟨pr0,pr1,pr2,pr3,pr4⟩:=HS3.out.res.c5;obtain ⟨pz0,pz1,pz2,pz3,pz4⟩:=HS3.out.res.z5;have plt:w.heap.size+1<w3.heap.size:=HS3.out.lt)
   have hend:=expr_end HS3.out x (.slice Ax x.args.length cx) HMx.out HRx.out
   refine bodyPost_ret (v:=.agg #[.int .i64 (x:LExpr).kind,.int .i64 (x:LExpr).op,.int .i64 (x:LExpr).n,.string (x:LExpr).name,.slice Ax x.args.length cx]) (results_cell_row (p:=6) (ty:=42) (by kernel_rfl) _ _ (w.heap.size+1) 42 _ (0,0) _ rfl hend.1 Tryz.underlying42 rfl (by kernel_rfl)) rfl hend.2
  |false=>
   have HXX:=Ω (HX.out (by omega))
   go_upto_region 24 with (go_at_call 21;refine (next_any _ sb 16 (by omega) HS1.out.src).mono ?_;rintro e w2 ⟨⟨r,hr,rfl⟩,hs1,hg1⟩;have HS2:=Ω (HS1.out.step hg1 hs1);clear hs1 hg1;obtain ⟨ob0,ob1,ob2,ob3,ob4⟩:=HS2.out.box.c5;obtain ⟨or0,or1,or2,or3,or4⟩:=HS2.out.res.c5;obtain ⟨oz0,oz1,oz2,oz3,oz4⟩:=HS2.out.res.z5;have olt:w.heap.size+1<w2.heap.size:=HS2.out.lt)
   have HRR:=Ω hr
   clear ab0 ab1 ab2 ab3 ab4 ar0 ar1 ar2 ar3 ar4 az0 az1 az2 az3 az4 alt
   go_upto_region 25 with (go_at_call 24;refine (HXX.out _ HS2.out.g HS2.out.src).mono ?_;intro e w3 hp;obtain ⟨x,Ax,cx,rfl,hmx,hrx,hsx,hgx⟩:=hp.open HS2.out;have HMx:=Ω hmx;have HRx:=Ω hrx;have HS3:=Ω hsx;clear hp hmx hrx hsx hgx;obtain ⟨pb0,pb1,pb2,pb3,pb4⟩:=HS3.out.box.c5;obtain ⟨pr0,pr1,pr2,pr3,pr4⟩:=HS3.out.res.c5;obtain ⟨pz0,pz1,pz2,pz3,pz4⟩:=HS3.out.res.z5;have plt:w.heap.size+1<w3.heap.size:=HS3.out.lt)
   refine wp_world ?_
   intro W1 hW1
   have h4:StE fr w sb W1 nv na nf Av Aa Af cv ca cf loop:=by rw [←hW1];exact HS3.out.below (below1 _ _)
   have h4r:RowE w W1 (m-1) (.slice Ax x.args.length cx) x.args:=by rw [←hW1];exact HRx.out.below (below1 _ _)
   have h4b:Blk W1 w3.heap.size 42 #[.int .i64 x.kind,.int .i64 x.op,.int .i64 x.n,.string x.name,.slice Ax x.args.length cx]:=by rw [←hW1];exact Blk.new_at _ _ _ rfl
   have h4l:w3.heap.size<W1.heap.size:=by rw [←hW1];simp
   clear hW1 HS3 HS2
   clear ob0 ob1 ob2 ob3 ob4 or0 or1 or2 or3 or4 oz0 oz1 oz2 oz3 oz4 olt
   clear pb0 pb1 pb2 pb3 pb4 pr0 pr1 pr2 pr3 pr4 pz0 pz1 pz2 pz3 pz4
   have HS4:=Ω h4;have HR4:=Ω h4r;have HB4:=Ω h4b;clear h4 h4r h4b
   obtain ⟨qb0,qb1,qb2,qb3,qb4⟩:=HS4.out.box.c5;obtain ⟨qr0,qr1,qr2,qr3,qr4⟩:=HS4.out.res.c5;obtain ⟨qz0,qz1,qz2,qz3,qz4⟩:=HS4.out.res.z5;have qlt:w.heap.size+1<W1.heap.size:=HS4.out.lt
   go_upto_region 26 with (go_at_call 24;refine (HXX.out _ HS4.out.g HS4.out.src).mono ?_;intro e w5 hp;obtain ⟨y,Ay,cy,rfl,hmy,hry,hsy,hgy⟩:=hp.open HS4.out;have HMy:=Ω hmy;have HRy:=Ω hry;have HS5:=Ω hsy;have HB5:=Ω (HB4.out.grown hgy (fun e=>by have:=sj e;have:=HSB.out;omega));have HR5:=Ω (HR4.out.grown hgy HSB.out);have hsz5:=hgy.size;clear hp hmy hry hsy hgy;obtain ⟨sb0,sb1,sb2,sb3,sb4⟩:=HS5.out.box.c5;obtain ⟨sr0,sr1,sr2,sr3,sr4⟩:=HS5.out.res.c5;obtain ⟨sz0,sz1,sz2,sz3,sz4⟩:=HS5.out.res.z5;have slt:w.heap.size+1<w5.heap.size:=HS5.out.lt)
   refine wp_world ?_
   intro W2 hW2
   have h6:StE fr w sb W2 nv na nf Av Aa Af cv ca cf loop:=by rw [←hW2];exact HS5.out.below (below1 _ _)
   have h6r:RowE w W2 (m-1) (.slice Ax x.args.length cx) x.args:=by rw [←hW2];exact HR5.out.below (below1 _ _)
   have h6s:RowE w W2 (m-1) (.slice Ay y.args.length cy) y.args:=by rw [←hW2];exact HRy.out.below (below1 _ _)
   have h6b:Blk W2 w3.heap.size 42 #[.int .i64 x.kind,.int .i64 x.op,.int .i64 x.n,.string x.name,.slice Ax x.args.length cx]:=by rw [←hW2];exact HB5.out.alloc _
   have h6c:Blk W2 w5.heap.size 42 #[.int .i64 y.kind,.int .i64 y.op,.int .i64 y.n,.string y.name,.slice Ay y.args.length cy]:=by rw [←hW2];exact Blk.new_at _ _ _ rfl
   have h6l:w5.heap.size<W2.heap.size:=by rw [←hW2];simp
   clear hW2 HS5 HB5 HR5 HRy HS4 HB4 HR4
   clear qb0 qb1 qb2 qb3 qb4 qr0 qr1 qr2 qr3 qr4 qz0 qz1 qz2 qz3 qz4 qlt
   clear sb0 sb1 sb2 sb3 sb4 sr0 sr1 sr2 sr3 sr4 sz0 sz1 sz2 sz3 sz4
   have HS6:=Ω h6;have HRx6:=Ω h6r;have HRy6:=Ω h6s;clear h6 h6r h6s
   obtain ⟨xa0,xa1,xa2,xa3,xa4⟩:=h6b.c5
   obtain ⟨ya0,ya1,ya2,ya3,ya4⟩:=h6c.c5
   clear h6b h6c
   obtain ⟨tb0,tb1,tb2,tb3,tb4⟩:=HS6.out.box.c5;obtain ⟨tr0,tr1,tr2,tr3,tr4⟩:=HS6.out.res.c5;obtain ⟨tz0,tz1,tz2,tz3,tz4⟩:=HS6.out.res.z5;have tlt:w.heap.size+1<W2.heap.size:=HS6.out.lt
   go_wp2
   have hrow:=rowE_two (w:=w) hm (Blk.new W2 42 #[.int .i64 x.kind,.int .i64 x.op,.int .i64 x.n,.string x.name,.slice Ax x.args.length cx,.int .i64 y.kind,.int .i64 y.op,.int .i64 y.n,.string y.name,.slice Ay y.args.length cy]) (HRx6.out.below (below1 _ _)) (HRy6.out.below (below1 _ _)) tlt (by simp)
   have hend:=expr_end_alloc HS6.out (.cells #[.int .i64 x.kind,.int .i64 x.op,.int .i64 x.n,.string x.name,.slice Ax x.args.length cx,.int .i64 y.kind,.int .i64 y.op,.int .i64 y.n,.string y.name,.slice Ay y.args.length cy] 42) (⟨4,1+(r:Int),0,⟨#[]⟩,[x,y]⟩) (.slice (some ⟨W2.heap.size,0,none⟩) 2 2) (made_two (by omega) HRR.out HMx.out HMy.out) hrow
   refine bodyPost_ret (v:=.agg #[.int .i64 (⟨4,1+(r:Int),0,⟨#[]⟩,[x,y]⟩:LExpr).kind,.int .i64 (⟨4,1+(r:Int),0,⟨#[]⟩,[x,y]⟩:LExpr).op,.int .i64 (⟨4,1+(r:Int),0,⟨#[]⟩,[x,y]⟩:LExpr).n,.string (⟨4,1+(r:Int),0,⟨#[]⟩,[x,y]⟩:LExpr).name,.slice (some ⟨W2.heap.size,0,none⟩) 2 2]) (results_cell_row (p:=6) (ty:=42) (by kernel_rfl) _ _ (w.heap.size+1) 42 _ (0,0) _ rfl hend.1 Tryz.underlying42 rfl (by kernel_rfl)) rfl hend.2
 case inr.inr.inr.inr.inr.inr.inr=>
  have e1:(j == 1)=false:=beq_eq_false_iff_ne.2 (by omega)
  have e2:(j == 2)=false:=beq_eq_false_iff_ne.2 (by omega)
  have e3:(j == 3)=false:=beq_eq_false_iff_ne.2 (by omega)
  have e4:(j == 4)=false:=beq_eq_false_iff_ne.2 (by omega)
  have e5:(j == 5)=false:=beq_eq_false_iff_ne.2 (by omega)
  have e6:(j == 6)=false:=beq_eq_false_iff_ne.2 (by omega)
  have d1:decide (j<4)=false:=dF (by omega)
  have HXX:=Ω (HX.out (by omega))
  go_upto_region 24 with (go_at_call 21;refine (next_any _ sb 16 (by omega) HS1.out.src).mono ?_;rintro e w2 ⟨⟨r,hr,rfl⟩,hs1,hg1⟩;have HS2:=Ω (HS1.out.step hg1 hs1);clear hs1 hg1;obtain ⟨ob0,ob1,ob2,ob3,ob4⟩:=HS2.out.box.c5;obtain ⟨or0,or1,or2,or3,or4⟩:=HS2.out.res.c5;obtain ⟨oz0,oz1,oz2,oz3,oz4⟩:=HS2.out.res.z5;have olt:w.heap.size+1<w2.heap.size:=HS2.out.lt)
  have HRR:=Ω hr
  clear ab0 ab1 ab2 ab3 ab4 ar0 ar1 ar2 ar3 ar4 az0 az1 az2 az3 az4 alt
  go_upto_region 25 with (go_at_call 24;refine (HXX.out _ HS2.out.g HS2.out.src).mono ?_;intro e w3 hp;obtain ⟨x,Ax,cx,rfl,hmx,hrx,hsx,hgx⟩:=hp.open HS2.out;have HMx:=Ω hmx;have HRx:=Ω hrx;have HS3:=Ω hsx;clear hp hmx hrx hsx hgx;obtain ⟨pb0,pb1,pb2,pb3,pb4⟩:=HS3.out.box.c5;obtain ⟨pr0,pr1,pr2,pr3,pr4⟩:=HS3.out.res.c5;obtain ⟨pz0,pz1,pz2,pz3,pz4⟩:=HS3.out.res.z5;have plt:w.heap.size+1<w3.heap.size:=HS3.out.lt)
  refine wp_world ?_
  intro W1 hW1
  have h4:StE fr w sb W1 nv na nf Av Aa Af cv ca cf loop:=by rw [←hW1];exact HS3.out.below (below1 _ _)
  have h4r:RowE w W1 (m-1) (.slice Ax x.args.length cx) x.args:=by rw [←hW1];exact HRx.out.below (below1 _ _)
  have h4b:Blk W1 w3.heap.size 42 #[.int .i64 x.kind,.int .i64 x.op,.int .i64 x.n,.string x.name,.slice Ax x.args.length cx]:=by rw [←hW1];exact Blk.new_at _ _ _ rfl
  have h4l:w3.heap.size<W1.heap.size:=by rw [←hW1];simp
  clear hW1 HS3 HS2
  clear ob0 ob1 ob2 ob3 ob4 or0 or1 or2 or3 or4 oz0 oz1 oz2 oz3 oz4 olt
  clear pb0 pb1 pb2 pb3 pb4 pr0 pr1 pr2 pr3 pr4 pz0 pz1 pz2 pz3 pz4
  have HS4:=Ω h4;have HR4:=Ω h4r;have HB4:=Ω h4b;clear h4 h4r h4b
  obtain ⟨qb0,qb1,qb2,qb3,qb4⟩:=HS4.out.box.c5;obtain ⟨qr0,qr1,qr2,qr3,qr4⟩:=HS4.out.res.c5;obtain ⟨qz0,qz1,qz2,qz3,qz4⟩:=HS4.out.res.z5;have qlt:w.heap.size+1<W1.heap.size:=HS4.out.lt
  go_upto_region 26 with (go_at_call 24;refine (HXX.out _ HS4.out.g HS4.out.src).mono ?_;intro e w5 hp;obtain ⟨y,Ay,cy,rfl,hmy,hry,hsy,hgy⟩:=hp.open HS4.out;have HMy:=Ω hmy;have HRy:=Ω hry;have HS5:=Ω hsy;have HB5:=Ω (HB4.out.grown hgy (fun e=>by have:=sj e;have:=HSB.out;omega));have HR5:=Ω (HR4.out.grown hgy HSB.out);have hsz5:=hgy.size;clear hp hmy hry hsy hgy;obtain ⟨sb0,sb1,sb2,sb3,sb4⟩:=HS5.out.box.c5;obtain ⟨sr0,sr1,sr2,sr3,sr4⟩:=HS5.out.res.c5;obtain ⟨sz0,sz1,sz2,sz3,sz4⟩:=HS5.out.res.z5;have slt:w.heap.size+1<w5.heap.size:=HS5.out.lt)
  refine wp_world ?_
  intro W2 hW2
  have h6:StE fr w sb W2 nv na nf Av Aa Af cv ca cf loop:=by rw [←hW2];exact HS5.out.below (below1 _ _)
  have h6r:RowE w W2 (m-1) (.slice Ax x.args.length cx) x.args:=by rw [←hW2];exact HR5.out.below (below1 _ _)
  have h6s:RowE w W2 (m-1) (.slice Ay y.args.length cy) y.args:=by rw [←hW2];exact HRy.out.below (below1 _ _)
  have h6b:Blk W2 w3.heap.size 42 #[.int .i64 x.kind,.int .i64 x.op,.int .i64 x.n,.string x.name,.slice Ax x.args.length cx]:=by rw [←hW2];exact HB5.out.alloc _
  have h6c:Blk W2 w5.heap.size 42 #[.int .i64 y.kind,.int .i64 y.op,.int .i64 y.n,.string y.name,.slice Ay y.args.length cy]:=by rw [←hW2];exact Blk.new_at _ _ _ rfl
  have h6l:w5.heap.size<W2.heap.size:=by rw [←hW2];simp
  clear hW2 HS5 HB5 HR5 HRy HS4 HB4 HR4
  clear qb0 qb1 qb2 qb3 qb4 qr0 qr1 qr2 qr3 qr4 qz0 qz1 qz2 qz3 qz4 qlt
  clear sb0 sb1 sb2 sb3 sb4 sr0 sr1 sr2 sr3 sr4 sz0 sz1 sz2 sz3 sz4
  have HS6:=Ω h6;have HRx6:=Ω h6r;have HRy6:=Ω h6s;clear h6 h6r h6s
  obtain ⟨xa0,xa1,xa2,xa3,xa4⟩:=h6b.c5
  obtain ⟨ya0,ya1,ya2,ya3,ya4⟩:=h6c.c5
  clear h6b h6c
  obtain ⟨tb0,tb1,tb2,tb3,tb4⟩:=HS6.out.box.c5;obtain ⟨tr0,tr1,tr2,tr3,tr4⟩:=HS6.out.res.c5;obtain ⟨tz0,tz1,tz2,tz3,tz4⟩:=HS6.out.res.z5;have tlt:w.heap.size+1<W2.heap.size:=HS6.out.lt
  go_wp2
  have hrow:=rowE_two (w:=w) hm (Blk.new W2 42 #[.int .i64 x.kind,.int .i64 x.op,.int .i64 x.n,.string x.name,.slice Ax x.args.length cx,.int .i64 y.kind,.int .i64 y.op,.int .i64 y.n,.string y.name,.slice Ay y.args.length cy]) (HRx6.out.below (below1 _ _)) (HRy6.out.below (below1 _ _)) tlt (by simp)
  have hend:=expr_end_alloc HS6.out (.cells #[.int .i64 x.kind,.int .i64 x.op,.int .i64 x.n,.string x.name,.slice Ax x.args.length cx,.int .i64 y.kind,.int .i64 y.op,.int .i64 y.n,.string y.name,.slice Ay y.args.length cy] 42) (⟨4,1+(r:Int),0,⟨#[]⟩,[x,y]⟩) (.slice (some ⟨W2.heap.size,0,none⟩) 2 2) (made_two (by omega) HRR.out HMx.out HMy.out) hrow
  refine bodyPost_ret (v:=.agg #[.int .i64 (⟨4,1+(r:Int),0,⟨#[]⟩,[x,y]⟩:LExpr).kind,.int .i64 (⟨4,1+(r:Int),0,⟨#[]⟩,[x,y]⟩:LExpr).op,.int .i64 (⟨4,1+(r:Int),0,⟨#[]⟩,[x,y]⟩:LExpr).n,.string (⟨4,1+(r:Int),0,⟨#[]⟩,[x,y]⟩:LExpr).name,.slice (some ⟨W2.heap.size,0,none⟩) 2 2]) (results_cell_row (p:=6) (ty:=42) (by kernel_rfl) _ _ (w.heap.size+1) 42 _ (0,0) _ rfl hend.1 Tryz.underlying42 rfl (by kernel_rfl)) rfl hend.2
end
end Go.Proofs.YtmignlclfbaifaaGreat
