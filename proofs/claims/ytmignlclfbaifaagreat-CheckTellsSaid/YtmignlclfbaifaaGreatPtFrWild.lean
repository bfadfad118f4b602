/- A program that may be wrong in some way: counterprooflaw03.Wild of whatever raw numbers: some program. Printed by wip/gen_frwildw.py. -/
import Derived.Test.YtmignlclfbaifaaGreatPtFrWL
namespace Go.Proofs.YtmignlclfbaifaaGreat
open Go.RowKit
section
set_option maxRecDepth 100000
set_option maxHeartbeats 16000000
theorem wild_prog (raw:List Int) (A:Option Addr) (c:Nat) (w:World) (hraw:SlR w (· < w.heap.size) 1 RInt (.slice A raw.length c) raw) (hI:∀x∈raw,I64 x) :
  Calls Tryz.prog 10 #[.slice A raw.length c] w (WildPost w):=by
 obtain ⟨rl,hrl⟩:∃n,n=raw.length:=⟨_,rfl⟩
 have hlm:=hraw.len_le
 unfold maxLen at hlm
 have HRL:=Ω hrl
 have hrlc:rl≤c:=by obtain ⟨_,_,h,h1,_⟩:=hraw;injection h with _ _ h3;rw [hrl,h3];exact h1
 rw [←hrl] at hraw hlm ⊢
 have HRAW:=Ω hraw
 have HII:=Ω hI
 clear hraw hI hrl
 go_enter Tryz.func10,Tryz.ntmps10
 go_upto_region 2 with fail
 refine wp_world ?_
 intro W hW
 obtain ⟨rb,hrb⟩:∃b,w.heap.size=b:=⟨_,rfl⟩
 have hBw:Below w.heap.size w W:=by rw [←hW];exact below2 _ _ _
 have hr0:Blk W rb 27 #[.slice none 0 0,.slice none 0 0]:=by rw [←hW,←hrb];exact (Blk.new _ _ _).alloc _
 have hs0:Blk W (rb+1) 58 #[.slice A rl c,.int .i64 0]:=by rw [←hW,←hrb];exact Blk.new_at _ _ _ (by simp)
 have hsz:W.heap.size=rb+2:=by rw [←hW,←hrb];simp
 have HWS:=Ω hsz
 have HWB:=Ω hBw
 have HRB:=Ω hrb
 have HR0:=Ω hr0
 have HS0:=Ω hs0
 rw [show (⟨w.heap.size,0,none⟩:Addr)=⟨rb,0,none⟩ by rw [hrb]]
 rw [show (⟨w.heap.size+1,0,none⟩:Addr)=⟨rb+1,0,none⟩ by rw [hrb]]
 obtain ⟨sb,hsb⟩:∃s,rb+1=s:=⟨_,rfl⟩
 rw [hsb] at HS0 ⊢
 have HSB:=Ω hsb
 clear hW hBw hr0 hs0 hsz hrb hsb
 have k0:=HS0.out.cell 0
 have z0:=HS0.out.frozen 0
 obtain ⟨bq,hbq⟩:∃b,b=decide (400<rl):=⟨_,rfl⟩
 have HBQ:=Ω hbq
 clear hbq
 go_cut [17] (fun s wx=>s=.bool bq∧wx=W)
 case first=>
  by_cases h4:400<rl
  ·have d1:decide ((rl:Int) > 400)=true:=dT (by omega)
   have d2:decide (400<(rl:Int))=true:=dT (by omega)
   have hx:bq=true:=by rw [HBQ.out];exact dT h4
   have HXX:=Ω hx
   clear hx
   go_wp2
   go_meet
   case rel=>exact ⟨by rw [HXX.out],rfl⟩
  ·have d1:decide ((rl:Int) > 400)=false:=dF (by omega)
   have d2:decide (400<(rl:Int))=false:=dF (by omega)
   have hx:bq=false:=by rw [HBQ.out];exact dF h4
   have HXX:=Ω hx
   clear hx
   go_wp2
   go_meet
   case rel=>exact ⟨by rw [HXX.out],rfl⟩
 case rest=>
 obtain ⟨rfl,hw⟩:=hcut
 rw [hw]
 clear hw
 go_upto_if 17 with fail
 go_cut [] (fun wx=>SrcAt wx sb∧Blk wx rb 27 #[.slice none 0 0,.slice none 0 0]∧Below w.heap.size w wx∧wx.heap.size=rb+2)
 case first=>
  have hrs:SlR W (· < sb) 1 RInt (.slice A raw.length c) raw:=by
   have h:=HRAW.out
   rw [←HRL.out]
   exact h.imp (fun q hq=>by have:=HRB.out;have:=HSB.out;omega) (fun q hq=>HWB.out.block q hq) fun _ _ _ r=>r
  have HRS:=Ω hrs
  clear hrs
  cases bq with
  |true=>
   have h4:400<rl:=of_decide_eq_true HBQ.out.symm
   have d1:(400:Int)≤(rl:Int):=by omega
   have d2:(400:Int)≤(c:Int):=by omega
   have d3:400≤c:=by omega
   go_wp2
   go_meet
   case rel=>
    refine ⟨src_take (n:=400) (HS0.out.set_ 0 _) ?_ HII.out (by have:=HRL.out;omega) (Nat.le_refl _),HR0.out.far (p:=⟨sb,0,none⟩) (by show rb≠sb;have:=HSB.out;omega) _,HWB.out.setCell (p:=⟨sb,0,none⟩) (by show w.heap.size≤sb;have:=HSB.out;have:=HRB.out;omega) _,by have:=HWS.out;simpa [World.setCell] using this⟩
    exact HRS.out.imp (fun _ h=>h) (fun q hq=>bhs W ⟨sb,0,none⟩ _ q (by show q≠sb;omega)) fun _ _ _ r=>r
  |false=>
   have h4:¬400<rl:=of_decide_eq_false HBQ.out.symm
   go_wp2
   go_meet
   case rel=>exact ⟨src_take (n:=rl) HS0.out HRS.out HII.out (by rw [HRL.out];exact Nat.le_refl _) (by omega),HR0.out,HWB.out,HWS.out⟩
 case rest=>
 obtain ⟨hsr,hr1,hb1,hz1⟩:=hcut
 have HSR:=Ω hsr
 have HR1:=Ω hr1
 have HB1:=Ω hb1
 have HZ1:=Ω hz1
 clear hsr hr1 hb1 hz1 HS0 HR0 HWB HWS HBQ k0 z0
 obtain ⟨V,hVV⟩:∃v,v=wc:=⟨_,rfl⟩
 subst hVV
 have hord:w.heap.size=rb∧rb+1=sb∧V.heap.size=rb+2:=⟨HRB.out,HSB.out,HZ1.out⟩
 have HORD:=Ω hord
 clear hord HRB HSB HZ1
 go_upto_region 5 with (go_at_call 21;refine (next_any V sb 9 (by omega) HSR.out).mono ?_;rintro e V4 ⟨⟨kd,hkd,rfl⟩,hs,hg⟩;have HS4:=Ω hs;have HG4:=Ω hg;clear hs hg)
 clear HSR
 go_upto_region 6 with (go_at_call 21;refine (next_any V4 sb 2 (by omega) HS4.out).mono ?_;rintro e V5 ⟨⟨k5,hk5,rfl⟩,hs,hg⟩;obtain ⟨fr,hfr⟩:∃b,((k5:Int) == 1)=b:=⟨_,rfl⟩;have HS5:=Ω hs;have HG5:=Ω (HG4.out.trans hg);clear hs hg hk5)
 clear hfr HS4 HG4
 refine wp_world ?_
 intro W5 hW5
 obtain ⟨g2,hg2⟩:∃b,V5.heap.size=b:=⟨_,rfl⟩
 have hn5:Blk W5 g2 9 #[.string ⟨#[120]⟩,.string ⟨#[112]⟩]:=by rw [←hW5,←hg2];exact (Blk.new _ _ _).alloc _
 have hc5:Blk W5 (g2+1) 61 #[.slice (some ⟨g2,0,none⟩) 2 2,.slice none 0 0,.slice none 0 0,.bool fr,.bool false]:=by rw [←hW5,←hg2];exact Blk.new_at _ _ _ (by simp)
 have hb5:Below V5.heap.size V5 W5:=by rw [←hW5];exact below2 _ _ _
 have hz5:W5.heap.size=g2+2:=by rw [←hW5,←hg2];simp
 have hs5:=HS5.out.below hb5
 have hgs:=HG5.out.size
 have hord:rb<sb∧sb<g2:=by have:=HORD.out;omega
 have hbw:Below w.heap.size w W5:=(HB1.out.grown HG5.out HB1.out.size (fun k e=>by have:=sj e;have:=HORD.out;omega)).trans (hb5.mono (Nat.le_trans HB1.out.size hgs))
 have hr5:Blk W5 rb 27 #[.slice none 0 0,.slice none 0 0]:=(HR1.out.grown HG5.out (fun e=>by have:=sj e;omega)).below hb5 (by have:=HR1.out.lt;omega)
 rw [hg2]
 obtain ⟨cb,hcb⟩:∃b,g2+1=b:=⟨_,rfl⟩
 rw [hcb] at hc5 ⊢
 have HOR:Hid (w.heap.size=rb∧rb<sb∧sb<g2∧g2<cb∧W5.heap.size=cb+1):=Ω ⟨HORD.out.1,hord.1,hord.2,by omega,by omega⟩
 have HN5:=Ω hn5;have HC5:=Ω hc5;have HSX:=Ω hs5;have HBW:=Ω hbw;have HR5:=Ω hr5
 clear hW5 hg2 hn5 hc5 hb5 hz5 hs5 hgs hord hbw hr5 hcb HR1 HB1 HS5 HG5 HORD
 go_upto_region 7 with (first|(go_at_call 21;refine (next_any W5 sb 2 (by omega) HSX.out).mono ?_;rintro e V6 ⟨⟨k6,hk6,rfl⟩,hs,hg⟩;obtain ⟨fr2,hfr⟩:∃b,((k6:Int) == 1)=b:=⟨_,rfl⟩;have HS6:=Ω hs;have HC6:=Ω (HC5.out.grown hg (fun e=>by have h9:=sj e;have h8:=HOR.out;omega));have HN6:=Ω (HN5.out.grown hg (fun e=>by have h9:=sj e;have h8:=HOR.out;omega));have HR6:=Ω (HR5.out.grown hg (fun e=>by have h9:=sj e;have h8:=HOR.out;omega));have HB6:Hid (Below w.heap.size w V6):=Ω (HBW.out.grown hg HBW.out.size (fun k e=>by have h9:=sj e;have h8:=HOR.out;omega));have HZ6:Hid (cb<V6.heap.size):=Ω HC6.out.lt;have hraw6:=HRAW.out.imp (ok':=(· < V6.heap.size)) (fun b hb=>ltle hb HB6.out.size) (Keeps.of_below HB6.out) (fun _ _ _ r=>r);have HPR:Hid (Calls Tryz.prog 11 #[.slice A rl c,.bool fr2] V6 (ProgPost V6)):=Ω (by have h:=prog_any fr2 raw A c V6 (HRL.out▸hraw6) HII.out;rw [←HRL.out] at h;exact h);clear hs hg hk6 hraw6)|(go_at_call 11;refine HPR.out.mono ?_;intro e V7 hp;obtain ⟨p,A1,c1,gF,c2,B1,B3,lo,css1,css,rfl,hb7,hlo7,hB7,hin7,harr7,halt7⟩:=hp.inn2;have HB7:=Ω hb7;have HLO7:=Ω (And.intro hlo7 hB7);have HIN7:=Ω hin7;have HAR7:=Ω harr7;have HAL7:=Ω halt7;clear hb7 hlo7 hB7 hin7 harr7 halt7 hp))
 refine wp_world ?_
 intro W7 hW7
 obtain ⟨pb,hpb⟩:∃b,V7.heap.size=b:=⟨_,rfl⟩
 have hp7:Blk W7 pb 27 #[.slice A1 p.arrays.length c1,.slice (some ⟨gF,0,none⟩) p.funcs.length c2]:=by rw [←hW7,←hpb];exact Blk.new _ _ _
 have hb7:Below V7.heap.size V7 W7:=by rw [←hW7];exact below1 _ _
 rw [hpb]
 have HS7:Hid (SrcAt W7 sb):=Ω ((HS6.out.below HB7.out).below hb7)
 obtain ⟨na,hna⟩:∃n,n=p.arrays.length:=⟨_,rfl⟩
 obtain ⟨nf,hnf⟩:∃n,n=p.funcs.length:=⟨_,rfl⟩
 have hnf0:0<nf:=by rw [hnf];exact HIN7.out.gen.pos
 have hnf3:nf≤3:=by rw [hnf];exact HIN7.out.gen.few
 have hna2:na≤2:=by rw [hna];exact HIN7.out.gen.fewA
 rw [←hna,←hnf] at hp7 ⊢
 have HNA:=Ω hna;have HNF:=Ω hnf;have HP7:=Ω hp7;have HPB:Hid (V7.heap.size=pb):=Ω hpb;have HB77:=Ω hb7
 have p0:=hp7.cell 0;have p1:=hp7.cell 1
 clear hW7 hpb hp7 hb7 hna hnf hfr HPR HS6
 go_upto_region 8 with (go_at_call 21;refine (next_any W7 sb nf (by omega) HS7.out).mono ?_;rintro e V8 ⟨⟨k,hk,rfl⟩,hs,hg⟩;have HS8:=Ω hs;have HG8:=Ω hg;clear hs hg)
 clear p0 p1 HS7
 have hg78:V7.grownBy V8 (some sb):=(grown_below' HB77.out).trans HG8.out
 have hp8:=HP7.out.grown HG8.out (fun e=>by have h9:=sj e;have h8:=HOR.out;have h7:=HPB.out;have h6:=HB7.out.size;have h5:=HZ6.out;omega)
 have p1:=hp8.cell 1
 have hkl:k<p.funcs.length:=by rw [←HNF.out];exact hk
 have hk1:(k:Int)<(nf:Int):=by omega
 have hk0:¬(k:Int)<0:=by omega
 have hlen:=HIN7.out.row.len
 obtain ⟨vp,vl,vb,hcs,hpar,hloc,hbod⟩:=HIN7.out.row.elems k (by omega) hkl
 have hgF:=HIN7.out.row.row.lt gF rfl
 have hgne:gF≠sb:=by have h8:=HOR.out;have h5:=HZ6.out;have h4:=HLO7.out;have h3:=HIN7.out.low;omega
 obtain ⟨x,hx⟩:∃x,x=p.funcs[k]:=⟨_,rfl⟩
 rw [←hx] at hcs hpar hloc hbod
 have hcell:∀(j:Nat) (hj:j<4),V8.cell? ⟨gF,k*4+j,none⟩=some ([Value.string x.name,vp,vl,vb][j]'(by simpa using hj)):=fun j hj=>by
  have h:=HIN7.out.row.cell rfl (j:=k) (i:=j) (by omega) (by rw [hcs];exact hj)
  simp only [hcs] at h
  exact hg78.cell h (fun e=>hgne (sj e))
 obtain ⟨Ap,cp,hvp,_,_⟩:=hpar.val
 obtain ⟨Al,cl,hvl,_,_⟩:=hloc.val
 obtain ⟨Ab,cb',hvb,_,_⟩:=hbod.val
 obtain ⟨nl,hnl⟩:∃n,n=x.locals.length:=⟨_,rfl⟩
 obtain ⟨np,hnp⟩:∃n,n=x.params.length:=⟨_,rfl⟩
 obtain ⟨nb,hnb⟩:∃n,n=x.body.length:=⟨_,rfl⟩
 rw [←hnp] at hvp;rw [←hnl] at hvl;rw [←hnb] at hvb
 subst hvp hvl hvb
 have i0:V8.cell? ⟨gF,k*4,none⟩=some (.string x.name):=hcell 0 (by omega)
 have i1:V8.cell? ⟨gF,k*4+1,none⟩=some (.slice Ap np cp):=hcell 1 (by omega)
 have i2:V8.cell? ⟨gF,k*4+2,none⟩=some (.slice Al nl cl):=hcell 2 (by omega)
 have i3:V8.cell? ⟨gF,k*4+3,none⟩=some (.slice Ab nb cb'):=hcell 3 (by omega)
 have hxm:x∈p.funcs:=by rw [hx];exact List.getElem_mem _
 have hfw:=HIN7.out.gen.func 70 hxm
 have HFW:=Ω hfw;have HPAR:=Ω hpar;have HLOC:=Ω hloc;have HBOD:=Ω hbod;have HX:=Ω hx;have HNL:=Ω hnl;have HNP:=Ω hnp;have HNB:=Ω hnb;have HP8:=Ω hp8;have HG78:=Ω hg78;have HGF:=Ω (And.intro hgF.1 (And.intro hgF.2 hgne))
 clear hg78 hp8 hlen hcs hpar hloc hbod hgF hgne hx hcell hnl hnp hnb hxm hfw HP7 HG8 HB77
 go_upto_region 9 with fail
 refine wp_world ?_
 intro W9 hW9
 have hb9:Below V8.heap.size V8 W9:=by rw [←hW9];exact below1 _ _
 have hf9:Blk W9 V8.heap.size 49 #[.string x.name,.slice Ap np cp,.slice Al nl cl,.slice Ab nb cb']:=by rw [←hW9];exact Blk.new _ _ _
 obtain ⟨fb,hfb⟩:∃b,V8.heap.size=b:=⟨_,rfl⟩
 have hpbl:=HP8.out.lt
 rw [hfb] at hf9 ⊢
 have hpre:∀xb,W9.heap.size≤xb→WPre w W9 fr p x rb sb cb g2 lo B1 B3 gF pb fb xb A1 Ap Al Ab c1 c2 np nl nb cp cl cb' css1 css:=fun xb hxb=>by
  have hp9:=HP8.out.below hb9 hpbl
  rw [HNA.out,HNF.out] at hp9
  rw [HX.out] at hf9 ⊢
  exact WPre.make HB6.out HC6.out HN6.out HR6.out HB7.out HIN7.out HAR7.out HAL7.out HLO7.out.1 HLO7.out.2 (HG78.out.trans (grown_below' hb9)) (HS8.out.below hb9) (by rw [HPB.out];exact Nat.le_refl _) (by rw [←hfb];exact hpbl) hxb hp9 hkl hf9 (by have h:=HPAR.out;rw [HX.out] at h;exact h) (by have h:=HLOC.out;rw [HX.out] at h;exact h) (by have h:=HBOD.out;rw [HX.out] at h;exact h) (by rw [HOR.out.1];exact Nat.le_refl _) HOR.out.2.1 HOR.out.2.2.1 HOR.out.2.2.2.1
 have HPRE:=Ω hpre
 have HGN:=Ω HIN7.out.gen
 have HXE:=HX
 clear hW9 hb9 hf9 hfb hpbl hpre i0 i1 i2 i3 p1 HB6 HC6 HN6 HR6 HB7 HIN7 HAR7 HAL7 HLO7 HG78 HS8 HPB HP8 HPAR HLOC HBOD HOR HGF HZ6 HRAW HRL HII HBW HC5 HN5 HR5 HSX HX
 go_upto_region 10 with (first|(go_at_call 21;refine (next_any W9 sb 13 (by omega) (HPRE.out _ (Nat.le_refl _)).src).mono ?_;rintro e V9 ⟨⟨km,hkm,rfl⟩,hs,hg⟩;have HPN:Hid (∀xb,V9.heap.size≤xb→WPre w V9 fr p x rb sb cb g2 lo B1 B3 gF pb fb xb A1 Ap Al Ab c1 c2 np nl nb cp cl cb' css1 css):=Ω (fun xb hxb=>(HPRE.out xb (Nat.le_trans hg.size hxb)).step hg hs);clear hs hg)|(go_at_call 22;refine (odd_any V9 sb (HPN.out _ (Nat.le_refl _)).src).mono ?_;rintro e V10 ⟨⟨sx,rfl⟩,hs,hg⟩;have HPM:Hid (∀xb,V10.heap.size≤xb→WPre w V10 fr p x rb sb cb g2 lo B1 B3 gF pb fb xb A1 Ap Al Ab c1 c2 np nl nb cp cl cb' css1 css):=Ω (fun xb hxb=>(HPN.out xb (Nat.le_trans hg.size hxb)).step hg hs);clear hs hg))
 refine wp_world ?_
 intro W10 hW10
 obtain ⟨xb,hxb⟩:∃b,V10.heap.size=b:=⟨_,rfl⟩
 obtain ⟨kx,hkx⟩:∃z:Int,z=(km:Int)-1:=⟨_,rfl⟩
 rw [←hkx] at hW10
 have hpre:=HPM.out xb (by rw [hxb];exact Nat.le_refl _)
 have hbox:BoxS V10 sb W10 (xb+1) xb 45 #[.int .i64 kx,.string sx,.slice none 0 0,.slice none 0 0,.slice none 0 0] 5 (fun _=>True) (.slice none 0 0) []:=by
  have h1:Blk W10 xb 45 #[.int .i64 kx,.string sx,.slice none 0 0,.slice none 0 0,.slice none 0 0]:=by rw [←hW10,←hxb];exact Blk.new _ _ _
  have h2:Below V10.heap.size V10 W10:=by rw [←hW10];exact below1 _ _
  exact ⟨grown_below' h2,hpre.src.below h2,h1,by rw [hxb];exact Nat.le_refl _,Nat.lt_succ_self _,h1.lt,⟨[],OwnL.nil_ _ _ _ _ _⟩,(fun _ h=>by cases h),hpre.src.lt⟩
 rw [hxb]
 have HXB:Hid (V10.heap.size=xb):=Ω hxb
 have HPR:=Ω hpre;have HBX:=Ω hbox
 clear hW10 hxb hkx hpre hbox HPM HPN HPRE hkm
 have HSC:Hid (∀X,V10.grownBy X (some sb)→Blk X cb 61 #[.slice (some ⟨g2,0,none⟩) 2 2,.slice none 0 0,.slice none 0 0,.bool fr,.bool false]):=Ω (fun X h=>HPR.out.scp.grown h (fun e=>by have h1:=sj e;have h2:=HPR.out.ord.h3;have h3:=HPR.out.ord.h4;omega))
 have HWI:Hid (∀X,V10.grownBy X (some sb)→SrcAt X sb→Calls Tryz.prog 23 #[.agg #[.slice (some ⟨g2,0,none⟩) 2 2,.slice none 0 0,.slice none 0 0,.bool fr,.bool false],.pointer (some ⟨sb,0,none⟩)] X (ExprPost X sb scW 4)):=Ω (fun X hg hs=>wild_any fr X sb scW (some ⟨g2,0,none⟩) none none 2 0 0 false hs (HPR.out.sc.grown hg) scW_ok)
 go_upto_block 0 with (go_at_call 21;refine (next_any W10 sb 4 (by omega) HBX.out.src).mono ?_;rintro e V11 ⟨⟨ki,hki,rfl⟩,hs,hg⟩;have HBI:=Ω (HBX.out.step hg hs);clear hs hg)
 have hki3:ki≤3:=by omega
 go_wp2
 go_loopw [10] (fun a wr=>∃(i ng cg:Nat) (Ag:Option Addr) (l:List LExpr),i≤3∧a=.int .i64 (i:Int)∧ng=l.length∧l.length+i≤3∧BoxS V10 sb wr (xb+1) xb 45 #[.int .i64 kx,.string sx,.slice Ag ng cg,.slice none 0 0,.slice none 0 0] 5 (fun _=>True) (.slice Ag ng cg) l) (fun a _=>(intOf a).toNat)
 case atStart=>exact ⟨ki,0,0,none,[],hki3,rfl,rfl,by simpa using hki3,HBI.out⟩
 case round=>
  obtain ⟨i,ng,cg,Ag,l,hi,rfl,hng,hl,hb⟩:=hrel
  have HB:=Ω hb;have HNG:=Ω hng;have HL:=Ω hl
  have hng3:ng≤3:=by omega
  clear hb hng hl
  rcases Nat.eq_zero_or_pos i with rfl|hi0
  case inr=>
   obtain ⟨j,hj⟩:∃j,i=j+1:=⟨i-1,by omega⟩
   have HJ:=Ω hj
   have d1:decide ((i:Int) > 0)=true:=dT (by omega)
   have d2:decide (0<(i:Int))=true:=dT (by omega)
   clear hj
   obtain ⟨zi,hj0,hj1,hj2,hj3⟩:=info_parts info_expr
   go_upto_region 13 with fail
   have SO:Hid (∀X,(Blk X xb 45 #[.int .i64 kx,.string sx,.slice Ag ng cg,.slice none 0 0,.slice none 0 0]∧V10.grownBy X (some sb))→(fun X=>X.cell? ⟨xb,2,none⟩=some (.slice Ag ng cg)∧X.cell? ⟨cb,0,none⟩=some (.slice (some ⟨g2,0,none⟩) 2 2)∧X.cell? ⟨cb,1,none⟩=some (.slice none 0 0)∧X.cell? ⟨cb,2,none⟩=some (.slice none 0 0)∧X.cell? ⟨cb,3,none⟩=some (.bool fr)∧X.cell? ⟨cb,4,none⟩=some (.bool false)) X):=Ω (fun X h=>have hq:=HSC.out X h.2;⟨h.1.cell 2,hq.cell 0,hq.cell 1,hq.cell 2,hq.cell 3,hq.cell 4⟩)
   refine wp_region_G 8 (fun X=>X.cell? ⟨xb,2,none⟩=some (.slice Ag ng cg)∧X.cell? ⟨cb,0,none⟩=some (.slice (some ⟨g2,0,none⟩) 2 2)∧X.cell? ⟨cb,1,none⟩=some (.slice none 0 0)∧X.cell? ⟨cb,2,none⟩=some (.slice none 0 0)∧X.cell? ⟨cb,3,none⟩=some (.bool fr)∧X.cell? ⟨cb,4,none⟩=some (.bool false)) (SO.out _ ⟨HB.out.drew.blk,HB.out.drew.gr⟩) ?_
   change GL _ _ _ _ _ 8 9 (Array.replicate 9 false) _ _
   have HB0:Hid (BoxS V10 sb wr.drew (xb+1) xb 45 #[.int .i64 kx,.string sx,.slice Ag ng cg,.slice none 0 0,.slice none 0 0] 5 (fun _=>True) (.slice Ag ng cg) l):=Ω HB.out.drew
   obtain ⟨X0,hX0⟩:∃X0,wr.drew=X0:=⟨_,rfl⟩
   rw [hX0] at HB0 ⊢
   clear hX0
   obtain ⟨bss,hcss⟩:=HB0.out.own
   have HOW:=Ω hcss
   clear hcss
   refine gj 0 (.pointer (some ⟨xb,2,none⟩)) ?_
   refine gS 1 (.slice Ag ng cg) [8] ?_ ?_
   ·intro w2 hSw;obtain ⟨g0,g1,g2_,g3,g4,g5⟩:=hSw;go_simp
   refine gS 2 (.agg #[.slice (some ⟨g2,0,none⟩) 2 2,.slice none 0 0,.slice none 0 0,.bool fr,.bool false]) [8] ?_ ?_
   ·intro w2 hSw;obtain ⟨g0,g1,g2_,g3,g4,g5⟩:=hSw;go_simp
   refine gj 3 (.pointer (some ⟨sb,0,none⟩)) ?_
   refine gO 4 (fun K hK=>?_)
   go_simp
   refine (HWI.out X0 HB0.out.gr HB0.out.src).mono ?_
   intro e X1 hp
   obtain ⟨y,Ay,cy,rfl,hm1,hx1,hs1,hg1⟩:=hp.new
   have HB1:=Ω (HB0.out.step hg1 hs1)
   have HXR:=Ω hx1
   have HG1:=Ω hg1
   have HSR:=Ω hs1
   clear hp hm1 hx1 hs1 hg1
   refine hK.out _ _ (SO.out _ ⟨HB1.out.blk,HB1.out.gr⟩) ?_
   clear hK K
   try simp only [sG]
   refine gO 5 (fun K hK=>?_)
   go_simp
   refine hK.out _ _ (SO.out _ ⟨(HB1.out.below (below1 _ _)).blk,(HB1.out.below (below1 _ _)).gr⟩) ?_
   clear hK K
   try simp only [sG]
   have hb2:=HB1.out.below (below1 X1 (.cells #[.int .i64 y.kind,.int .i64 y.op,.int .i64 y.n,.string y.name,.slice Ay y.args.length cy] 42))
   have hn2:Blk (X1.alloc (.cells #[.int .i64 y.kind,.int .i64 y.op,.int .i64 y.n,.string y.name,.slice Ay y.args.length cy] 42)) X1.heap.size 42 #[.int .i64 y.kind,.int .i64 y.op,.int .i64 y.n,.string y.name,.slice Ay y.args.length cy]:=Blk.new X1 _ _
   have h12:=below1 X1 (.cells #[.int .i64 y.kind,.int .i64 y.op,.int .i64 y.n,.string y.name,.slice Ay y.args.length cy] 42)
   generalize (X1.alloc (.cells #[.int .i64 y.kind,.int .i64 y.op,.int .i64 y.n,.string y.name,.slice Ay y.args.length cy] 42))=X2 at *
   have HB2:=Ω hb2;have HN2:=Ω hn2;have H12:=Ω h12
   clear hb2 hn2 h12
   have hsx:=HB2.out.bs
   refine gO 6 (fun K hK=>?_)
   refine step_append_lies _ (by rfl) _ _ _ (by rfl) (xb+1) 42 zi _ 5 64 Tryz.underlying40 hj0 hj1 hj2 hj3 rfl (by omega) (.slice Ag ng cg) ng bss.flatten (by rfl) (HB0.out.row2 HG1.out H12.out HNG.out HOW.out) ⟨X1.heap.size,0,none⟩ 1 1 [.int .i64 y.kind,.int .i64 y.op,.int .i64 y.n,.string y.name,.slice Ay y.args.length cy] (by rfl) (by rfl) (World.news_of_block HN2.out) (by simp [Value.oneCell']) (by omega) (by unfold maxLen;omega) (by omega) hsx X2.heap.size rfl ?_
   intro gp cp3 X3 hown3 hgrow3 hat3 hlt3
   have HB3:=Ω (HB0.out.app HG1.out HSR.out H12.out HNG.out HOW.out HXR.out rfl trivial hown3 hgrow3 hat3)
   clear hsx hown3 hgrow3 hat3
   refine hK.out _ _ (SO.out _ ⟨HB3.out.blk,HB3.out.gr⟩) ?_
   clear hK K
   try simp only [sG]
   refine gj 7 (.pointer (some ⟨xb,2,none⟩)) ?_
   refine gL (fun K hK=>?_)
   have kc:X3.cell? ⟨xb,2,none⟩=some (.slice Ag ng cg):=HB3.out.blk.cell 2
   have kz:=HB3.out.blk.frozen 2
   go_simp
   refine hK.out _ _ ?_
   clear hK K
   try simp only [sG]
   go_wp2
   go_roundw
   case rel=>
    refine ⟨j,ng+1,cp3,some ⟨gp,0,none⟩,l++[y],by have:=HJ.out;omega,by have:=HJ.out;go_num,by rw [List.length_append,List.length_singleton,←HNG.out],?_,HB3.out.set 2 _⟩
    rw [List.length_append,List.length_singleton];have h1:=HL.out;have h2:=HJ.out;omega
   case measure=>simp [intOf];omega
  case inl=>
  obtain ⟨V12,hVV⟩:∃v,v=wr:=⟨_,rfl⟩
  subst hVV
  have hwin:=WIn.make HPR.out (fr:=fr) HB.out HNG.out
  have HWN:=Ω hwin
  clear hwin HBX HBI HB HL hi
  go_upto_block 2 with fail
  have hnf3':nf≤3:=hnf3
  obtain ⟨zi,hj0,hj1,hj2,hj3⟩:=info_parts info_expr
  obtain ⟨z0,hi0,hz0,hz1,hz2⟩:=info_parts info_string
  obtain ⟨za,ha0,ha1,ha2,ha3⟩:=info_parts info_arr
  obtain ⟨zs,hs0,hs1,hs2,hs3⟩:=info_parts info_stmt
  have HNAF:Hid (p.funcs.length=nf):=Ω HNF.out.symm
  have HOB:Hid (p.arrays.length≤2∧x.params.length≤6∧x.locals.length≤5∧(allL 70 x.body false).length≤10000):=Ω ⟨HGN.out.fewA,HFW.out.1,HFW.out.2.1,HFW.out.2.2.2⟩
  go_cut [] (fun wx=>WAny 10000 w wx p.funcs rb gF pb fb xb B3 nf c2 css)
  case first=>
   rcases (by omega:kd=0∨kd=1∨kd=2∨kd=3∨kd=4∨kd=5∨kd=6∨kd=7∨kd=8) with rfl|rfl|rfl|rfl|rfl|rfl|rfl|rfl|rfl
   case inl=>
    go_wp2_with (go_at_call 22;refine (odd_any V12 sb HWN.out.pre.src).mono ?_;rintro e X1 ⟨⟨s1,rfl⟩,hs,hg⟩;have h1:=(HWN.out.step hg hs).out (K:=10000) (by decide) (ob3 HOB.out) (by decide);have HO:=Ω h1;have kc:=h1.fn.cell 0;have kz:=h1.fn.frozen 0;clear h1 hs hg)
    go_meet
    case rel=>exact WOut.any (HO.out.putf (f':={ x with name:=s1 }) (K':=10000) 0 (.string s1) rfl HO.out.fp HO.out.fl HO.out.fbd ⟨by have:=HFW.out;show x.params.length≤8;omega,by have:=HFW.out;show x.locals.length≤6;omega,HFW.out.2.2.2⟩) rfl HNAF.out
   case inr.inl=>
    have hnw:=news_strs HWN.out.pre.fp HNP.out
    have HNW:=Ω hnw
    have f1:=HWN.out.pre.fn.cell 1
    have hnp6:np≤6:=by have:=HFW.out;have:=HNP.out;omega
    have HVS:Hid (sb<V12.heap.size):=Ω HWN.out.pre.src.lt
    clear hnw
    go_wp2_with (first|(at_builtin;refine wpList_append_any _ rfl (.const (.slice none 0 0)) (.tmp 74) _ rfl V12.heap.size 9 z0 _ 1 16 Tryz.underlying47 hi0 hz0 hz1 hz2 rfl (by decide) (.slice none 0 0) 0 [] rfl (World.ownsRow_nil _ _ _ _) Ap np cp (x.params.map Value.string) rfl HNW.out.1 HNW.out.2.1 HNW.out.2.2 (by unfold maxLen;omega) (by omega) (Nat.le_refl _) V12.heap.size rfl ?_;intro v1 X1 hown1 hgrow1 hat1;obtain ⟨Av1,cv1,hv1⟩:=own_form hown1;subst hv1;obtain ⟨m1,hm1⟩:∃n,n=0+np:=⟨_,rfl⟩;rw [←hm1] at hown1 ⊢;have hm9:m1≤6:=(by omega);have hg1:V12.grownBy X1 (some sb):=grown_none hgrow1;have HG1:=Ω hg1;have HO1:=Ω hown1;have HT1:=Ω (HWN.out.step hg1 (HWN.out.pre.src.grown hgrow1 (fun g e=>by cases e))).pre.src;have HM1:=Ω hm1;clear hm1 hown1 hgrow1 hat1 hg1)|(go_at_call 22;refine (odd_any X1 sb HT1.out).mono ?_;rintro e X2 ⟨⟨s1,rfl⟩,hs,hg⟩;have HT2:=Ω hs;have HG2:=Ω (HG1.out.trans hg);have HO2:=Ω ((HO1.out.kept hg (own_ne HO1.out HVS.out)).alloc (.cells #[.string s1,.string ⟨#[113,57]⟩] 9));have HZ2:Hid (V12.heap.size≤X2.heap.size):=Ω HG2.out.size;clear hs hg)|(at_builtin;refine wpList_append_any _ rfl (.tmp 75) (.tmp 78) _ rfl V12.heap.size 9 z0 _ 1 16 Tryz.underlying47 hi0 hz0 hz1 hz2 rfl (by decide) (.slice Av1 m1 cv1) m1 ([]++x.params.map Value.string) rfl HO2.out (some ⟨X2.heap.size,0,none⟩) 2 2 [.string s1,.string ⟨#[113,57]⟩] rfl rfl (Or.inr ⟨⟨X2.heap.size,0,none⟩,rfl,World.news_of_block (cs:=#[.string s1,.string ⟨#[113,57]⟩]) (t:=9) (fr:=(0,0)) (Blk.new _ _ _)⟩) (by simp [Value.oneCell']) (by unfold maxLen;omega) (by omega) (by have:=HZ2.out;simp;omega) (X2.heap.size+1) (by simp) ?_;intro v2 X3 hown2 hgrow2 hat2;obtain ⟨Av2,cv2,hv2⟩:=own_form hown2;subst hv2;have hg3:=own_grown HG2.out HO2.out hgrow2 HVS.out;have hs3:=own_src HT2.out HO2.out hgrow2 HVS.out;have h1:=(HWN.out.step hg3 hs3).out (K:=10000) (by decide) (ob3 HOB.out) (by decide);have HO:=Ω h1;have HO3:=Ω hown2;have kc:=h1.fn.cell 1;have kz:=h1.fn.frozen 1;clear h1 hown2 hgrow2 hat2 hg3 hs3))
    go_meet
    case rel=>
     have hrow:X3.ownsRow V12.heap.size 9 1 (.slice Av2 (m1+2) cv2) (m1+2) ((x.params++[s1,⟨#[113,57]⟩]).map encT):=by have h:=HO3.out;rw [List.map_append];exact h
     have ho:=HWN.out.pre.ord;have hxl:=HWN.out.st.lt
     have q1:=ho.h1;have q2:=ho.h2;have q3:=ho.h3;have q4:=ho.h4;have q5:=ho.h5;have q6:=ho.h6;have q7:=ho.h7;have q8:=ho.h8;have q9:=ho.h9;have q10:=ho.h10;have q11:=ho.h11
     have hstr:=strs_out (gF:=gF) (fb:=fb) (rb:=rb) hrow (by omega) (by omega) (by omega)
     have hfw:=HFW.out
     have h:=HO.out.putf (f':={ x with params:=x.params++[s1,⟨#[113,57]⟩] }) (K':=10000) 1 (.slice Av2 (m1+2) cv2) rfl hstr HO.out.fl HO.out.fbd ⟨by show (x.params++[s1,⟨#[113,57]⟩]).length≤8;simp;omega,by show x.locals.length≤6;omega,hfw.2.2.2⟩
     exact WOut.any h rfl HNAF.out
   case inr.inr.inl=>
    have hnw:=news_strs HWN.out.pre.fl HNL.out
    have HNW:=Ω hnw
    have f2:=HWN.out.pre.fn.cell 2
    have hnl6:nl≤6:=by have:=HFW.out;have:=HNL.out;omega
    have HVS:Hid (sb<V12.heap.size):=Ω HWN.out.pre.src.lt
    clear hnw
    go_wp2_with (first|(at_builtin;refine wpList_append_any _ rfl (.const (.slice none 0 0)) (.tmp 84) _ rfl V12.heap.size 9 z0 _ 1 16 Tryz.underlying47 hi0 hz0 hz1 hz2 rfl (by decide) (.slice none 0 0) 0 [] rfl (World.ownsRow_nil _ _ _ _) Al nl cl (x.locals.map Value.string) rfl HNW.out.1 HNW.out.2.1 HNW.out.2.2 (by unfold maxLen;omega) (by omega) (Nat.le_refl _) V12.heap.size rfl ?_;intro v1 X1 hown1 hgrow1 hat1;obtain ⟨Av1,cv1,hv1⟩:=own_form hown1;subst hv1;obtain ⟨m1,hm1⟩:∃n,n=0+nl:=⟨_,rfl⟩;rw [←hm1] at hown1 ⊢;have hm9:m1≤6:=(by omega);have hg1:V12.grownBy X1 (some sb):=grown_none hgrow1;have HG1:=Ω hg1;have HO1:=Ω hown1;have HT1:=Ω (HWN.out.step hg1 (HWN.out.pre.src.grown hgrow1 (fun g e=>by cases e))).pre.src;have HM1:=Ω hm1;clear hm1 hown1 hgrow1 hat1 hg1)|(go_at_call 22;refine (odd_any X1 sb HT1.out).mono ?_;rintro e X2 ⟨⟨s1,rfl⟩,hs,hg⟩;have HT2:=Ω hs;have HG2:=Ω (HG1.out.trans hg);have HO2:=Ω ((HO1.out.kept hg (own_ne HO1.out HVS.out)).alloc (.cells #[.string s1] 9));have HZ2:Hid (V12.heap.size≤X2.heap.size):=Ω HG2.out.size;clear hs hg)|(at_builtin;refine wpList_append_any _ rfl (.tmp 85) (.tmp 88) _ rfl V12.heap.size 9 z0 _ 1 16 Tryz.underlying47 hi0 hz0 hz1 hz2 rfl (by decide) (.slice Av1 m1 cv1) m1 ([]++x.locals.map Value.string) rfl HO2.out (some ⟨X2.heap.size,0,none⟩) 1 1 [.string s1] rfl rfl (Or.inr ⟨⟨X2.heap.size,0,none⟩,rfl,World.news_of_block (cs:=#[.string s1]) (t:=9) (fr:=(0,0)) (Blk.new _ _ _)⟩) (by simp [Value.oneCell']) (by unfold maxLen;omega) (by omega) (by have:=HZ2.out;simp;omega) (X2.heap.size+1) (by simp) ?_;intro v2 X3 hown2 hgrow2 hat2;obtain ⟨Av2,cv2,hv2⟩:=own_form hown2;subst hv2;have hg3:=own_grown HG2.out HO2.out hgrow2 HVS.out;have hs3:=own_src HT2.out HO2.out hgrow2 HVS.out;have h1:=(HWN.out.step hg3 hs3).out (K:=10000) (by decide) (ob3 HOB.out) (by decide);have HO:=Ω h1;have HO3:=Ω hown2;have kc:=h1.fn.cell 2;have kz:=h1.fn.frozen 2;clear h1 hown2 hgrow2 hat2 hg3 hs3))
    go_meet
    case rel=>
     have hrow:X3.ownsRow V12.heap.size 9 1 (.slice Av2 (m1+1) cv2) (m1+1) ((x.locals++[s1]).map encT):=by have h:=HO3.out;rw [List.map_append];exact h
     have ho:=HWN.out.pre.ord;have hxl:=HWN.out.st.lt
     have q1:=ho.h1;have q2:=ho.h2;have q3:=ho.h3;have q4:=ho.h4;have q5:=ho.h5;have q6:=ho.h6;have q7:=ho.h7;have q8:=ho.h8;have q9:=ho.h9;have q10:=ho.h10;have q11:=ho.h11
     have hstr:=strs_out (gF:=gF) (fb:=fb) (rb:=rb) hrow (by omega) (by omega) (by omega)
     have hfw:=HFW.out
     have h:=HO.out.putf (f':={ x with locals:=x.locals++[s1] }) (K':=10000) 2 (.slice Av2 (m1+1) cv2) rfl HO.out.fp hstr HO.out.fbd ⟨by show x.params.length≤8;omega,by show (x.locals++[s1]).length≤6;simp;omega,hfw.2.2.2⟩
     exact WOut.any h rfl HNAF.out
   case inr.inr.inr.inl=>
    go_upto_region 22 with fail
    refine w3_any _ (by kernel_rfl) V12 HWN.out HNA.out HNF.out HOB.out _ (by intro _ _ t _ _ h;cases t <;> exact h) _ _ _ _ _ _ _ _ _ _ _ _ _ _ _ _ _ _ _ _ _ _ _ _ _ _ _ _ _ _ _ _ _ _ _ _ _ _ _ _ _ _ _ _ _ _ _ _ _ _ _ _ _ _ _ _ _ _ _ _ _ _ _ _ _ _ _ _ _ _ _ _ _ _ _ _ _ _ _ _ _ _ _ _ _ _ _ _ _ _ _ _ _ _ _ _ _ _ _ _ _ _ _ _ _ _ _ _ _ _ _ _ _ _ _ _ _ _ _ _ _ _ _ _ _ _ _ _ _ _ _ _ _ _ _ _ _ _ _ _ _ _ _ _ _ _ _ _ _ _ ?_
    intros
    rename_i X9 h9
    go_wp2
    go_meet
    case rel=>exact h9
   case inr.inr.inr.inr.inl=>
    go_upto_region 24 with fail
    refine w4_any _ (by kernel_rfl) V12 HWN.out HNA.out HNF.out HOB.out _ (by intro _ _ t _ _ h;cases t <;> exact h) _ _ _ _ _ _ _ _ _ _ _ _ _ _ _ _ _ _ _ _ _ _ _ _ _ _ _ _ _ _ _ _ _ _ _ _ _ _ _ _ _ _ _ _ _ _ _ _ _ _ _ _ _ _ _ _ _ _ _ _ _ _ _ _ _ _ _ _ _ _ _ _ _ _ _ _ _ _ _ _ _ _ _ _ _ _ _ _ _ _ _ _ _ _ _ _ _ _ _ _ _ _ _ _ _ _ _ _ _ _ _ _ _ _ _ _ _ _ _ _ _ _ _ _ _ _ _ _ _ _ _ _ _ _ _ _ _ _ _ _ _ _ _ _ _ _ _ _ _ _ ?_
    intros
    rename_i X9 h9
    go_wp2
    go_meet
    case rel=>exact h9
   case inr.inr.inr.inr.inr.inr.inl=>
    go_upto_if 120 with fail
    refine wp_cond_true (by rfl) ?_
    refine w6_any _ (by kernel_rfl) V12 HWN.out HNA.out HNF.out HOB.out _ (by intro _ _ t _ _ h;cases t <;> exact h) _ _ _ _ _ _ _ _ _ _ _ _ _ _ _ _ _ _ _ _ _ _ _ _ _ _ _ _ _ _ _ _ _ _ _ _ _ _ _ _ _ _ _ _ _ _ _ _ _ _ _ _ _ _ _ _ _ _ _ _ _ _ _ _ _ _ _ _ _ _ _ _ _ _ _ _ _ _ _ _ _ _ _ _ _ _ _ _ _ _ _ _ _ _ _ _ _ _ _ _ _ _ _ _ _ _ _ _ _ _ _ _ _ _ _ _ _ _ _ _ _ _ _ _ _ _ _ _ _ _ _ _ _ _ _ _ _ _ _ _ _ _ _ _ _ _ _ _ _ _ ?_
    intros
    rename_i X9 h9
    go_wp2
    go_meet
    case rel=>exact h9
   case inr.inr.inr.inr.inr.inl=>
    obtain ⟨x0_,x1_,x2_,x3_,x4_⟩:=HWN.out.st.c5;obtain ⟨z0_,z1_,z2_,z3_,z4_⟩:=HWN.out.st.z5
    have hxl:xb<V12.heap.size:=HWN.out.st.lt
    go_wp2
    go_meet
    case rel=>
     have hv:=below1 V12 (.cells #[.int .i64 kx,.string sx,.slice Ag ng cg,.slice none 0 0,.slice none 0 0] 45)
     have h0:=HWN.out.wrap (V:=V12.alloc (.cells #[.int .i64 kx,.string sx,.slice Ag ng cg,.slice none 0 0,.slice none 0 0] 45)) (y:=⟨5,⟨#[]⟩,[],[⟨kx,sx,l,[],[]⟩],[]⟩) (At':=some ⟨V12.heap.size,0,none⟩) (nt':=1) (ct':=1) (Ae':=none) (ne':=0) (ce':=0) (Ay:=none) (ny:=0) (cy:=0) hxl (grown_below' hv) (HWN.out.pre.src.below hv) (Nat.le_refl _) (Blk.new _ _ _) (SlR.nil_ _ _ _ _) (.inl ⟨rfl,rfl,rfl,rfl⟩)
     rw [World.setCell_alloc_past (.cells #[.int .i64 kx,.string sx,.slice Ag ng cg,.slice none 0 0,.slice none 0 0] 45) _ 0 _ hxl,World.setCell_alloc_past (.cells #[.int .i64 kx,.string sx,.slice Ag ng cg,.slice none 0 0,.slice none 0 0] 45) _ 1 _ (by simpa [World.setCell] using hxl),World.setCell_alloc_past (.cells #[.int .i64 kx,.string sx,.slice Ag ng cg,.slice none 0 0,.slice none 0 0] 45) _ 2 _ (by simpa [World.setCell] using hxl),World.setCell_alloc_past (.cells #[.int .i64 kx,.string sx,.slice Ag ng cg,.slice none 0 0,.slice none 0 0] 45) _ 3 _ (by simpa [World.setCell] using hxl),World.setCell_alloc_past (.cells #[.int .i64 kx,.string sx,.slice Ag ng cg,.slice none 0 0,.slice none 0 0] 45) _ 4 _ (by simpa [World.setCell] using hxl)] at h0
     have h:=h0.out (K:=10000) (by decide) (ob3 HOB.out) (by decide)
     exact WOut.any h rfl HNAF.out
   case inr.inr.inr.inr.inr.inr.inr.inl=>
    go_wp2
    go_meet
    case rel=>exact WOut.any (HWN.out.out (K:=10000) (by decide) (ob3 HOB.out) (by decide)) rfl HNAF.out
   case inr.inr.inr.inr.inr.inr.inr.inr=>
    go_wp2
    go_meet
    case rel=>exact WOut.any (HWN.out.out (K:=10000) (by decide) (ob3 HOB.out) (by decide)) rfl HNAF.out
  case rest=>
  obtain ⟨as_,f,y,A1',Ap',Al',Ab',Ax',At',Ae',na',e1,np',nl',nb',cp',cl',cb2,nx',nt',ne',cx',ct',ce',hna',ho⟩:=hcut
  have HO:=Ω ho;have HNA':=Ω hna'
  obtain ⟨V14,hV4⟩:∃v,v=wc:=⟨_,rfl⟩
  subst hV4
  clear ho hna' HWN
  obtain ⟨bb,hbb⟩:∃b,b=(decide (3<kd) && decide (kd<8)):=⟨_,rfl⟩
  have HBB:=Ω hbb
  clear hbb
  go_upto_region 32 with fail
  go_cut [140] (fun s wx=>s=.bool bb∧wx=V14)
  case first=>
   by_cases h3:3<kd
   ·have d1:decide ((kd:Int) > 3)=true:=dT (by omega)
    have d2:decide (3<(kd:Int))=true:=dT (by omega)
    by_cases h8:kd<8
    ·have d3:decide ((kd:Int)<8)=true:=dT (by omega)
     have hx:bb=true:=by rw [HBB.out,dT h3,dT h8];rfl
     have HXX:=Ω hx
     clear hx
     go_wp2
     go_meet
     case rel=>exact ⟨by rw [HXX.out],rfl⟩
    ·have d3:decide ((kd:Int)<8)=false:=dF (by omega)
     have hx:bb=false:=by rw [HBB.out,dF h8,Bool.and_false]
     have HXX:=Ω hx
     clear hx
     go_wp2
     go_meet
     case rel=>exact ⟨by rw [HXX.out],rfl⟩
   ·have d1:decide ((kd:Int) > 3)=false:=dF (by omega)
    have d2:decide (3<(kd:Int))=false:=dF (by omega)
    have hx:bb=false:=by rw [HBB.out,dF h3,Bool.false_and]
    have HXX:=Ω hx
    clear hx
    go_wp2
    go_meet
    case rel=>exact ⟨by rw [HXX.out],rfl⟩
  case rest=>
  obtain ⟨rfl,hw⟩:=hcut
  rw [hw]
  clear hw HBB
  go_upto_if 140 with fail
  go_cut [] (fun wx=>WAny 10100 w wx p.funcs rb gF pb fb xb B3 nf c2 css)
  case first=>
   cases bb with
   |false=>
    go_wp2
    go_meet
    case rel=>exact WOut.any (HO.out.more (by decide)) HNA'.out rfl
   |true=>
    have hnb:=slr_lenW HO.out.fbd
    have hnb9:nb'≤10000:=by rw [hnb];exact Nat.le_trans (body_lenW 69 false f.body) HO.out.few.2.2.2.1
    obtain ⟨bss,q1,q2,q3,q4,q5,q6⟩:=news_rows HO.out.fbd hnb (fun _ _=>ones_stmt)
    have HQ:=Ω (And.intro q1 (And.intro q2 (And.intro q3 (And.intro q4 (And.intro q5 q6)))))
    have HNB':=Ω hnb
    clear q1 q2 q3 q4 q5 q6 hnb
    have SO:Hid (∀X,Below V14.heap.size V14 X→(fun X=>X.cell? ⟨fb,3,none⟩=some (.slice Ab' nb' cb2)∧X.cell? ⟨xb,0,none⟩=some (.int .i64 y.kind)∧X.cell? ⟨xb,1,none⟩=some (.string y.name)∧X.cell? ⟨xb,2,none⟩=some (.slice Ax' nx' cx')∧X.cell? ⟨xb,3,none⟩=some (.slice At' nt' ct')∧X.cell? ⟨xb,4,none⟩=some (.slice Ae' ne' ce')) X):=Ω (fun X h=>have q:=HO.out.fn.below h HO.out.fn.lt;have s:=HO.out.st.below h HO.out.st.lt;⟨q.cell 3,s.cell 0,s.cell 1,s.cell 2,s.cell 3,s.cell 4⟩)
    go_upto_region 33 with fail
    refine wp_region_G 7 (fun X=>X.cell? ⟨fb,3,none⟩=some (.slice Ab' nb' cb2)∧X.cell? ⟨xb,0,none⟩=some (.int .i64 y.kind)∧X.cell? ⟨xb,1,none⟩=some (.string y.name)∧X.cell? ⟨xb,2,none⟩=some (.slice Ax' nx' cx')∧X.cell? ⟨xb,3,none⟩=some (.slice At' nt' ct')∧X.cell? ⟨xb,4,none⟩=some (.slice Ae' ne' ce')) (SO.out _ (Below.refl _ _).drew) ?_
    change GL _ _ _ _ _ 7 8 (Array.replicate 8 false) _ _
    have HB0:Hid (Below V14.heap.size V14 V14.drew):=Ω (Below.refl _ _).drew
    obtain ⟨X0,hX0⟩:∃X0,V14.drew=X0:=⟨_,rfl⟩
    rw [hX0] at HB0 ⊢
    clear hX0
    refine gj 0 (.pointer (some ⟨fb,3,none⟩)) ?_
    refine gS 1 (.slice Ab' nb' cb2) [7] ?_ ?_
    ·intro w2 hSw;obtain ⟨g0,g1,g2_,g3,g4,g5⟩:=hSw;go_simp
    refine gS 3 (.agg #[.int .i64 y.kind,.string y.name,.slice Ax' nx' cx',.slice At' nt' ct',.slice Ae' ne' ce']) [7] ?_ ?_
    ·intro w2 hSw;obtain ⟨g0,g1,g2_,g3,g4,g5⟩:=hSw;go_simp
    refine gR (rs:=[2,4]) ?_
    refine gC (fun K hK=>?_) (gC (fun K hK=>?_) AllReadyL.nil)
    ·refine step_append_any _ (by rfl) _ _ _ (by rfl) V14.heap.size 45 zs _ 5 96 Tryz.underlying43 hs0 hs1 hs2 hs3 rfl (by omega) (.slice none 0 0) 0 [] (by rfl) (World.ownsRow_nil _ _ _ _) Ab' nb' cb2 bss.flatten (by rfl) HQ.out.2.2.2.1 (HQ.out.2.2.2.2.1.imp id fun ⟨ad,ha,hc⟩=>⟨ad,ha,fun j u hu=>cell_keep HB0.out rfl (hc j u hu)⟩) HQ.out.2.2.2.2.2 (by unfold maxLen;omega) (by omega) HB0.out.size X0.heap.size rfl ?_
     intro v1 X1 hown hgr hat
     rw [show 0+nb'=nb' from Nat.zero_add _] at hown
     rw [List.nil_append] at hown
     obtain ⟨Av,cv,hv⟩:=own_form hown
     subst hv
     have hbl:Below X0.heap.size X0 X1:=⟨hgr.os,hgr.tape,hgr.output,hgr.size,fun q hq=>hgr.block q hq (fun e=>by cases e)⟩
     have HB1:=Ω (HB0.out.trans (hbl.mono HB0.out.size))
     have HR1:Hid (X1.ownsRow V14.heap.size 45 5 (.slice Av nb' cv) nb' bss.flatten):=Ω hown
     clear hown hgr hat hbl
     refine hK.out _ _ (SO.out _ HB1.out) ?_
     clear hK K
     try simp only [sG]
     refine gO 4 (fun K hK=>?_)
     go_simp
     obtain ⟨X2,hXX⟩:∃Z,X1.alloc (.cells #[.int .i64 y.kind,.string y.name,.slice Ax' nx' cx',.slice At' nt' ct',.slice Ae' ne' ce'] 45)=Z:=⟨_,rfl⟩
     rw [hXX]
     have hbl:Below X1.heap.size X1 X2:=by rw [←hXX];exact below1 _ _
     have hq:Blk X2 X1.heap.size 45 #[.int .i64 y.kind,.string y.name,.slice Ax' nx' cx',.slice At' nt' ct',.slice Ae' ne' ce']:=by rw [←hXX];exact Blk.new _ _ _
     obtain ⟨gx,hgg⟩:∃b,X1.heap.size=b:=⟨_,rfl⟩
     rw [hgg] at hq ⊢
     have HB2:=Ω (HB1.out.trans (hbl.mono HB1.out.size))
     have HX2:=Ω hq
     have HR2:=Ω (own_kept_any HR1.out hbl)
     clear hXX hbl hq hgg
     refine hK.out _ _ (SO.out _ HB2.out) ?_
     clear hK K
     try simp only [sG]
     refine gO 5 (fun K hK=>?_)
     refine step_append_any _ (by rfl) _ _ _ (by rfl) V14.heap.size 45 zs _ 5 96 Tryz.underlying43 hs0 hs1 hs2 hs3 rfl (by omega) (.slice Av nb' cv) nb' bss.flatten (by rfl) HR2.out (some ⟨gx,0,none⟩) 1 1 [.int .i64 y.kind,.string y.name,.slice Ax' nx' cx',.slice At' nt' ct',.slice Ae' ne' ce'] (by rfl) rfl (.inr ⟨⟨gx,0,none⟩,rfl,World.news_of_block HX2.out⟩) (by simp [Value.oneCell']) (by unfold maxLen;omega) (by omega) HB2.out.size X2.heap.size rfl ?_
     intro v2 X3 hown hgr hat
     obtain ⟨Aw,cw,hv⟩:=own_form hown
     subst hv
     have hbl:Below V14.heap.size V14 X3:=HB2.out.trans ⟨hgr.os,hgr.tape,hgr.output,hgr.size,fun q hq=>hgr.block q (ltle hq HB2.out.size) (fun e=>by have h1:=(HR2.out.lt q e.symm).1;omega)⟩
     have HB3:=Ω hbl;have HR3:=Ω hown
     clear hown hgr hat hbl
     refine hK.out _ _ (SO.out _ HB3.out) ?_
     clear hK K
     try simp only [sG]
     refine gj 6 (.pointer (some ⟨fb,3,none⟩)) ?_ (ht:=rfl)
     try simp only [sG]
     refine gL (fun K hK=>?_)
     have hf3:=HO.out.fn.below HB3.out HO.out.fn.lt
     have kc:=hf3.cell 3;have kz:=hf3.frozen 3
     clear hf3
     go_simp
     refine hK.out _ _ ?_
     clear hK K
     try simp only [sG]
     go_wp2
     go_meet
     case rel=>exact WOut.any (HO.out.body HB3.out HNB'.out HQ.out.1 HQ.out.2.1 HQ.out.2.2.1 rfl HR3.out (Nat.le_refl _)) HNA'.out rfl
    ·go_simp
     obtain ⟨X1,hXX⟩:∃Z,X0.alloc (.cells #[.int .i64 y.kind,.string y.name,.slice Ax' nx' cx',.slice At' nt' ct',.slice Ae' ne' ce'] 45)=Z:=⟨_,rfl⟩
     rw [hXX]
     have hbl:Below X0.heap.size X0 X1:=by rw [←hXX];exact below1 _ _
     have hq:Blk X1 X0.heap.size 45 #[.int .i64 y.kind,.string y.name,.slice Ax' nx' cx',.slice At' nt' ct',.slice Ae' ne' ce']:=by rw [←hXX];exact Blk.new _ _ _
     obtain ⟨gx,hgg⟩:∃b,X0.heap.size=b:=⟨_,rfl⟩
     rw [hgg] at hq ⊢
     have HB1:=Ω (HB0.out.trans (hbl.mono HB0.out.size))
     have HX1:=Ω hq
     clear hXX hbl hq hgg
     refine hK.out _ _ (SO.out _ HB1.out) ?_
     clear hK K
     try simp only [sG]
     refine gO 2 (fun K hK=>?_)
     refine step_append_any _ (by rfl) _ _ _ (by rfl) V14.heap.size 45 zs _ 5 96 Tryz.underlying43 hs0 hs1 hs2 hs3 rfl (by omega) (.slice none 0 0) 0 [] (by rfl) (World.ownsRow_nil _ _ _ _) Ab' nb' cb2 bss.flatten (by rfl) HQ.out.2.2.2.1 (HQ.out.2.2.2.2.1.imp id fun ⟨ad,ha,hc⟩=>⟨ad,ha,fun j u hu=>cell_keep HB1.out rfl (hc j u hu)⟩) HQ.out.2.2.2.2.2 (by unfold maxLen;omega) (by omega) HB1.out.size X1.heap.size rfl ?_
     intro v1 X2 hown hgr hat
     rw [show 0+nb'=nb' from Nat.zero_add _] at hown
     rw [List.nil_append] at hown
     obtain ⟨Av,cv,hv⟩:=own_form hown
     subst hv
     have hbl:Below X1.heap.size X1 X2:=⟨hgr.os,hgr.tape,hgr.output,hgr.size,fun q hq=>hgr.block q hq (fun e=>by cases e)⟩
     have HB2:=Ω (HB1.out.trans (hbl.mono HB1.out.size))
     have HR2:Hid (X2.ownsRow V14.heap.size 45 5 (.slice Av nb' cv) nb' bss.flatten):=Ω hown
     have HX2:=Ω (HX1.out.below hbl HX1.out.lt)
     clear hown hgr hat hbl
     refine hK.out _ _ (SO.out _ HB2.out) ?_
     clear hK K
     try simp only [sG]
     refine gO 5 (fun K hK=>?_)
     refine step_append_any _ (by rfl) _ _ _ (by rfl) V14.heap.size 45 zs _ 5 96 Tryz.underlying43 hs0 hs1 hs2 hs3 rfl (by omega) (.slice Av nb' cv) nb' bss.flatten (by rfl) HR2.out (some ⟨gx,0,none⟩) 1 1 [.int .i64 y.kind,.string y.name,.slice Ax' nx' cx',.slice At' nt' ct',.slice Ae' ne' ce'] (by rfl) rfl (.inr ⟨⟨gx,0,none⟩,rfl,World.news_of_block HX2.out⟩) (by simp [Value.oneCell']) (by unfold maxLen;omega) (by omega) HB2.out.size X2.heap.size rfl ?_
     intro v2 X3 hown hgr hat
     obtain ⟨Aw,cw,hv⟩:=own_form hown
     subst hv
     have hbl:Below V14.heap.size V14 X3:=HB2.out.trans ⟨hgr.os,hgr.tape,hgr.output,hgr.size,fun q hq=>hgr.block q (ltle hq HB2.out.size) (fun e=>by have h1:=(HR2.out.lt q e.symm).1;omega)⟩
     have HB3:=Ω hbl;have HR3:=Ω hown
     clear hown hgr hat hbl
     refine hK.out _ _ (SO.out _ HB3.out) ?_
     clear hK K
     try simp only [sG]
     refine gj 6 (.pointer (some ⟨fb,3,none⟩)) ?_ (ht:=rfl)
     try simp only [sG]
     refine gL (fun K hK=>?_)
     have hf3:=HO.out.fn.below HB3.out HO.out.fn.lt
     have kc:=hf3.cell 3;have kz:=hf3.frozen 3
     clear hf3
     go_simp
     refine hK.out _ _ ?_
     clear hK K
     try simp only [sG]
     go_wp2
     go_meet
     case rel=>exact WOut.any (HO.out.body HB3.out HNB'.out HQ.out.1 HQ.out.2.1 HQ.out.2.2.1 rfl HR3.out (Nat.le_refl _)) HNA'.out rfl
  case rest=>
  clear HO HNA'
  obtain ⟨as2,f2,y2,A1',Ap',Al',Ab',Ax',At',Ae',na',e2,np',nl',nb',cp',cl',cb2,nx',nt',ne',cx',ct',ce',hna',ho⟩:=hcut
  have p0:=ho.prg.cell 0;have p1:=ho.prg.cell 1
  have f0:=ho.fn.cell 0
  have f1:=ho.fn.cell 1
  have f2:=ho.fn.cell 2
  have f3:=ho.fn.cell 3
  have r0:=ho.res.cell 0;have r1:=ho.res.cell 1;have rf0:=ho.res.frozen 0;have rf1:=ho.res.frozen 1
  have hro:wc.ownsRow B3 49 4 (.slice (some ⟨gF,0,none⟩) nf c2) nf css.flatten:=by have h:=ho.funs.row;rw [HNAF.out] at h;exact h
  have hcx:∀j,j<4→∃u,wc.cell? ⟨gF,k*4+j,none⟩=some u:=fun j hj=>own_cell hro _ (by omega)
  obtain ⟨u0_,e0_⟩:=hcx 0 (by omega)
  obtain ⟨u1_,e1_⟩:=hcx 1 (by omega)
  obtain ⟨u2_,e2_⟩:=hcx 2 (by omega)
  obtain ⟨u3_,e3_⟩:=hcx 3 (by omega)
  have e0':wc.cell? ⟨gF,k*4,none⟩=some u0_:=e0_
  have g0_:wc.frozen? ⟨gF,k*4,none⟩=false:=hro.frozenAt _
  have g1_:wc.frozen? ⟨gF,k*4+1,none⟩=false:=hro.frozenAt _
  have g2_:wc.frozen? ⟨gF,k*4+2,none⟩=false:=hro.frozenAt _
  have g3_:wc.frozen? ⟨gF,k*4+3,none⟩=false:=hro.frozenAt _
  have ho_:=ho.ord
  have hne1:gF≠rb:=by omega
  have hne2:rb≠gF:=by omega
  have hne3:fb≠gF:=by omega
  have hne4:gF≠fb:=by omega
  have hne5:pb≠gF:=by omega
  have hne6:gF≠pb:=by omega
  have hne7:rb≠pb:=by omega
  have hne8:pb≠rb:=by omega
  have HO:=Ω ho;have HNA':=Ω hna'
  clear ho hna' hro hcx e0_ ho_
  go_wp2
  refine bodyPost_ret (v:=.agg #[.slice A1' na' e2,.slice (some ⟨gF,0,none⟩) nf c2]) (results_cell_row (p:=2) (ty:=27) (by kernel_rfl) _ _ rb 27 _ (0,0) _ rfl (((((((HO.out.res.far (p:=⟨gF,k*4,none⟩) hne2 _).far (p:=⟨gF,k*4+1,none⟩) hne2 _).far (p:=⟨gF,k*4+2,none⟩) hne2 _).far (p:=⟨gF,k*4+3,none⟩) hne2 _).set_ 0 _).set_ 1 _)) Tryz.underlying27 rfl (by kernel_rfl)) rfl ?_
  exact wild_done HO.out HNA'.out HNF.out hkl ⟨HGN.out.few,fun g hg=>by have h:=HGN.out.func 70 hg;exact ⟨h.1,h.2.1,h.2.2.2⟩⟩ rfl _ rfl
end
end Go.Proofs.YtmignlclfbaifaaGreat
