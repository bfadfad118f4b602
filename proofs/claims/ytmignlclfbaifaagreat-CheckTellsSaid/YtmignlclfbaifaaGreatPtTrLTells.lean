/- The law CheckTells: programs are checked as the document says. Printed by wip/gen_trltells.py. -/
import Derived.Test.YtmignlclfbaifaaGreatPtFrWild
import Derived.Test.YtmignlclfbaifaaGreatPtRfChk
import Derived.Test.YtmignlclfbaifaaGreatPtTrSmall
import Derived.Test.YtmignlclfbaifaaGreatPtTrAw
namespace Go.Proofs.YtmignlclfbaifaaGreat
open Go.RowKit
theorem ProgPost.rowsF {w w':World} {e:Ending} (h:ProgPost w e w'):∃(p:LProg) (A1 A2:Option Addr) (c1 c2:Nat),e=.returned (.agg #[.slice A1 p.arrays.length c1,.slice A2 p.funcs.length c2])∧GenP p∧Below w.heap.size w w'∧
  SlR w' (· < w'.heap.size) 2 RArr (.slice A1 p.arrays.length c1) p.arrays∧SlR w' (· < w'.heap.size) 4 (RFunc 8 w' (· < w'.heap.size)) (.slice A2 p.funcs.length c2) p.funcs:=by
 obtain ⟨p,A1,A2,c1,c2,B1,lo,B3,css1,css2,he,hg,hb,h1,h2,h3,hA,hlt,hF⟩:=h
 exact ⟨p,A1,A2,c1,c2,he,hg,hb,(hA.slr mono_arr).imp (fun _ h=>h.2) (fun _ _=>rfl) fun _ _ _ r=>r,hF.slr (mono_func 8) (fun _ h=>h.2.1) fun g e=>(hF.row.lt g e).2⟩
def Lies (X:World) (A1 A2:Option Addr) (n1 n2 c1 c2:Nat):Prop:=∃(d:Nat) (p:LProg),n1=p.arrays.length∧n2=p.funcs.length∧SlR X (· < X.heap.size) 2 RArr (.slice A1 n1 c1) p.arrays∧SlR X (· < X.heap.size) 4 (RFunc (d+1) X (· < X.heap.size)) (.slice A2 n2 c2) p.funcs∧FewP (d+1) p
theorem Lies.below {X Y:World} {A1 A2:Option Addr} {n1 n2 c1 c2:Nat} (h:Lies X A1 A2 n1 n2 c1 c2) (hb:Below X.heap.size X Y):Lies Y A1 A2 n1 n2 c1 c2:=by
 obtain ⟨d,p,e1,e2,ha,hf,hw⟩:=h
 have up:∀b,b<X.heap.size→b<Y.heap.size:=fun b h=>ltle h hb.size
 have kp:Keeps (· < X.heap.size) X Y:=Keeps.of_below hb
 exact ⟨d,p,e1,e2,ha.imp up kp (fun _ _ _ r=>r),hf.imp up kp (fun _ _ _ r=>r.imp up kp),hw⟩
structure Agree (X:World) (A1 A2:Option Addr) (n1 n2 c1 c2:Nat) (s:ByteArray) (e i n pl ar:Int):Prop where
 ck:∀Y,Below X.heap.size X Y→Calls Tryz.prog 13 #[.agg #[.slice A1 n1 c1,.slice A2 n2 c2]] Y fun r w'=>r=.returned (.tuple #[.int .i64 e,.agg #[.int .i64 i,.int .i64 n]])∧Below Y.heap.size Y w'
 rck:∀Y,Below X.heap.size X Y→Calls Tryz.prog 14 #[.agg #[.slice A1 n1 c1,.slice A2 n2 c2]] Y fun r w'=>r=.returned (.tuple #[.int .i64 e,.agg #[.int .i64 i,.int .i64 n]])∧Below Y.heap.size Y w'
 fpl:∀Y,Below X.heap.size X Y→Calls Tryz.prog 15 #[.agg #[.slice A1 n1 c1,.slice A2 n2 c2],.string s] Y fun r w'=>r=.returned (.int .i64 pl)∧Below Y.heap.size Y w'
 frpl:∀Y,Below X.heap.size X Y→Calls Tryz.prog 16 #[.agg #[.slice A1 n1 c1,.slice A2 n2 c2],.string s] Y fun r w'=>r=.returned (.int .i64 pl)∧Below Y.heap.size Y w'
 far_:∀Y,Below X.heap.size X Y→Calls Tryz.prog 17 #[.agg #[.slice A1 n1 c1,.slice A2 n2 c2],.string s] Y fun r w'=>r=.returned (.int .i64 ar)∧Below Y.heap.size Y w'
 frar:∀Y,Below X.heap.size X Y→Calls Tryz.prog 18 #[.agg #[.slice A1 n1 c1,.slice A2 n2 c2],.string s] Y fun r w'=>r=.returned (.int .i64 ar)∧Below Y.heap.size Y w'
theorem agree {X:World} {A1 A2:Option Addr} {n1 n2 c1 c2:Nat} (h:Lies X A1 A2 n1 n2 c1 c2) (s:ByteArray):∃e i n pl ar:Int,Agree X A1 A2 n1 n2 c1 c2 s e i n pl ar:=by
 obtain ⟨d,p,rfl,rfl,ha,hf,hw⟩:=h
 have up:∀Y,Below X.heap.size X Y→SlR Y (· < Y.heap.size) 2 RArr (.slice A1 p.arrays.length c1) p.arrays∧SlR Y (· < Y.heap.size) 4 (RFunc (d+1) Y (· < Y.heap.size)) (.slice A2 p.funcs.length c2) p.funcs:=fun Y hb=>
  ⟨ha.imp (fun _ h=>ltle h hb.size) (Keeps.of_below hb) (fun _ _ _ r=>r),hf.imp (fun _ h=>ltle h hb.size) (Keeps.of_below hb) (fun _ _ _ r=>r.imp (fun b h=>ltle h hb.size) (Keeps.of_below hb))⟩
 exact ⟨(checkE (d+1) p).1,(checkE (d+1) p).2.1,(checkE (d+1) p).2.2,placeL p s,arrayL p s,fun Y hb=>check_any d p A1 A2 c1 c2 Y (up Y hb).1 (up Y hb).2 hw,fun Y hb=>check_doc d p A1 A2 _ _ c1 c2 rfl rfl Y (up Y hb).1 (up Y hb).2 hw,fun Y hb=>place_any (d+1) p A1 A2 _ c1 c2 s Y (up Y hb).2,fun Y hb=>place_doc (d+1) p A1 A2 _ _ c1 c2 rfl s Y (up Y hb).2,fun Y hb=>arrayL_any p A1 A2 _ c1 c2 s Y (up Y hb).1,fun Y hb=>array_doc p A1 A2 _ _ c1 c2 rfl s Y (up Y hb).1⟩
theorem hb_ints {X Y:World} {v:Value} {l:List Int} (h:SlR X (· < X.heap.size) 1 RInt v l) (hb:Below X.heap.size X Y):SlR Y (· < Y.heap.size) 1 RInt v l:=h.imp (fun _ h=>ltle h hb.size) (Keeps.of_below hb) (fun _ _ _ r=>r)
section
set_option maxRecDepth 100000
set_option maxHeartbeats 16000000
theorem checkTells_walk (v0 v1:Value) (nm:ByteArray) (which:Int) (l0:List Int) (hI0:∀x∈l0,I64 x) (l1:List Int) (hI1:∀x∈l1,I64 x) (W0:World) (hr0:SlR W0 (· < W0.heap.size) 1 RInt v0 l0) (hr1:SlR W0 (· < W0.heap.size) 1 RInt v1 l1) (ht:I64 which) :
  Calls Tryz.prog 3 #[v0,v1,.string nm,.int .i64 which] W0 fun e w'=>e=.returned (.bool true)∧Below W0.heap.size W0 w':=by
 obtain ⟨R0,d0,hv0,_,_⟩:=hr0.val
 subst hv0
 obtain ⟨R1,d1,hv1,_,_⟩:=hr1.val
 subst hv1
 have H0:=Ω hr0
 have H1:=Ω hr1
 have HT:=Ω ht
 have HI0:=Ω hI0
 have HI1:=Ω hI1
 obtain ⟨m0,hm0⟩:∃n,n=l0.length:=⟨_,rfl⟩
 obtain ⟨m1,hm1⟩:∃n,n=l1.length:=⟨_,rfl⟩
 have HWD:Hid (∀X,Below W0.heap.size W0 X→Calls Tryz.prog 10 #[.slice R0 m0 d0] X (WildPost X)):=Ω (fun X hX=>by rw [hm0];exact wild_prog l0 R0 d0 X (hb_ints hr0 hX) hI0)
 have HPG:Hid (∀(fr:Bool) X,Below W0.heap.size W0 X→Calls Tryz.prog 11 #[.slice R1 m1 d1,.bool fr] X (ProgPost X)):=Ω (fun fr X hX=>by rw [hm1];exact prog_any fr l1 R1 d1 X (hb_ints hr1 hX) hI1)
 rw [←hm0,←hm1]
 clear hr0 hr1 ht hI0 hI1 hm0 hm1 H0 H1 HI0 HI1
 go_enter Tryz.func3,Tryz.ntmps3
 go_upto_region 2 with (go_at_call 9;refine (awake5_any W0).mono ?_;rintro e W1 ⟨rfl,hb1⟩)
 have HB1:=Ω hb1
 clear hb1
 go_upto_region 3 with (go_at_call 10;refine (HWD.out W1 HB1.out).mono ?_;rintro e W2 ⟨p,A1,A2,c1,c2,rfl,hb,ha,hf,hw⟩)
 refine wp_world ?_
 intro X1 hX1
 have hbx:Below W2.heap.size W2 X1:=by rw [←hX1];exact below1 _ _
 obtain ⟨n1,hn1⟩:∃n,n=p.arrays.length:=⟨_,rfl⟩
 obtain ⟨n2,hn2⟩:∃n,n=p.funcs.length:=⟨_,rfl⟩
 have hp1:Blk X1 W2.heap.size 27 #[.slice A1 n1 c1,.slice A2 n2 c2]:=by rw [←hX1,hn1,hn2];exact Blk.new _ _ _
 rw [←hn1] at ha ⊢
 rw [←hn2] at hf ⊢
 have HL1:Hid (Lies X1 A1 A2 n1 n2 c1 c2):=Ω (Lies.below ⟨69,p,hn1,hn2,ha,hf,hw⟩ hbx)
 have HBX1:Hid (Below W0.heap.size W0 X1):=Ω (HB1.out.trans ((hb.trans (hbx.mono hb.size)).mono HB1.out.size))
 obtain ⟨b1,hb1⟩:∃b,W2.heap.size=b:=⟨_,rfl⟩
 rw [hb1] at hp1 ⊢
 have HP1:=Ω hp1
 clear hX1 hbx hn1 hn2 hp1 hb1 hb ha hf hw HB1 HWD
 go_upto_region 4 with (go_at_call 11;refine (HPG.out false X1 HBX1.out).mono ?_;intro e W3 hp;obtain ⟨p3,E1,E2,k1,k2,rfl,hgen,hb,ha,hf⟩:=hp.rowsF)
 refine wp_world ?_
 intro X2 hX2
 have hbx:Below W3.heap.size W3 X2:=by rw [←hX2];exact below1 _ _
 obtain ⟨a1,ha1⟩:∃n,n=p3.arrays.length:=⟨_,rfl⟩
 obtain ⟨a2,ha2⟩:∃n,n=p3.funcs.length:=⟨_,rfl⟩
 have hp2:Blk X2 W3.heap.size 27 #[.slice E1 a1 k1,.slice E2 a2 k2]:=by rw [←hX2,ha1,ha2];exact Blk.new _ _ _
 rw [←ha1] at ha ⊢
 rw [←ha2] at hf ⊢
 have hbb:Below X1.heap.size X1 X2:=hb.trans (hbx.mono hb.size)
 have haX:SlR X2 (· < X2.heap.size) 2 RArr (.slice E1 a1 k1) p3.arrays:=ha.imp (fun b h=>ltle h hbx.size) (Keeps.of_below hbx) (fun _ _ _ r=>r)
 have hfX:SlR X2 (· < X2.heap.size) 4 (RFunc 8 X2 (· < X2.heap.size)) (.slice E2 a2 k2) p3.funcs:=hf.imp (fun b h=>ltle h hbx.size) (Keeps.of_below hbx) (fun _ _ _ r=>r.imp (fun b h=>ltle h hbx.size) (Keeps.of_below hbx))
 have HL2:Hid (Lies X2 E1 E2 a1 a2 k1 k2):=Ω ⟨7,p3,ha1,ha2,haX,hfX,hgen.fewP 8⟩
 have HBX2:Hid (Below W0.heap.size W0 X2):=Ω (HBX1.out.trans (hbb.mono HBX1.out.size))
 have HL1':Hid (Lies X2 A1 A2 n1 n2 c1 c2):=Ω (HL1.out.below hbb)
 have HP1':=Ω (HP1.out.below hbb HP1.out.lt)
 obtain ⟨b2,hb2⟩:∃b,W3.heap.size=b:=⟨_,rfl⟩
 rw [hb2] at hp2 ⊢
 have HP2:=Ω hp2
 have HBE:Hid (Calls Tryz.prog 12 #[.agg #[.slice E1 a1 k1,.slice E2 a2 k2],.int .i64 which,.string nm] X2 (BentPost 8 p3 X2)):=Ω (bent_any 8 p3 E1 E2 a1 a2 k1 k2 ha1 ha2 which HT.out nm X2 haX hfX (by rw [ha1];have:=hgen.fewA;omega) (by rw [ha2];have:=hgen.few;omega) (fun f hf=>by have:=hgen.func 8 hf;omega))
 have HGN:=Ω hgen
 have e0:=hp2.cell 0;have e1:=hp2.cell 1
 clear hX2 hbx ha1 ha2 hp2 hb2 hbb hb ha hf hgen haX hfX HL1 HP1 HBX1 HT
 go_upto_region 5 with (go_at_call 12;refine HBE.out.mono ?_;rintro e W4 ⟨q,F1,F2,j1,j2,rfl,hb,ha,hf,hq1,hq2,hq3⟩;have HQQ:=Ω (And.intro hq1 (And.intro hq2 hq3));clear hq1 hq2 hq3)
 refine wp_world ?_
 intro X3 hX3
 have hbx:Below W4.heap.size W4 X3:=by rw [←hX3];exact below1 _ _
 obtain ⟨g1,hg1⟩:∃n,n=q.arrays.length:=⟨_,rfl⟩
 obtain ⟨g2,hg2⟩:∃n,n=q.funcs.length:=⟨_,rfl⟩
 have hp3:Blk X3 W4.heap.size 27 #[.slice F1 g1 j1,.slice F2 g2 j2]:=by rw [←hX3,hg1,hg2];exact Blk.new _ _ _
 have hfew:FewP 8 q:=few_of (by rw [HQQ.out.1];have:=HGN.out.fewA;omega) (by rw [HQQ.out.2.1];have:=HGN.out.few;omega) (fun f hf=>by
  obtain ⟨f0,h1,h2,h3,h4⟩:=HQQ.out.2.2 f hf
  have h5:=HGN.out.func 8 h1
  rw [h4]
  omega)
 rw [←hg1] at ha ⊢
 rw [←hg2] at hf ⊢
 have hbb:Below X2.heap.size X2 X3:=hb.trans (hbx.mono hb.size)
 have HL3:Hid (Lies X3 F1 F2 g1 g2 j1 j2):=Ω (Lies.below ⟨7,q,hg1,hg2,ha,hf,hfew⟩ hbx)
 have HBX3:Hid (Below W0.heap.size W0 X3):=Ω (HBX2.out.trans (hbb.mono HBX2.out.size))
 have HL1:Hid (Lies X3 A1 A2 n1 n2 c1 c2):=Ω (HL1'.out.below hbb)
 have HP1:=Ω (HP1'.out.below hbb HP1'.out.lt)
 have HL2':Hid (Lies X3 E1 E2 a1 a2 k1 k2):=Ω (HL2.out.below hbb)
 have HP2':=Ω (HP2.out.below hbb HP2.out.lt)
 obtain ⟨b3,hb3⟩:∃b,W4.heap.size=b:=⟨_,rfl⟩
 rw [hb3] at hp3 ⊢
 have HP3:=Ω hp3
 clear hX3 hbx hg1 hg2 hp3 hb3 hbb hb ha hf hfew HQQ e0 e1 HL2 HP2 HL1' HP1' HBX2 HBE HGN
 have SO:Hid (∀X,Below X3.heap.size X3 X→(fun X=>X.cell? ⟨b1,0,none⟩=some (.slice A1 n1 c1)∧X.cell? ⟨b1,1,none⟩=some (.slice A2 n2 c2)∧X.cell? ⟨b2,0,none⟩=some (.slice E1 a1 k1)∧X.cell? ⟨b2,1,none⟩=some (.slice E2 a2 k2)∧X.cell? ⟨b3,0,none⟩=some (.slice F1 g1 j1)∧X.cell? ⟨b3,1,none⟩=some (.slice F2 g2 j2)) X):=Ω (fun X h=>have q1:=HP1.out.below h HP1.out.lt;have q2:=HP2'.out.below h HP2'.out.lt;have q3:=HP3.out.below h HP3.out.lt;⟨q1.cell 0,q1.cell 1,q2.cell 0,q2.cell 1,q3.cell 0,q3.cell 1⟩)
 go_cut [33,34,35] (fun s t u wx=>∃gq:Nat,s=.slice (some ⟨gq,0,none⟩) 4 4∧t=.int .i64 4∧u=.int .i64 0∧Below W0.heap.size W0 wx∧∀i,i<4→∃(B1 B2:Option Addr) (m1 m2 e1 e2:Nat),Lies wx B1 B2 m1 m2 e1 e2∧∀X,Below wx.heap.size wx X→X.cell? ⟨gq,i*2,none⟩=some (.slice B1 m1 e1)∧X.cell? ⟨gq,i*2+1,none⟩=some (.slice B2 m2 e2))
 case first=>
  refine wp_region_G 5 (fun X=>X.cell? ⟨b1,0,none⟩=some (.slice A1 n1 c1)∧X.cell? ⟨b1,1,none⟩=some (.slice A2 n2 c2)∧X.cell? ⟨b2,0,none⟩=some (.slice E1 a1 k1)∧X.cell? ⟨b2,1,none⟩=some (.slice E2 a2 k2)∧X.cell? ⟨b3,0,none⟩=some (.slice F1 g1 j1)∧X.cell? ⟨b3,1,none⟩=some (.slice F2 g2 j2)) (SO.out _ (Below.refl _ _).drew) ?_
  change GL _ _ _ _ _ 5 8 (Array.replicate 8 false) _ _
  have HY0:Hid (Below X3.heap.size X3 X3.drew):=Ω (Below.refl _ _).drew
  obtain ⟨Y0,hY0⟩:∃Y0,X3.drew=Y0:=⟨_,rfl⟩
  rw [hY0] at HY0 ⊢
  clear hY0
  refine gS 0 (.agg #[.slice A1 n1 c1,.slice A2 n2 c2]) [5] ?_ ?_
  ·intro w2 hSw;obtain ⟨z0,z1,z2,z3,z4,z5⟩:=hSw;go_simp
  refine gS 1 (.agg #[.slice E1 a1 k1,.slice E2 a2 k2]) [5] ?_ ?_
  ·intro w2 hSw;obtain ⟨z0,z1,z2,z3,z4,z5⟩:=hSw;go_simp
  refine gS 2 (.agg #[.slice F1 g1 j1,.slice F2 g2 j2]) [5] ?_ ?_
  ·intro w2 hSw;obtain ⟨z0,z1,z2,z3,z4,z5⟩:=hSw;go_simp
  refine gj 3 (.slice R1 m1 d1) ?_
  refine gj 7 (.int .i64 0) ?_
  refine gO 4 (fun K hK=>?_)
  go_simp
  refine (HPG.out true Y0 (HBX3.out.trans (HY0.out.mono HBX3.out.size))).mono ?_
  intro e Y1 hp
  obtain ⟨p4,D1,D2,t1,t2,rfl,hgen,hb,ha,hf⟩:=hp.rowsF
  obtain ⟨s1,hs1⟩:∃n,n=p4.arrays.length:=⟨_,rfl⟩
  obtain ⟨s2,hs2⟩:∃n,n=p4.funcs.length:=⟨_,rfl⟩
  rw [←hs1] at ha ⊢
  rw [←hs2] at hf ⊢
  have HY1:=Ω (HY0.out.trans (hb.mono HY0.out.size))
  have HL4:Hid (Lies Y1 D1 D2 s1 s2 t1 t2):=Ω ⟨7,p4,hs1,hs2,ha,hf,hgen.fewP 8⟩
  clear hp hgen hb ha hf hs1 hs2
  refine hK.out _ _ (SO.out _ HY1.out) ?_
  clear hK K
  try simp only [sG]
  refine gR (rs:=[5]) ?_
  refine AllReadyL.last rfl (by kernel_rfl) (fun K hK=>?_)
  go_simp
  obtain ⟨Y2,hXX⟩:∃Z,Y1.alloc (.cells #[.slice A1 n1 c1,.slice A2 n2 c2,.slice E1 a1 k1,.slice E2 a2 k2,.slice F1 g1 j1,.slice F2 g2 j2,.slice D1 s1 t1,.slice D2 s2 t2] 27)=Z:=⟨_,rfl⟩
  rw [hXX]
  have hbl:Below Y1.heap.size Y1 Y2:=by rw [←hXX];exact below1 _ _
  have hq:Blk Y2 Y1.heap.size 27 #[.slice A1 n1 c1,.slice A2 n2 c2,.slice E1 a1 k1,.slice E2 a2 k2,.slice F1 g1 j1,.slice F2 g2 j2,.slice D1 s1 t1,.slice D2 s2 t2]:=by rw [←hXX];exact Blk.new _ _ _
  obtain ⟨gq,hgg⟩:∃b,Y1.heap.size=b:=⟨_,rfl⟩
  rw [hgg] at hq ⊢
  have HY2:=Ω (HY1.out.trans (hbl.mono HY1.out.size));have HQ:=Ω hq;have HL4':=Ω (HL4.out.below hbl)
  clear hXX hbl hq hgg
  refine hK.out _ _ ?_
  clear hK K
  try simp only [sG]
  refine wpAnyL_ready (rs:=[6]) (by kernel_rfl) (by simp) ?_
  refine AllReadyL.past rfl (by kernel_rfl) (fun K hK=>?_)
  go_simp
  refine hK.out _ _ ?_
  clear hK K
  try simp only [sG]
  refine wpAnyL_done (by kernel_rfl) ?_ _
  go_wp2
  go_meet
  case rel=>
   refine ⟨gq,rfl,rfl,rfl,HBX3.out.trans (HY2.out.mono HBX3.out.size),fun i hi=>?_⟩
   have hcl:∀X,Below Y2.heap.size Y2 X→∀j,X.cell? ⟨gq,j,none⟩=(#[.slice A1 n1 c1,.slice A2 n2 c2,.slice E1 a1 k1,.slice E2 a2 k2,.slice F1 g1 j1,.slice F2 g2 j2,.slice D1 s1 t1,.slice D2 s2 t2]:Array Value)[j]?:=fun X h j=>(HQ.out.below h HQ.out.lt).cell j
   rcases (by omega:i=0∨i=1∨i=2∨i=3) with rfl|rfl|rfl|rfl
   ·exact ⟨A1,A2,n1,n2,c1,c2,HL1.out.below HY2.out,fun X h=>⟨hcl X h 0,hcl X h 1⟩⟩
   ·exact ⟨E1,E2,a1,a2,k1,k2,HL2'.out.below HY2.out,fun X h=>⟨hcl X h 2,hcl X h 3⟩⟩
   ·exact ⟨F1,F2,g1,g2,j1,j2,HL3.out.below HY2.out,fun X h=>⟨hcl X h 4,hcl X h 5⟩⟩
   ·exact ⟨D1,D2,s1,s2,t1,t2,HL4'.out,fun X h=>⟨hcl X h 6,hcl X h 7⟩⟩
 case rest=>
 obtain ⟨gq,rfl,rfl,rfl,hbw,hall⟩:=hcut
 obtain ⟨Z,hZZ⟩:∃v,v=wc:=⟨_,rfl⟩
 subst hZZ
 have HBW:=Ω hbw;have HALL:=Ω hall
 clear hbw hall HPG HBX3 HL1 HL2' HL3 HP1 HP2' HP3
 go_wp2
 go_loopw [35] (fun s wr=>∃i:Nat,i≤4∧s=.int .i64 (i:Int)∧Below Z.heap.size Z wr) (fun s _=>4-(intOf s).toNat)
 case atStart=>exact ⟨0,by omega,rfl,Below.refl _ _⟩
 case round=>
  obtain ⟨i,hi,rfl,hbr⟩:=hrel
  have HBR:=Ω hbr
  obtain ⟨Zr,hZr⟩:∃v,v=wr:=⟨_,rfl⟩
  subst hZr
  clear hbr
  by_cases hlt:i<4
  case neg=>
   have d1:decide ((i:Int)<4)=false:=dF (by omega)
   go_wp2
   go_ret
   exact ⟨rfl,HBW.out.trans (HBR.out.mono HBW.out.size)⟩
  case pos=>
  have d1:decide ((i:Int)<4)=true:=dT (by omega)
  have hi1:(i:Int)<4:=by omega
  have hi0:¬(i:Int)<0:=by omega
  obtain ⟨A1,A2,n1,n2,c1,c2,hlies,hcells⟩:=HALL.out i hlt
  have hlr:=hlies.below HBR.out
  obtain ⟨e,i9,n9,pl,ar,hag⟩:=agree hlr nm
  obtain ⟨x0,x1⟩:=hcells Zr HBR.out
  have HAG:=Ω hag
  clear hlies hcells hlr hag
  go_upto_region 8 with fail
  refine wp_world ?_
  intro V0 hV0
  have hv:Below Zr.heap.size Zr V0:=by rw [←hV0];exact below1 _ _
  have hp:Blk V0 Zr.heap.size 27 #[.slice A1 n1 c1,.slice A2 n2 c2]:=by rw [←hV0];exact Blk.new _ _ _
  obtain ⟨pb,hpb⟩:∃b,Zr.heap.size=b:=⟨_,rfl⟩
  rw [hpb] at hp ⊢
  have HV:=Ω hv;have HP:=Ω hp
  have HPL:Hid (pb<V0.heap.size):=Ω hp.lt
  have p0:=hp.cell 0;have p1:=hp.cell 1
  clear hV0 hv hp hpb x0 x1
  go_upto_region 9 with (go_at_call 13;refine (HAG.out.ck V0 HV.out).mono ?_;rintro r V1 ⟨rfl,hb⟩)
  refine wp_world ?_
  intro V2 hV2
  have hv2:Below V0.heap.size V0 V2:=by rw [←hV2];exact hb.alloc hb.size _
  have ht2:Blk V2 V1.heap.size 33 #[.int .i64 i9,.int .i64 n9]:=by rw [←hV2];exact Blk.new V1 _ _
  obtain ⟨t1,ht1⟩:∃b,V1.heap.size=b:=⟨_,rfl⟩
  rw [ht1] at ht2 ⊢
  have HV2:Hid (Below Zr.heap.size Zr V2):=Ω (HV.out.trans (hv2.mono HV.out.size))
  have HP2:=Ω (HP.out.below hv2 HPL.out);have HT1:=Ω ht2
  have q0:=HP2.out.cell 0;have q1:=HP2.out.cell 1
  clear hV2 hv2 ht2 ht1 hb p0 p1
  go_upto_region 10 with (go_at_call 14;refine (HAG.out.rck V2 HV2.out).mono ?_;rintro r V3 ⟨rfl,hb⟩)
  refine wp_world ?_
  intro V4 hV4
  have hv4:Below V2.heap.size V2 V4:=by rw [←hV4];exact hb.alloc hb.size _
  have ht4:Blk V4 V3.heap.size 33 #[.int .i64 i9,.int .i64 n9]:=by rw [←hV4];exact Blk.new V3 _ _
  obtain ⟨t2,ht2⟩:∃b,V3.heap.size=b:=⟨_,rfl⟩
  rw [ht2] at ht4 ⊢
  have HV4:Hid (Below Zr.heap.size Zr V4):=Ω (HV2.out.trans (hv4.mono HV2.out.size))
  have HP4:=Ω (HP2.out.below hv4 HP2.out.lt);have HT1':=Ω (HT1.out.below hv4 HT1.out.lt);have HT2:=Ω ht4
  clear hV4 hv4 ht4 ht2 hb q0 q1 HP HP2 HT1 HV HV2 HPL
  have SO:Hid (∀X,Below V4.heap.size V4 X→(fun X=>X.cell? ⟨pb,0,none⟩=some (.slice A1 n1 c1)∧X.cell? ⟨pb,1,none⟩=some (.slice A2 n2 c2)∧X.cell? ⟨t1,0,none⟩=some (.int .i64 i9)∧X.cell? ⟨t1,1,none⟩=some (.int .i64 n9)∧X.cell? ⟨t2,0,none⟩=some (.int .i64 i9)∧X.cell? ⟨t2,1,none⟩=some (.int .i64 n9)) X):=Ω (fun X h=>have q1:=HP4.out.below h HP4.out.lt;have q2:=HT1'.out.below h HT1'.out.lt;have q3:=HT2.out.below h HT2.out.lt;⟨q1.cell 0,q1.cell 1,q2.cell 0,q2.cell 1,q3.cell 0,q3.cell 1⟩)
  refine wp_region_G 25 (fun X=>X.cell? ⟨pb,0,none⟩=some (.slice A1 n1 c1)∧X.cell? ⟨pb,1,none⟩=some (.slice A2 n2 c2)∧X.cell? ⟨t1,0,none⟩=some (.int .i64 i9)∧X.cell? ⟨t1,1,none⟩=some (.int .i64 n9)∧X.cell? ⟨t2,0,none⟩=some (.int .i64 i9)∧X.cell? ⟨t2,1,none⟩=some (.int .i64 n9)) (SO.out _ (Below.refl _ _).drew) ?_
  change GL _ _ _ _ _ 25 26 (Array.replicate 26 false) _ _
  have HY0:Hid (Below V4.heap.size V4 V4.drew):=Ω (Below.refl _ _).drew
  obtain ⟨Y0,hY0⟩:∃Y0,V4.drew=Y0:=⟨_,rfl⟩
  rw [hY0] at HY0 ⊢
  clear hY0
  refine gj 0 (.int .i64 e) ?_
  refine gj 1 (.int .i64 e) ?_
  refine gj 2 (.bool false) ?_
  refine gj 3 (.bool false) ?_
  refine gS 4 (.agg #[.int .i64 i9,.int .i64 n9]) [6,7,8,14,17,25] ?_ ?_
  ·intro w2 hSw;obtain ⟨z0,z1,z2,z3,z4,z5⟩:=hSw;go_simp
  refine gS 5 (.agg #[.int .i64 i9,.int .i64 n9]) [6,7,8,14,17,25] ?_ ?_
  ·intro w2 hSw;obtain ⟨z0,z1,z2,z3,z4,z5⟩:=hSw;go_simp
  refine gk 6 (.bool false) ?_ ?_
  ·intro w2;have heq:=eqt i9 n9 w2;go_simp
  refine gj 7 (.bool false) ?_
  refine gj 8 (.bool false) ?_
  refine gS 9 (.agg #[.slice A1 n1 c1,.slice A2 n2 c2]) [11,14,17,25] ?_ ?_
  ·intro w2 hSw;obtain ⟨z0,z1,z2,z3,z4,z5⟩:=hSw;go_simp
  refine gj 10 (.string nm) ?_
  refine gS 12 (.agg #[.slice A1 n1 c1,.slice A2 n2 c2]) [14,17,25] ?_ ?_
  ·intro w2 hSw;obtain ⟨z0,z1,z2,z3,z4,z5⟩:=hSw;go_simp
  refine gj 13 (.string nm) ?_
  refine gO 11 (fun K hK=>?_)
  go_simp
  refine (HAG.out.fpl Y0 (HV4.out.trans (HY0.out.mono HV4.out.size))).mono ?_
  rintro r Y1 ⟨rfl,hb⟩
  have HY1:=Ω (HY0.out.trans (hb.mono HY0.out.size))
  clear hb
  refine hK.out _ _ (SO.out _ HY1.out) ?_
  clear hK K
  try simp only [sG]
  refine gO 14 (fun K hK=>?_)
  go_simp
  refine (HAG.out.frpl Y1 (HV4.out.trans (HY1.out.mono HV4.out.size))).mono ?_
  rintro r Y2 ⟨rfl,hb⟩
  have HY2:=Ω (HY1.out.trans (hb.mono HY1.out.size))
  clear hb
  refine hK.out _ _ (SO.out _ HY2.out) ?_
  clear hK K
  try simp only [sG]
  refine gj 15 (.bool false) ?_
  refine gj 16 (.bool false) ?_
  refine gj 17 (.bool false) ?_
  refine gS 18 (.agg #[.slice A1 n1 c1,.slice A2 n2 c2]) [20,24,25] ?_ ?_
  ·intro w2 hSw;obtain ⟨z0,z1,z2,z3,z4,z5⟩:=hSw;go_simp
  refine gj 19 (.string nm) ?_
  refine gS 21 (.agg #[.slice A1 n1 c1,.slice A2 n2 c2]) [23,24,25] ?_ ?_
  ·intro w2 hSw;obtain ⟨z0,z1,z2,z3,z4,z5⟩:=hSw;go_simp
  refine gj 22 (.string nm) ?_
  refine gO 20 (fun K hK=>?_)
  go_simp
  refine (HAG.out.far_ Y2 (HV4.out.trans (HY2.out.mono HV4.out.size))).mono ?_
  rintro r Y3 ⟨rfl,hb⟩
  have HY3:=Ω (HY2.out.trans (hb.mono HY2.out.size))
  clear hb
  refine hK.out _ _ (SO.out _ HY3.out) ?_
  clear hK K
  try simp only [sG]
  refine gO 23 (fun K hK=>?_)
  go_simp
  refine (HAG.out.frar Y3 (HV4.out.trans (HY3.out.mono HV4.out.size))).mono ?_
  rintro r Y4 ⟨rfl,hb⟩
  have HY4:=Ω (HY3.out.trans (hb.mono HY3.out.size))
  clear hb
  refine hK.out _ _ (SO.out _ HY4.out) ?_
  clear hK K
  try simp only [sG]
  refine gj 24 (.bool false) ?_
  refine gL (fun K hK=>?_)
  go_simp
  refine hK.out _ _ ?_
  clear hK K
  try simp only [sG]
  go_wp2
  go_roundw
  case rel=>exact ⟨i+1,by omega,by go_num,HBR.out.trans ((HV4.out.trans (HY4.out.mono HV4.out.size)).mono HBR.out.size)⟩
  case measure=>simp [intOf];omega
end
end Go.Proofs.YtmignlclfbaifaaGreat
